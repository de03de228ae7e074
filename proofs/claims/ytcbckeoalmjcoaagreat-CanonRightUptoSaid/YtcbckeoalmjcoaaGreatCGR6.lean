/- Joined texts: Cmds, Batch, Sorted. -/
import Derived.Test.YtcbckeoalmjcoaaGreatCGR4
import Derived.Test.YtcbckeoalmjcoaaGreatCGR5
/- Commands: whether one may be, and the reference's answer. -/
set_option linter.unusedVariables false
set_option linter.unusedSimpArgs false
namespace Go.Proofs.YtcbckeoalmjcoaaGreat
open Go.RowKit Go.Cw Go.Fl
/-- A kind's number, 4 just at +0. -/
def KindR (b : Nat) (w : World) (e : Ending) (w' : World) : Prop := ∃ k : Int, e = .returned (.int .i64 k) ∧ ((k == 4) = decide (b = 0)) ∧ w = w'
theorem negBig (w : World) : (Op.unary .neg (.float .f64 9218868437227405311)).run Tryz.prog w = .ok (.float .f64 18442240474082181119) w := by kernel_rfl
set_option maxRecDepth 100000 in
set_option maxHeartbeats 1600000 in
theorem refKind_any (b : Nat) (hb : b < 18446744073709551616) (w : World) : Calls Tryz.prog 105 #[.float .f64 b] w (KindR b w) := by
  have hn := nan_any b w
  rw [nan_eq hb] at hn
  cases eb : isNan b with
  | true =>
    have h0 : Hid (((0 : Int) == 4) = decide (b = 0)) := Lib.hid (by
      rw [decide_eq_false]; rfl
      rintro rfl
      exact absurd eb (by decide))
    rw [eb] at hn
    clear eb hb
    go_enter Tryz.func105, Tryz.ntmps105
    go_wp2_with fail
    refine hn.mono ?_
    rintro e w1 ⟨rfl, rfl⟩
    go_wp2_with fail
    go_ret
    exact ⟨0, rfl, h0.out, rfl⟩
  | false =>
    rw [eb] at hn
    have hb0 := eqB hb (show 0 < 18446744073709551616 by decide)
    have n0 : isNan 0 = false := by decide
    have r0 : rung 0 = 0 := by decide
    rw [eb, n0, r0] at hb0
    by_cases zb : rung b = 0
    · rcases zero_words hb zb with rfl | rfl
      · clear eb hb0 n0 r0 zb hb
        have h1 := @run_fdiv Tryz.prog 112 _ _ _ div_p0
        have h7 := z_pp
        have h8 := inf_lt0
        go_enter Tryz.func105, Tryz.ntmps105
        go_wp2_with fail
        refine hn.mono ?_
        rintro e w1 ⟨rfl, rfl⟩
        go_wp2_with fail
        go_ret
        exact ⟨4, rfl, rfl, rfl⟩
      · clear eb hb0 n0 r0 zb hb
        have h1 := @run_fdiv Tryz.prog 112 _ _ _ div_n0
        have h7 := z_np
        have h8 := ninf_lt0
        go_enter Tryz.func105, Tryz.ntmps105
        go_wp2_with fail
        refine hn.mono ?_
        rintro e w1 ⟨rfl, rfl⟩
        go_wp2_with fail
        go_ret
        exact ⟨3, rfl, rfl, rfl⟩
    · have hz : ¬ b = 0 := by rintro rfl; exact zb r0
      have e2 : (FloatKind.f64.format.order b 0 == some Ordering.eq) = false := by rw [hb0]; simp [zb, hz]
      have hd := Lib.hid (decide_eq_false hz)
      have hng := negBig
      clear eb hb0 n0 r0 zb hb hz
      cases e3 : (FloatKind.f64.format.order b 0 == some Ordering.lt) with
      | true =>
        cases e4 : (FloatKind.f64.format.order b 18442240474082181119 == some Ordering.lt) with
        | true =>
          go_enter Tryz.func105, Tryz.ntmps105
          go_wp2_with fail
          refine hn.mono ?_
          rintro e w1 ⟨rfl, rfl⟩
          go_wp2_with fail
          refine (big_any _).mono ?_
          rintro e w1 ⟨rfl, rfl⟩
          go_wp2_with fail
          go_ret
          exact ⟨1, rfl, by rw [hd.out]; rfl, rfl⟩
        | false =>
          go_enter Tryz.func105, Tryz.ntmps105
          go_wp2_with fail
          refine hn.mono ?_
          rintro e w1 ⟨rfl, rfl⟩
          go_wp2_with fail
          refine (big_any _).mono ?_
          rintro e w1 ⟨rfl, rfl⟩
          go_wp2_with fail
          go_ret
          exact ⟨2, rfl, by rw [hd.out]; rfl, rfl⟩
      | false =>
        cases e4 : (FloatKind.f64.format.order b 9218868437227405311 == some Ordering.gt) with
        | true =>
          go_enter Tryz.func105, Tryz.ntmps105
          go_wp2_with fail
          refine hn.mono ?_
          rintro e w1 ⟨rfl, rfl⟩
          go_wp2_with fail
          refine (big_any _).mono ?_
          rintro e w1 ⟨rfl, rfl⟩
          go_wp2_with fail
          go_ret
          exact ⟨6, rfl, by rw [hd.out]; rfl, rfl⟩
        | false =>
          go_enter Tryz.func105, Tryz.ntmps105
          go_wp2_with fail
          refine hn.mono ?_
          rintro e w1 ⟨rfl, rfl⟩
          go_wp2_with fail
          refine (big_any _).mono ?_
          rintro e w1 ⟨rfl, rfl⟩
          go_wp2_with fail
          go_ret
          exact ⟨5, rfl, by rw [hd.out]; rfl, rfl⟩
theorem run_store_float (P : Program) (w : World) (a : Addr) (m : Mode) (k : FloatKind) (b : Nat) : (store a (.float k b) m).run P w = stored P w a (.float k b) m := run_store P w a _ m rfl
/-- A command: its kind, its key, its number. -/
abbrev Cm := Int × ByteArray × Nat
abbrev cmV (c : Cm) : Value := .agg #[.int .i64 c.1, .string c.2.1, .float .f64 c.2.2]
def cmc (c : Cm) : List Value := [.int .i64 c.1, .string c.2.1, .float .f64 c.2.2]
def cml (l : List Cm) : List Value := l.flatMap cmc
theorem cml_len (l : List Cm) : (cml l).length = l.length * 3 := flat_len cmc 3 (fun _ => rfl) l
theorem cml_get (l : List Cm) (k : Nat) (h : k < l.length) : (cml l)[k * 3]? = some (.int .i64 l[k].1) ∧ (cml l)[k * 3 + 1]? = some (.string l[k].2.1) ∧ (cml l)[k * 3 + 2]? = some (.float .f64 l[k].2.2) := by
  have := fun i hi => flat_get cmc 3 (fun _ => rfl) l k i h hi
  exact ⟨this 0 (by omega), this 1 (by omega), this 2 (by omega)⟩
theorem cml_one (l : List Cm) : ∀ u ∈ cml l, u.oneCell' = true := by
  intro u hu
  obtain ⟨c, _, hu⟩ := List.mem_flatMap.1 hu
  simp only [cmc, List.mem_cons, List.not_mem_nil, or_false] at hu
  rcases hu with rfl | rfl | rfl <;> rfl
/-- A command's parts are such as Go has. -/
def CmW (c : Cm) : Prop := c.2.1.size ≤ 9223372036854775807 ∧ c.2.2 < 18446744073709551616
/-- A command may be. -/
def cmOk (c : Cm) : Bool := keyOk c.2.1 && ((decide (c.1 = 2) || decide (c.1 = 4)) || ((decide (c.1 = 1) || decide (c.1 = 3)) && decide (c.2.2 = 0)))
def errB (b : Bool) (n : Int) : Int := if b then 0 else n
set_option maxRecDepth 100000 in
set_option maxHeartbeats 3200000 in
theorem check_any (c : Cm) (hc : CmW c) (w : World) : Calls Tryz.prog 106 #[cmV c] w fun e w' => e = .returned (.int .i64 (errB (cmOk c) 12)) ∧ Below w.heap.size w w' := by
  obtain ⟨k, s, n⟩ := c
  obtain ⟨hs, _⟩ := hc
  simp only at hs
  obtain ⟨H1, l1, h1, y⟩ := (St.start w).box #[.int .i64 k, .string s, .float .f64 n] 114
  have en1 := (Env.refl w).alloc (.cells #[.int .i64 k, .string s, .float .f64 n] 114)
  have y0 := y 0 _ rfl
  have y1 := y 1 _ rfl
  have y2 := y 2 _ rfl
  clear y
  replace hs := hs
  by_cases hk4 : 1 ≤ k ∧ k ≤ 4
  · have h4 : k = 1 ∨ k = 2 ∨ k = 3 ∨ k = 4 := by omega
    clear hk4
    rcases h4 with rfl | rfl | rfl | rfl
    · have hW := word_any 1
      rw [show wordOf 1 = ⟨#[103, 101, 116]⟩ from rfl] at hW
      replace hW := Lib.hid hW
      cases hk : keyOk s with
      | false =>
        have hR : errB (cmOk (1, s, n)) 12 = 12 := by unfold cmOk; rw [hk]; rfl
        rw [hR]
        clear hR
        have hK := key_any s
        rw [hk] at hK
        replace hK := Lib.hid hK
        clear hk
        go_enter Tryz.func106, Tryz.ntmps106
        go_wp2_with fail
        refine (hW.out _).mono ?_
        rintro e w2 ⟨rfl, hb2⟩
        have h2 := h1.below hb2
        have x1 := h2.cell y1
        have xl := World.block_lt_of_cell? _ _ x1
        have en2 := en1.trans (bel_env hb2)
        go_wp2_with fail
        refine (hK.out _ hs).mono ?_
        rintro e w3 ⟨rfl, hb3⟩
        go_wp2_with fail
        go_ret
        exact ⟨rfl, ((h2.below hb3).weaken l1).toBelow (en2.trans (bel_env hb3))⟩
      | true =>
        have hK := key_any s
        have hR : Hid (errB (cmOk (1, s, n)) 12 = errB (decide (n = 0)) 12) := Lib.hid (by unfold cmOk; rw [hk]; simp)
        rw [hk] at hK
        replace hK := Lib.hid hK
        clear hk
        cases hn : decide (n = 0) with
        | true =>
          rw [hR.out, hn]
          have hP := plus_any n
          rw [hn] at hP
          replace hP := Lib.hid hP
          clear hn
          go_enter Tryz.func106, Tryz.ntmps106
          go_wp2_with fail
          refine (hW.out _).mono ?_
          rintro e w2 ⟨rfl, hb2⟩
          have h2 := h1.below hb2
          have x1 := h2.cell y1
          have xl := World.block_lt_of_cell? _ _ x1
          have en2 := en1.trans (bel_env hb2)
          go_wp2_with fail
          refine (hK.out _ hs).mono ?_
          rintro e w3 ⟨rfl, hb3⟩
          have h3 := h2.below hb3
          clear x1 xl
          have x0 := h3.cell y0
          have x2 := h3.cell y2
          have xl := World.block_lt_of_cell? _ _ x0
          go_wp2_with fail
          refine (hP.out _).mono ?_
          rintro e w4 ⟨rfl, rfl⟩
          go_wp2_with fail
          go_ret
          exact ⟨rfl, (h3.weaken l1).toBelow (en2.trans (bel_env hb3))⟩
        | false =>
          rw [hR.out, hn]
          have hP := plus_any n
          rw [hn] at hP
          replace hP := Lib.hid hP
          clear hn
          go_enter Tryz.func106, Tryz.ntmps106
          go_wp2_with fail
          refine (hW.out _).mono ?_
          rintro e w2 ⟨rfl, hb2⟩
          have h2 := h1.below hb2
          have x1 := h2.cell y1
          have xl := World.block_lt_of_cell? _ _ x1
          have en2 := en1.trans (bel_env hb2)
          go_wp2_with fail
          refine (hK.out _ hs).mono ?_
          rintro e w3 ⟨rfl, hb3⟩
          have h3 := h2.below hb3
          clear x1 xl
          have x0 := h3.cell y0
          have x2 := h3.cell y2
          have xl := World.block_lt_of_cell? _ _ x0
          go_wp2_with fail
          refine (hP.out _).mono ?_
          rintro e w4 ⟨rfl, rfl⟩
          go_wp2_with fail
          go_ret
          exact ⟨rfl, (h3.weaken l1).toBelow (en2.trans (bel_env hb3))⟩
    · have hW := word_any 2
      rw [show wordOf 2 = ⟨#[112, 117, 116]⟩ from rfl] at hW
      replace hW := Lib.hid hW
      cases hk : keyOk s with
      | false =>
        have hR : errB (cmOk (2, s, n)) 12 = 12 := by unfold cmOk; rw [hk]; rfl
        rw [hR]
        clear hR
        have hK := key_any s
        rw [hk] at hK
        replace hK := Lib.hid hK
        clear hk
        go_enter Tryz.func106, Tryz.ntmps106
        go_wp2_with fail
        refine (hW.out _).mono ?_
        rintro e w2 ⟨rfl, hb2⟩
        have h2 := h1.below hb2
        have x1 := h2.cell y1
        have xl := World.block_lt_of_cell? _ _ x1
        have en2 := en1.trans (bel_env hb2)
        go_wp2_with fail
        refine (hK.out _ hs).mono ?_
        rintro e w3 ⟨rfl, hb3⟩
        go_wp2_with fail
        go_ret
        exact ⟨rfl, ((h2.below hb3).weaken l1).toBelow (en2.trans (bel_env hb3))⟩
      | true =>
        have hR : errB (cmOk (2, s, n)) 12 = 0 := by unfold cmOk; rw [hk]; rfl
        rw [hR]
        clear hR
        have hK := key_any s
        rw [hk] at hK
        replace hK := Lib.hid hK
        clear hk
        go_enter Tryz.func106, Tryz.ntmps106
        go_wp2_with fail
        refine (hW.out _).mono ?_
        rintro e w2 ⟨rfl, hb2⟩
        have h2 := h1.below hb2
        have x1 := h2.cell y1
        have xl := World.block_lt_of_cell? _ _ x1
        have en2 := en1.trans (bel_env hb2)
        go_wp2_with fail
        refine (hK.out _ hs).mono ?_
        rintro e w3 ⟨rfl, hb3⟩
        have h3 := h2.below hb3
        clear x1 xl
        have x0 := h3.cell y0
        have xl := World.block_lt_of_cell? _ _ x0
        go_wp2_with fail
        go_ret
        exact ⟨rfl, (h3.weaken l1).toBelow (en2.trans (bel_env hb3))⟩
    · have hW := word_any 3
      rw [show wordOf 3 = ⟨#[100, 101, 108]⟩ from rfl] at hW
      replace hW := Lib.hid hW
      cases hk : keyOk s with
      | false =>
        have hR : errB (cmOk (3, s, n)) 12 = 12 := by unfold cmOk; rw [hk]; rfl
        rw [hR]
        clear hR
        have hK := key_any s
        rw [hk] at hK
        replace hK := Lib.hid hK
        clear hk
        go_enter Tryz.func106, Tryz.ntmps106
        go_wp2_with fail
        refine (hW.out _).mono ?_
        rintro e w2 ⟨rfl, hb2⟩
        have h2 := h1.below hb2
        have x1 := h2.cell y1
        have xl := World.block_lt_of_cell? _ _ x1
        have en2 := en1.trans (bel_env hb2)
        go_wp2_with fail
        refine (hK.out _ hs).mono ?_
        rintro e w3 ⟨rfl, hb3⟩
        go_wp2_with fail
        go_ret
        exact ⟨rfl, ((h2.below hb3).weaken l1).toBelow (en2.trans (bel_env hb3))⟩
      | true =>
        have hK := key_any s
        have hR : Hid (errB (cmOk (3, s, n)) 12 = errB (decide (n = 0)) 12) := Lib.hid (by unfold cmOk; rw [hk]; simp)
        rw [hk] at hK
        replace hK := Lib.hid hK
        clear hk
        cases hn : decide (n = 0) with
        | true =>
          rw [hR.out, hn]
          have hP := plus_any n
          rw [hn] at hP
          replace hP := Lib.hid hP
          clear hn
          go_enter Tryz.func106, Tryz.ntmps106
          go_wp2_with fail
          refine (hW.out _).mono ?_
          rintro e w2 ⟨rfl, hb2⟩
          have h2 := h1.below hb2
          have x1 := h2.cell y1
          have xl := World.block_lt_of_cell? _ _ x1
          have en2 := en1.trans (bel_env hb2)
          go_wp2_with fail
          refine (hK.out _ hs).mono ?_
          rintro e w3 ⟨rfl, hb3⟩
          have h3 := h2.below hb3
          clear x1 xl
          have x0 := h3.cell y0
          have x2 := h3.cell y2
          have xl := World.block_lt_of_cell? _ _ x0
          go_wp2_with fail
          refine (hP.out _).mono ?_
          rintro e w4 ⟨rfl, rfl⟩
          go_wp2_with fail
          go_ret
          exact ⟨rfl, (h3.weaken l1).toBelow (en2.trans (bel_env hb3))⟩
        | false =>
          rw [hR.out, hn]
          have hP := plus_any n
          rw [hn] at hP
          replace hP := Lib.hid hP
          clear hn
          go_enter Tryz.func106, Tryz.ntmps106
          go_wp2_with fail
          refine (hW.out _).mono ?_
          rintro e w2 ⟨rfl, hb2⟩
          have h2 := h1.below hb2
          have x1 := h2.cell y1
          have xl := World.block_lt_of_cell? _ _ x1
          have en2 := en1.trans (bel_env hb2)
          go_wp2_with fail
          refine (hK.out _ hs).mono ?_
          rintro e w3 ⟨rfl, hb3⟩
          have h3 := h2.below hb3
          clear x1 xl
          have x0 := h3.cell y0
          have x2 := h3.cell y2
          have xl := World.block_lt_of_cell? _ _ x0
          go_wp2_with fail
          refine (hP.out _).mono ?_
          rintro e w4 ⟨rfl, rfl⟩
          go_wp2_with fail
          go_ret
          exact ⟨rfl, (h3.weaken l1).toBelow (en2.trans (bel_env hb3))⟩
    · have hW := word_any 4
      rw [show wordOf 4 = ⟨#[97, 100, 100]⟩ from rfl] at hW
      replace hW := Lib.hid hW
      cases hk : keyOk s with
      | false =>
        have hR : errB (cmOk (4, s, n)) 12 = 12 := by unfold cmOk; rw [hk]; rfl
        rw [hR]
        clear hR
        have hK := key_any s
        rw [hk] at hK
        replace hK := Lib.hid hK
        clear hk
        go_enter Tryz.func106, Tryz.ntmps106
        go_wp2_with fail
        refine (hW.out _).mono ?_
        rintro e w2 ⟨rfl, hb2⟩
        have h2 := h1.below hb2
        have x1 := h2.cell y1
        have xl := World.block_lt_of_cell? _ _ x1
        have en2 := en1.trans (bel_env hb2)
        go_wp2_with fail
        refine (hK.out _ hs).mono ?_
        rintro e w3 ⟨rfl, hb3⟩
        go_wp2_with fail
        go_ret
        exact ⟨rfl, ((h2.below hb3).weaken l1).toBelow (en2.trans (bel_env hb3))⟩
      | true =>
        have hR : errB (cmOk (4, s, n)) 12 = 0 := by unfold cmOk; rw [hk]; rfl
        rw [hR]
        clear hR
        have hK := key_any s
        rw [hk] at hK
        replace hK := Lib.hid hK
        clear hk
        go_enter Tryz.func106, Tryz.ntmps106
        go_wp2_with fail
        refine (hW.out _).mono ?_
        rintro e w2 ⟨rfl, hb2⟩
        have h2 := h1.below hb2
        have x1 := h2.cell y1
        have xl := World.block_lt_of_cell? _ _ x1
        have en2 := en1.trans (bel_env hb2)
        go_wp2_with fail
        refine (hK.out _ hs).mono ?_
        rintro e w3 ⟨rfl, hb3⟩
        have h3 := h2.below hb3
        clear x1 xl
        have x0 := h3.cell y0
        have xl := World.block_lt_of_cell? _ _ x0
        go_wp2_with fail
        go_ret
        exact ⟨rfl, (h3.weaken l1).toBelow (en2.trans (bel_env hb3))⟩
  · have hW := word_any k
    have hw0 : wordOf k = ⟨#[]⟩ := by unfold wordOf; rw [if_neg (by omega), if_neg (by omega), if_neg (by omega), if_neg (by omega)]
    rw [hw0] at hW
    replace hW := Lib.hid hW
    have hR : Hid (errB (cmOk (k, s, n)) 12 = 12) := Lib.hid (by
      unfold cmOk
      rw [decide_eq_false (p := k = 2) (by omega), decide_eq_false (p := k = 4) (by omega), decide_eq_false (p := k = 1) (by omega), decide_eq_false (p := k = 3) (by omega)]
      simp [errB])
    rw [hR.out]
    clear hw0 hk4
    go_enter Tryz.func106, Tryz.ntmps106
    go_wp2_with fail
    refine (hW.out _).mono ?_
    rintro e w2 ⟨rfl, hb2⟩
    go_wp2_with fail
    go_ret
    exact ⟨rfl, ((h1.below hb2).weaken l1).toBelow (en1.trans (bel_env hb2))⟩
set_option maxRecDepth 100000 in
set_option maxHeartbeats 3200000 in
theorem right6_any (c : Cm) (hc : CmW c) (w : World) : Calls Tryz.prog 85 #[cmV c] w fun e w' => e = .returned (.bool (cmOk c)) ∧ Below w.heap.size w w' := by
  obtain ⟨k, s, n⟩ := c
  obtain ⟨hs, hn64⟩ := hc
  simp only at hs hn64
  obtain ⟨H1, l1, h1, y⟩ := (St.start w).box #[.int .i64 k, .string s, .float .f64 n] 114
  have en1 := (Env.refl w).alloc (.cells #[.int .i64 k, .string s, .float .f64 n] 114)
  clear y
  have bel := (h1.weaken l1).toBelow en1
  have hK := refKey_any s (w.alloc (.cells #[.int .i64 k, .string s, .float .f64 n] 114)) hs
  have hN := refKind_any n hn64 (w.alloc (.cells #[.int .i64 k, .string s, .float .f64 n] 114))
  cases hk : keyOk s with
  | false =>
    have hR : cmOk (k, s, n) = false := by unfold cmOk; rw [hk]; rfl
    rw [hR]
    rw [hk] at hK
    clear hR hk
    go_enter Tryz.func85, Tryz.ntmps85
    go_wp2_with fail
    refine hK.mono ?_
    rintro e w1 ⟨rfl, rfl⟩
    go_wp2_with fail
    go_ret
    exact ⟨rfl, bel⟩
  | true =>
    have hR : Hid (cmOk (k, s, n) = ((decide (k = 2) || decide (k = 4)) || ((decide (k = 1) || decide (k = 3)) && decide (n = 0)))) := Lib.hid (by unfold cmOk; rw [hk]; rfl)
    rw [hk] at hK
    clear hk
    by_cases k2 : k = 2
    · subst k2
      go_enter Tryz.func85, Tryz.ntmps85
      go_wp2_with fail
      refine hK.mono ?_
      rintro e w1 ⟨rfl, rfl⟩
      go_wp2_with fail
      go_ret
      exact ⟨rb (by rw [hR.out]; rfl), bel⟩
    · have b2 : (k == 2) = false := beq_eq_false_iff_ne.2 k2
      by_cases k4 : k = 4
      · subst k4
        go_enter Tryz.func85, Tryz.ntmps85
        go_wp2_with fail
        refine hK.mono ?_
        rintro e w1 ⟨rfl, rfl⟩
        go_wp2_with fail
        go_ret
        exact ⟨rb (by rw [hR.out]; rfl), bel⟩
      · have b4 : (k == 4) = false := beq_eq_false_iff_ne.2 k4
        by_cases k1 : k = 1
        · subst k1
          clear k2 k4
          go_enter Tryz.func85, Tryz.ntmps85
          go_wp2_with fail
          refine hK.mono ?_
          rintro e w1 ⟨rfl, rfl⟩
          go_wp2_with fail
          refine hN.mono ?_
          rintro e w1 ⟨j, rfl, hj, rfl⟩
          replace hj := Lib.hid hj
          go_wp2_with fail
          go_ret
          exact ⟨rb (by rw [hR.out, hj.out]; simp), bel⟩
        · have b1 : (k == 1) = false := beq_eq_false_iff_ne.2 k1
          by_cases k3 : k = 3
          · subst k3
            clear k2 k4 k1
            go_enter Tryz.func85, Tryz.ntmps85
            go_wp2_with fail
            refine hK.mono ?_
            rintro e w1 ⟨rfl, rfl⟩
            go_wp2_with fail
            refine hN.mono ?_
            rintro e w1 ⟨j, rfl, hj, rfl⟩
            replace hj := Lib.hid hj
            go_wp2_with fail
            go_ret
            exact ⟨rb (by rw [hR.out, hj.out]; simp), bel⟩
          · have b3 : (k == 3) = false := beq_eq_false_iff_ne.2 k3
            have hR2 : Hid (cmOk (k, s, n) = false) := Lib.hid (by rw [hR.out]; simp [k1, k2, k3, k4])
            clear k2 k4 k1 k3
            go_enter Tryz.func85, Tryz.ntmps85
            go_wp2_with fail
            refine hK.mono ?_
            rintro e w1 ⟨rfl, rfl⟩
            go_wp2_with fail
            go_ret
            exact ⟨rb hR2.out.symm, bel⟩
theorem ba_ext {s t : ByteArray} (h : s.toList = t.toList) : s = t := by
  rw [ByteArray.toList_eq, ByteArray.toList_eq] at h
  cases s
  cases t
  congr
  exact Array.toList_inj.1 h
/-- Two commands are the same. -/
def cmSame (a b : Cm) : Bool := decide (a.1 = b.1) && (decide (a.2.1 = b.2.1) && decide (bitsOf a.2.2 = bitsOf b.2.2))
end Go.Proofs.YtcbckeoalmjcoaaGreat

/- Batches: whether one may be; whether two are the same. -/
set_option linter.unusedVariables false
set_option linter.unusedSimpArgs false
namespace Go.Proofs.YtcbckeoalmjcoaaGreat
open Go.RowKit Go.Cw Go.Fl
attribute [local go_sem] run_store_float
def batchErr (l : List Cm) : Int := if 8 < l.length then 5 else errB (l.all cmOk) 12
theorem all_stepC {k : Nat} (l : List Cm) (h : k < l.length) : (l.drop k).all cmOk = (cmOk l[k] && (l.drop (k + 1)).all cmOk) := by
  rw [List.drop_eq_getElem_cons h, List.all_cons]
set_option maxRecDepth 100000 in
set_option maxHeartbeats 1600000 in
theorem batchCheck_any (A : Option Addr) (n c : Nat) (l : List Cm) (hw : ∀ x ∈ l, CmW x) (w : World) (hx : Rw w 3 (.slice A n c) (cml l)) :
    Calls Tryz.prog 87 #[.slice A n c] w fun e w' => e = .returned (.int .i64 (batchErr l)) ∧ Below w.heap.size w w' := by
  obtain ⟨A', n', c', hv, hl, hnc, hcM⟩ := hx.form
  cases hv
  rw [cml_len] at hl
  obtain rfl : n = l.length := by omega
  clear hl
  by_cases h8 : 8 < l.length
  · have hR : batchErr l = 5 := if_pos h8
    rw [hR]
    have h8I : (8 : Int) < (l.length : Int) := by omega
    clear hR
    go_enter Tryz.func87, Tryz.ntmps87
    go_wp2_with fail
    go_ret
    exact ⟨rfl, Below.refl _ _⟩
  · have hR : batchErr l = errB (l.all cmOk) 12 := if_neg h8
    rw [hR]
    have h8I : ¬ (8 : Int) < (l.length : Int) := by omega
    clear hR
    have hrd := hx.rd
    generalize hG : l.all cmOk = G at *
    replace hG := Lib.hid hG
    go_enter Tryz.func87, Tryz.ntmps87
    go_wp2_with fail
    go_loopw [11] (fun s11 wr => ∃ k : Nat, k ≤ l.length ∧ s11 = .int .i64 (k : Int) ∧ St (snap w) [] wr ∧ Env w wr ∧ Hid ((l.drop k).all cmOk = G)) (fun s11 _ => l.length - (intOf s11).toNat)
    case atStart => exact ⟨0, by omega, rfl, St.start w, Env.refl w, hG⟩
    case round =>
      obtain ⟨k, hk, rfl, hst, hen, hall⟩ := hrel
      clear hG
      by_cases hlt : k < l.length
      · obtain ⟨b, off, rfl, hcells⟩ := hrd.cells hst (by omega)
        have q0 := hcells _ _ (cml_get l k hlt).1
        have q1 := hcells _ _ (cml_get l k hlt).2.1
        have q2 := hcells _ _ (cml_get l k hlt).2.2
        rw [← Nat.add_assoc] at q1 q2
        have hc := hw _ (List.getElem_mem hlt)
        have hstep := all_stepC l hlt
        rw [hall.out] at hstep
        obtain ⟨x, HX⟩ : ∃ x, Hid (x = l[k]) := ⟨_, Lib.hid rfl⟩
        rw [← HX.out] at q0 q1 q2 hc hstep
        obtain ⟨kk, s, f⟩ := x
        simp only at q0 q1 q2
        have hst1 := hst.alloc (.cells #[.int .i64 kk, .string s, .float .f64 f] 114)
        have en1 := hen.alloc (.cells #[.int .i64 kk, .string s, .float .f64 f] 114)
        have hck := fun w => check_any (kk, s, f) hc w
        cases hok : cmOk (kk, s, f) with
        | true =>
          rw [hok] at hck hstep
          replace hck := Lib.hid hck
          replace hstep := Lib.hid hstep
          clear hcells hok
          go_wp2_with fail
          refine (hck.out _).mono ?_
          rintro e w2 ⟨rfl, hb2⟩
          rw [show errB true 12 = 0 from rfl]
          go_wp2_with fail
          go_roundw
          case rel => exact ⟨k + 1, by omega, by go_num, hst1.below hb2, en1.trans (bel_env hb2), Lib.hid (by have := hstep.out; rw [Bool.true_and] at this; exact this.symm)⟩
          case measure => simp [intOf]; omega
        | false =>
          rw [hok] at hck hstep
          replace hck := Lib.hid hck
          rw [Bool.false_and] at hstep
          subst hstep
          clear hcells hok
          go_wp2_with fail
          refine (hck.out _).mono ?_
          rintro e w2 ⟨rfl, hb2⟩
          rw [show errB false 12 = 12 from rfl]
          go_wp2_with fail
          go_ret
          exact ⟨rfl, (hst1.below hb2).toBelow (en1.trans (bel_env hb2))⟩
      · obtain rfl : k = l.length := by omega
        have hG2 := hall.out
        rw [List.drop_length] at hG2
        simp only [List.all_nil] at hG2
        subst hG2
        clear hall
        go_wp2_with fail
        go_ret
        exact ⟨rfl, hst.toBelow hen⟩
set_option maxRecDepth 100000 in
set_option maxHeartbeats 1600000 in
theorem refBatch_any (A : Option Addr) (n c : Nat) (l : List Cm) (hw : ∀ x ∈ l, CmW x) (w : World) (hx : Rw w 3 (.slice A n c) (cml l)) :
    Calls Tryz.prog 65 #[.slice A n c] w fun e w' => e = .returned (.int .i64 (batchErr l)) ∧ Below w.heap.size w w' := by
  obtain ⟨A', n', c', hv, hl, hnc, hcM⟩ := hx.form
  cases hv
  rw [cml_len] at hl
  obtain rfl : n = l.length := by omega
  clear hl
  by_cases h8 : 8 < l.length
  · have hR : batchErr l = 5 := if_pos h8
    rw [hR]
    have h8I : (8 : Int) < (l.length : Int) := by omega
    clear hR
    go_enter Tryz.func65, Tryz.ntmps65
    go_wp2_with fail
    go_ret
    exact ⟨rfl, Below.refl _ _⟩
  · have hR : batchErr l = errB (l.all cmOk) 12 := if_neg h8
    rw [hR]
    have h8I : ¬ (8 : Int) < (l.length : Int) := by omega
    clear hR
    have hrd := hx.rd
    generalize hG : l.all cmOk = G at *
    replace hG := Lib.hid hG
    go_enter Tryz.func65, Tryz.ntmps65
    go_wp2_with fail
    go_loopw [3] (fun s11 wr => ∃ k : Nat, k ≤ l.length ∧ s11 = .int .i64 (k : Int) ∧ St (snap w) [] wr ∧ Env w wr ∧ Hid ((l.drop k).all cmOk = G)) (fun s11 _ => l.length - (intOf s11).toNat)
    case atStart => exact ⟨0, by omega, rfl, St.start w, Env.refl w, hG⟩
    case round =>
      obtain ⟨k, hk, rfl, hst, hen, hall⟩ := hrel
      clear hG
      by_cases hlt : k < l.length
      · obtain ⟨b, off, rfl, hcells⟩ := hrd.cells hst (by omega)
        have q0 := hcells _ _ (cml_get l k hlt).1
        have q1 := hcells _ _ (cml_get l k hlt).2.1
        have q2 := hcells _ _ (cml_get l k hlt).2.2
        rw [← Nat.add_assoc] at q1 q2
        have hc := hw _ (List.getElem_mem hlt)
        have hstep := all_stepC l hlt
        rw [hall.out] at hstep
        obtain ⟨x, HX⟩ : ∃ x, Hid (x = l[k]) := ⟨_, Lib.hid rfl⟩
        rw [← HX.out] at q0 q1 q2 hc hstep
        obtain ⟨kk, s, f⟩ := x
        simp only at q0 q1 q2
        have hck := fun w => right6_any (kk, s, f) hc w
        cases hok : cmOk (kk, s, f) with
        | true =>
          rw [hok] at hck hstep
          replace hck := Lib.hid hck
          replace hstep := Lib.hid hstep
          clear hcells hok
          go_wp2_with fail
          refine (hck.out _).mono ?_
          rintro e w2 ⟨rfl, hb2⟩
          go_wp2_with fail
          go_roundw
          case rel => exact ⟨k + 1, by omega, by go_num, hst.below hb2, hen.trans (bel_env hb2), Lib.hid (by have := hstep.out; rw [Bool.true_and] at this; exact this.symm)⟩
          case measure => simp [intOf]; omega
        | false =>
          rw [hok] at hck hstep
          replace hck := Lib.hid hck
          rw [Bool.false_and] at hstep
          subst hstep
          clear hcells hok
          go_wp2_with fail
          refine (hck.out _).mono ?_
          rintro e w2 ⟨rfl, hb2⟩
          go_wp2_with fail
          go_ret
          exact ⟨rfl, (hst.below hb2).toBelow (hen.trans (bel_env hb2))⟩
      · obtain rfl : k = l.length := by omega
        have hG2 := hall.out
        rw [List.drop_length] at hG2
        simp only [List.all_nil] at hG2
        subst hG2
        clear hall
        go_wp2_with fail
        go_ret
        exact ⟨rfl, hst.toBelow hen⟩
def cmdsSame (a b : List Cm) : Bool := decide (a.length = b.length) && (a.zip b).all (fun p => cmSame p.1 p.2)
theorem zip_step (a b : List Cm) (k : Nat) (h : k < a.length) (h2 : k < b.length) : ((a.drop k).zip (b.drop k)).all (fun p => cmSame p.1 p.2) = (cmSame a[k] b[k] && ((a.drop (k + 1)).zip (b.drop (k + 1))).all (fun p => cmSame p.1 p.2)) := by
  rw [List.drop_eq_getElem_cons h, List.drop_eq_getElem_cons h2, List.zip_cons_cons, List.all_cons]
end Go.Proofs.YtcbckeoalmjcoaaGreat

/- The reference's Put, Sorted, and the law's cut: what they make of ids. -/
set_option linter.unusedVariables false
set_option linter.unusedSimpArgs false
namespace Go.Proofs.YtcbckeoalmjcoaaGreat
open Go.RowKit Go.Cw
attribute [local go_sem ↓] eql_id neq_id
/-- A rising list with one more id. -/
def putL (a : Id) (l : List Id) : List Id := if a ∈ l then l else ins a l
def sortL (l : List Id) : List Id := l.foldl (fun acc a => putL a acc) []
theorem ins_mem (a b : Id) (l : List Id) : b ∈ ins a l ↔ b = a ∨ b ∈ l := by
  induction l with
  | nil => simp [ins]
  | cons x r ih =>
    unfold ins
    split
    · simp
    · simp only [List.mem_cons, ih]
      constructor
      · rintro (h | h | h)
        · exact .inr (.inl h)
        · exact .inl h
        · exact .inr (.inr h)
      · rintro (h | h | h)
        · exact .inr (.inl h)
        · exact .inl h
        · exact .inr (.inr h)
theorem ins_rises (a : Id) : ∀ (l : List Id), Rises l → a ∉ l → Rises (ins a l)
  | [], _, _ => by simp [ins, Rises]
  | x :: r, h, hn => by
    obtain ⟨h1, h2⟩ := List.pairwise_cons.1 h
    have hax : a ≠ x := fun e => hn (by simp [e])
    have har : a ∉ r := fun e => hn (List.mem_cons_of_mem _ e)
    unfold ins
    split
    · rename_i hlt
      refine List.pairwise_cons.2 ⟨fun b hb => ?_, h⟩
      rcases List.mem_cons.1 hb with e | e
      · rw [e]; exact hlt
      · have := h1 b e
        rw [idLt_iff] at *
        omega
    · rename_i hlt
      refine List.pairwise_cons.2 ⟨fun b hb => ?_, ins_rises a r h2 har⟩
      rcases (ins_mem a b r).1 hb with e | e
      · subst e
        have hne : ¬ (b.1 = x.1 ∧ b.2 = x.2) := fun e => hax (Prod.ext e.1 e.2)
        have hl : idLt b x = false := Bool.eq_false_iff.2 hlt
        rw [idLt_no] at hl
        rw [idLt_iff]
        omega
      · exact h1 b e
theorem putL_mem (a b : Id) (l : List Id) : b ∈ putL a l ↔ b = a ∨ b ∈ l := by
  unfold putL
  split
  · rename_i h
    constructor
    · exact .inr
    · rintro (e | e)
      · rw [e]; exact h
      · exact e
  · exact ins_mem a b l
theorem putL_rises (a : Id) (l : List Id) (h : Rises l) : Rises (putL a l) := by
  unfold putL
  split
  · exact h
  · rename_i hn; exact ins_rises a l h hn
theorem putL_len (a : Id) (l : List Id) : (putL a l).length ≤ l.length + 1 := by
  unfold putL
  split
  · omega
  · rw [ins_len]; exact Nat.le_refl _
theorem foldl_put (l : List Id) : ∀ acc, Rises acc → Rises (l.foldl (fun acc a => putL a acc) acc) ∧ (∀ b, b ∈ l.foldl (fun acc a => putL a acc) acc ↔ b ∈ l ∨ b ∈ acc) ∧ (l.foldl (fun acc a => putL a acc) acc).length ≤ acc.length + l.length := by
  induction l with
  | nil => intro acc h; exact ⟨h, by simp, by simp⟩
  | cons x r ih =>
    intro acc h
    obtain ⟨h1, h2, h3⟩ := ih (putL x acc) (putL_rises x acc h)
    refine ⟨h1, fun b => ?_, ?_⟩
    · rw [List.foldl_cons, h2, putL_mem, List.mem_cons]
      constructor
      · rintro (e | e | e)
        · exact .inl (.inr e)
        · exact .inl (.inl e)
        · exact .inr e
      · rintro ((e | e) | e)
        · exact .inr (.inl e)
        · exact .inl e
        · exact .inr (.inr e)
    · have := putL_len x acc
      simp only [List.foldl_cons, List.length_cons]
      omega
theorem sortL_rises (l : List Id) : Rises (sortL l) := (foldl_put l [] List.Pairwise.nil).1
theorem sortL_mem (l : List Id) (b : Id) : b ∈ sortL l ↔ b ∈ l := by
  have := (foldl_put l [] List.Pairwise.nil).2.1 b
  simpa [sortL] using this
theorem sortL_len (l : List Id) : (sortL l).length ≤ l.length := by
  have := (foldl_put l [] List.Pairwise.nil).2.2
  simpa [sortL] using this
theorem sortL_snoc (l : List Id) (k : Nat) (h : k < l.length) : sortL (l.take (k + 1)) = putL l[k] (sortL (l.take k)) := by
  unfold sortL
  rw [List.take_succ_eq_append_getElem h, List.foldl_append]
  rfl
set_option maxRecDepth 100000 in
theorem put_has (u : Value) (l : List Id) (id : Id) (w : World) (hx : Rw w 2 u (idl l)) (hin : id ∈ l) :
    Calls Tryz.prog 55 #[u, idV id] w fun e w' => e = .returned u ∧ Below w.heap.size w w' := by
  obtain ⟨H', hle, h2, hy⟩ := (St.start w).box #[.int .i64 id.1, .int .i64 id.2] 41
  have x0 := h2.cell (hy 0 _ rfl)
  have x1 := h2.cell (hy 1 _ rfl)
  have xl := World.block_lt_of_cell? _ _ x0
  have en := (Env.refl w).alloc (.cells #[.int .i64 id.1, .int .i64 id.2] 41)
  have hd : decide (id ∈ l) = true := decide_eq_true hin
  obtain ⟨A, n, c, rfl, _, _, _⟩ := hx.form
  go_enter Tryz.func55, Tryz.ntmps55
  go_wp2_with fail
  refine (hasIds_any _ l id _ (hx.alloc _)).mono ?_
  rintro e w1 ⟨rfl, hb1⟩
  rw [hd]
  go_wp2_with fail
  go_ret
  exact ⟨rfl, ((h2.below hb1).weaken hle).toBelow (en.trans (bel_env hb1))⟩
/-- Put, of a list that one owns. -/
theorem put_own (v : Value) (l : List Id) (id : Id) (H : Hp) (fr : List HA) (w : World) (h : St H (Row 41 2 v (idl l) :: fr) w) (hlen : (l.length + 1) * 16 ≤ 140737488355328) :
    Calls Tryz.prog 55 #[v, idV id] w fun e w' => ∃ v', e = .returned v' ∧ St H (Row 41 2 v' (idl (putL id l)) :: fr) w' ∧ Env w w' := by
  by_cases hin : id ∈ l
  · refine (put_has v l id w (h.row_rw (by omega)) hin).mono ?_
    rintro e w' ⟨rfl, hb⟩
    exact ⟨v, rfl, by unfold putL; rw [if_pos hin]; exact h.below hb, bel_env hb⟩
  · refine (put_new v l id w (h.row_rw (by omega)) hin hlen).mono ?_
    rintro e w' he
    obtain ⟨v', rfl, h', en'⟩ := ResE.lift h he
    exact ⟨v', rfl, by unfold putL; rw [if_neg hin]; exact h'.swap.drop, en'⟩
set_option maxRecDepth 100000 in
set_option maxHeartbeats 800000 in
theorem refSorted_any (u : Value) (l : List Id) (w : World) (hx : Rw w 2 u (idl l)) (hlen : (l.length + 1) * 16 ≤ 140737488355328) :
    Calls Tryz.prog 81 #[u] w (ResE (snap w) [] w (fun v => v) (fun v => [Row 41 2 v (idl (sortL l))])) := by
  obtain ⟨A, n, c, rfl, hl, hn, hc⟩ := hx.form
  rw [idl_len] at hl
  obtain rfl : n = l.length := by omega
  clear hl
  have h1 := (St.start w).row_lit 41 2 0 #[] rfl (by decide)
  have en1 := (Env.refl w).alloc (.cells #[] 41)
  have hrd := hx.rd
  go_enter Tryz.func81, Tryz.ntmps81
  go_wp2_with fail
  go_loopw [3, 4] (fun lv i wr => ∃ k : Nat, k ≤ l.length ∧ i = .int .i64 k ∧ St (snap w) [Row 41 2 lv (idl (sortL (l.take k)))] wr ∧ Env w wr) (fun _ i _ => l.length - (intOf i).toNat)
  case atStart => exact ⟨0, Nat.zero_le _, rfl, h1, en1⟩
  case round =>
    obtain ⟨k, hk, rfl, hst, hen⟩ := hrel
    by_cases hlt : k < l.length
    · obtain ⟨x, HX⟩ : ∃ x, Hid (x = l[k]) := ⟨_, Lib.hid rfl⟩
      have HN : Hid (putL x (sortL (l.take k)) = sortL (l.take (k + 1))) := Lib.hid (by rw [HX.out, sortL_snoc l k hlt])
      have hsl : (sortL (l.take k)).length ≤ k := by
        have := sortL_len (l.take k)
        rw [List.length_take] at this
        omega
      obtain ⟨qb, qoff, qA, qc⟩ := (hrd.rw hst).cells (by omega)
      cases qA
      have q1 := qc _ _ (idl_fst l k hlt)
      have q2 := qc _ _ (idl_snd l k hlt)
      rw [← Nat.add_assoc] at q2
      rw [← HX.out] at q1 q2
      have ql := World.block_lt_of_cell? _ _ q1
      clear qc
      go_wp2_with fail
      refine (put_own _ _ x _ _ _ hst (by omega)).mono ?_
      rintro e w3 ⟨v', rfl, h3, en3⟩
      rw [HN.out] at h3
      go_wp2_with fail
      go_roundw
      case rel => exact ⟨k + 1, by omega, by go_num, h3, hen.trans en3⟩
      case measure => simp [intOf]; omega
    · obtain rfl : k = l.length := by omega
      rw [List.take_length] at hst
      go_wp2_with fail
      go_ret
      exact ⟨_, rfl, hst, hen⟩
theorem cutL_snoc (id : Id) (l : List Id) (k : Nat) (h : k < l.length) : cutL id (l.take (k + 1)) = if l[k] = id then cutL id (l.take k) else cutL id (l.take k) ++ [l[k]] := by
  unfold cutL
  rw [List.take_succ_eq_append_getElem h, List.filter_append]
  by_cases hx : l[k] = id <;> simp [hx]
end Go.Proofs.YtcbckeoalmjcoaaGreat
