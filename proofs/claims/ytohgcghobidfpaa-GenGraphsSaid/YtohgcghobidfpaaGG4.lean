/- Joined texts: Real, Cmds. -/
import Derived.Test.YtohgcghobidfpaaGG3
/- Numbers: the reference's sameness and kinds, at every number. -/
set_option linter.unusedVariables false
set_option linter.unusedSimpArgs false
namespace Go.Proofs.Ytohgcghobidfpaa
open Go.RowKit Go.Cw Go.Fl
theorem fmt_eq : FloatKind.f64.format = Ieee.double := rfl
theorem nan_eq {b : Nat} (hb : b < 18446744073709551616) : (FloatKind.f64.format.order b b != some Ordering.eq) = isNan b := by
  rw [fmt_eq]
  cases h : isNan b with
  | true =>
    have : Ieee.double.order b b = none := order_nan_l (of_decide_eq_true h)
    rw [this]; rfl
  | false =>
    rw [(order_eq hb hb).2 ⟨h, h, .inl rfl⟩]; rfl
theorem eqB {a b : Nat} (ha : a < 18446744073709551616) (hb : b < 18446744073709551616) : (FloatKind.f64.format.order a b == some Ordering.eq) = ((!isNan a && !isNan b) && (decide (a = b) || (decide (rung a = 0) && decide (rung b = 0)))) := by
  rw [fmt_eq, Bool.eq_iff_iff, beq_iff_eq, order_eq ha hb]
  simp [and_assoc]
theorem bitsOf_nan {b : Nat} (hb : b < 18446744073709551616) : bitsOf b = if isNan b then 9221120237041090561 else b := by
  unfold bitsOf
  rw [nan_eq hb]
theorem nan_word : isNan 9221120237041090561 = true := by decide
theorem zero_words {b : Nat} (hb : b < 18446744073709551616) (h : rung b = 0) : b = 0 ∨ b = 9223372036854775808 := by
  unfold rung half at h; omega
theorem run_fmul {P : Program} {t : TypeId} {x y z : Nat} (h : FloatKind.f64.format.mul x y = some z) (w : World) : (binOp .mul t (.float .f64 x) (.float .f64 y)).run P w = .ok (.float .f64 z) w := by
  simp [binOp, Op.floatArith, h]
theorem run_fdiv {P : Program} {t : TypeId} {x y z : Nat} (h : FloatKind.f64.format.div x y = some z) (w : World) : (binOp .quo t (.float .f64 x) (.float .f64 y)).run P w = .ok (.float .f64 z) w := by
  simp [binOp, Op.floatArith, h]
theorem run_fadd {P : Program} {t : TypeId} {x y z : Nat} (h : FloatKind.f64.format.add x y = some z) (w : World) : (binOp .add t (.float .f64 x) (.float .f64 y)).run P w = .ok (.float .f64 z) w := by
  simp [binOp, Op.floatArith, h]
theorem run_fsub {P : Program} {t : TypeId} {x y z : Nat} (h : FloatKind.f64.format.sub x y = some z) (w : World) : (binOp .sub t (.float .f64 x) (.float .f64 y)).run P w = .ok (.float .f64 z) w := by
  simp [binOp, Op.floatArith, h]
theorem div_p0 : FloatKind.f64.format.div 4607182418800017408 0 = some 9218868437227405312 := by decide +kernel
theorem div_n0 : FloatKind.f64.format.div 4607182418800017408 9223372036854775808 = some 18442240474082181120 := by decide +kernel
theorem inf_pp : (FloatKind.f64.format.order 9218868437227405312 9218868437227405312 == some Ordering.eq) = true := by decide +kernel
theorem inf_pn : (FloatKind.f64.format.order 9218868437227405312 18442240474082181120 == some Ordering.eq) = false := by decide +kernel
theorem inf_np : (FloatKind.f64.format.order 18442240474082181120 9218868437227405312 == some Ordering.eq) = false := by decide +kernel
theorem inf_nn : (FloatKind.f64.format.order 18442240474082181120 18442240474082181120 == some Ordering.eq) = true := by decide +kernel
theorem inf_lt0 : (FloatKind.f64.format.order 9218868437227405312 0 == some Ordering.lt) = false := by decide +kernel
theorem ninf_lt0 : (FloatKind.f64.format.order 18442240474082181120 0 == some Ordering.lt) = true := by decide +kernel
theorem z_pp : (FloatKind.f64.format.order 0 0 == some Ordering.eq) = true := by decide +kernel
theorem z_np : (FloatKind.f64.format.order 9223372036854775808 0 == some Ordering.eq) = true := by decide +kernel
set_option maxRecDepth 100000 in
set_option maxHeartbeats 1600000 in
theorem refSame_any (a b : Nat) (ha : a < 18446744073709551616) (hb : b < 18446744073709551616) (w : World) : Calls Try.prog 58 #[.float .f64 a, .float .f64 b] w fun e w' => e = .returned (.bool (decide (bitsOf a = bitsOf b))) ∧ w = w' := by
  have hna := nan_any a w
  have hnb := nan_any b w
  rw [nan_eq ha] at hna
  rw [nan_eq hb] at hnb
  cases ea : isNan a with
  | true =>
    have hR : Hid (decide (bitsOf a = bitsOf b) = isNan b) := Lib.hid (by
      rw [bitsOf_nan ha, bitsOf_nan hb, ea, if_pos rfl]
      cases eb : isNan b with
      | true => rw [if_pos rfl]; exact decide_eq_true rfl
      | false =>
        rw [if_neg (by simp)]
        refine decide_eq_false (fun h => ?_)
        rw [← h, nan_word] at eb
        cases eb)
    rw [ea] at hna
    clear ea ha hb
    go_enter Try.func58, Try.ntmps58
    go_wp2_with fail
    refine hna.mono ?_
    rintro e w1 ⟨rfl, rfl⟩
    go_wp2_with fail
    refine hna.mono ?_
    rintro e w1 ⟨rfl, rfl⟩
    go_wp2_with fail
    refine hnb.mono ?_
    rintro e w1 ⟨rfl, rfl⟩
    go_wp2_with fail
    go_ret
    exact ⟨rb hR.out.symm, rfl⟩
  | false =>
    cases eb : isNan b with
    | true =>
      have hR : Hid (decide (bitsOf a = bitsOf b) = false) := Lib.hid (by
        rw [bitsOf_nan ha, bitsOf_nan hb, ea, eb, if_pos rfl, if_neg (by simp)]
        refine decide_eq_false (fun h => ?_)
        rw [h, nan_word] at ea
        cases ea)
      rw [ea] at hna
      rw [eb] at hnb
      clear ea eb ha hb
      go_enter Try.func58, Try.ntmps58
      go_wp2_with fail
      refine hna.mono ?_
      rintro e w1 ⟨rfl, rfl⟩
      go_wp2_with fail
      refine hnb.mono ?_
      rintro e w1 ⟨rfl, rfl⟩
      go_wp2_with fail
      refine hna.mono ?_
      rintro e w1 ⟨rfl, rfl⟩
      go_wp2_with fail
      go_ret
      exact ⟨rb hR.out.symm, rfl⟩
    | false =>
      rw [bitsOf_nan ha, bitsOf_nan hb, ea, eb, if_neg (by simp), if_neg (by simp)]
      have hab := eqB ha hb
      have ha0 := eqB ha (show 0 < 18446744073709551616 by decide)
      have hb0 := eqB hb (show 0 < 18446744073709551616 by decide)
      rw [ea] at hna ha0 hab
      rw [eb] at hnb hb0 hab
      have n0 : isNan 0 = false := by decide
      have r0 : rung 0 = 0 := by decide
      rw [n0, r0] at ha0 hb0
      by_cases za : rung a = 0
      · by_cases zb : rung b = 0
        · rcases zero_words ha za with rfl | rfl <;> rcases zero_words hb zb with rfl | rfl
          all_goals
            clear ea eb hab ha0 hb0 n0 r0 za zb ha hb
            have h1 := @run_fdiv Try.prog 45 _ _ _ div_p0
            have h2 := @run_fdiv Try.prog 45 _ _ _ div_n0
            have h3 := inf_pp
            have h4 := inf_pn
            have h5 := inf_np
            have h6 := inf_nn
            have h7 := z_pp
            have h8 := z_np
            go_enter Try.func58, Try.ntmps58
            go_wp2_with fail
            refine hna.mono ?_
            rintro e w1 ⟨rfl, rfl⟩
            go_wp2_with fail
            refine hnb.mono ?_
            rintro e w1 ⟨rfl, rfl⟩
            go_wp2_with fail
            go_ret
            exact ⟨rfl, rfl⟩
        · have hz : ¬ b = 0 := by rintro rfl; exact zb r0
          have e1 : (FloatKind.f64.format.order a 0 == some Ordering.eq) = true := by rw [ha0]; simp [za]
          have e2 : (FloatKind.f64.format.order b 0 == some Ordering.eq) = false := by rw [hb0]; simp [zb, hz]
          have e3 : Hid ((FloatKind.f64.format.order a b == some Ordering.eq) = decide (a = b)) := Lib.hid (by rw [hab]; simp [zb])
          clear ea eb hab ha0 hb0 n0 r0 za zb hz ha hb
          go_enter Try.func58, Try.ntmps58
          go_wp2_with fail
          refine hna.mono ?_
          rintro e w1 ⟨rfl, rfl⟩
          go_wp2_with fail
          refine hnb.mono ?_
          rintro e w1 ⟨rfl, rfl⟩
          go_wp2_with fail
          go_ret
          exact ⟨rb e3.out, rfl⟩
      · have hz : ¬ a = 0 := by rintro rfl; exact za r0
        have e1 : (FloatKind.f64.format.order a 0 == some Ordering.eq) = false := by rw [ha0]; simp [za, hz]
        have e3 : Hid ((FloatKind.f64.format.order a b == some Ordering.eq) = decide (a = b)) := Lib.hid (by rw [hab]; simp [za])
        clear ea eb hab ha0 hb0 n0 r0 za hz ha hb
        go_enter Try.func58, Try.ntmps58
        go_wp2_with fail
        refine hna.mono ?_
        rintro e w1 ⟨rfl, rfl⟩
        go_wp2_with fail
        refine hnb.mono ?_
        rintro e w1 ⟨rfl, rfl⟩
        go_wp2_with fail
        go_ret
        exact ⟨rb e3.out, rfl⟩
/-- The word of a power of two. -/
def pw (k : Nat) : Nat := (1023 + k) * 4503599627370496
theorem mul2 : ∀ k : Fin 1023, FloatKind.f64.format.mul 4611686018427387904 (pw k.val) = some (pw (k.val + 1)) := by decide +kernel
theorem big1 : FloatKind.f64.format.div 9214364837600034816 4841369599423283200 = some 8980177656976769024 := by decide +kernel
theorem big2 : FloatKind.f64.format.sub 9214364837600034816 8980177656976769024 = some 9214364837600034814 := by decide +kernel
theorem big3 : FloatKind.f64.format.add 9214364837600034816 9214364837600034814 = some 9218868437227405311 := by decide +kernel
set_option maxRecDepth 100000 in
set_option maxHeartbeats 1600000 in
theorem big_any (w : World) : Calls Try.prog 92 #[] w fun e w' => e = .returned (.float .f64 9218868437227405311) ∧ w = w' := by
  go_enter Try.func92, Try.ntmps92
  go_wp2_with fail
  go_loop [1, 2] (fun s1 s2 => ∃ k : Nat, k ≤ 1023 ∧ s2 = .int .i64 (k : Int) ∧ s1 = .float .f64 (pw k)) (fun _ s2 => 1023 - (intOf s2).toNat)
  case atStart => exact ⟨0, by omega, rfl, rfl⟩
  case round =>
    obtain ⟨k, hk, rfl, rfl⟩ := hrel
    by_cases hlt : k < 1023
    · have hm := mul2 ⟨k, hlt⟩
      replace hm := @run_fmul Try.prog 45 _ _ _ hm
      simp only at hm
      generalize pw k = x at *
      generalize hy : pw (k + 1) = y at *
      replace hy := Lib.hid hy
      have hI : (k : Int) < 1023 := by omega
      go_wp2_with fail
      go_round
      case rel => exact ⟨k + 1, by omega, by go_num, by rw [hy.out]⟩
      case measure => simp [intOf]; omega
    · obtain rfl : k = 1023 := by omega
      have h0 : pw 1023 = 9214364837600034816 := by decide
      rw [h0]
      have h1 := @run_fdiv Try.prog 45 _ _ _ big1
      have h2 := @run_fsub Try.prog 45 _ _ _ big2
      have h3 := @run_fadd Try.prog 45 _ _ _ big3
      clear h0
      go_wp2_with fail
      go_ret
      exact ⟨rfl, rfl⟩
end Go.Proofs.Ytohgcghobidfpaa

/- Commands: whether one may be, and the reference's answer. -/
set_option linter.unusedVariables false
set_option linter.unusedSimpArgs false
namespace Go.Proofs.Ytohgcghobidfpaa
open Go.RowKit Go.Cw Go.Fl
/-- A kind's number, 4 just at +0. -/
def KindR (b : Nat) (w : World) (e : Ending) (w' : World) : Prop := ∃ k : Int, e = .returned (.int .i64 k) ∧ ((k == 4) = decide (b = 0)) ∧ w = w'
theorem negBig (w : World) : (Op.unary .neg (.float .f64 9218868437227405311)).run Try.prog w = .ok (.float .f64 18442240474082181119) w := by kernel_rfl
set_option maxRecDepth 100000 in
set_option maxHeartbeats 1600000 in
theorem refKind_any (b : Nat) (hb : b < 18446744073709551616) (w : World) : Calls Try.prog 80 #[.float .f64 b] w (KindR b w) := by
  have hn := nan_any b w
  rw [nan_eq hb] at hn
  cases eb : isNan b with
  | true =>
    have h0 : Hid (((0 : Int) == 4) = decide (b = 0)) := Lib.hid (by
      rw [decide_eq_false]; rfl
      rintro rfl
      exact absurd eb (by decide))
    rw [eb] at hn
    clear eb hb
    go_enter Try.func80, Try.ntmps80
    go_wp2_with fail
    refine hn.mono ?_
    rintro e w1 ⟨rfl, rfl⟩
    go_wp2_with fail
    go_ret
    exact ⟨0, rfl, h0.out, rfl⟩
  | false =>
    rw [eb] at hn
    have hb0 := eqB hb (show 0 < 18446744073709551616 by decide)
    have n0 : isNan 0 = false := by decide
    have r0 : rung 0 = 0 := by decide
    rw [eb, n0, r0] at hb0
    by_cases zb : rung b = 0
    · rcases zero_words hb zb with rfl | rfl
      · clear eb hb0 n0 r0 zb hb
        have h1 := @run_fdiv Try.prog 45 _ _ _ div_p0
        have h7 := z_pp
        have h8 := inf_lt0
        go_enter Try.func80, Try.ntmps80
        go_wp2_with fail
        refine hn.mono ?_
        rintro e w1 ⟨rfl, rfl⟩
        go_wp2_with fail
        go_ret
        exact ⟨4, rfl, rfl, rfl⟩
      · clear eb hb0 n0 r0 zb hb
        have h1 := @run_fdiv Try.prog 45 _ _ _ div_n0
        have h7 := z_np
        have h8 := ninf_lt0
        go_enter Try.func80, Try.ntmps80
        go_wp2_with fail
        refine hn.mono ?_
        rintro e w1 ⟨rfl, rfl⟩
        go_wp2_with fail
        go_ret
        exact ⟨3, rfl, rfl, rfl⟩
    · have hz : ¬ b = 0 := by rintro rfl; exact zb r0
      have e2 : (FloatKind.f64.format.order b 0 == some Ordering.eq) = false := by rw [hb0]; simp [zb, hz]
      have hd := Lib.hid (decide_eq_false hz)
      have hng := negBig
      clear eb hb0 n0 r0 zb hb hz
      cases e3 : (FloatKind.f64.format.order b 0 == some Ordering.lt) with
      | true =>
        cases e4 : (FloatKind.f64.format.order b 18442240474082181119 == some Ordering.lt) with
        | true =>
          go_enter Try.func80, Try.ntmps80
          go_wp2_with fail
          refine hn.mono ?_
          rintro e w1 ⟨rfl, rfl⟩
          go_wp2_with fail
          refine (big_any _).mono ?_
          rintro e w1 ⟨rfl, rfl⟩
          go_wp2_with fail
          go_ret
          exact ⟨1, rfl, by rw [hd.out]; rfl, rfl⟩
        | false =>
          go_enter Try.func80, Try.ntmps80
          go_wp2_with fail
          refine hn.mono ?_
          rintro e w1 ⟨rfl, rfl⟩
          go_wp2_with fail
          refine (big_any _).mono ?_
          rintro e w1 ⟨rfl, rfl⟩
          go_wp2_with fail
          go_ret
          exact ⟨2, rfl, by rw [hd.out]; rfl, rfl⟩
      | false =>
        cases e4 : (FloatKind.f64.format.order b 9218868437227405311 == some Ordering.gt) with
        | true =>
          go_enter Try.func80, Try.ntmps80
          go_wp2_with fail
          refine hn.mono ?_
          rintro e w1 ⟨rfl, rfl⟩
          go_wp2_with fail
          refine (big_any _).mono ?_
          rintro e w1 ⟨rfl, rfl⟩
          go_wp2_with fail
          go_ret
          exact ⟨6, rfl, by rw [hd.out]; rfl, rfl⟩
        | false =>
          go_enter Try.func80, Try.ntmps80
          go_wp2_with fail
          refine hn.mono ?_
          rintro e w1 ⟨rfl, rfl⟩
          go_wp2_with fail
          refine (big_any _).mono ?_
          rintro e w1 ⟨rfl, rfl⟩
          go_wp2_with fail
          go_ret
          exact ⟨5, rfl, by rw [hd.out]; rfl, rfl⟩
theorem run_store_float (P : Program) (w : World) (a : Addr) (m : Mode) (k : FloatKind) (b : Nat) : (store a (.float k b) m).run P w = stored P w a (.float k b) m := run_store P w a _ m rfl
/-- A command: its kind, its key, its number. -/
abbrev Cm := Int × ByteArray × Nat
abbrev cmV (c : Cm) : Value := .agg #[.int .i64 c.1, .string c.2.1, .float .f64 c.2.2]
def cmc (c : Cm) : List Value := [.int .i64 c.1, .string c.2.1, .float .f64 c.2.2]
def cml (l : List Cm) : List Value := l.flatMap cmc
theorem cml_len (l : List Cm) : (cml l).length = l.length * 3 := flat_len cmc 3 (fun _ => rfl) l
theorem cml_get (l : List Cm) (k : Nat) (h : k < l.length) : (cml l)[k * 3]? = some (.int .i64 l[k].1) ∧ (cml l)[k * 3 + 1]? = some (.string l[k].2.1) ∧ (cml l)[k * 3 + 2]? = some (.float .f64 l[k].2.2) := by
  have := fun i hi => flat_get cmc 3 (fun _ => rfl) l k i h hi
  exact ⟨this 0 (by omega), this 1 (by omega), this 2 (by omega)⟩
theorem cml_one (l : List Cm) : ∀ u ∈ cml l, u.oneCell' = true := by
  intro u hu
  obtain ⟨c, _, hu⟩ := List.mem_flatMap.1 hu
  simp only [cmc, List.mem_cons, List.not_mem_nil, or_false] at hu
  rcases hu with rfl | rfl | rfl <;> rfl
/-- A command's parts are such as Go has. -/
def CmW (c : Cm) : Prop := c.2.1.size ≤ 9223372036854775807 ∧ c.2.2 < 18446744073709551616
/-- A command may be. -/
def cmOk (c : Cm) : Bool := keyOk c.2.1 && ((decide (c.1 = 2) || decide (c.1 = 4)) || ((decide (c.1 = 1) || decide (c.1 = 3)) && decide (c.2.2 = 0)))
def errB (b : Bool) (n : Int) : Int := if b then 0 else n
set_option maxRecDepth 100000 in
set_option maxHeartbeats 3200000 in
theorem check_any (c : Cm) (hc : CmW c) (w : World) : Calls Try.prog 34 #[cmV c] w fun e w' => e = .returned (.int .i64 (errB (cmOk c) 12)) ∧ Below w.heap.size w w' := by
  obtain ⟨k, s, n⟩ := c
  obtain ⟨hs, _⟩ := hc
  simp only at hs
  obtain ⟨H1, l1, h1, y⟩ := (St.start w).box #[.int .i64 k, .string s, .float .f64 n] 47
  have en1 := (Env.refl w).alloc (.cells #[.int .i64 k, .string s, .float .f64 n] 47)
  have y0 := y 0 _ rfl
  have y1 := y 1 _ rfl
  have y2 := y 2 _ rfl
  clear y
  replace hs := hs
  by_cases hk4 : 1 ≤ k ∧ k ≤ 4
  · have h4 : k = 1 ∨ k = 2 ∨ k = 3 ∨ k = 4 := by omega
    clear hk4
    rcases h4 with rfl | rfl | rfl | rfl
    · have hW := word_any 1
      rw [show wordOf 1 = ⟨#[103, 101, 116]⟩ from rfl] at hW
      replace hW := Lib.hid hW
      cases hk : keyOk s with
      | false =>
        have hR : errB (cmOk (1, s, n)) 12 = 12 := by unfold cmOk; rw [hk]; rfl
        rw [hR]
        clear hR
        have hK := key_any s
        rw [hk] at hK
        replace hK := Lib.hid hK
        clear hk
        go_enter Try.func34, Try.ntmps34
        go_wp2_with fail
        refine (hW.out _).mono ?_
        rintro e w2 ⟨rfl, hb2⟩
        have h2 := h1.below hb2
        have x1 := h2.cell y1
        have xl := World.block_lt_of_cell? _ _ x1
        have en2 := en1.trans (bel_env hb2)
        go_wp2_with fail
        refine (hK.out _ hs).mono ?_
        rintro e w3 ⟨rfl, hb3⟩
        go_wp2_with fail
        go_ret
        exact ⟨rfl, ((h2.below hb3).weaken l1).toBelow (en2.trans (bel_env hb3))⟩
      | true =>
        have hK := key_any s
        have hR : Hid (errB (cmOk (1, s, n)) 12 = errB (decide (n = 0)) 12) := Lib.hid (by unfold cmOk; rw [hk]; simp)
        rw [hk] at hK
        replace hK := Lib.hid hK
        clear hk
        cases hn : decide (n = 0) with
        | true =>
          rw [hR.out, hn]
          have hP := plus_any n
          rw [hn] at hP
          replace hP := Lib.hid hP
          clear hn
          go_enter Try.func34, Try.ntmps34
          go_wp2_with fail
          refine (hW.out _).mono ?_
          rintro e w2 ⟨rfl, hb2⟩
          have h2 := h1.below hb2
          have x1 := h2.cell y1
          have xl := World.block_lt_of_cell? _ _ x1
          have en2 := en1.trans (bel_env hb2)
          go_wp2_with fail
          refine (hK.out _ hs).mono ?_
          rintro e w3 ⟨rfl, hb3⟩
          have h3 := h2.below hb3
          clear x1 xl
          have x0 := h3.cell y0
          have x2 := h3.cell y2
          have xl := World.block_lt_of_cell? _ _ x0
          go_wp2_with fail
          refine (hP.out _).mono ?_
          rintro e w4 ⟨rfl, rfl⟩
          go_wp2_with fail
          go_ret
          exact ⟨rfl, (h3.weaken l1).toBelow (en2.trans (bel_env hb3))⟩
        | false =>
          rw [hR.out, hn]
          have hP := plus_any n
          rw [hn] at hP
          replace hP := Lib.hid hP
          clear hn
          go_enter Try.func34, Try.ntmps34
          go_wp2_with fail
          refine (hW.out _).mono ?_
          rintro e w2 ⟨rfl, hb2⟩
          have h2 := h1.below hb2
          have x1 := h2.cell y1
          have xl := World.block_lt_of_cell? _ _ x1
          have en2 := en1.trans (bel_env hb2)
          go_wp2_with fail
          refine (hK.out _ hs).mono ?_
          rintro e w3 ⟨rfl, hb3⟩
          have h3 := h2.below hb3
          clear x1 xl
          have x0 := h3.cell y0
          have x2 := h3.cell y2
          have xl := World.block_lt_of_cell? _ _ x0
          go_wp2_with fail
          refine (hP.out _).mono ?_
          rintro e w4 ⟨rfl, rfl⟩
          go_wp2_with fail
          go_ret
          exact ⟨rfl, (h3.weaken l1).toBelow (en2.trans (bel_env hb3))⟩
    · have hW := word_any 2
      rw [show wordOf 2 = ⟨#[112, 117, 116]⟩ from rfl] at hW
      replace hW := Lib.hid hW
      cases hk : keyOk s with
      | false =>
        have hR : errB (cmOk (2, s, n)) 12 = 12 := by unfold cmOk; rw [hk]; rfl
        rw [hR]
        clear hR
        have hK := key_any s
        rw [hk] at hK
        replace hK := Lib.hid hK
        clear hk
        go_enter Try.func34, Try.ntmps34
        go_wp2_with fail
        refine (hW.out _).mono ?_
        rintro e w2 ⟨rfl, hb2⟩
        have h2 := h1.below hb2
        have x1 := h2.cell y1
        have xl := World.block_lt_of_cell? _ _ x1
        have en2 := en1.trans (bel_env hb2)
        go_wp2_with fail
        refine (hK.out _ hs).mono ?_
        rintro e w3 ⟨rfl, hb3⟩
        go_wp2_with fail
        go_ret
        exact ⟨rfl, ((h2.below hb3).weaken l1).toBelow (en2.trans (bel_env hb3))⟩
      | true =>
        have hR : errB (cmOk (2, s, n)) 12 = 0 := by unfold cmOk; rw [hk]; rfl
        rw [hR]
        clear hR
        have hK := key_any s
        rw [hk] at hK
        replace hK := Lib.hid hK
        clear hk
        go_enter Try.func34, Try.ntmps34
        go_wp2_with fail
        refine (hW.out _).mono ?_
        rintro e w2 ⟨rfl, hb2⟩
        have h2 := h1.below hb2
        have x1 := h2.cell y1
        have xl := World.block_lt_of_cell? _ _ x1
        have en2 := en1.trans (bel_env hb2)
        go_wp2_with fail
        refine (hK.out _ hs).mono ?_
        rintro e w3 ⟨rfl, hb3⟩
        have h3 := h2.below hb3
        clear x1 xl
        have x0 := h3.cell y0
        have xl := World.block_lt_of_cell? _ _ x0
        go_wp2_with fail
        go_ret
        exact ⟨rfl, (h3.weaken l1).toBelow (en2.trans (bel_env hb3))⟩
    · have hW := word_any 3
      rw [show wordOf 3 = ⟨#[100, 101, 108]⟩ from rfl] at hW
      replace hW := Lib.hid hW
      cases hk : keyOk s with
      | false =>
        have hR : errB (cmOk (3, s, n)) 12 = 12 := by unfold cmOk; rw [hk]; rfl
        rw [hR]
        clear hR
        have hK := key_any s
        rw [hk] at hK
        replace hK := Lib.hid hK
        clear hk
        go_enter Try.func34, Try.ntmps34
        go_wp2_with fail
        refine (hW.out _).mono ?_
        rintro e w2 ⟨rfl, hb2⟩
        have h2 := h1.below hb2
        have x1 := h2.cell y1
        have xl := World.block_lt_of_cell? _ _ x1
        have en2 := en1.trans (bel_env hb2)
        go_wp2_with fail
        refine (hK.out _ hs).mono ?_
        rintro e w3 ⟨rfl, hb3⟩
        go_wp2_with fail
        go_ret
        exact ⟨rfl, ((h2.below hb3).weaken l1).toBelow (en2.trans (bel_env hb3))⟩
      | true =>
        have hK := key_any s
        have hR : Hid (errB (cmOk (3, s, n)) 12 = errB (decide (n = 0)) 12) := Lib.hid (by unfold cmOk; rw [hk]; simp)
        rw [hk] at hK
        replace hK := Lib.hid hK
        clear hk
        cases hn : decide (n = 0) with
        | true =>
          rw [hR.out, hn]
          have hP := plus_any n
          rw [hn] at hP
          replace hP := Lib.hid hP
          clear hn
          go_enter Try.func34, Try.ntmps34
          go_wp2_with fail
          refine (hW.out _).mono ?_
          rintro e w2 ⟨rfl, hb2⟩
          have h2 := h1.below hb2
          have x1 := h2.cell y1
          have xl := World.block_lt_of_cell? _ _ x1
          have en2 := en1.trans (bel_env hb2)
          go_wp2_with fail
          refine (hK.out _ hs).mono ?_
          rintro e w3 ⟨rfl, hb3⟩
          have h3 := h2.below hb3
          clear x1 xl
          have x0 := h3.cell y0
          have x2 := h3.cell y2
          have xl := World.block_lt_of_cell? _ _ x0
          go_wp2_with fail
          refine (hP.out _).mono ?_
          rintro e w4 ⟨rfl, rfl⟩
          go_wp2_with fail
          go_ret
          exact ⟨rfl, (h3.weaken l1).toBelow (en2.trans (bel_env hb3))⟩
        | false =>
          rw [hR.out, hn]
          have hP := plus_any n
          rw [hn] at hP
          replace hP := Lib.hid hP
          clear hn
          go_enter Try.func34, Try.ntmps34
          go_wp2_with fail
          refine (hW.out _).mono ?_
          rintro e w2 ⟨rfl, hb2⟩
          have h2 := h1.below hb2
          have x1 := h2.cell y1
          have xl := World.block_lt_of_cell? _ _ x1
          have en2 := en1.trans (bel_env hb2)
          go_wp2_with fail
          refine (hK.out _ hs).mono ?_
          rintro e w3 ⟨rfl, hb3⟩
          have h3 := h2.below hb3
          clear x1 xl
          have x0 := h3.cell y0
          have x2 := h3.cell y2
          have xl := World.block_lt_of_cell? _ _ x0
          go_wp2_with fail
          refine (hP.out _).mono ?_
          rintro e w4 ⟨rfl, rfl⟩
          go_wp2_with fail
          go_ret
          exact ⟨rfl, (h3.weaken l1).toBelow (en2.trans (bel_env hb3))⟩
    · have hW := word_any 4
      rw [show wordOf 4 = ⟨#[97, 100, 100]⟩ from rfl] at hW
      replace hW := Lib.hid hW
      cases hk : keyOk s with
      | false =>
        have hR : errB (cmOk (4, s, n)) 12 = 12 := by unfold cmOk; rw [hk]; rfl
        rw [hR]
        clear hR
        have hK := key_any s
        rw [hk] at hK
        replace hK := Lib.hid hK
        clear hk
        go_enter Try.func34, Try.ntmps34
        go_wp2_with fail
        refine (hW.out _).mono ?_
        rintro e w2 ⟨rfl, hb2⟩
        have h2 := h1.below hb2
        have x1 := h2.cell y1
        have xl := World.block_lt_of_cell? _ _ x1
        have en2 := en1.trans (bel_env hb2)
        go_wp2_with fail
        refine (hK.out _ hs).mono ?_
        rintro e w3 ⟨rfl, hb3⟩
        go_wp2_with fail
        go_ret
        exact ⟨rfl, ((h2.below hb3).weaken l1).toBelow (en2.trans (bel_env hb3))⟩
      | true =>
        have hR : errB (cmOk (4, s, n)) 12 = 0 := by unfold cmOk; rw [hk]; rfl
        rw [hR]
        clear hR
        have hK := key_any s
        rw [hk] at hK
        replace hK := Lib.hid hK
        clear hk
        go_enter Try.func34, Try.ntmps34
        go_wp2_with fail
        refine (hW.out _).mono ?_
        rintro e w2 ⟨rfl, hb2⟩
        have h2 := h1.below hb2
        have x1 := h2.cell y1
        have xl := World.block_lt_of_cell? _ _ x1
        have en2 := en1.trans (bel_env hb2)
        go_wp2_with fail
        refine (hK.out _ hs).mono ?_
        rintro e w3 ⟨rfl, hb3⟩
        have h3 := h2.below hb3
        clear x1 xl
        have x0 := h3.cell y0
        have xl := World.block_lt_of_cell? _ _ x0
        go_wp2_with fail
        go_ret
        exact ⟨rfl, (h3.weaken l1).toBelow (en2.trans (bel_env hb3))⟩
  · have hW := word_any k
    have hw0 : wordOf k = ⟨#[]⟩ := by unfold wordOf; rw [if_neg (by omega), if_neg (by omega), if_neg (by omega), if_neg (by omega)]
    rw [hw0] at hW
    replace hW := Lib.hid hW
    have hR : Hid (errB (cmOk (k, s, n)) 12 = 12) := Lib.hid (by
      unfold cmOk
      rw [decide_eq_false (p := k = 2) (by omega), decide_eq_false (p := k = 4) (by omega), decide_eq_false (p := k = 1) (by omega), decide_eq_false (p := k = 3) (by omega)]
      simp [errB])
    rw [hR.out]
    clear hw0 hk4
    go_enter Try.func34, Try.ntmps34
    go_wp2_with fail
    refine (hW.out _).mono ?_
    rintro e w2 ⟨rfl, hb2⟩
    go_wp2_with fail
    go_ret
    exact ⟨rfl, ((h1.below hb2).weaken l1).toBelow (en1.trans (bel_env hb2))⟩
set_option maxRecDepth 100000 in
set_option maxHeartbeats 3200000 in
theorem right6_any (c : Cm) (hc : CmW c) (w : World) : Calls Try.prog 57 #[cmV c] w fun e w' => e = .returned (.bool (cmOk c)) ∧ Below w.heap.size w w' := by
  obtain ⟨k, s, n⟩ := c
  obtain ⟨hs, hn64⟩ := hc
  simp only at hs hn64
  obtain ⟨H1, l1, h1, y⟩ := (St.start w).box #[.int .i64 k, .string s, .float .f64 n] 47
  have en1 := (Env.refl w).alloc (.cells #[.int .i64 k, .string s, .float .f64 n] 47)
  clear y
  have bel := (h1.weaken l1).toBelow en1
  have hK := refKey_any s (w.alloc (.cells #[.int .i64 k, .string s, .float .f64 n] 47)) hs
  have hN := refKind_any n hn64 (w.alloc (.cells #[.int .i64 k, .string s, .float .f64 n] 47))
  cases hk : keyOk s with
  | false =>
    have hR : cmOk (k, s, n) = false := by unfold cmOk; rw [hk]; rfl
    rw [hR]
    rw [hk] at hK
    clear hR hk
    go_enter Try.func57, Try.ntmps57
    go_wp2_with fail
    refine hK.mono ?_
    rintro e w1 ⟨rfl, rfl⟩
    go_wp2_with fail
    go_ret
    exact ⟨rfl, bel⟩
  | true =>
    have hR : Hid (cmOk (k, s, n) = ((decide (k = 2) || decide (k = 4)) || ((decide (k = 1) || decide (k = 3)) && decide (n = 0)))) := Lib.hid (by unfold cmOk; rw [hk]; rfl)
    rw [hk] at hK
    clear hk
    by_cases k2 : k = 2
    · subst k2
      go_enter Try.func57, Try.ntmps57
      go_wp2_with fail
      refine hK.mono ?_
      rintro e w1 ⟨rfl, rfl⟩
      go_wp2_with fail
      go_ret
      exact ⟨rb (by rw [hR.out]; rfl), bel⟩
    · have b2 : (k == 2) = false := beq_eq_false_iff_ne.2 k2
      by_cases k4 : k = 4
      · subst k4
        go_enter Try.func57, Try.ntmps57
        go_wp2_with fail
        refine hK.mono ?_
        rintro e w1 ⟨rfl, rfl⟩
        go_wp2_with fail
        go_ret
        exact ⟨rb (by rw [hR.out]; rfl), bel⟩
      · have b4 : (k == 4) = false := beq_eq_false_iff_ne.2 k4
        by_cases k1 : k = 1
        · subst k1
          clear k2 k4
          go_enter Try.func57, Try.ntmps57
          go_wp2_with fail
          refine hK.mono ?_
          rintro e w1 ⟨rfl, rfl⟩
          go_wp2_with fail
          refine hN.mono ?_
          rintro e w1 ⟨j, rfl, hj, rfl⟩
          replace hj := Lib.hid hj
          go_wp2_with fail
          go_ret
          exact ⟨rb (by rw [hR.out, hj.out]; simp), bel⟩
        · have b1 : (k == 1) = false := beq_eq_false_iff_ne.2 k1
          by_cases k3 : k = 3
          · subst k3
            clear k2 k4 k1
            go_enter Try.func57, Try.ntmps57
            go_wp2_with fail
            refine hK.mono ?_
            rintro e w1 ⟨rfl, rfl⟩
            go_wp2_with fail
            refine hN.mono ?_
            rintro e w1 ⟨j, rfl, hj, rfl⟩
            replace hj := Lib.hid hj
            go_wp2_with fail
            go_ret
            exact ⟨rb (by rw [hR.out, hj.out]; simp), bel⟩
          · have b3 : (k == 3) = false := beq_eq_false_iff_ne.2 k3
            have hR2 : Hid (cmOk (k, s, n) = false) := Lib.hid (by rw [hR.out]; simp [k1, k2, k3, k4])
            clear k2 k4 k1 k3
            go_enter Try.func57, Try.ntmps57
            go_wp2_with fail
            refine hK.mono ?_
            rintro e w1 ⟨rfl, rfl⟩
            go_wp2_with fail
            go_ret
            exact ⟨rb hR2.out.symm, bel⟩
theorem ba_ext {s t : ByteArray} (h : s.toList = t.toList) : s = t := by
  rw [ByteArray.toList_eq, ByteArray.toList_eq] at h
  cases s
  cases t
  congr
  exact Array.toList_inj.1 h
/-- Two commands are the same. -/
def cmSame (a b : Cm) : Bool := decide (a.1 = b.1) && (decide (a.2.1 = b.2.1) && decide (bitsOf a.2.2 = bitsOf b.2.2))
set_option maxRecDepth 100000 in
set_option maxHeartbeats 1600000 in
theorem cmSame_any (a b : Cm) (ha : CmW a) (hb : CmW b) (w : World) : Calls Try.prog 39 #[cmV a, cmV b] w fun e w' => e = .returned (.bool (cmSame a b)) ∧ Below w.heap.size w w' := by
  obtain ⟨k, s, n⟩ := a
  obtain ⟨k', s', n'⟩ := b
  have hn := ha.2
  have hn' := hb.2
  simp only at hn hn'
  have hS := fun w => refSame_any n n' hn hn' w
  replace hS := Lib.hid hS
  have bel := ((Below.refl w.heap.size w).alloc (Nat.le_refl _) (.cells #[.int .i64 k, .string s, .float .f64 n] 47)).alloc (by simp) (.cells #[.int .i64 k', .string s', .float .f64 n'] 47)
  by_cases h1 : k = k'
  · subst h1
    by_cases h2 : s = s'
    · subst h2
      have hR : Hid (cmSame (k, s, n) (k, s, n') = decide (bitsOf n = bitsOf n')) := Lib.hid (by unfold cmSame; simp)
      clear ha hb hn hn'
      go_enter Try.func39, Try.ntmps39
      go_wp2_with fail
      refine (hS.out _).mono ?_
      rintro e w1 ⟨rfl, rfl⟩
      go_wp2_with fail
      go_ret
      exact ⟨rb hR.out.symm, bel⟩
    · have hR : Hid (cmSame (k, s, n) (k, s', n') = false) := Lib.hid (by unfold cmSame; simp [h2])
      have b2 : ¬ s.toList = s'.toList := fun h => h2 (ba_ext h)
      clear ha hb hn hn' h2
      go_enter Try.func39, Try.ntmps39
      go_wp2_with fail
      go_ret
      exact ⟨rb hR.out.symm, bel⟩
  · have hR : Hid (cmSame (k, s, n) (k', s', n') = false) := Lib.hid (by unfold cmSame; simp [h1])
    have b1 : (k == k') = false := by simpa using h1
    clear ha hb hn hn'
    go_enter Try.func39, Try.ntmps39
    go_wp2_with fail
    go_ret
    exact ⟨rb hR.out.symm, bel⟩
end Go.Proofs.Ytohgcghobidfpaa
