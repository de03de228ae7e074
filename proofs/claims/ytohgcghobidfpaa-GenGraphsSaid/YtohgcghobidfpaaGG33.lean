/- Joined texts: Gen, GenLaw. -/
import Derived.StillTailTactics
import Derived.Test.YtohgcghobidfpaaGG3
/- Chains and rings: contracts of cmd.Check at a get, gen.add, gen.Chain, gen.Ring. -/
set_option linter.unusedVariables false
set_option linter.unusedSimpArgs false
namespace Go.Proofs.Ytohgcghobidfpaa
open Go.RowKit Go.Cw

set_option maxRecDepth 100000 in
set_option maxHeartbeats 800000 in
theorem check_get (s : ByteArray) (w : World) (hs : s.size ≤ 9223372036854775807) :
    Calls Try.prog 34 #[.agg #[.int .i64 1, .string s, .float .f64 0]] w fun e w' => e = .returned (.int .i64 (if keyOk s then 0 else 12)) ∧ Below w.heap.size w w' := by
  obtain ⟨H, hle, hst, hc⟩ := (St.start w).box #[.int .i64 1, .string s, .float .f64 0] 47
  have h0 := hc 0 _ rfl
  have h1 := hc 1 _ rfl
  have h2 := hc 2 _ rfl
  have en := (Env.refl w).alloc (.cells #[.int .i64 1, .string s, .float .f64 0] 47)
  clear hc
  by_cases hk : keyOk s = true
  · have HR := Lib.hid (show (if keyOk s then (0 : Int) else 12) = 0 by rw [hk]; rfl)
    go_enter Try.func34, Try.ntmps34
    go_wp2_with fail
    generalize (w.alloc (.cells #[.int .i64 1, .string s, .float .f64 0] 47)) = w1 at *
    generalize w.heap.size = g at *
    refine (word_any _ _).mono ?_
    rintro e w2 ⟨rfl, hb2⟩
    rw [show wordOf 1 = ⟨#[103, 101, 116]⟩ from rfl]
    have hst2 := hst.below hb2
    have c1 := hst2.cell h1
    go_wp2_with fail
    refine (key_any s _ hs).mono ?_
    rintro e w3 ⟨rfl, hb3⟩
    have hst3 := hst2.below hb3
    rw [hk]
    have d0 := hst3.cell h0
    have d2 := hst3.cell h2
    clear c1
    go_wp2_with fail
    refine (plus_any _ _).mono ?_
    rintro e w4 ⟨rfl, hb4⟩
    subst hb4
    go_wp2_with fail
    go_ret
    exact ⟨rfl, (hst3.weaken hle).toBelow ((en.trans (bel_env hb2)).trans (bel_env hb3))⟩
  · have hk := Bool.eq_false_iff.2 hk
    have HR := Lib.hid (show (if keyOk s then (0 : Int) else 12) = 12 by rw [hk]; rfl)
    go_enter Try.func34, Try.ntmps34
    go_wp2_with fail
    generalize (w.alloc (.cells #[.int .i64 1, .string s, .float .f64 0] 47)) = w1 at *
    generalize w.heap.size = g at *
    refine (word_any _ _).mono ?_
    rintro e w2 ⟨rfl, hb2⟩
    rw [show wordOf 1 = ⟨#[103, 101, 116]⟩ from rfl]
    have hst2 := hst.below hb2
    have c1 := hst2.cell h1
    go_wp2_with fail
    refine (key_any s _ hs).mono ?_
    rintro e w3 ⟨rfl, hb3⟩
    have hst3 := hst2.below hb3
    rw [hk]
    clear c1
    go_wp2_with fail
    go_ret
    exact ⟨rfl, (hst3.weaken hle).toBelow ((en.trans (bel_env hb2)).trans (bel_env hb3))⟩
/-- The one command's cells. -/
def one1 (s : ByteArray) : List Value := [.int .i64 4, .string s, .float .f64 4607182418800017408]
set_option maxRecDepth 100000 in
theorem add_any (s : ByteArray) (w : World) : Calls Try.prog 35 #[.string s] w (ResE (snap w) [] w (fun v => v) (fun v => [Row 47 3 v (one1 s)])) := by
  have h1 := (St.start w).row_lit 47 3 1 #[.int .i64 4, .string s, .float .f64 4607182418800017408] rfl (by decide)
  go_enter Try.func35, Try.ntmps35
  go_wp2_with fail
  go_ret
  exact ⟨_, rfl, h1, (Env.refl w).alloc _⟩
/-- A record's cells: its slot and Seq, its Deps, its Batch. -/
def rc (x : Int × Value × Value) : List Value := [.int .i64 0, .int .i64 x.1, .int .i64 x.1, x.2.1, x.2.2]
def rcs (l : List (Int × Value × Value)) : List Value := l.flatMap rc
theorem rcs_len (l : List (Int × Value × Value)) : (rcs l).length = l.length * 5 := flat_len rc 5 (fun _ => rfl) l
/-- What a record of a chain depends on. -/
def cdep (j : Nat) : List Id := if j = 0 then [] else [(0, (j : Int))]
/-- Record number j is as it must be. -/
def GoodR (H : Hp) (s : ByteArray) (d : List Id) (j : Nat) (x : Int × Value × Value) : Prop := x.1 = j + 1 ∧ Rd H 2 x.2.1 (idl d) ∧ Rd H 3 x.2.2 (one1 s)
theorem GoodR.mono {H H' : Hp} {s : ByteArray} {d : List Id} {j : Nat} {x : Int × Value × Value} (h : GoodR H s d j x) (hl : Hp.le H H') : GoodR H' s d j x := ⟨h.1, h.2.1.mono hl, h.2.2.mono hl⟩
def chainOk (n : Int) (s : ByteArray) : Bool := (decide (1 ≤ n) && decide (n ≤ 64)) && keyOk s
theorem info_rec : (Try.prog.info? 33).map (fun i => (i.zero, i.size, i.bytes)) = some (some (.agg #[.int .i64 0, .int .i64 0, .int .i64 0, .slice none 0 0, .slice none 0 0]), 5, 72) := by kernel_rfl
set_option maxRecDepth 100000 in
set_option maxHeartbeats 1600000 in
theorem chain_yes (n : Nat) (s : ByteArray) (w : World) (h1 : 1 ≤ n) (h64 : n ≤ 64) (hk : keyOk s = true) (hs : s.size ≤ 9223372036854775807) :
    Calls Try.prog 16 #[.int .i64 n, .string s] w fun e w' => ∃ H v L, Hp.le (snap w) H ∧ e = .returned v ∧ St H [Row 33 5 v (rcs L)] w' ∧ Env w w' ∧ L.length = n ∧ ∀ j x, L[j]? = some x → GoodR H s (cdep j) j x := by
  go_enter Try.func16, Try.ntmps16
  go_wp2_with fail
  refine (check_get s _ hs).mono ?_
  rintro e w1 ⟨rfl, hb1⟩
  rw [hk]
  have st1 := (St.start w).below hb1
  have en1 := bel_env hb1
  have st2 := st1.row_nil 33 5
  go_wp2_with fail
  go_loopw [5, 21] (fun l i wr => ∃ (k : Nat) (H : Hp) (L : List (Int × Value × Value)), k ≤ n ∧ i = .int .i64 k ∧ Hp.le (snap w) H ∧ St H [Row 33 5 l (rcs L)] wr ∧ Env w wr ∧ L.length = k ∧ ∀ j x, L[j]? = some x → GoodR H s (cdep j) j x) (fun _ i _ => n - (intOf i).toNat)
  case atStart => exact ⟨0, snap w, [], Nat.zero_le _, rfl, Hp.le_refl _, st2, en1, rfl, fun j x hj => by simp at hj⟩
  case round =>
    obtain ⟨k, H, L, hk', rfl, hle, hst, hen, hL, hG⟩ := hrel
    by_cases hlt : k < n
    · rcases Nat.eq_zero_or_pos k with rfl | hpos
      · go_wp2_with fail
        refine (add_any s _).mono ?_
        rintro e w2 he
        obtain ⟨bv, rfl, h2, en2⟩ := ResE.lift hst he
        obtain ⟨H2, hle2, h3, hB⟩ := St.row_keep h2
        obtain ⟨bA, bn, bc, rfl, hbl, hbn, hbc⟩ := hB.form
        have a1 := h3.alloc (.cells #[.int .i64 0, .int .i64 (0 + 1), .int .i64 (0 + 1), .slice none 0 0, .slice bA bn bc] 33)
        go_wp2_with (at_builtin; refine wpList_append rfl (.tmp 38) (.tmp 40) 23 23 rfl Try.underlying23 (.inl ⟨_, Try.underlying23⟩) (.agg #[.int .i64 0, .int .i64 0, .int .i64 0, .slice none 0 0, .slice none 0 0]) 72 info_rec rfl (by decide) (by decide) rfl rfl (a1.alloc _) (News.newAt _ _ 1 _ _ (by simp) rfl (by simp [Value.oneCell'])) ?apB7 ?apK7)
        try case apB7 => first | omega | (simp; omega) | (simp [rcs_len]; omega) | skip
        intro v' w4 h4 en4
        go_wp2_with fail
        go_roundw
        case rel =>
          have hL0 : L = [] := List.length_eq_zero_iff.1 hL
          subst hL0
          exact ⟨1, H2, [(1, .slice none 0 0, .slice bA bn bc)], by omega, by go_num, Hp.le_trans hle hle2, h4, ((hen.trans en2).alloc _).alloc _ |>.trans en4, rfl, fun j x hj => by
            cases j with
            | zero => simp at hj; subst hj; exact ⟨rfl, Rd.nil _ _, hB⟩
            | succ j => simp at hj⟩
        case measure => simp [intOf]; omega
      · have hk0 : ¬ ((k : Int) ≤ 0) := by omega
        have hk1 : (0 : Int) < k := by omega
        go_wp2_with fail
        refine (add_any s _).mono ?_
        rintro e w2 he
        obtain ⟨bv, rfl, h2, en2⟩ := ResE.lift hst he
        obtain ⟨H2, hle2, h3, hB⟩ := St.row_keep h2
        obtain ⟨bA, bn, bc, rfl, hbl, hbn, hbc⟩ := hB.form
        have a1 := h3.alloc (.cells #[.int .i64 0, .int .i64 (k + 1), .int .i64 (k + 1), .slice (some ⟨w2.heap.size + 1, 0, none⟩) 1 1, .slice bA bn bc] 33)
        have a2 := a1.row_litAt 30 2 1 #[.int .i64 0, .int .i64 k] (w2.heap.size + 1) (by simp) rfl (by decide)
        obtain ⟨H4, hle4, a3, hD⟩ := St.row_keep a2
        go_wp2_with (at_builtin; refine wpList_append rfl (.tmp 38) (.tmp 40) 23 23 rfl Try.underlying23 (.inl ⟨_, Try.underlying23⟩) (.agg #[.int .i64 0, .int .i64 0, .int .i64 0, .slice none 0 0, .slice none 0 0]) 72 info_rec rfl (by decide) (by decide) rfl rfl (a3.alloc _) (News.newAt _ _ 1 _ _ (by simp) rfl (by simp [Value.oneCell'])) ?apB8 ?apK8)
        try case apB8 => first | omega | (simp; omega) | (simp [rcs_len]; omega) | skip
        intro v' w4 h4 en4
        go_wp2_with fail
        go_roundw
        case rel =>
          refine ⟨k + 1, H4, L ++ [((k : Int) + 1, Value.slice (some ⟨w2.heap.size + 1, 0, none⟩) 1 1, Value.slice bA bn bc)], by omega, by go_num, Hp.le_trans (Hp.le_trans hle hle2) hle4, by simpa [rcs, rc] using h4, (((hen.trans en2).alloc _).alloc _).alloc _ |>.trans en4, by simp [hL], fun j x hj => ?_⟩
          rcases Nat.lt_or_ge j L.length with hj' | hj'
          · rw [List.getElem?_append_left hj'] at hj
            exact (hG j x hj).mono (Hp.le_trans hle2 hle4)
          · rw [List.getElem?_append_right hj'] at hj
            obtain rfl : j = k := by
              rcases Nat.eq_zero_or_pos (j - L.length) with h0 | h0
              · omega
              · rw [List.getElem?_eq_none (by simp; omega)] at hj; cases hj
            rw [hL, Nat.sub_self] at hj
            simp only [List.getElem?_cons_zero, Option.some.injEq] at hj
            subst hj
            exact ⟨rfl, by unfold cdep; rw [if_neg (by omega)]; exact hD, hB.mono hle4⟩
        case measure => simp [intOf]; omega
    · go_wp2_with fail
      go_ret
      exact ⟨H, _, L, hle, rfl, hst, hen, by omega, hG⟩
set_option maxRecDepth 100000 in
set_option maxHeartbeats 800000 in
theorem chain_no (n : Int) (s : ByteArray) (w : World) (h : chainOk n s = false) (hs : s.size ≤ 9223372036854775807) :
    Calls Try.prog 16 #[.int .i64 n, .string s] w fun e w' => e = .returned (.slice none 0 0) ∧ Below w.heap.size w w' := by
  by_cases h1 : n < 1
  · go_enter Try.func16, Try.ntmps16
    go_wp2_with fail
    go_ret
    exact ⟨rfl, Below.refl _ _⟩
  · by_cases h2 : 64 < n
    · go_enter Try.func16, Try.ntmps16
      go_wp2_with fail
      go_ret
      exact ⟨rfl, Below.refl _ _⟩
    · have hk : keyOk s = false := by
        unfold chainOk at h
        rw [decide_eq_true (by omega), decide_eq_true (by omega)] at h
        simpa using h
      have h3 : 1 ≤ n := by omega
      have h4 : n ≤ 64 := by omega
      clear h
      go_enter Try.func16, Try.ntmps16
      go_wp2_with fail
      refine (check_get s _ hs).mono ?_
      rintro e w1 ⟨rfl, hb1⟩
      rw [hk]
      go_wp2_with fail
      go_ret
      exact ⟨rfl, hb1⟩
/-- What a record of a ring depends on. -/
def rdep (n j : Nat) : List Id := if j = 0 ∧ 1 < n then [(0, (n : Int))] else cdep j
set_option maxRecDepth 100000 in
set_option maxHeartbeats 800000 in
theorem ring_yes (n : Nat) (s : ByteArray) (w : World) (h1 : 1 ≤ n) (h64 : n ≤ 64) (hk : keyOk s = true) (hs : s.size ≤ 9223372036854775807) :
    Calls Try.prog 17 #[.int .i64 n, .string s] w fun e w' => ∃ H v L, Hp.le (snap w) H ∧ e = .returned v ∧ St H [Row 33 5 v (rcs L)] w' ∧ Env w w' ∧ L.length = n ∧ ∀ j x, L[j]? = some x → GoodR H s (rdep n j) j x := by
  go_enter Try.func17, Try.ntmps17
  go_wp2_with fail
  refine (chain_yes n s w h1 h64 hk hs).mono ?_
  rintro e w1 ⟨H, v, L, hle, rfl, hst, hen, hL, hG⟩
  obtain ⟨A, m, c, rfl, hf1, hf2, hf3⟩ := hst.row_form
  rw [rcs_len] at hf1
  obtain rfl : m = n := by omega
  rcases Nat.lt_or_ge 1 m with hm | hm
  · have hm' : (1 : Int) < m := by omega
    have a2 := hst.row_lit 30 2 1 #[.int .i64 0, .int .i64 m] rfl (by decide)
    obtain ⟨H4, hle4, a3, hD⟩ := St.row_keep a2
    obtain ⟨b, off, rfl, hcx⟩ := a3.row_cells (by omega) (by omega)
    obtain ⟨x0, L', rfl⟩ : ∃ x0 L', L = x0 :: L' := by
      cases L with
      | nil => simp at hL; omega
      | cons x r => exact ⟨x, r, rfl⟩
    have hx3 : (rcs (x0 :: L'))[3]? = some x0.2.1 := rfl
    have c3 := hcx.2.1 3 _ hx3
    have f3 := hcx.2.2 3
    have bl := hcx.1
    have a4 := a3.row_set 3 (by rw [rcs_len]; simp; omega) (.slice (some ⟨w1.heap.size, 0, none⟩) 1 1)
    clear hcx
    go_wp2_with fail
    go_ret
    refine ⟨H4, _, (x0.1, .slice (some ⟨w1.heap.size, 0, none⟩) 1 1, x0.2.2) :: L', Hp.le_trans hle hle4, rfl, a4, (hen.alloc _).setCell _ _, hL, fun j x hj => ?_⟩
    cases j with
    | zero =>
      simp only [List.getElem?_cons_zero, Option.some.injEq] at hj
      subst hj
      have := hG 0 x0 rfl
      exact ⟨this.1, by unfold rdep; rw [if_pos ⟨rfl, hm⟩]; exact hD, this.2.2.mono hle4⟩
    | succ j =>
      have := hG (j + 1) x hj
      unfold rdep
      rw [if_neg (by omega)]
      exact this.mono hle4
  · obtain rfl : m = 1 := by omega
    go_wp2_with fail
    go_ret
    refine ⟨H, _, L, hle, rfl, hst, hen, hL, fun j x hj => ?_⟩
    have := hG j x hj
    unfold rdep
    rw [if_neg (by omega)]
    exact this
set_option maxRecDepth 100000 in
set_option maxHeartbeats 800000 in
theorem ring_no (n : Int) (s : ByteArray) (w : World) (h : chainOk n s = false) (hs : s.size ≤ 9223372036854775807) :
    Calls Try.prog 17 #[.int .i64 n, .string s] w fun e w' => e = .returned (.slice none 0 0) ∧ Below w.heap.size w w' := by
  go_enter Try.func17, Try.ntmps17
  go_wp2_with fail
  refine (chain_no n s w h hs).mono ?_
  rintro e w1 ⟨rfl, hb1⟩
  go_wp2_with fail
  go_ret
  exact ⟨rfl, hb1⟩
end Go.Proofs.Ytohgcghobidfpaa

/- The law of chains and rings: walked. -/
set_option linter.unusedVariables false
set_option linter.unusedSimpArgs false
namespace Go.Proofs.Ytohgcghobidfpaa
open Go.RowKit Go.Cw
attribute [local go_sem ↓] eql_id neq_id
theorem one1_cells (s : ByteArray) : (one1 s)[0]? = some (.int .i64 4) ∧ (one1 s)[1]? = some (.string s) ∧ (one1 s)[2]? = some (.float .f64 4607182418800017408) := ⟨rfl, rfl, rfl⟩
set_option maxRecDepth 100000 in
set_option maxHeartbeats 800000 in
theorem cmdSame_one (s : ByteArray) (w : World) :
    Calls Try.prog 39 #[.agg #[.int .i64 4, .string s, .float .f64 4607182418800017408], .agg #[.int .i64 4, .string s, .float .f64 4607182418800017408]] w fun e w' => e = .returned (.bool true) ∧ Below w.heap.size w w' := by
  have hb := ((Below.refl w.heap.size w).alloc (Nat.le_refl _) (.cells #[.int .i64 4, .string s, .float .f64 4607182418800017408] 47)).alloc (by simp) (.cells #[.int .i64 4, .string s, .float .f64 4607182418800017408] 47)
  go_enter Try.func39, Try.ntmps39
  go_wp2_with fail
  refine (refSame_one _).mono ?_
  rintro e w2 ⟨rfl, hb2⟩
  subst hb2
  go_wp2_with fail
  go_ret
  exact ⟨rfl, hb⟩
set_option maxRecDepth 100000 in
set_option maxHeartbeats 800000 in
theorem batchSame_one (s : ByteArray) (u v : Value) (w : World) (hu : Rw w 3 u (one1 s)) (hv : Rw w 3 v (one1 s)) :
    Calls Try.prog 21 #[u, v] w fun e w' => e = .returned (.bool true) ∧ Below w.heap.size w w' := by
  obtain ⟨A, n, c, rfl, hl, hn, hc⟩ := hu.form
  obtain ⟨A', n', c', rfl, hl', hn', hc'⟩ := hv.form
  have hl3 : (one1 s).length = 3 := rfl
  obtain rfl : n = 1 := by omega
  obtain rfl : n' = 1 := by omega
  obtain ⟨b, off, rfl, hcu⟩ := hu.cells (by omega)
  obtain ⟨b', off', rfl, hcv⟩ := hv.cells (by omega)
  have u0 := hcu 0 _ (one1_cells s).1
  have u1 := hcu 1 _ (one1_cells s).2.1
  have u2 := hcu 2 _ (one1_cells s).2.2
  have v0 := hcv 0 _ (one1_cells s).1
  have v1 := hcv 1 _ (one1_cells s).2.1
  have v2 := hcv 2 _ (one1_cells s).2.2
  simp only [Nat.add_zero] at u0 v0
  clear hcu hcv hl hl' hl3
  go_enter Try.func21, Try.ntmps21
  go_wp2_with fail
  go_loopw [5] (fun i wr => ∃ k : Nat, k ≤ 1 ∧ i = .int .i64 k ∧ Below w.heap.size w wr ∧ (k = 0 → wr = w)) (fun i _ => 1 - (intOf i).toNat)
  case atStart => exact ⟨0, by omega, rfl, Below.refl _ _, fun _ => rfl⟩
  case round =>
    obtain ⟨k, hk, rfl, hb, hw⟩ := hrel
    rcases Nat.lt_or_ge k 1 with h1 | h1
    · obtain rfl : k = 0 := by omega
      have hw := hw rfl
      subst hw
      clear hb
      go_wp2_with fail
      go_still_tail 8, (by kernel_rfl)
      change wpList _ _ _ _ _ wr.drew
      go_wp2_with fail
      refine (cmdSame_one s _).mono ?_
      rintro e w2 ⟨rfl, hb2⟩
      go_wp2_with fail
      go_roundw
      case rel => exact ⟨1, by omega, by go_num, (bel_drewN (Below.refl _ _) 1).trans hb2, by simp⟩
      case measure => simp [intOf]
    · obtain rfl : k = 1 := by omega
      go_wp2_with fail
      go_ret
      exact ⟨rfl, hb⟩
set_option maxRecDepth 100000 in
set_option maxHeartbeats 800000 in
theorem recSame_one (s : ByteArray) (m : Int) (d : List Id) (u v u' v' : Value) (w : World) (hu : Rw w 2 u (idl d)) (hv : Rw w 3 v (one1 s)) (hu' : Rw w 2 u' (idl d)) (hv' : Rw w 3 v' (one1 s)) :
    Calls Try.prog 7 #[.agg #[.int .i64 0, .int .i64 m, .int .i64 m, u, v], .agg #[.int .i64 0, .int .i64 m, .int .i64 m, u', v']] w fun e w' => e = .returned (.bool true) ∧ Below w.heap.size w w' := by
  have hid : idEq 0 m 0 m = true := by simp [idEq]
  have q1 := hu.alloc (.cells #[.int .i64 0, .int .i64 m, .int .i64 m, u, v] 33) |>.alloc (.cells #[.int .i64 0, .int .i64 m, .int .i64 m, u', v'] 33)
  have q2 := hv.alloc (.cells #[.int .i64 0, .int .i64 m, .int .i64 m, u, v] 33) |>.alloc (.cells #[.int .i64 0, .int .i64 m, .int .i64 m, u', v'] 33)
  have q3 := hu'.alloc (.cells #[.int .i64 0, .int .i64 m, .int .i64 m, u, v] 33) |>.alloc (.cells #[.int .i64 0, .int .i64 m, .int .i64 m, u', v'] 33)
  have q4 := hv'.alloc (.cells #[.int .i64 0, .int .i64 m, .int .i64 m, u, v] 33) |>.alloc (.cells #[.int .i64 0, .int .i64 m, .int .i64 m, u', v'] 33)
  obtain ⟨H1, l1, s1, c1⟩ := (St.start w).box #[.int .i64 0, .int .i64 m, .int .i64 m, u, v] 33
  obtain ⟨H2, l2, s2, c2⟩ := s1.box #[.int .i64 0, .int .i64 m, .int .i64 m, u', v'] 33
  have hle := Hp.le_trans l1 l2
  have en : Env w ((w.alloc (.cells #[.int .i64 0, .int .i64 m, .int .i64 m, u, v] 33)).alloc (.cells #[.int .i64 0, .int .i64 m, .int .i64 m, u', v'] 33)) := ((Env.refl w).alloc _).alloc _
  have x2 := Hp.cell_le l2 (c1 3 _ rfl)
  have x3 := Hp.cell_le l2 (c1 4 _ rfl)
  have y2 := c2 3 _ rfl
  have y3 := c2 4 _ rfl
  have hz : (w.alloc (.cells #[.int .i64 0, .int .i64 m, .int .i64 m, u, v] 33)).heap.size = w.heap.size + 1 := by simp
  rw [hz] at y2 y3
  clear c1 c2 s1 hz
  obtain ⟨A, n, c, rfl, _, _, _⟩ := hu.form
  obtain ⟨B, n2, c2, rfl, _, _, _⟩ := hv.form
  obtain ⟨A', n', c', rfl, _, _, _⟩ := hu'.form
  obtain ⟨B', n2', c2', rfl, _, _, _⟩ := hv'.form
  go_enter Try.func7, Try.ntmps7
  go_wp2_with fail
  generalize ((w.alloc (.cells #[.int .i64 0, .int .i64 m, .int .i64 m, .slice A n c, .slice B n2 c2] 33)).alloc (.cells #[.int .i64 0, .int .i64 m, .int .i64 m, .slice A' n' c', .slice B' n2' c2'] 33)) = w1 at *
  refine (sameIds_any _ _ d d _ q1 q3).mono ?_
  rintro e w2 ⟨rfl, hb2⟩
  rw [decide_eq_true rfl]
  have s3 := s2.below hb2
  have x3 := s3.cell x3
  have y3 := s3.cell y3
  go_wp2_with fail
  refine (batchSame_one s _ _ _ (q2.below hb2) (q4.below hb2)).mono ?_
  rintro e w3 ⟨rfl, hb3⟩
  go_wp2_with fail
  go_ret
  exact ⟨rfl, ((s3.below hb3).weaken hle).toBelow ((en.trans (bel_env hb2)).trans (bel_env hb3))⟩
theorem snap_le {w w' : World} (hb : Below w.heap.size w w') : Hp.le (snap w) (snap w') := fun k o hk => by
  have hlt : k < w.heap.size := (Array.getElem?_eq_some_iff.1 hk).1
  exact (hb.block k hlt).trans hk
theorem GoodR.snap {H : Hp} {s : ByteArray} {d : List Id} {j : Nat} {x : Int × Value × Value} {l : List HA} {w : World} (h : GoodR H s d j x) (hst : St H l w) : GoodR (snap w) s d j x := ⟨h.1, (h.2.1.rw hst).rd, (h.2.2.rw hst).rd⟩
theorem chain_at (n : Nat) (s : ByteArray) (w : World) (h1 : 1 ≤ n) (h64 : n ≤ 64) (hk : keyOk s = true) (hs : s.size ≤ 9223372036854775807) :
    Calls Try.prog 16 #[.int .i64 n, .string s] w fun e w' => ∃ v L, e = .returned v ∧ Below w.heap.size w w' ∧ Rw w' 5 v (rcs L) ∧ L.length = n ∧ ∀ j x, L[j]? = some x → GoodR (snap w') s (cdep j) j x := by
  refine (chain_yes n s w h1 h64 hk hs).mono ?_
  rintro e w1 ⟨H, v, L, hle, rfl, hst, hen, hL, hG⟩
  obtain ⟨H', hle', hst', hR⟩ := hst.row_keep
  exact ⟨v, L, rfl, (hst.weaken hle).toBelow hen, hR.rw hst', hL, fun j x hj => (hG j x hj).snap hst⟩
theorem ring_at (n : Nat) (s : ByteArray) (w : World) (h1 : 1 ≤ n) (h64 : n ≤ 64) (hk : keyOk s = true) (hs : s.size ≤ 9223372036854775807) :
    Calls Try.prog 17 #[.int .i64 n, .string s] w fun e w' => ∃ v L, e = .returned v ∧ Below w.heap.size w w' ∧ Rw w' 5 v (rcs L) ∧ L.length = n ∧ ∀ j x, L[j]? = some x → GoodR (snap w') s (rdep n j) j x := by
  refine (ring_yes n s w h1 h64 hk hs).mono ?_
  rintro e w1 ⟨H, v, L, hle, rfl, hst, hen, hL, hG⟩
  obtain ⟨H', hle', hst', hR⟩ := hst.row_keep
  exact ⟨v, L, rfl, (hst.weaken hle).toBelow hen, hR.rw hst', hL, fun j x hj => (hG j x hj).snap hst⟩
/-- Cells of record number j. -/
theorem rcs_get (l : List (Int × Value × Value)) (j : Nat) (x : Int × Value × Value) (h : l[j]? = some x) : (rcs l)[j * 5]? = some (.int .i64 0) ∧ (rcs l)[j * 5 + 1]? = some (.int .i64 x.1) ∧ (rcs l)[j * 5 + 2]? = some (.int .i64 x.1) ∧ (rcs l)[j * 5 + 3]? = some x.2.1 ∧ (rcs l)[j * 5 + 4]? = some x.2.2 := by
  obtain ⟨hj, rfl⟩ := List.getElem?_eq_some_iff.1 h
  have := fun i hi => flat_get rc 5 (fun _ => rfl) l j i hj hi
  exact ⟨this 0 (by omega), this 1 (by omega), this 2 (by omega), this 3 (by omega), this 4 (by omega)⟩
set_option maxRecDepth 100000 in
set_option maxHeartbeats 800000 in
theorem works32 (w : World) : Calls Try.prog 5 #[] w fun e w' => e = .returned (.bool true) ∧ Below w.heap.size w w' := by
  go_enter Try.func5, Try.ntmps5
  go_wp2_with fail
  refine (chain_at 2 ⟨#[107]⟩ w (by decide) (by decide) (by decide +kernel) (by decide)).mono ?_
  rintro e w1 ⟨v1, L1, rfl, hb1, hr1, hl1, hg1⟩
  go_wp2_with fail
  refine (ring_at 3 ⟨#[107]⟩ w1 (by decide) (by decide) (by decide +kernel) (by decide)).mono ?_
  rintro e w2 ⟨v2, L2, rfl, hb2, hr2, hl2, hg2⟩
  have hr1' := hr1.below hb2
  have hs := snap_le hb2
  obtain ⟨x1, hx1⟩ : ∃ x, L1[1]? = some x := ⟨_, List.getElem?_eq_getElem (by omega)⟩
  obtain ⟨x2, hx2⟩ : ∃ x, L2[0]? = some x := ⟨_, List.getElem?_eq_getElem (by omega)⟩
  obtain ⟨_, hd1, _⟩ := (hg1 1 x1 hx1).mono hs
  obtain ⟨_, hd2, _⟩ := hg2 0 x2 hx2
  obtain ⟨A1, n1, c1, rfl, e1, _, _⟩ := hr1'.form
  obtain ⟨A2, n2, c2, rfl, e2, _, _⟩ := hr2.form
  rw [rcs_len] at e1 e2
  obtain rfl : n1 = 2 := by omega
  obtain rfl : n2 = 3 := by omega
  obtain ⟨b1, o1, rfl, hc1⟩ := hr1'.cells (by omega)
  obtain ⟨b2, o2, rfl, hc2⟩ := hr2.cells (by omega)
  have k1 := hc1 _ _ (rcs_get L1 1 x1 hx1).2.2.2.1
  have k2 := hc2 _ _ (rcs_get L2 0 x2 hx2).2.2.2.1
  rw [← Nat.add_assoc] at k1 k2
  simp only [Nat.zero_mul, Nat.add_zero] at k2
  have lt1 := World.block_lt_of_cell? _ _ k1
  have lt2 := World.block_lt_of_cell? _ _ k2
  obtain ⟨D1, dn1, dc1, hD1, _, _, _⟩ := hd1.form
  obtain ⟨D2, dn2, dc2, hD2, hdl, _, _⟩ := hd2.form
  obtain rfl : dn2 = 1 := by
    have : (idl (rdep 3 0)).length = 2 := rfl
    omega
  have hrd1 := hd1.rw (St.start w2)
  rw [hD1] at k1 hrd1
  rw [hD2] at k2
  have a1 := (St.start w2).row_lit 30 2 1 #[.int .i64 0, .int .i64 1] rfl (by decide)
  go_wp2_with fail
  refine (sameIds_any _ _ [(0, 1)] [(0, 1)] _ (hrd1.alloc _) (a1.row_rw (by decide))).mono ?_
  rintro e w3 ⟨rfl, hb3⟩
  rw [decide_eq_true rfl]
  have hbb : Below w2.heap.size w2 w3 := by
    have := (St.start w2).alloc (.cells #[.int .i64 0, .int .i64 1] 30) |>.below hb3
    exact this.toBelow (((Env.refl w2).alloc _).trans (bel_env hb3))
  have k2 := (hbb.cell (p := ⟨b2, o2 + 3, none⟩) lt2).trans k2
  go_wp2_with fail
  go_ret
  exact ⟨rfl, ((St.start w2).below hbb |>.weaken (Hp.le_trans (snap_le hb1) (snap_le hb2))).toBelow (((bel_env hb1).trans (bel_env hb2)).trans (bel_env hbb))⟩
/-- One round of the law: the record that must be, and what there is. -/
theorem St.blkAt {H : Hp} {l : List HA} {w : World} (h : St H l w) (cs : Array Value) (t : TypeId) (g : Nat) (hg : g = w.heap.size) : St H (Blk g cs t :: l) (w.alloc (.cells cs t)) := by
  subst hg
  exact h.blk cs t
end Go.Proofs.Ytohgcghobidfpaa
