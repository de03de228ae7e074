/- Chains and rings: contracts of cmd.Check at a get, gen.add, gen.Chain, gen.Ring. -/
import Derived.Test.YtmdmekdmlkhchaaFloat
set_option linter.unusedVariables false
set_option linter.unusedSimpArgs false
namespace Go.Proofs.Ytmdmekdmlkhchaa
open Go.RowKit Go.Cw

set_option maxRecDepth 100000 in
set_option maxHeartbeats 800000 in
theorem check_get (s : ByteArray) (w : World) (hs : s.size ≤ 9223372036854775807) :
    Calls Try.prog 93 #[.agg #[.int .i64 1, .string s, .float .f64 0]] w fun e w' => e = .returned (.int .i64 (if keyOk s then 0 else 12)) ∧ Below w.heap.size w w' := by
  obtain ⟨H, hle, hst, hc⟩ := (St.start w).box #[.int .i64 1, .string s, .float .f64 0] 45
  have h0 := hc 0 _ rfl
  have h1 := hc 1 _ rfl
  have h2 := hc 2 _ rfl
  have en := (Env.refl w).alloc (.cells #[.int .i64 1, .string s, .float .f64 0] 45)
  clear hc
  by_cases hk : keyOk s = true
  · have HR := Lib.hid (show (if keyOk s then (0 : Int) else 12) = 0 by rw [hk]; rfl)
    go_enter Try.func93, Try.ntmps93
    go_wp2_with fail
    generalize (w.alloc (.cells #[.int .i64 1, .string s, .float .f64 0] 45)) = w1 at *
    generalize w.heap.size = g at *
    refine (word_any _ _).mono ?_
    rintro e w2 ⟨rfl, hb2⟩
    rw [show wordOf 1 = ⟨#[103, 101, 116]⟩ from rfl]
    have hst2 := hst.below hb2
    have c1 := hst2.cell h1
    go_wp2_with fail
    refine (key_any s _ hs).mono ?_
    rintro e w3 ⟨rfl, hb3⟩
    have hst3 := hst2.below hb3
    rw [hk]
    have d0 := hst3.cell h0
    have d2 := hst3.cell h2
    clear c1
    go_wp2_with fail
    refine (plus_any _ _).mono ?_
    rintro e w4 ⟨rfl, hb4⟩
    subst hb4
    go_wp2_with fail
    go_ret
    exact ⟨rfl, (hst3.weaken hle).toBelow ((en.trans (bel_env hb2)).trans (bel_env hb3))⟩
  · have hk := Bool.eq_false_iff.2 hk
    have HR := Lib.hid (show (if keyOk s then (0 : Int) else 12) = 12 by rw [hk]; rfl)
    go_enter Try.func93, Try.ntmps93
    go_wp2_with fail
    generalize (w.alloc (.cells #[.int .i64 1, .string s, .float .f64 0] 45)) = w1 at *
    generalize w.heap.size = g at *
    refine (word_any _ _).mono ?_
    rintro e w2 ⟨rfl, hb2⟩
    rw [show wordOf 1 = ⟨#[103, 101, 116]⟩ from rfl]
    have hst2 := hst.below hb2
    have c1 := hst2.cell h1
    go_wp2_with fail
    refine (key_any s _ hs).mono ?_
    rintro e w3 ⟨rfl, hb3⟩
    have hst3 := hst2.below hb3
    rw [hk]
    clear c1
    go_wp2_with fail
    go_ret
    exact ⟨rfl, (hst3.weaken hle).toBelow ((en.trans (bel_env hb2)).trans (bel_env hb3))⟩
/-- The one command's cells. -/
def one1 (s : ByteArray) : List Value := [.int .i64 4, .string s, .float .f64 4607182418800017408]
set_option maxRecDepth 100000 in
theorem add_any (s : ByteArray) (w : World) : Calls Try.prog 94 #[.string s] w (ResE (snap w) [] w (fun v => v) (fun v => [Row 45 3 v (one1 s)])) := by
  have h1 := (St.start w).row_lit 45 3 1 #[.int .i64 4, .string s, .float .f64 4607182418800017408] rfl (by decide)
  go_enter Try.func94, Try.ntmps94
  go_wp2_with fail
  go_ret
  exact ⟨_, rfl, h1, (Env.refl w).alloc _⟩
/-- A record's cells: its slot and Seq, its Deps, its Batch. -/
def rc (x : Int × Value × Value) : List Value := [.int .i64 0, .int .i64 x.1, .int .i64 x.1, x.2.1, x.2.2]
def rcs (l : List (Int × Value × Value)) : List Value := l.flatMap rc
theorem rcs_len (l : List (Int × Value × Value)) : (rcs l).length = l.length * 5 := flat_len rc 5 (fun _ => rfl) l
/-- What a record of a chain depends on. -/
def cdep (j : Nat) : List Id := if j = 0 then [] else [(0, (j : Int))]
/-- Record number j is as it must be. -/
def GoodR (H : Hp) (s : ByteArray) (d : List Id) (j : Nat) (x : Int × Value × Value) : Prop := x.1 = j + 1 ∧ Rd H 2 x.2.1 (idl d) ∧ Rd H 3 x.2.2 (one1 s)
theorem GoodR.mono {H H' : Hp} {s : ByteArray} {d : List Id} {j : Nat} {x : Int × Value × Value} (h : GoodR H s d j x) (hl : Hp.le H H') : GoodR H' s d j x := ⟨h.1, h.2.1.mono hl, h.2.2.mono hl⟩
def chainOk (n : Int) (s : ByteArray) : Bool := (decide (1 ≤ n) && decide (n ≤ 64)) && keyOk s
theorem info_rec : (Try.prog.info? 49).map (fun i => (i.zero, i.size, i.bytes)) = some (some (.agg #[.int .i64 0, .int .i64 0, .int .i64 0, .slice none 0 0, .slice none 0 0]), 5, 72) := by kernel_rfl
set_option maxRecDepth 100000 in
set_option maxHeartbeats 1600000 in
theorem chain_yes (n : Nat) (s : ByteArray) (w : World) (h1 : 1 ≤ n) (h64 : n ≤ 64) (hk : keyOk s = true) (hs : s.size ≤ 9223372036854775807) :
    Calls Try.prog 25 #[.int .i64 n, .string s] w fun e w' => ∃ H v L, Hp.le (snap w) H ∧ e = .returned v ∧ St H [Row 49 5 v (rcs L)] w' ∧ Env w w' ∧ L.length = n ∧ ∀ j x, L[j]? = some x → GoodR H s (cdep j) j x := by
  go_enter Try.func25, Try.ntmps25
  go_wp2_with fail
  refine (check_get s _ hs).mono ?_
  rintro e w1 ⟨rfl, hb1⟩
  rw [hk]
  have st1 := (St.start w).below hb1
  have en1 := bel_env hb1
  have st2 := st1.row_nil 49 5
  go_wp2_with fail
  go_loopw [5, 21] (fun l i wr => ∃ (k : Nat) (H : Hp) (L : List (Int × Value × Value)), k ≤ n ∧ i = .int .i64 k ∧ Hp.le (snap w) H ∧ St H [Row 49 5 l (rcs L)] wr ∧ Env w wr ∧ L.length = k ∧ ∀ j x, L[j]? = some x → GoodR H s (cdep j) j x) (fun _ i _ => n - (intOf i).toNat)
  case atStart => exact ⟨0, snap w, [], Nat.zero_le _, rfl, Hp.le_refl _, st2, en1, rfl, fun j x hj => by simp at hj⟩
  case round =>
    obtain ⟨k, H, L, hk', rfl, hle, hst, hen, hL, hG⟩ := hrel
    by_cases hlt : k < n
    · rcases Nat.eq_zero_or_pos k with rfl | hpos
      · go_wp2_with fail
        refine (add_any s _).mono ?_
        rintro e w2 he
        obtain ⟨bv, rfl, h2, en2⟩ := ResE.lift hst he
        obtain ⟨H2, hle2, h3, hB⟩ := St.row_keep h2
        obtain ⟨bA, bn, bc, rfl, hbl, hbn, hbc⟩ := hB.form
        have a1 := h3.alloc (.cells #[.int .i64 0, .int .i64 (0 + 1), .int .i64 (0 + 1), .slice none 0 0, .slice bA bn bc] 49)
        go_wp2_with (at_builtin; refine wpList_append rfl (.tmp 38) (.tmp 40) 38 38 rfl Try.underlying38 (.inl ⟨_, Try.underlying38⟩) (.agg #[.int .i64 0, .int .i64 0, .int .i64 0, .slice none 0 0, .slice none 0 0]) 72 info_rec rfl (by decide) (by decide) rfl rfl (a1.alloc _) (News.newAt _ _ 1 _ _ (by simp) rfl (by simp [Value.oneCell'])) ?apB7 ?apK7)
        case apB7 => first | omega | (simp; omega) | (simp [rcs_len]; omega) | skip
        intro v' w4 h4 en4
        go_wp2_with fail
        go_roundw
        case rel =>
          have hL0 : L = [] := List.length_eq_zero_iff.1 hL
          subst hL0
          exact ⟨1, H2, [(1, .slice none 0 0, .slice bA bn bc)], by omega, by go_num, Hp.le_trans hle hle2, h4, ((hen.trans en2).alloc _).alloc _ |>.trans en4, rfl, fun j x hj => by
            cases j with
            | zero => simp at hj; subst hj; exact ⟨rfl, Rd.nil _ _, hB⟩
            | succ j => simp at hj⟩
        case measure => simp [intOf]; omega
      · have hk0 : ¬ ((k : Int) ≤ 0) := by omega
        have hk1 : (0 : Int) < k := by omega
        go_wp2_with fail
        refine (add_any s _).mono ?_
        rintro e w2 he
        obtain ⟨bv, rfl, h2, en2⟩ := ResE.lift hst he
        obtain ⟨H2, hle2, h3, hB⟩ := St.row_keep h2
        obtain ⟨bA, bn, bc, rfl, hbl, hbn, hbc⟩ := hB.form
        have a1 := h3.alloc (.cells #[.int .i64 0, .int .i64 (k + 1), .int .i64 (k + 1), .slice (some ⟨w2.heap.size + 1, 0, none⟩) 1 1, .slice bA bn bc] 49)
        have a2 := a1.row_litAt 42 2 1 #[.int .i64 0, .int .i64 k] (w2.heap.size + 1) (by simp) rfl (by decide)
        obtain ⟨H4, hle4, a3, hD⟩ := St.row_keep a2
        go_wp2_with (at_builtin; refine wpList_append rfl (.tmp 38) (.tmp 40) 38 38 rfl Try.underlying38 (.inl ⟨_, Try.underlying38⟩) (.agg #[.int .i64 0, .int .i64 0, .int .i64 0, .slice none 0 0, .slice none 0 0]) 72 info_rec rfl (by decide) (by decide) rfl rfl (a3.alloc _) (News.newAt _ _ 1 _ _ (by simp) rfl (by simp [Value.oneCell'])) ?apB8 ?apK8)
        case apB8 => first | omega | (simp; omega) | (simp [rcs_len]; omega) | skip
        intro v' w4 h4 en4
        go_wp2_with fail
        go_roundw
        case rel =>
          refine ⟨k + 1, H4, L ++ [((k : Int) + 1, Value.slice (some ⟨w2.heap.size + 1, 0, none⟩) 1 1, Value.slice bA bn bc)], by omega, by go_num, Hp.le_trans (Hp.le_trans hle hle2) hle4, by simpa [rcs, rc] using h4, (((hen.trans en2).alloc _).alloc _).alloc _ |>.trans en4, by simp [hL], fun j x hj => ?_⟩
          rcases Nat.lt_or_ge j L.length with hj' | hj'
          · rw [List.getElem?_append_left hj'] at hj
            exact (hG j x hj).mono (Hp.le_trans hle2 hle4)
          · rw [List.getElem?_append_right hj'] at hj
            obtain rfl : j = k := by
              rcases Nat.eq_zero_or_pos (j - L.length) with h0 | h0
              · omega
              · rw [List.getElem?_eq_none (by simp; omega)] at hj; cases hj
            rw [hL, Nat.sub_self] at hj
            simp only [List.getElem?_cons_zero, Option.some.injEq] at hj
            subst hj
            exact ⟨rfl, by unfold cdep; rw [if_neg (by omega)]; exact hD, hB.mono hle4⟩
        case measure => simp [intOf]; omega
    · go_wp2_with fail
      go_ret
      exact ⟨H, _, L, hle, rfl, hst, hen, by omega, hG⟩
set_option maxRecDepth 100000 in
set_option maxHeartbeats 800000 in
theorem chain_no (n : Int) (s : ByteArray) (w : World) (h : chainOk n s = false) (hs : s.size ≤ 9223372036854775807) :
    Calls Try.prog 25 #[.int .i64 n, .string s] w fun e w' => e = .returned (.slice none 0 0) ∧ Below w.heap.size w w' := by
  by_cases h1 : n < 1
  · go_enter Try.func25, Try.ntmps25
    go_wp2_with fail
    go_ret
    exact ⟨rfl, Below.refl _ _⟩
  · by_cases h2 : 64 < n
    · go_enter Try.func25, Try.ntmps25
      go_wp2_with fail
      go_ret
      exact ⟨rfl, Below.refl _ _⟩
    · have hk : keyOk s = false := by
        unfold chainOk at h
        rw [decide_eq_true (by omega), decide_eq_true (by omega)] at h
        simpa using h
      have h3 : 1 ≤ n := by omega
      have h4 : n ≤ 64 := by omega
      clear h
      go_enter Try.func25, Try.ntmps25
      go_wp2_with fail
      refine (check_get s _ hs).mono ?_
      rintro e w1 ⟨rfl, hb1⟩
      rw [hk]
      go_wp2_with fail
      go_ret
      exact ⟨rfl, hb1⟩
/-- What a record of a ring depends on. -/
def rdep (n j : Nat) : List Id := if j = 0 ∧ 1 < n then [(0, (n : Int))] else cdep j
set_option maxRecDepth 100000 in
set_option maxHeartbeats 800000 in
theorem ring_yes (n : Nat) (s : ByteArray) (w : World) (h1 : 1 ≤ n) (h64 : n ≤ 64) (hk : keyOk s = true) (hs : s.size ≤ 9223372036854775807) :
    Calls Try.prog 26 #[.int .i64 n, .string s] w fun e w' => ∃ H v L, Hp.le (snap w) H ∧ e = .returned v ∧ St H [Row 49 5 v (rcs L)] w' ∧ Env w w' ∧ L.length = n ∧ ∀ j x, L[j]? = some x → GoodR H s (rdep n j) j x := by
  go_enter Try.func26, Try.ntmps26
  go_wp2_with fail
  refine (chain_yes n s w h1 h64 hk hs).mono ?_
  rintro e w1 ⟨H, v, L, hle, rfl, hst, hen, hL, hG⟩
  obtain ⟨A, m, c, rfl, hf1, hf2, hf3⟩ := hst.row_form
  rw [rcs_len] at hf1
  obtain rfl : m = n := by omega
  rcases Nat.lt_or_ge 1 m with hm | hm
  · have hm' : (1 : Int) < m := by omega
    have a2 := hst.row_lit 42 2 1 #[.int .i64 0, .int .i64 m] rfl (by decide)
    obtain ⟨H4, hle4, a3, hD⟩ := St.row_keep a2
    obtain ⟨b, off, rfl, hcx⟩ := a3.row_cells (by omega) (by omega)
    obtain ⟨x0, L', rfl⟩ : ∃ x0 L', L = x0 :: L' := by
      cases L with
      | nil => simp at hL; omega
      | cons x r => exact ⟨x, r, rfl⟩
    have hx3 : (rcs (x0 :: L'))[3]? = some x0.2.1 := rfl
    have c3 := hcx.2.1 3 _ hx3
    have f3 := hcx.2.2 3
    have bl := hcx.1
    have a4 := a3.row_set 3 (by rw [rcs_len]; simp; omega) (.slice (some ⟨w1.heap.size, 0, none⟩) 1 1)
    clear hcx
    go_wp2_with fail
    go_ret
    refine ⟨H4, _, (x0.1, .slice (some ⟨w1.heap.size, 0, none⟩) 1 1, x0.2.2) :: L', Hp.le_trans hle hle4, rfl, a4, (hen.alloc _).setCell _ _, hL, fun j x hj => ?_⟩
    cases j with
    | zero =>
      simp only [List.getElem?_cons_zero, Option.some.injEq] at hj
      subst hj
      have := hG 0 x0 rfl
      exact ⟨this.1, by unfold rdep; rw [if_pos ⟨rfl, hm⟩]; exact hD, this.2.2.mono hle4⟩
    | succ j =>
      have := hG (j + 1) x hj
      unfold rdep
      rw [if_neg (by omega)]
      exact this.mono hle4
  · obtain rfl : m = 1 := by omega
    go_wp2_with fail
    go_ret
    refine ⟨H, _, L, hle, rfl, hst, hen, hL, fun j x hj => ?_⟩
    have := hG j x hj
    unfold rdep
    rw [if_neg (by omega)]
    exact this
set_option maxRecDepth 100000 in
set_option maxHeartbeats 800000 in
theorem ring_no (n : Int) (s : ByteArray) (w : World) (h : chainOk n s = false) (hs : s.size ≤ 9223372036854775807) :
    Calls Try.prog 26 #[.int .i64 n, .string s] w fun e w' => e = .returned (.slice none 0 0) ∧ Below w.heap.size w w' := by
  go_enter Try.func26, Try.ntmps26
  go_wp2_with fail
  refine (chain_no n s w h hs).mono ?_
  rintro e w1 ⟨rfl, hb1⟩
  go_wp2_with fail
  go_ret
  exact ⟨rfl, hb1⟩
end Go.Proofs.Ytmdmekdmlkhchaa
