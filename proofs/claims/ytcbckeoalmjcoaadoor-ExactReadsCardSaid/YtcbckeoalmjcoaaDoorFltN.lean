/- Numbers by their odd factor and power: halved, doubled, whole or not; comparison with 2^53. Plain. -/
import Derived.Test.YtcbckeoalmjcoaaDoorParts
set_option linter.unusedVariables false
set_option linter.unusedSimpArgs false
set_option exponentiation.threshold 3000
namespace Go.Fl
open Ieee
def p53 : Nat := 4845873199050653696
def n53 : Nat := 14069245235905429504
theorem rung_p53 : rung p53 = p53 ∧ neg p53 = false ∧ rung n53 = p53 ∧ neg n53 = true := by decide
theorem p53_top : p53 < top := by decide
/-- 2^53 in the least number's measure. -/
def lim : Nat := 2 ^ (53 + un)
theorem V_p53 : V p53 = lim := by
  have h := V_at (c := 1076) (f := 0) (by decide) (by decide)
  rw [show 1076 * B + 0 = p53 from by decide] at h
  rw [h, B_pow, Nat.add_zero, ← Nat.pow_add]
  rfl
theorem ge53 {b : Nat} (hb : rung b < top) : (FloatKind.f64.format.order b 4845873199050653696 == some Ordering.gt || FloatKind.f64.format.order b 4845873199050653696 == some Ordering.eq) = (!neg b && decide (lim ≤ V (rung b))) := by
  have h : FloatKind.f64.format.order b 4845873199050653696 = some (compare (IV b) (IV p53)) := order_num (b := p53) hb (by rw [rung_p53.1]; exact p53_top)
  rw [h, some_beq, some_beq]
  obtain ⟨c1, c2, c3⟩ := cmp_int (IV b) (IV p53)
  have e1 : IV p53 = (lim : Int) := by unfold IV; rw [rung_p53.1, rung_p53.2.1, V_p53]; rfl
  have hl : 0 < lim := Nat.two_pow_pos _
  rw [e1] at c1 c3 ⊢
  rw [Bool.eq_iff_iff]
  simp only [Bool.or_eq_true, decide_eq_true_eq, c1, c3, Bool.and_eq_true, Bool.not_eq_true']
  unfold IV
  cases neg b <;> simp <;> omega
theorem le53 {b : Nat} (hb : rung b < top) : (FloatKind.f64.format.order b 14069245235905429504 == some Ordering.lt || FloatKind.f64.format.order b 14069245235905429504 == some Ordering.eq) = (neg b && decide (lim ≤ V (rung b))) := by
  have h : FloatKind.f64.format.order b 14069245235905429504 = some (compare (IV b) (IV n53)) := order_num (b := n53) hb (by rw [rung_p53.2.2.1]; exact p53_top)
  rw [h, some_beq, some_beq]
  obtain ⟨c1, c2, c3⟩ := cmp_int (IV b) (IV n53)
  have e1 : IV n53 = -(lim : Int) := by unfold IV; rw [rung_p53.2.2.1, rung_p53.2.2.2, V_p53]; rfl
  have hl : 0 < lim := Nat.two_pow_pos _
  rw [e1] at c2 c3 ⊢
  rw [Bool.eq_iff_iff]
  simp only [Bool.or_eq_true, decide_eq_true_eq, c2, c3, Bool.and_eq_true]
  unfold IV
  cases neg b <;> simp <;> omega
theorem u53 {u : Nat} (h : u < 9007199254740992) : u < 2 ^ 53 := h
/-- A number of which the odd factor and the power are known. -/
structure Odd (s : Bool) (u t b : Nat) : Prop where
  lt : b < 18446744073709551616
  fin : rung b < top
  sgn : neg b = s
  odd : u % 2 = 1
  small : u < 9007199254740992
  v : V (rung b) = u * 2 ^ t
theorem Odd.ne {s : Bool} {u t b : Nat} (h : Odd s u t b) : rung b ≠ 0 := fun e => by
  have h1 := h.v
  rw [V_zero.2 e] at h1
  have h2 := h.odd
  have : 0 < u * 2 ^ t := Nat.mul_pos (by omega) (Nat.two_pow_pos _)
  omega
theorem Odd.self {s : Bool} {u t b c : Nat} (h : Odd s u t b) (h' : Odd s u t c) : b = c :=
  rung_neg h.lt h'.lt (V_inj (h.v.trans h'.v.symm)) (h.sgn.trans h'.sgn.symm)
theorem Odd.of {s : Bool} {u t : Nat} (ho : u % 2 = 1) (hu : u < 9007199254740992) (ht : u * 2 ^ t < 2 ^ xt) : ∃ b, Odd s u t b := by
  obtain ⟨r, h1, h2⟩ := rep (u53 hu) ht
  obtain ⟨g1, g2, g3⟩ := word_rung (s := s) (Nat.lt_trans h1 (show top < half by decide))
  exact ⟨double.word s r, g3, by rw [g1]; exact h1, g2, ho, hu, by rw [g1]; exact h2⟩
theorem Odd.top {s : Bool} {u t b : Nat} (h : Odd s u t b) : u * 2 ^ t < 2 ^ xt := by rw [← h.v, ← V_top]; exact V_inj_lt h.fin
theorem Odd.down {s : Bool} {u t b : Nat} (h : Odd s u (t + 1) b) : ∃ c, Odd s u t c ∧ FloatKind.f64.format.div b 4611686018427387904 = some c := by
  obtain ⟨r, h1, h2⟩ := rep (k := t) (u53 h.small) (Nat.lt_of_le_of_lt (Nat.mul_le_mul_left u (Nat.pow_le_pow_right (by decide) (Nat.le_succ t))) h.top)
  obtain ⟨g1, g2, g3⟩ := word_rung (s := s) (Nat.lt_trans h1 (show Go.Fl.top < half by decide))
  have hd := div_two h.fin h.ne h1 (by rw [h.v, h2, Nat.pow_succ]; simp only [Nat.mul_comm, Nat.mul_left_comm])
  rw [h.sgn] at hd
  exact ⟨_, ⟨g3, by rw [g1]; exact h1, g2, h.odd, h.small, by rw [g1]; exact h2⟩, hd⟩
theorem Odd.up {s : Bool} {u t b : Nat} (h : Odd s u t b) (ht : u * 2 ^ (t + 1) < 2 ^ xt) : ∃ c, Odd s u (t + 1) c ∧ FloatKind.f64.format.mul 4611686018427387904 b = some c := by
  obtain ⟨r, h1, h2⟩ := rep (k := t + 1) (u53 h.small) ht
  obtain ⟨g1, g2, g3⟩ := word_rung (s := s) (Nat.lt_trans h1 (show Go.Fl.top < half by decide))
  have hd := mul_two h.fin h1 (by rw [h.v, h2, Nat.pow_succ]; simp only [Nat.mul_comm, Nat.mul_left_comm])
  rw [h.sgn] at hd
  exact ⟨_, ⟨g3, by rw [g1]; exact h1, g2, h.odd, h.small, by rw [g1]; exact h2⟩, hd⟩
theorem Odd.big {s : Bool} {u t b : Nat} (h : Odd s u t b) (hl : lim ≤ u * 2 ^ t) : un < t := by
  apply Classical.byContradiction
  intro hn
  have h1 : 2 ^ t ≤ 2 ^ un := Nat.pow_le_pow_right (by decide) (by omega)
  have h2 : u * 2 ^ t ≤ u * 2 ^ un := Nat.mul_le_mul_left _ h1
  have h3 : u * 2 ^ un < 2 ^ 53 * 2 ^ un := Nat.mul_lt_mul_of_pos_right (u53 h.small) (Nat.two_pow_pos _)
  unfold lim at hl
  rw [Nat.pow_add] at hl
  omega
theorem lim_xt : lim < 2 ^ xt := Nat.pow_lt_pow_right (by decide) (by decide)
theorem small_lim {u t : Nat} (h : u < 9007199254740992) (ht : t ≤ un) : u * 2 ^ t < lim := by
  have h1 : 2 ^ t ≤ 2 ^ un := Nat.pow_le_pow_right (by decide) ht
  have h2 : u * 2 ^ t ≤ u * 2 ^ un := Nat.mul_le_mul_left _ h1
  have h3 : u * 2 ^ un < 2 ^ 53 * 2 ^ un := Nat.mul_lt_mul_of_pos_right (u53 h) (Nat.two_pow_pos _)
  unfold lim
  rw [Nat.pow_add]
  omega
theorem lim_div {x : Nat} (h : x < lim) : x / 2 ^ un < 9007199254740992 := by
  unfold lim at h
  rw [Nat.pow_add] at h
  have h2 := (Nat.div_lt_iff_lt_mul (Nat.two_pow_pos un)).2 h
  exact Nat.lt_of_lt_of_le h2 (by decide)
/-- Whole numbers, and back. -/
theorem back {s : Bool} {m : Nat} (hm : m < 9007199254740992) : ∃ r, r < top ∧ V r = m * 2 ^ un ∧ FloatKind.f64.nearest (Go.Proofs.YtcbckeoalmjcoaaDoor.sg s m) = double.word (s && decide (m ≠ 0)) r := by
  obtain ⟨r, h1, h2⟩ := rep (k := un) (u53 hm) (Nat.lt_trans (small_lim hm (Nat.le_refl _)) lim_xt)
  refine ⟨r, h1, h2, ?_⟩
  have h3 := nearest_int (s := s && decide (m ≠ 0)) h1 h2
  rw [← h3]
  unfold FloatKind.nearest FloatKind.encode
  show double.nearest _ _ _ = _
  congr 1
  · unfold Go.Proofs.YtcbckeoalmjcoaaDoor.sg
    cases s
    · simp
    · by_cases h0 : m = 0
      · subst h0; simp
      · simp [h0]; omega
  · unfold Go.Proofs.YtcbckeoalmjcoaaDoor.sg
    cases s <;> simp
theorem whole_law {s : Bool} {u t b : Nat} (h : Odd s u t b) (hl : u * 2 ^ t < lim) : (FloatKind.f64.format.order (FloatKind.f64.nearest (Go.Proofs.YtcbckeoalmjcoaaDoor.sg s (V (rung b) / 2 ^ un))) b == some Ordering.eq) = decide (un ≤ t) := by
  have hm : V (rung b) / 2 ^ un < 9007199254740992 := lim_div (by rw [h.v]; exact hl)
  obtain ⟨r, h1, h2, h3⟩ := back (s := s) hm
  obtain ⟨g1, g2, g3⟩ := word_rung (s := s && decide (V (rung b) / 2 ^ un ≠ 0)) (Nat.lt_trans h1 (show top < half by decide))
  rw [h3, Bool.eq_iff_iff, beq_iff_eq, decide_eq_true_eq]
  have ho : double.order _ b = some .eq ↔ _ := order_eq (a := double.word (s && decide (V (rung b) / 2 ^ un ≠ 0)) r) g3 h.lt
  refine ho.trans ?_
  unfold isNan
  rw [g1]
  have hn1 : ¬ top < r := by omega
  have hn2 : ¬ top < rung b := by have := h.fin; omega
  constructor
  · rintro ⟨-, -, he | ⟨-, he⟩⟩
    · have he2 : rung b = r := by rw [← he]; exact g1
      have h4 := h.v
      rw [he2, h2] at h4
      have hm0 : V (rung b) / 2 ^ un ≠ 0 := fun e => by
        rw [e, Nat.zero_mul] at h4
        have := h.odd
        have : 0 < u * 2 ^ t := Nat.mul_pos (by omega) (Nat.two_pow_pos _)
        omega
      obtain ⟨o, j, h5, h6⟩ := Go.Proofs.YtcbckeoalmjcoaaDoor.odd_split _ hm0
      rw [h6, Nat.mul_assoc, ← Nat.pow_add] at h4
      have := (odd_uniq h5 h.odd h4).2
      omega
    · exact absurd he h.ne
  · intro ht
    refine ⟨decide_eq_false hn1, decide_eq_false hn2, .inl ?_⟩
    have h4 : V (rung b) = u * 2 ^ (t - un) * 2 ^ un := by rw [h.v, Nat.mul_assoc, ← Nat.pow_add, Nat.sub_add_cancel ht]
    have h5 : V (rung b) / 2 ^ un = u * 2 ^ (t - un) := by rw [h4]; exact Nat.mul_div_cancel _ (Nat.two_pow_pos _)
    have h6 : r = rung b := V_inj (by rw [h2, h5, h4])
    have h7 : V (rung b) / 2 ^ un ≠ 0 := by
      rw [h5]
      have := h.odd
      exact Nat.pos_iff_ne_zero.1 (Nat.mul_pos (by omega) (Nat.two_pow_pos _))
    rw [decide_eq_true h7, Bool.and_true, h6, ← h.sgn]
    exact word_self h.lt
end Go.Fl
