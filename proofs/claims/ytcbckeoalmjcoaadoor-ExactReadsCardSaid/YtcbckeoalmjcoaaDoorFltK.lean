/- Floating point words: their kinds: plain lemmas, of no program. -/
import Derived.Test.YtcbckeoalmjcoaaDoorFltX
set_option linter.unusedVariables false
set_option linter.unusedSimpArgs false
namespace Go.Fl
open Ieee
def mx : Nat := 9218868437227405311
theorem rung_mx : rung mx = mx := by decide
theorem mx_top : mx + 1 = top := by decide
theorem neg_mx : neg mx = false := by decide
theorem rung_mn : rung (half + mx) = mx := by decide
theorem neg_mn : neg (half + mx) = true := by decide
theorem V_le {r s : Nat} (h : r ≤ s) : V r ≤ V s := by
  rcases Nat.eq_or_lt_of_le h with e | e
  · rw [e]; exact Nat.le_refl _
  · exact Nat.le_of_lt (V_inj_lt e)
theorem cmp_int (x y : Int) : (compare x y = .gt ↔ y < x) ∧ (compare x y = .lt ↔ x < y) ∧ (compare x y = .eq ↔ x = y) := by
  simp only [compare, compareOfLessAndEq]
  refine ⟨?_, ?_, ?_⟩ <;> (by_cases h1 : x < y <;> by_cases h2 : x = y <;> simp [h1, h2] <;> omega)
theorem some_beq (o p : Ordering) : (some o == some p) = decide (o = p) := by cases o <;> cases p <;> rfl
theorem gt_mx (b : Nat) : (double.order b mx == some .gt) = (decide (rung b = top) && !neg b) := by
  have h0 := mx_top
  rcases Nat.lt_trichotomy (rung b) top with h | h | h
  · rw [order_num h (by rw [rung_mx]; omega), some_beq, decide_eq_false (show ¬ rung b = top by omega), Bool.false_and]
    refine decide_eq_false (fun hc => ?_)
    have hc := (cmp_int _ _).1.1 hc
    have hv := V_le (show rung b ≤ mx by omega)
    unfold IV at hc
    rw [neg_mx, rung_mx] at hc
    simp only [Bool.false_eq_true, if_false] at hc
    split at hc <;> omega
  · unfold Format.order
    rw [read_inf h, read_num (by rw [rung_mx]; omega), decide_eq_true h, Bool.true_and]
    cases neg b <;> rfl
  · rw [order_nan_l h, decide_eq_false (by omega), Bool.false_and]
    rfl
theorem lt_mn (b : Nat) : (double.order b (half + mx) == some .lt) = (decide (rung b = top) && neg b) := by
  have h0 := mx_top
  rcases Nat.lt_trichotomy (rung b) top with h | h | h
  · rw [order_num h (by rw [rung_mn]; omega), some_beq, decide_eq_false (show ¬ rung b = top by omega), Bool.false_and]
    refine decide_eq_false (fun hc => ?_)
    have hc := (cmp_int _ _).2.1.1 hc
    have hv := V_le (show rung b ≤ mx by omega)
    unfold IV at hc
    rw [neg_mn, rung_mn] at hc
    simp only [if_true] at hc
    split at hc <;> omega
  · unfold Format.order
    rw [read_inf h, read_num (by rw [rung_mn]; omega), decide_eq_true h, Bool.true_and]
    cases neg b <;> rfl
  · rw [order_nan_l h, decide_eq_false (by omega), Bool.false_and]
    rfl
theorem lt_0 (b : Nat) : (double.order b 0 == some .lt) = ((decide (rung b ≤ top) && decide (rung b ≠ 0)) && neg b) := by
  have h0 : rung 0 = 0 := by decide
  have h1 : neg 0 = false := by decide
  have ht : 0 < top := by decide
  have hv0 : V 0 = 0 := V_zero.2 rfl
  rcases Nat.lt_trichotomy (rung b) top with h | h | h
  · rw [order_num h (by rw [h0]; exact ht), some_beq, decide_eq_true (show rung b ≤ top by omega), Bool.true_and]
    have e0 : IV 0 = 0 := by
      unfold IV
      rw [h1, h0, hv0]
      rfl
    rw [e0]
    have hc := (cmp_int (IV b) 0).2.1
    by_cases hr : rung b = 0
    · have hz : V (rung b) = 0 := V_zero.2 hr
      rw [decide_eq_false (not_not_intro hr), Bool.false_and]
      refine decide_eq_false (fun k => ?_)
      have hk := hc.1 k
      unfold IV at hk
      rw [hz] at hk
      split at hk <;> omega
    · have hp : 0 < V (rung b) := Nat.pos_of_ne_zero (fun k => hr (V_zero.1 k))
      rw [decide_eq_true hr, Bool.true_and]
      cases hn : neg b with
      | true =>
        refine decide_eq_true (hc.2 ?_)
        unfold IV
        rw [hn, if_pos rfl]
        omega
      | false =>
        refine decide_eq_false (fun k => ?_)
        have hk := hc.1 k
        unfold IV at hk
        rw [hn] at hk
        simp only [Bool.false_eq_true, if_false] at hk
        omega
  · unfold Format.order
    rw [read_inf h, read_num (by rw [h0]; exact ht), decide_eq_true (show rung b ≤ top by omega), decide_eq_true (show rung b ≠ 0 by omega)]
    cases neg b <;> rfl
  · rw [order_nan_l h, decide_eq_false (by omega), Bool.false_and, Bool.false_and]
    rfl
theorem eq_0 (b : Nat) (hb : b < 18446744073709551616) : (double.order b 0 == some .eq) = decide (rung b = 0) := by
  have ht : 0 < top := by decide
  have h0 : rung 0 = 0 := by decide
  rw [Bool.eq_iff_iff, beq_iff_eq, order_eq hb (by omega), decide_eq_true_eq]
  unfold isNan
  constructor
  · rintro ⟨_, _, rfl | ⟨h, _⟩⟩
    · exact h0
    · exact h
  · intro h
    refine ⟨decide_eq_false (by omega), by decide, .inr ⟨h, h0⟩⟩
/-- A number's kind. -/
def kindOf (b : Nat) : Int := if top < rung b then 0 else if rung b = top then (if neg b then 1 else 6) else if rung b = 0 then (if neg b then 3 else 4) else if neg b then 2 else 5
theorem xor_half {r : Nat} (h : r < 9223372036854775808) : r ^^^ 9223372036854775808 = r + 9223372036854775808 := by
  have h63 : (9223372036854775808 : Nat) = 2 ^ 63 := by decide
  have h1 : r ^^^ 2 ^ 63 = 2 ^ 63 ||| r := by
    apply Nat.eq_of_testBit_eq
    intro i
    rw [Nat.testBit_xor, Nat.testBit_or, Nat.testBit_two_pow]
    by_cases e : 63 = i
    · subst e
      rw [Nat.testBit_lt_two_pow (by rw [← h63]; exact h)]
      simp
    · simp [e]
  rw [h63, h1, ← Nat.mul_one (2 ^ 63), ← Nat.two_pow_add_eq_or_of_lt (by rw [← h63]; exact h)]
  omega
/-- The word with the other sign. -/
theorem negF {b : Nat} (hb : b < 18446744073709551616) : b ^^^ 9223372036854775808 = double.word (!neg b) (rung b) := by
  have hh : half = 9223372036854775808 := rfl
  have h1 := Nat.mod_lt b (show 0 < half by decide)
  have h2 := xor_half (r := rung b) (by unfold rung; omega)
  have h3 := word_self hb
  unfold Format.word at *
  rw [half_eq, hh] at *
  cases hn : neg b with
  | false =>
    rw [hn] at h3
    simp only [Bool.false_eq_true, if_false, Bool.not_false, if_true] at *
    rw [h3] at h2
    rw [h3, h2]
    omega
  | true =>
    rw [hn] at h3
    simp only [Bool.not_true, Bool.false_eq_true, if_false, if_true] at *
    rw [← h3, Nat.add_comm, ← h2, Nat.xor_assoc, Nat.xor_self, Nat.xor_zero]
    rw [h2, Nat.add_comm, h3]
end Go.Fl
