/- Scaling by a power of two: when it is exact: plain lemmas, of no program. -/
import Derived.Test.YtcbckeoalmjcoaaDoorFltL
set_option linter.unusedVariables false
set_option linter.unusedSimpArgs false
namespace Go.Fl
open Ieee
theorem mul_pow {c z : Nat} {p : Int} (hc : double.read c = .number false B p) (hz : rung z < top) : double.mul c z = some (double.nearest (neg z) (B * mag (rung z)) (p + (-1074 + (plc (rung z) : Int)))) := by
  unfold Format.mul
  rw [hc, read_num hz]
  simp only [Datum.product, Option.map_some, Bool.false_xor, Format.write]
theorem read_one : double.read 4607182418800017408 = .number false B (-52) := by decide +kernel
theorem read_m53 : double.read 4368491638549381120 = .number false B (-105) := by decide +kernel
theorem mag_at {c f : Nat} (hc : 1 ≤ c) (hf : f < B) : mag (c * B + f) = B + f ∧ plc (c * B + f) = c - 1 := by
  have hB : 0 < B := by decide
  have hd : (c * B + f) / B = c := by rw [Nat.add_comm, Nat.add_mul_div_right _ _ hB, Nat.div_eq_of_lt hf, Nat.zero_add]
  have hm : (c * B + f) % B = f := by rw [Nat.add_comm, Nat.add_mul_mod_self_right, Nat.mod_eq_of_lt hf]
  have hn : ¬ c * B + f < B := by
    have : 1 * B ≤ c * B := Nat.mul_le_mul_right _ hc
    omega
  unfold mag plc
  rw [if_neg hn, if_neg hn, hd, hm]
  exact ⟨rfl, rfl⟩
theorem at_top {c f : Nat} (hc : c ≤ 2046) (hf : f < B) : c * B + f < top := by
  have ht : top = 2047 * B := by decide
  have : c * B ≤ 2046 * B := Nat.mul_le_mul_right _ hc
  rw [ht]
  omega
/-- Where the number lies: what is asked of a scaled number that is a word's. -/
theorem scale_eq {r r' r2 k a d q f : Nat} (hv : V r' = V r * 2 ^ k) (hr : r' = q * B + f) (hq : 1 ≤ q) (hf : f < B) (h : V r * 2 ^ a = V r2 * 2 ^ d) : (B + f) * 2 ^ (q - 1 + a) = V r2 * 2 ^ (d + k) := by
  rw [Nat.pow_add 2 (q - 1), ← Nat.mul_assoc, ← V_at hq hf, ← hr, hv, Nat.pow_add, ← Nat.mul_assoc, ← h]
  generalize 2 ^ a = x
  generalize 2 ^ k = y
  simp only [Nat.mul_assoc, Nat.mul_comm, Nat.mul_left_comm]
theorem scale_low {r2 e1 e2 f : Nat} (hf : f < B) (h : (B + f) * 2 ^ e1 = V r2 * 2 ^ e2) : e2 < e1 + 53 := by
  have hB : 0 < B := by decide
  have h0 : V r2 ≠ 0 := by
    intro h0
    rw [h0, Nat.zero_mul] at h
    rcases Nat.mul_eq_zero.1 h with h | h
    · omega
    · have := Nat.two_pow_pos e1; omega
  have h1 : 2 ^ e2 ≤ V r2 * 2 ^ e2 := Nat.le_mul_of_pos_left _ (by omega)
  have hBB : B + B = 2 ^ 53 := by decide
  have h2 : (B + f) * 2 ^ e1 < 2 ^ 53 * 2 ^ e1 := Nat.mul_lt_mul_of_pos_right (by omega) (Nat.two_pow_pos e1)
  rw [← Nat.pow_add] at h2
  have h3 : 2 ^ e2 < 2 ^ (53 + e1) := by omega
  have := (Nat.pow_lt_pow_iff_right (show 1 < 2 by decide)).1 h3
  omega
theorem scale_high {r2 e1 e2 f : Nat} (hr : r2 < top) (h : (B + f) * 2 ^ e1 = V r2 * 2 ^ e2) : 52 + e1 < xt + e2 := by
  have h1 : 2 ^ 52 * 2 ^ e1 ≤ (B + f) * 2 ^ e1 := Nat.mul_le_mul_right _ (by rw [← B_pow]; omega)
  have h2 : V r2 * 2 ^ e2 < 2 ^ xt * 2 ^ e2 := by
    refine Nat.mul_lt_mul_of_pos_right ?_ (Nat.two_pow_pos e2)
    rw [← V_top]
    exact V_inj_lt hr
  rw [← Nat.pow_add] at h1 h2
  have h3 : 2 ^ (52 + e1) < 2 ^ (xt + e2) := by omega
  exact (Nat.pow_lt_pow_iff_right (show 1 < 2 by decide)).1 h3
/-- The normal case. -/
theorem scale_norm {r2 c e1 e2 f : Nat} (hc : 1 ≤ c) (hf : f < B) (h : (B + f) * 2 ^ e1 = V r2 * 2 ^ e2) (he : c - 1 + e2 = e1) : c * B + f = r2 := by
  refine V_inj ?_
  rw [V_at hc hf]
  rw [← he, Nat.pow_add, ← Nat.mul_assoc] at h
  exact Nat.eq_of_mul_eq_mul_right (Nat.two_pow_pos e2) h
theorem mul_one_word {s : Bool} {r : Nat} (hr : r < top) : double.mul 4607182418800017408 (double.word s r) = some (double.word s r) := by
  obtain ⟨h1, h2, _⟩ := word_rung (s := s) (Nat.lt_trans hr (show top < half by decide))
  rw [mul_pow read_one (by rw [h1]; exact hr), h1, h2]
  by_cases h0 : r = 0
  · subst h0
    have hz : mag 0 = 0 := rfl
    rw [hz, Nat.mul_zero, nearest_zero]
  · rw [nearest_exact hr (Nat.mul_ne_zero (by decide) (mag_pos h0)) (plc r) 52 (by push_cast; omega) ?_]
    rw [V, B_pow]
    generalize 2 ^ 52 = x
    generalize 2 ^ plc r = y
    simp only [Nat.mul_assoc, Nat.mul_comm, Nat.mul_left_comm]
/-- The case below the normal numbers. -/
theorem scale_sub {s : Bool} {r2 c e1 e2 f : Nat} (hr2 : r2 < top) (hc : 1 ≤ c) (hc2 : c ≤ 2046) (hf : f < B) (h : (B + f) * 2 ^ e1 = V r2 * 2 ^ e2) (he : c - 1 + e2 = e1 + 53) : double.nearest s (B * (B + f)) (-105 + (-1074 + ((c - 1 : Nat) : Int))) = double.word s r2 := by
  have hB : B ≠ 0 := by decide
  refine nearest_exact hr2 (Nat.mul_ne_zero hB (by omega)) (c - 1) 105 (by omega) ?_
  have h1 : (B + f) * 2 ^ (c - 1) = V r2 * 2 ^ 53 := by
    have h2 : (B + f) * 2 ^ (c - 1) * 2 ^ e2 = V r2 * 2 ^ 53 * 2 ^ e2 := by
      rw [Nat.mul_assoc, ← Nat.pow_add, he, Nat.pow_add, ← Nat.mul_assoc, h]
      generalize 2 ^ e2 = x
      generalize 2 ^ 53 = y
      simp only [Nat.mul_assoc, Nat.mul_comm, Nat.mul_left_comm]
    exact Nat.eq_of_mul_eq_mul_right (Nat.two_pow_pos e2) h2
  rw [Nat.mul_assoc, h1, B_pow, show (105 : Nat) = 52 + 53 by rfl, Nat.pow_add]
  generalize 2 ^ 52 = x
  generalize 2 ^ 53 = y
  simp only [Nat.mul_assoc, Nat.mul_comm, Nat.mul_left_comm]
end Go.Fl
