/- Floating point words: when two are equal, when one is nought: plain lemmas, of no program. -/
import Ieee.Arith
set_option linter.unusedVariables false
set_option linter.unusedSimpArgs false
namespace Go.Fl
open Ieee
def B : Nat := 4503599627370496
def top : Nat := 9218868437227405312
def half : Nat := 9223372036854775808
theorem B_eq : Ieee.double.binade = B := rfl
theorem top_eq : Ieee.double.infRung = top := rfl
theorem half_eq : Ieee.double.signWeight = half := rfl
def rung (b : Nat) : Nat := b % half
def neg (b : Nat) : Bool := b / half % 2 == 1
def mag (r : Nat) : Nat := if r < B then r else B + r % B
def plc (r : Nat) : Nat := if r < B then 0 else r / B - 1
/-- The number of a rung, in units of the least. -/
def V (r : Nat) : Nat := mag r * 2 ^ plc r
theorem read_num {b : Nat} (h : rung b < top) : Ieee.double.read b = .number (neg b) (mag (rung b)) (-1074 + plc (rung b)) := by
  unfold Ieee.Format.read
  simp only [B_eq, top_eq, half_eq]
  change (if rung b < B then Datum.number (neg b) (rung b) _ else if rung b < top then _ else _) = _
  unfold mag plc
  by_cases h1 : rung b < B
  · rw [if_pos h1, if_pos h1, if_pos h1]; rfl
  · rw [if_neg h1, if_pos h, if_neg h1, if_neg h1]; rfl
theorem read_inf {b : Nat} (h : rung b = top) : Ieee.double.read b = .infinity (neg b) := by
  unfold Ieee.Format.read
  simp only [B_eq, top_eq, half_eq]
  change (if rung b < B then _ else if rung b < top then _ else if rung b = top then _ else _) = _
  rw [if_neg (by rw [h]; decide), if_neg (by omega), if_pos h]; rfl
theorem read_nan {b : Nat} (h : top < rung b) : Ieee.double.read b = .nan (neg b) (rung b - top) := by
  unfold Ieee.Format.read
  simp only [B_eq, top_eq, half_eq]
  change (if rung b < B then _ else if rung b < top then _ else if rung b = top then _ else _) = _
  rw [if_neg (by have : B < top := by decide
                 omega), if_neg (by omega), if_neg (by omega)]; rfl
theorem V_lt (r : Nat) : V r < B * 2 ^ (r / B) ∧ (B ≤ r → B * 2 ^ (r / B - 1) ≤ V r) ∧ (r < B → V r = r) := by
  unfold V mag plc
  by_cases h : r < B
  · simp only [if_pos h, Nat.pow_zero, Nat.mul_one]
    refine ⟨?_, fun h' => by omega, fun _ => trivial⟩
    rw [Nat.div_eq_of_lt h, Nat.pow_zero, Nat.mul_one]; exact h
  · simp only [if_neg h]
    have hB : 0 < B := by decide
    have hd : 1 ≤ r / B := (Nat.one_le_div_iff hB).2 (by omega)
    refine ⟨?_, fun _ => Nat.mul_le_mul_right _ (by omega), fun h' => absurd h' h⟩
    have h1 : B + r % B < B * 2 := by have := Nat.mod_lt r hB; omega
    have h2 : 2 ^ (r / B) = 2 * 2 ^ (r / B - 1) := by
      obtain ⟨e, he⟩ : ∃ e, r / B = e + 1 := ⟨r / B - 1, by omega⟩
      rw [he, Nat.pow_succ, Nat.add_sub_cancel, Nat.mul_comm]
    rw [h2, ← Nat.mul_assoc]
    exact Nat.mul_lt_mul_of_pos_right h1 (Nat.two_pow_pos _)
theorem V_inj_lt {r s : Nat} (h : r < s) : V r < V s := by
  have hB : 0 < B := by decide
  by_cases hs : s < B
  · rw [(V_lt r).2.2 (by omega), (V_lt s).2.2 hs]; exact h
  · by_cases hr : r < B
    · refine Nat.lt_of_lt_of_le (V_lt r).1 ?_
      rw [Nat.div_eq_of_lt hr, Nat.pow_zero, Nat.mul_one]
      refine Nat.le_trans ?_ ((V_lt s).2.1 (by omega))
      exact Nat.le_mul_of_pos_right _ (Nat.two_pow_pos _)
    · rcases Nat.lt_or_ge (r / B) (s / B) with hd | hd
      · refine Nat.lt_of_lt_of_le (V_lt r).1 (Nat.le_trans ?_ ((V_lt s).2.1 (by omega)))
        exact Nat.mul_le_mul_left _ (Nat.pow_le_pow_right (by decide) (by omega))
      · have he : r / B = s / B := Nat.le_antisymm (Nat.div_le_div_right (Nat.le_of_lt h)) hd
        unfold V mag plc
        rw [if_neg hs, if_neg hr, if_neg hs, if_neg hr, he]
        refine Nat.mul_lt_mul_of_pos_right ?_ (Nat.two_pow_pos _)
        have h1 := Nat.div_add_mod r B
        have h2 := Nat.div_add_mod s B
        rw [he] at h1
        omega
theorem V_inj {r s : Nat} (h : V r = V s) : r = s := by
  rcases Nat.lt_trichotomy r s with h1 | h1 | h1
  · have := V_inj_lt h1; omega
  · exact h1
  · have := V_inj_lt h1; omega
theorem V_zero {r : Nat} : V r = 0 ↔ r = 0 := by
  constructor
  · intro h
    refine V_inj (h.trans ?_)
    exact ((V_lt 0).2.2 (by decide)).symm
  · rintro rfl; exact (V_lt 0).2.2 (by decide)
/-- A number as an integer, in units of the least. -/
def IV (b : Nat) : Int := if neg b then -((V (rung b) : Nat) : Int) else ((V (rung b) : Nat) : Int)
theorem signed_mul (s : Bool) (m i k : Nat) : signed s m i * ((2 ^ k : Nat) : Int) = if s then -((m * 2 ^ (i + k) : Nat) : Int) else ((m * 2 ^ (i + k) : Nat) : Int) := by
  have h : (m <<< i) * 2 ^ k = m * 2 ^ (i + k) := by rw [Nat.shiftLeft_eq, Nat.mul_assoc, ← Nat.pow_add]
  unfold signed
  cases s
  · simp only [Bool.false_eq_true, if_false]; rw [← h]; push_cast; rfl
  · simp only [if_true]; rw [← h]; push_cast; rw [Int.neg_mul]
theorem cmp_num (s t : Bool) (m n p q : Nat) : (Datum.number s m (-1074 + (p : Int))).order (Datum.number t n (-1074 + (q : Int))) = some (compare (if s then -((m * 2 ^ p : Nat) : Int) else ((m * 2 ^ p : Nat) : Int)) (if t then -((n * 2 ^ q : Nat) : Int) else ((n * 2 ^ q : Nat) : Int))) := by
  unfold Datum.order
  simp only
  congr 1
  have hmin : min (-1074 + (p : Int)) (-1074 + (q : Int)) = -1074 + ((min p q : Nat) : Int) := by omega
  rw [hmin]
  have h1 : ((-1074 + (p : Int)) - (-1074 + ((min p q : Nat) : Int))).toNat = p - min p q := by omega
  have h2 : ((-1074 + (q : Int)) - (-1074 + ((min p q : Nat) : Int))).toNat = q - min p q := by omega
  rw [h1, h2]
  have e1 := signed_mul s m (p - min p q) (min p q)
  have e2 := signed_mul t n (q - min p q) (min p q)
  rw [show p - min p q + min p q = p by omega] at e1
  rw [show q - min p q + min p q = q by omega] at e2
  rw [← e1, ← e2]
  have hp : (0 : Int) < ((2 ^ min p q : Nat) : Int) := by exact_mod_cast Nat.two_pow_pos _
  generalize signed s m (p - min p q) = x
  generalize signed t n (q - min p q) = y
  generalize ((2 ^ min p q : Nat) : Int) = z at hp
  simp only [compare, compareOfLessAndEq]
  have a1 : (x * z < y * z) ↔ x < y := ⟨fun h => Int.lt_of_mul_lt_mul_right h (Int.le_of_lt hp), fun h => Int.mul_lt_mul_of_pos_right h hp⟩
  have a2 : (x * z = y * z) ↔ x = y := ⟨fun h => Int.eq_of_mul_eq_mul_right (by omega) h, fun h => by rw [h]⟩
  by_cases h : x < y
  · rw [if_pos h, if_pos (a1.2 h)]
  · rw [if_neg h, if_neg (fun h' => h (a1.1 h'))]
    by_cases h' : x = y
    · rw [if_pos h', if_pos (a2.2 h')]
    · rw [if_neg h', if_neg (fun h'' => h' (a2.1 h''))]
def isNan (b : Nat) : Bool := decide (top < rung b)
theorem order_num {a b : Nat} (ha : rung a < top) (hb : rung b < top) : Ieee.double.order a b = some (compare (IV a) (IV b)) := by
  unfold Format.order
  rw [read_num ha, read_num hb, cmp_num]
  rfl
theorem order_nan_l {a b : Nat} (ha : top < rung a) : Ieee.double.order a b = none := by
  unfold Format.order
  rw [read_nan ha]
  rfl
theorem order_nan_r {a b : Nat} (hb : top < rung b) : Ieee.double.order a b = none := by
  unfold Format.order
  rw [read_nan hb]
  cases Ieee.double.read a <;> rfl
theorem rung_neg {a b : Nat} (ha : a < 18446744073709551616) (hb : b < 18446744073709551616) (h1 : rung a = rung b) (h2 : neg a = neg b) : a = b := by
  unfold rung neg half at *
  have h3 : (a / 9223372036854775808 % 2 = 1) ↔ (b / 9223372036854775808 % 2 = 1) := by
    constructor
    · intro h; have := h2 ▸ (beq_iff_eq.2 h); exact beq_iff_eq.1 this
    · intro h; have := h2.symm ▸ (beq_iff_eq.2 h); exact beq_iff_eq.1 this
  omega
/-- Two words stand for the same number. -/
theorem order_eq {a b : Nat} (ha : a < 18446744073709551616) (hb : b < 18446744073709551616) : Ieee.double.order a b = some .eq ↔ isNan a = false ∧ isNan b = false ∧ (a = b ∨ (rung a = 0 ∧ rung b = 0)) := by
  have htop : 0 < top := by decide
  unfold isNan
  rcases Nat.lt_trichotomy (rung a) top with h1 | h1 | h1
  · rcases Nat.lt_trichotomy (rung b) top with h2 | h2 | h2
    · rw [order_num h1, decide_eq_false (by omega), decide_eq_false (by omega)]
      · simp only [Option.some.injEq, true_and]
        rw [show (compare (IV a) (IV b) = .eq) ↔ IV a = IV b from by simp [compare, compareOfLessAndEq]; split <;> simp_all <;> omega]
        unfold IV
        constructor
        · intro h
          cases ea : neg a <;> cases eb : neg b <;> simp only [ea, eb, Bool.false_eq_true, if_false, if_true] at h
          · exact .inl (rung_neg ha hb (V_inj (by omega)) (by rw [ea, eb]))
          · exact .inr ⟨V_zero.1 (by omega), V_zero.1 (by omega)⟩
          · exact .inr ⟨V_zero.1 (by omega), V_zero.1 (by omega)⟩
          · exact .inl (rung_neg ha hb (V_inj (by omega)) (by rw [ea, eb]))
        · rintro (rfl | ⟨h3, h4⟩)
          · rfl
          · rw [h3, h4, V_zero.2 rfl]; split <;> split <;> rfl
      · exact h2
    · have : Ieee.double.order a b ≠ some .eq := by
        unfold Format.order
        rw [read_num h1, read_inf h2]
        unfold Datum.order
        simp only
        split <;> simp
      constructor
      · intro h; exact absurd h this
      · rintro ⟨_, _, (rfl | ⟨h3, h4⟩)⟩ <;> omega
    · rw [order_nan_r h2, decide_eq_true h2]; simp
  · rcases Nat.lt_trichotomy (rung b) top with h2 | h2 | h2
    · have : Ieee.double.order a b ≠ some .eq := by
        unfold Format.order
        rw [read_num h2, read_inf h1]
        unfold Datum.order
        simp only
        split <;> simp
      constructor
      · intro h; exact absurd h this
      · rintro ⟨_, _, (rfl | ⟨h3, h4⟩)⟩ <;> omega
    · rw [decide_eq_false (by omega), decide_eq_false (by omega)]
      unfold Format.order
      rw [read_inf h1, read_inf h2]
      unfold Datum.order
      simp only [true_and]
      constructor
      · intro h
        refine .inl (rung_neg ha hb (by omega) ?_)
        cases ea : neg a <;> cases eb : neg b <;> rw [ea, eb] at h <;> first | rfl | (revert h; decide)
      · rintro (rfl | ⟨h3, h4⟩)
        · cases neg a <;> rfl
        · omega
    · rw [order_nan_r h2, decide_eq_true h2]; simp
  · rw [order_nan_l h1, decide_eq_true h1]; simp
end Go.Fl
