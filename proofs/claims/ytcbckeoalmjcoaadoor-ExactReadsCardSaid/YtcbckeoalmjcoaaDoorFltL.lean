/- Floating point words: fields of bits, scaling by a power of two: plain lemmas, of no program. -/
import Derived.Test.YtcbckeoalmjcoaaDoorFltK
import Derived.Laws.BitsAllLaws
set_option linter.unusedVariables false
set_option linter.unusedSimpArgs false
namespace Go.Fl
open Ieee
/-- Two odd numbers, each with so many twos: the same. -/
theorem odd_uniq {n m a b : Nat} (hn : n % 2 = 1) (hm : m % 2 = 1) (h : n * 2 ^ a = m * 2 ^ b) : n = m ∧ a = b := by
  have key : ∀ (n m c : Nat), n % 2 = 1 → n = m * 2 ^ c → c = 0 := fun n m c hn h => by
    cases c with
    | zero => rfl
    | succ c =>
      rw [Nat.pow_succ, ← Nat.mul_assoc] at h
      omega
  rcases Nat.le_total a b with hl | hl
  · obtain ⟨c, rfl⟩ := Nat.exists_eq_add_of_le hl
    rw [Nat.pow_add, Nat.mul_comm (2 ^ a) (2 ^ c), ← Nat.mul_assoc] at h
    have h2 : n = m * 2 ^ c := Nat.eq_of_mul_eq_mul_right (Nat.two_pow_pos a) h
    have hc := key n m c hn h2
    subst hc
    exact ⟨by simpa using h2, rfl⟩
  · obtain ⟨c, rfl⟩ := Nat.exists_eq_add_of_le hl
    rw [Nat.pow_add, Nat.mul_comm (2 ^ b) (2 ^ c), ← Nat.mul_assoc] at h
    have h2 : n * 2 ^ c = m := Nat.eq_of_mul_eq_mul_right (Nat.two_pow_pos b) h
    have hc := key m n c hm h2.symm
    subst hc
    exact ⟨by simpa using h2, rfl⟩
theorem lt_rung {b c : Nat} (hb : rung b < top) (hc : rung c < top) (h1 : neg b = false) (h2 : neg c = false) : (double.order b c == some .lt) = decide (rung b < rung c) := by
  rw [order_num hb hc, some_beq]
  refine decide_eq_decide.2 ?_
  rw [(cmp_int _ _).2.1]
  unfold IV
  rw [h1, h2]
  simp only [Bool.false_eq_true, if_false]
  constructor
  · intro h
    apply Classical.byContradiction
    intro hn
    have := V_le (show rung c ≤ rung b by omega)
    omega
  · intro h
    have := V_inj_lt h
    omega
theorem nearest_lt (s : Bool) (m : Nat) (p : Int) : double.nearest s m p < 18446744073709551616 := by
  have key : ∀ r, r ≤ top → double.word s r < 18446744073709551616 := fun r hr => (word_rung (s := s) (Nat.lt_of_le_of_lt hr (by decide))).2.2
  unfold Format.nearest
  split
  · exact key 0 (by decide)
  · refine key _ ?_
    rw [top_eq]
    exact Nat.min_le_right _ _
def p52 : Nat := 4841369599423283200
theorem read_p52 : double.read p52 = .number false B 0 := by decide +kernel
/-- A small number times 2 ^ 52. -/
theorem mul_p52 {b : Nat} (hb : rung b < B) (h0 : rung b ≠ 0) : ∃ r', B ≤ r' ∧ r' < top ∧ V r' = V (rung b) * 2 ^ 52 ∧ double.mul b p52 = some (double.word (neg b) r') := by
  have hBt : B < top := by decide
  have hv : V (rung b) = rung b := (V_lt _).2.2 hb
  have hB53 : B < 2 ^ 53 := by decide
  obtain ⟨r', h1, h2⟩ := rep (m := rung b) (k := 52) (by omega) (by
    refine Nat.lt_of_lt_of_le (Nat.mul_lt_mul_of_pos_right hb (Nat.two_pow_pos 52)) ?_
    rw [B_pow, ← Nat.pow_add]
    exact Nat.pow_le_pow_right (by decide) (show 52 + 52 ≤ xt by decide))
  have hge : B ≤ r' := by
    apply Classical.byContradiction
    intro hn
    have h3 := V_inj_lt (show r' < B by omega)
    have hVB : V B = 2 ^ 52 := by decide +kernel
    rw [hVB, h2] at h3
    have : 1 * 2 ^ 52 ≤ rung b * 2 ^ 52 := Nat.mul_le_mul_right _ (by omega)
    omega
  refine ⟨r', hge, h1, by rw [hv]; exact h2, ?_⟩
  unfold Format.mul
  rw [read_p52, read_num (by omega)]
  simp only [Datum.product, Option.map_some, Bool.xor_false, Option.some.injEq, Format.write]
  refine nearest_exact h1 (Nat.mul_ne_zero (mag_pos h0) (by decide)) (plc (rung b)) 0 (by omega) ?_
  have hm : mag (rung b) = rung b := by unfold mag; rw [if_pos hb]
  have hp : plc (rung b) = 0 := by unfold plc; rw [if_pos hb]
  rw [h2, hm, hp, Nat.pow_zero, Nat.mul_one, Nat.mul_one, B_pow]
/-- The sign and the fraction: the exponent taken out. -/
theorem bits_clear {x : Nat} (hx : x < 18446744073709551616) : x &&& (18446744073709551615 - 9218868437227405312) = x / 9223372036854775808 * 9223372036854775808 + x % 4503599627370496 := by
  have h1 : 18446744073709551615 - 9218868437227405312 = 2 ^ 63 ||| (2 ^ 52 - 1) := by decide
  rw [h1, Nat.and_or_distrib_left, nat_bit, Nat.and_two_pow_sub_one_eq_mod]
  have h2 : x / 2 ^ 63 % 2 = x / 9223372036854775808 := by
    rw [show (2 : Nat) ^ 63 = 9223372036854775808 by decide]
    omega
  rw [h2, nat_join 63 _ _ (by rw [Nat.mul_mod_left]) (Nat.lt_of_lt_of_le (Nat.mod_lt _ (Nat.two_pow_pos 52)) (by decide))]
/-- The exponent put in. -/
theorem bits_set (s f c : Nat) (hf : f < 4503599627370496) (hc : c < 2048) : (s * 9223372036854775808 + f) ||| (c * 4503599627370496) = s * 9223372036854775808 + (c * 4503599627370496 + f) := by
  have e1 : (9223372036854775808 : Nat) = 2 ^ 63 := by decide
  have e2 : (4503599627370496 : Nat) = 2 ^ 52 := by decide
  have h1 : s * 2 ^ 63 + f = s * 2 ^ 63 ||| f := (nat_join 63 _ _ (Nat.mul_mod_left _ _) (by omega)).symm
  have h2 : c * 2 ^ 52 ||| f = c * 2 ^ 52 + f := nat_join 52 _ _ (Nat.mul_mod_left _ _) (by omega)
  rw [e1, e2, h1, Nat.or_assoc, Nat.or_comm f, h2, nat_join 63 _ _ (Nat.mul_mod_left _ _) (by omega)]
/-- A word's fields. -/
theorem word_fields (s : Bool) (r : Nat) (hr : r < half) : double.word s r / 4503599627370496 % 2048 = r / 4503599627370496 ∧ double.word s r / 9223372036854775808 * 9223372036854775808 + double.word s r % 4503599627370496 = double.word s (r % 4503599627370496) ∧ ∀ c, c < 2048 → double.word s (r % 4503599627370496) ||| (c * 4503599627370496) = double.word s (c * 4503599627370496 + r % 4503599627370496) := by
  have hh : half = 9223372036854775808 := rfl
  have hm : r % 4503599627370496 < 4503599627370496 := Nat.mod_lt _ (by decide)
  unfold Format.word
  rw [half_eq]
  cases s
  · simp only [Bool.false_eq_true, if_false]
    refine ⟨by omega, by omega, fun c hc => ?_⟩
    have := bits_set 0 (r % 4503599627370496) c hm hc
    simpa using this
  · simp only [if_true]
    refine ⟨by omega, by omega, fun c hc => ?_⟩
    have := bits_set 1 (r % 4503599627370496) c hm hc
    rw [Nat.one_mul] at this
    exact this
/-- A normal number with another exponent. -/
theorem V_at {c f : Nat} (hc : 1 ≤ c) (hf : f < B) : V (c * B + f) = (B + f) * 2 ^ (c - 1) := by
  have hB : 0 < B := by decide
  have hd : (c * B + f) / B = c := by rw [Nat.add_comm, Nat.add_mul_div_right _ _ hB, Nat.div_eq_of_lt hf, Nat.zero_add]
  have hm : (c * B + f) % B = f := by rw [Nat.add_comm, Nat.add_mul_mod_self_right, Nat.mod_eq_of_lt hf]
  have hn : ¬ c * B + f < B := by
    have : 1 * B ≤ c * B := Nat.mul_le_mul_right _ hc
    omega
  unfold V mag plc
  rw [if_neg hn, if_neg hn, hd, hm]
end Go.Fl
