/- Floating point words: what is written exactly: doubling, halving, whole numbers: plain lemmas, of no program. -/
import Derived.Test.YtcbckeoalmjcoaaDoorFlt
set_option linter.unusedVariables false
set_option linter.unusedSimpArgs false
namespace Go.Fl
open Ieee
theorem log2_of {n k : Nat} (h1 : 2 ^ k ≤ n) (h2 : n < 2 ^ (k + 1)) : n.log2 = k := (Nat.log2_eq_iff (by have := Nat.two_pow_pos k; omega)).2 ⟨h1, h2⟩
theorem log2_mul {n : Nat} (h : n ≠ 0) (k : Nat) : (n * 2 ^ k).log2 = n.log2 + k := by
  obtain ⟨h1, h2⟩ := (Nat.log2_eq_iff (k := n.log2) h).1 rfl
  refine log2_of ?_ ?_
  · rw [Nat.pow_add]; exact Nat.mul_le_mul_right _ h1
  · rw [show n.log2 + k + 1 = (n.log2 + 1) + k by omega, Nat.pow_add]
    exact Nat.mul_lt_mul_of_pos_right h2 (Nat.two_pow_pos k)
theorem log2_ge {n k : Nat} (h : 2 ^ k ≤ n) : k ≤ n.log2 := (Nat.le_log2 (by have := Nat.two_pow_pos k; omega)).2 h
theorem B_pow : B = 2 ^ 52 := by decide
theorem mag_pos {r : Nat} (h : r ≠ 0) : mag r ≠ 0 := by
  unfold mag
  have : 0 < B := by decide
  split <;> omega
/-- The binary digits of a word's significand. -/
theorem mag_log {r : Nat} (h : r ≠ 0) : (r < B ∧ (mag r).log2 ≤ 51 ∧ plc r = 0) ∨ (B ≤ r ∧ (mag r).log2 = 52) := by
  by_cases hr : r < B
  · refine .inl ⟨hr, ?_, by unfold plc; rw [if_pos hr]⟩
    have hm : mag r = r := by unfold mag; rw [if_pos hr]
    rw [hm]
    have := (Nat.log2_lt h (k := 52)).2 (by rw [← B_pow]; exact hr)
    omega
  · refine .inr ⟨by omega, log2_of ?_ ?_⟩
    · unfold mag; rw [if_neg hr, ← B_pow]; omega
    · unfold mag
      rw [if_neg hr, show (52 + 1 : Nat) = 1 + 52 by rfl, Nat.pow_add, ← B_pow]
      have := Nat.mod_lt r (show 0 < B by decide)
      omega
theorem rung_split (r : Nat) : plc r * B + mag r = r := by
  unfold plc mag
  by_cases hr : r < B
  · rw [if_pos hr, if_pos hr]; omega
  · rw [if_neg hr, if_neg hr]
    have h1 := Nat.div_add_mod r B
    have hB : 0 < B := by decide
    have hd : 1 ≤ r / B := (Nat.one_le_div_iff hB).2 (by omega)
    obtain ⟨e, he⟩ : ∃ e, r / B = e + 1 := ⟨r / B - 1, by omega⟩
    rw [he] at h1 ⊢
    rw [Nat.add_sub_cancel, Nat.mul_comm e B]
    rw [Nat.mul_add, Nat.mul_one] at h1
    omega
theorem cut_exact (s : Bool) (q d : Nat) (hq : q ≠ 0) : Toward.even.cut s (q * 2 ^ d) d = q := by
  unfold Toward.cut
  have hmin : min d ((q * 2 ^ d).log2 + 2) = d := by rw [log2_mul hq]; omega
  have hgap : 1 <<< d = 2 ^ d := by rw [Nat.shiftLeft_eq, Nat.one_mul]
  simp only [hmin, hgap, Nat.mul_div_cancel _ (Nat.two_pow_pos d), Nat.mul_mod_left, Nat.mul_zero]
  have h1 : ¬ 2 ^ d < 0 := Nat.not_lt_zero _
  have h2 : ((2 ^ d == 0) && (q % 2 == 1)) = false := by
    have : (2 ^ d == 0) = false := by rw [beq_eq_false_iff_ne]; have := Nat.two_pow_pos d; omega
    rw [this, Bool.false_and]
  simp [h2]
theorem cut_zero (s : Bool) (n d : Nat) : Toward.zero.cut s n d = n / 2 ^ d := by
  unfold Toward.cut
  simp only [Bool.toNat_false, Nat.add_zero]
  by_cases h : d ≤ n.log2 + 2
  · rw [Nat.min_eq_left h, Nat.shiftLeft_eq, Nat.one_mul]
  · rw [Nat.min_eq_right (by omega), Nat.shiftLeft_eq, Nat.one_mul]
    have h1 : n < 2 ^ (n.log2 + 2) := by
      rcases Nat.eq_zero_or_pos n with rfl | hn
      · exact Nat.two_pow_pos _
      · have h2 := ((Nat.log2_eq_iff (k := n.log2) (by omega)).1 rfl).2
        refine Nat.lt_trans h2 (Nat.pow_lt_pow_right (by decide) (by omega))
    have h2 : n < 2 ^ d := Nat.lt_of_lt_of_le h1 (Nat.pow_le_pow_right (by decide) (by omega))
    rw [Nat.div_eq_of_lt h1, Nat.div_eq_of_lt h2]
/-- A number that is a word's is written as that word. -/
theorem nearest_exact {s : Bool} {m r : Nat} {p : Int} (hr : r < top) (hm : m ≠ 0) (a b : Nat) (hp : p = -1074 + (a : Int) - (b : Int)) (h : m * 2 ^ a = V r * 2 ^ b) : double.nearest s m p = double.word s r := by
  have hr0 : r ≠ 0 := by
    rintro rfl
    rw [V_zero.2 rfl, Nat.zero_mul] at h
    have := Nat.two_pow_pos a
    rcases Nat.mul_eq_zero.1 h with h | h
    · exact hm h
    · omega
  have hmg := mag_pos hr0
  have hV : m * 2 ^ a = mag r * 2 ^ (plc r + b) := by rw [h, V, Nat.mul_assoc, ← Nat.pow_add]
  have hlog : m.log2 + a = (mag r).log2 + (plc r + b) := by rw [← log2_mul hm, ← log2_mul hmg, hV]
  have hlast : max (p + (m.log2 : Int) - 52) (-1074) = -1074 + (plc r : Int) := by
    rcases mag_log hr0 with ⟨_, h1, h2⟩ | ⟨_, h1⟩
    · omega
    · omega
  unfold Format.nearest
  rw [if_neg hm]
  have e1 : (double.fractionBits : Int) = 52 := rfl
  have e2 : double.leastPlace = -1074 := by decide
  simp only [e1, e2, hlast]
  have hcut : Toward.even.cut s (m <<< (p - (-1074 + (plc r : Int))).toNat) ((-1074 + (plc r : Int)) - p).toNat = mag r := by
    by_cases hc : b + plc r ≤ a
    · obtain ⟨t, ht⟩ : ∃ t, a = t + (plc r + b) := ⟨a - (plc r + b), by omega⟩
      have h1 : (p - (-1074 + (plc r : Int))).toNat = t := by omega
      have h2 : ((-1074 + (plc r : Int)) - p).toNat = 0 := by omega
      rw [h1, h2, Nat.shiftLeft_eq]
      rw [ht, Nat.pow_add, ← Nat.mul_assoc] at hV
      have h3 : m * 2 ^ t = mag r := Nat.eq_of_mul_eq_mul_right (Nat.two_pow_pos (plc r + b)) hV
      rw [h3]
      have := cut_exact s (mag r) 0 hmg
      rwa [Nat.pow_zero, Nat.mul_one] at this
    · obtain ⟨d, hd⟩ : ∃ d, plc r + b = d + a := ⟨plc r + b - a, by omega⟩
      have h1 : (p - (-1074 + (plc r : Int))).toNat = 0 := by omega
      have h2 : ((-1074 + (plc r : Int)) - p).toNat = d := by omega
      rw [h1, h2, Nat.shiftLeft_eq, Nat.pow_zero, Nat.mul_one]
      rw [hd, Nat.pow_add, ← Nat.mul_assoc] at hV
      have h3 : m = mag r * 2 ^ d := Nat.eq_of_mul_eq_mul_right (Nat.two_pow_pos a) hV
      rw [h3]
      exact cut_exact s (mag r) d hmg
  rw [hcut]
  have h4 : ((-1074 + (plc r : Int)) - -1074).toNat = plc r := by omega
  rw [h4, B_eq, rung_split, top_eq, Nat.min_eq_left (by omega)]
theorem nearest_zero (s : Bool) (p : Int) : double.nearest s 0 p = double.word s 0 := by unfold Format.nearest; rw [if_pos rfl]
def two : Nat := 4611686018427387904
theorem read_two : double.read two = .number false B (-51) := by decide +kernel
/-- Twice a number. -/
theorem mul_two {b r' : Nat} (hb : rung b < top) (hr : r' < top) (h : V r' = 2 * V (rung b)) : double.mul two b = some (double.word (neg b) r') := by
  unfold Format.mul
  rw [read_two, read_num hb]
  simp only [Datum.product, Option.map_some, Bool.false_xor, Option.some.injEq, Format.write]
  by_cases h0 : rung b = 0
  · have : r' = 0 := V_zero.1 (by rw [h, V_zero.2 h0])
    subst this
    have hz : mag (rung b) = 0 := by rw [h0]; rfl
    rw [hz, Nat.mul_zero, nearest_zero]
  · refine nearest_exact hr (Nat.mul_ne_zero (by decide) (mag_pos h0)) (plc (rung b)) 51 (by push_cast; omega) ?_
    rw [h, V, B_pow, show (2 : Nat) ^ 52 = 2 * 2 ^ 51 by rfl]
    generalize 2 ^ 51 = x
    generalize 2 ^ plc (rung b) = y
    simp only [Nat.mul_assoc, Nat.mul_comm, Nat.mul_left_comm]
/-- Half a number, where that is one. -/
theorem div_two {b r' : Nat} (hb : rung b < top) (h0 : rung b ≠ 0) (hr : r' < top) (h : V (rung b) = 2 * V r') : double.div b two = some (double.word (neg b) r') := by
  unfold Format.div
  rw [read_two, read_num hb]
  have hB0 : B ≠ 0 := by decide
  have hmg := mag_pos h0
  have hL : (mag (rung b)).log2 ≤ 52 := by rcases mag_log h0 with ⟨_, h1, _⟩ | ⟨_, h1⟩ <;> omega
  have hBl : B.log2 = 52 := by rw [B_pow]; exact Nat.log2_two_pow
  simp only [Datum.quotient, if_neg hB0, Option.map_some, Bool.xor_false, Option.some.injEq, Format.write, hBl]
  have e1 : double.fractionBits + 2 + 52 = 106 := rfl
  rw [e1]
  obtain ⟨t, ht⟩ : ∃ t, 106 - (mag (rung b)).log2 = t + 52 := ⟨106 - (mag (rung b)).log2 - 52, by omega⟩
  rw [ht]
  have hd : mag (rung b) <<< (t + 52) = mag (rung b) * 2 ^ t * B := by rw [Nat.shiftLeft_eq, Nat.pow_add, ← Nat.mul_assoc, ← B_pow]
  have hBp : 0 < B := by decide
  rw [hd, Nat.mul_div_cancel _ hBp, Nat.mul_mod_left]
  have hz : ((0 : Nat) != 0).toNat = 0 := rfl
  rw [hz, Nat.add_zero]
  refine nearest_exact hr (Nat.mul_ne_zero (by decide) (Nat.mul_ne_zero hmg (by have := Nat.two_pow_pos t; omega))) (plc (rung b)) (t + 2) (by push_cast; omega) ?_
  have h2 : V r' * 2 ^ (t + 2) = V (rung b) * 2 ^ (t + 1) := by
    rw [h, show t + 2 = (t + 1) + 1 by rfl, Nat.pow_succ 2 (t + 1)]
    generalize 2 ^ (t + 1) = x
    simp only [Nat.mul_assoc, Nat.mul_comm, Nat.mul_left_comm]
  rw [h2, V, Nat.pow_succ]
  generalize 2 ^ t = x
  generalize 2 ^ plc (rung b) = y
  simp only [Nat.mul_assoc, Nat.mul_comm, Nat.mul_left_comm]
/-- How many binary digits the numbers have at most, the least one's place on. -/
def xt : Nat := 2098
theorem V_top : V top = 2 ^ xt := by decide +kernel
theorem rep {m k : Nat} (hm : m < 2 ^ 53) (hb : m * 2 ^ k < 2 ^ xt) : ∃ r, r < top ∧ V r = m * 2 ^ k := by
  have key : ∃ r, V r = m * 2 ^ k := by
    have hB : 0 < B := by decide
    by_cases hs : m * 2 ^ k < 2 ^ 53
    · refine ⟨m * 2 ^ k, ?_⟩
      generalize m * 2 ^ k = v at *
      have hv : v < 2 * B := by rw [B_pow]; omega
      unfold V mag plc
      by_cases h1 : v < B
      · rw [if_pos h1, if_pos h1, Nat.pow_zero, Nat.mul_one]
      · have hd : v / B = 1 := by
          rw [Nat.div_eq_iff hB]; omega
        have hmod := Nat.div_add_mod v B
        rw [hd, Nat.mul_one] at hmod
        rw [if_neg h1, if_neg h1, hd, Nat.sub_self, Nat.pow_zero, Nat.mul_one]
        exact hmod
    · have hm0 : m ≠ 0 := by rintro rfl; simp at hs
      obtain ⟨l1, l2⟩ := (Nat.log2_eq_iff (k := m.log2) hm0).1 rfl
      have hL : m.log2 ≤ 52 := by have := (Nat.log2_lt hm0 (k := 53)).2 hm; omega
      have hk : 53 ≤ m.log2 + k := by
        rw [← log2_mul hm0]
        exact log2_ge (by omega)
      obtain ⟨c, hc⟩ : ∃ c, m.log2 + c = 52 := ⟨52 - m.log2, by omega⟩
      obtain ⟨q, hq⟩ : ∃ q, k = q + 1 + c := ⟨k - c - 1, by omega⟩
      have hM1 : B ≤ m * 2 ^ c := by
        rw [B_pow, ← hc, Nat.pow_add]
        exact Nat.mul_le_mul_right _ l1
      have hM2 : m * 2 ^ c < 2 * B := by
        rw [B_pow, ← hc, Nat.pow_add, ← Nat.mul_assoc]
        refine Nat.mul_lt_mul_of_pos_right ?_ (Nat.two_pow_pos c)
        rw [Nat.pow_succ] at l2
        omega
      refine ⟨(q + 1) * B + m * 2 ^ c, ?_⟩
      obtain ⟨M, hM⟩ : ∃ M, M = m * 2 ^ c := ⟨_, rfl⟩
      rw [← hM] at hM1 hM2 ⊢
      have hge : ¬ ((q + 1) * B + M < B) := by omega
      have hd : ((q + 1) * B + M) / B = q + 2 := by
        rw [Nat.add_comm, Nat.add_mul_div_right _ _ hB]
        have : M / B = 1 := by rw [Nat.div_eq_iff hB]; omega
        omega
      have hmo : ((q + 1) * B + M) % B = M - B := by
        rw [Nat.add_comm, Nat.add_mul_mod_self_right, Nat.mod_eq_sub_mod hM1, Nat.mod_eq_of_lt (by omega)]
      unfold V mag plc
      rw [if_neg hge, if_neg hge, hd, hmo, show B + (M - B) = M by omega, show q + 2 - 1 = q + 1 by omega, hM, hq, Nat.pow_add 2 (q + 1) c, Nat.mul_assoc]
      congr 1
      exact Nat.mul_comm _ _
  obtain ⟨r, hr⟩ := key
  refine ⟨r, ?_, hr⟩
  rcases Nat.lt_or_ge r top with h | h
  · exact h
  · have : V top ≤ V r := by
      rcases Nat.eq_or_lt_of_le h with e | e
      · rw [e]; exact Nat.le_refl _
      · exact Nat.le_of_lt (V_inj_lt e)
    rw [V_top, hr] at this
    omega
/-- A word of a sign and a rung. -/
theorem word_rung {s : Bool} {r : Nat} (hr : r < half) : rung (double.word s r) = r ∧ neg (double.word s r) = s ∧ double.word s r < 18446744073709551616 := by
  have hh : half = 9223372036854775808 := rfl
  unfold Format.word rung neg
  rw [half_eq]
  cases s
  · simp only [Bool.false_eq_true, if_false]
    refine ⟨Nat.mod_eq_of_lt hr, ?_, by omega⟩
    rw [Nat.div_eq_of_lt hr]
    rfl
  · simp only [if_true]
    refine ⟨by rw [Nat.add_mod_left, Nat.mod_eq_of_lt hr], ?_, by omega⟩
    have : (half + r) / half = 1 := by rw [Nat.add_div_left _ (by decide), Nat.div_eq_of_lt hr]
    rw [this]
    rfl
theorem word_self {b : Nat} (hb : b < 18446744073709551616) : double.word (neg b) (rung b) = b := by
  have hh : half = 9223372036854775808 := rfl
  unfold Format.word rung neg
  rw [half_eq]
  have h1 := Nat.div_add_mod b half
  have h2 := Nat.mod_lt b (show 0 < half by decide)
  have h3 : b / half < 2 := by rw [Nat.div_lt_iff_lt_mul (by decide), hh]; omega
  rcases Nat.lt_or_ge (b / half) 1 with h | h
  · have h0 : b / half = 0 := Nat.lt_one_iff.1 h
    rw [h0] at h1 ⊢
    simp only [Nat.mul_zero, Nat.zero_add] at h1
    simp [h1]
  · have h0 : b / half = 1 := Nat.le_antisymm (Nat.le_of_lt_succ h3) h
    rw [h0] at h1 ⊢
    simp only [Nat.mul_one] at h1
    simp [h1]
/-- How many binary digits the least number has behind the point. -/
def un : Nat := 1074
theorem un_eq : un = 1074 := rfl
/-- A number's whole part. -/
theorem toInt_num {b : Nat} (hb : rung b < top) : (double.read b).toInt .zero = some (if neg b then -((V (rung b) / 2 ^ un : Nat) : Int) else ((V (rung b) / 2 ^ un : Nat) : Int)) := by
  rw [read_num hb]
  unfold Datum.toInt Datum.integral
  simp only [signed, Nat.shiftLeft_zero, cut_zero]
  have key : (mag (rung b) <<< (-1074 + (plc (rung b) : Int)).toNat) / 2 ^ (-(-1074 + (plc (rung b) : Int))).toNat = V (rung b) / 2 ^ un := by
    unfold V
    have hun := un_eq
    by_cases hp : plc (rung b) ≤ un
    · obtain ⟨t, ht⟩ : ∃ t, plc (rung b) + t = un := ⟨un - plc (rung b), by omega⟩
      have h1 : (-1074 + (plc (rung b) : Int)).toNat = 0 := by omega
      have h2 : (-(-1074 + (plc (rung b) : Int))).toNat = t := by omega
      rw [h1, h2, Nat.shiftLeft_eq, Nat.pow_zero, Nat.mul_one, ← ht, Nat.pow_add, Nat.mul_comm (2 ^ plc (rung b)) (2 ^ t), Nat.mul_div_mul_right _ _ (Nat.two_pow_pos _)]
    · obtain ⟨t, ht⟩ : ∃ t, plc (rung b) = t + un := ⟨plc (rung b) - un, by omega⟩
      have h1 : (-1074 + (plc (rung b) : Int)).toNat = t := by omega
      have h2 : (-(-1074 + (plc (rung b) : Int))).toNat = 0 := by omega
      rw [h1, h2, Nat.shiftLeft_eq, Nat.pow_zero, Nat.div_one, ht, Nat.pow_add, ← Nat.mul_assoc, Nat.mul_div_cancel _ (Nat.two_pow_pos _)]
  rw [key]
/-- A whole number's word. -/
theorem nearest_int {s : Bool} {n r : Nat} (hr : r < top) (h : V r = n * 2 ^ un) : double.nearest s n 0 = double.word s r := by
  rcases Nat.eq_zero_or_pos n with rfl | hn
  · rw [Nat.zero_mul] at h
    rw [nearest_zero, V_zero.1 h]
  · refine nearest_exact hr (by omega) un 0 (by rw [un_eq]; omega) ?_
    rw [h, Nat.pow_zero, Nat.mul_one]
end Go.Fl
