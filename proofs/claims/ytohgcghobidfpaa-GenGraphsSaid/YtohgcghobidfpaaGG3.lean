/- Joined texts: Float, Flt. -/
import Ieee.Arith
import Derived.Test.YtohgcghobidfpaaGG2
/- Numbers: contracts of real.Same and of the reference's Nan, Same at what chains need. -/
set_option linter.unusedVariables false
set_option linter.unusedSimpArgs false
namespace Go.Proofs.Ytohgcghobidfpaa
open Go.RowKit Go.Cw
/-- A box: a new block that stays as it is. -/
theorem _root_.Go.Cw.St.box {H : Hp} {l : List HA} {w : World} (h : St H l w) (cs : Array Value) (t : TypeId) : ∃ H', Hp.le H H' ∧ St H' l (w.alloc (.cells cs t)) ∧ ∀ i u, cs[i]? = some u → H'.cell w.heap.size i = some u :=
  ⟨_, h.keep_le _, h.keep _, fun i u hu => by
    have := Hp.put_same H w.heap.size (.cells cs t)
    simp [Hp.cell, this, hu]⟩
theorem _root_.Go.Cw.News.newAt {P : Program} {sz : Nat} (w : World) (e : TypeId) (n : Nat) (cs : Array Value) (g : Nat) (hg : g = w.heap.size) (hl : cs.size = n * sz) (h1 : ∀ u ∈ cs.toList, u.oneCell' = true) : News P (w.alloc (.cells cs e)) sz (.slice (some ⟨g, 0, none⟩) n n) n cs.toList := by
  subst hg
  exact News.new w e n cs hl h1
theorem _root_.Go.Cw.St.row_litAt {H : Hp} {l : List HA} {w : World} (h : St H l w) (e : TypeId) (sz n : Nat) (cs : Array Value) (g : Nat) (hg : g = w.heap.size) (hl : cs.size = n * sz) (hM : n ≤ maxLen) : St H (Row e sz (.slice (some ⟨g, 0, none⟩) n n) cs.toList :: l) (w.alloc (.cells cs e)) := by
  subst hg
  exact h.row_lit e sz n cs hl hM
theorem f64bits (b : Nat) (w : World) : (callFunc 95 #[.float .f64 b]).run Try.prog w = .ok (.value (.int .u64 b)) w := by kernel_rfl
theorem f64from (n : Int) (w : World) : (callFunc 97 #[.int .u64 n]).run Try.prog w = .ok (.value (.float .f64 n.toNat)) w := by kernel_rfl
attribute [local go_sem ↓] f64bits f64from
/-- The bits of a number, of any NaN those of one. -/
def bitsOf (b : Nat) : Nat := if FloatKind.f64.format.order b b != some Ordering.eq then 9221120237041090561 else b
theorem bitsOf_zero (b : Nat) : bitsOf b = 0 ↔ b = 0 := by
  unfold bitsOf
  split
  · rename_i h
    constructor
    · intro h'; cases h'
    · intro h'
      subst h'
      exact absurd h (by decide +kernel)
  · exact Iff.rfl
set_option maxRecDepth 100000 in
theorem canon_any (b : Nat) (w : World) : Calls Try.prog 96 #[.float .f64 b] w fun e w' => e = .returned (.float .f64 (bitsOf b)) ∧ w = w' := by
  by_cases h : (FloatKind.f64.format.order b b != some Ordering.eq) = true
  · have HB : Hid (bitsOf b = 9221120237041090561) := Lib.hid (if_pos h)
    go_enter Try.func96, Try.ntmps96
    go_wp2_with fail
    go_ret
    exact ⟨congrArg (fun x => Ending.returned (Value.float FloatKind.f64 x)) HB.out.symm, rfl⟩
  · have HB : Hid (bitsOf b = b) := Lib.hid (if_neg h)
    have h := Bool.eq_false_iff.2 h
    go_enter Try.func96, Try.ntmps96
    go_wp2_with fail
    go_ret
    exact ⟨congrArg (fun x => Ending.returned (Value.float FloatKind.f64 x)) HB.out.symm, rfl⟩
set_option maxRecDepth 100000 in
theorem bits_any (b : Nat) (w : World) : Calls Try.prog 91 #[.float .f64 b] w fun e w' => e = .returned (.int .u64 (bitsOf b)) ∧ w = w' := by
  go_enter Try.func91, Try.ntmps91
  go_wp2_with (go_at_call 96; refine (canon_any _ _).mono ?_; rintro e w1 ⟨rfl, rfl⟩)
  go_ret
  exact ⟨rfl, rfl⟩
set_option maxRecDepth 100000 in
theorem realSame_any (a b : Nat) (w : World) : Calls Try.prog 78 #[.float .f64 a, .float .f64 b] w fun e w' => e = .returned (.bool (decide (bitsOf a = bitsOf b))) ∧ w = w' := by
  go_enter Try.func78, Try.ntmps78
  go_wp2_with (go_at_call 91; refine (bits_any _ _).mono ?_; rintro e w1 ⟨rfl, rfl⟩)
  go_ret
  exact ⟨rb (by by_cases h : bitsOf a = bitsOf b <;> simp [h]; omega), rfl⟩
set_option maxRecDepth 100000 in
theorem plus_any (b : Nat) (w : World) : Calls Try.prog 55 #[.float .f64 b] w fun e w' => e = .returned (.bool (decide (b = 0))) ∧ w = w' := by
  go_enter Try.func55, Try.ntmps55
  go_wp2_with (go_at_call 78; refine (realSame_any _ _ _).mono ?_; rintro e w1 ⟨rfl, rfl⟩)
  go_ret
  refine ⟨rb (decide_eq_decide.2 ?_), rfl⟩
  have h0 : bitsOf 0 = 0 := (bitsOf_zero 0).2 rfl
  rw [h0, bitsOf_zero]
set_option maxRecDepth 100000 in
theorem nan_any (b : Nat) (w : World) : Calls Try.prog 81 #[.float .f64 b] w fun e w' => e = .returned (.bool (FloatKind.f64.format.order b b != some Ordering.eq)) ∧ w = w' := by
  go_enter Try.func81, Try.ntmps81
  go_wp2_with fail
  go_ret
  exact ⟨rfl, rfl⟩
set_option maxRecDepth 100000 in
theorem refSame_one (w : World) : Calls Try.prog 58 #[.float .f64 4607182418800017408, .float .f64 4607182418800017408] w fun e w' => e = .returned (.bool true) ∧ w = w' := by
  have h1 : (FloatKind.f64.format.order 4607182418800017408 4607182418800017408 != some Ordering.eq) = false := by decide +kernel
  have h2 : (FloatKind.f64.format.order 4607182418800017408 0 == some Ordering.eq) = false := by decide +kernel
  have h3 : (FloatKind.f64.format.order 4607182418800017408 4607182418800017408 == some Ordering.eq) = true := by decide +kernel
  go_enter Try.func58, Try.ntmps58
  go_wp2_with (go_at_call 81; refine (nan_any _ _).mono ?_; rintro e w1 ⟨rfl, rfl⟩; rw [h1])
  go_ret
  exact ⟨rfl, rfl⟩
theorem belAlloc (w : World) (o : Obj) : Below w.heap.size w (w.alloc o) := (Below.refl _ _).alloc (Nat.le_refl _) _
/-- A kind's word. -/
def wordOf (k : Int) : ByteArray := if k = 1 then ⟨#[103, 101, 116]⟩ else if k = 2 then ⟨#[112, 117, 116]⟩ else if k = 3 then ⟨#[100, 101, 108]⟩ else if k = 4 then ⟨#[97, 100, 100]⟩ else ⟨#[]⟩
set_option maxRecDepth 100000 in
theorem word_any (k : Int) (w : World) : Calls Try.prog 53 #[.int .i64 k] w fun e w' => e = .returned (.string (wordOf k)) ∧ Below w.heap.size w w' := by
  by_cases h0 : k < 0
  · have hw : Hid (wordOf k = ⟨#[]⟩) := Lib.hid (by unfold wordOf; rw [if_neg (by omega), if_neg (by omega), if_neg (by omega), if_neg (by omega)])
    go_enter Try.func53, Try.ntmps53
    go_wp2_with fail
    go_ret
    exact ⟨congrArg (fun x => Ending.returned (Value.string x)) hw.out.symm, belAlloc w _⟩
  · by_cases h5 : 5 ≤ k
    · have hw : Hid (wordOf k = ⟨#[]⟩) := Lib.hid (by unfold wordOf; rw [if_neg (by omega), if_neg (by omega), if_neg (by omega), if_neg (by omega)])
      go_enter Try.func53, Try.ntmps53
      go_wp2_with fail
      go_ret
      exact ⟨congrArg (fun x => Ending.returned (Value.string x)) hw.out.symm, belAlloc w _⟩
    · have hk : k = 0 ∨ k = 1 ∨ k = 2 ∨ k = 3 ∨ k = 4 := by omega
      rcases hk with rfl | rfl | rfl | rfl | rfl
      all_goals
        go_enter Try.func53, Try.ntmps53
        go_wp2_with fail
        go_ret
        exact ⟨rfl, belAlloc w _⟩
end Go.Proofs.Ytohgcghobidfpaa

/- Floating point words: when two are equal, when one is nought: plain lemmas, of no program. -/
set_option linter.unusedVariables false
set_option linter.unusedSimpArgs false
namespace Go.Fl
open Ieee
def B : Nat := 4503599627370496
def top : Nat := 9218868437227405312
def half : Nat := 9223372036854775808
theorem B_eq : Ieee.double.binade = B := rfl
theorem top_eq : Ieee.double.infRung = top := rfl
theorem half_eq : Ieee.double.signWeight = half := rfl
def rung (b : Nat) : Nat := b % half
def neg (b : Nat) : Bool := b / half % 2 == 1
def mag (r : Nat) : Nat := if r < B then r else B + r % B
def plc (r : Nat) : Nat := if r < B then 0 else r / B - 1
/-- The number of a rung, in units of the least. -/
def V (r : Nat) : Nat := mag r * 2 ^ plc r
theorem read_num {b : Nat} (h : rung b < top) : Ieee.double.read b = .number (neg b) (mag (rung b)) (-1074 + plc (rung b)) := by
  unfold Ieee.Format.read
  simp only [B_eq, top_eq, half_eq]
  change (if rung b < B then Datum.number (neg b) (rung b) _ else if rung b < top then _ else _) = _
  unfold mag plc
  by_cases h1 : rung b < B
  · rw [if_pos h1, if_pos h1, if_pos h1]; rfl
  · rw [if_neg h1, if_pos h, if_neg h1, if_neg h1]; rfl
theorem read_inf {b : Nat} (h : rung b = top) : Ieee.double.read b = .infinity (neg b) := by
  unfold Ieee.Format.read
  simp only [B_eq, top_eq, half_eq]
  change (if rung b < B then _ else if rung b < top then _ else if rung b = top then _ else _) = _
  rw [if_neg (by rw [h]; decide), if_neg (by omega), if_pos h]; rfl
theorem read_nan {b : Nat} (h : top < rung b) : Ieee.double.read b = .nan (neg b) (rung b - top) := by
  unfold Ieee.Format.read
  simp only [B_eq, top_eq, half_eq]
  change (if rung b < B then _ else if rung b < top then _ else if rung b = top then _ else _) = _
  rw [if_neg (by have : B < top := by decide
                 omega), if_neg (by omega), if_neg (by omega)]; rfl
theorem V_lt (r : Nat) : V r < B * 2 ^ (r / B) ∧ (B ≤ r → B * 2 ^ (r / B - 1) ≤ V r) ∧ (r < B → V r = r) := by
  unfold V mag plc
  by_cases h : r < B
  · simp only [if_pos h, Nat.pow_zero, Nat.mul_one]
    refine ⟨?_, fun h' => by omega, fun _ => trivial⟩
    rw [Nat.div_eq_of_lt h, Nat.pow_zero, Nat.mul_one]; exact h
  · simp only [if_neg h]
    have hB : 0 < B := by decide
    have hd : 1 ≤ r / B := (Nat.one_le_div_iff hB).2 (by omega)
    refine ⟨?_, fun _ => Nat.mul_le_mul_right _ (by omega), fun h' => absurd h' h⟩
    have h1 : B + r % B < B * 2 := by have := Nat.mod_lt r hB; omega
    have h2 : 2 ^ (r / B) = 2 * 2 ^ (r / B - 1) := by
      obtain ⟨e, he⟩ : ∃ e, r / B = e + 1 := ⟨r / B - 1, by omega⟩
      rw [he, Nat.pow_succ, Nat.add_sub_cancel, Nat.mul_comm]
    rw [h2, ← Nat.mul_assoc]
    exact Nat.mul_lt_mul_of_pos_right h1 (Nat.two_pow_pos _)
theorem V_inj_lt {r s : Nat} (h : r < s) : V r < V s := by
  have hB : 0 < B := by decide
  by_cases hs : s < B
  · rw [(V_lt r).2.2 (by omega), (V_lt s).2.2 hs]; exact h
  · by_cases hr : r < B
    · refine Nat.lt_of_lt_of_le (V_lt r).1 ?_
      rw [Nat.div_eq_of_lt hr, Nat.pow_zero, Nat.mul_one]
      refine Nat.le_trans ?_ ((V_lt s).2.1 (by omega))
      exact Nat.le_mul_of_pos_right _ (Nat.two_pow_pos _)
    · rcases Nat.lt_or_ge (r / B) (s / B) with hd | hd
      · refine Nat.lt_of_lt_of_le (V_lt r).1 (Nat.le_trans ?_ ((V_lt s).2.1 (by omega)))
        exact Nat.mul_le_mul_left _ (Nat.pow_le_pow_right (by decide) (by omega))
      · have he : r / B = s / B := Nat.le_antisymm (Nat.div_le_div_right (Nat.le_of_lt h)) hd
        unfold V mag plc
        rw [if_neg hs, if_neg hr, if_neg hs, if_neg hr, he]
        refine Nat.mul_lt_mul_of_pos_right ?_ (Nat.two_pow_pos _)
        have h1 := Nat.div_add_mod r B
        have h2 := Nat.div_add_mod s B
        rw [he] at h1
        omega
theorem V_inj {r s : Nat} (h : V r = V s) : r = s := by
  rcases Nat.lt_trichotomy r s with h1 | h1 | h1
  · have := V_inj_lt h1; omega
  · exact h1
  · have := V_inj_lt h1; omega
theorem V_zero {r : Nat} : V r = 0 ↔ r = 0 := by
  constructor
  · intro h
    refine V_inj (h.trans ?_)
    exact ((V_lt 0).2.2 (by decide)).symm
  · rintro rfl; exact (V_lt 0).2.2 (by decide)
/-- A number as an integer, in units of the least. -/
def IV (b : Nat) : Int := if neg b then -((V (rung b) : Nat) : Int) else ((V (rung b) : Nat) : Int)
theorem signed_mul (s : Bool) (m i k : Nat) : signed s m i * ((2 ^ k : Nat) : Int) = if s then -((m * 2 ^ (i + k) : Nat) : Int) else ((m * 2 ^ (i + k) : Nat) : Int) := by
  have h : (m <<< i) * 2 ^ k = m * 2 ^ (i + k) := by rw [Nat.shiftLeft_eq, Nat.mul_assoc, ← Nat.pow_add]
  unfold signed
  cases s
  · simp only [Bool.false_eq_true, if_false]; rw [← h]; push_cast; rfl
  · simp only [if_true]; rw [← h]; push_cast; rw [Int.neg_mul]
theorem cmp_num (s t : Bool) (m n p q : Nat) : (Datum.number s m (-1074 + (p : Int))).order (Datum.number t n (-1074 + (q : Int))) = some (compare (if s then -((m * 2 ^ p : Nat) : Int) else ((m * 2 ^ p : Nat) : Int)) (if t then -((n * 2 ^ q : Nat) : Int) else ((n * 2 ^ q : Nat) : Int))) := by
  unfold Datum.order
  simp only
  congr 1
  have hmin : min (-1074 + (p : Int)) (-1074 + (q : Int)) = -1074 + ((min p q : Nat) : Int) := by omega
  rw [hmin]
  have h1 : ((-1074 + (p : Int)) - (-1074 + ((min p q : Nat) : Int))).toNat = p - min p q := by omega
  have h2 : ((-1074 + (q : Int)) - (-1074 + ((min p q : Nat) : Int))).toNat = q - min p q := by omega
  rw [h1, h2]
  have e1 := signed_mul s m (p - min p q) (min p q)
  have e2 := signed_mul t n (q - min p q) (min p q)
  rw [show p - min p q + min p q = p by omega] at e1
  rw [show q - min p q + min p q = q by omega] at e2
  rw [← e1, ← e2]
  have hp : (0 : Int) < ((2 ^ min p q : Nat) : Int) := by exact_mod_cast Nat.two_pow_pos _
  generalize signed s m (p - min p q) = x
  generalize signed t n (q - min p q) = y
  generalize ((2 ^ min p q : Nat) : Int) = z at hp
  simp only [compare, compareOfLessAndEq]
  have a1 : (x * z < y * z) ↔ x < y := ⟨fun h => Int.lt_of_mul_lt_mul_right h (Int.le_of_lt hp), fun h => Int.mul_lt_mul_of_pos_right h hp⟩
  have a2 : (x * z = y * z) ↔ x = y := ⟨fun h => Int.eq_of_mul_eq_mul_right (by omega) h, fun h => by rw [h]⟩
  by_cases h : x < y
  · rw [if_pos h, if_pos (a1.2 h)]
  · rw [if_neg h, if_neg (fun h' => h (a1.1 h'))]
    by_cases h' : x = y
    · rw [if_pos h', if_pos (a2.2 h')]
    · rw [if_neg h', if_neg (fun h'' => h' (a2.1 h''))]
def isNan (b : Nat) : Bool := decide (top < rung b)
theorem order_num {a b : Nat} (ha : rung a < top) (hb : rung b < top) : Ieee.double.order a b = some (compare (IV a) (IV b)) := by
  unfold Format.order
  rw [read_num ha, read_num hb, cmp_num]
  rfl
theorem order_nan_l {a b : Nat} (ha : top < rung a) : Ieee.double.order a b = none := by
  unfold Format.order
  rw [read_nan ha]
  rfl
theorem order_nan_r {a b : Nat} (hb : top < rung b) : Ieee.double.order a b = none := by
  unfold Format.order
  rw [read_nan hb]
  cases Ieee.double.read a <;> rfl
theorem rung_neg {a b : Nat} (ha : a < 18446744073709551616) (hb : b < 18446744073709551616) (h1 : rung a = rung b) (h2 : neg a = neg b) : a = b := by
  unfold rung neg half at *
  have h3 : (a / 9223372036854775808 % 2 = 1) ↔ (b / 9223372036854775808 % 2 = 1) := by
    constructor
    · intro h; have := h2 ▸ (beq_iff_eq.2 h); exact beq_iff_eq.1 this
    · intro h; have := h2.symm ▸ (beq_iff_eq.2 h); exact beq_iff_eq.1 this
  omega
/-- Two words stand for the same number. -/
theorem order_eq {a b : Nat} (ha : a < 18446744073709551616) (hb : b < 18446744073709551616) : Ieee.double.order a b = some .eq ↔ isNan a = false ∧ isNan b = false ∧ (a = b ∨ (rung a = 0 ∧ rung b = 0)) := by
  have htop : 0 < top := by decide
  unfold isNan
  rcases Nat.lt_trichotomy (rung a) top with h1 | h1 | h1
  · rcases Nat.lt_trichotomy (rung b) top with h2 | h2 | h2
    · rw [order_num h1, decide_eq_false (by omega), decide_eq_false (by omega)]
      · simp only [Option.some.injEq, true_and]
        rw [show (compare (IV a) (IV b) = .eq) ↔ IV a = IV b from by simp [compare, compareOfLessAndEq]; split <;> simp_all <;> omega]
        unfold IV
        constructor
        · intro h
          cases ea : neg a <;> cases eb : neg b <;> simp only [ea, eb, Bool.false_eq_true, if_false, if_true] at h
          · exact .inl (rung_neg ha hb (V_inj (by omega)) (by rw [ea, eb]))
          · exact .inr ⟨V_zero.1 (by omega), V_zero.1 (by omega)⟩
          · exact .inr ⟨V_zero.1 (by omega), V_zero.1 (by omega)⟩
          · exact .inl (rung_neg ha hb (V_inj (by omega)) (by rw [ea, eb]))
        · rintro (rfl | ⟨h3, h4⟩)
          · rfl
          · rw [h3, h4, V_zero.2 rfl]; split <;> split <;> rfl
      · exact h2
    · have : Ieee.double.order a b ≠ some .eq := by
        unfold Format.order
        rw [read_num h1, read_inf h2]
        unfold Datum.order
        simp only
        split <;> simp
      constructor
      · intro h; exact absurd h this
      · rintro ⟨_, _, (rfl | ⟨h3, h4⟩)⟩ <;> omega
    · rw [order_nan_r h2, decide_eq_true h2]; simp
  · rcases Nat.lt_trichotomy (rung b) top with h2 | h2 | h2
    · have : Ieee.double.order a b ≠ some .eq := by
        unfold Format.order
        rw [read_num h2, read_inf h1]
        unfold Datum.order
        simp only
        split <;> simp
      constructor
      · intro h; exact absurd h this
      · rintro ⟨_, _, (rfl | ⟨h3, h4⟩)⟩ <;> omega
    · rw [decide_eq_false (by omega), decide_eq_false (by omega)]
      unfold Format.order
      rw [read_inf h1, read_inf h2]
      unfold Datum.order
      simp only [true_and]
      constructor
      · intro h
        refine .inl (rung_neg ha hb (by omega) ?_)
        cases ea : neg a <;> cases eb : neg b <;> rw [ea, eb] at h <;> first | rfl | (revert h; decide)
      · rintro (rfl | ⟨h3, h4⟩)
        · cases neg a <;> rfl
        · omega
    · rw [order_nan_r h2, decide_eq_true h2]; simp
  · rw [order_nan_l h1, decide_eq_true h1]; simp
end Go.Fl
