/- math.Abs, IsInf, IsNaN, Signbit; a number's kind. -/
import Derived.Test.YtcbckeoalmjcoaaDoorReal
import Derived.Test.YtcbckeoalmjcoaaDoorFltK
import Derived.Laws.BitsAllLaws
set_option linter.unusedVariables false
set_option linter.unusedSimpArgs false
namespace Go.Proofs.YtcbckeoalmjcoaaDoor
open Go.RowKit Go.Cw Go.Fl
attribute [local go_sem ↓] f64bits f64from
theorem abs_bits {b : Nat} (hb : b < 18446744073709551616) : bits .andNot .u64 (b : Int) 9223372036854775808 = ((rung b : Nat) : Int) := by
  have h := u64_andNot_nat b 9223372036854775808 hb (by decide)
  have e : b &&& (18446744073709551615 - 9223372036854775808) = rung b := by
    rw [show 18446744073709551615 - 9223372036854775808 = 2 ^ 63 - 1 by decide, Nat.and_two_pow_sub_one_eq_mod]
    rfl
  rw [e] at h
  exact h
theorem rung_lt (b : Nat) : rung b < 9223372036854775808 := Nat.mod_lt b (by decide)
set_option maxRecDepth 100000 in
theorem abs_any (b : Nat) (hb : b < 18446744073709551616) (w : World) : Calls Tryd.prog 106 #[.float .f64 b] w fun e w' => e = .returned (.float .f64 (rung b)) ∧ w = w' := by
  have h1 := abs_bits hb
  have h2 : ((rung b : Nat) : Int).toNat = rung b := by omega
  go_enter Tryd.func106, Tryd.ntmps106
  go_wp2_with fail
  go_ret
  exact ⟨rfl, rfl⟩
set_option maxRecDepth 100000 in
theorem isInf0_any (b : Nat) (hb : b < 18446744073709551616) (w : World) : Calls Tryd.prog 77 #[.float .f64 b, .int .i64 0] w fun e w' => e = .returned (.bool (decide (rung b = top))) ∧ w = w' := by
  have hA := Lib.hid (abs_any b hb w)
  have hg := gt_mx (rung b)
  have hr : rung (rung b) = rung b := Nat.mod_eq_of_lt (rung_lt b)
  have hn : neg (rung b) = false := by
    unfold neg
    rw [show half = 9223372036854775808 from rfl, Nat.div_eq_of_lt (rung_lt b)]
    rfl
  rw [hr, hn, Bool.not_false, Bool.and_true] at hg
  have hg2 : (FloatKind.f64.format.order (rung b) 9218868437227405311 == some Ordering.gt) = decide (rung b = top) := hg
  generalize decide (rung b = top) = B at *
  clear hg hr hn
  go_enter Tryd.func77, Tryd.ntmps77
  go_wp2_with fail
  refine hA.out.mono ?_
  rintro e w1 ⟨rfl, rfl⟩
  go_wp2_with fail
  go_ret
  exact ⟨rfl, rfl⟩
set_option maxRecDepth 100000 in
theorem isInfP_any (b : Nat) (hb : b < 18446744073709551616) (w : World) : Calls Tryd.prog 77 #[.float .f64 b, .int .i64 1] w fun e w' => e = .returned (.bool (decide (rung b = top) && !neg b)) ∧ w = w' := by
  have hg2 : (FloatKind.f64.format.order b 9218868437227405311 == some Ordering.gt) = (decide (rung b = top) && !neg b) := gt_mx b
  generalize (decide (rung b = top) && !neg b) = B at *
  go_enter Tryd.func77, Tryd.ntmps77
  go_wp2_with fail
  go_ret
  exact ⟨rfl, rfl⟩
theorem run_fneg {P : Program} {b : Nat} (hb : b < 18446744073709551616) (w : World) : (Op.unary .neg (.float .f64 b)).run P w = .ok (.float .f64 (Ieee.double.word (!neg b) (rung b))) w := by
  have h : Op.negFloat .f64 b = Ieee.double.word (!neg b) (rung b) := negF hb
  simp [Op.unary, h]
set_option maxRecDepth 100000 in
theorem isInfN_any (b : Nat) (hb : b < 18446744073709551616) (w : World) : Calls Tryd.prog 77 #[.float .f64 b, .int .i64 (-1)] w fun e w' => e = .returned (.bool (decide (rung b = top) && neg b)) ∧ w = w' := by
  have hn := fun w => @run_fneg Tryd.prog b hb w
  obtain ⟨hw1, hw2, hw3⟩ := word_rung (s := !neg b) (rung_lt b)
  have hg2 : (FloatKind.f64.format.order (Ieee.double.word (!neg b) (rung b)) 9218868437227405311 == some Ordering.gt) = (decide (rung b = top) && neg b) := by
    have := gt_mx (Ieee.double.word (!neg b) (rung b))
    rw [hw1, hw2, Bool.not_not] at this
    exact this
  generalize (decide (rung b = top) && neg b) = B at *
  generalize Ieee.double.word (!neg b) (rung b) = c at *
  clear hw1 hw2 hw3
  go_enter Tryd.func77, Tryd.ntmps77
  go_wp2_with fail
  go_ret
  exact ⟨rfl, rfl⟩
set_option maxRecDepth 100000 in
theorem isNaN_any (b : Nat) (hb : b < 18446744073709551616) (w : World) : Calls Tryd.prog 114 #[.float .f64 b] w fun e w' => e = .returned (.bool (isNan b)) ∧ w = w' := by
  have h := nan_eq hb
  generalize isNan b = B at *
  go_enter Tryd.func114, Tryd.ntmps114
  go_wp2_with fail
  go_ret
  exact ⟨rfl, rfl⟩
theorem sign_wrap {b : Nat} (hb : b < 18446744073709551616) : decide (IntKind.i64.wrap (b : Int) < 0) = neg b := by
  unfold neg half
  rw [IntKind.wrap_i64, Bool.eq_iff_iff, decide_eq_true_eq, beq_iff_eq]
  omega
set_option maxRecDepth 100000 in
theorem signbit_any (b : Nat) (hb : b < 18446744073709551616) (w : World) : Calls Tryd.prog 78 #[.float .f64 b] w fun e w' => e = .returned (.bool (neg b)) ∧ w = w' := by
  have h := sign_wrap hb
  have h2 : decide (wrap64 (b : Int) < 0) = neg b := by
    unfold wrap64
    rw [← h, IntKind.wrap_i64]
  clear h
  generalize neg b = B at *
  go_enter Tryd.func78, Tryd.ntmps78
  go_wp2_with fail
  go_ret
  exact ⟨rfl, rfl⟩
end Go.Proofs.YtcbckeoalmjcoaaDoor
