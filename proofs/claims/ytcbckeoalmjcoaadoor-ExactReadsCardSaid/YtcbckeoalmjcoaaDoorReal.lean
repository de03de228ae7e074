/- Numbers: the reference's sameness and kinds, at every number. -/
import Derived.Test.YtcbckeoalmjcoaaDoorFloat
import Derived.Test.YtcbckeoalmjcoaaDoorFlt
set_option linter.unusedVariables false
set_option linter.unusedSimpArgs false
namespace Go.Proofs.YtcbckeoalmjcoaaDoor
open Go.RowKit Go.Cw Go.Fl
theorem fmt_eq : FloatKind.f64.format = Ieee.double := rfl
theorem nan_eq {b : Nat} (hb : b < 18446744073709551616) : (FloatKind.f64.format.order b b != some Ordering.eq) = isNan b := by
  rw [fmt_eq]
  cases h : isNan b with
  | true =>
    have : Ieee.double.order b b = none := order_nan_l (of_decide_eq_true h)
    rw [this]; rfl
  | false =>
    rw [(order_eq hb hb).2 ⟨h, h, .inl rfl⟩]; rfl
theorem eqB {a b : Nat} (ha : a < 18446744073709551616) (hb : b < 18446744073709551616) : (FloatKind.f64.format.order a b == some Ordering.eq) = ((!isNan a && !isNan b) && (decide (a = b) || (decide (rung a = 0) && decide (rung b = 0)))) := by
  rw [fmt_eq, Bool.eq_iff_iff, beq_iff_eq, order_eq ha hb]
  simp [and_assoc]
theorem bitsOf_nan {b : Nat} (hb : b < 18446744073709551616) : bitsOf b = if isNan b then 9221120237041090561 else b := by
  unfold bitsOf
  rw [nan_eq hb]
theorem nan_word : isNan 9221120237041090561 = true := by decide
theorem zero_words {b : Nat} (hb : b < 18446744073709551616) (h : rung b = 0) : b = 0 ∨ b = 9223372036854775808 := by
  unfold rung half at h; omega
theorem run_fmul {P : Program} {t : TypeId} {x y z : Nat} (h : FloatKind.f64.format.mul x y = some z) (w : World) : (binOp .mul t (.float .f64 x) (.float .f64 y)).run P w = .ok (.float .f64 z) w := by
  simp [binOp, Op.floatArith, h]
theorem run_fdiv {P : Program} {t : TypeId} {x y z : Nat} (h : FloatKind.f64.format.div x y = some z) (w : World) : (binOp .quo t (.float .f64 x) (.float .f64 y)).run P w = .ok (.float .f64 z) w := by
  simp [binOp, Op.floatArith, h]
theorem run_fadd {P : Program} {t : TypeId} {x y z : Nat} (h : FloatKind.f64.format.add x y = some z) (w : World) : (binOp .add t (.float .f64 x) (.float .f64 y)).run P w = .ok (.float .f64 z) w := by
  simp [binOp, Op.floatArith, h]
theorem run_fsub {P : Program} {t : TypeId} {x y z : Nat} (h : FloatKind.f64.format.sub x y = some z) (w : World) : (binOp .sub t (.float .f64 x) (.float .f64 y)).run P w = .ok (.float .f64 z) w := by
  simp [binOp, Op.floatArith, h]
theorem div_p0 : FloatKind.f64.format.div 4607182418800017408 0 = some 9218868437227405312 := by decide +kernel
theorem div_n0 : FloatKind.f64.format.div 4607182418800017408 9223372036854775808 = some 18442240474082181120 := by decide +kernel
theorem inf_pp : (FloatKind.f64.format.order 9218868437227405312 9218868437227405312 == some Ordering.eq) = true := by decide +kernel
theorem inf_pn : (FloatKind.f64.format.order 9218868437227405312 18442240474082181120 == some Ordering.eq) = false := by decide +kernel
theorem inf_np : (FloatKind.f64.format.order 18442240474082181120 9218868437227405312 == some Ordering.eq) = false := by decide +kernel
theorem inf_nn : (FloatKind.f64.format.order 18442240474082181120 18442240474082181120 == some Ordering.eq) = true := by decide +kernel
theorem inf_lt0 : (FloatKind.f64.format.order 9218868437227405312 0 == some Ordering.lt) = false := by decide +kernel
theorem ninf_lt0 : (FloatKind.f64.format.order 18442240474082181120 0 == some Ordering.lt) = true := by decide +kernel
theorem z_pp : (FloatKind.f64.format.order 0 0 == some Ordering.eq) = true := by decide +kernel
theorem z_np : (FloatKind.f64.format.order 9223372036854775808 0 == some Ordering.eq) = true := by decide +kernel
set_option maxRecDepth 100000 in
set_option maxHeartbeats 1600000 in
theorem refSame_any (a b : Nat) (ha : a < 18446744073709551616) (hb : b < 18446744073709551616) (w : World) : Calls Tryd.prog 27 #[.float .f64 a, .float .f64 b] w fun e w' => e = .returned (.bool (decide (bitsOf a = bitsOf b))) ∧ w = w' := by
  have hna := nan_any a w
  have hnb := nan_any b w
  rw [nan_eq ha] at hna
  rw [nan_eq hb] at hnb
  cases ea : isNan a with
  | true =>
    have hR : Hid (decide (bitsOf a = bitsOf b) = isNan b) := Lib.hid (by
      rw [bitsOf_nan ha, bitsOf_nan hb, ea, if_pos rfl]
      cases eb : isNan b with
      | true => rw [if_pos rfl]; exact decide_eq_true rfl
      | false =>
        rw [if_neg (by simp)]
        refine decide_eq_false (fun h => ?_)
        rw [← h, nan_word] at eb
        cases eb)
    rw [ea] at hna
    clear ea ha hb
    go_enter Tryd.func27, Tryd.ntmps27
    go_wp2_with fail
    refine hna.mono ?_
    rintro e w1 ⟨rfl, rfl⟩
    go_wp2_with fail
    refine hna.mono ?_
    rintro e w1 ⟨rfl, rfl⟩
    go_wp2_with fail
    refine hnb.mono ?_
    rintro e w1 ⟨rfl, rfl⟩
    go_wp2_with fail
    go_ret
    exact ⟨rb hR.out.symm, rfl⟩
  | false =>
    cases eb : isNan b with
    | true =>
      have hR : Hid (decide (bitsOf a = bitsOf b) = false) := Lib.hid (by
        rw [bitsOf_nan ha, bitsOf_nan hb, ea, eb, if_pos rfl, if_neg (by simp)]
        refine decide_eq_false (fun h => ?_)
        rw [h, nan_word] at ea
        cases ea)
      rw [ea] at hna
      rw [eb] at hnb
      clear ea eb ha hb
      go_enter Tryd.func27, Tryd.ntmps27
      go_wp2_with fail
      refine hna.mono ?_
      rintro e w1 ⟨rfl, rfl⟩
      go_wp2_with fail
      refine hnb.mono ?_
      rintro e w1 ⟨rfl, rfl⟩
      go_wp2_with fail
      refine hna.mono ?_
      rintro e w1 ⟨rfl, rfl⟩
      go_wp2_with fail
      go_ret
      exact ⟨rb hR.out.symm, rfl⟩
    | false =>
      rw [bitsOf_nan ha, bitsOf_nan hb, ea, eb, if_neg (by simp), if_neg (by simp)]
      have hab := eqB ha hb
      have ha0 := eqB ha (show 0 < 18446744073709551616 by decide)
      have hb0 := eqB hb (show 0 < 18446744073709551616 by decide)
      rw [ea] at hna ha0 hab
      rw [eb] at hnb hb0 hab
      have n0 : isNan 0 = false := by decide
      have r0 : rung 0 = 0 := by decide
      rw [n0, r0] at ha0 hb0
      by_cases za : rung a = 0
      · by_cases zb : rung b = 0
        · rcases zero_words ha za with rfl | rfl <;> rcases zero_words hb zb with rfl | rfl
          all_goals
            clear ea eb hab ha0 hb0 n0 r0 za zb ha hb
            have h1 := @run_fdiv Tryd.prog 40 _ _ _ div_p0
            have h2 := @run_fdiv Tryd.prog 40 _ _ _ div_n0
            have h3 := inf_pp
            have h4 := inf_pn
            have h5 := inf_np
            have h6 := inf_nn
            have h7 := z_pp
            have h8 := z_np
            go_enter Tryd.func27, Tryd.ntmps27
            go_wp2_with fail
            refine hna.mono ?_
            rintro e w1 ⟨rfl, rfl⟩
            go_wp2_with fail
            refine hnb.mono ?_
            rintro e w1 ⟨rfl, rfl⟩
            go_wp2_with fail
            go_ret
            exact ⟨rfl, rfl⟩
        · have hz : ¬ b = 0 := by rintro rfl; exact zb r0
          have e1 : (FloatKind.f64.format.order a 0 == some Ordering.eq) = true := by rw [ha0]; simp [za]
          have e2 : (FloatKind.f64.format.order b 0 == some Ordering.eq) = false := by rw [hb0]; simp [zb, hz]
          have e3 : Hid ((FloatKind.f64.format.order a b == some Ordering.eq) = decide (a = b)) := Lib.hid (by rw [hab]; simp [zb])
          clear ea eb hab ha0 hb0 n0 r0 za zb hz ha hb
          go_enter Tryd.func27, Tryd.ntmps27
          go_wp2_with fail
          refine hna.mono ?_
          rintro e w1 ⟨rfl, rfl⟩
          go_wp2_with fail
          refine hnb.mono ?_
          rintro e w1 ⟨rfl, rfl⟩
          go_wp2_with fail
          go_ret
          exact ⟨rb e3.out, rfl⟩
      · have hz : ¬ a = 0 := by rintro rfl; exact za r0
        have e1 : (FloatKind.f64.format.order a 0 == some Ordering.eq) = false := by rw [ha0]; simp [za, hz]
        have e3 : Hid ((FloatKind.f64.format.order a b == some Ordering.eq) = decide (a = b)) := Lib.hid (by rw [hab]; simp [za])
        clear ea eb hab ha0 hb0 n0 r0 za hz ha hb
        go_enter Tryd.func27, Tryd.ntmps27
        go_wp2_with fail
        refine hna.mono ?_
        rintro e w1 ⟨rfl, rfl⟩
        go_wp2_with fail
        refine hnb.mono ?_
        rintro e w1 ⟨rfl, rfl⟩
        go_wp2_with fail
        go_ret
        exact ⟨rb e3.out, rfl⟩
/-- The word of a power of two. -/
def pw (k : Nat) : Nat := (1023 + k) * 4503599627370496
theorem mul2 : ∀ k : Fin 1023, FloatKind.f64.format.mul 4611686018427387904 (pw k.val) = some (pw (k.val + 1)) := by decide +kernel
theorem big1 : FloatKind.f64.format.div 9214364837600034816 4841369599423283200 = some 8980177656976769024 := by decide +kernel
theorem big2 : FloatKind.f64.format.sub 9214364837600034816 8980177656976769024 = some 9214364837600034814 := by decide +kernel
theorem big3 : FloatKind.f64.format.add 9214364837600034816 9214364837600034814 = some 9218868437227405311 := by decide +kernel
set_option maxRecDepth 100000 in
set_option maxHeartbeats 1600000 in
theorem big_any (w : World) : Calls Tryd.prog 62 #[] w fun e w' => e = .returned (.float .f64 9218868437227405311) ∧ w = w' := by
  go_enter Tryd.func62, Tryd.ntmps62
  go_wp2_with fail
  go_loop [1, 2] (fun s1 s2 => ∃ k : Nat, k ≤ 1023 ∧ s2 = .int .i64 (k : Int) ∧ s1 = .float .f64 (pw k)) (fun _ s2 => 1023 - (intOf s2).toNat)
  case atStart => exact ⟨0, by omega, rfl, rfl⟩
  case round =>
    obtain ⟨k, hk, rfl, rfl⟩ := hrel
    by_cases hlt : k < 1023
    · have hm := mul2 ⟨k, hlt⟩
      replace hm := @run_fmul Tryd.prog 40 _ _ _ hm
      simp only at hm
      generalize pw k = x at *
      generalize hy : pw (k + 1) = y at *
      replace hy := Lib.hid hy
      have hI : (k : Int) < 1023 := by omega
      go_wp2_with fail
      go_round
      case rel => exact ⟨k + 1, by omega, by go_num, by rw [hy.out]⟩
      case measure => simp [intOf]; omega
    · obtain rfl : k = 1023 := by omega
      have h0 : pw 1023 = 9214364837600034816 := by decide
      rw [h0]
      have h1 := @run_fdiv Tryd.prog 40 _ _ _ big1
      have h2 := @run_fsub Tryd.prog 40 _ _ _ big2
      have h3 := @run_fadd Tryd.prog 40 _ _ _ big3
      clear h0
      go_wp2_with fail
      go_ret
      exact ⟨rfl, rfl⟩
end Go.Proofs.YtcbckeoalmjcoaaDoor
