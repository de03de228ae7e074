/- A number's kind: real.Kind, the reference's Kind. -/
import Derived.Test.YtcbckeoalmjcoaaDoorMath
set_option linter.unusedVariables false
set_option linter.unusedSimpArgs false
namespace Go.Proofs.YtcbckeoalmjcoaaDoor
open Go.RowKit Go.Cw Go.Fl
attribute [local go_sem ↓] f64bits f64from
theorem kind_tree (b : Nat) : kindOf b = if isNan b then 0 else if (decide (rung b = top) && neg b) then 1 else if ((decide (rung b ≤ top) && decide (rung b ≠ 0)) && neg b) then 2 else if decide (rung b = 0) then (if neg b then 3 else 4) else if (decide (rung b = top) && !neg b) then 6 else 5 := by
  have ht : 0 < top := by decide
  unfold kindOf isNan
  rcases Nat.lt_trichotomy (rung b) top with h | h | h
  · have h1 : ¬ top < rung b := by omega
    have h2 : ¬ rung b = top := by omega
    have h3 : rung b ≤ top := by omega
    by_cases h0 : rung b = 0
    · have h5 : ¬ 0 = top := by omega
      cases neg b <;> simp [h1, h2, h3, h0, h5]
    · have h5 : ¬ 0 = top := by omega
      cases neg b <;> simp [h1, h2, h3, h0, h5]
  · have h1 : ¬ top < rung b := by omega
    have h0 : ¬ rung b = 0 := by omega
    have h4 : ¬ top = 0 := by omega
    cases neg b <;> simp [h, h4]
  · simp [h]
set_option maxRecDepth 100000 in
set_option maxHeartbeats 1600000 in
theorem kind_any (b : Nat) (hb : b < 18446744073709551616) (w : World) : Calls Tryd.prog 50 #[.float .f64 b] w fun e w' => e = .returned (.int .i64 (kindOf b)) ∧ w = w' := by
  have hfin : ∀ w', w = w' → (fun (e : Ending) (w' : World) => e = .returned (.int .i64 (kindOf b)) ∧ w = w') (.returned (.int .i64 (kindOf b))) w' := fun w' h => ⟨rfl, h⟩
  rw [kind_tree] at hfin ⊢
  generalize (fun (e : Ending) (w' : World) => e = .returned (.int .i64 (if isNan b then 0 else if (decide (rung b = top) && neg b) then 1 else if ((decide (rung b ≤ top) && decide (rung b ≠ 0)) && neg b) then 2 else if decide (rung b = 0) then (if neg b then 3 else 4) else if (decide (rung b = top) && !neg b) then 6 else 5)) ∧ w = w') = Q at *
  have h1 := nan_eq hb
  have h2 := Lib.hid (isInfN_any b hb w)
  have h3 : (FloatKind.f64.format.order b 0 == some Ordering.lt) = _ := lt_0 b
  have h4 : (FloatKind.f64.format.order b 0 == some Ordering.eq) = _ := eq_0 b hb
  have h5 := Lib.hid (signbit_any b hb w)
  have h6 := Lib.hid (isInfP_any b hb w)
  generalize isNan b = N at *
  generalize (decide (rung b = top) && neg b) = I1 at *
  generalize ((decide (rung b ≤ top) && decide (rung b ≠ 0)) && neg b) = L at *
  generalize decide (rung b = 0) = Z at *
  generalize (decide (rung b = top) && !neg b) = I2 at *
  generalize neg b = S at *
  cases N with
  | true =>
    simp only [if_true] at hfin
    have hz := Lib.hid (hfin w rfl)
    go_enter Tryd.func50, Tryd.ntmps50
    clear hfin
    go_wp2_with fail
    go_step3
    go_wp2_with fail
    go_step3
    go_wp2_with fail
    exact hz.out
  | false =>
    cases I1 with
    | true =>
      simp only [if_true, Bool.false_eq_true, if_false] at hfin
      have hz := Lib.hid (hfin w rfl)
      go_enter Tryd.func50, Tryd.ntmps50
      clear hfin
      go_wp2_with fail
      go_step3
      go_wp2_with fail
      go_step3
      go_wp2_with fail
      refine h2.out.mono ?_
      rintro e w1 ⟨rfl, rfl⟩
      go_wp2_with fail
      exact hz.out
    | false =>
      cases L with
      | true =>
        simp only [if_true, Bool.false_eq_true, if_false] at hfin
        have hz := Lib.hid (hfin w rfl)
        go_enter Tryd.func50, Tryd.ntmps50
        clear hfin
        go_wp2_with fail
        go_step3
        go_wp2_with fail
        go_step3
        go_wp2_with fail
        refine h2.out.mono ?_
        rintro e w1 ⟨rfl, rfl⟩
        go_wp2_with fail
        exact hz.out
      | false =>
        cases Z with
        | true =>
          cases S with
          | true =>
            simp only [if_true, Bool.false_eq_true, if_false] at hfin
            have hz := Lib.hid (hfin w rfl)
            go_enter Tryd.func50, Tryd.ntmps50
            clear hfin
            go_wp2_with fail
            go_step3
            go_wp2_with fail
            go_step3
            go_wp2_with fail
            refine h2.out.mono ?_
            rintro e w1 ⟨rfl, rfl⟩
            go_wp2_with fail
            refine h5.out.mono ?_
            rintro e w1 ⟨rfl, rfl⟩
            go_wp2_with fail
            exact hz.out
          | false =>
            simp only [if_true, Bool.false_eq_true, if_false] at hfin
            have hz := Lib.hid (hfin w rfl)
            go_enter Tryd.func50, Tryd.ntmps50
            clear hfin
            go_wp2_with fail
            go_step3
            go_wp2_with fail
            go_step3
            go_wp2_with fail
            refine h2.out.mono ?_
            rintro e w1 ⟨rfl, rfl⟩
            go_wp2_with fail
            refine h5.out.mono ?_
            rintro e w1 ⟨rfl, rfl⟩
            go_wp2_with fail
            exact hz.out
        | false =>
          cases I2 with
          | true =>
            simp only [if_true, Bool.false_eq_true, if_false] at hfin
            have hz := Lib.hid (hfin w rfl)
            go_enter Tryd.func50, Tryd.ntmps50
            clear hfin
            go_wp2_with fail
            go_step3
            go_wp2_with fail
            go_step3
            go_wp2_with fail
            refine h2.out.mono ?_
            rintro e w1 ⟨rfl, rfl⟩
            go_wp2_with fail
            refine h6.out.mono ?_
            rintro e w1 ⟨rfl, rfl⟩
            go_wp2_with fail
            exact hz.out
          | false =>
            simp only [if_true, Bool.false_eq_true, if_false] at hfin
            have hz := Lib.hid (hfin w rfl)
            go_enter Tryd.func50, Tryd.ntmps50
            clear hfin
            go_wp2_with fail
            go_step3
            go_wp2_with fail
            go_step3
            go_wp2_with fail
            refine h2.out.mono ?_
            rintro e w1 ⟨rfl, rfl⟩
            go_wp2_with fail
            refine h6.out.mono ?_
            rintro e w1 ⟨rfl, rfl⟩
            go_wp2_with fail
            exact hz.out
theorem kind_ref (b : Nat) : kindOf b = if isNan b then 0 else if decide (rung b = 0) then (if neg b then 3 else 4) else if ((decide (rung b ≤ top) && decide (rung b ≠ 0)) && neg b) then (if (decide (rung b = top) && neg b) then 1 else 2) else if (decide (rung b = top) && !neg b) then 6 else 5 := by
  have ht : 0 < top := by decide
  unfold kindOf isNan
  rcases Nat.lt_trichotomy (rung b) top with h | h | h
  · have h1 : ¬ top < rung b := by omega
    have h2 : ¬ rung b = top := by omega
    have h3 : rung b ≤ top := by omega
    by_cases h0 : rung b = 0
    · have h5 : ¬ 0 = top := by omega
      cases neg b <;> simp [h1, h2, h3, h0, h5]
    · have h5 : ¬ 0 = top := by omega
      cases neg b <;> simp [h1, h2, h3, h0, h5]
  · have h1 : ¬ top < rung b := by omega
    have h0 : ¬ rung b = 0 := by omega
    have h4 : ¬ top = 0 := by omega
    cases neg b <;> simp [h, h4]
  · simp [h]
theorem run_nmx {P : Program} (w : World) : (Op.unary .neg (.float .f64 9218868437227405311)).run P w = .ok (.float .f64 18442240474082181119) w := by
  have h : Op.negFloat .f64 9218868437227405311 = 18442240474082181119 := by decide +kernel
  simp [Op.unary, h]
set_option maxRecDepth 100000 in
set_option maxHeartbeats 1600000 in
theorem refKind_any (b : Nat) (hb : b < 18446744073709551616) (w : World) : Calls Tryd.prog 30 #[.float .f64 b] w fun e w' => e = .returned (.int .i64 (kindOf b)) ∧ w = w' := by
  have hfin : ∀ w', w = w' → (fun (e : Ending) (w' : World) => e = .returned (.int .i64 (kindOf b)) ∧ w = w') (.returned (.int .i64 (kindOf b))) w' := fun w' h => ⟨rfl, h⟩
  rw [kind_ref] at hfin ⊢
  generalize (fun (e : Ending) (w' : World) => e = .returned (.int .i64 (if isNan b then 0 else if decide (rung b = 0) then (if neg b then 3 else 4) else if ((decide (rung b ≤ top) && decide (rung b ≠ 0)) && neg b) then (if (decide (rung b = top) && neg b) then 1 else 2) else if (decide (rung b = top) && !neg b) then 6 else 5)) ∧ w = w') = Q at *
  have h1 := nan_any b w
  rw [nan_eq hb] at h1
  replace h1 := Lib.hid h1
  have h2 := big_any w
  replace h2 := Lib.hid h2
  have h3 : (FloatKind.f64.format.order b 0 == some Ordering.lt) = _ := lt_0 b
  have h4 : (FloatKind.f64.format.order b 0 == some Ordering.eq) = _ := eq_0 b hb
  have h5 : (FloatKind.f64.format.order b 18442240474082181119 == some Ordering.lt) = _ := lt_mn b
  have h6 : (FloatKind.f64.format.order b 9218868437227405311 == some Ordering.gt) = _ := gt_mx b
  have hzw := Lib.hid (zero_words hb)
  have hn := fun w => @run_nmx Tryd.prog w
  have hp0 := @run_fdiv Tryd.prog 40 _ _ _ div_p0
  have hn0 := @run_fdiv Tryd.prog 40 _ _ _ div_n0
  have il := inf_lt0
  have nl := ninf_lt0
  cases hN : isNan b with
  | true =>
    rw [hN] at h1
    simp only [hN, if_true] at hfin
    have hz := Lib.hid (hfin w rfl)
    clear hfin h3 h4 h5 h6 hN
    go_enter Tryd.func30, Tryd.ntmps30
    go_wp2_with fail
    refine h1.out.mono ?_
    rintro e w1 ⟨rfl, rfl⟩
    go_wp2_with fail
    exact hz.out
  | false =>
    rw [hN] at h1
    simp only [hN, Bool.false_eq_true, if_false] at hfin
    by_cases hZ : rung b = 0
    · rcases hzw.out hZ with rfl | rfl
      · have hne : neg 0 = false := by decide
        simp only [hZ, decide_true, if_true, hne, Bool.false_eq_true, if_false] at hfin
        have hz := Lib.hid (hfin w rfl)
        have h4' : (FloatKind.f64.format.order 0 0 == some Ordering.eq) = true := z_pp
        clear hfin h3 h4 h5 h6 hN hZ hne
        go_enter Tryd.func30, Tryd.ntmps30
        go_wp2_with fail
        refine h1.out.mono ?_
        rintro e w1 ⟨rfl, rfl⟩
        go_wp2_with fail
        exact hz.out
      · have hne : neg 9223372036854775808 = true := by decide
        simp only [hZ, decide_true, if_true, hne] at hfin
        have hz := Lib.hid (hfin w rfl)
        have h4' : (FloatKind.f64.format.order 9223372036854775808 0 == some Ordering.eq) = true := z_np
        clear hfin h3 h4 h5 h6 hN hZ hne
        go_enter Tryd.func30, Tryd.ntmps30
        go_wp2_with fail
        refine h1.out.mono ?_
        rintro e w1 ⟨rfl, rfl⟩
        go_wp2_with fail
        exact hz.out
    · rw [decide_eq_false hZ] at h4 hfin
      simp only [Bool.false_eq_true, if_false] at hfin
      clear hZ hN hzw hp0 hn0 il nl
      generalize ((decide (rung b ≤ top) && decide (rung b ≠ 0)) && neg b) = L at *
      generalize (decide (rung b = top) && neg b) = I1 at *
      generalize (decide (rung b = top) && !neg b) = I2 at *
      cases L with
      | true =>
        cases I1 with
        | true =>
          simp only [if_true] at hfin
          have hz := Lib.hid (hfin w rfl)
          clear hfin
          go_enter Tryd.func30, Tryd.ntmps30
          go_wp2_with fail
          refine h1.out.mono ?_
          rintro e w1 ⟨rfl, rfl⟩
          go_wp2_with fail
          refine h2.out.mono ?_
          rintro e w1 ⟨rfl, rfl⟩
          go_wp2_with fail
          exact hz.out
        | false =>
          simp only [if_true, Bool.false_eq_true, if_false] at hfin
          have hz := Lib.hid (hfin w rfl)
          clear hfin
          go_enter Tryd.func30, Tryd.ntmps30
          go_wp2_with fail
          refine h1.out.mono ?_
          rintro e w1 ⟨rfl, rfl⟩
          go_wp2_with fail
          refine h2.out.mono ?_
          rintro e w1 ⟨rfl, rfl⟩
          go_wp2_with fail
          exact hz.out
      | false =>
        cases I2 with
        | true =>
          simp only [if_true, Bool.false_eq_true, if_false] at hfin
          have hz := Lib.hid (hfin w rfl)
          clear hfin
          go_enter Tryd.func30, Tryd.ntmps30
          go_wp2_with fail
          refine h1.out.mono ?_
          rintro e w1 ⟨rfl, rfl⟩
          go_wp2_with fail
          refine h2.out.mono ?_
          rintro e w1 ⟨rfl, rfl⟩
          go_wp2_with fail
          exact hz.out
        | false =>
          simp only [if_true, Bool.false_eq_true, if_false] at hfin
          have hz := Lib.hid (hfin w rfl)
          clear hfin
          go_enter Tryd.func30, Tryd.ntmps30
          go_wp2_with fail
          refine h1.out.mono ?_
          rintro e w1 ⟨rfl, rfl⟩
          go_wp2_with fail
          refine h2.out.mono ?_
          rintro e w1 ⟨rfl, rfl⟩
          go_wp2_with fail
          exact hz.out
end Go.Proofs.YtcbckeoalmjcoaaDoor
