/- math.normalize, Frexp. -/
import Derived.Test.YtcbckeoalmjcoaaDoorMath
import Derived.Test.YtcbckeoalmjcoaaDoorFltL
set_option linter.unusedVariables false
set_option linter.unusedSimpArgs false
namespace Go.Proofs.YtcbckeoalmjcoaaDoor
open Go.RowKit Go.Cw Go.Fl
attribute [local go_sem ↓] f64bits f64from
/-- A number made normal: its rung then, by how many twos it was made greater. -/
structure NrmR (r r' k : Nat) : Prop where
  ge : B ≤ r'
  lt : r' < top
  v : V r' = V r * 2 ^ k
  k : k = 0 ∨ k = 52
set_option maxRecDepth 100000 in
set_option maxHeartbeats 1600000 in
theorem normalize_any (b : Nat) (hb : b < 18446744073709551616) (hf : rung b < top) (h0 : rung b ≠ 0) (w : World) :
    Calls Tryd.prog 115 #[.float .f64 b] w fun e w' => ∃ r' k : Nat, NrmR (rung b) r' k ∧ e = .returned (.tuple #[.float .f64 (Ieee.double.word (neg b) r'), .int .i64 (-(k : Int))]) ∧ w = w' := by
  have hfin : ∀ r' k : Nat, NrmR (rung b) r' k → (fun (e : Ending) (w' : World) => ∃ r' k : Nat, NrmR (rung b) r' k ∧ e = .returned (.tuple #[.float .f64 (Ieee.double.word (neg b) r'), .int .i64 (-(k : Int))]) ∧ w = w') (.returned (.tuple #[.float .f64 (Ieee.double.word (neg b) r'), .int .i64 (-(k : Int))])) w := fun r' k h => ⟨r', k, h, rfl, rfl⟩
  generalize (fun (e : Ending) (w' : World) => ∃ r' k : Nat, NrmR (rung b) r' k ∧ e = .returned (.tuple #[.float .f64 (Ieee.double.word (neg b) r'), .int .i64 (-(k : Int))]) ∧ w = w') = Q at *
  replace hfin := Lib.hid hfin
  have hA := Lib.hid (abs_any b hb w)
  have hr : rung (rung b) = rung b := Nat.mod_eq_of_lt (rung_lt b)
  have hn : neg (rung b) = false := by
    unfold neg
    rw [show half = 9223372036854775808 from rfl, Nat.div_eq_of_lt (rung_lt b)]
    rfl
  have hB1 : rung B = B := by decide
  have hB2 : neg B = false := by decide
  have hc : (FloatKind.f64.format.order (rung b) 4503599627370496 == some Ordering.lt) = decide (rung b < B) := by
    have := lt_rung (b := rung b) (c := B) (by rw [hr]; exact hf) (by rw [hB1]; decide) hn hB2
    rw [hr, hB1] at this
    exact this
  by_cases hs : rung b < B
  · rw [decide_eq_true hs] at hc
    obtain ⟨r', h1, h2, h3, h4⟩ := mul_p52 hs h0
    have hm := @run_fmul Tryd.prog 40 _ _ _ (show FloatKind.f64.format.mul b 4841369599423283200 = some _ from h4)
    have hz := hfin.out r' 52 (NrmR.mk h1 h2 h3 (.inr rfl))
    rw [show -((52 : Nat) : Int) = -52 by rfl] at hz
    replace hz := Lib.hid hz
    generalize Ieee.double.word (neg b) r' = c at *
    clear hfin h1 h2 h3 h4 hr hn hB1 hB2 hs hf h0
    go_enter Tryd.func115, Tryd.ntmps115
    go_wp2_with fail
    refine hA.out.mono ?_
    rintro e w1 ⟨rfl, rfl⟩
    go_wp2_with fail
    exact hz.out
  · rw [decide_eq_false hs] at hc
    have hz := hfin.out (rung b) 0 (NrmR.mk (r := rung b) (r' := rung b) (k := 0) (by omega) hf (by rw [Nat.pow_zero, Nat.mul_one]) (.inl rfl))
    rw [show -((0 : Nat) : Int) = 0 by rfl, word_self hb] at hz
    replace hz := Lib.hid hz
    clear hfin hr hn hB1 hB2 hs hf h0
    go_enter Tryd.func115, Tryd.ntmps115
    go_wp2_with fail
    refine hA.out.mono ?_
    rintro e w1 ⟨rfl, rfl⟩
    go_wp2_with fail
    exact hz.out
theorem frexp_wraps {q k : Nat} (hq : q < 2047) (hk : k ≤ 52) : wrap64 (q : Int) = (q : Int) ∧ wrap64 ((q : Int) - 1023) = (q : Int) - 1023 ∧ wrap64 ((q : Int) - 1023 + 1) = (q : Int) - 1022 ∧ wrap64 (-(k : Int) + ((q : Int) - 1022)) = (q : Int) - 1022 - (k : Int) := by
  unfold wrap64
  omega
theorem fin_facts {b : Nat} (hb : b < 18446744073709551616) (hf : rung b < top) (h0 : rung b ≠ 0) : (FloatKind.f64.format.order b 0 == some Ordering.eq) = false ∧ decide (rung b = top) = false ∧ isNan b = false :=
  ⟨by have : (FloatKind.f64.format.order b 0 == some Ordering.eq) = _ := eq_0 b hb
      rw [this]; exact decide_eq_false h0, decide_eq_false (by omega), decide_eq_false (by omega)⟩
set_option maxRecDepth 100000 in
set_option maxHeartbeats 1600000 in
theorem frexp_any (b : Nat) (hb : b < 18446744073709551616) (hf : rung b < top) (h0 : rung b ≠ 0) (w : World) :
    Calls Tryd.prog 108 #[.float .f64 b] w fun e w' => ∃ r' k : Nat, NrmR (rung b) r' k ∧ e = .returned (.tuple #[.float .f64 (Ieee.double.word (neg b) (1022 * B + r' % B)), .int .i64 ((r' / B : Nat) - 1022 - (k : Int))]) ∧ w = w' := by
  have hfin : ∀ r' k : Nat, NrmR (rung b) r' k → (fun (e : Ending) (w' : World) => ∃ r' k : Nat, NrmR (rung b) r' k ∧ e = .returned (.tuple #[.float .f64 (Ieee.double.word (neg b) (1022 * B + r' % B)), .int .i64 ((r' / B : Nat) - 1022 - (k : Int))]) ∧ w = w') (.returned (.tuple #[.float .f64 (Ieee.double.word (neg b) (1022 * B + r' % B)), .int .i64 ((r' / B : Nat) - 1022 - (k : Int))])) w := fun r' k h => ⟨r', k, h, rfl, rfl⟩
  generalize (fun (e : Ending) (w' : World) => ∃ r' k : Nat, NrmR (rung b) r' k ∧ e = .returned (.tuple #[.float .f64 (Ieee.double.word (neg b) (1022 * B + r' % B)), .int .i64 ((r' / B : Nat) - 1022 - (k : Int))]) ∧ w = w') = Q at *
  replace hfin := Lib.hid hfin
  obtain ⟨e0, eI, eN⟩ := fin_facts hb hf h0
  have hI := isInf0_any b hb w
  rw [eI] at hI
  replace hI := Lib.hid hI
  have hN := isNaN_any b hb w
  rw [eN] at hN
  replace hN := Lib.hid hN
  have hZ := Lib.hid (normalize_any b hb hf h0 w)
  clear eI eN
  go_enter Tryd.func108, Tryd.ntmps108
  go_wp2_with fail
  refine hI.out.mono ?_
  rintro e w1 ⟨rfl, rfl⟩
  go_wp2_with fail
  refine hN.out.mono ?_
  rintro e w1 ⟨rfl, rfl⟩
  go_wp2_with fail
  refine hZ.out.mono ?_
  rintro e w1 ⟨r', k, hR, rfl, rfl⟩
  obtain ⟨x, hx⟩ : ∃ x, Ieee.double.word (neg b) r' = x := ⟨_, rfl⟩
  have hrh : r' < half := Nat.lt_trans hR.lt (by decide)
  have hxl : x < 18446744073709551616 := by rw [← hx]; exact (word_rung hrh).2.2
  obtain ⟨q, hq⟩ : ∃ q, q = r' / B := ⟨_, rfl⟩
  obtain ⟨y, hy⟩ : ∃ y, y = Ieee.double.word (neg b) (r' % B) := ⟨_, rfl⟩
  obtain ⟨z, hz⟩ : ∃ z, z = Ieee.double.word (neg b) (1022 * B + r' % B) := ⟨_, rfl⟩
  have hqb : q < 2047 := by
    have ht : top = 2047 * B := by decide
    have hl := hR.lt
    rw [ht] at hl
    rw [hq]
    exact Nat.div_lt_of_lt_mul (by rwa [Nat.mul_comm] at hl)
  obtain ⟨f1, f2, f3⟩ := word_fields (neg b) r' hrh
  rw [hx] at f1 f2
  have hyl : y < 18446744073709551616 := by
    rw [hy]
    exact (word_rung (Nat.lt_of_le_of_lt (Nat.mod_le _ _) hrh)).2.2
  have a1 : bits .and .u64 ((x : Int) / 4503599627370496) 2047 = ((q : Nat) : Int) := by
    have h := u64_and_nat (x / 4503599627370496) 2047 (by omega) (by decide)
    rw [nat_mask11, f1] at h
    rw [hq]
    exact h
  have a2 : bits .andNot .u64 (x : Int) 9218868437227405312 = ((y : Nat) : Int) := by
    have h := u64_andNot_nat x 9218868437227405312 hxl (by decide)
    rw [bits_clear hxl, f2] at h
    rw [hy]
    exact h
  have a3 : bits .or .u64 (y : Int) 4602678819172646912 = ((z : Nat) : Int) := by
    have h := u64_or_nat y 4602678819172646912 hyl (by decide)
    have h2 := f3 1022 (by decide)
    rw [hz]
    rw [hy] at h ⊢
    exact h.trans (congrArg _ h2)
  have hk : k ≤ 52 := by rcases hR.k with h | h <;> omega
  obtain ⟨w1, w2, w3, w4⟩ := frexp_wraps hqb hk
  have hQ := hfin.out r' k hR
  rw [← hz, ← hq, ← w4] at hQ
  replace hQ := Lib.hid hQ
  rw [hx]
  clear hfin hR
  replace hx := Lib.hid hx
  replace hq := Lib.hid hq
  replace hy := Lib.hid hy
  replace hz := Lib.hid hz
  clear f1 f2 f3 hrh hxl hyl hqb hk hb hf h0 e0 hI hN hZ
  go_wp2_with fail
  exact hQ.out
set_option maxRecDepth 100000 in
theorem frexpM_any (b : Nat) (hb : b < 18446744073709551616) (hf : rung b < top) (h0 : rung b ≠ 0) (w : World) :
    Calls Tryd.prog 79 #[.float .f64 b] w fun e w' => ∃ r' k : Nat, NrmR (rung b) r' k ∧ e = .returned (.tuple #[.float .f64 (Ieee.double.word (neg b) (1022 * B + r' % B)), .int .i64 ((r' / B : Nat) - 1022 - (k : Int))]) ∧ w = w' := by
  have hfin : ∀ r' k : Nat, NrmR (rung b) r' k → (fun (e : Ending) (w' : World) => ∃ r' k : Nat, NrmR (rung b) r' k ∧ e = .returned (.tuple #[.float .f64 (Ieee.double.word (neg b) (1022 * B + r' % B)), .int .i64 ((r' / B : Nat) - 1022 - (k : Int))]) ∧ w = w') (.returned (.tuple #[.float .f64 (Ieee.double.word (neg b) (1022 * B + r' % B)), .int .i64 ((r' / B : Nat) - 1022 - (k : Int))])) w := fun r' k h => ⟨r', k, h, rfl, rfl⟩
  generalize (fun (e : Ending) (w' : World) => ∃ r' k : Nat, NrmR (rung b) r' k ∧ e = .returned (.tuple #[.float .f64 (Ieee.double.word (neg b) (1022 * B + r' % B)), .int .i64 ((r' / B : Nat) - 1022 - (k : Int))]) ∧ w = w') = Q at *
  replace hfin := Lib.hid hfin
  have hZ := Lib.hid (frexp_any b hb hf h0 w)
  go_enter Tryd.func79, Tryd.ntmps79
  go_wp2_with fail
  refine hZ.out.mono ?_
  rintro e w1 ⟨r', k, hR, rfl, rfl⟩
  have hQ := Lib.hid (hfin.out r' k hR)
  clear hfin hR hZ
  go_wp2_with fail
  exact hQ.out
end Go.Proofs.YtcbckeoalmjcoaaDoor
