/- math.Inf, NaN, Copysign of 0, Ldexp. -/
import Derived.Test.YtcbckeoalmjcoaaDoorMath2
import Derived.Test.YtcbckeoalmjcoaaDoorFltM
set_option linter.unusedVariables false
set_option linter.unusedSimpArgs false
namespace Go.Proofs.YtcbckeoalmjcoaaDoor
open Go.RowKit Go.Cw Go.Fl
attribute [local go_sem ↓] f64bits f64from
set_option maxRecDepth 100000 in
theorem infP_any (w : World) : Calls Tryd.prog 55 #[.int .i64 1] w fun e w' => e = .returned (.float .f64 9218868437227405312) ∧ w = w' := by
  go_enter Tryd.func55, Tryd.ntmps55
  go_wp2_with fail
  go_ret
  exact ⟨rfl, rfl⟩
set_option maxRecDepth 100000 in
theorem infN_any (w : World) : Calls Tryd.prog 55 #[.int .i64 (-1)] w fun e w' => e = .returned (.float .f64 18442240474082181120) ∧ w = w' := by
  go_enter Tryd.func55, Tryd.ntmps55
  go_wp2_with fail
  go_ret
  exact ⟨rfl, rfl⟩
set_option maxRecDepth 100000 in
theorem nanM_any (w : World) : Calls Tryd.prog 54 #[] w fun e w' => e = .returned (.float .f64 9221120237041090561) ∧ w = w' := by
  go_enter Tryd.func54, Tryd.ntmps54
  go_wp2_with fail
  go_ret
  exact ⟨rfl, rfl⟩
set_option maxRecDepth 100000 in
theorem copy0_any (x : Nat) (hx : x < 18446744073709551616) (w : World) : Calls Tryd.prog 56 #[.float .f64 0, .float .f64 x] w fun e w' => e = .returned (.float .f64 (x / 9223372036854775808 * 9223372036854775808)) ∧ w = w' := by
  have a0 : bits .andNot .u64 0 9223372036854775808 = 0 := by decide +kernel
  obtain ⟨y, hy⟩ : ∃ y, y = x / 9223372036854775808 * 9223372036854775808 := ⟨_, rfl⟩
  have hyl : y < 18446744073709551616 := by omega
  have a1 : bits .and .u64 (x : Int) 9223372036854775808 = ((y : Nat) : Int) := by
    have h := u64_and_nat x 9223372036854775808 hx (by decide)
    have h2 := nat_bit 63 x
    rw [show (2 : Nat) ^ 63 = 9223372036854775808 by decide] at h2
    rw [h2] at h
    have h3 : x / 9223372036854775808 % 2 * 9223372036854775808 = y := by omega
    rw [h3] at h
    exact h
  have a2 : bits .or .u64 0 (y : Int) = ((y : Nat) : Int) := by
    have h := u64_or_nat 0 y (by decide) hyl
    rw [Nat.zero_or] at h
    exact h
  rw [← hy]
  clear hy hyl hx
  go_enter Tryd.func56, Tryd.ntmps56
  go_wp2_with fail
  go_ret
  exact ⟨rfl, rfl⟩
/-- What Ldexp tells: where that is a word's number, that word. -/
def LdR (b : Nat) (E : Int) (c : Nat) : Prop := c < 18446744073709551616 ∧ ∀ r2 a d : Nat, r2 < top → E = (a : Int) - (d : Int) → V (rung b) * 2 ^ a = V r2 * 2 ^ d → c = Ieee.double.word (neg b) r2
theorem i64_and_nat (a b : Nat) (ha : a < 9223372036854775808) (hb : b < 9223372036854775808) : bits .and .i64 (a : Int) (b : Int) = ((a &&& b : Nat) : Int) := by
  have hx : a &&& b < 2 ^ 63 := Nat.and_lt_two_pow _ (by omega)
  show IntKind.i64.wrap ((BitVec.ofInt 64 (a : Int) &&& BitVec.ofInt 64 (b : Int)).toNat : Int) = _
  rw [BitVec.toNat_and, ofInt_u64 a (by omega), ofInt_u64 b (by omega), IntKind.wrap_i64]
  omega
theorem ld_wraps {E : Int} {k q x : Nat} (h1 : -2147483649 < E) (h2 : E < 2147483649) (hk : k ≤ 52) (hq : q < 2047) (hx : x < 18446744073709551616) :
    wrap64 (E + -(k : Int)) = E - (k : Int) ∧ wrap64 ((x : Int) / 4503599627370496) = (x : Int) / 4503599627370496 ∧ wrap64 ((q : Int) - 1023) = (q : Int) - 1023 ∧ wrap64 (E - (k : Int) + ((q : Int) - 1023)) = E - (k : Int) + ((q : Int) - 1023) := by
  unfold wrap64
  omega
theorem ld_wraps2 {X : Int} (h1 : -1075 ≤ X) (h2 : X ≤ 1023) : wrap64 (X + 53) = X + 53 ∧ wrap64 (X + 1023) = X + 1023 ∧ wrap64 (X + 53 + 1023) = X + 53 + 1023 := by
  unfold wrap64
  omega
set_option maxRecDepth 100000 in
set_option maxHeartbeats 1600000 in
theorem ldexp_any (b : Nat) (hb : b < 18446744073709551616) (hf : rung b < top) (h0 : rung b ≠ 0) (E : Int) (hE1 : -2147483649 < E) (hE2 : E < 2147483649) (w : World) :
    Calls Tryd.prog 85 #[.float .f64 b, .int .i64 E] w fun e w' => ∃ c : Nat, LdR b E c ∧ e = .returned (.float .f64 c) ∧ w = w' := by
  have hfin : ∀ c : Nat, LdR b E c → (fun (e : Ending) (w' : World) => ∃ c : Nat, LdR b E c ∧ e = .returned (.float .f64 c) ∧ w = w') (.returned (.float .f64 c)) w := fun c h => ⟨c, h, rfl, rfl⟩
  generalize (fun (e : Ending) (w' : World) => ∃ c : Nat, LdR b E c ∧ e = .returned (.float .f64 c) ∧ w = w') = Q at *
  replace hfin := Lib.hid hfin
  obtain ⟨e0, eI, eN⟩ := fin_facts hb hf h0
  have hI := isInf0_any b hb w
  rw [eI] at hI
  replace hI := Lib.hid hI
  have hN := isNaN_any b hb w
  rw [eN] at hN
  replace hN := Lib.hid hN
  have hZ := Lib.hid (normalize_any b hb hf h0 w)
  replace hf := Lib.hid hf
  replace h0 := Lib.hid h0
  replace hb := Lib.hid hb
  clear eI eN
  go_enter Tryd.func85, Tryd.ntmps85
  go_wp2_with fail
  refine hI.out.mono ?_
  rintro e w1 ⟨rfl, rfl⟩
  go_wp2_with fail
  refine hN.out.mono ?_
  rintro e w1 ⟨rfl, rfl⟩
  go_wp2_with fail
  refine hZ.out.mono ?_
  rintro e w1 ⟨r', k, hR, rfl, rfl⟩
  obtain ⟨x, hx⟩ : ∃ x, Ieee.double.word (neg b) r' = x := ⟨_, rfl⟩
  have hrh : r' < half := Nat.lt_trans hR.lt (by decide)
  have hxl : x < 18446744073709551616 := by rw [← hx]; exact (word_rung hrh).2.2
  have hxr : rung x = r' ∧ neg x = neg b := by rw [← hx]; exact ⟨(word_rung hrh).1, (word_rung hrh).2.1⟩
  obtain ⟨q, hq⟩ : ∃ q, q = r' / B := ⟨_, rfl⟩
  obtain ⟨f, hff⟩ : ∃ f, f = r' % B := ⟨_, rfl⟩
  have hfB : f < B := by rw [hff]; exact Nat.mod_lt _ (by decide)
  have hrq : r' = q * B + f := by
    have := Nat.div_add_mod r' B
    rw [← hq, ← hff, Nat.mul_comm] at this
    exact this.symm
  have hq1 : 1 ≤ q := by
    rw [hq]
    exact (Nat.one_le_div_iff (by decide)).2 hR.ge
  have hqb : q < 2047 := by
    have ht : top = 2047 * B := by decide
    have hl := hR.lt
    rw [ht] at hl
    rw [hq]
    exact Nat.div_lt_of_lt_mul (by rwa [Nat.mul_comm] at hl)
  have hk : k ≤ 52 := by rcases hR.k with h | h <;> omega
  have hsc := Lib.hid (fun (r2 a d : Nat) (h : V (rung b) * 2 ^ a = V r2 * 2 ^ d) => scale_eq hR.v hrq hq1 hfB h)
  obtain ⟨f1, f2, f3⟩ := word_fields (neg b) r' hrh
  rw [hx] at f1 f2
  have a1 : bits .and .i64 ((x : Int) / 4503599627370496) 2047 = ((q : Nat) : Int) := by
    have h := i64_and_nat (x / 4503599627370496) 2047 (by omega) (by decide)
    rw [nat_mask11, f1] at h
    rw [hq]
    exact h
  obtain ⟨w1, w2, w3, w4⟩ := ld_wraps hE1 hE2 hk hqb hxl
  obtain ⟨X, hX⟩ : ∃ X, X = E - (k : Int) + ((q : Int) - 1023) := ⟨_, rfl⟩
  replace w4 := w4.trans hX.symm
  rw [hx]
  have hX1 : X < -1075 ∨ (-1075 ≤ X ∧ X < -1022) ∨ (-1022 ≤ X ∧ X ≤ 1023) ∨ 1023 < X := by omega
  have hXh := Lib.hid hX
  have hr0 : r' ≠ 0 := by
    have h1 := hR.ge
    have h2 : 0 < B := by decide
    omega
  have hsg : (FloatKind.f64.format.order x 0 == some Ordering.lt) = neg b := by
    have h : (FloatKind.f64.format.order x 0 == some Ordering.lt) = _ := lt_0 x
    rw [hxr.1, hxr.2, decide_eq_true (Nat.le_of_lt hR.lt), decide_eq_true hr0, Bool.true_and, Bool.true_and] at h
    exact h
  replace hE1 := Lib.hid hE1
  replace hE2 := Lib.hid hE2
  replace hxl := Lib.hid hxl
  replace hk := Lib.hid hk
  replace hq1 := Lib.hid hq1
  replace hqb := Lib.hid hqb
  replace hrq := Lib.hid hrq
  replace hfB := Lib.hid hfB
  replace hff := Lib.hid hff
  replace hq := Lib.hid hq
  replace hx := Lib.hid hx
  replace hR := Lib.hid hR
  replace f2 := Lib.hid f2
  replace f3 := Lib.hid f3
  clear hrh f1 hX hr0 e0 hI hN hZ hxr
  obtain ⟨y, hy⟩ : ∃ y, y = Ieee.double.word (neg b) f := ⟨_, rfl⟩
  have hyl : y < 18446744073709551616 := by
    rw [hy]
    exact (word_rung (Nat.lt_trans hfB.out (by decide))).2.2
  have a2 : bits .andNot .u64 (x : Int) 9218868437227405312 = ((y : Nat) : Int) := by
    have h := u64_andNot_nat x 9218868437227405312 hxl.out (by decide)
    rw [bits_clear hxl.out, f2.out] at h
    rw [hy, hff.out]
    exact h
  have hset := Lib.hid (fun (C z : Nat) (hC : C ≤ 2046) (hz : z = Ieee.double.word (neg b) (C * B + f)) => show bits .or .u64 (y : Int) ((C * 4503599627370496 : Nat) : Int) = ((z : Nat) : Int) from by
    have h := u64_or_nat y (C * 4503599627370496) hyl (by omega)
    have h2 := f3.out C (by omega)
    rw [show r' % 4503599627370496 = f from hff.out.symm] at h2
    rw [hz]
    rw [hy] at h ⊢
    exact h.trans (congrArg _ h2))
  replace hyl := Lib.hid hyl
  replace hy := Lib.hid hy
  rcases hX1 with hc | ⟨hc1, hc2⟩ | ⟨hc1, hc2⟩ | hc
  · have hq := Lib.hid (hfin.out (x / 9223372036854775808 * 9223372036854775808) ⟨by have := hxl.out; omega, fun r2 a d hr2 hE hV => by
      have h1 := scale_low hfB.out (hsc.out r2 a d hV)
      have h2 := hXh.out
      have h3 := hq1.out
      omega⟩)
    have hCs := Lib.hid (copy0_any x hxl.out w)
    clear hfin hset hsg a2
    go_wp2_with fail
    refine hCs.out.mono ?_
    rintro e w1 ⟨rfl, rfl⟩
    go_wp2_with fail
    exact hq.out
  · have n1 : ¬ X < -1075 := by omega
    have n2 : ¬ 1023 < X := by omega
    obtain ⟨C, hC⟩ : ∃ C : Nat, (C : Int) = X + 53 + 1023 := ⟨(X + 53 + 1023).toNat, by omega⟩
    have hC1 : 1 ≤ C := by omega
    have hC2 : C ≤ 2046 := by omega
    obtain ⟨z, hz⟩ : ∃ z, z = Ieee.double.word (neg b) (C * B + f) := ⟨_, rfl⟩
    have a3 := hset.out C z hC2 hz
    rw [show ((C * 4503599627370496 : Nat) : Int) = (X + 53 + 1023) * 4503599627370496 by rw [← hC]; exact Int.natCast_mul C 4503599627370496] at a3
    have hzt := at_top hC2 hfB.out
    obtain ⟨g1, g2, g3⟩ := word_rung (s := neg b) (Nat.lt_trans hzt (show top < half by decide))
    rw [← hz] at g1 g2 g3
    have hm := mul_pow read_m53 (z := z) (by rw [g1]; exact hzt)
    rw [g1, g2, (mag_at hC1 hfB.out).1, (mag_at hC1 hfB.out).2] at hm
    obtain ⟨c, hcc⟩ : ∃ c, c = Ieee.double.nearest (neg b) (B * (B + f)) (-105 + (-1074 + ((C - 1 : Nat) : Int))) := ⟨_, rfl⟩
    rw [← hcc] at hm
    have hrun := @run_fmul Tryd.prog 40 _ _ _ (show FloatKind.f64.format.mul 4368491638549381120 z = some c from hm)
    have hq := Lib.hid (hfin.out c ⟨by rw [hcc]; exact nearest_lt _ _ _, fun r2 a d hr2 hE hV => by
      have h1 := hsc.out r2 a d hV
      have h2 := hXh.out
      have h3 := hq1.out
      rw [hcc]
      exact scale_sub hr2 hC1 hC2 hfB.out h1 (by omega)⟩)
    obtain ⟨w5, w6, w7⟩ := ld_wraps2 (X := X) (by omega) (by omega)
    clear hfin hset hsg hcc hm g1 g2 g3 hzt hz hC hC1 hC2 hc1
    go_wp2_with fail
    exact hq.out
  · have n1 : ¬ X < -1075 := by omega
    have n2 : ¬ 1023 < X := by omega
    have n3 : ¬ X < -1022 := by omega
    obtain ⟨C, hC⟩ : ∃ C : Nat, (C : Int) = X + 1023 := ⟨(X + 1023).toNat, by omega⟩
    have hC1 : 1 ≤ C := by omega
    have hC2 : C ≤ 2046 := by omega
    obtain ⟨z, hz⟩ : ∃ z, z = Ieee.double.word (neg b) (C * B + f) := ⟨_, rfl⟩
    have a3 := hset.out C z hC2 hz
    rw [show ((C * 4503599627370496 : Nat) : Int) = (X + 1023) * 4503599627370496 by rw [← hC]; exact Int.natCast_mul C 4503599627370496] at a3
    have hzt := at_top hC2 hfB.out
    have hrun := @run_fmul Tryd.prog 40 _ _ _ (show FloatKind.f64.format.mul 4607182418800017408 z = some z from hz ▸ mul_one_word (s := neg b) hzt)
    have hq := Lib.hid (hfin.out z ⟨by rw [hz]; exact (word_rung (Nat.lt_trans hzt (by decide))).2.2, fun r2 a d hr2 hE hV => by
      have h1 := hsc.out r2 a d hV
      have h2 := hXh.out
      have h3 := hq1.out
      rw [hz, scale_norm hC1 hfB.out h1 (by omega)]⟩)
    obtain ⟨w5, w6, w7⟩ := ld_wraps2 (X := X) (by omega) (by omega)
    clear hfin hset hsg hzt hz hC hC1 hC2 hc1 hc2
    go_wp2_with fail
    exact hq.out
  · have n1 : ¬ X < -1075 := by omega
    have hLd : ∀ c, c < 18446744073709551616 → LdR b E c := fun c hcl => ⟨hcl, fun r2 a d hr2 hE hV => by
      have h1 := scale_high hr2 (hsc.out r2 a d hV)
      have h2 := hXh.out
      have h3 := hq1.out
      have h4 : xt = 2098 := rfl
      omega⟩
    have hqp := Lib.hid (hfin.out 9218868437227405312 (hLd _ (by decide)))
    have hqn := Lib.hid (hfin.out 18442240474082181120 (hLd _ (by decide)))
    have hip := Lib.hid (infP_any w)
    have hin := Lib.hid (infN_any w)
    clear hfin hset hLd a2
    cases hneg : neg b with
    | true =>
      rw [hneg] at hsg
      clear hneg
      go_wp2_with fail
      refine hin.out.mono ?_
      rintro e w1 ⟨rfl, rfl⟩
      go_wp2_with fail
      exact hqn.out
    | false =>
      rw [hneg] at hsg
      clear hneg
      go_wp2_with fail
      refine hip.out.mono ?_
      rintro e w1 ⟨rfl, rfl⟩
      go_wp2_with fail
      exact hqp.out
set_option maxRecDepth 100000 in
theorem ldexpM_any (b : Nat) (hb : b < 18446744073709551616) (hf : rung b < top) (h0 : rung b ≠ 0) (E : Int) (hE1 : -2147483649 < E) (hE2 : E < 2147483649) (w : World) :
    Calls Tryd.prog 58 #[.float .f64 b, .int .i64 E] w fun e w' => ∃ c : Nat, LdR b E c ∧ e = .returned (.float .f64 c) ∧ w = w' := by
  have hZ := Lib.hid (ldexp_any b hb hf h0 E hE1 hE2 w)
  clear hE1 hE2 hb hf h0
  go_enter Tryd.func58, Tryd.ntmps58
  go_wp2_with fail
  refine hZ.out.mono ?_
  rintro e w1 ⟨c, hR, rfl, rfl⟩
  go_wp2_with fail
  go_ret
  exact ⟨c, hR, rfl, rfl⟩
end Go.Proofs.YtcbckeoalmjcoaaDoor
