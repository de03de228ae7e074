/- The laws of exact: works, ExactTexts, ExactReads. -/
import Derived.Test.YtcbckeoalmjcoaaDoorRefRead
import Derived.Test.YtcbckeoalmjcoaaDoorReal
set_option linter.unusedVariables false
set_option linter.unusedSimpArgs false
set_option exponentiation.threshold 3000
namespace Go.Proofs.YtcbckeoalmjcoaaDoor
open Go.RowKit Go.Cw Go.Fl
theorem odd_m8 : OddR (rung 13844065254536904704) 1 1077 := ⟨rfl, by decide, by
  have h := V_at (c := 1026) (f := 0) (by decide) (by decide)
  rw [show rung 13844065254536904704 = 1026 * B + 0 from by decide]
  exact h.trans (by decide +kernel), by decide⟩
theorem odd_15 : OddR (rung 4609434218613702656) 3 1073 := ⟨rfl, by decide, by
  have h := V_at (c := 1023) (f := 2251799813685248) (by decide) (by decide)
  rw [show rung 4609434218613702656 = 1023 * B + 2251799813685248 from by decide]
  exact h.trans (by decide +kernel), by decide⟩
theorem txt_m8 : txtL 13844065254536904704 = [45, 49, 112, 51] := by
  rw [txt_odd ⟨by decide, by decide⟩ odd_m8, show neg 13844065254536904704 = true from by decide]
  unfold oddT
  rw [show sg true 1 = -((1 : Nat) : Int) from rfl, show ((1077 : Nat) : Int) - 1074 = ((3 : Nat) : Int) from by decide, Lib.itoa_neg 1 (by decide), Lib.itoa_nonneg, Lib.decDigits_one (by decide), Lib.decDigits_one (by decide)]
  decide
theorem txt_15 : txtL 4609434218613702656 = [51, 112, 45, 49] := by
  rw [txt_odd ⟨by decide, by decide⟩ odd_15, show neg 4609434218613702656 = false from by decide]
  unfold oddT
  rw [show sg false 3 = ((3 : Nat) : Int) from rfl, show ((1073 : Nat) : Int) - 1074 = -((1 : Nat) : Int) from by decide, Lib.itoa_neg 1 (by decide), Lib.itoa_nonneg, Lib.decDigits_one (by decide), Lib.decDigits_one (by decide)]
  decide
set_option maxRecDepth 100000 in
set_option maxHeartbeats 1600000 in
theorem works_any (w : World) (hv : Vx w) : Calls Tryd.prog 28 #[] w fun e w' => e = .returned (.bool true) ∧ Below w.heap.size w w' := by
  have hfin : ∀ w', Below w.heap.size w w' → (fun (e : Ending) (w' : World) => e = .returned (.bool true) ∧ Below w.heap.size w w') (.returned (.bool true)) w' := fun w' h => ⟨rfl, h⟩
  generalize (fun (e : Ending) (w' : World) => e = .returned (.bool true) ∧ Below w.heap.size w w') = Q at *
  replace hfin := Lib.hid hfin
  have hR := Lib.hid (read_any { data := #[45, 49, 112, 51] } (by decide) w hv)
  have ho : (FloatKind.f64.format.order 13844065254536904704 13844065254536904704 == some Ordering.eq) = true := by decide +kernel
  replace hv := Lib.hid hv
  go_enter Tryd.func28, Tryd.ntmps28
  go_wp2_with fail
  refine hR.out.mono ?_
  rintro e w1 ⟨⟨b, hb, ht, rfl⟩ | ⟨hn, rfl⟩, hb1⟩
  rotate_left
  · exact absurd txt_m8 (hn _ (by decide))
  obtain rfl : b = 13844065254536904704 := by
    rcases txt_inj hb (show 13844065254536904704 < 18446744073709551616 by decide) (ht.trans txt_m8.symm) with h | ⟨-, h⟩
    · exact h
    · exact absurd h (by decide)
  clear ht hb hR
  have hT := Lib.hid (text_any 4609434218613702656 (by decide) w1 (hv.out.below hb1))
  rw [txt_15] at hT
  go_wp2_with fail
  refine hT.out.mono ?_
  rintro e w2 ⟨rfl, hb2⟩
  have hv2 := hv.out.below (hb1.trans (hb2.mono hb1.size))
  replace hb1 := hb1.trans (hb2.mono hb1.size)
  have hT2 := Lib.hid (text_any 0 (by decide) w2 hv2)
  rw [t_zero] at hT2
  clear hT hb2 hv2
  go_wp2_with fail
  refine hT2.out.mono ?_
  rintro e w3 ⟨rfl, hb3⟩
  have hz := Lib.hid (hfin.out _ (hb1.trans (hb3.mono hb1.size)))
  clear hT2 hb3 hb1 hfin
  go_wp2_with fail
  exact hz.out
theorem bits_nan {b : Nat} (h : isNan b = true) : bitsOf b = 9221120237041090561 := by
  have h2 : top < rung b := of_decide_eq_true h
  have h3 : FloatKind.f64.format.order b b = none := order_nan_l h2
  unfold bitsOf
  rw [h3]
  rfl
theorem bits_same {b c : Nat} (h : b = c ∨ (isNan b = true ∧ isNan c = true)) : bitsOf b = bitsOf c := by
  rcases h with rfl | ⟨h1, h2⟩
  · rfl
  · rw [bits_nan h1, bits_nan h2]
theorem txt_len {b : Nat} (hb : b < 18446744073709551616) : (txtL b).length ≤ 50 := by
  rcases kind_cases b with ⟨⟨q, hq⟩, -⟩ | ⟨-, hF⟩
  · rw [txt_name hq]
    rcases lk_some hq with ⟨-, h⟩ | ⟨-, h⟩ | ⟨-, h⟩ | ⟨-, h⟩ | ⟨-, h⟩ <;> (rw [h]; decide)
  · obtain ⟨u, t, h1, -, h3⟩ := txt_fin hb hF
    have ht := h1.t
    obtain ⟨s1, s2⟩ := sg_b (s := neg b) h1.lt
    have l1 := Lib.itoa_length_le _ s1 s2
    have l2 := Lib.itoa_length_le ((t : Int) - 1074) (by omega) (by omega)
    rw [h3]
    unfold oddT
    simp only [List.length_append, List.length_cons]
    omega
set_option maxRecDepth 100000 in
set_option maxHeartbeats 1600000 in
theorem exactTexts_any (b : Nat) (hb : b < 18446744073709551616) (w : World) (hv : Vx w) : Calls Tryd.prog 6 #[.float .f64 b] w fun e w' => e = .returned (.bool true) ∧ Below w.heap.size w w' := by
  have hfin : ∀ w', Below w.heap.size w w' → (fun (e : Ending) (w' : World) => e = .returned (.bool true) ∧ Below w.heap.size w w') (.returned (.bool true)) w' := fun w' h => ⟨rfl, h⟩
  generalize (fun (e : Ending) (w' : World) => e = .returned (.bool true) ∧ Below w.heap.size w w') = Q at *
  replace hfin := Lib.hid hfin
  have hT := Lib.hid (text_any b hb w hv)
  have hR := fun w' hv' => Lib.hid (read_any ⟨(txtL b).toArray⟩ (by show (txtL b).toArray.size ≤ 1000; rw [List.size_toArray]; have := txt_len hb; omega) w' hv')
  have hRt := fun w' => Lib.hid (refTxt_any b hb w')
  replace hv := Lib.hid hv
  replace hb := Lib.hid hb
  go_enter Tryd.func6, Tryd.ntmps6
  go_wp2_with fail
  refine hT.out.mono ?_
  rintro e w1 ⟨rfl, hb1⟩
  go_wp2_with fail
  refine (hR _ (hv.out.below hb1)).out.mono ?_
  rintro e w2 ⟨⟨c, hc, ht, rfl⟩ | ⟨hn, rfl⟩, hb2⟩
  rotate_left
  · exact absurd rfl (hn b hb.out)
  replace hb1 := hb1.trans (hb2.mono hb1.size)
  have hS := fun w' => Lib.hid (refSame_any b c hb.out hc w')
  simp only [decide_eq_true (bits_same (txt_inj hb.out hc ht.symm))] at hS
  clear hT hR ht hc hb2
  go_wp2_with fail
  refine (hRt _).out.mono ?_
  rintro e w3 ⟨rfl, hb3⟩
  replace hb1 := hb1.trans (hb3.mono hb1.size)
  clear hRt hb3
  go_wp2_with fail
  refine (hS _).out.mono ?_
  rintro e w4 ⟨rfl, rfl⟩
  have hW := Lib.hid (works_any w3 (hv.out.below hb1))
  clear hS
  go_wp2_with fail
  refine hW.out.mono ?_
  rintro e w5 ⟨rfl, hb5⟩
  have hz := Lib.hid (hfin.out _ (hb1.trans (hb5.mono hb1.size)))
  clear hW hb5 hb1 hfin
  go_wp2_with fail
  exact hz.out
set_option maxRecDepth 100000 in
set_option maxHeartbeats 1600000 in
theorem exactReads_any (s : ByteArray) (w : World) (hv : Vx w) : Calls Tryd.prog 7 #[.string s] w fun e w' => e = .returned (.bool true) ∧ Below w.heap.size w w' := by
  have hfin : ∀ w', Below w.heap.size w w' → (fun (e : Ending) (w' : World) => e = .returned (.bool true) ∧ Below w.heap.size w w') (.returned (.bool true)) w' := fun w' h => ⟨rfl, h⟩
  generalize (fun (e : Ending) (w' : World) => e = .returned (.bool true) ∧ Below w.heap.size w w') = Q at *
  replace hfin := Lib.hid hfin
  by_cases hl : 100 < s.size
  · have f1 : (100 : Int) < (s.size : Int) := by omega
    have hW := Lib.hid (works_any w hv)
    clear hl hv
    go_enter Tryd.func7, Tryd.ntmps7
    go_wp2_with fail
    refine hW.out.mono ?_
    rintro e w5 ⟨rfl, hb5⟩
    have hz := Lib.hid (hfin.out _ hb5)
    clear hW hb5 hfin
    go_wp2_with fail
    exact hz.out
  have f1 : ¬ (100 : Int) < (s.size : Int) := by omega
  have hR := Lib.hid (read_any s (by omega) w hv)
  have hRf := fun w' => Lib.hid (refRead_any s (by omega) w')
  replace hv := Lib.hid hv
  clear hl
  go_enter Tryd.func7, Tryd.ntmps7
  go_wp2_with fail
  refine hR.out.mono ?_
  rintro e w1 ⟨hor1, hb1⟩
  clear hR
  have hfork : (∃ b, b < 18446744073709551616 ∧ txtL b = s.data.toList ∧ e = .returned (.tuple #[.float .f64 b, .int .i64 0])) ∨ ((∀ b, b < 18446744073709551616 → txtL b ≠ s.data.toList) ∧ e = .returned (.tuple #[.float .f64 0, .int .i64 3])) := hor1
  clear hor1
  rcases hfork with ⟨b, hb, ht, rfl⟩ | ⟨hn, rfl⟩
  · go_wp2_with fail
    refine (hRf _).out.mono ?_
    rintro e w2 ⟨⟨c, hc, ht2, rfl⟩ | ⟨hn, rfl⟩, hb2⟩
    rotate_left
    · exact absurd ht (hn b hb)
    replace hb1 := hb1.trans (hb2.mono hb1.size)
    have hS := fun w' => Lib.hid (refSame_any b c hb hc w')
    simp only [decide_eq_true (bits_same (txt_inj hb hc (ht.trans ht2.symm)))] at hS
    have hT := Lib.hid (text_any b hb w2 (hv.out.below hb1))
    have e1 : (txtL b == s.toList) = true := by rw [ByteArray.toList_eq, ht]; exact beq_self_eq_true _
    have e2 : (ByteArray.toList ⟨(txtL b).toArray⟩ == s.toList) = true := by rw [ByteArray.toList_eq]; exact e1
    clear hRf ht hc hb2 ht2 hb
    generalize txtL b = lt at *
    go_wp2_with fail
    refine (hS _).out.mono ?_
    rintro e w4 ⟨rfl, rfl⟩
    clear hS
    go_wp2_with fail
    refine hT.out.mono ?_
    rintro e w4 ⟨rfl, hb4⟩
    replace hb1 := hb1.trans (hb4.mono hb1.size)
    have hW := Lib.hid (works_any w4 (hv.out.below hb1))
    clear hT hb4
    go_wp2_with fail
    refine hW.out.mono ?_
    rintro e w5 ⟨rfl, hb5⟩
    have hz := Lib.hid (hfin.out _ (hb1.trans (hb5.mono hb1.size)))
    clear hW hb5 hb1 hfin
    go_wp2_with fail
    exact hz.out
  · go_wp2_with fail
    refine (hRf _).out.mono ?_
    rintro e w2 ⟨⟨c, hc, ht2, rfl⟩ | ⟨hn2, rfl⟩, hb2⟩
    · exact absurd ht2 (hn c hc)
    replace hb1 := hb1.trans (hb2.mono hb1.size)
    have hK := Lib.hid (refKind_any 0 (by decide) w2)
    rw [show kindOf 0 = 4 from by decide +kernel] at hK
    clear hRf hn hn2 hb2
    go_wp2_with fail
    refine hK.out.mono ?_
    rintro e w3 ⟨rfl, rfl⟩
    have hW := Lib.hid (works_any w2 (hv.out.below hb1))
    clear hK
    go_wp2_with fail
    refine hW.out.mono ?_
    rintro e w5 ⟨rfl, hb5⟩
    have hz := Lib.hid (hfin.out _ (hb1.trans (hb5.mono hb1.size)))
    clear hW hb5 hb1 hfin
    go_wp2_with fail
    exact hz.out
end Go.Proofs.YtcbckeoalmjcoaaDoor
