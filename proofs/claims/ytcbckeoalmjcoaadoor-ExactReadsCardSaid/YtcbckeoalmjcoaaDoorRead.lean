/- exact.Read: the walk. -/
import Derived.Test.YtcbckeoalmjcoaaDoorRdLaw
import Derived.Test.YtcbckeoalmjcoaaDoorFloat
import Derived.Lib.ParseIntBTie
set_option linter.unusedVariables false
set_option linter.unusedSimpArgs false
namespace Go.Proofs.YtcbckeoalmjcoaaDoor
open Go.RowKit Go.Cw Go.Fl
set_option maxRecDepth 100000 in
theorem ldexp0_any (E : Int) (w : World) : Calls Tryd.prog 85 #[.float .f64 0, .int .i64 E] w fun e w' => e = .returned (.float .f64 0) ∧ w = w' := by
  have h1 : (FloatKind.f64.format.order 0 0 == some Ordering.eq) = true := by decide +kernel
  go_enter Tryd.func85, Tryd.ntmps85
  go_wp2_with fail
  go_ret
  exact ⟨rfl, rfl⟩
set_option maxRecDepth 100000 in
theorem ldexp0M_any (E : Int) (w : World) : Calls Tryd.prog 58 #[.float .f64 0, .int .i64 E] w fun e w' => e = .returned (.float .f64 0) ∧ w = w' := by
  have hZ := Lib.hid (ldexp0_any E w)
  go_enter Tryd.func58, Tryd.ntmps58
  go_wp2_with fail
  refine hZ.out.mono ?_
  rintro e w1 ⟨rfl, rfl⟩
  go_wp2_with fail
  go_ret
  exact ⟨rfl, rfl⟩
/-- A whole number's word. -/
theorem word_of {n : Int} (h : n.natAbs ≤ 9007199254740992) : ∃ (s : Bool) (r : Nat), r < top ∧ V r = n.natAbs * 2 ^ un ∧ FloatKind.f64.nearest n = Ieee.double.word s r ∧ s = decide (n < 0) := by
  have hr : ∃ r, r < top ∧ V r = n.natAbs * 2 ^ un := by
    by_cases h1 : n.natAbs < 9007199254740992
    · exact rep (k := un) (u53 h1) (Nat.lt_trans (small_lim h1 (Nat.le_refl _)) lim_xt)
    · have h2 : n.natAbs = 2 ^ 53 := by have : (2 : Nat) ^ 53 = 9007199254740992 := by decide
                                        omega
      rw [h2, ← Nat.pow_add, ← Nat.one_mul (2 ^ (53 + un))]
      exact rep (m := 1) (k := 53 + un) (by decide) (by rw [Nat.one_mul]; exact lim_xt)
  obtain ⟨r, h1, h2⟩ := hr
  exact ⟨decide (n < 0), r, h1, h2, nearest_int (s := decide (n < 0)) h1 h2, rfl⟩
theorem zero_word : FloatKind.f64.nearest 0 = 0 := by decide +kernel
/-- Ldexp of a whole number. -/
theorem ldn_any (n E : Int) (h : n.natAbs ≤ 9007199254740992) (hE1 : -2147483649 < E) (hE2 : E < 2147483649) (w : World) :
    Calls Tryd.prog 58 #[.float .f64 (FloatKind.f64.nearest n), .int .i64 E] w fun e w' => ∃ c : Nat, c < 18446744073709551616 ∧ (∀ (s : Bool) (u t b : Nat), n = sg s u → E = (t : Int) - 1074 → Odd s u t b → c = b) ∧ e = .returned (.float .f64 c) ∧ w = w' := by
  by_cases h0 : n = 0
  · subst h0
    rw [zero_word]
    refine (ldexp0M_any E w).mono ?_
    rintro e w' ⟨rfl, rfl⟩
    refine ⟨0, by decide, fun s u t b hn _ ho => ?_, rfl, rfl⟩
    have h1 := ho.odd
    have h2 := sg_abs s u
    rw [← hn] at h2
    simp at h2
    omega
  · obtain ⟨s, r, h1, h2, h3, h4⟩ := word_of h
    obtain ⟨g1, g2, g3⟩ := word_rung (s := s) (Nat.lt_trans h1 (show top < half by decide))
    have hr0 : r ≠ 0 := fun e => by
      rw [V_zero.2 e] at h2
      have : 0 < n.natAbs * 2 ^ un := Nat.mul_pos (by omega) (Nat.two_pow_pos _)
      omega
    rw [h3]
    refine (ldexpM_any _ g3 (by rw [g1]; exact h1) (by rw [g1]; exact hr0) E hE1 hE2 w).mono ?_
    rintro e w' ⟨c, hc, rfl, rfl⟩
    refine ⟨c, hc.1, fun s' u t b hn hE ho => ?_, rfl, rfl⟩
    have hv := hc.2 (rung b) t un ho.fin (by rw [hE, un_eq]; rfl) (by
      rw [g1, h2, ho.v, hn, sg_abs, Nat.mul_assoc, Nat.mul_assoc, Nat.mul_comm (2 ^ un)])
    rw [hv, g2, h4, hn]
    have hu := ho.odd
    have : decide (sg s' u < 0) = s' := by
      unfold sg
      cases s' <;> simp <;> omega
    rw [this, ← ho.sgn]
    exact word_self ho.lt
abbrev sNan : ByteArray := { data := #[110, 97, 110] }
abbrev sInf : ByteArray := { data := #[105, 110, 102] }
abbrev sNinf : ByteArray := { data := #[45, 105, 110, 102] }
abbrev sZero : ByteArray := { data := #[48] }
abbrev sNzero : ByteArray := { data := #[45, 48] }
theorem txt_k {b : Nat} {k : Int} {q : Nat × ByteArray} (h : kindOf b = k) (hq : lkI k nmL 0 = some q) : txtL b = q.2.data.toList := txt_name (by rw [h]; exact hq)
theorem t_nan : txtL 9221120237041090561 = sNan.data.toList := txt_k (k := 0) (by decide +kernel) rfl
theorem t_inf : txtL 9218868437227405312 = sInf.data.toList := txt_k (k := 6) (by decide +kernel) rfl
theorem t_ninf : txtL 18442240474082181120 = sNinf.data.toList := txt_k (k := 1) (by decide +kernel) rfl
theorem t_zero : txtL 0 = sZero.data.toList := txt_k (k := 4) (by decide +kernel) rfl
theorem t_nzero : txtL 9223372036854775808 = sNzero.data.toList := txt_k (k := 3) (by decide +kernel) rfl
/-- What a text that is no name may be. -/
theorem txt_parts {b : Nat} {l : List UInt8} (hb : b < 18446744073709551616) (h : txtL b = l) (n1 : l ≠ sNan.data.toList) (n2 : l ≠ sInf.data.toList) (n3 : l ≠ sNinf.data.toList) (n4 : l ≠ sZero.data.toList) (n5 : l ≠ sNzero.data.toList) : ∃ u t, OddR (rung b) u t ∧ Odd (neg b) u t b ∧ l = oddT (neg b) u t := by
  rcases kind_cases b with ⟨⟨q, hq⟩, hbf⟩ | ⟨-, hbf⟩
  · rw [txt_name hq] at h
    subst h
    rcases lk_some hq with ⟨-, e⟩ | ⟨-, e⟩ | ⟨-, e⟩ | ⟨-, e⟩ | ⟨-, e⟩
    · exact absurd (by rw [e]) n1
    · exact absurd (by rw [e]) n3
    · exact absurd (by rw [e]) n5
    · exact absurd (by rw [e]) n4
    · exact absurd (by rw [e]) n2
  · obtain ⟨u, t, h1, h2, h3⟩ := txt_fin hb hbf
    exact ⟨u, t, h1, h2, h.symm.trans h3⟩
theorem ba_ne {s t : ByteArray} (h : ¬ s = t) : s.data.toList ≠ t.data.toList := fun e => h (ByteArray.ext (Array.toList_inj.1 e))
theorem nanBits : bitsOf 9221120237041090561 = 9221120237041090561 := by decide +kernel
theorem cutp_len (l : List UInt8) : (Lib.cut l [112]).1.length ≤ l.length ∧ (Lib.cut l [112]).2.1.length ≤ l.length := by
  unfold Lib.cut
  split
  · simp only [List.length_take, List.length_drop]; omega
  · simp
theorem parseR_cases {n : Nat} {l : List UInt8} {v er : Value} (h : ParseR n l v er) : (∃ x, Lib.parseIntB n l = .ok x ∧ v = .int .i64 x ∧ er = .nilIface) ∨ ((∀ x, Lib.parseIntB n l ≠ .ok x) ∧ ∃ x t p, v = .int .i64 x ∧ er = .iface t p) := by
  unfold ParseR at h
  rcases hp : Lib.parseIntB n l with x | _ | _
  · rw [hp] at h; exact .inl ⟨x, rfl, h.1, h.2⟩
  · rw [hp] at h; obtain ⟨⟨x, h1⟩, t, p, h2⟩ := h; exact .inr ⟨fun x h => (by cases h), x, t, p, h1, h2⟩
  · rw [hp] at h; obtain ⟨⟨x, h1⟩, t, p, h2⟩ := h; exact .inr ⟨fun x h => (by cases h), x, t, p, h1, h2⟩
set_option maxRecDepth 100000 in
set_option maxHeartbeats 1600000 in
theorem read_any (s : ByteArray) (hs : s.size ≤ 1000) (w : World) (hv : Vx w) :
    Calls Tryd.prog 25 #[.string s] w fun e w' => ((∃ b, b < 18446744073709551616 ∧ txtL b = s.data.toList ∧ e = .returned (.tuple #[.float .f64 b, .int .i64 0])) ∨ ((∀ b, b < 18446744073709551616 → txtL b ≠ s.data.toList) ∧ e = .returned (.tuple #[.float .f64 0, .int .i64 3]))) ∧ Below w.heap.size w w' := by
  have hY : ∀ (b : Nat) (w' : World), b < 18446744073709551616 → txtL b = s.data.toList → Below w.heap.size w w' → (fun (e : Ending) (w' : World) => ((∃ b, b < 18446744073709551616 ∧ txtL b = s.data.toList ∧ e = .returned (.tuple #[.float .f64 b, .int .i64 0])) ∨ ((∀ b, b < 18446744073709551616 → txtL b ≠ s.data.toList) ∧ e = .returned (.tuple #[.float .f64 0, .int .i64 3]))) ∧ Below w.heap.size w w') (.returned (.tuple #[.float .f64 b, .int .i64 0])) w' := fun b w' h1 h2 h3 => ⟨.inl ⟨b, h1, h2, rfl⟩, h3⟩
  have hN : ∀ (w' : World), (∀ b, b < 18446744073709551616 → txtL b ≠ s.data.toList) → Below w.heap.size w w' → (fun (e : Ending) (w' : World) => ((∃ b, b < 18446744073709551616 ∧ txtL b = s.data.toList ∧ e = .returned (.tuple #[.float .f64 b, .int .i64 0])) ∨ ((∀ b, b < 18446744073709551616 → txtL b ≠ s.data.toList) ∧ e = .returned (.tuple #[.float .f64 0, .int .i64 3]))) ∧ Below w.heap.size w w') (.returned (.tuple #[.float .f64 0, .int .i64 3])) w' := fun w' h1 h3 => ⟨.inr ⟨h1, rfl⟩, h3⟩
  generalize (fun (e : Ending) (w' : World) => ((∃ b, b < 18446744073709551616 ∧ txtL b = s.data.toList ∧ e = .returned (.tuple #[.float .f64 b, .int .i64 0])) ∨ ((∀ b, b < 18446744073709551616 → txtL b ≠ s.data.toList) ∧ e = .returned (.tuple #[.float .f64 0, .int .i64 3]))) ∧ Below w.heap.size w w') = Q at *
  by_cases n1 : s = sNan
  · subst n1
    have hz := Lib.hid (hY _ w (by decide) t_nan (Below.refl _ _))
    have hA := Lib.hid (nanM_any w)
    have hB := Lib.hid (canon_any 9221120237041090561 w)
    rw [nanBits] at hB
    clear hY hN hs hv
    go_enter Tryd.func25, Tryd.ntmps25
    go_wp2_with fail
    refine hA.out.mono ?_
    rintro e w1 ⟨rfl, rfl⟩
    go_wp2_with fail
    refine hB.out.mono ?_
    rintro e w1 ⟨rfl, rfl⟩
    clear hA hB
    go_wp2_with fail
    exact hz.out
  by_cases n2 : s = sInf
  · subst n2
    have hz := Lib.hid (hY _ w (by decide) t_inf (Below.refl _ _))
    have hA := Lib.hid (infP_any w)
    clear hY hN hs hv n1
    go_enter Tryd.func25, Tryd.ntmps25
    go_wp2_with fail
    refine hA.out.mono ?_
    rintro e w1 ⟨rfl, rfl⟩
    clear hA
    go_wp2_with fail
    exact hz.out
  by_cases n3 : s = sNinf
  · subst n3
    have hz := Lib.hid (hY _ w (by decide) t_ninf (Below.refl _ _))
    have hA := Lib.hid (infN_any w)
    clear hY hN hs hv n1 n2
    go_enter Tryd.func25, Tryd.ntmps25
    go_wp2_with fail
    refine hA.out.mono ?_
    rintro e w1 ⟨rfl, rfl⟩
    clear hA
    go_wp2_with fail
    exact hz.out
  by_cases n4 : s = sZero
  · subst n4
    have hz := Lib.hid (hY _ w (by decide) t_zero (Below.refl _ _))
    clear hY hN hs hv n1 n2 n3
    go_enter Tryd.func25, Tryd.ntmps25
    go_wp2_with fail
    exact hz.out
  by_cases n5 : s = sNzero
  · subst n5
    have hz := Lib.hid (hY _ w (by decide) t_nzero (Below.refl _ _))
    have hA := Lib.hid (copy0_any 13830554455654793216 (by decide) w)
    rw [show (13830554455654793216 / 9223372036854775808 * 9223372036854775808 : Nat) = 9223372036854775808 from by decide] at hA
    clear hY hN hs hv n1 n2 n3 n4
    go_enter Tryd.func25, Tryd.ntmps25
    go_wp2_with fail
    refine hA.out.mono ?_
    rintro e w1 ⟨rfl, rfl⟩
    clear hA
    go_wp2_with fail
    exact hz.out
  have hP := fun b hb h => txt_parts (b := b) (l := s.data.toList) hb h (ba_ne n1) (ba_ne n2) (ba_ne n3) (ba_ne n4) (ba_ne n5)
  have q1 : (s.toList == [110, 97, 110]) = false := beq_eq_false_iff_ne.2 (by rw [ByteArray.toList_eq]; exact ba_ne n1)
  have q2 : (s.toList == [105, 110, 102]) = false := beq_eq_false_iff_ne.2 (by rw [ByteArray.toList_eq]; exact ba_ne n2)
  have q3 : (s.toList == [45, 105, 110, 102]) = false := beq_eq_false_iff_ne.2 (by rw [ByteArray.toList_eq]; exact ba_ne n3)
  have q4 : (s.toList == [48]) = false := beq_eq_false_iff_ne.2 (by rw [ByteArray.toList_eq]; exact ba_ne n4)
  have q5 : (s.toList == [45, 48]) = false := beq_eq_false_iff_ne.2 (by rw [ByteArray.toList_eq]; exact ba_ne n5)
  have hC := Lib.hid (cutx_any s (by omega) { data := #[112] } w hv)
  have hln := cutp_len s.data.toList
  have hsz : s.data.toList.length = s.size := Array.length_toList
  have hX : ∀ b, b < 18446744073709551616 → txtL b = s.data.toList → ∃ (g : Bool) (u t : Nat), (Lib.cut s.data.toList [112]).2.2 = true ∧ Lib.parseIntB 64 (Lib.cut s.data.toList [112]).1 = .ok (sg g u) ∧ Lib.parseIntB 32 (Lib.cut s.data.toList [112]).2.1 = .ok ((t : Int) - 1074) ∧ Odd g u t b := fun b hb h => by
    obtain ⟨u, t, h1, h2, h3⟩ := hP b hb h
    rw [h3, cut_odd]
    exact ⟨neg b, u, t, rfl, parse_sg h1.lt, parse_pw h1.t, h2⟩
  have z1 : (⟨(Lib.cut s.data.toList [112]).1.toArray⟩ : ByteArray).size ≤ 100000 := by
    show (Lib.cut s.data.toList [112]).1.toArray.size ≤ 100000
    rw [List.size_toArray]; omega
  have z2 : (⟨(Lib.cut s.data.toList [112]).2.1.toArray⟩ : ByteArray).size ≤ 100000 := by
    show (Lib.cut s.data.toList [112]).2.1.toArray.size ≤ 100000
    rw [List.size_toArray]; omega
  have hA := fun (w' : World) (hv' : Vx w') => parse64_any ⟨(Lib.cut s.data.toList [112]).1.toArray⟩ z1 w' hv'
  have hB := fun (w' : World) (hv' : Vx w') => parse32_any ⟨(Lib.cut s.data.toList [112]).2.1.toArray⟩ z2 w' hv'
  have hpd : ({ data := #[112] } : ByteArray).data.toList = [112] := rfl
  rw [hpd] at hC
  simp only [] at hA hB
  clear hln z1 z2 hsz hP hpd
  generalize (Lib.cut s.data.toList [112]).1 = LA at *
  generalize (Lib.cut s.data.toList [112]).2.1 = LB at *
  generalize (Lib.cut s.data.toList [112]).2.2 = okb at *
  replace hY := Lib.hid hY
  replace hN := Lib.hid hN
  replace hX := Lib.hid hX
  replace hv := Lib.hid hv
  replace hs := Lib.hid hs
  replace hA := Lib.hid hA
  replace hB := Lib.hid hB
  clear n1 n2 n3 n4 n5
  go_enter Tryd.func25, Tryd.ntmps25
  go_wp2_with fail
  refine hC.out.mono ?_
  rintro e w1 ⟨rfl, hb1⟩
  clear hC
  have hv1 := Lib.hid (hv.out.below hb1)
  go_wp2_with fail
  refine (hA.out _ hv1.out).mono ?_
  rintro e w2 ⟨v1, er1, rfl, hR1, hb2⟩
  clear hA
  have hv2 := Lib.hid (hv1.out.below hb2)
  replace hb1 := hb1.trans (hb2.mono hb1.size)
  clear hb2 hv1
  go_wp2_with fail
  refine (hB.out _ hv2.out).mono ?_
  rintro e w3 ⟨v2, er2, rfl, hR2, hb3⟩
  clear hB
  have hv3 := Lib.hid (hv2.out.below hb3)
  replace hb1 := hb1.trans (hb3.mono hb1.size)
  clear hb3 hv2
  replace hb1 := Lib.hid hb1
  rcases okb with _ | _
  · have hz := Lib.hid (hN.out _ (fun b hb h => by obtain ⟨g, u, t, h1, -⟩ := hX.out b hb h; cases h1) hb1.out)
    have hee1 : er1 = .nilIface ∨ ∃ t p, er1 = .iface t p := by rcases parseR_cases hR1 with ⟨x, -, -, h⟩ | ⟨-, x, t, p, -, h⟩; exact .inl h; exact .inr ⟨t, p, h⟩
    clear hX hN hY hR1 hR2 hb1 hv3
    go_wp2_with fail
    exact hz.out
  rcases parseR_cases hR1 with ⟨x, hx, rfl, rfl⟩ | ⟨hnx, x, t, p, rfl, rfl⟩
  rotate_left
  · have hz := Lib.hid (hN.out _ (fun b hb h => by obtain ⟨g, u, t, -, h1, -⟩ := hX.out b hb h; exact hnx _ h1) hb1.out)
    clear hX hN hY hR1 hR2 hb1 hv3 hnx
    go_wp2_with fail
    exact hz.out
  rcases parseR_cases hR2 with ⟨y, hy, rfl, rfl⟩ | ⟨hny, y, t, p, rfl, rfl⟩
  rotate_left
  · have hz := Lib.hid (hN.out _ (fun b hb h => by obtain ⟨g, u, t, -, -, h1, -⟩ := hX.out b hb h; exact hny _ h1) hb1.out)
    clear hX hN hY hR1 hR2 hb1 hv3 hny hx
    go_wp2_with fail
    exact hz.out
  replace hX : Hid (∀ b, b < 18446744073709551616 → txtL b = s.data.toList → ∃ (g : Bool) (u t : Nat), x = sg g u ∧ y = (t : Int) - 1074 ∧ Odd g u t b) := Lib.hid fun b hb h => by
    obtain ⟨g, u, t, -, h1, h2, h3⟩ := hX.out b hb h
    rw [hx] at h1
    rw [hy] at h2
    simp only [Lib.NumEnd.ok.injEq] at h1 h2
    exact ⟨g, u, t, h1, h2, h3⟩
  have hyb := Lib.parseIntB_bounds hy
  rw [show ((2 ^ (32 - 1) : Nat) : Int) = 2147483648 from rfl] at hyb
  clear hR1 hR2 hx hy
  by_cases g1 : 9007199254740992 < x
  · have hz := Lib.hid (hN.out _ (fun b hb h => by obtain ⟨g, u, t, h1, -, h3⟩ := hX.out b hb h; have := sg_abs g u; rw [← h1] at this; have := h3.small; omega) hb1.out)
    clear hX hN hY hb1 hv3 hyb
    go_wp2_with fail
    exact hz.out
  by_cases g2 : x < -9007199254740992
  · have hz := Lib.hid (hN.out _ (fun b hb h => by obtain ⟨g, u, t, h1, -, h3⟩ := hX.out b hb h; have := sg_abs g u; rw [← h1] at this; have := h3.small; omega) hb1.out)
    clear hX hN hY hb1 hv3 hyb
    go_wp2_with fail
    exact hz.out
  have hL := Lib.hid (ldn_any x y (by omega) (by omega) (by omega) w3)
  have hF := toFloat_any x
  replace hyb := Lib.hid hyb
  generalize FloatKind.f64.nearest x = xf at *
  go_wp2_with fail
  refine hL.out.mono ?_
  rintro e w4 ⟨c, hc, hcb, rfl, rfl⟩
  have hE : (FloatKind.f64.format.order c 0 == some Ordering.eq) = decide (rung c = 0) := eq_0 c hc
  replace hX : ∀ b, b < 18446744073709551616 → txtL b = s.data.toList → c = b ∧ rung b ≠ 0 := fun b hb h => by
    obtain ⟨g, u, t, h1, h2, h3⟩ := hX.out b hb h
    exact ⟨hcb g u t b h1 h2 h3, h3.ne⟩
  clear hcb hL hF hyb g1 g2
  by_cases h0 : rung c = 0
  · rw [decide_eq_true h0] at hE
    have hz := Lib.hid (hN.out _ (fun b hb h => by obtain ⟨h1, h2⟩ := hX b hb h; rw [h1] at h0; exact h2 h0) hb1.out)
    clear hX hN hY hb1 hv3 h0
    go_wp2_with fail
    exact hz.out
  rw [decide_eq_false h0] at hE
  have hT := Lib.hid (text_any c hc w3 hv3.out)
  clear h0 hv3
  replace hX := Lib.hid hX
  by_cases ht : txtL c = s.data.toList
  · have e1 : (txtL c == s.toList) = true := by rw [ByteArray.toList_eq, ht]; exact beq_self_eq_true _
    have e2 : (ByteArray.toList ⟨(txtL c).toArray⟩ == s.toList) = true := by rw [ByteArray.toList_eq]; exact e1
    have hz := fun w' hb => Lib.hid (hY.out c w' hc ht hb)
    clear hX hN hY ht hc
    generalize txtL c = lt at *
    go_wp2_with fail
    refine hT.out.mono ?_
    rintro e w5 ⟨rfl, hb5⟩
    replace hz := hz _ (hb1.out.trans (hb5.mono hb1.out.size))
    clear hT hb5 hb1
    go_wp2_with fail
    exact hz.out
  · have e1 : (txtL c == s.toList) = false := beq_eq_false_iff_ne.2 (by rw [ByteArray.toList_eq]; exact ht)
    have e2 : (ByteArray.toList ⟨(txtL c).toArray⟩ == s.toList) = false := by rw [ByteArray.toList_eq]; exact e1
    have hz := fun w' hb => Lib.hid (hN.out w' (fun b hb h => by obtain ⟨h1, h2⟩ := hX.out b hb h; rw [h1] at ht; exact ht h) hb)
    clear hX hN hY ht hc
    generalize txtL c = lt at *
    go_wp2_with fail
    refine hT.out.mono ?_
    rintro e w5 ⟨rfl, hb5⟩
    replace hz := hz _ (hb1.out.trans (hb5.mono hb1.out.size))
    clear hT hb5 hb1
    go_wp2_with fail
    exact hz.out
end Go.Proofs.YtcbckeoalmjcoaaDoor
