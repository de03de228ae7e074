/- Reference 02: the walk of Read. -/
import Derived.Test.YtcbckeoalmjcoaaDoorRefRd
set_option linter.unusedVariables false
set_option linter.unusedSimpArgs false
namespace Go.Proofs.YtcbckeoalmjcoaaDoor
open Go.RowKit Go.Cw Go.Fl
theorem no_p {l : List UInt8} (h : ∀ b ∈ l, b ≠ 112) (g : Bool) (u t : Nat) : l ≠ oddT g u t := fun e => h 112 (e ▸ odd_has g u t) rfl
theorem cut_at {l : List UInt8} {j : Nat} (h1 : ∀ b ∈ l.take j, b ≠ 112) (h2 : l[j]? = some 112) : Lib.cut l [112] = (l.take j, l.drop (j + 1), true) := by
  have hj := (List.getElem?_eq_some_iff.1 h2).1
  have he : l = l.take j ++ 112 :: l.drop (j + 1) := by
    have h3 : l[j] = 112 := (List.getElem?_eq_some_iff.1 h2).2
    rw [← h3, List.getElem_cons_drop, List.take_append_drop]
  have h4 := cut_p (l.take j) (l.drop (j + 1)) h1
  rw [← he] at h4
  exact h4
theorem take_no {l : List UInt8} {j : Nat} {b : UInt8} (h1 : ∀ b ∈ l.take j, b ≠ 112) (h2 : l[j]? = some b) (h3 : b ≠ 112) : ∀ b ∈ l.take (j + 1), b ≠ 112 := by
  intro c hc
  rw [List.take_add_one, h2] at hc
  rcases List.mem_append.1 hc with h | h
  · exact h1 c h
  · simp at h
    rw [h]; exact h3
/-- What number tells, by what the text is. -/
def NB (oa : Option Int) (n : Int) (ok : Bool) : Prop := -1000000000000000000 < n ∧ n < 1000000000000000000 ∧ ((oa = some n ∧ ok = true) ∨ (oa = none ∧ ok = false))
theorem numNB {l : List UInt8} (w : World) (e : Ending) (w' : World) (h : (∃ n : Int, NumR l n ∧ e = .returned (.tuple #[.int .i64 n, .bool (numS l).isSome])) ∧ Below w.heap.size w w') : (∃ (n : Int) (ok : Bool), NB (numS l) n ok ∧ e = .returned (.tuple #[.int .i64 n, .bool ok])) ∧ Below w.heap.size w w' := by
  obtain ⟨⟨n, hn, rfl⟩, hb⟩ := h
  refine ⟨⟨n, (numS l).isSome, ⟨hn.lo, hn.hi, ?_⟩, rfl⟩, hb⟩
  cases h1 : numS l with
  | none => exact .inr ⟨rfl, rfl⟩
  | some a => exact .inl ⟨by rw [hn.is a h1], rfl⟩
set_option maxRecDepth 100000 in
set_option maxHeartbeats 3200000 in
theorem refRead_any (s : ByteArray) (hs : s.size ≤ 1000) (w : World) :
    Calls Tryd.prog 29 #[.string s] w fun e w' => ((∃ b, b < 18446744073709551616 ∧ txtL b = s.data.toList ∧ e = .returned (.tuple #[.float .f64 b, .bool true])) ∨ ((∀ b, b < 18446744073709551616 → txtL b ≠ s.data.toList) ∧ e = .returned (.tuple #[.float .f64 0, .bool false]))) ∧ Below w.heap.size w w' := by
  have hY : ∀ (b : Nat) (w' : World), b < 18446744073709551616 → txtL b = s.data.toList → Below w.heap.size w w' → (fun (e : Ending) (w' : World) => ((∃ b, b < 18446744073709551616 ∧ txtL b = s.data.toList ∧ e = .returned (.tuple #[.float .f64 b, .bool true])) ∨ ((∀ b, b < 18446744073709551616 → txtL b ≠ s.data.toList) ∧ e = .returned (.tuple #[.float .f64 0, .bool false]))) ∧ Below w.heap.size w w') (.returned (.tuple #[.float .f64 b, .bool true])) w' := fun b w' h1 h2 h3 => ⟨.inl ⟨b, h1, h2, rfl⟩, h3⟩
  have hN : ∀ (w' : World), (∀ b, b < 18446744073709551616 → txtL b ≠ s.data.toList) → Below w.heap.size w w' → (fun (e : Ending) (w' : World) => ((∃ b, b < 18446744073709551616 ∧ txtL b = s.data.toList ∧ e = .returned (.tuple #[.float .f64 b, .bool true])) ∨ ((∀ b, b < 18446744073709551616 → txtL b ≠ s.data.toList) ∧ e = .returned (.tuple #[.float .f64 0, .bool false]))) ∧ Below w.heap.size w w') (.returned (.tuple #[.float .f64 0, .bool false])) w' := fun w' h1 h3 => ⟨.inr ⟨h1, rfl⟩, h3⟩
  generalize (fun (e : Ending) (w' : World) => ((∃ b, b < 18446744073709551616 ∧ txtL b = s.data.toList ∧ e = .returned (.tuple #[.float .f64 b, .bool true])) ∨ ((∀ b, b < 18446744073709551616 → txtL b ≠ s.data.toList) ∧ e = .returned (.tuple #[.float .f64 0, .bool false]))) ∧ Below w.heap.size w w') = Q at *
  by_cases n1 : s = sNan
  · subst n1
    obtain ⟨c, hc1, hc2, hrun⟩ := run_nan (P := Tryd.prog) (t := 40) w
    have hz := Lib.hid (hY c w.drew hc1 (t_nanAny hc2) (below_drew w))
    clear hY hN hs hc1 hc2
    go_enter Tryd.func29, Tryd.ntmps29
    go_wp2_with fail
    exact hz.out
  by_cases n2 : s = sInf
  · subst n2
    have hrun := @run_fdiv Tryd.prog 40 _ _ _ div_z1
    have hz := Lib.hid (hY _ w (by decide) t_inf (Below.refl _ _))
    clear hY hN hs n1
    go_enter Tryd.func29, Tryd.ntmps29
    go_wp2_with fail
    exact hz.out
  by_cases n3 : s = sNinf
  · subst n3
    have hrun := @run_fdiv Tryd.prog 40 _ _ _ div_z2
    have hz := Lib.hid (hY _ w (by decide) t_ninf (Below.refl _ _))
    clear hY hN hs n1 n2
    go_enter Tryd.func29, Tryd.ntmps29
    go_wp2_with fail
    exact hz.out
  by_cases n4 : s = sZero
  · subst n4
    have hz := Lib.hid (hY _ w (by decide) t_zero (Below.refl _ _))
    clear hY hN hs n1 n2 n3
    go_enter Tryd.func29, Tryd.ntmps29
    go_wp2_with fail
    exact hz.out
  by_cases n5 : s = sNzero
  · subst n5
    have hrun := @run_fdiv Tryd.prog 40 _ _ _ div_z2
    have hrun2 := @run_fdiv Tryd.prog 40 _ _ _ div_z3
    have hz := Lib.hid (hY _ w (by decide) t_nzero (Below.refl _ _))
    clear hY hN hs n1 n2 n3 n4
    go_enter Tryd.func29, Tryd.ntmps29
    go_wp2_with fail
    exact hz.out
  have hP := fun b hb h => txt_parts (b := b) (l := s.data.toList) hb h (ba_ne n1) (ba_ne n2) (ba_ne n3) (ba_ne n4) (ba_ne n5)
  have q1 : (s.toList == [110, 97, 110]) = false := beq_eq_false_iff_ne.2 (by rw [ByteArray.toList_eq]; exact ba_ne n1)
  have q2 : (s.toList == [105, 110, 102]) = false := beq_eq_false_iff_ne.2 (by rw [ByteArray.toList_eq]; exact ba_ne n2)
  have q3 : (s.toList == [45, 105, 110, 102]) = false := beq_eq_false_iff_ne.2 (by rw [ByteArray.toList_eq]; exact ba_ne n3)
  have q4 : (s.toList == [48]) = false := beq_eq_false_iff_ne.2 (by rw [ByteArray.toList_eq]; exact ba_ne n4)
  have q5 : (s.toList == [45, 48]) = false := beq_eq_false_iff_ne.2 (by rw [ByteArray.toList_eq]; exact ba_ne n5)
  have hsz : s.data.toList.length = s.size := Array.length_toList
  have hu : ∀ (b : UInt8), (b.toNat : Int) = 112 → b = 112 := fun b h => UInt8.toNat_inj.1 (by have e : (112 : UInt8).toNat = 112 := rfl; omega)
  replace hY := Lib.hid hY
  replace hN := Lib.hid hN
  replace hP := Lib.hid hP
  clear n1 n2 n3 n4 n5
  go_enter Tryd.func29, Tryd.ntmps29
  go_wp2_with fail
  go_loopw [5] (fun s5 wr => ∃ j : Nat, j ≤ s.size ∧ s5 = .int .i64 (j : Int) ∧ Hid (∀ b ∈ s.data.toList.take j, b ≠ 112) ∧ Below w.heap.size w wr) (fun s5 _ => s.size - (intOf s5).toNat)
  case atStart => exact ⟨0, by omega, by go_num, Lib.hid (by simp), Below.refl _ _⟩
  case round =>
    obtain ⟨j, hj, rfl, hno, hb⟩ := hrel
    by_cases hlt : j < s.size
    · have hat : s.data.toList[j]? = some s[j] := by rw [Array.getElem?_toList]; exact Array.getElem?_eq_getElem hlt
      by_cases hm : (s[j].toNat : Int) = 112
      · have hcut := cut_at hno.out (by rw [hat, show s[j] = (112 : UInt8) from hu _ hm])
        have hx1 : (s.extract 0 j).data.toList = s.data.toList.take j := by simp
        have hx2 : (s.extract (j + 1) s.size).data.toList = s.data.toList.drop (j + 1) := by
          simp
          exact List.take_of_length_le (by rw [List.length_drop]; omega)
        have hA := number_any (s.extract 0 j).size _ rfl (by simp; omega)
        have hB := number_any (s.extract (j + 1) s.size).size _ rfl (by simp; omega)
        have hX : ∀ b, b < 18446744073709551616 → txtL b = s.data.toList → ∃ (g : Bool) (u t : Nat), numS (s.extract 0 j).data.toList = some (sg g u) ∧ numS (s.extract (j + 1) s.size).data.toList = some ((t : Int) - 1074) ∧ Odd g u t b ∧ t < 2098 := fun b hb h => by
          obtain ⟨u, t, h1, h2, h3⟩ := hP.out b hb h
          rw [h3, cut_odd] at hcut
          simp only [Prod.mk.injEq, and_true] at hcut
          rw [hx1, hx2, h3, ← hcut.1, ← hcut.2]
          exact ⟨neg b, u, t, numS_itoa (by rw [sg_abs]; have := h1.lt; omega), numS_itoa (by have := h1.t; omega), h2, h1.t⟩
        have i1 : (j : Int) ≤ (s.size : Int) := by omega
        have i2 : (j : Int) + 1 ≤ (s.size : Int) := by omega
        have i3 : ¬ (j : Int) = (s.size : Int) := by omega
        have i4 : wrap64 ((j : Int) + 1) = (j : Int) + 1 := by unfold wrap64; omega
        clear hx1 hx2 hcut hat hno hP
        replace hX := Lib.hid hX
        replace hA := fun w' => (hA w').mono (numNB (l := (s.extract 0 j).data.toList) w')
        replace hB := fun w' => (hB w').mono (numNB (l := (s.extract (j + 1) s.size).data.toList) w')
        generalize numS (s.extract 0 j).data.toList = oa at *
        generalize numS (s.extract (j + 1) s.size).data.toList = ob at *
        have hA1 := fun w' => Lib.hid (hA w')
        have hB1 := fun w' => Lib.hid (hB w')
        clear hA hB
        go_wp2_with fail
        refine (hA1 _).out.mono ?_
        rintro e w2 ⟨⟨x, ok1, hx, rfl⟩, hb2⟩
        replace hb := hb.trans (hb2.mono hb.size)
        clear hb2 hA1
        go_wp2_with fail
        refine (hB1 _).out.mono ?_
        rintro e w3 ⟨⟨y, ok2, hy, rfl⟩, hb3⟩
        replace hb := Lib.hid (hb.trans (hb3.mono hb.size))
        clear hb3 hB1
        rcases hx with ⟨hxl, hxh, ⟨rfl, rfl⟩ | ⟨rfl, rfl⟩⟩
        rotate_left
        · have hz := Lib.hid (hN.out w3 (fun b hb h => by obtain ⟨g, u, t, a1, -⟩ := hX.out b hb h; cases a1) hb.out)
          clear hX hN hY hb hxl hxh hy
          go_wp2_with fail
          exact hz.out
        · rcases hy with ⟨hyl, hyh, ⟨rfl, rfl⟩ | ⟨rfl, rfl⟩⟩
          rotate_left
          · have hz := Lib.hid (hN.out w3 (fun b hb h => by obtain ⟨g, u, t, -, a2, -⟩ := hX.out b hb h; cases a2) hb.out)
            clear hX hN hY hb hxl hxh hyl hyh
            go_wp2_with fail
            exact hz.out
          · replace hX : Hid (∀ b, b < 18446744073709551616 → txtL b = s.data.toList → ∃ (g : Bool) (u t : Nat), x = sg g u ∧ y = (t : Int) - 1074 ∧ Odd g u t b ∧ t < 2098) := Lib.hid fun b hb h => by
              obtain ⟨g, u, t, a1, a2, a3⟩ := hX.out b hb h
              simp only [Option.some.injEq] at a1 a2
              exact ⟨g, u, t, a1, a2, a3⟩
            by_cases g0' : Int.tmod x 2 = 0
            · have g0 : (Int.tmod x 2 == 0) = true := beq_iff_eq.2 g0'
              have hz := Lib.hid (hN.out w3 (fun b hb h => by obtain ⟨g, u, t, a1, -, a3, -⟩ := hX.out b hb h; have g1 := beq_iff_eq.1 g0; rw [a1, sg_rem] at g1; have := a3.odd; omega) hb.out)
              clear hX hN hY hb hxl hxh hyl hyh
              go_wp2_with fail
              exact hz.out
            have g0 : (Int.tmod x 2 == 0) = false := beq_eq_false_iff_ne.2 g0'
            by_cases g1 : y < -1074
            · have hz := Lib.hid (hN.out w3 (fun b hb h => by obtain ⟨g, u, t, -, a2, -⟩ := hX.out b hb h; omega) hb.out)
              clear hX hN hY hb hxl hxh hyl hyh
              go_wp2_with fail
              exact hz.out
            by_cases g2 : 1023 < y
            · have hz := Lib.hid (hN.out w3 (fun b hb h => by obtain ⟨g, u, t, -, a2, -, a4⟩ := hX.out b hb h; omega) hb.out)
              clear hX hN hY hb hxl hxh hyl hyh
              go_wp2_with fail
              exact hz.out
            by_cases g3 : 9007199254740992 < x
            · have hz := Lib.hid (hN.out w3 (fun b hb h => by obtain ⟨g, u, t, a1, -, a3, -⟩ := hX.out b hb h; have := sg_abs g u; rw [← a1] at this; have := a3.small; omega) hb.out)
              clear hX hN hY hb hxl hxh hyl hyh
              go_wp2_with fail
              all_goals exact hz.out
            by_cases g4 : x < -9007199254740992
            · have hz := Lib.hid (hN.out w3 (fun b hb h => by obtain ⟨g, u, t, a1, -, a3, -⟩ := hX.out b hb h; have := sg_abs g u; rw [← a1] at this; have := a3.small; omega) hb.out)
              clear hX hN hY hb hxl hxh hyl hyh
              go_wp2_with fail
              exact hz.out
            obtain ⟨k1, k2, k3⟩ := Trk.start (x := x) (y := y) (by omega)
            have hF := toFloat_any x
            replace k3 := Lib.hid k3
            replace k1 := Lib.hid k1
            replace k2 := Lib.hid k2
            generalize FloatKind.f64.nearest x = c0 at *
            clear hxl hxh hyl hyh
            go_wp2_with fail
            go_loopw [10, 8] (fun s10 s8 wr => ∃ (c : Nat) (e : Int), s10 = .float .f64 c ∧ s8 = .int .i64 e ∧ Hid (c < 18446744073709551616) ∧ Hid (rung c ≤ top) ∧ Hid (Trk x y e c) ∧ (e = y ∨ 0 ≤ e) ∧ e ≤ y ∧ Below w.heap.size w wr) (fun _ s8 _ => (intOf s8).toNat)
            case atStart => exact ⟨c0, y, rfl, rfl, k1, k2, k3, .inl rfl, Int.le_refl _, hb.out⟩
            case round =>
              clear hb k1 k2 k3 hF g0 g0' g3 g4
              obtain ⟨c, e, rfl, rfl, k1, k2, k3, he1, he2, hb⟩ := hrel
              by_cases he : 0 < e
              · obtain ⟨d, hm, d1, d2⟩ := mul_any k2.out
                have k4 := Lib.hid (k3.out.up he hm)
                replace hm := @run_fmul Tryd.prog 40 _ _ _ hm
                have e1 : wrap64 (e - 1) = e - 1 := by unfold wrap64; omega
                have e2 : (e - 1).toNat < e.toNat := by omega
                have e3 : e - 1 = y ∨ 0 ≤ e - 1 := .inr (by omega)
                have e4 : e - 1 ≤ y := by omega
                replace e2 := Lib.hid e2
                replace e3 := Lib.hid e3
                replace d1 := Lib.hid d1
                replace d2 := Lib.hid d2
                clear k1 k2 k3 he1 he2
                go_wp2_with fail
                go_roundw
                case rel => exact ⟨d, e - 1, rfl, by first | rfl | exact congrArg (Value.int IntKind.i64) e1, d1, d2, k4, e3.out, e4, hb⟩
                case measure => first | exact e2.out | (simp only [intOf, e1]; exact e2.out)
              · have e5 : e ≤ 0 := by omega
                have e6 : -1074 ≤ e := by omega
                clear he1 he2
                replace hb := Lib.hid hb
                go_wp2_with fail
                go_loopw [10, 8] (fun s10 s8 wr => ∃ (c : Nat) (e : Int), s10 = .float .f64 c ∧ s8 = .int .i64 e ∧ Hid (c < 18446744073709551616) ∧ Hid (rung c ≤ top) ∧ Hid (Trk x y e c) ∧ -1074 ≤ e ∧ e ≤ 0 ∧ Below w.heap.size w wr) (fun _ s8 _ => (-(intOf s8)).toNat)
                case atStart => exact ⟨c, e, rfl, rfl, k1, k2, k3, e6, e5, hb.out⟩
                case round =>
                  clear hb k1 k2 k3 e5 e6 he
                  obtain ⟨c, e, rfl, rfl, k1, k2, k3, he1, he2, hb⟩ := hrel
                  by_cases he : e < 0
                  · obtain ⟨d, hm, d1, d2⟩ := div_any k2.out
                    have k4 := Lib.hid (k3.out.down he (by omega) hm)
                    replace hm := @run_fdiv Tryd.prog 40 _ _ _ hm
                    have e1 : wrap64 (e + 1) = e + 1 := by unfold wrap64; omega
                    have e2 : (-(e + 1)).toNat < (-e).toNat := by omega
                    have e3 : -1074 ≤ e + 1 := by omega
                    have e4 : e + 1 ≤ 0 := by omega
                    replace e2 := Lib.hid e2
                    replace d1 := Lib.hid d1
                    replace d2 := Lib.hid d2
                    clear k1 k2 k3 he1 he2
                    go_wp2_with fail
                    go_roundw
                    case rel => exact ⟨d, e + 1, rfl, by first | rfl | exact congrArg (Value.int IntKind.i64) e1, d1, d2, k4, e3, e4, hb⟩
                    case measure => first | exact e2.out | (simp only [intOf, e1]; exact e2.out)
                  · obtain rfl : e = 0 := by omega
                    have hdn := k3.out.done
                    replace hX : Hid (∀ b, b < 18446744073709551616 → txtL b = s.data.toList → c = b) := Lib.hid fun b hb h => by
                      obtain ⟨g, u, t, a1, a2, a3, -⟩ := hX.out b hb h
                      exact hdn g u t b a1 a2 a3
                    have hT := Lib.hid (refTxt_any c k1.out wr)
                    replace hb := Lib.hid hb
                    clear k2 k3 hdn he1 he2 he
                    by_cases ht : txtL c = s.data.toList
                    · have e1 : (txtL c == s.toList) = true := by rw [ByteArray.toList_eq, ht]; exact beq_self_eq_true _
                      have e2 : (ByteArray.toList ⟨(txtL c).toArray⟩ == s.toList) = true := by rw [ByteArray.toList_eq]; exact e1
                      have hz := fun w' hb => Lib.hid (hY.out c w' k1.out ht hb)
                      clear hX hN hY ht k1
                      generalize txtL c = lt at *
                      go_wp2_with fail
                      refine hT.out.mono ?_
                      rintro e w5 ⟨rfl, hb5⟩
                      replace hz := hz _ (hb.out.trans (hb5.mono hb.out.size))
                      clear hT hb5 hb
                      go_wp2_with fail
                      exact hz.out
                    · have e1 : (txtL c == s.toList) = false := beq_eq_false_iff_ne.2 (by rw [ByteArray.toList_eq]; exact ht)
                      have e2 : (ByteArray.toList ⟨(txtL c).toArray⟩ == s.toList) = false := by rw [ByteArray.toList_eq]; exact e1
                      have hz := fun w' hb => Lib.hid (hN.out w' (fun b hb h => by have h1 := hX.out b hb h; rw [h1] at ht; exact ht h) hb)
                      clear hX hN hY ht k1
                      generalize txtL c = lt at *
                      go_wp2_with fail
                      refine hT.out.mono ?_
                      rintro e w5 ⟨rfl, hb5⟩
                      replace hz := hz _ (hb.out.trans (hb5.mono hb.out.size))
                      clear hT hb5 hb
                      go_wp2_with fail
                      exact hz.out
      · have hno2 := Lib.hid (take_no hno.out hat (fun e => hm (by rw [e]; rfl)))
        clear hat hno
        go_wp2_with fail
        go_roundw
        case rel => exact ⟨j + 1, by omega, by go_num, hno2, hb⟩
        case measure => simp [intOf]; omega
    · obtain rfl : j = s.size := by omega
      have hz := Lib.hid (hN.out _ (fun b hb h => by
        obtain ⟨u, t, -, -, h3⟩ := hP.out b hb h
        refine no_p (l := s.data.toList) ?_ _ _ _ h3
        have := hno.out
        rw [List.take_of_length_le (by omega)] at this
        exact this) hb)
      clear hno
      go_wp2_with fail
      exact hz.out
end Go.Proofs.YtcbckeoalmjcoaaDoor
