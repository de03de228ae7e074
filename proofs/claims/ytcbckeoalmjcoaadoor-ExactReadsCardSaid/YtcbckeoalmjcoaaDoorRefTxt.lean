/- Reference 02: whole, Text. -/
import Derived.Test.YtcbckeoalmjcoaaDoorText
import Derived.Test.YtcbckeoalmjcoaaDoorFltN
import Derived.Test.YtcbckeoalmjcoaaDoorDigitsZ
set_option linter.unusedVariables false
set_option linter.unusedSimpArgs false
namespace Go.Proofs.YtcbckeoalmjcoaaDoor
open Go.RowKit Go.Cw Go.Fl
theorem toFloat_any (n : Int) (w : World) : (convert 2 40 (.int .i64 n)).run Tryd.prog w = .ok (.float .f64 (FloatKind.f64.nearest n)) w := by
  have u1 : Tryd.prog.underlying 40 = some (.float .f64) := by kernel_rfl
  have u2 : Tryd.prog.underlying 2 = some (.int .i64) := by kernel_rfl
  simp [convert, run_underlying u1, run_underlying u2, Go.Conv.intToFloat, Result.andThen]
theorem toInt_any {s : Bool} {u t b : Nat} (h : Odd s u t b) (hl : u * 2 ^ t < lim) (w : World) : (convert 40 2 (.float .f64 b)).run Tryd.prog w = .ok (.int .i64 (sg s (V (rung b) / 2 ^ un))) w := by
  have h1 := lim_div (x := V (rung b)) (by rw [h.v]; exact hl)
  exact convert_any h.fin h.sgn rfl (by omega) w
set_option maxRecDepth 100000 in
theorem whole_any {s : Bool} {u t b : Nat} (h : Odd s u t b) (hl : u * 2 ^ t < lim) (w : World) :
    Calls Tryd.prog 59 #[.float .f64 b] w fun e w' => e = .returned (.bool (decide (un ≤ t))) ∧ w = w' := by
  have hfin : ∀ (w' : World), w = w' → (fun (e : Ending) (w' : World) => e = .returned (.bool (decide (un ≤ t))) ∧ w = w') (.returned (.bool (decide (un ≤ t)))) w' := fun w' h2 => ⟨rfl, h2⟩
  generalize (fun (e : Ending) (w' : World) => e = .returned (.bool (decide (un ≤ t))) ∧ w = w') = Q at *
  have h1 := fun w => toInt_any h hl w
  have h2 := toFloat_any (sg s (V (rung b) / 2 ^ un))
  have h3 := whole_law h hl
  have hq := Lib.hid (hfin w rfl)
  clear hfin h hl
  generalize sg s (V (rung b) / 2 ^ un) = n at *
  generalize FloatKind.f64.nearest n = c at *
  generalize decide (un ≤ t) = r at *
  go_enter Tryd.func59, Tryd.ntmps59
  go_wp2_with fail
  exact hq.out
theorem lk_some {k : Int} {q : Nat × ByteArray} (h : lkI k nmL 0 = some q) : (k = 0 ∧ q.2 = { data := #[110, 97, 110] }) ∨ (k = 1 ∧ q.2 = { data := #[45, 105, 110, 102] }) ∨ (k = 3 ∧ q.2 = { data := #[45, 48] }) ∨ (k = 4 ∧ q.2 = { data := #[48] }) ∨ (k = 6 ∧ q.2 = { data := #[105, 110, 102] }) := by
  unfold nmL at h
  simp only [lkI] at h
  by_cases h0 : (0 : Int) = k
  · rw [if_pos h0] at h; cases h; exact .inl ⟨h0.symm, rfl⟩
  · rw [if_neg h0] at h
    by_cases h1 : (1 : Int) = k
    · rw [if_pos h1] at h; cases h; exact .inr (.inl ⟨h1.symm, rfl⟩)
    · rw [if_neg h1] at h
      by_cases h3 : (3 : Int) = k
      · rw [if_pos h3] at h; cases h; exact .inr (.inr (.inl ⟨h3.symm, rfl⟩))
      · rw [if_neg h3] at h
        by_cases h4 : (4 : Int) = k
        · rw [if_pos h4] at h; cases h; exact .inr (.inr (.inr (.inl ⟨h4.symm, rfl⟩)))
        · rw [if_neg h4] at h
          by_cases h6 : (6 : Int) = k
          · rw [if_pos h6] at h; cases h; exact .inr (.inr (.inr (.inr ⟨h6.symm, rfl⟩)))
          · rw [if_neg h6] at h; cases h
theorem lk_none {k : Int} (h : lkI k nmL 0 = none) : ¬ k = 0 ∧ ¬ k = 1 ∧ ¬ k = 3 ∧ ¬ k = 4 ∧ ¬ k = 6 := by
  refine ⟨?_, ?_, ?_, ?_, ?_⟩ <;> (rintro rfl; revert h; decide)
theorem oddR_odd {b u t : Nat} (hb : b < 18446744073709551616) (hf : rung b < top) (h : OddR (rung b) u t) : Odd (neg b) u t b := ⟨hb, hf, rfl, h.odd, h.lt, h.v⟩
set_option maxRecDepth 100000 in
set_option maxHeartbeats 1600000 in
theorem refTxt_any (b : Nat) (hb : b < 18446744073709551616) (w : World) :
    Calls Tryd.prog 26 #[.float .f64 b] w fun e w' => e = .returned (.string ⟨(txtL b).toArray⟩) ∧ Below w.heap.size w w' := by
  have hfin : ∀ (s : ByteArray) (w' : World), s.data.toList = txtL b → Below w.heap.size w w' → (fun (e : Ending) (w' : World) => e = .returned (.string ⟨(txtL b).toArray⟩) ∧ Below w.heap.size w w') (.returned (.string s)) w' := fun s w' h1 h2 => ⟨by rw [← h1], h2⟩
  generalize (fun (e : Ending) (w' : World) => e = .returned (.string ⟨(txtL b).toArray⟩) ∧ Below w.heap.size w w') = Q at *
  replace hfin := Lib.hid hfin
  have hK := Lib.hid (refKind_any b hb w)
  rcases kind_cases b with ⟨⟨q, hq⟩, -⟩ | ⟨hq, hF⟩
  · have hz := hfin.out q.2 _ (txt_name hq).symm (Below.refl _ _)
    have hk := lk_some hq
    clear hfin hq hb
    generalize kindOf b = k at *
    rcases hk with ⟨rfl, hq⟩ | ⟨rfl, hq⟩ | ⟨rfl, hq⟩ | ⟨rfl, hq⟩ | ⟨rfl, hq⟩
    all_goals
      rw [hq] at hz
      replace hz := Lib.hid hz
      clear hq
      go_enter Tryd.func26, Tryd.ntmps26
      go_wp2_with fail
      refine hK.out.mono ?_
      rintro e w1 ⟨rfl, rfl⟩
      clear hK
      go_wp2_with fail
      exact hz.out
  · obtain ⟨k0, k1, k3, k4, k6⟩ := lk_none hq
    obtain ⟨u, t, ho⟩ := oddR_any hF.lt hF.ne
    have hx := txt_odd hF ho
    have ht := ho.t
    have hO := oddR_odd hb hF.lt ho
    rw [hx] at hfin
    clear hq hF hx ho hb
    generalize kindOf b = k at *
    generalize neg b = s at *
    go_enter Tryd.func26, Tryd.ntmps26
    go_wp2_with fail
    refine hK.out.mono ?_
    rintro e w1 ⟨rfl, rfl⟩
    clear hK
    go_wp2_with fail
    rw [show (k == 0) = false from beq_eq_false_iff_ne.2 k0, show (k == 1) = false from beq_eq_false_iff_ne.2 k1, show (k == 3) = false from beq_eq_false_iff_ne.2 k3, show (k == 4) = false from beq_eq_false_iff_ne.2 k4, show (k == 6) = false from beq_eq_false_iff_ne.2 k6]
    go_loopw [0, 4] (fun s0 s4 wr => ∃ t' b' : Nat, s0 = .float .f64 b' ∧ Hid (Odd s u t' b') ∧ t' ≤ t ∧ s4 = .int .i64 ((t : Int) - (t' : Int)) ∧ Below w.heap.size w wr) (fun _ s4 _ => ((t : Int) - intOf s4).toNat)
    case atStart => exact ⟨t, b, rfl, Lib.hid hO, Nat.le_refl _, by rw [Int.sub_self], Below.refl _ _⟩
    case round =>
      clear hO
      obtain ⟨t', b', rfl, hO', ht', rfl, hbr⟩ := hrel
      have hg := ge53 hO'.out.fin
      have hl := le53 hO'.out.fin
      rw [hO'.out.sgn, hO'.out.v] at hg hl
      by_cases hlim : lim ≤ u * 2 ^ t'
      · have hun := hO'.out.big hlim
        obtain ⟨t2, rfl⟩ : ∃ t2, t' = t2 + 1 := ⟨t' - 1, by omega⟩
        obtain ⟨c, hc, hdv⟩ := hO'.out.down
        replace hdv := @run_fdiv Tryd.prog 40 _ _ _ hdv
        rw [decide_eq_true hlim, Bool.and_true] at hg hl
        replace hc := Lib.hid hc
        have e1 : wrap64 ((t : Int) - ((t2 + 1 : Nat) : Int) + 1) = (t : Int) - (t2 : Int) := by unfold wrap64; omega
        have hm : ((t : Int) - ((t : Int) - (t2 : Int))).toNat < ((t : Int) - ((t : Int) - ((t2 + 1 : Nat) : Int))).toNat := by omega
        generalize hX : (t : Int) - ((t2 + 1 : Nat) : Int) = X at *
        replace hm := Lib.hid hm
        clear hlim hun hX hO'
        cases s
        all_goals
          simp only [Bool.not_true, Bool.not_false] at hg hl
          go_wp2
          go_roundw
          case rel => exact ⟨t2, c, rfl, hc, by omega, congrArg (Value.int IntKind.i64) e1, hbr⟩
          case measure => simp only [intOf, e1]; exact hm.out
      · rw [decide_eq_false hlim, Bool.and_false] at hg hl
        replace hlim := Lib.hid hlim
        go_wp2
        go_loopw [0, 4] (fun s0 s4 wr => ∃ t2 b2 : Nat, s0 = .float .f64 b2 ∧ Hid (Odd s u t2 b2) ∧ Hid (u * 2 ^ t2 < lim) ∧ t2 < 2098 ∧ s4 = .int .i64 ((t : Int) - (t2 : Int)) ∧ Below w.heap.size w wr) (fun _ s4 _ => (1074 - ((t : Int) - intOf s4)).toNat)
        case atStart => exact ⟨t', b', rfl, hO', Lib.hid (Nat.lt_of_not_le hlim.out), by omega, rfl, hbr⟩
        case round =>
          clear hg hl hlim hO' ht' hbr
          obtain ⟨t2, b2, rfl, hO2, hl2, ht2, rfl, hb2⟩ := hrel
          have hW := Lib.hid (whole_any hO2.out hl2.out wr)
          by_cases hw : un ≤ t2
          · rw [decide_eq_true hw] at hW
            obtain ⟨k2, rfl⟩ : ∃ k2, t2 = un + k2 := ⟨t2 - un, by omega⟩
            have hT := toInt_any hO2.out hl2.out
            have hv2 : V (rung b2) / 2 ^ un = u * 2 ^ k2 := by
              rw [hO2.out.v, Nat.pow_add, Nat.mul_comm (2 ^ un), ← Nat.mul_assoc]
              exact Nat.mul_div_cancel _ (Nat.two_pow_pos _)
            have hk2 := lim_div (x := V (rung b2)) (by rw [hO2.out.v]; exact hl2.out)
            rw [hv2] at hT hk2
            have hu1 := hO2.out.odd
            have hu2 := hO2.out.small
            replace hk2 := Lib.hid hk2
            replace hu1 := Lib.hid hu1
            replace hu2 := Lib.hid hu2
            clear hO2 hl2 hv2 hw
            go_wp2_with fail
            refine hW.out.mono ?_
            rintro e w2 ⟨rfl, rfl⟩
            clear hW
            go_wp2_with fail
            go_loopw [5, 4] (fun s5 s4 w3 => ∃ k : Nat, s5 = .int .i64 (sg s (u * 2 ^ k)) ∧ Hid (u * 2 ^ k < 9007199254740992) ∧ s4 = .int .i64 ((t : Int) - 1074 - (k : Int)) ∧ k < 2098 ∧ Below w.heap.size w w3) (fun _ s4 _ => ((t : Int) - 1074 - intOf s4).toNat)
            case atStart => exact ⟨k2, rfl, hk2, congrArg (Value.int IntKind.i64) (by have := un_eq; omega), by omega, hb2⟩
            case round =>
              clear hb2 hT hk2 ht2
              obtain ⟨k, rfl, hk, rfl, hkl, hb3⟩ := hrel
              rcases Nat.eq_zero_or_pos k with rfl | hk0
              · have h2 : (Int.tmod (sg s (u * 2 ^ 0)) 2 == 0) = false := beq_eq_false_iff_ne.2 (fun e => by rw [sg_rem] at e; have := hu1.out; omega)
                rw [Nat.pow_zero, Nat.mul_one] at h2 ⊢
                rw [show (t : Int) - 1074 - ((0 : Nat) : Int) = (t : Int) - 1074 by omega]
                obtain ⟨s1, s2⟩ := sg_b (s := s) hu2.out
                have hD1 := fun w' => Lib.hid (digitsZ_any (sg s u) (by have := hu2.out; unfold sg; cases s <;> simp <;> omega) (by have := hu2.out; unfold sg; cases s <;> simp <;> omega) w')
                have hD2 := fun w' => Lib.hid (digitsZ_any ((t : Int) - 1074) (by omega) (by omega) w')
                have l1 := Lib.itoa_length_le _ s1 s2
                have l2 := Lib.itoa_length_le ((t : Int) - 1074) (by omega) (by omega)
                replace hfin : Hid (∀ w', Below w.heap.size w w' → Q (.returned (.string (⟨(Lib.itoa (sg s u)).toArray⟩ ++ { data := #[112] } ++ ⟨(Lib.itoa ((t : Int) - 1074)).toArray⟩))) w') := Lib.hid fun w' h => hfin.out _ w' (by
                  rw [show ({ data := #[112] } : ByteArray) = ⟨([112] : List UInt8).toArray⟩ from rfl, ba_app, ba_app]
                  simp [oddT]) h
                clear s1 s2 ht hkl hu1 hu2 hk
                generalize sg s u = m at *
                generalize (t : Int) - 1074 = x at *
                generalize Lib.itoa m = lm at *
                generalize Lib.itoa x = lx at *
                have f1 : ¬ 9223372036854775807 < lm.length + 1 := by omega
                have f2 : ¬ 9223372036854775807 < lm.length + 1 + lx.length := by omega
                replace l1 := Lib.hid l1
                replace l2 := Lib.hid l2
                go_wp2_with fail
                refine (hD1 _).out.mono ?_
                rintro e w4 ⟨rfl, hb4⟩
                replace hb3 := hb3.trans (hb4.mono hb3.size)
                clear hD1 hb4
                go_wp2_with fail
                refine (hD2 _).out.mono ?_
                rintro e w5 ⟨rfl, hb5⟩
                replace hb3 := hb3.trans (hb5.mono hb3.size)
                have hz := Lib.hid (hfin.out _ hb3)
                clear hD2 hb5 hfin
                go_wp2_with fail
                exact hz.out
              · obtain ⟨k', rfl⟩ : ∃ k', k = k' + 1 := ⟨k - 1, by omega⟩
                have hE : u * 2 ^ (k' + 1) = 2 * (u * 2 ^ k') := by rw [Nat.pow_succ]; simp only [Nat.mul_comm, Nat.mul_left_comm]
                have hk' : u * 2 ^ k' < 9007199254740992 := by have := hk.out; omega
                have h2 : (Int.tmod (sg s (u * 2 ^ (k' + 1))) 2 == 0) = true := beq_iff_eq.2 (by rw [sg_rem, hE]; omega)
                have h3 : Int.tdiv (sg s (u * 2 ^ (k' + 1))) 2 = sg s (u * 2 ^ k') := by rw [hE]; exact sg_half s _
                have h4 : wrap64 (sg s (u * 2 ^ k')) = sg s (u * 2 ^ k') := sg_wrap s (by omega)
                have h5 : wrap64 ((t : Int) - 1074 - ((k' + 1 : Nat) : Int) + 1) = (t : Int) - 1074 - (k' : Int) := by unfold wrap64; omega
                have hm : ((t : Int) - 1074 - ((t : Int) - 1074 - (k' : Int))).toNat < ((t : Int) - 1074 - ((t : Int) - 1074 - ((k' + 1 : Nat) : Int))).toNat := by omega
                have hkl2 : k' < 2098 := by omega
                generalize hm1 : sg s (u * 2 ^ (k' + 1)) = m1 at *
                generalize hm2 : sg s (u * 2 ^ k') = m2 at *
                generalize hX : (t : Int) - 1074 - ((k' + 1 : Nat) : Int) = X at *
                replace hm := Lib.hid hm
                replace hm2 := Lib.hid hm2
                replace hk' := Lib.hid hk'
                clear hE hm1 hX hkl hk0 hk
                go_wp2_with fail
                go_roundw
                case rel => exact ⟨k', congrArg (Value.int IntKind.i64) (h4.trans hm2.out.symm), hk', congrArg (Value.int IntKind.i64) h5, hkl2, hb3⟩
                case measure => simp only [intOf, h5]; exact hm.out
          · rw [decide_eq_false hw] at hW
            have hs := small_lim hO2.out.small (show t2 + 1 ≤ un by omega)
            obtain ⟨c, hc, hmu⟩ := hO2.out.up (Nat.lt_trans hs lim_xt)
            replace hmu := @run_fmul Tryd.prog 40 _ _ _ hmu
            have e1 : wrap64 ((t : Int) - (t2 : Int) - 1) = (t : Int) - ((t2 + 1 : Nat) : Int) := by unfold wrap64; omega
            have hm : (1074 - ((t : Int) - ((t : Int) - ((t2 + 1 : Nat) : Int)))).toNat < (1074 - ((t : Int) - ((t : Int) - (t2 : Int)))).toNat := by have := un_eq; omega
            have ht3 : t2 + 1 < 2098 := by have := un_eq; omega
            generalize hX : (t : Int) - (t2 : Int) = X at *
            replace hm := Lib.hid hm
            replace hc := Lib.hid hc
            replace hs := Lib.hid hs
            clear hX hO2 hl2 hw ht2
            go_wp2_with fail
            refine hW.out.mono ?_
            rintro e w2 ⟨rfl, rfl⟩
            clear hW
            go_wp2_with fail
            go_roundw
            case rel => exact ⟨t2 + 1, c, rfl, hc, hs, ht3, congrArg (Value.int IntKind.i64) e1, hb2⟩
            case measure => simp only [intOf, e1]; exact hm.out
end Go.Proofs.YtcbckeoalmjcoaaDoor
