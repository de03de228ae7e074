/- Law 21: what works asks. -/
import Derived.Test.YtelmhcbdpimaaaaVert7
set_option linter.unusedVariables false
set_option linter.unusedSimpArgs false
namespace Go.Proofs.Ytelmhcbdpimaaaa
open Go.RowKit Go.Cw Go.Fl
attribute [local go_sem ↓] eql_id neq_id
abbrev z8 : List Nat := [0, 0, 0, 0, 0, 0, 0, 0]
abbrev w21 : Rp := ((1, 1), 1, [], [])
theorem w21a : putE 2 [] z8 w21 = 0 := by decide
theorem rp_id {y : Rc} {x : Rp} (h : rp y = x) : y.1 = x.1 := congrArg (fun z : Rp => z.1) h
theorem look_one {y : Rc} {b : Bool} {x : Rp} (h : rp y = x) : lookKp [(y, b)] x.1 = ((y, b), true) := by
  unfold lookKp
  rw [List.find?_cons_of_pos (by simpa using rp_id h)]
theorem w21b {y : Rc} (h : rp y = w21) : putE 2 [(y, false)] z8 w21 = 16 := by
  have h0 : recErr w21 = 0 := by decide
  have h1 : w21.1 ∈ kids [(y, false)] := by rw [← rp_id h]; simp [kids]
  unfold putE
  rw [if_neg (by simpa using h0), if_neg (by decide), if_pos h1, look_one h, h, recSame_refl, if_pos rfl]
theorem w21c {y : Rc} (h : rp y = w21) : stK [(y, false)] [] ((1, 1) : Id) = 1 := by
  unfold stK
  have := look_one (b := false) h
  rw [show w21.1 = ((1, 1) : Id) from rfl] at this
  rw [this]
  rfl
theorem w21d {y : Rc} (h : rp y = w21) : doneK ((1, 1) : Id) [(y, false)] = [(y, true)] := by
  have : y.1 = ((1, 1) : Id) := rp_id h
  simp [doneK, this]
theorem w21e : mayM ((1, 1) : Id) [] = true := by decide
theorem w21f : markL ((1, 1) : Id) [] = [(1, 1)] := by decide
theorem w21g {low : List Nat} {y : Rc} {b : Bool} (h : rp y = w21) (hf : ∀ r : Nat, r < 8 → FlP [((1, 1) : Id)] (r : Int) (low.getD r 0)) : keepK low [(y, b)] = [] ∧ low.getD 1 0 = 1 := by
  have hy : y.1 = ((1, 1) : Id) := rp_id h
  have h1 : low.getD 1 0 = 1 := FlP.one (hf 1 (by decide)) ⟨fun m h1 h2 => by
    obtain rfl : m = 1 := by omega
    simp, by simp⟩
  refine ⟨?_, h1⟩
  unfold keepK
  rw [List.filter_cons, if_neg (by
    simp only [hy, aboveL]
    rw [show ((1 : Int)).toNat = 1 from rfl, h1]
    decide)]
  rfl
theorem w21h {low : List Nat} (h : low.getD 1 0 = 1) : putE 2 [] low w21 = 14 := by
  unfold putE
  rw [if_neg (by decide), if_pos (by rw [show (w21.1.1).toNat = 1 from rfl, h]; decide)]
theorem w21i : stK [] [((1, 1) : Id)] ((1, 1) : Id) = 3 := by decide
theorem vsnew_two {w : World} {e : Ending} {w' : World} (h : VNewR 2 w e w') : ∃ p, e = .returned (.tuple #[vsP p, .int .i64 0]) ∧ St (snap w) [VsA p 2 [] [] z8] w' ∧ Env w w' := by
  rcases h with ⟨_, _, p, h1, h2, h3⟩ | ⟨h1, _⟩
  · exact ⟨p, h1, h2, h3⟩
  · omega
theorem vput_bad {H : Hp} {p : Nat} {room : Int} {K : List Kp} {M : List Id} {low : List Nat} {fr : List HA} {x : Rp} {w w' : World} {e : Ending} {E : Int} (h : VPut H p room K M low fr x w e w') (hE : putE room K low x = E) (hn : E ≠ 0) : e = .returned (.int .i64 E) ∧ Env w w' ∧ ∃ H', Hp.le H H' ∧ St H' (VsA p room K M low :: fr) w' := by
  obtain ⟨h1, h2, H', h3, h4⟩ := h
  rw [hE] at h1 h4
  rcases h4 with ⟨_, h5⟩ | ⟨h5, _⟩
  · exact ⟨h1, h2, H', h3, h5⟩
  · exact absurd h5 hn
theorem vput_ok {H : Hp} {p : Nat} {room : Int} {K : List Kp} {M : List Id} {low : List Nat} {fr : List HA} {x : Rp} {w w' : World} {e : Ending} (h : VPut H p room K M low fr x w e w') (hE : putE room K low x = 0) : e = .returned (.int .i64 0) ∧ Env w w' ∧ ∃ H' y, Hp.le H H' ∧ RcD H' y ∧ rp y = x ∧ St H' (VsA p room (K ++ [(y, false)]) M low :: fr) w' := by
  obtain ⟨h1, h2, H', h3, h4⟩ := h
  rw [hE] at h1 h4
  rcases h4 with ⟨h5, _⟩ | ⟨_, y, h6, h7, h8⟩
  · exact absurd rfl h5
  · exact ⟨h1, h2, H', y, h3, h6, h7, h8⟩
set_option maxRecDepth 100000 in
set_option maxHeartbeats 3200000 in
theorem works21 (w : World) : Calls Try.prog 39 #[] w fun e w' => e = .returned (.bool true) ∧ Below w.heap.size w w' := by
  go_enter Try.func39, Try.ntmps39
  go_wp2_with fail
  refine (vsNew_any 2 w).mono ?_
  rintro e w1 he
  obtain ⟨p, rfl, h1, en1⟩ := vsnew_two he
  clear he
  obtain ⟨H2, l2, h2, a⟩ := St.rcBox h1 ((1, 1), 1, .slice none 0 0, .slice none 0 0, [], [])
  have en2 := en1.alloc (.cells (rcA ((1, 1), 1, .slice none 0 0, .slice none 0 0, [], [])) 32)
  clear h1 en1
  change Env w (w1.alloc (.cells #[.int .i64 1, .int .i64 1, .int .i64 1, .slice none 0 0, .slice none 0 0] 32)) at en2
  change St H2 _ (w1.alloc (.cells #[.int .i64 1, .int .i64 1, .int .i64 1, .slice none 0 0, .slice none 0 0] 32)) at h2
  have hxd : ∀ H', RcD H' ((1, 1), 1, .slice none 0 0, .slice none 0 0, [], []) := fun H' => ⟨Rd.nil _ _, Rd.nil _ _, fun c hc => by simp at hc⟩
  have kA : ∀ (H' : Hp) (l : List HA) (w' : World), Hp.le H2 H' → St H' l w' → (w'.cell? ⟨w1.heap.size, 0, none⟩ = some (.int .i64 1) ∧ w'.cell? ⟨w1.heap.size, 1, none⟩ = some (.int .i64 1) ∧ w'.cell? ⟨w1.heap.size, 2, none⟩ = some (.int .i64 1) ∧ w'.cell? ⟨w1.heap.size, 3, none⟩ = some (.slice none 0 0) ∧ w'.cell? ⟨w1.heap.size, 4, none⟩ = some (.slice none 0 0) ∧ w1.heap.size < w'.heap.size) := fun H' l w' hl h => ⟨h.cell (a.mono hl).1, h.cell (a.mono hl).2.1, h.cell (a.mono hl).2.2.1, h.cell (a.mono hl).2.2.2.1, h.cell (a.mono hl).2.2.2.2, World.block_lt_of_cell? _ _ (h.cell (a.mono hl).1)⟩
  replace hxd := Lib.hid hxd
  replace kA := Lib.hid kA
  have hP1 := Lib.hid (vsPut_any p 2 [] [] z8 rfl _ H2 [] _ h2 ⟨by simp, by simp, by simp⟩ (hxd.out H2))
  obtain ⟨q0, q1, q2, q3, q4, ql⟩ := kA.out _ _ _ (Hp.le_refl _) h2
  go_wp2_with fail
  generalize w1.heap.size = gb at *
  refine hP1.out.mono ?_
  rintro e w3 he
  obtain ⟨rfl, en3, H3, y, l3, hyd, hyr, h3⟩ := vput_ok he w21a
  clear he hP1
  clear q0 q1 q2 q3 q4 ql
  replace en3 := en2.trans en3
  have hok3 : KpOk H3 ([] ++ [(y, false)]) := ⟨by simpa using hyd, by
    have e1 : y.2.2.2.2.1 = [] := congrArg (fun z : Rp => z.2.2.1) hyr
    have e2 : y.2.2.2.2.2 = [] := congrArg (fun z : Rp => z.2.2.2) hyr
    simp [e1, e2], by simp⟩
  have hP2 := Lib.hid (vsPut_any p 2 ([] ++ [(y, false)]) [] z8 rfl _ H3 [] _ h3 hok3 (hxd.out H3))
  replace hyr := Lib.hid hyr
  obtain ⟨q0, q1, q2, q3, q4, ql⟩ := kA.out _ _ _ (l3) h3
  go_wp2_with fail
  refine hP2.out.mono ?_
  rintro e w4 he
  obtain ⟨rfl, en4, H4, l4, h4⟩ := vput_bad he (w21b hyr.out) (by decide)
  clear he hP2
  clear q0 q1 q2 q3 q4 ql
  replace en4 := en3.trans en4
  have hDn := Lib.hid (vsDone_yes p 2 ([] ++ [(y, false)]) [] z8 ((1, 1) : Id) H4 [] _ h4 (hok3.mono l4) (w21c hyr.out))
  obtain ⟨q0, q1, q2, q3, q4, ql⟩ := kA.out _ _ _ (Hp.le_trans l3 l4) h4
  go_wp2_with fail
  refine hDn.out.mono ?_
  rw [w21e]
  rintro e w5 ⟨rfl, h5, en5⟩
  replace h5 : St H4 (VsA p 2 (doneK ((1, 1) : Id) [(y, false)]) (markL ((1, 1) : Id) []) z8 :: []) w5 := h5
  rw [w21d hyr.out, w21f] at h5
  clear hDn
  clear q0 q1 q2 q3 q4 ql
  replace en5 := en4.trans en5
  have hid : ∀ x ∈ [((y, true) : Kp)], idOk x.1.1 = true := by
    intro x hx
    rw [List.mem_singleton] at hx
    subst hx
    have : y.1 = ((1, 1) : Id) := rp_id hyr.out
    simp only [this]
    decide
  have hCm := Lib.hid (vsCompact_any p 2 [(y, true)] [((1, 1) : Id)] z8 rfl H4 [] w5 h5 (by simp) hid)
  replace hid := Lib.hid hid
  go_wp2_with fail
  refine hCm.out.mono ?_
  rintro e w6 ⟨low, hlow, hfl, rfl, h6, en6⟩
  obtain ⟨hk, hl1⟩ := w21g (b := true) hyr.out hfl
  rw [hk] at h6 ⊢
  clear hfl hCm
  replace en6 := en5.trans en6
  have hP3 := Lib.hid (vsPut_any p 2 [] [((1, 1) : Id)] low hlow _ H4 [] _ h6 ⟨by simp, by simp, by simp⟩ (hxd.out H4))
  replace hl1 := Lib.hid hl1
  obtain ⟨q0, q1, q2, q3, q4, ql⟩ := kA.out _ _ _ (Hp.le_trans l3 l4) h6
  go_wp2_with fail
  refine hP3.out.mono ?_
  rintro e w7 he
  obtain ⟨rfl, en7, H7, l7, h7⟩ := vput_bad he (w21h hl1.out) (by decide)
  clear he hP3
  clear q0 q1 q2 q3 q4 ql
  replace en7 := en6.trans en7
  have hFr := Lib.hid (vsFree_any p 2 (by decide) [] (by simp) [((1, 1) : Id)] low H7 [] w7 h7)
  go_wp2_with fail
  refine hFr.out.mono ?_
  rintro e w8 ⟨rfl, hb8⟩
  have h8 := h7.below hb8
  have en8 := en7.trans (bel_env hb8)
  clear hFr h7
  have hSt := Lib.hid (vsStatus_any p 2 [] [((1, 1) : Id)] low ((1, 1) : Id) H7 [] w8 h8 ⟨by simp, by simp, by simp⟩)
  obtain ⟨q0, q1, q2, q3, q4, ql⟩ := kA.out _ _ _ (Hp.le_trans l3 (Hp.le_trans l4 l7)) h8
  go_wp2_with fail
  refine hSt.out.mono ?_
  rintro e w9 ⟨rfl, hb9⟩
  rw [w21i]
  have h9 := h8.below hb9
  have en9 := en8.trans (bel_env hb9)
  clear q0 q1 q2 q3 q4 ql
  have hz := (h9.weaken (Hp.le_trans l2 (Hp.le_trans l3 (Hp.le_trans l4 l7)))).drop.toBelow en9
  go_wp2_with fail
  go_ret
  exact ⟨rfl, hz⟩
end Go.Proofs.Ytelmhcbdpimaaaa
