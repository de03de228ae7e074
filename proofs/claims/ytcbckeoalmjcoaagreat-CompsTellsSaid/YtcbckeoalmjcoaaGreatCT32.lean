/- Joined texts: CTells. -/
import Derived.Test.YtcbckeoalmjcoaaGreatCT26
import Derived.Test.YtcbckeoalmjcoaaGreatCT30
import Derived.Test.YtcbckeoalmjcoaaGreatCT31
/- Law 17: CompsTells. -/
set_option linter.unusedVariables false
set_option linter.unusedSimpArgs false
namespace Go.Proofs.YtcbckeoalmjcoaaGreat
open Go.RowKit Go.Cw Go.Fl
attribute [local go_sem ↓] eql_id neq_id
open Classical in
set_option maxRecDepth 100000 in
set_option maxHeartbeats 40000000 in
theorem compsTells_any (u : Value) (l : List Rc) (w : World) (hx : Rw w 5 u (recs l)) (hl : ∀ x ∈ l, RcR w x) :
    Calls Tryz.prog 3 #[u] w fun e w' => e = .returned (.bool true) ∧ Below w.heap.size w w' := by
  obtain ⟨A, n, c, rfl, hn, hnc, hc⟩ := hx.form
  rw [recs_len] at hn
  obtain rfl : n = l.length := by omega
  clear hn
  have hrd := hx.rd
  have hld : Hid (∀ x ∈ l, RcD (snap w) x) := Lib.hid (fun x hm => ⟨(hl x hm).d.rd, (hl x hm).b.rd, (hl x hm).ok⟩)
  obtain ⟨H1, hH1⟩ : ∃ H1, H1 = snap w := ⟨_, rfl⟩
  have h1 : St H1 [] w := by rw [hH1]; exact St.start w
  have l1 : Hp.le (snap w) H1 := by rw [hH1]; exact Hp.le_refl _
  have en1 := Env.refl w
  have hFew := few15_any (.slice A l.length c) l 14 _ ((hrd.mono l1).rw h1) (fun x hm => ((hld.out x hm).mono l1).rw h1)
  obtain ⟨B, hB⟩ : ∃ B, (fewR l && decide ((l.length : Int) ≤ 14)) = B := ⟨_, rfl⟩
  rw [hB] at hFew
  replace hFew := Lib.hid hFew
  have hck := Lib.hid (fun (w' : World) (h' : St H1 [] w') => refGr_any (.slice A l.length c) l w' ((hrd.mono l1).rw h') (fun x hm => ((hld.out x hm).mono l1).rw h'))
  clear hx hl hH1
  have hwk : ∀ (H' : Hp) (l' : List HA) (w' w'' : World), Hp.le (snap w) H' → St H' l' w' → Env w w' → Below w'.heap.size w' w'' → Hid (Below w.heap.size w w'') := fun H' l' w' w'' hl h en hb => Lib.hid ((h.weaken hl |>.below hb).toBelow (en.trans (bel_env hb)))
  go_enter Tryz.func3, Tryz.ntmps3
  go_wp2_with fail
  refine hFew.out.mono ?_
  rintro e w2 ⟨rfl, hb2⟩
  have h2 := h1.below hb2
  have en2 := en1.trans (bel_env hb2)
  clear hFew
  have work : ∀ (H' : Hp) (w' : World), Hp.le (snap w) H' → St H' [] w' → Env w w' → Calls Tryz.prog 10 #[] w' fun e w'' => e = .returned (.bool true) ∧ Hid (Below w.heap.size w w'') := fun H' w' hl h' en => (works17 w').mono (by
    rintro e w'' ⟨rfl, hb⟩
    exact ⟨rfl, hwk H' [] w' w'' hl h' en hb⟩)
  replace work := Lib.hid work
  cases B with
  | false =>
    go_wp2_with fail
    refine (work.out H1 _ l1 h2 en2).mono ?_
    rintro e w3 ⟨rfl, hz⟩
    go_wp2_with fail
    go_ret
    exact ⟨rfl, hz.out⟩
  | true =>
    have hl20 : l.length ≤ 14 := by
      rw [Bool.and_eq_true, decide_eq_true_eq] at hB
      omega
    go_wp2_with fail
    refine (hck.out _ h2).mono ?_
    rintro e w3 ⟨rfl, hb3⟩
    have h3 := h2.below hb3
    have en3 := en2.trans (bel_env hb3)
    by_cases hE : gErr [] (l.map rp) = 0
    · have hok : ∀ x ∈ l, recErr (rp x) = 0 := fun x hm => gErr_zero _ _ hE (rp x) (List.mem_map.2 ⟨x, hm, rfl⟩)
      have hl16 : ∀ x ∈ l, x.2.2.2.2.1.length ≤ 16 := fun x hm => (recErr_len _ (hok x hm)).1
      have hN := Lib.hid ((newGr_any (.slice A l.length c) l w3 ((hrd.mono l1).rw h3) (fun x hm => ((hld.out x hm).mono l1).rw h3) (by omega)).mono (fun e w' h => NewR.ok h (by rw [List.length_map]; omega)))
      rw [hE]
      go_wp2_with fail
      refine hN.out.mono ?_
      rintro e w4 (⟨_, p, L, H, hle, h4, hg, hLm, en4, rfl⟩ | ⟨hno, _⟩)
      case inr => exact absurd hE hno
      have hlen : L.length = l.length := by have := congrArg List.length hLm; simpa using this
      have l1H : Hp.le H1 H := Hp.le_trans (fun k o hk => h3.imm k o hk) hle
      replace en4 := en3.trans en4
      have l0H := Hp.le_trans l1 l1H
      have hrd2 := hrd.mono l0H
      have hldH : Hid (∀ x ∈ l, RcD H x) := Lib.hid (fun x hm => (hld.out x hm).mono l0H)
      have hCo := comps_any p L H [] w4 h4 hg (by omega)
      have hRO := fun (Hc : Hp) (fr : List HA) (w' : World) (hl : Hp.le H Hc) (h' : St Hc fr w') => refOf_any (.slice A l.length c) l Hc fr w' h' (hrd2.mono hl) (fun x hm => (hldH.out x hm).mono hl) hl16 (by omega)
      replace hCo := Lib.hid hCo
      replace hRO := Lib.hid hRO
      clear hN hck hld hrd h3 en3 hb3 hb2 h2 en2 hE hok hB h1 en1
      go_wp2_with fail
      refine hCo.out.mono ?_
      rintro e w5 ⟨cv, X, H5, rfl, l5, h5, en5, hX, hco⟩
      rw [hLm] at hco
      obtain ⟨cv1, cv2, cv3, rfl, hcv, _⟩ := h5.row_form
      rw [vals_len] at hcv
      obtain rfl : cv2 = X.length := by omega
      obtain ⟨H6, l6, h6, hXr⟩ := h5.row_keep
      replace h6 := h6.drop
      replace en5 := en4.trans en5
      have hX6 := Lib.hid (hX.mono l6)
      have l56 := Hp.le_trans l5 l6
      replace hco := Lib.hid hco
      clear hCo h5 en4 h4 hX hcv
      go_wp2_with fail
      refine (hRO.out H6 _ w5 l56 h6).mono ?_
      rintro e w6 ⟨rv, Y, H7, rfl, l7, h7, en7, hY, hcy⟩
      obtain ⟨rv1, rv2, rv3, rfl, _⟩ := h7.row_form
      obtain ⟨H8, l8, h8, hYr⟩ := h7.row_keep
      replace en7 := en5.trans en7
      have l78 := Hp.le_trans l7 l8
      have hEq : lists X = lists Y := compsOf_eq hco.out hcy
      have hSa := Lib.hid (ref17Same_any (.slice cv1 X.length cv3) (.slice rv1 rv2 rv3) X Y w6 ⟨(hXr.mono l78).rw h8, fun x hx => ((hX6.out x hx).mono l78).rw h8⟩ ⟨hYr.rw h8, fun x hx => ((hY x hx).mono l8).rw h8⟩)
      clear hRO h6 h7 en5
      go_wp2_with fail
      refine hSa.out.mono ?_
      rintro e w7 ⟨rfl, hb7⟩
      rw [decide_eq_true hEq]
      have h9 := h8.below hb7
      have en9 := en7.trans (bel_env hb7)
      have hNi := Lib.hid (comps_nil w7)
      clear hSa h8 en7 hb7 hEq
      go_wp2_with fail
      refine hNi.out.mono ?_
      rintro e w8 ⟨rfl, hb8⟩
      have h10 := h9.below hb8
      have en10 := en9.trans (bel_env hb8)
      have hw := Lib.hid (work.out H8 w8 (Hp.le_trans l0H (Hp.le_trans l56 l78)) h10 en10)
      clear hNi h9 en9 hb8
      go_wp2_with fail
      refine hw.out.mono ?_
      rintro e w9 ⟨rfl, hz⟩
      go_wp2_with fail
      go_ret
      exact ⟨rfl, hz.out⟩
    · have hne : (gErr [] (l.map rp) != 0) = true := by simpa using hE
      generalize gErr [] (l.map rp) = E at *
      go_wp2_with fail
      refine (work.out H1 _ l1 h3 en3).mono ?_
      rintro e w4 ⟨rfl, hz⟩
      go_wp2_with fail
      go_ret
      exact ⟨rfl, hz.out⟩
end Go.Proofs.YtcbckeoalmjcoaaGreat
