/- Joined texts: ReachWorks, CMut. -/
import Derived.Test.YtcbckeoalmjcoaaGreatCS11
import Derived.Test.YtcbckeoalmjcoaaGreatCS17
import Derived.Test.YtcbckeoalmjcoaaGreatCS24
/- Law 16: works. -/
set_option linter.unusedVariables false
set_option linter.unusedSimpArgs false
namespace Go.Proofs.YtcbckeoalmjcoaaGreat
open Go.RowKit Go.Cw Go.Fl
attribute [local go_sem ↓] eql_id neq_id
theorem recOf_gr {p : Nat} {L : List Rc} {H : Hp} (hg : GrOk H L) : RecOf (grP p) (GrA p L) (dpsR (L.map rp)) H := fun x H' fr w hl h => (grRecord_any p L x H' fr w h (hg.mono hl)).mono (by
  rintro e w' ⟨H2, y, l2, h2, en, he, hy, hr⟩
  exact ⟨H2, y, _, l2, h2, en, he, hy, by unfold dpsR; rw [← hr]⟩)
theorem dps16 {L : List Rc} {H : Hp} (hg : GrOk H L) (a : Id) : (dpsR (L.map rp) a).length ≤ 16 := (lookR_len hg a).1
theorem allU_bound {L : List Rc} {H : Hp} (hg : GrOk H L) (hL : L.length ≤ 1000) (f : List Id) (hf : f.length ≤ 1000) : (allU (L.map rp) f).length ≤ 100000 := by
  have := allU_len (L.map rp) f (fun x hx => by obtain ⟨y, hy, rfl⟩ := List.mem_map.1 hx; exact (hg.b y hy).1)
  rw [List.length_map] at this
  omega
def l16 : List Rp := [((0, 1), 1, [(0, 2)], []), ((0, 2), 1, [], []), ((0, 3), 1, [(0, 9)], [])]
theorem rch16a {a : Id} (h : Rch (dpsR l16) [(0, 1)] a) : a = (0, 1) ∨ a = (0, 2) := by
  refine h.closed (P := fun a => a = (0, 1) ∨ a = (0, 2)) (by simp) ?_
  rintro x (rfl | rfl) b hb
  · have : dpsR l16 (0, 1) = [(0, 2)] := by decide
    rw [this] at hb
    simp at hb
    exact .inr hb
  · have : dpsR l16 (0, 2) = [] := by decide
    rw [this] at hb
    cases hb
theorem rch16b {a : Id} (h : Rch (dpsR l16) [(0, 2)] a) : a = (0, 2) := by
  refine h.closed (P := fun a => a = (0, 2)) (by simp) ?_
  rintro x rfl b hb
  have : dpsR l16 (0, 2) = [] := by decide
  rw [this] at hb
  cases hb
theorem path16 : Rch (dpsR l16) [(0, 1)] (0, 2) := .step (.base (List.mem_singleton.2 rfl)) (by decide)
theorem clo16 (a : Id) : (a ∈ pids l16 ∧ Clo l16 a) ↔ (a = (0, 1) ∨ a = (0, 2)) := by
  constructor
  · rintro ⟨h1, h2⟩
    simp only [pids, l16, List.map_cons, List.map_nil, List.mem_cons, List.not_mem_nil, or_false] at h1
    rcases h1 with h1 | h1 | h1
    · exact .inl h1
    · exact .inr h1
    · subst h1
      have := h2 (0, 9) (.step (.base (List.mem_singleton.2 rfl)) (by decide))
      revert this
      decide
  · rintro (rfl | rfl)
    · refine ⟨by decide, fun b hb => ?_⟩
      rcases rch16a hb with rfl | rfl <;> decide
    · refine ⟨by decide, fun b hb => ?_⟩
      rw [rch16b hb]; decide
theorem closed16 {L : List Rc} (hm : L.map rp = l16) (hn : (rids L).Nodup) {C : List Id} (hr : Rises C) (h : ∀ a, a ∈ C ↔ (a ∈ rids L ∧ ¬ Opn L a)) : C = [(0, 1), (0, 2)] :=
  rises_eq hr (by unfold Rises; decide) (fun a => by
    rw [h]
    have e : (a ∈ rids L ∧ ¬ Opn L a) ↔ (a ∈ pids l16 ∧ Clo l16 a) := by
      rw [← hm, pids_rp]
      constructor
      · rintro ⟨h1, h2⟩
        refine ⟨h1, ?_⟩
        apply Classical.byContradiction
        intro h3
        exact h2 ((opn_iff hn h1).2 h3)
      · rintro ⟨h1, h2⟩
        exact ⟨h1, fun h3 => (opn_iff hn h1).1 h3 h2⟩
    rw [e, clo16]
    simp)
end Go.Proofs.YtcbckeoalmjcoaaGreat

/- comps.Mutual. -/
set_option linter.unusedVariables false
set_option linter.unusedSimpArgs false
namespace Go.Proofs.YtcbckeoalmjcoaaGreat
open Go.RowKit Go.Cw Go.Fl
attribute [local go_sem ↓] eql_id neq_id
open Classical in
set_option maxRecDepth 100000 in
set_option maxHeartbeats 8000000 in
theorem mutual_any (p : Nat) (L : List Rc) (a b : Id) (H : Hp) (fr : List HA) (w : World) (h : St H (GrA p L :: fr) w) (hg : GrOk H L) (hL : L.length ≤ 1000) :
    Calls Tryz.prog 18 #[grP p, idV a, idV b] w (AskR (decide (a ∈ rids L ∧ b ∈ rids L ∧ muD (L.map rp) a b)) (GrA p L) H fr w) := by
  obtain ⟨z, hz⟩ : ∃ z, Hid (z = decide (a ∈ rids L ∧ b ∈ rids L ∧ muD (L.map rp) a b)) := ⟨_, Lib.hid rfl⟩
  rw [← hz.out]
  have hfin : ∀ (H' : Hp) (w' : World), Hp.le H H' → St H' (GrA p L :: fr) w' → Env w w' → AskR z (GrA p L) H fr w (.returned (.bool z)) w' := fun H' w' h1 h2 h3 => ⟨H', rfl, h1, h2, h3⟩
  generalize AskR z (GrA p L) H fr w = Q at *
  replace hfin := Lib.hid hfin
  obtain ⟨a0, a1⟩ := a
  obtain ⟨b0, b1⟩ := b
  obtain ⟨H1, l1, h1, y1⟩ := h.box #[.int .i64 a0, .int .i64 a1] 41
  obtain ⟨H2, l2, h2, y2⟩ := h1.box #[.int .i64 b0, .int .i64 b1] 41
  have e1 : (w.alloc (.cells #[.int .i64 a0, .int .i64 a1] 41)).heap.size = w.heap.size + 1 := by simp
  rw [e1] at y2
  have ya0 : H2.cell w.heap.size 0 = some (.int .i64 a0) := Hp.cell_le l2 (y1 0 _ rfl)
  have ya1 : H2.cell w.heap.size 1 = some (.int .i64 a1) := Hp.cell_le l2 (y1 1 _ rfl)
  have yb0 : H2.cell (w.heap.size + 1) 0 = some (.int .i64 b0) := y2 0 _ rfl
  have yb1 : H2.cell (w.heap.size + 1) 1 = some (.int .i64 b1) := y2 1 _ rfl
  have en2 := ((Env.refl w).alloc (.cells #[.int .i64 a0, .int .i64 a1] 41)).alloc (.cells #[.int .i64 b0, .int .i64 b1] 41)
  have l12 := Hp.le_trans l1 l2
  have hHa := fun (w' : World) (a : Id) (h' : St H2 (GrA p L :: fr) w') => grHas_any p L a H2 fr w' (hg.mono l12).d h'
  have hP := fun (a b : Id) (Hc : Hp) (w' : World) (hl : Hp.le H2 Hc) (h' : St Hc (GrA p L :: fr) w') => path_any (some ⟨p, 0, none⟩) (GrA p L) (dpsR (L.map rp)) a b (allU (L.map rp) [a]) Hc fr w' h' (fun x hx => rch_allU hx) (allU_bound hg (by omega) _ (by simp)) (dps16 hg) (recOf_gr (hg.mono (Hp.le_trans l12 hl)))
  have kk : ∀ (H' : Hp) (l' : List HA) (w' : World), Hp.le H2 H' → St H' l' w' → w'.cell? ⟨w.heap.size, 0, none⟩ = some (.int .i64 a0) ∧ w'.cell? ⟨w.heap.size, 1, none⟩ = some (.int .i64 a1) ∧ w'.cell? ⟨w.heap.size + 1, 0, none⟩ = some (.int .i64 b0) ∧ w'.cell? ⟨w.heap.size + 1, 1, none⟩ = some (.int .i64 b1) ∧ w.heap.size < w'.heap.size ∧ w.heap.size + 1 < w'.heap.size := fun H' l' w' hl h' => ⟨h'.cell (Hp.cell_le hl ya0), h'.cell (Hp.cell_le hl ya1), h'.cell (Hp.cell_le hl yb0), h'.cell (Hp.cell_le hl yb1), World.block_lt_of_cell? _ _ (h'.cell (Hp.cell_le hl ya0)), World.block_lt_of_cell? _ _ (h'.cell (Hp.cell_le hl yb0))⟩
  obtain ⟨c0, c1, c2, c3, c4, c5⟩ := kk _ _ _ (Hp.le_refl _) h2
  have hHa1 := Lib.hid (hHa _ (a0, a1) h2)
  replace hHa := Lib.hid hHa
  replace hP := Lib.hid hP
  replace kk := Lib.hid kk
  clear y1 y2 h1 h ya0 ya1 yb0 yb1
  go_enter Tryz.func18, Tryz.ntmps18
  go_wp2_with fail
  generalize (w.alloc (.cells #[.int .i64 a0, .int .i64 a1] 41)).alloc (.cells #[.int .i64 b0, .int .i64 b1] 41) = W at *
  generalize w.heap.size = ga at *
  refine hHa1.out.mono ?_
  rintro e w3 ⟨rfl, hb3⟩
  have h3 := h2.below hb3
  have en3 := en2.trans (bel_env hb3)
  obtain ⟨d0, d1, d2, d3, d4, d5⟩ := kk.out _ _ _ (Hp.le_refl _) h3
  clear c0 c1 c2 c3 c4 c5 hHa1 h2 en2 hb3
  by_cases ha : (a0, a1) ∈ rids L
  · rw [decide_eq_true ha]
    have hHb := Lib.hid (hHa.out _ (b0, b1) h3)
    go_wp2_with fail
    refine hHb.out.mono ?_
    rintro e w4 ⟨rfl, hb4⟩
    have h4 := h3.below hb4
    have en4 := en3.trans (bel_env hb4)
    obtain ⟨c0, c1, c2, c3, c4, c5⟩ := kk.out _ _ _ (Hp.le_refl _) h4
    clear d0 d1 d2 d3 d4 d5 hHb h3 en3 hb4
    by_cases hb : (b0, b1) ∈ rids L
    · rw [decide_eq_true hb]
      have hP1 := Lib.hid (hP.out (a0, a1) (b0, b1) H2 _ (Hp.le_refl _) h4)
      go_wp2_with fail
      refine hP1.out.mono ?_
      rintro e w5 ⟨H5, rfl, l5, h5, en5⟩
      replace en5 := en4.trans en5
      obtain ⟨d0, d1, d2, d3, d4, d5⟩ := kk.out _ _ _ l5 h5
      clear c0 c1 c2 c3 c4 c5 hP1 h4 en4
      by_cases h1 : Rch (dpsR (L.map rp)) [(a0, a1)] (b0, b1)
      · rw [decide_eq_true h1]
        have hP2 := Lib.hid (hP.out (b0, b1) (a0, a1) H5 _ l5 h5)
        go_wp2_with fail
        refine hP2.out.mono ?_
        rintro e w6 ⟨H6, rfl, l6, h6, en6⟩
        replace en6 := en5.trans en6
        have hzz : z = decide (Rch (dpsR (L.map rp)) [(b0, b1)] (a0, a1)) := by
          rw [hz.out]
          by_cases h2 : Rch (dpsR (L.map rp)) [(b0, b1)] (a0, a1)
          · rw [decide_eq_true h2, decide_eq_true ⟨ha, hb, h1, h2⟩]
          · rw [decide_eq_false h2, decide_eq_false (fun h => h2 h.2.2.2)]
        rw [← hzz]
        have hq := Lib.hid (hfin.out H6 _ (Hp.le_trans l12 (Hp.le_trans l5 l6)) h6 en6)
        clear hfin d0 d1 d2 d3 d4 d5 hP2 hz ha hb h1 hzz
        go_wp2_with fail
        exact hq.out
      · have hzz : z = false := by rw [hz.out, decide_eq_false (fun h => h1 h.2.2.1)]
        rw [decide_eq_false h1]
        have hq := Lib.hid (hfin.out H5 _ (Hp.le_trans l12 l5) h5 en5)
        rw [hzz] at hq
        clear hfin hz ha hb h1 d0 d1 d2 d3 d4 d5
        go_wp2_with fail
        exact hq.out
    · have hzz : z = false := by rw [hz.out, decide_eq_false (fun h => hb h.2.1)]
      rw [decide_eq_false hb]
      have hq := Lib.hid (hfin.out H2 _ l12 h4 en4)
      rw [hzz] at hq
      clear hfin hz ha hb c0 c1 c2 c3 c4 c5
      go_wp2_with fail
      exact hq.out
  · have hzz : z = false := by rw [hz.out, decide_eq_false (fun h => ha h.1)]
    rw [decide_eq_false ha]
    have hq := Lib.hid (hfin.out H2 _ l12 h3 en3)
    rw [hzz] at hq
    clear hfin hz ha d0 d1 d2 d3 d4 d5
    go_wp2_with fail
    exact hq.out
end Go.Proofs.YtcbckeoalmjcoaaGreat
