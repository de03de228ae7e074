/- Law 16: works. -/
import Derived.Test.YtelmhcbdpimaaaaRefReach
import Derived.Test.YtelmhcbdpimaaaaFew
set_option linter.unusedVariables false
set_option linter.unusedSimpArgs false
namespace Go.Proofs.Ytelmhcbdpimaaaa
open Go.RowKit Go.Cw Go.Fl
attribute [local go_sem ↓] eql_id neq_id
theorem recOf_gr {p : Nat} {L : List Rc} {H : Hp} (hg : GrOk H L) : RecOf (grP p) (GrA p L) (dpsR (L.map rp)) H := fun x H' fr w hl h => (grRecord_any p L x H' fr w h (hg.mono hl)).mono (by
  rintro e w' ⟨H2, y, l2, h2, en, he, hy, hr⟩
  exact ⟨H2, y, _, l2, h2, en, he, hy, by unfold dpsR; rw [← hr]⟩)
theorem dps16 {L : List Rc} {H : Hp} (hg : GrOk H L) (a : Id) : (dpsR (L.map rp) a).length ≤ 16 := (lookR_len hg a).1
theorem allU_bound {L : List Rc} {H : Hp} (hg : GrOk H L) (hL : L.length ≤ 1000) (f : List Id) (hf : f.length ≤ 1000) : (allU (L.map rp) f).length ≤ 100000 := by
  have := allU_len (L.map rp) f (fun x hx => by obtain ⟨y, hy, rfl⟩ := List.mem_map.1 hx; exact (hg.b y hy).1)
  rw [List.length_map] at this
  omega
def l16 : List Rp := [((0, 1), 1, [(0, 2)], []), ((0, 2), 1, [], []), ((0, 3), 1, [(0, 9)], [])]
theorem rch16a {a : Id} (h : Rch (dpsR l16) [(0, 1)] a) : a = (0, 1) ∨ a = (0, 2) := by
  refine h.closed (P := fun a => a = (0, 1) ∨ a = (0, 2)) (by simp) ?_
  rintro x (rfl | rfl) b hb
  · have : dpsR l16 (0, 1) = [(0, 2)] := by decide
    rw [this] at hb
    simp at hb
    exact .inr hb
  · have : dpsR l16 (0, 2) = [] := by decide
    rw [this] at hb
    cases hb
theorem rch16b {a : Id} (h : Rch (dpsR l16) [(0, 2)] a) : a = (0, 2) := by
  refine h.closed (P := fun a => a = (0, 2)) (by simp) ?_
  rintro x rfl b hb
  have : dpsR l16 (0, 2) = [] := by decide
  rw [this] at hb
  cases hb
theorem path16 : Rch (dpsR l16) [(0, 1)] (0, 2) := .step (.base (List.mem_singleton.2 rfl)) (by decide)
theorem clo16 (a : Id) : (a ∈ pids l16 ∧ Clo l16 a) ↔ (a = (0, 1) ∨ a = (0, 2)) := by
  constructor
  · rintro ⟨h1, h2⟩
    simp only [pids, l16, List.map_cons, List.map_nil, List.mem_cons, List.not_mem_nil, or_false] at h1
    rcases h1 with h1 | h1 | h1
    · exact .inl h1
    · exact .inr h1
    · subst h1
      have := h2 (0, 9) (.step (.base (List.mem_singleton.2 rfl)) (by decide))
      revert this
      decide
  · rintro (rfl | rfl)
    · refine ⟨by decide, fun b hb => ?_⟩
      rcases rch16a hb with rfl | rfl <;> decide
    · refine ⟨by decide, fun b hb => ?_⟩
      rw [rch16b hb]; decide
theorem closed16 {L : List Rc} (hm : L.map rp = l16) (hn : (rids L).Nodup) {C : List Id} (hr : Rises C) (h : ∀ a, a ∈ C ↔ (a ∈ rids L ∧ ¬ Opn L a)) : C = [(0, 1), (0, 2)] :=
  rises_eq hr (by unfold Rises; decide) (fun a => by
    rw [h]
    have e : (a ∈ rids L ∧ ¬ Opn L a) ↔ (a ∈ pids l16 ∧ Clo l16 a) := by
      rw [← hm, pids_rp]
      constructor
      · rintro ⟨h1, h2⟩
        refine ⟨h1, ?_⟩
        apply Classical.byContradiction
        intro h3
        exact h2 ((opn_iff hn h1).2 h3)
      · rintro ⟨h1, h2⟩
        exact ⟨h1, fun h3 => (opn_iff hn h1).1 h3 h2⟩
    rw [e, clo16]
    simp)
open Classical in
set_option maxRecDepth 100000 in
set_option maxHeartbeats 8000000 in
theorem works16 (w : World) : Calls Try.prog 30 #[] w fun e w' => e = .returned (.bool true) ∧ Below w.heap.size w w' := by
  obtain ⟨H1, l1, h1, y1⟩ := (St.start w).box #[.int .i64 0, .int .i64 1] 28
  obtain ⟨H2, l2, h2, y2⟩ := h1.box #[.int .i64 0, .int .i64 2] 28
  obtain ⟨H3, l3, h3, y3⟩ := h2.box #[.int .i64 0, .int .i64 3] 28
  rw [World.size_alloc] at y2 y3
  rw [World.size_alloc] at y3
  have a0 := Hp.cell_le l3 (Hp.cell_le l2 (y1 0 _ rfl))
  have a1 := Hp.cell_le l3 (Hp.cell_le l2 (y1 1 _ rfl))
  have b0 := Hp.cell_le l3 (y2 0 _ rfl)
  have b1 := Hp.cell_le l3 (y2 1 _ rfl)
  have c0 := y3 0 _ rfl
  have c1 := y3 1 _ rfl
  have en3 := ((((Env.refl w).alloc (.cells #[.int .i64 0, .int .i64 1] 28)).alloc (.cells #[.int .i64 0, .int .i64 2] 28)).alloc (.cells #[.int .i64 0, .int .i64 3] 28))
  have l13 := Hp.le_trans l1 (Hp.le_trans l2 l3)
  clear y1 y2 y3 h1 h2
  have h4 := h3.row_lit 28 2 1 #[.int .i64 0, .int .i64 2] rfl (by decide)
  obtain ⟨H4, l4, h5, r4⟩ := h4.row_keep
  have h6 := h5.row_lit 28 2 1 #[.int .i64 0, .int .i64 9] rfl (by decide)
  obtain ⟨H5, l5, h7, r5⟩ := h6.row_keep
  replace r4 := r4.mono l5
  have e0 : (((w.alloc (.cells #[.int .i64 0, .int .i64 1] 28)).alloc (.cells #[.int .i64 0, .int .i64 2] 28)).alloc (.cells #[.int .i64 0, .int .i64 3] 28)).heap.size = w.heap.size + 1 + 1 + 1 := by simp
  rw [World.size_alloc] at r5
  rw [e0] at r4 r5
  have h8 := h7.row_lit 32 5 3 #[.int .i64 0, .int .i64 1, .int .i64 1, .slice (some ⟨w.heap.size + 1 + 1 + 1, 0, none⟩) 1 1, .slice none 0 0, .int .i64 0, .int .i64 2, .int .i64 1, .slice none 0 0, .slice none 0 0, .int .i64 0, .int .i64 3, .int .i64 1, .slice (some ⟨w.heap.size + 1 + 1 + 1 + 1, 0, none⟩) 1 1, .slice none 0 0] rfl (by decide)
  have en8 := ((en3.alloc (.cells #[.int .i64 0, .int .i64 2] 28)).alloc (.cells #[.int .i64 0, .int .i64 9] 28)).alloc (.cells #[.int .i64 0, .int .i64 1, .int .i64 1, .slice (some ⟨w.heap.size + 1 + 1 + 1, 0, none⟩) 1 1, .slice none 0 0, .int .i64 0, .int .i64 2, .int .i64 1, .slice none 0 0, .slice none 0 0, .int .i64 0, .int .i64 3, .int .i64 1, .slice (some ⟨w.heap.size + 1 + 1 + 1 + 1, 0, none⟩) 1 1, .slice none 0 0] 32)
  rw [World.size_alloc, World.size_alloc, e0] at h8
  have hN := newGr_any (.slice (some ⟨w.heap.size + 1 + 1 + 1 + 1 + 1, 0, none⟩) 3 3) [((0, 1), 1, .slice (some ⟨w.heap.size + 1 + 1 + 1, 0, none⟩) 1 1, .slice none 0 0, [(0, 2)], []), ((0, 2), 1, .slice none 0 0, .slice none 0 0, [], []), ((0, 3), 1, .slice (some ⟨w.heap.size + 1 + 1 + 1 + 1, 0, none⟩) 1 1, .slice none 0 0, [(0, 9)], [])] _ (h8.row_rw (by omega)) (fun x hx => by
    simp only [List.mem_cons, List.not_mem_nil, or_false] at hx
    rcases hx with rfl | rfl | rfl
    · exact ⟨r4.rw h8, Rw.nil _ _, fun c hc => by simp at hc⟩
    · exact ⟨Rw.nil _ _, Rw.nil _ _, fun c hc => by simp at hc⟩
    · exact ⟨r5.rw h8, Rw.nil _ _, fun c hc => by simp at hc⟩) (by simp)
  have hN2 := hN.mono (fun e w' h => NewR.ok h (by simp))
  replace hN2 := Lib.hid hN2
  have l15 := Hp.le_trans l13 (Hp.le_trans l4 l5)
  replace a0 := Hp.cell_le (Hp.le_trans l4 l5) a0
  replace a1 := Hp.cell_le (Hp.le_trans l4 l5) a1
  replace b0 := Hp.cell_le (Hp.le_trans l4 l5) b0
  replace b1 := Hp.cell_le (Hp.le_trans l4 l5) b1
  replace c0 := Hp.cell_le (Hp.le_trans l4 l5) c0
  replace c1 := Hp.cell_le (Hp.le_trans l4 l5) c1
  replace h8 := h8.drop
  clear h3 h4 h5 h6 h7 e0 r4 r5 hN en3 l13
  go_enter Try.func30, Try.ntmps30
  go_wp2_with fail
  refine hN2.out.mono ?_
  rintro e w4 (⟨_, p, L, H, hle, h9, hg, hLm, en4, rfl⟩ | ⟨hno, _⟩)
  case inr => exact absurd rfl hno
  replace hLm : L.map rp = l16 := hLm
  have hlen : L.length = 3 := by have := congrArg List.length hLm; simpa [l16] using this
  have hle5 : Hp.le H5 H := Hp.le_trans (fun k o hk => h8.imm k o hk) hle
  replace a0 := Hp.cell_le hle5 a0
  replace a1 := Hp.cell_le hle5 a1
  replace b0 := Hp.cell_le hle5 b0
  replace b1 := Hp.cell_le hle5 b1
  have l0H := Hp.le_trans l15 hle5
  replace en4 := en8.trans en4
  have hnd := gr_nodup h9
  have kk : ∀ (Hc : Hp) (l' : List HA) (w' : World), Hp.le H Hc → St Hc l' w' → (fun w' : World => w'.cell? ⟨w.heap.size, 0, none⟩ = some (.int .i64 0) ∧ w'.cell? ⟨w.heap.size, 1, none⟩ = some (.int .i64 1) ∧ w'.cell? ⟨w.heap.size + 1, 0, none⟩ = some (.int .i64 0) ∧ w'.cell? ⟨w.heap.size + 1, 1, none⟩ = some (.int .i64 2)) w' := fun Hc l' w' hl h => ⟨h.cell (Hp.cell_le hl a0), h.cell (Hp.cell_le hl a1), h.cell (Hp.cell_le hl b0), h.cell (Hp.cell_le hl b1)⟩
  have gl := World.block_lt_of_cell? _ _ (h9.cell a0)
  have gl1 := World.block_lt_of_cell? _ _ (h9.cell b0)
  simp only at gl gl1
  have hCl := fun (Hc : Hp) (w' : World) (hl : Hp.le H Hc) (h' : St Hc [GrA p L] w') => (closed_any p L Hc [] w' h' (hg.mono hl) (by omega)).mono (R' := fun e w'' => ∃ v H', e = .returned v ∧ Hp.le Hc H' ∧ St H' [Row 28 2 v (idl [(0, 1), (0, 2)]), GrA p L] w'' ∧ Env w' w'') (by
    rintro e w'' ⟨v, C, H', rfl, l', h2, en, hr, hm⟩
    rw [closed16 hLm hnd hr hm] at h2
    exact ⟨v, H', rfl, l', h2, en⟩)
  have hP1 := fun (Hc : Hp) (w' : World) (hl : Hp.le H Hc) (h' : St Hc [GrA p L] w') => path_any (some ⟨p, 0, none⟩) (GrA p L) (dpsR (L.map rp)) (0, 1) (0, 2) (allU (L.map rp) [(0, 1)]) Hc [] w' h' (fun x hx => rch_allU hx) (allU_bound hg (by omega) _ (by simp)) (dps16 hg) (recOf_gr (hg.mono hl))
  have hP2 := fun (Hc : Hp) (w' : World) (hl : Hp.le H Hc) (h' : St Hc [GrA p L] w') => path_any (some ⟨p, 0, none⟩) (GrA p L) (dpsR (L.map rp)) (0, 2) (0, 1) (allU (L.map rp) [(0, 2)]) Hc [] w' h' (fun x hx => rch_allU hx) (allU_bound hg (by omega) _ (by simp)) (dps16 hg) (recOf_gr (hg.mono hl))
  have hWh := fun (Hc : Hp) (w' : World) (sv : Value) (hl : Hp.le H Hc) (h' : St Hc [GrA p L] w') (hs : Rd Hc 2 sv (idl [(0, 2)])) => whole_any (some ⟨p, 0, none⟩) (GrA p L) (dpsR (L.map rp)) [(0, 2)] (fun a => decide (a ∈ rids L)) (allU (L.map rp) [(0, 2)]) sv Hc [] w' h' (fun x hx => rch_allU hx) (allU_bound hg (by omega) _ (by simp)) (by simp) (dps16 hg) (recOf_gr (hg.mono hl)) hs (fun x H' fr w hl2 h => grHas_any p L x H' fr w (fun y hy => ((hg.mono hl).mono hl2).d y hy) h)
  rw [hLm] at hP1 hP2 hWh
  rw [decide_eq_true path16] at hP1
  rw [decide_eq_false (fun h => by have := rch16b h; revert this; decide)] at hP2
  rw [decide_eq_true (fun a h => by
    rw [rch16b h]
    refine ⟨decide_eq_true ?_, by simp⟩
    rw [← pids_rp, hLm]
    decide)] at hWh
  replace hCl := Lib.hid hCl
  replace hP1 := Lib.hid hP1
  replace hP2 := Lib.hid hP2
  replace hWh := Lib.hid hWh
  have hfin : ∀ (H' : Hp) (l' : List HA) (w' : World), Hp.le H H' → St H' l' w' → Env w4 w' → Hid (Below w.heap.size w w') := fun H' l' w' hl h en => Lib.hid ((h.weaken (Hp.le_trans l0H hl)).toBelow (en4.trans en))
  clear hN2 h8 en8 a0 a1 b0 b1 c0 c1 hnd
  go_wp2_with fail
  generalize hg0 : w.heap.size = g0 at *
  have hst := h9.drew
  have en5 := (Env.refl w4).drew
  have lc := Hp.le_refl H
  refine wp_region_held_drew (S := (fun w' : World => w'.cell? ⟨g0, 0, none⟩ = some (.int .i64 0) ∧ w'.cell? ⟨g0, 1, none⟩ = some (.int .i64 1) ∧ w'.cell? ⟨g0 + 1, 0, none⟩ = some (.int .i64 0) ∧ w'.cell? ⟨g0 + 1, 1, none⟩ = some (.int .i64 2))) (by kernel_rfl) (kk _ _ _ lc hst) (fun hHeld => ?_)
  refine wpAnyH_take (i := 0) (oi := { dst := some 24, op := Go.Op.move (Go.Operand.tmp 5), type := 34, pos := "law.go:17", after := #[], guard := none }) (v := ?_) rfl (by kernel_rfl) (by kernel_rfl) (by kernel_rfl) (fun _ _ _ h => h) (Or.inl ⟨by rfl, ?_⟩) (by assumption) ?_
  rotate_left
  · (intro w hSw; (try dsimp only at hSw); go_simp; (try (with_reducible rfl)))
  try simp only [Act.put, List.setIfInBounds_toArray, List.set_cons_zero, List.set_cons_succ]
  refine wpAnyH_take (i := 1) (oi := { dst := some 25, op := Go.Op.binOp Go.BinOp.eql 34 (Go.Operand.tmp 24) (Go.Operand.const (Go.Value.int Go.IntKind.i64 0)) 34, type := 4, pos := "law.go:17", after := #[{ on := 0, ground := Go.Ground.data }], guard := none }) (v := ?_) rfl (by kernel_rfl) (by kernel_rfl) (by kernel_rfl) (fun _ _ _ h => h) (Or.inl ⟨by rfl, ?_⟩) (by assumption) ?_
  rotate_left
  · (intro w hSw; (try dsimp only at hSw); go_simp; (try (with_reducible rfl)))
  try simp only [Act.put, List.setIfInBounds_toArray, List.set_cons_zero, List.set_cons_succ]
  refine wpAnyH_take (i := 2) (oi := { dst := some 26, op := Go.Op.move (Go.Operand.tmp 25), type := 4, pos := "law.go:17", after := #[{ on := 1, ground := Go.Ground.data }], guard := none }) (v := ?_) rfl (by kernel_rfl) (by kernel_rfl) (by kernel_rfl) (fun _ _ _ h => h) (Or.inl ⟨by rfl, ?_⟩) (by assumption) ?_
  rotate_left
  · (intro w hSw; (try dsimp only at hSw); go_simp; (try (with_reducible rfl)))
  try simp only [Act.put, List.setIfInBounds_toArray, List.set_cons_zero, List.set_cons_succ]
  refine wpAnyH_take (i := 3) (oi := { dst := some 27, op := Go.Op.move (Go.Operand.tmp 4), type := 33, pos := "law.go:17", after := #[{ on := 2, ground := Go.Ground.guard }], guard := some (2, true) }) (v := ?_) rfl (by kernel_rfl) (by kernel_rfl) (by kernel_rfl) (fun _ _ _ h => h) (Or.inl ⟨by rfl, ?_⟩) (by assumption) ?_
  rotate_left
  · (intro w hSw; (try dsimp only at hSw); go_simp; (try (with_reducible rfl)))
  try simp only [Act.put, List.setIfInBounds_toArray, List.set_cons_zero, List.set_cons_succ]
  refine wpAnyH_take (i := 5) (oi := { dst := some 29, op := Go.Op.load 28 (Go.Operand.tmp 1), type := 28, pos := "law.go:17", after := #[{ on := 2, ground := Go.Ground.guard }], guard := some (2, true) }) (v := ?_) rfl (by kernel_rfl) (by kernel_rfl) (by kernel_rfl) (fun _ _ _ h => h) (Or.inl ⟨by rfl, ?_⟩) (by assumption) ?_
  rotate_left
  · (intro w hSw; (try dsimp only at hSw); go_simp; (try (with_reducible rfl)))
  try simp only [Act.put, List.setIfInBounds_toArray, List.set_cons_zero, List.set_cons_succ]
  refine wpAnyH_take (i := 6) (oi := { dst := some 30, op := Go.Op.load 28 (Go.Operand.tmp 2), type := 28, pos := "law.go:17", after := #[{ on := 2, ground := Go.Ground.guard }], guard := some (2, true) }) (v := ?_) rfl (by kernel_rfl) (by kernel_rfl) (by kernel_rfl) (fun _ _ _ h => h) (Or.inl ⟨by rfl, ?_⟩) (by assumption) ?_
  rotate_left
  · (intro w hSw; (try dsimp only at hSw); go_simp; (try (with_reducible rfl)))
  try simp only [Act.put, List.setIfInBounds_toArray, List.set_cons_zero, List.set_cons_succ]
  refine wpAnyH_ready (rs := [4, 7]) (by kernel_rfl) (by simp) ?_
  refine (AllReadyH.cons (o := { dst := some 28, op := Go.Op.call { callee := Go.Callee.value (Go.Operand.func 31), args := #[Go.Operand.tmp 27], argTypes := #[33] }, type := 29, pos := "law.go:17", after := #[{ on := 3, ground := Go.Ground.data }, { on := 2, ground := Go.Ground.chain }, { on := 2, ground := Go.Ground.guard }], guard := some (2, true) }) rfl (fun K hK => ?_) (AllReadyH.cons (o := { dst := some 31, op := Go.Op.buildSlice 29 2 #[(0, Go.Operand.tmp 29), (1, Go.Operand.tmp 30)], type := 29, pos := "law.go:17", after := #[{ on := 5, ground := Go.Ground.data }, { on := 6, ground := Go.Ground.data }, { on := 2, ground := Go.Ground.guard }], guard := some (2, true) }) rfl (fun K hK => ?_) AllReadyH.nil))
  go_simp
  refine (hCl.out _ _ lc hst).mono ?_
  rintro e wA ⟨cv, HA1, rfl, lA, hA1, enA⟩
  obtain ⟨cv1, cv2, cv3, rfl, _⟩ := hA1.row_form
  obtain ⟨HA2, lA2, hA2, hcv⟩ := hA1.row_keep
  try replace hab := hab.mono (Hp.le_trans lA lA2)
  replace lc := Hp.le_trans lc (Hp.le_trans lA lA2)
  replace hst := hA2
  replace en5 := en5.trans enA
  refine hK.out _ _ (kk _ _ _ lc hst) (fun hHeld => ?_)
  clear hK K
  try simp only [Act.put, List.setIfInBounds_toArray, List.set_cons_zero, List.set_cons_succ]
  refine wpAnyH_ready (rs := [7]) (by kernel_rfl) (by simp) ?_
  refine AllReadyH.cons (o := { dst := some 31, op := Go.Op.buildSlice 29 2 #[(0, Go.Operand.tmp 29), (1, Go.Operand.tmp 30)], type := 29, pos := "law.go:17", after := #[{ on := 5, ground := Go.Ground.data }, { on := 6, ground := Go.Ground.data }, { on := 2, ground := Go.Ground.guard }], guard := some (2, true) }) rfl (fun K hK => ?_) AllReadyH.nil
  go_simp
  have hB1 := hst.row_lit 28 2 2 #[.int .i64 0, .int .i64 1, .int .i64 0, .int .i64 2] rfl (by decide)
  replace en5 := en5.alloc (.cells #[.int .i64 0, .int .i64 1, .int .i64 0, .int .i64 2] 28)
  obtain ⟨HB, lB, hB2, hab⟩ := hB1.row_keep
  replace hab : Rd HB 2 _ (idl [(0, 1), (0, 2)]) := hab
  try replace hcv := hcv.mono lB
  replace lc := Hp.le_trans lc lB
  replace hst := hB2
  refine hK.out _ _ (kk _ _ _ lc hst) (fun hHeld => ?_)
  clear hK K
  try simp only [Act.put, List.setIfInBounds_toArray, List.set_cons_zero, List.set_cons_succ]
  refine wpAnyH_ready (rs := [8]) (by kernel_rfl) (by simp) ?_
  refine AllReadyH.cons (o := { dst := some 32, op := Go.Op.call { callee := Go.Callee.value (Go.Operand.func 32), args := #[Go.Operand.tmp 28, Go.Operand.tmp 31], argTypes := #[29, 29] }, type := 4, pos := "law.go:17", after := #[{ on := 4, ground := Go.Ground.data }, { on := 7, ground := Go.Ground.data }, { on := 4, ground := Go.Ground.chain }, { on := 2, ground := Go.Ground.guard }], guard := some (2, true) }) rfl (fun K hK => ?_) AllReadyH.nil
  go_simp
  refine (sameIds_any _ _ [(0, 1), (0, 2)] [(0, 1), (0, 2)] _ (hcv.rw hst) (hab.rw hst)).mono ?_
  rintro e wC ⟨rfl, hbC⟩
  rw [decide_eq_true rfl]
  replace hst := hst.below hbC
  replace en5 := en5.trans (bel_env hbC)
  refine hK.out _ _ (kk _ _ _ lc hst) (fun hHeld => ?_)
  clear hK K
  try simp only [Act.put, List.setIfInBounds_toArray, List.set_cons_zero, List.set_cons_succ]
  refine wpAnyH_take (i := 9) (oi := { dst := some 33, op := Go.Op.pick (Go.Operand.tmp 26) (Go.Operand.tmp 32) (Go.Operand.const (Go.Value.bool false)), type := 4, pos := "law.go:17", after := #[{ on := 2, ground := Go.Ground.data }, { on := 8, ground := Go.Ground.data }], guard := none }) (v := ?_) rfl (by kernel_rfl) (by kernel_rfl) (by kernel_rfl) (fun _ _ _ h => h) (Or.inl ⟨by rfl, ?_⟩) (by assumption) ?_
  rotate_left
  · (intro w hSw; (try dsimp only at hSw); go_simp; (try (with_reducible rfl)))
  try simp only [Act.put, List.setIfInBounds_toArray, List.set_cons_zero, List.set_cons_succ]
  refine wpAnyH_take (i := 10) (oi := { dst := some 34, op := Go.Op.move (Go.Operand.tmp 33), type := 4, pos := "law.go:17", after := #[{ on := 9, ground := Go.Ground.data }, { on := 8, ground := Go.Ground.chain }], guard := none }) (v := ?_) rfl (by kernel_rfl) (by kernel_rfl) (by kernel_rfl) (fun _ _ _ h => h) (Or.inl ⟨by rfl, ?_⟩) (by assumption) ?_
  rotate_left
  · (intro w hSw; (try dsimp only at hSw); go_simp; (try (with_reducible rfl)))
  try simp only [Act.put, List.setIfInBounds_toArray, List.set_cons_zero, List.set_cons_succ]
  refine wpAnyH_take (i := 11) (oi := { dst := some 35, op := Go.Op.move (Go.Operand.tmp 4), type := 33, pos := "law.go:17", after := #[{ on := 10, ground := Go.Ground.guard }], guard := some (10, true) }) (v := ?_) rfl (by kernel_rfl) (by kernel_rfl) (by kernel_rfl) (fun _ _ _ h => h) (Or.inl ⟨by rfl, ?_⟩) (by assumption) ?_
  rotate_left
  · (intro w hSw; (try dsimp only at hSw); go_simp; (try (with_reducible rfl)))
  try simp only [Act.put, List.setIfInBounds_toArray, List.set_cons_zero, List.set_cons_succ]
  refine wpAnyH_take (i := 12) (oi := { dst := some 36, op := Go.Op.load 28 (Go.Operand.tmp 1), type := 28, pos := "law.go:17", after := #[{ on := 10, ground := Go.Ground.guard }], guard := some (10, true) }) (v := ?_) rfl (by kernel_rfl) (by kernel_rfl) (by kernel_rfl) (fun _ _ _ h => h) (Or.inl ⟨by rfl, ?_⟩) (by assumption) ?_
  rotate_left
  · (intro w hSw; (try dsimp only at hSw); go_simp; (try (with_reducible rfl)))
  try simp only [Act.put, List.setIfInBounds_toArray, List.set_cons_zero, List.set_cons_succ]
  refine wpAnyH_take (i := 13) (oi := { dst := some 37, op := Go.Op.load 28 (Go.Operand.tmp 2), type := 28, pos := "law.go:17", after := #[{ on := 10, ground := Go.Ground.guard }], guard := some (10, true) }) (v := ?_) rfl (by kernel_rfl) (by kernel_rfl) (by kernel_rfl) (fun _ _ _ h => h) (Or.inl ⟨by rfl, ?_⟩) (by assumption) ?_
  rotate_left
  · (intro w hSw; (try dsimp only at hSw); go_simp; (try (with_reducible rfl)))
  try simp only [Act.put, List.setIfInBounds_toArray, List.set_cons_zero, List.set_cons_succ]
  refine wpAnyH_ready (rs := [14]) (by kernel_rfl) (by simp) ?_
  refine AllReadyH.cons (o := { dst := some 38, op := Go.Op.call { callee := Go.Callee.value (Go.Operand.func 38), args := #[Go.Operand.tmp 35, Go.Operand.tmp 36, Go.Operand.tmp 37], argTypes := #[33, 28, 28] }, type := 4, pos := "law.go:17", after := #[{ on := 11, ground := Go.Ground.data }, { on := 12, ground := Go.Ground.data }, { on := 13, ground := Go.Ground.data }, { on := 10, ground := Go.Ground.chain }, { on := 10, ground := Go.Ground.guard }], guard := some (10, true) }) rfl (fun K hK => ?_) AllReadyH.nil
  go_simp
  refine (hP1.out _ _ lc hst).mono ?_
  rintro e wD ⟨HD, rfl, lD, hD, enD⟩
  replace lc := Hp.le_trans lc lD
  replace hst := hD
  replace en5 := en5.trans enD
  refine hK.out _ _ (kk _ _ _ lc hst) (fun hHeld => ?_)
  clear hK K
  try simp only [Act.put, List.setIfInBounds_toArray, List.set_cons_zero, List.set_cons_succ]
  refine wpAnyH_take (i := 15) (oi := { dst := some 39, op := Go.Op.pick (Go.Operand.tmp 34) (Go.Operand.tmp 38) (Go.Operand.const (Go.Value.bool false)), type := 4, pos := "law.go:17", after := #[{ on := 10, ground := Go.Ground.data }, { on := 14, ground := Go.Ground.data }], guard := none }) (v := ?_) rfl (by kernel_rfl) (by kernel_rfl) (by kernel_rfl) (fun _ _ _ h => h) (Or.inl ⟨by rfl, ?_⟩) (by assumption) ?_
  rotate_left
  · (intro w hSw; (try dsimp only at hSw); go_simp; (try (with_reducible rfl)))
  try simp only [Act.put, List.setIfInBounds_toArray, List.set_cons_zero, List.set_cons_succ]
  refine wpAnyH_take (i := 16) (oi := { dst := some 40, op := Go.Op.move (Go.Operand.tmp 39), type := 4, pos := "law.go:17", after := #[{ on := 15, ground := Go.Ground.data }, { on := 14, ground := Go.Ground.chain }], guard := none }) (v := ?_) rfl (by kernel_rfl) (by kernel_rfl) (by kernel_rfl) (fun _ _ _ h => h) (Or.inl ⟨by rfl, ?_⟩) (by assumption) ?_
  rotate_left
  · (intro w hSw; (try dsimp only at hSw); go_simp; (try (with_reducible rfl)))
  try simp only [Act.put, List.setIfInBounds_toArray, List.set_cons_zero, List.set_cons_succ]
  refine wpAnyH_take (i := 17) (oi := { dst := some 41, op := Go.Op.move (Go.Operand.tmp 4), type := 33, pos := "law.go:17", after := #[{ on := 16, ground := Go.Ground.guard }], guard := some (16, true) }) (v := ?_) rfl (by kernel_rfl) (by kernel_rfl) (by kernel_rfl) (fun _ _ _ h => h) (Or.inl ⟨by rfl, ?_⟩) (by assumption) ?_
  rotate_left
  · (intro w hSw; (try dsimp only at hSw); go_simp; (try (with_reducible rfl)))
  try simp only [Act.put, List.setIfInBounds_toArray, List.set_cons_zero, List.set_cons_succ]
  refine wpAnyH_take (i := 18) (oi := { dst := some 42, op := Go.Op.load 28 (Go.Operand.tmp 2), type := 28, pos := "law.go:17", after := #[{ on := 16, ground := Go.Ground.guard }], guard := some (16, true) }) (v := ?_) rfl (by kernel_rfl) (by kernel_rfl) (by kernel_rfl) (fun _ _ _ h => h) (Or.inl ⟨by rfl, ?_⟩) (by assumption) ?_
  rotate_left
  · (intro w hSw; (try dsimp only at hSw); go_simp; (try (with_reducible rfl)))
  try simp only [Act.put, List.setIfInBounds_toArray, List.set_cons_zero, List.set_cons_succ]
  refine wpAnyH_take (i := 19) (oi := { dst := some 43, op := Go.Op.load 28 (Go.Operand.tmp 1), type := 28, pos := "law.go:17", after := #[{ on := 16, ground := Go.Ground.guard }], guard := some (16, true) }) (v := ?_) rfl (by kernel_rfl) (by kernel_rfl) (by kernel_rfl) (fun _ _ _ h => h) (Or.inl ⟨by rfl, ?_⟩) (by assumption) ?_
  rotate_left
  · (intro w hSw; (try dsimp only at hSw); go_simp; (try (with_reducible rfl)))
  try simp only [Act.put, List.setIfInBounds_toArray, List.set_cons_zero, List.set_cons_succ]
  refine wpAnyH_ready (rs := [20]) (by kernel_rfl) (by simp) ?_
  refine AllReadyH.cons (o := { dst := some 44, op := Go.Op.call { callee := Go.Callee.value (Go.Operand.func 38), args := #[Go.Operand.tmp 41, Go.Operand.tmp 42, Go.Operand.tmp 43], argTypes := #[33, 28, 28] }, type := 4, pos := "law.go:17", after := #[{ on := 17, ground := Go.Ground.data }, { on := 18, ground := Go.Ground.data }, { on := 19, ground := Go.Ground.data }, { on := 16, ground := Go.Ground.chain }, { on := 16, ground := Go.Ground.guard }], guard := some (16, true) }) rfl (fun K hK => ?_) AllReadyH.nil
  go_simp
  refine (hP2.out _ _ lc hst).mono ?_
  rintro e wE ⟨HE, rfl, lE, hE, enE⟩
  replace lc := Hp.le_trans lc lE
  replace hst := hE
  replace en5 := en5.trans enE
  refine hK.out _ _ (kk _ _ _ lc hst) (fun hHeld => ?_)
  clear hK K
  try simp only [Act.put, List.setIfInBounds_toArray, List.set_cons_zero, List.set_cons_succ]
  refine wpAnyH_take (i := 21) (oi := { dst := some 45, op := Go.Op.unOp Go.UnOp.not 4 (Go.Operand.tmp 44), type := 4, pos := "law.go:17", after := #[{ on := 20, ground := Go.Ground.data }, { on := 16, ground := Go.Ground.guard }], guard := some (16, true) }) (v := ?_) rfl (by kernel_rfl) (by kernel_rfl) (by kernel_rfl) (fun _ _ _ h => h) (Or.inl ⟨by rfl, ?_⟩) (by assumption) ?_
  rotate_left
  · (intro w hSw; (try dsimp only at hSw); go_simp; (try (with_reducible rfl)))
  try simp only [Act.put, List.setIfInBounds_toArray, List.set_cons_zero, List.set_cons_succ]
  refine wpAnyH_take (i := 22) (oi := { dst := some 46, op := Go.Op.pick (Go.Operand.tmp 40) (Go.Operand.tmp 45) (Go.Operand.const (Go.Value.bool false)), type := 4, pos := "law.go:17", after := #[{ on := 16, ground := Go.Ground.data }, { on := 21, ground := Go.Ground.data }], guard := none }) (v := ?_) rfl (by kernel_rfl) (by kernel_rfl) (by kernel_rfl) (fun _ _ _ h => h) (Or.inl ⟨by rfl, ?_⟩) (by assumption) ?_
  rotate_left
  · (intro w hSw; (try dsimp only at hSw); go_simp; (try (with_reducible rfl)))
  try simp only [Act.put, List.setIfInBounds_toArray, List.set_cons_zero, List.set_cons_succ]
  refine wpAnyH_take (i := 23) (oi := { dst := some 47, op := Go.Op.move (Go.Operand.tmp 46), type := 4, pos := "law.go:17", after := #[{ on := 22, ground := Go.Ground.data }, { on := 20, ground := Go.Ground.chain }], guard := none }) (v := ?_) rfl (by kernel_rfl) (by kernel_rfl) (by kernel_rfl) (fun _ _ _ h => h) (Or.inl ⟨by rfl, ?_⟩) (by assumption) ?_
  rotate_left
  · (intro w hSw; (try dsimp only at hSw); go_simp; (try (with_reducible rfl)))
  try simp only [Act.put, List.setIfInBounds_toArray, List.set_cons_zero, List.set_cons_succ]
  refine wpAnyH_take (i := 24) (oi := { dst := some 48, op := Go.Op.move (Go.Operand.tmp 4), type := 33, pos := "law.go:17", after := #[{ on := 23, ground := Go.Ground.guard }], guard := some (23, true) }) (v := ?_) rfl (by kernel_rfl) (by kernel_rfl) (by kernel_rfl) (fun _ _ _ h => h) (Or.inl ⟨by rfl, ?_⟩) (by assumption) ?_
  rotate_left
  · (intro w hSw; (try dsimp only at hSw); go_simp; (try (with_reducible rfl)))
  try simp only [Act.put, List.setIfInBounds_toArray, List.set_cons_zero, List.set_cons_succ]
  refine wpAnyH_take (i := 25) (oi := { dst := some 49, op := Go.Op.load 28 (Go.Operand.tmp 2), type := 28, pos := "law.go:17", after := #[{ on := 23, ground := Go.Ground.guard }], guard := some (23, true) }) (v := ?_) rfl (by kernel_rfl) (by kernel_rfl) (by kernel_rfl) (fun _ _ _ h => h) (Or.inl ⟨by rfl, ?_⟩) (by assumption) ?_
  rotate_left
  · (intro w hSw; (try dsimp only at hSw); go_simp; (try (with_reducible rfl)))
  try simp only [Act.put, List.setIfInBounds_toArray, List.set_cons_zero, List.set_cons_succ]
  refine wpAnyH_ready (rs := [26]) (by kernel_rfl) (by simp) ?_
  refine AllReadyH.cons (o := { dst := some 50, op := Go.Op.buildSlice 29 1 #[(0, Go.Operand.tmp 49)], type := 29, pos := "law.go:17", after := #[{ on := 25, ground := Go.Ground.data }, { on := 23, ground := Go.Ground.guard }], guard := some (23, true) }) rfl (fun K hK => ?_) AllReadyH.nil
  go_simp
  have hG1 := hst.row_lit 28 2 1 #[.int .i64 0, .int .i64 2] rfl (by decide)
  replace en5 := en5.alloc (.cells #[.int .i64 0, .int .i64 2] 28)
  obtain ⟨HG, lG, hG2, hbb⟩ := hG1.row_keep
  replace hbb : Rd HG 2 _ (idl [(0, 2)]) := hbb
  replace lc := Hp.le_trans lc lG
  replace hst := hG2
  refine hK.out _ _ (kk _ _ _ lc hst) (fun hHeld => ?_)
  clear hK K
  try simp only [Act.put, List.setIfInBounds_toArray, List.set_cons_zero, List.set_cons_succ]
  refine wpAnyH_ready (rs := [27]) (by kernel_rfl) (by simp) ?_
  refine AllReadyH.cons (o := { dst := some 51, op := Go.Op.call { callee := Go.Callee.value (Go.Operand.func 33), args := #[Go.Operand.tmp 48, Go.Operand.tmp 50], argTypes := #[33, 29] }, type := 4, pos := "law.go:17", after := #[{ on := 24, ground := Go.Ground.data }, { on := 26, ground := Go.Ground.data }, { on := 23, ground := Go.Ground.chain }, { on := 23, ground := Go.Ground.guard }], guard := some (23, true) }) rfl (fun K hK => ?_) AllReadyH.nil
  go_simp
  refine (hWh.out _ _ _ lc hst hbb).mono ?_
  rintro e wF ⟨HF, rfl, lF, hF, enF⟩
  replace lc := Hp.le_trans lc lF
  replace hst := hF
  replace en5 := en5.trans enF
  refine hK.out _ _ (kk _ _ _ lc hst) (fun hHeld => ?_)
  clear hK K
  try simp only [Act.put, List.setIfInBounds_toArray, List.set_cons_zero, List.set_cons_succ]
  refine wpAnyH_take (i := 28) (oi := { dst := some 52, op := Go.Op.pick (Go.Operand.tmp 47) (Go.Operand.tmp 51) (Go.Operand.const (Go.Value.bool false)), type := 4, pos := "law.go:17", after := #[{ on := 23, ground := Go.Ground.data }, { on := 27, ground := Go.Ground.data }], guard := none }) (v := ?_) rfl (by kernel_rfl) (by kernel_rfl) (by kernel_rfl) (fun _ _ _ h => h) (Or.inl ⟨by rfl, ?_⟩) (by assumption) ?_
  rotate_left
  · (intro w hSw; (try dsimp only at hSw); go_simp; (try (with_reducible rfl)))
  try simp only [Act.put, List.setIfInBounds_toArray, List.set_cons_zero, List.set_cons_succ]
  refine wpAnyH_take (i := 29) (oi := { dst := some 0, op := Go.Op.assign (Go.Operand.tmp 52), type := 4, pos := "law.go:17", after := #[{ on := 28, ground := Go.Ground.data }, { on := 27, ground := Go.Ground.chain }, { on := 0, ground := Go.Ground.phase }, { on := 1, ground := Go.Ground.phase }, { on := 2, ground := Go.Ground.phase }, { on := 3, ground := Go.Ground.phase }, { on := 4, ground := Go.Ground.phase }, { on := 5, ground := Go.Ground.phase }, { on := 6, ground := Go.Ground.phase }, { on := 7, ground := Go.Ground.phase }, { on := 8, ground := Go.Ground.phase }, { on := 9, ground := Go.Ground.phase }, { on := 10, ground := Go.Ground.phase }, { on := 11, ground := Go.Ground.phase }, { on := 12, ground := Go.Ground.phase }, { on := 13, ground := Go.Ground.phase }, { on := 14, ground := Go.Ground.phase }, { on := 15, ground := Go.Ground.phase }, { on := 16, ground := Go.Ground.phase }, { on := 17, ground := Go.Ground.phase }, { on := 18, ground := Go.Ground.phase }, { on := 19, ground := Go.Ground.phase }, { on := 20, ground := Go.Ground.phase }, { on := 21, ground := Go.Ground.phase }, { on := 22, ground := Go.Ground.phase }, { on := 23, ground := Go.Ground.phase }, { on := 24, ground := Go.Ground.phase }, { on := 25, ground := Go.Ground.phase }, { on := 26, ground := Go.Ground.phase }, { on := 27, ground := Go.Ground.phase }, { on := 28, ground := Go.Ground.phase }], guard := none }) (v := ?_) rfl (by kernel_rfl) (by kernel_rfl) (by kernel_rfl) (fun _ _ _ h => h) (Or.inl ⟨by rfl, ?_⟩) (by assumption) ?_
  rotate_left
  · (intro w hSw; (try dsimp only at hSw); go_simp; (try (with_reducible rfl)))
  try simp only [Act.put, List.setIfInBounds_toArray, List.set_cons_zero, List.set_cons_succ]
  refine wpAnyH_done (by kernel_rfl) ?_ _
  rotate_left
  go_simp
  have hB1 := hst.row_lit 28 2 2 #[.int .i64 0, .int .i64 1, .int .i64 0, .int .i64 2] rfl (by decide)
  replace en5 := en5.alloc (.cells #[.int .i64 0, .int .i64 1, .int .i64 0, .int .i64 2] 28)
  obtain ⟨HB, lB, hB2, hab⟩ := hB1.row_keep
  replace hab : Rd HB 2 _ (idl [(0, 1), (0, 2)]) := hab
  try replace hcv := hcv.mono lB
  replace lc := Hp.le_trans lc lB
  replace hst := hB2
  refine hK.out _ _ (kk _ _ _ lc hst) (fun hHeld => ?_)
  clear hK K
  try simp only [Act.put, List.setIfInBounds_toArray, List.set_cons_zero, List.set_cons_succ]
  refine wpAnyH_ready (rs := [4]) (by kernel_rfl) (by simp) ?_
  refine AllReadyH.cons (o := { dst := some 28, op := Go.Op.call { callee := Go.Callee.value (Go.Operand.func 31), args := #[Go.Operand.tmp 27], argTypes := #[33] }, type := 29, pos := "law.go:17", after := #[{ on := 3, ground := Go.Ground.data }, { on := 2, ground := Go.Ground.chain }, { on := 2, ground := Go.Ground.guard }], guard := some (2, true) }) rfl (fun K hK => ?_) AllReadyH.nil
  go_simp
  refine (hCl.out _ _ lc hst).mono ?_
  rintro e wA ⟨cv, HA1, rfl, lA, hA1, enA⟩
  obtain ⟨cv1, cv2, cv3, rfl, _⟩ := hA1.row_form
  obtain ⟨HA2, lA2, hA2, hcv⟩ := hA1.row_keep
  try replace hab := hab.mono (Hp.le_trans lA lA2)
  replace lc := Hp.le_trans lc (Hp.le_trans lA lA2)
  replace hst := hA2
  replace en5 := en5.trans enA
  refine hK.out _ _ (kk _ _ _ lc hst) (fun hHeld => ?_)
  clear hK K
  try simp only [Act.put, List.setIfInBounds_toArray, List.set_cons_zero, List.set_cons_succ]
  refine wpAnyH_ready (rs := [8]) (by kernel_rfl) (by simp) ?_
  refine AllReadyH.cons (o := { dst := some 32, op := Go.Op.call { callee := Go.Callee.value (Go.Operand.func 32), args := #[Go.Operand.tmp 28, Go.Operand.tmp 31], argTypes := #[29, 29] }, type := 4, pos := "law.go:17", after := #[{ on := 4, ground := Go.Ground.data }, { on := 7, ground := Go.Ground.data }, { on := 4, ground := Go.Ground.chain }, { on := 2, ground := Go.Ground.guard }], guard := some (2, true) }) rfl (fun K hK => ?_) AllReadyH.nil
  go_simp
  refine (sameIds_any _ _ [(0, 1), (0, 2)] [(0, 1), (0, 2)] _ (hcv.rw hst) (hab.rw hst)).mono ?_
  rintro e wC ⟨rfl, hbC⟩
  rw [decide_eq_true rfl]
  replace hst := hst.below hbC
  replace en5 := en5.trans (bel_env hbC)
  refine hK.out _ _ (kk _ _ _ lc hst) (fun hHeld => ?_)
  clear hK K
  try simp only [Act.put, List.setIfInBounds_toArray, List.set_cons_zero, List.set_cons_succ]
  refine wpAnyH_take (i := 9) (oi := { dst := some 33, op := Go.Op.pick (Go.Operand.tmp 26) (Go.Operand.tmp 32) (Go.Operand.const (Go.Value.bool false)), type := 4, pos := "law.go:17", after := #[{ on := 2, ground := Go.Ground.data }, { on := 8, ground := Go.Ground.data }], guard := none }) (v := ?_) rfl (by kernel_rfl) (by kernel_rfl) (by kernel_rfl) (fun _ _ _ h => h) (Or.inl ⟨by rfl, ?_⟩) (by assumption) ?_
  rotate_left
  · (intro w hSw; (try dsimp only at hSw); go_simp; (try (with_reducible rfl)))
  try simp only [Act.put, List.setIfInBounds_toArray, List.set_cons_zero, List.set_cons_succ]
  refine wpAnyH_take (i := 10) (oi := { dst := some 34, op := Go.Op.move (Go.Operand.tmp 33), type := 4, pos := "law.go:17", after := #[{ on := 9, ground := Go.Ground.data }, { on := 8, ground := Go.Ground.chain }], guard := none }) (v := ?_) rfl (by kernel_rfl) (by kernel_rfl) (by kernel_rfl) (fun _ _ _ h => h) (Or.inl ⟨by rfl, ?_⟩) (by assumption) ?_
  rotate_left
  · (intro w hSw; (try dsimp only at hSw); go_simp; (try (with_reducible rfl)))
  try simp only [Act.put, List.setIfInBounds_toArray, List.set_cons_zero, List.set_cons_succ]
  refine wpAnyH_take (i := 11) (oi := { dst := some 35, op := Go.Op.move (Go.Operand.tmp 4), type := 33, pos := "law.go:17", after := #[{ on := 10, ground := Go.Ground.guard }], guard := some (10, true) }) (v := ?_) rfl (by kernel_rfl) (by kernel_rfl) (by kernel_rfl) (fun _ _ _ h => h) (Or.inl ⟨by rfl, ?_⟩) (by assumption) ?_
  rotate_left
  · (intro w hSw; (try dsimp only at hSw); go_simp; (try (with_reducible rfl)))
  try simp only [Act.put, List.setIfInBounds_toArray, List.set_cons_zero, List.set_cons_succ]
  refine wpAnyH_take (i := 12) (oi := { dst := some 36, op := Go.Op.load 28 (Go.Operand.tmp 1), type := 28, pos := "law.go:17", after := #[{ on := 10, ground := Go.Ground.guard }], guard := some (10, true) }) (v := ?_) rfl (by kernel_rfl) (by kernel_rfl) (by kernel_rfl) (fun _ _ _ h => h) (Or.inl ⟨by rfl, ?_⟩) (by assumption) ?_
  rotate_left
  · (intro w hSw; (try dsimp only at hSw); go_simp; (try (with_reducible rfl)))
  try simp only [Act.put, List.setIfInBounds_toArray, List.set_cons_zero, List.set_cons_succ]
  refine wpAnyH_take (i := 13) (oi := { dst := some 37, op := Go.Op.load 28 (Go.Operand.tmp 2), type := 28, pos := "law.go:17", after := #[{ on := 10, ground := Go.Ground.guard }], guard := some (10, true) }) (v := ?_) rfl (by kernel_rfl) (by kernel_rfl) (by kernel_rfl) (fun _ _ _ h => h) (Or.inl ⟨by rfl, ?_⟩) (by assumption) ?_
  rotate_left
  · (intro w hSw; (try dsimp only at hSw); go_simp; (try (with_reducible rfl)))
  try simp only [Act.put, List.setIfInBounds_toArray, List.set_cons_zero, List.set_cons_succ]
  refine wpAnyH_ready (rs := [14]) (by kernel_rfl) (by simp) ?_
  refine AllReadyH.cons (o := { dst := some 38, op := Go.Op.call { callee := Go.Callee.value (Go.Operand.func 38), args := #[Go.Operand.tmp 35, Go.Operand.tmp 36, Go.Operand.tmp 37], argTypes := #[33, 28, 28] }, type := 4, pos := "law.go:17", after := #[{ on := 11, ground := Go.Ground.data }, { on := 12, ground := Go.Ground.data }, { on := 13, ground := Go.Ground.data }, { on := 10, ground := Go.Ground.chain }, { on := 10, ground := Go.Ground.guard }], guard := some (10, true) }) rfl (fun K hK => ?_) AllReadyH.nil
  go_simp
  refine (hP1.out _ _ lc hst).mono ?_
  rintro e wD ⟨HD, rfl, lD, hD, enD⟩
  replace lc := Hp.le_trans lc lD
  replace hst := hD
  replace en5 := en5.trans enD
  refine hK.out _ _ (kk _ _ _ lc hst) (fun hHeld => ?_)
  clear hK K
  try simp only [Act.put, List.setIfInBounds_toArray, List.set_cons_zero, List.set_cons_succ]
  refine wpAnyH_take (i := 15) (oi := { dst := some 39, op := Go.Op.pick (Go.Operand.tmp 34) (Go.Operand.tmp 38) (Go.Operand.const (Go.Value.bool false)), type := 4, pos := "law.go:17", after := #[{ on := 10, ground := Go.Ground.data }, { on := 14, ground := Go.Ground.data }], guard := none }) (v := ?_) rfl (by kernel_rfl) (by kernel_rfl) (by kernel_rfl) (fun _ _ _ h => h) (Or.inl ⟨by rfl, ?_⟩) (by assumption) ?_
  rotate_left
  · (intro w hSw; (try dsimp only at hSw); go_simp; (try (with_reducible rfl)))
  try simp only [Act.put, List.setIfInBounds_toArray, List.set_cons_zero, List.set_cons_succ]
  refine wpAnyH_take (i := 16) (oi := { dst := some 40, op := Go.Op.move (Go.Operand.tmp 39), type := 4, pos := "law.go:17", after := #[{ on := 15, ground := Go.Ground.data }, { on := 14, ground := Go.Ground.chain }], guard := none }) (v := ?_) rfl (by kernel_rfl) (by kernel_rfl) (by kernel_rfl) (fun _ _ _ h => h) (Or.inl ⟨by rfl, ?_⟩) (by assumption) ?_
  rotate_left
  · (intro w hSw; (try dsimp only at hSw); go_simp; (try (with_reducible rfl)))
  try simp only [Act.put, List.setIfInBounds_toArray, List.set_cons_zero, List.set_cons_succ]
  refine wpAnyH_take (i := 17) (oi := { dst := some 41, op := Go.Op.move (Go.Operand.tmp 4), type := 33, pos := "law.go:17", after := #[{ on := 16, ground := Go.Ground.guard }], guard := some (16, true) }) (v := ?_) rfl (by kernel_rfl) (by kernel_rfl) (by kernel_rfl) (fun _ _ _ h => h) (Or.inl ⟨by rfl, ?_⟩) (by assumption) ?_
  rotate_left
  · (intro w hSw; (try dsimp only at hSw); go_simp; (try (with_reducible rfl)))
  try simp only [Act.put, List.setIfInBounds_toArray, List.set_cons_zero, List.set_cons_succ]
  refine wpAnyH_take (i := 18) (oi := { dst := some 42, op := Go.Op.load 28 (Go.Operand.tmp 2), type := 28, pos := "law.go:17", after := #[{ on := 16, ground := Go.Ground.guard }], guard := some (16, true) }) (v := ?_) rfl (by kernel_rfl) (by kernel_rfl) (by kernel_rfl) (fun _ _ _ h => h) (Or.inl ⟨by rfl, ?_⟩) (by assumption) ?_
  rotate_left
  · (intro w hSw; (try dsimp only at hSw); go_simp; (try (with_reducible rfl)))
  try simp only [Act.put, List.setIfInBounds_toArray, List.set_cons_zero, List.set_cons_succ]
  refine wpAnyH_take (i := 19) (oi := { dst := some 43, op := Go.Op.load 28 (Go.Operand.tmp 1), type := 28, pos := "law.go:17", after := #[{ on := 16, ground := Go.Ground.guard }], guard := some (16, true) }) (v := ?_) rfl (by kernel_rfl) (by kernel_rfl) (by kernel_rfl) (fun _ _ _ h => h) (Or.inl ⟨by rfl, ?_⟩) (by assumption) ?_
  rotate_left
  · (intro w hSw; (try dsimp only at hSw); go_simp; (try (with_reducible rfl)))
  try simp only [Act.put, List.setIfInBounds_toArray, List.set_cons_zero, List.set_cons_succ]
  refine wpAnyH_ready (rs := [20]) (by kernel_rfl) (by simp) ?_
  refine AllReadyH.cons (o := { dst := some 44, op := Go.Op.call { callee := Go.Callee.value (Go.Operand.func 38), args := #[Go.Operand.tmp 41, Go.Operand.tmp 42, Go.Operand.tmp 43], argTypes := #[33, 28, 28] }, type := 4, pos := "law.go:17", after := #[{ on := 17, ground := Go.Ground.data }, { on := 18, ground := Go.Ground.data }, { on := 19, ground := Go.Ground.data }, { on := 16, ground := Go.Ground.chain }, { on := 16, ground := Go.Ground.guard }], guard := some (16, true) }) rfl (fun K hK => ?_) AllReadyH.nil
  go_simp
  refine (hP2.out _ _ lc hst).mono ?_
  rintro e wE ⟨HE, rfl, lE, hE, enE⟩
  replace lc := Hp.le_trans lc lE
  replace hst := hE
  replace en5 := en5.trans enE
  refine hK.out _ _ (kk _ _ _ lc hst) (fun hHeld => ?_)
  clear hK K
  try simp only [Act.put, List.setIfInBounds_toArray, List.set_cons_zero, List.set_cons_succ]
  refine wpAnyH_take (i := 21) (oi := { dst := some 45, op := Go.Op.unOp Go.UnOp.not 4 (Go.Operand.tmp 44), type := 4, pos := "law.go:17", after := #[{ on := 20, ground := Go.Ground.data }, { on := 16, ground := Go.Ground.guard }], guard := some (16, true) }) (v := ?_) rfl (by kernel_rfl) (by kernel_rfl) (by kernel_rfl) (fun _ _ _ h => h) (Or.inl ⟨by rfl, ?_⟩) (by assumption) ?_
  rotate_left
  · (intro w hSw; (try dsimp only at hSw); go_simp; (try (with_reducible rfl)))
  try simp only [Act.put, List.setIfInBounds_toArray, List.set_cons_zero, List.set_cons_succ]
  refine wpAnyH_take (i := 22) (oi := { dst := some 46, op := Go.Op.pick (Go.Operand.tmp 40) (Go.Operand.tmp 45) (Go.Operand.const (Go.Value.bool false)), type := 4, pos := "law.go:17", after := #[{ on := 16, ground := Go.Ground.data }, { on := 21, ground := Go.Ground.data }], guard := none }) (v := ?_) rfl (by kernel_rfl) (by kernel_rfl) (by kernel_rfl) (fun _ _ _ h => h) (Or.inl ⟨by rfl, ?_⟩) (by assumption) ?_
  rotate_left
  · (intro w hSw; (try dsimp only at hSw); go_simp; (try (with_reducible rfl)))
  try simp only [Act.put, List.setIfInBounds_toArray, List.set_cons_zero, List.set_cons_succ]
  refine wpAnyH_take (i := 23) (oi := { dst := some 47, op := Go.Op.move (Go.Operand.tmp 46), type := 4, pos := "law.go:17", after := #[{ on := 22, ground := Go.Ground.data }, { on := 20, ground := Go.Ground.chain }], guard := none }) (v := ?_) rfl (by kernel_rfl) (by kernel_rfl) (by kernel_rfl) (fun _ _ _ h => h) (Or.inl ⟨by rfl, ?_⟩) (by assumption) ?_
  rotate_left
  · (intro w hSw; (try dsimp only at hSw); go_simp; (try (with_reducible rfl)))
  try simp only [Act.put, List.setIfInBounds_toArray, List.set_cons_zero, List.set_cons_succ]
  refine wpAnyH_take (i := 24) (oi := { dst := some 48, op := Go.Op.move (Go.Operand.tmp 4), type := 33, pos := "law.go:17", after := #[{ on := 23, ground := Go.Ground.guard }], guard := some (23, true) }) (v := ?_) rfl (by kernel_rfl) (by kernel_rfl) (by kernel_rfl) (fun _ _ _ h => h) (Or.inl ⟨by rfl, ?_⟩) (by assumption) ?_
  rotate_left
  · (intro w hSw; (try dsimp only at hSw); go_simp; (try (with_reducible rfl)))
  try simp only [Act.put, List.setIfInBounds_toArray, List.set_cons_zero, List.set_cons_succ]
  refine wpAnyH_take (i := 25) (oi := { dst := some 49, op := Go.Op.load 28 (Go.Operand.tmp 2), type := 28, pos := "law.go:17", after := #[{ on := 23, ground := Go.Ground.guard }], guard := some (23, true) }) (v := ?_) rfl (by kernel_rfl) (by kernel_rfl) (by kernel_rfl) (fun _ _ _ h => h) (Or.inl ⟨by rfl, ?_⟩) (by assumption) ?_
  rotate_left
  · (intro w hSw; (try dsimp only at hSw); go_simp; (try (with_reducible rfl)))
  try simp only [Act.put, List.setIfInBounds_toArray, List.set_cons_zero, List.set_cons_succ]
  refine wpAnyH_ready (rs := [26]) (by kernel_rfl) (by simp) ?_
  refine AllReadyH.cons (o := { dst := some 50, op := Go.Op.buildSlice 29 1 #[(0, Go.Operand.tmp 49)], type := 29, pos := "law.go:17", after := #[{ on := 25, ground := Go.Ground.data }, { on := 23, ground := Go.Ground.guard }], guard := some (23, true) }) rfl (fun K hK => ?_) AllReadyH.nil
  go_simp
  have hG1 := hst.row_lit 28 2 1 #[.int .i64 0, .int .i64 2] rfl (by decide)
  replace en5 := en5.alloc (.cells #[.int .i64 0, .int .i64 2] 28)
  obtain ⟨HG, lG, hG2, hbb⟩ := hG1.row_keep
  replace hbb : Rd HG 2 _ (idl [(0, 2)]) := hbb
  replace lc := Hp.le_trans lc lG
  replace hst := hG2
  refine hK.out _ _ (kk _ _ _ lc hst) (fun hHeld => ?_)
  clear hK K
  try simp only [Act.put, List.setIfInBounds_toArray, List.set_cons_zero, List.set_cons_succ]
  refine wpAnyH_ready (rs := [27]) (by kernel_rfl) (by simp) ?_
  refine AllReadyH.cons (o := { dst := some 51, op := Go.Op.call { callee := Go.Callee.value (Go.Operand.func 33), args := #[Go.Operand.tmp 48, Go.Operand.tmp 50], argTypes := #[33, 29] }, type := 4, pos := "law.go:17", after := #[{ on := 24, ground := Go.Ground.data }, { on := 26, ground := Go.Ground.data }, { on := 23, ground := Go.Ground.chain }, { on := 23, ground := Go.Ground.guard }], guard := some (23, true) }) rfl (fun K hK => ?_) AllReadyH.nil
  go_simp
  refine (hWh.out _ _ _ lc hst hbb).mono ?_
  rintro e wF ⟨HF, rfl, lF, hF, enF⟩
  replace lc := Hp.le_trans lc lF
  replace hst := hF
  replace en5 := en5.trans enF
  refine hK.out _ _ (kk _ _ _ lc hst) (fun hHeld => ?_)
  clear hK K
  try simp only [Act.put, List.setIfInBounds_toArray, List.set_cons_zero, List.set_cons_succ]
  refine wpAnyH_take (i := 28) (oi := { dst := some 52, op := Go.Op.pick (Go.Operand.tmp 47) (Go.Operand.tmp 51) (Go.Operand.const (Go.Value.bool false)), type := 4, pos := "law.go:17", after := #[{ on := 23, ground := Go.Ground.data }, { on := 27, ground := Go.Ground.data }], guard := none }) (v := ?_) rfl (by kernel_rfl) (by kernel_rfl) (by kernel_rfl) (fun _ _ _ h => h) (Or.inl ⟨by rfl, ?_⟩) (by assumption) ?_
  rotate_left
  · (intro w hSw; (try dsimp only at hSw); go_simp; (try (with_reducible rfl)))
  try simp only [Act.put, List.setIfInBounds_toArray, List.set_cons_zero, List.set_cons_succ]
  refine wpAnyH_take (i := 29) (oi := { dst := some 0, op := Go.Op.assign (Go.Operand.tmp 52), type := 4, pos := "law.go:17", after := #[{ on := 28, ground := Go.Ground.data }, { on := 27, ground := Go.Ground.chain }, { on := 0, ground := Go.Ground.phase }, { on := 1, ground := Go.Ground.phase }, { on := 2, ground := Go.Ground.phase }, { on := 3, ground := Go.Ground.phase }, { on := 4, ground := Go.Ground.phase }, { on := 5, ground := Go.Ground.phase }, { on := 6, ground := Go.Ground.phase }, { on := 7, ground := Go.Ground.phase }, { on := 8, ground := Go.Ground.phase }, { on := 9, ground := Go.Ground.phase }, { on := 10, ground := Go.Ground.phase }, { on := 11, ground := Go.Ground.phase }, { on := 12, ground := Go.Ground.phase }, { on := 13, ground := Go.Ground.phase }, { on := 14, ground := Go.Ground.phase }, { on := 15, ground := Go.Ground.phase }, { on := 16, ground := Go.Ground.phase }, { on := 17, ground := Go.Ground.phase }, { on := 18, ground := Go.Ground.phase }, { on := 19, ground := Go.Ground.phase }, { on := 20, ground := Go.Ground.phase }, { on := 21, ground := Go.Ground.phase }, { on := 22, ground := Go.Ground.phase }, { on := 23, ground := Go.Ground.phase }, { on := 24, ground := Go.Ground.phase }, { on := 25, ground := Go.Ground.phase }, { on := 26, ground := Go.Ground.phase }, { on := 27, ground := Go.Ground.phase }, { on := 28, ground := Go.Ground.phase }], guard := none }) (v := ?_) rfl (by kernel_rfl) (by kernel_rfl) (by kernel_rfl) (fun _ _ _ h => h) (Or.inl ⟨by rfl, ?_⟩) (by assumption) ?_
  rotate_left
  · (intro w hSw; (try dsimp only at hSw); go_simp; (try (with_reducible rfl)))
  try simp only [Act.put, List.setIfInBounds_toArray, List.set_cons_zero, List.set_cons_succ]
  refine wpAnyH_done (by kernel_rfl) ?_ _
  rotate_left
  all_goals
    have hz := hfin _ _ _ lc hst en5
    go_wp2_with fail
    go_ret
    exact ⟨rfl, hz.out⟩
end Go.Proofs.Ytelmhcbdpimaaaa
