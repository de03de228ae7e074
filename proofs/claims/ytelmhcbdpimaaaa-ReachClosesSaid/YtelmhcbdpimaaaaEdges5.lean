/- Graphs: Record. -/
import Derived.Test.YtelmhcbdpimaaaaEdges4
set_option linter.unusedVariables false
set_option linter.unusedSimpArgs false
namespace Go.Proofs.Ytelmhcbdpimaaaa
open Go.RowKit Go.Cw Go.Fl
attribute [local go_sem ↓] eql_id neq_id
abbrev recZ : Value := .agg #[.int .i64 0, .int .i64 0, .int .i64 0, .slice none 0 0, .slice none 0 0]
set_option maxRecDepth 100000 in
set_option maxHeartbeats 800000 in
theorem grRec_some (p : Nat) (L : List Rc) (x : Rc) (H : Hp) (fr : List HA) (w : World) (h : St H (GrA p L :: fr) w) (hLd : ∀ x ∈ L, RcD H x) (hxL : x ∈ L) (hl16 : x.2.2.2.2.1.length ≤ 16 ∧ x.2.2.2.2.2.length ≤ 8) (hlk : mlook x.1 (entsR L) = some x) :
    Calls Try.prog 63 #[grP p, idV x.1] w fun e w' => ∃ dv bv, e = .returned (.tuple #[recV (x.1, x.2.1, dv, bv, x.2.2.2.2.1, x.2.2.2.2.2), .bool true]) ∧ St H (Row 28 2 dv (idl x.2.2.2.2.1) :: Row 90 3 bv (cml x.2.2.2.2.2) :: GrA p L :: fr) w' ∧ Env w w' := by
  have hin : x.1 ∈ rids L := List.mem_map.2 ⟨x, hxL, rfl⟩
  have hxd := hLd x hxL
  obtain ⟨⟨r, s⟩, q, dv, bv, D, Bt⟩ := x
  obtain ⟨d1, d2, d3, hdv, _⟩ := hxd.d.form
  obtain ⟨b1, b2, b3, hbv, _⟩ := hxd.b.form
  simp only at hdv hbv hl16 hlk hin ⊢
  subst hdv hbv
  obtain ⟨H1, l1, h1, y⟩ := h.box #[.int .i64 r, .int .i64 s] 28
  have y0 := y 0 _ rfl
  have y1 := y 1 _ rfl
  clear y
  have h2 := h1.blk #[.int .i64 0, .int .i64 0, .int .i64 0, .slice none 0 0, .slice none 0 0] 32
  have e1 : (w.alloc (.cells #[.int .i64 r, .int .i64 s] 28)).heap.size = w.heap.size + 1 := by simp
  rw [e1] at h2
  have en2 := ((Env.refl w).alloc (.cells #[.int .i64 r, .int .i64 s] 28)).alloc (.cells #[.int .i64 0, .int .i64 0, .int .i64 0, .slice none 0 0, .slice none 0 0] 32)
  have hHas := grHas_any p L (r, s) H1 _ _ (fun z hz => (hLd z hz).mono l1) h2.swap
  rw [decide_eq_true hin] at hHas
  replace hHas := Lib.hid hHas
  have v0 := h2.cell y0
  have v1 := h2.cell y1
  have vl := World.block_lt_of_cell? _ _ v0
  clear hin h1 e1
  go_enter Try.func63, Try.ntmps63
  go_wp2_with fail
  generalize hW2 : (w.alloc (.cells #[.int .i64 r, .int .i64 s] 28)).alloc (.cells #[.int .i64 0, .int .i64 0, .int .i64 0, .slice none 0 0, .slice none 0 0] 32) = W2 at *
  generalize w.heap.size + 1 = gr at *
  generalize w.heap.size = gb at *
  refine hHas.out.mono ?_
  rintro e w3 ⟨rfl, hb3⟩
  have h3 := h2.below hb3
  have en3 := en2.trans (bel_env hb3)
  clear v0 v1 vl hHas h2 en2 hb3
  obtain ⟨g, h4⟩ := grOpen h3.swap
  have hlk2 := h4.drew.swap.mp_get false Try.underlying95 (zero_rec _) (r, s)
  rw [hlk] at hlk2
  change (Instr.lookup 95 (.map (some g)) (.agg #[.int .i64 r, .int .i64 s]) false).run Try.prog w3.drew = .ok (.agg #[.int .i64 r, .int .i64 s, .int .i64 q, .slice d1 d2 d3, .slice b1 b2 b3]) w3.drew at hlk2
  have v0 := h4.cell y0
  have v1 := h4.cell y1
  have vl := World.block_lt_of_cell? _ _ v0
  have c0 : w3.cell? ⟨p, 0, none⟩ = some (.map (some g)) := h4.blk_cell 0
  have cl := h4.blk_lt
  have h5 := h4.drew
  have en5 := en3.drew
  have hCp := Lib.hid (recCopy_any ((r, s), q, .slice d1 d2 d3, .slice b1 b2 b3, D, Bt) _ ((hxd.mono l1).rw h5) (by simp only; omega) (by simp only; omega))
  clear h3 en3 hlk
  have kk : ∀ (l' : List HA) (w' : World), w'.cell? ⟨p, 0, none⟩ = some (.map (some g)) → St H1 l' w' → (w'.cell? ⟨p, 0, none⟩ = some (.map (some g)) ∧ w'.cell? ⟨gb, 0, none⟩ = some (.int .i64 r) ∧ w'.cell? ⟨gb, 1, none⟩ = some (.int .i64 s)) := fun l' w' hc h => ⟨hc, h.cell y0, h.cell y1⟩
  have k5 := kk _ _ (h5.blk_cell 0) h5
  go_wp2_with fail
  go_region_held3 (fun w' => w'.cell? ⟨p, 0, none⟩ = some (.map (some g)) ∧ w'.cell? ⟨gb, 0, none⟩ = some (.int .i64 r) ∧ w'.cell? ⟨gb, 1, none⟩ = some (.int .i64 s))
    (first | (with_reducible exact k5) | (with_reducible exact k6) | (with_reducible exact k7))
    ((go_at_call 56; refine hCp.out.mono ?_; rintro e w6 he; obtain ⟨⟨dv', bv'⟩, rfl, h6, en6⟩ := ResE.lift h5 he; obtain ⟨f1, f2, f3, rfl, _⟩ := h6.row_form; obtain ⟨g1, g2, g3, rfl, _⟩ := h6.swap.row_form; have k6 := kk _ _ ((h6.pick 2 (by simp)).blk_cell 0) h6; have p6 := h6.pick 4 (by simp); have zf0 := p6.blk_free 0; have zf1 := p6.blk_free 1; have zf2 := p6.blk_free 2; have zf3 := p6.blk_free 3; have zf4 := p6.blk_free 4; have z0 := p6.blk_cell 0; have z1 := p6.blk_cell 1; have z2 := p6.blk_cell 2; have z3 := p6.blk_cell 3; have z4 := p6.blk_cell 4; have zl := p6.blk_lt; have p7 := ((((p6.blk_set 0 (.int .i64 r)).blk_set 1 (.int .i64 s)).blk_set 2 (.int .i64 q)).blk_set 3 (.slice f1 f2 f3)).blk_set 4 (.slice g1 g2 g3); have k7 := kk _ _ ((p7.pick 3 (by simp)).blk_cell 0) p7))
  have en7 := ((((((en5.trans en6).setCell ⟨gr, 0, none⟩ (.int .i64 r)).setCell ⟨gr, 1, none⟩ (.int .i64 s)).setCell ⟨gr, 2, none⟩ (.int .i64 q)).setCell ⟨gr, 3, none⟩ (.slice f1 f2 f3)).setCell ⟨gr, 4, none⟩ (.slice g1 g2 g3))
  clear k5 k6 k7 kk zf0 zf1 zf2 zf3 zf4 z0 z1 z2 z3 z4 zl p6 h6 h5 h4 hlk2
  generalize ((((w6.setCell ⟨gr, 0, none⟩ (.int .i64 r)).setCell ⟨gr, 1, none⟩ (.int .i64 s)).setCell ⟨gr, 2, none⟩ (.int .i64 q)).setCell ⟨gr, 3, none⟩ (.slice f1 f2 f3)).setCell ⟨gr, 4, none⟩ (.slice g1 g2 g3) = W9 at *
  have r0 : W9.cell? ⟨gr, 0, none⟩ = some (.int .i64 r) := p7.blk_cell 0
  have r1 : W9.cell? ⟨gr, 1, none⟩ = some (.int .i64 s) := p7.blk_cell 1
  have r2 : W9.cell? ⟨gr, 2, none⟩ = some (.int .i64 q) := p7.blk_cell 2
  have r3 : W9.cell? ⟨gr, 3, none⟩ = some (.slice f1 f2 f3) := p7.blk_cell 3
  have r4 : W9.cell? ⟨gr, 4, none⟩ = some (.slice g1 g2 g3) := p7.blk_cell 4
  have rl := p7.blk_lt
  go_wp2_with fail
  (try simp only [Exit.inBlock, Exit.then])
  refine bodyPost_ret ((results_cell_tmp rfl _ _ _).trans (?hres : _ = Result.ok (Value.tuple #[Value.agg #[.int .i64 r, .int .i64 s, .int .i64 q, .slice f1 f2 f3, .slice g1 g2 g3], .bool true]) W9)) rfl ?_
  case hres => go_simp
  have p8 := p7.drop
  have q1 := (p8.pick 3 (by simp)).pick 3 (by simp)
  have q2 := grShut (L := L) (p := p) (g := g) q1
  have q3 := ((q2.pick 2 (by simp)).pick 2 (by simp)).weaken l1
  exact ⟨.slice f1 f2 f3, .slice g1 g2 g3, rfl, q3, en7⟩
set_option maxRecDepth 100000 in
set_option maxHeartbeats 800000 in
theorem grRec_no (gp : Value) (a : Id) (w : World) (hHas : ∀ w', Below w.heap.size w w' → Calls Try.prog 79 #[gp, idV a] w' fun e w'' => e = .returned (.bool false) ∧ Below w'.heap.size w' w'') :
    Calls Try.prog 63 #[gp, idV a] w fun e w' => e = .returned (.tuple #[recZ, .bool false]) ∧ Below w.heap.size w w' := by
  obtain ⟨r, s⟩ := a
  obtain ⟨H1, l1, h1, y⟩ := (St.start w).box #[.int .i64 r, .int .i64 s] 28
  have y0 := y 0 _ rfl
  have y1 := y 1 _ rfl
  clear y
  have h2 := h1.blk #[.int .i64 0, .int .i64 0, .int .i64 0, .slice none 0 0, .slice none 0 0] 32
  have e1 : (w.alloc (.cells #[.int .i64 r, .int .i64 s] 28)).heap.size = w.heap.size + 1 := by simp
  rw [e1] at h2
  have en2 := ((Env.refl w).alloc (.cells #[.int .i64 r, .int .i64 s] 28)).alloc (.cells #[.int .i64 0, .int .i64 0, .int .i64 0, .slice none 0 0, .slice none 0 0] 32)
  have hH := hHas _ ((h2.weaken l1).drop.toBelow en2)
  replace hH := Lib.hid hH
  have v0 := h2.cell y0
  have v1 := h2.cell y1
  have vl := World.block_lt_of_cell? _ _ v0
  clear h1 e1 hHas
  go_enter Try.func63, Try.ntmps63
  go_wp2_with fail
  generalize hW2 : (w.alloc (.cells #[.int .i64 r, .int .i64 s] 28)).alloc (.cells #[.int .i64 0, .int .i64 0, .int .i64 0, .slice none 0 0, .slice none 0 0] 32) = W2 at *
  generalize hgr : w.heap.size + 1 = gr at *
  generalize hgb : w.heap.size = gb at *
  refine hH.out.mono ?_
  rintro e w3 ⟨rfl, hb3⟩
  have h3 := h2.below hb3
  have en3 := en2.trans (bel_env hb3)
  clear v0 v1 vl hH h2 en2 hb3 y0 y1
  have z0 := h3.blk_cell 0
  have z1 := h3.blk_cell 1
  have z2 := h3.blk_cell 2
  have z3 := h3.blk_cell 3
  have z4 := h3.blk_cell 4
  have zf0 := h3.blk_free 0
  have zf1 := h3.blk_free 1
  have zf2 := h3.blk_free 2
  have zf3 := h3.blk_free 3
  have zf4 := h3.blk_free 4
  have zl := h3.blk_lt
  have p7 := ((((h3.blk_set 0 (.int .i64 0)).blk_set 1 (.int .i64 0)).blk_set 2 (.int .i64 0)).blk_set 3 (.slice none 0 0)).blk_set 4 (.slice none 0 0)
  have en7 := (((((en3.setCell ⟨gr, 0, none⟩ (.int .i64 0)).setCell ⟨gr, 1, none⟩ (.int .i64 0)).setCell ⟨gr, 2, none⟩ (.int .i64 0)).setCell ⟨gr, 3, none⟩ (.slice none 0 0)).setCell ⟨gr, 4, none⟩ (.slice none 0 0))
  go_wp2_with fail
  generalize ((((w3.setCell ⟨gr, 0, none⟩ (.int .i64 0)).setCell ⟨gr, 1, none⟩ (.int .i64 0)).setCell ⟨gr, 2, none⟩ (.int .i64 0)).setCell ⟨gr, 3, none⟩ (.slice none 0 0)).setCell ⟨gr, 4, none⟩ (.slice none 0 0) = W9 at *
  have r0 : W9.cell? ⟨gr, 0, none⟩ = some (.int .i64 0) := p7.blk_cell 0
  have r1 : W9.cell? ⟨gr, 1, none⟩ = some (.int .i64 0) := p7.blk_cell 1
  have r2 : W9.cell? ⟨gr, 2, none⟩ = some (.int .i64 0) := p7.blk_cell 2
  have r3 : W9.cell? ⟨gr, 3, none⟩ = some (.slice none 0 0) := p7.blk_cell 3
  have r4 : W9.cell? ⟨gr, 4, none⟩ = some (.slice none 0 0) := p7.blk_cell 4
  have rl := p7.blk_lt
  (try simp only [Exit.inBlock, Exit.then])
  refine bodyPost_ret ((results_cell_tmp rfl _ _ _).trans (?hres : _ = Result.ok (Value.tuple #[recZ, .bool false]) W9)) rfl ?_
  case hres => go_simp
  exact ⟨rfl, hgb ▸ (p7.drop.weaken l1).toBelow en7⟩
end Go.Proofs.Ytelmhcbdpimaaaa
