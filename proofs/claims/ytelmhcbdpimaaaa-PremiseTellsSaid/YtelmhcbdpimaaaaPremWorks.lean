/- The premise: works. -/
import Derived.Test.YtelmhcbdpimaaaaPremLaw
set_option linter.unusedVariables false
set_option linter.unusedSimpArgs false
namespace Go.Proofs.Ytelmhcbdpimaaaa
open Go.RowKit Go.Cw Go.Fl
attribute [local go_sem ↓] eql_id neq_id
abbrev wkC : Cm := (2, ⟨#[107]⟩, 4607182418800017408)
abbrev wkA (v : Value) : Rc := ((0, 1), 1, .slice none 0 0, v, [], [wkC])
abbrev wkB (v : Value) : Rc := ((0, 2), 1, .slice none 0 0, v, [], [wkC])
abbrev wkL : List Rp := [((0, 1), 1, [], [wkC]), ((0, 2), 1, [], [wkC])]
theorem wk_err : gErr [] wkL = 0 := by decide +kernel
theorem wk_fine : mendL (fineL wkL) = [((0, 1), 1, [], [wkC]), ((0, 2), 1, [(0, 1)], [wkC])] := by kernel_rfl
theorem wk_holds (L : List Rc) (h : L.map rp = wkL) : holdsR (grS L) = ((0, 1), (0, 2), false) := by
  have e : grS L = wkL := by
    unfold grS
    rw [rids_rp, h]
    kernel_rfl
  rw [e]
  decide +kernel
theorem wk_edge (L : List Rc) (h : L.map rp = wkL) : edgeG (L.map rp) (0, 1) (0, 2) = false := by
  rw [h]
  decide +kernel
theorem wk_cm : CmW wkC := ⟨by decide +kernel, by decide +kernel⟩
set_option maxRecDepth 100000 in
set_option maxHeartbeats 6400000 in
theorem works20 (w : World) : Calls Try.prog 11 #[] w fun e w' => e = .returned (.bool true) ∧ Below w.heap.size w w' := by
  have k1 := (St.start w).row_lit 90 3 1 #[.int .i64 2, .string ⟨#[107]⟩, .float .f64 4607182418800017408] rfl (by decide)
  obtain ⟨H1, l1, h1, hB⟩ := k1.row_keep
  have e1 : (w.alloc (.cells #[.int .i64 2, .string ⟨#[107]⟩, .float .f64 4607182418800017408] 90)).heap.size = w.heap.size + 1 := by simp
  obtain ⟨V, hV⟩ : ∃ V, V = Value.slice (some ⟨w.heap.size, 0, none⟩) 1 1 := ⟨_, rfl⟩
  rw [← hV] at hB
  obtain ⟨H2, l2, h2, xa⟩ := St.rcBox h1 (wkA V)
  obtain ⟨H3, l3, h3, xb⟩ := St.rcBox h2 (wkB V)
  have h4 := h3.row_lit 32 5 2 #[.int .i64 0, .int .i64 1, .int .i64 1, .slice none 0 0, V, .int .i64 0, .int .i64 2, .int .i64 1, .slice none 0 0, V] rfl (by decide)
  obtain ⟨H4, l4, h5, hR⟩ := h4.row_keep
  have en5 := ((((Env.refl w).alloc (.cells #[.int .i64 2, .string ⟨#[107]⟩, .float .f64 4607182418800017408] 90)).alloc (.cells (rcA (wkA V)) 32)).alloc (.cells (rcA (wkB V)) 32)).alloc (.cells #[.int .i64 0, .int .i64 1, .int .i64 1, .slice none 0 0, V, .int .i64 0, .int .i64 2, .int .i64 1, .slice none 0 0, V] 32)
  have e2 : ((w.alloc (.cells #[.int .i64 2, .string ⟨#[107]⟩, .float .f64 4607182418800017408] 90)).alloc (.cells (rcA (wkA V)) 32)).heap.size = w.heap.size + 1 + 1 := by simp
  have e3 : (((w.alloc (.cells #[.int .i64 2, .string ⟨#[107]⟩, .float .f64 4607182418800017408] 90)).alloc (.cells (rcA (wkA V)) 32)).alloc (.cells (rcA (wkB V)) 32)).heap.size = w.heap.size + 1 + 1 + 1 := by simp
  rw [e1] at xa
  rw [e2] at xb
  rw [e3] at hR
  have xa4 := xa.mono (Hp.le_trans l3 l4)
  have xb4 := xb.mono l4
  have hB4 := hB.mono (Hp.le_trans l2 (Hp.le_trans l3 l4))
  have lw : Hp.le (snap w) H4 := Hp.le_trans l1 (Hp.le_trans l2 (Hp.le_trans l3 l4))
  clear xa xb hB k1 h1 h2 h3 h4 l1 l2 l3 l4 e1 e2 e3
  subst hV
  have hrs : ∀ (H : Hp) (W : World) (fr : List HA), Hp.le H4 H → St H fr W → ∀ x ∈ [wkA (.slice (some ⟨w.heap.size, 0, none⟩) 1 1), wkB (.slice (some ⟨w.heap.size, 0, none⟩) 1 1)], RcR W x := fun H W fr hl h x hx => by
    have hb := (hB4.mono hl).rw h
    rcases List.mem_cons.1 hx with rfl | hx
    · exact ⟨Rw.nil _ _, hb, fun c hc => by rw [List.mem_singleton.1 hc]; exact wk_cm⟩
    · obtain rfl := List.mem_singleton.1 hx
      exact ⟨Rw.nil _ _, hb, fun c hc => by rw [List.mem_singleton.1 hc]; exact wk_cm⟩
  have hN := newGr_any _ [wkA (.slice (some ⟨w.heap.size, 0, none⟩) 1 1), wkB (.slice (some ⟨w.heap.size, 0, none⟩) 1 1)] _ (hR.rw h5) (hrs _ _ _ (Hp.le_refl _) h5) (by simp)
  replace hN := Lib.hid hN
  replace hrs := Lib.hid hrs
  go_enter Try.func11, Try.ntmps11
  go_wp2_with fail
  try simp only [rcA] at h5 en5 hN
  generalize (((w.alloc (.cells #[.int .i64 2, .string ⟨#[107]⟩, .float .f64 4607182418800017408] 90)).alloc (.cells #[.int .i64 0, .int .i64 1, .int .i64 1, .slice none 0 0, .slice (some ⟨w.heap.size, 0, none⟩) 1 1] 32)).alloc (.cells #[.int .i64 0, .int .i64 2, .int .i64 1, .slice none 0 0, .slice (some ⟨w.heap.size, 0, none⟩) 1 1] 32)).alloc (.cells #[.int .i64 0, .int .i64 1, .int .i64 1, .slice none 0 0, .slice (some ⟨w.heap.size, 0, none⟩) 1 1, .int .i64 0, .int .i64 2, .int .i64 1, .slice none 0 0, .slice (some ⟨w.heap.size, 0, none⟩) 1 1] 32) = W5 at *
  generalize hg1 : w.heap.size + 1 = ga at *
  generalize hg2 : ga + 1 = gb at *
  generalize hn : w.heap.size = n at *
  refine hN.out.mono ?_
  intro e w6 he
  obtain ⟨-, p, L, H6, l6, h6, hG, hLm, en6, rfl⟩ := (NewR.ok he (by simp)).resolve_right (fun h => h.1 wk_err)
  have l46 : Hp.le H4 H6 := Hp.le_trans (fun k o hk => h5.imm k o hk) l6
  have en7 := en5.trans en6
  have hho := wk_holds L hLm
  have hed := wk_edge L hLm
  replace hLm := Lib.hid hLm
  clear hN he en5 en6 l6 h5
  go_wp2_with fail
  refine (holds_any p L H6 [] w6 h6 hG).mono ?_
  rintro e w7 ⟨H7, a, b, ok, hr, l7, h7, en8, rfl⟩
  rw [hho] at hr
  simp only [Prod.mk.injEq] at hr
  obtain ⟨⟨rfl, rfl⟩, ⟨rfl, rfl⟩, rfl⟩ := hr
  replace en8 := en7.trans en8
  obtain ⟨H8, l8, h8, ya⟩ := h7.box #[.int .i64 0, .int .i64 1] 28
  obtain ⟨H9, l9, h9, yb⟩ := h8.box #[.int .i64 0, .int .i64 2] 28
  have e1 : (w7.alloc (.cells #[.int .i64 0, .int .i64 1] 28)).heap.size = w7.heap.size + 1 := by simp
  rw [e1] at yb
  have l49 := Hp.le_trans l46 (Hp.le_trans l7 (Hp.le_trans l8 l9))
  have en9 := (en8.alloc (.cells #[.int .i64 0, .int .i64 1] 28)).alloc (.cells #[.int .i64 0, .int .i64 2] 28)
  have xa9 := xa4.mono l49
  have xb9 := xb4.mono l49
  have hG9 := hG.mono (Hp.le_trans l7 (Hp.le_trans l8 l9))
  have h10 := h9.row_lit 32 5 2 #[.int .i64 0, .int .i64 1, .int .i64 1, .slice none 0 0, .slice (some ⟨n, 0, none⟩) 1 1, .int .i64 0, .int .i64 2, .int .i64 1, .slice none 0 0, .slice (some ⟨n, 0, none⟩) 1 1] rfl (by decide)
  have en10 := en9.alloc (.cells #[.int .i64 0, .int .i64 1, .int .i64 1, .slice none 0 0, .slice (some ⟨n, 0, none⟩) 1 1, .int .i64 0, .int .i64 2, .int .i64 1, .slice none 0 0, .slice (some ⟨n, 0, none⟩) 1 1] 32)
  have e2 : ((w7.alloc (.cells #[.int .i64 0, .int .i64 1] 28)).alloc (.cells #[.int .i64 0, .int .i64 2] 28)).heap.size = w7.heap.size + 1 + 1 := by simp
  rw [e2] at h10
  have hM := mend_any (.slice (some ⟨w7.heap.size + 1 + 1, 0, none⟩) 2 2) [wkA (.slice (some ⟨n, 0, none⟩) 1 1), wkB (.slice (some ⟨n, 0, none⟩) 1 1)] _ (h10.row_rw (by omega)) (hrs.out _ _ _ l49 h10) (by simp)
  replace hM := Lib.hid hM
  have c0 := h9.cell xa9.1
  have c1 := h9.cell xa9.2.1
  have c2 := h9.cell xa9.2.2.1
  have c3 := h9.cell xa9.2.2.2.1
  have c4 := h9.cell xa9.2.2.2.2
  have cl := World.block_lt_of_cell? _ _ c0
  have d0 := h9.cell xb9.1
  have d1 := h9.cell xb9.2.1
  have d2 := h9.cell xb9.2.2.1
  have d3 := h9.cell xb9.2.2.2.1
  have d4 := h9.cell xb9.2.2.2.2
  have dl := World.block_lt_of_cell? _ _ d0
  have c0' := h7.cell ((xa4.mono (Hp.le_trans l46 l7)).1)
  have c1' := h7.cell ((xa4.mono (Hp.le_trans l46 l7)).2.1)
  have c2' := h7.cell ((xa4.mono (Hp.le_trans l46 l7)).2.2.1)
  have c3' := h7.cell ((xa4.mono (Hp.le_trans l46 l7)).2.2.2.1)
  have c4' := h7.cell ((xa4.mono (Hp.le_trans l46 l7)).2.2.2.2)
  have cl' := World.block_lt_of_cell? _ _ c0'
  have d0' := h7.cell ((xb4.mono (Hp.le_trans l46 l7)).1)
  have d1' := h7.cell ((xb4.mono (Hp.le_trans l46 l7)).2.1)
  have d2' := h7.cell ((xb4.mono (Hp.le_trans l46 l7)).2.2.1)
  have d3' := h7.cell ((xb4.mono (Hp.le_trans l46 l7)).2.2.2.1)
  have d4' := h7.cell ((xb4.mono (Hp.le_trans l46 l7)).2.2.2.2)
  have dl' := World.block_lt_of_cell? _ _ d0'
  replace hed := Lib.hid hed
  clear hho h6 h8 e1 e2
  go_wp2_with fail
  generalize ((w7.alloc (.cells #[.int .i64 0, .int .i64 1] 28)).alloc (.cells #[.int .i64 0, .int .i64 2] 28)).alloc (.cells #[.int .i64 0, .int .i64 1, .int .i64 1, .slice none 0 0, .slice (some ⟨n, 0, none⟩) 1 1, .int .i64 0, .int .i64 2, .int .i64 1, .slice none 0 0, .slice (some ⟨n, 0, none⟩) 1 1] 32) = W10 at *
  refine hM.out.mono ?_
  rintro e w11 ⟨mv, M, H11, rfl, l11, h11, en11, hMr, hMd⟩
  change M.map rp = mendL (fineL wkL) at hMr
  rw [wk_fine] at hMr
  obtain ⟨m1, m2, rfl⟩ : ∃ m1 m2, M = [m1, m2] := by
    have := congrArg List.length hMr
    simp only [List.length_map, List.length_cons, List.length_nil] at this
    match M, this with
    | [m1, m2], _ => exact ⟨m1, m2, rfl⟩
  have hm2 : m2.2.2.2.2.1 = [(0, 1)] := by
    simp only [List.map_cons, List.map_nil, List.cons.injEq, and_true] at hMr
    exact congrArg (fun z : Rp => z.2.2.1) hMr.2
  obtain ⟨q1, q2, q3, hq, hq4, _⟩ := (hMd m2 (by simp)).d.form
  rw [idl_len, hm2] at hq4
  obtain rfl : q2 = 1 := by simp at hq4; omega
  obtain ⟨v1, v2, v3, rfl, hv4, _⟩ := h11.row_form
  rw [recs_len] at hv4
  obtain rfl : v2 = 2 := by simp at hv4; omega
  obtain ⟨mb, mo, hA, -⟩ := (h11.row_rw (by omega)).cells (by omega)
  cases hA
  have f8 := St.row_at h11 ((recs_get [m1, m2] 1 (by simp)).2.2.2.1)
  simp only [List.getElem_cons_succ, List.getElem_cons_zero, Nat.one_mul] at f8
  rw [hq] at f8
  have fl := World.block_lt_of_cell? _ _ f8
  have b11 := (h11.weaken l11).toBelow en11
  have h12 := h10.below b11
  have en12 := en10.trans (bel_env b11)
  have s0 := h12.cell (Hp.cell_le l9 (ya 0 _ rfl))
  have s1 := h12.cell (Hp.cell_le l9 (ya 1 _ rfl))
  have sl := World.block_lt_of_cell? _ _ s0
  have t0 := h12.cell (yb 0 _ rfl)
  have t1 := h12.cell (yb 1 _ rfl)
  have tl := World.block_lt_of_cell? _ _ t0
  clear c0 c1 c2 c3 c4 cl d0 d1 d2 d3 d4 dl c0' c1' c2' c3' c4' cl' d0' d1' d2' d3' d4' dl' hM hMr hm2 hMd
  have c0 := h12.cell xa9.1
  have c1 := h12.cell xa9.2.1
  have cl := World.block_lt_of_cell? _ _ c0
  have d0 := h12.cell xb9.1
  have d1 := h12.cell xb9.2.1
  have dl := World.block_lt_of_cell? _ _ d0
  have hE := premEdge_any p L (0, 1) (0, 2) H9 _ _ h12.swap hG9
  rw [hed.out] at hE
  replace hE := Lib.hid hE
  replace hq := Lib.hid hq
  go_wp2_with fail
  refine hE.out.mono ?_
  rintro e w13 ⟨H13, l13, h13, en13, rfl⟩
  go_wp2_with fail
  go_ret
  exact ⟨rfl, (h13.weaken (Hp.le_trans lw (Hp.le_trans l49 l13))).toBelow (en12.trans en13)⟩
end Go.Proofs.Ytelmhcbdpimaaaa
