/- Graphs: what records bring. -/
import Derived.Test.YtelmhcbdpimaaaaEdges2
set_option linter.unusedVariables false
set_option linter.unusedSimpArgs false
namespace Go.Proofs.Ytelmhcbdpimaaaa
open Go.RowKit Go.Cw Go.Fl
attribute [local go_sem ↓] eql_id neq_id
theorem entsR_split {L : List Rc} {pre post : List (Id × Rc)} {p : Id × Rc} (h : entsR L = pre ++ p :: post) : ∃ A x B, L = A ++ x :: B ∧ p = (x.1, x) ∧ pre = entsR A ∧ post = entsR B := by
  unfold entsR at h
  obtain ⟨A, q, rfl, hA, hq⟩ := List.map_eq_append_iff.1 h
  obtain ⟨x, B, rfl, hx, hB⟩ := List.map_eq_cons_iff.1 hq
  exact ⟨A, x, B, rfl, hx.symm, hA.symm, hB.symm⟩
theorem wpList_rnext {H : Hp} {fr : List HA} {w : World} {g r : Nat} {L left : List Rc} {ops : Array Oper} {rest : List Oper} {o : Oper} {a : Act} {Q : Exit → Act → World → Prop}
    (hst : St H (Rg recC g r (entsR L) (entsR left) :: fr) w) (hg : o.guard = none) (it : Operand) (hop : o.op = Op.next it false) (hit : a.eval it = .pointer (some ⟨r, 0, none⟩))
    (hDone : left = [] → wpList Try.prog ops Q rest (a.put o.dst (.tuple #[.bool false])) w)
    (hMore : ∀ (pre post : List Rc) (x : Rc) (w' : World), left = pre ++ x :: post → St H (Rg recC g r (entsR L) (entsR (pre ++ post)) :: fr) w' → Env w w' → (Instr.entry (.pointer (some ⟨r, 0, none⟩))).run Try.prog w' = .ok (.tuple #[idV x.1, recV x]) w' →
      wpList Try.prog ops Q rest (a.put o.dst (.tuple #[.bool true, idV x.1, recV x])) w') : wpList Try.prog ops Q (o :: rest) a w := by
  refine wpList_mnext hst hg it hop hit (fun h => hDone (by cases left with | nil => rfl | cons x l => simp [entsR] at h)) ?_
  intro pre post p w' hl h' en hen
  obtain ⟨A, x, B, rfl, rfl, rfl, rfl⟩ := entsR_split hl
  refine hMore A B x w' rfl ?_ en hen
  unfold entsR at *
  rw [List.map_append]
  exact h'
theorem rgr_left {H : Hp} {fr : List HA} {w : World} {g r : Nat} {L left : List Rc} (h : St H (Rg recC g r (entsR L) (entsR left) :: fr) w) : w.rangeLeft g r = left.length := h.get (fun S hS => by
  obtain ⟨⟨hne, es, clock, since, seen, c0, h1, h2, h3, h4, h5, h6, h7, h8⟩, hS⟩ := hS
  have := congrArg List.length h8
  simp only [List.length_map, entsR_len] at this
  simp only [World.rangeLeft, h1, h4]
  simpa using this)
theorem flat_le (f : Rc → List Id) (L : List Rc) (h : ∀ x ∈ L, (f x).length ≤ 16) : (L.flatMap f).length ≤ 16 * L.length := by
  induction L with
  | nil => simp
  | cons x r ih =>
    have h1 := ih (fun y hy => h y (List.mem_cons_of_mem _ hy))
    have h2 := h x (by simp)
    rw [List.flatMap_cons, List.length_append, List.length_cons]
    omega
set_option maxRecDepth 100000 in
set_option maxHeartbeats 3200000 in
theorem gathered_any (p : Nat) (L : List Rc) (f : Rc → List Id) (fn : Nat) (caps : Array Value) (H : Hp) (fr : List HA) (w : World) (h : St H (GrA p L :: fr) w) (hLd : ∀ x ∈ L, RcD H x) (hf : ∀ x ∈ L, (f x).length ≤ 16) (hLl : L.length ≤ 1000000)
    (eg : ∀ args w, (callFunc fn args).run Try.prog w = .ok (.enter fn args) w)
    (hO : ∀ x ∈ L, ∀ (fr' : List HA) (w' : World), St H (GrA p L :: fr') w' → Calls Try.prog fn (#[recV x] ++ caps) w' (fun e w'' => ∃ v, e = .returned v ∧ Rw w'' 2 v (idl (f x)) ∧ Below w'.heap.size w' w'')) :
    Calls Try.prog 96 #[grP p, .func (.func fn) #[] caps] w fun e w' => ∃ v R, e = .returned v ∧ St H (Row 28 2 v (idl R) :: GrA p L :: fr) w' ∧ Env w w' ∧ Rises R ∧ ∀ a, a ∈ R ↔ ∃ x ∈ L, a ∈ f x := by
  obtain ⟨g, h1⟩ := grOpen h
  have hc : w.cell? ⟨p, 0, none⟩ = some (.map (some g)) := h1.blk_cell 0
  have hl := h1.blk_lt
  have hfl := flat_le f L hf
  go_enter Try.func96, Try.ntmps96
  go_wp2_with (at_range; refine wpList_mrange h1.swap rfl (.tmp 14) rfl Try.underlying95 rfl ?_; intro w2 h2 en2)
  go_frame
  have h3 := (h2.row_nil 28 2)
  generalize w.heap.size = r at *
  go_loopw [5] (fun lv wr => ∃ (out : List Id) (left : List Rc), St H (Row 28 2 lv (idl out) :: Rg recC g r (entsR L) (entsR left) :: Blk p #[.map (some g), .int .i64 (edgesOf L : Int)] 99 :: fr) wr ∧ Env w wr ∧ Hid ((out ++ left.flatMap f).Perm (L.flatMap f)) ∧ Hid (∀ x ∈ left, x ∈ L)) (fun _ wr => wr.rangeLeft g r)
  case atStart => exact ⟨[], L, h3, en2, Lib.hid (List.Perm.refl _), Lib.hid (fun _ h => h)⟩
  case round =>
    clear h h1 h2 h3 hc hl en2
    obtain ⟨out, left, hst, hen, HP, HS⟩ := hrel
    go_wp2_with (at_next; refine wpList_rnext hst.swap rfl (.tmp 15) rfl rfl ?_ ?_)
    · intro hl0
      subst hl0
      have hperm : out.Perm (L.flatMap f) := by simpa using HP.out
      have hlo : out.length ≤ 16 * L.length := by rw [hperm.length_eq]; exact hfl
      go_wp2_with fail
      refine (identSorted_any _ out _ (hst.row_rw (by omega)) (by omega)).mono ?_
      rintro e w6 he
      obtain ⟨v, rfl, h6, en6⟩ := ResE.lift hst he
      go_wp2_with fail
      go_ret
      have a1 : St H (Row 28 2 v (idl (runs (idSort out))) :: Rg recC g r (entsR L) (entsR []) :: Blk p #[.map (some g), .int .i64 (edgesOf L : Int)] 99 :: fr) w6 := h6.swap.drop
      have a2 := a1.swap.rg_end
      have a3 : St H (Blk p #[.map (some g), .int .i64 (edgesOf L : Int)] 99 :: Mp recC g (entsR L) :: Row 28 2 v (idl (runs (idSort out))) :: fr) w6 := a2.pick 2 (by simp)
      refine ⟨v, runs (idSort out), rfl, (grShut a3).swap, hen.trans en6, runs_sort_rises out, fun a => ?_⟩
      rw [runs_sort_mem, hperm.mem_iff, List.mem_flatMap]
    · intro pre post x0 x1 x2 dv bv D Bt w5 hleft h5 en5 hent
      have hxL : (((x0, x1), x2, dv, bv, D, Bt) : Rc) ∈ L := HS.out _ (by rw [hleft]; simp)
      have hxd := hLd _ hxL
      have hcl := hO _ hxL
      have hfx := hf _ hxL
      have hms := Lib.hid (rgr_left hst.swap)
      have HN : Hid (((out ++ f ((x0, x1), x2, dv, bv, D, Bt)) ++ (pre ++ post).flatMap f).Perm (L.flatMap f)) := Lib.hid (by
        refine List.Perm.trans ?_ HP.out
        rw [hleft, List.flatMap_append, List.flatMap_append, List.flatMap_cons, List.append_assoc]
        refine List.Perm.append_left out ?_
        rw [← List.append_assoc, ← List.append_assoc]
        exact (List.perm_append_comm).append_right _)
      have HS' : Hid (∀ y ∈ pre ++ post, y ∈ L) := Lib.hid (fun y hy => HS.out y (by rw [hleft]; rcases List.mem_append.1 hy with h | h <;> simp [h]))
      have hol : (out ++ f ((x0, x1), x2, dv, bv, D, Bt)).length ≤ 16 * L.length := by
        have h1 := HN.out.length_eq
        rw [List.length_append] at h1
        omega
      rw [List.length_append] at hol
      replace hleft := Lib.hid hleft
      generalize f ((x0, x1), x2, dv, bv, D, Bt) = fx at *
      obtain ⟨d1, d2, d3, hdv, _⟩ := hxd.d.form
      obtain ⟨b1, b2, b3, hbv, _⟩ := hxd.b.form
      simp only at hdv hbv
      subst hdv hbv
      clear hxd hxL HP HS hst
      obtain ⟨H', hle, h6, hy⟩ := h5.box #[.int .i64 x0, .int .i64 x1, .int .i64 x2, .slice d1 d2 d3, .slice b1 b2 b3] 32
      have y0 := h6.cell (hy 0 _ rfl)
      have y1 := h6.cell (hy 1 _ rfl)
      have y2 := h6.cell (hy 2 _ rfl)
      have y3 := h6.cell (hy 3 _ rfl)
      have y4 := h6.cell (hy 4 _ rfl)
      have yl := World.block_lt_of_cell? _ _ y0
      have en6 := (hen.trans en5).alloc (.cells #[.int .i64 x0, .int .i64 x1, .int .i64 x2, .slice d1 d2 d3, .slice b1 b2 b3] 32)
      have hcl2 := hcl _ _ (grShut ((h6.weaken hle).rg_end.pick 2 (by simp)))
      replace hcl2 := Lib.hid hcl2
      clear hy hcl
      go_wp2_with fail
      generalize w5.heap.size = gb at *
      generalize (w5.alloc (.cells #[.int .i64 x0, .int .i64 x1, .int .i64 x2, .slice d1 d2 d3, .slice b1 b2 b3] 32)) = W at *
      refine (hcl2.out).mono ?_
      rintro e w7 ⟨v7, rfl, hr7, hb7⟩
      have h7 := (h6.below hb7).weaken hle
      have h8 := h7.swap
      obtain ⟨A7, n7, c7, rfl, hn7, _⟩ := hr7.form
      rw [idl_len] at hn7
      obtain rfl : n7 = fx.length := by omega
      go_wp2_with (at_builtin; refine wpList_append rfl (.tmp 20) (.tmp 23) 29 29 rfl Try.underlying29 (.inl ⟨_, Try.underlying29⟩) (.agg #[.int .i64 0, .int .i64 0]) 16 info_id rfl (by decide) (by decide) rfl rfl (h8) (News.rw hr7 (idl_one fx)) ?apB1 ?apK1)
      try case apB1 => first | omega | (simp; omega) | (simp [idl_len]; omega) | skip
      intro v' w9 h9 en9
      go_wp2_with fail
      go_roundw
      case rel => exact ⟨out ++ fx, pre ++ post, by rw [idl_append]; exact h9, (en6.trans (bel_env hb7)).trans en9, HN, HS'⟩
      case measure => rw [rgr_left h9.swap, hms.out, hleft.out]; simp
end Go.Proofs.Ytelmhcbdpimaaaa
