/- Joined texts: Edges3, Edges4, Edges5. -/
import Derived.Test.YtcbckeoalmjcoaaGreatCGR9
/- Graphs: what records bring. -/
set_option linter.unusedVariables false
set_option linter.unusedSimpArgs false
namespace Go.Proofs.YtcbckeoalmjcoaaGreat
open Go.RowKit Go.Cw Go.Fl
attribute [local go_sem ↓] eql_id neq_id
theorem entsR_split {L : List Rc} {pre post : List (Id × Rc)} {p : Id × Rc} (h : entsR L = pre ++ p :: post) : ∃ A x B, L = A ++ x :: B ∧ p = (x.1, x) ∧ pre = entsR A ∧ post = entsR B := by
  unfold entsR at h
  obtain ⟨A, q, rfl, hA, hq⟩ := List.map_eq_append_iff.1 h
  obtain ⟨x, B, rfl, hx, hB⟩ := List.map_eq_cons_iff.1 hq
  exact ⟨A, x, B, rfl, hx.symm, hA.symm, hB.symm⟩
theorem wpList_rnext {H : Hp} {fr : List HA} {w : World} {g r : Nat} {L left : List Rc} {ops : Array Oper} {rest : List Oper} {o : Oper} {a : Act} {Q : Exit → Act → World → Prop}
    (hst : St H (Rg recC g r (entsR L) (entsR left) :: fr) w) (hg : o.guard = none) (it : Operand) (hop : o.op = Op.next it false) (hit : a.eval it = .pointer (some ⟨r, 0, none⟩))
    (hDone : left = [] → wpList Tryz.prog ops Q rest (a.put o.dst (.tuple #[.bool false])) w)
    (hMore : ∀ (pre post : List Rc) (x : Rc) (w' : World), left = pre ++ x :: post → St H (Rg recC g r (entsR L) (entsR (pre ++ post)) :: fr) w' → Env w w' → (Instr.entry (.pointer (some ⟨r, 0, none⟩))).run Tryz.prog w' = .ok (.tuple #[idV x.1, recV x]) w' →
      wpList Tryz.prog ops Q rest (a.put o.dst (.tuple #[.bool true, idV x.1, recV x])) w') : wpList Tryz.prog ops Q (o :: rest) a w := by
  refine wpList_mnext hst hg it hop hit (fun h => hDone (by cases left with | nil => rfl | cons x l => simp [entsR] at h)) ?_
  intro pre post p w' hl h' en hen
  obtain ⟨A, x, B, rfl, rfl, rfl, rfl⟩ := entsR_split hl
  refine hMore A B x w' rfl ?_ en hen
  unfold entsR at *
  rw [List.map_append]
  exact h'
theorem rgr_left {H : Hp} {fr : List HA} {w : World} {g r : Nat} {L left : List Rc} (h : St H (Rg recC g r (entsR L) (entsR left) :: fr) w) : w.rangeLeft g r = left.length := h.get (fun S hS => by
  obtain ⟨⟨hne, es, clock, since, seen, c0, h1, h2, h3, h4, h5, h6, h7, h8⟩, hS⟩ := hS
  have := congrArg List.length h8
  simp only [List.length_map, entsR_len] at this
  simp only [World.rangeLeft, h1, h4]
  simpa using this)
theorem flat_le (f : Rc → List Id) (L : List Rc) (h : ∀ x ∈ L, (f x).length ≤ 16) : (L.flatMap f).length ≤ 16 * L.length := by
  induction L with
  | nil => simp
  | cons x r ih =>
    have h1 := ih (fun y hy => h y (List.mem_cons_of_mem _ hy))
    have h2 := h x (by simp)
    rw [List.flatMap_cons, List.length_append, List.length_cons]
    omega
set_option maxRecDepth 100000 in
set_option maxHeartbeats 3200000 in
theorem gathered_any (p : Nat) (L : List Rc) (f : Rc → List Id) (fn : Nat) (caps : Array Value) (H : Hp) (fr : List HA) (w : World) (h : St H (GrA p L :: fr) w) (hLd : ∀ x ∈ L, RcD H x) (hf : ∀ x ∈ L, (f x).length ≤ 16) (hLl : L.length ≤ 1000000)
    (eg : ∀ args w, (callFunc fn args).run Tryz.prog w = .ok (.enter fn args) w)
    (hO : ∀ x ∈ L, ∀ (fr' : List HA) (w' : World), St H (GrA p L :: fr') w' → Calls Tryz.prog fn (#[recV x] ++ caps) w' (fun e w'' => ∃ v, e = .returned v ∧ Rw w'' 2 v (idl (f x)) ∧ Below w'.heap.size w' w'')) :
    Calls Tryz.prog 74 #[grP p, .func (.func fn) #[] caps] w fun e w' => ∃ v R, e = .returned v ∧ St H (Row 41 2 v (idl R) :: GrA p L :: fr) w' ∧ Env w w' ∧ Rises R ∧ ∀ a, a ∈ R ↔ ∃ x ∈ L, a ∈ f x := by
  obtain ⟨g, h1⟩ := grOpen h
  have hc : w.cell? ⟨p, 0, none⟩ = some (.map (some g)) := h1.blk_cell 0
  have hl := h1.blk_lt
  have hfl := flat_le f L hf
  go_enter Tryz.func74, Tryz.ntmps74
  go_wp2_with (at_range; refine wpList_mrange h1.swap rfl (.tmp 14) rfl Tryz.underlying56 rfl ?_; intro w2 h2 en2)
  go_frame
  have h3 := (h2.row_nil 41 2)
  generalize w.heap.size = r at *
  go_loopw [5] (fun lv wr => ∃ (out : List Id) (left : List Rc), St H (Row 41 2 lv (idl out) :: Rg recC g r (entsR L) (entsR left) :: Blk p #[.map (some g), .int .i64 (edgesOf L : Int)] 60 :: fr) wr ∧ Env w wr ∧ Hid ((out ++ left.flatMap f).Perm (L.flatMap f)) ∧ Hid (∀ x ∈ left, x ∈ L)) (fun _ wr => wr.rangeLeft g r)
  case atStart => exact ⟨[], L, h3, en2, Lib.hid (List.Perm.refl _), Lib.hid (fun _ h => h)⟩
  case round =>
    clear h h1 h2 h3 hc hl en2
    obtain ⟨out, left, hst, hen, HP, HS⟩ := hrel
    go_wp2_with (at_next; refine wpList_rnext hst.swap rfl (.tmp 15) rfl rfl ?_ ?_)
    · intro hl0
      subst hl0
      have hperm : out.Perm (L.flatMap f) := by simpa using HP.out
      have hlo : out.length ≤ 16 * L.length := by rw [hperm.length_eq]; exact hfl
      go_wp2_with fail
      refine (identSorted_any _ out _ (hst.row_rw (by omega)) (by omega)).mono ?_
      rintro e w6 he
      obtain ⟨v, rfl, h6, en6⟩ := ResE.lift hst he
      go_wp2_with fail
      go_ret
      have a1 : St H (Row 41 2 v (idl (runs (idSort out))) :: Rg recC g r (entsR L) (entsR []) :: Blk p #[.map (some g), .int .i64 (edgesOf L : Int)] 60 :: fr) w6 := h6.swap.drop
      have a2 := a1.swap.rg_end
      have a3 : St H (Blk p #[.map (some g), .int .i64 (edgesOf L : Int)] 60 :: Mp recC g (entsR L) :: Row 41 2 v (idl (runs (idSort out))) :: fr) w6 := a2.pick 2 (by simp)
      refine ⟨v, runs (idSort out), rfl, (grShut a3).swap, hen.trans en6, runs_sort_rises out, fun a => ?_⟩
      rw [runs_sort_mem, hperm.mem_iff, List.mem_flatMap]
    · intro pre post x0 x1 x2 dv bv D Bt w5 hleft h5 en5 hent
      have hxL : (((x0, x1), x2, dv, bv, D, Bt) : Rc) ∈ L := HS.out _ (by rw [hleft]; simp)
      have hxd := hLd _ hxL
      have hcl := hO _ hxL
      have hfx := hf _ hxL
      have hms := Lib.hid (rgr_left hst.swap)
      have HN : Hid (((out ++ f ((x0, x1), x2, dv, bv, D, Bt)) ++ (pre ++ post).flatMap f).Perm (L.flatMap f)) := Lib.hid (by
        refine List.Perm.trans ?_ HP.out
        rw [hleft, List.flatMap_append, List.flatMap_append, List.flatMap_cons, List.append_assoc]
        refine List.Perm.append_left out ?_
        rw [← List.append_assoc, ← List.append_assoc]
        exact (List.perm_append_comm).append_right _)
      have HS' : Hid (∀ y ∈ pre ++ post, y ∈ L) := Lib.hid (fun y hy => HS.out y (by rw [hleft]; rcases List.mem_append.1 hy with h | h <;> simp [h]))
      have hol : (out ++ f ((x0, x1), x2, dv, bv, D, Bt)).length ≤ 16 * L.length := by
        have h1 := HN.out.length_eq
        rw [List.length_append] at h1
        omega
      rw [List.length_append] at hol
      replace hleft := Lib.hid hleft
      generalize f ((x0, x1), x2, dv, bv, D, Bt) = fx at *
      obtain ⟨d1, d2, d3, hdv, _⟩ := hxd.d.form
      obtain ⟨b1, b2, b3, hbv, _⟩ := hxd.b.form
      simp only at hdv hbv
      subst hdv hbv
      clear hxd hxL HP HS hst
      obtain ⟨H', hle, h6, hy⟩ := h5.box #[.int .i64 x0, .int .i64 x1, .int .i64 x2, .slice d1 d2 d3, .slice b1 b2 b3] 53
      have y0 := h6.cell (hy 0 _ rfl)
      have y1 := h6.cell (hy 1 _ rfl)
      have y2 := h6.cell (hy 2 _ rfl)
      have y3 := h6.cell (hy 3 _ rfl)
      have y4 := h6.cell (hy 4 _ rfl)
      have yl := World.block_lt_of_cell? _ _ y0
      have en6 := (hen.trans en5).alloc (.cells #[.int .i64 x0, .int .i64 x1, .int .i64 x2, .slice d1 d2 d3, .slice b1 b2 b3] 53)
      have hcl2 := hcl _ _ (grShut ((h6.weaken hle).rg_end.pick 2 (by simp)))
      replace hcl2 := Lib.hid hcl2
      clear hy hcl
      go_wp2_with fail
      generalize w5.heap.size = gb at *
      generalize (w5.alloc (.cells #[.int .i64 x0, .int .i64 x1, .int .i64 x2, .slice d1 d2 d3, .slice b1 b2 b3] 53)) = W at *
      refine (hcl2.out).mono ?_
      rintro e w7 ⟨v7, rfl, hr7, hb7⟩
      have h7 := (h6.below hb7).weaken hle
      have h8 := h7.swap
      obtain ⟨A7, n7, c7, rfl, hn7, _⟩ := hr7.form
      rw [idl_len] at hn7
      obtain rfl : n7 = fx.length := by omega
      go_wp2_with (at_builtin; refine wpList_append rfl (.tmp 20) (.tmp 23) 35 35 rfl Tryz.underlying35 (.inl ⟨_, Tryz.underlying35⟩) (.agg #[.int .i64 0, .int .i64 0]) 16 info_id rfl (by decide) (by decide) rfl rfl (h8) (News.rw hr7 (idl_one fx)) ?apB1 ?apK1)
      try case apB1 => first | omega | (simp; omega) | (simp [idl_len]; omega) | skip
      intro v' w9 h9 en9
      go_wp2_with fail
      go_roundw
      case rel => exact ⟨out ++ fx, pre ++ post, by rw [idl_append]; exact h9, (en6.trans (bel_env hb7)).trans en9, HN, HS'⟩
      case measure => rw [rgr_left h9.swap, hms.out, hleft.out]; simp
end Go.Proofs.YtcbckeoalmjcoaaGreat

/- Graphs: Ids, Missing, Users. -/
set_option linter.unusedVariables false
set_option linter.unusedSimpArgs false
namespace Go.Proofs.YtcbckeoalmjcoaaGreat
open Go.RowKit Go.Cw Go.Fl
attribute [local go_sem ↓] eql_id neq_id
theorem Row.rwOf {H : Hp} {fr : List HA} {w : World} {v : Value} {l : List Id} (h : St H (Row 41 2 v (idl l) :: fr) w) : Rw w 2 v (idl l) := h.row_rw (by omega)
set_option maxRecDepth 100000 in
theorem gathered_nil (fv : Value) (w : World) : Calls Tryz.prog 74 #[.pointer none, fv] w fun e w' => e = .returned (.slice none 0 0) ∧ w = w' := by
  go_enter Tryz.func74, Tryz.ntmps74
  go_wp2_with fail
  go_ret
  exact ⟨rfl, rfl⟩
set_option maxRecDepth 100000 in
set_option maxHeartbeats 1600000 in
theorem ids1_any (x : Rc) (w : World) (hx : RcR w x) : Calls Tryz.prog 90 #[recV x] w fun e w' => ∃ v, e = .returned v ∧ Rw w' 2 v (idl [x.1]) ∧ Below w.heap.size w w' := by
  obtain ⟨⟨x0, x1⟩, x2, dv, bv, D, Bt⟩ := x
  obtain ⟨d1, d2, d3, hdv, _⟩ := hx.d.form
  obtain ⟨b1, b2, b3, hbv, _⟩ := hx.b.form
  simp only at hdv hbv
  subst hdv hbv
  clear hx
  have k1 := (St.start w).blk #[.int .i64 x0, .int .i64 x1, .int .i64 x2, .slice d1 d2 d3, .slice b1 b2 b3] 53
  have k2 := k1.row_lit 41 2 1 #[.int .i64 x0, .int .i64 x1] rfl (by decide)
  have en2 := ((Env.refl w).alloc (.cells #[.int .i64 x0, .int .i64 x1, .int .i64 x2, .slice d1 d2 d3, .slice b1 b2 b3] 53)).alloc (.cells #[.int .i64 x0, .int .i64 x1] 41)
  have e1 : (w.alloc (.cells #[.int .i64 x0, .int .i64 x1, .int .i64 x2, .slice d1 d2 d3, .slice b1 b2 b3] 53)).heap.size = w.heap.size + 1 := by simp
  rw [e1] at k2
  go_enter Tryz.func90, Tryz.ntmps90
  go_wp2_with fail
  go_ret
  exact ⟨_, rfl, k2.row_rw (by omega), k2.drop.drop.toBelow en2⟩
set_option maxRecDepth 100000 in
theorem grIds_nil (w : World) : Calls Tryz.prog 70 #[.pointer none] w fun e w' => e = .returned (.slice none 0 0) ∧ w = w' := by
  go_enter Tryz.func70, Tryz.ntmps70
  go_wp2_with fail
  refine (gathered_nil _ _).mono ?_
  rintro e w2 ⟨rfl, rfl⟩
  go_wp2_with fail
  go_ret
  exact ⟨rfl, rfl⟩
/-- What Ids, Missing, Users tell. -/
def Told (H : Hp) (p : Nat) (L : List Rc) (fr : List HA) (f : Rc → List Id) (w : World) (e : Ending) (w' : World) : Prop :=
  ∃ v R, e = .returned v ∧ St H (Row 41 2 v (idl R) :: GrA p L :: fr) w' ∧ Env w w' ∧ Rises R ∧ ∀ a, a ∈ R ↔ ∃ x ∈ L, a ∈ f x
set_option maxRecDepth 100000 in
set_option maxHeartbeats 1600000 in
theorem grIds_any (p : Nat) (L : List Rc) (H : Hp) (fr : List HA) (w : World) (h : St H (GrA p L :: fr) w) (hLd : ∀ x ∈ L, RcD H x) (hLl : L.length ≤ 1000000) :
    Calls Tryz.prog 70 #[grP p] w (Told H p L fr (fun x => [x.1]) w) := by
  have hG := gathered_any p L (fun x => [x.1]) 90 #[] H fr w h hLd (fun _ _ => by simp) hLl (enters_of Tryz.func90 (by kernel_rfl) rfl) (fun x hx fr' w' h' => ids1_any x w' ((hLd x hx).rw h'))
  replace hG := Lib.hid hG
  go_enter Tryz.func70, Tryz.ntmps70
  go_wp2_with fail
  refine hG.out.mono ?_
  rintro e w2 ⟨v, R, rfl, h2⟩
  go_wp2_with fail
  go_ret
  exact ⟨v, R, rfl, h2⟩
set_option maxRecDepth 100000 in
set_option maxHeartbeats 1600000 in
theorem users1_any (x : Rc) (a : Id) (cb : Nat) (w : World) (hx : RcR w x) (h0 : w.cell? ⟨cb, 0, none⟩ = some (.int .i64 a.1)) (h1 : w.cell? ⟨cb, 1, none⟩ = some (.int .i64 a.2)) :
    Calls Tryz.prog 75 #[recV x, .pointer (some ⟨cb, 0, none⟩)] w fun e w' => ∃ v, e = .returned v ∧ Rw w' 2 v (idl (if a ∈ x.2.2.2.2.1 then [x.1] else [])) ∧ Below w.heap.size w w' := by
  obtain ⟨⟨x0, x1⟩, x2, dv, bv, D, Bt⟩ := x
  obtain ⟨d1, d2, d3, hdv, _⟩ := hx.d.form
  obtain ⟨b1, b2, b3, hbv, _⟩ := hx.b.form
  have hD := hx.d
  simp only at hdv hbv hD
  subst hdv hbv
  clear hx
  have cl := World.block_lt_of_cell? _ _ h0
  obtain ⟨H1, l1, k1, y⟩ := (St.start w).box #[.int .i64 x0, .int .i64 x1, .int .i64 x2, .slice d1 d2 d3, .slice b1 b2 b3] 53
  have y0 := y 0 _ rfl
  have y1 := y 1 _ rfl
  have y2 := y 2 _ rfl
  clear y
  have bel1 := boxBelow w (.cells #[.int .i64 x0, .int .i64 x1, .int .i64 x2, .slice d1 d2 d3, .slice b1 b2 b3] 53)
  have hH := identHas_any (.slice d1 d2 d3) D a _ (hD.alloc (.cells #[.int .i64 x0, .int .i64 x1, .int .i64 x2, .slice d1 d2 d3, .slice b1 b2 b3] 53))
  by_cases hm : a ∈ D
  · rw [decide_eq_true hm] at hH
    replace hH := Lib.hid hH
    have hif : (if a ∈ D then [((x0, x1) : Id)] else []) = [(x0, x1)] := if_pos hm
    simp only [hif]
    clear hm hif
    go_enter Tryz.func75, Tryz.ntmps75
    go_wp2_with fail
    refine hH.out.mono ?_
    rintro e w2 ⟨rfl, hb2⟩
    have hw2 := bel1.trans (hb2.mono (by simp))
    have k2 := k1.below hb2
    have v0 := k2.cell y0
    have v1 := k2.cell y1
    have vl := World.block_lt_of_cell? _ _ v0
    have r3 := (St.start w2).row_lit 41 2 1 #[.int .i64 x0, .int .i64 x1] rfl (by decide)
    go_wp2_with fail
    go_ret
    exact ⟨_, rfl, r3.row_rw (by omega), hw2.trans ((boxBelow w2 _).mono hw2.size)⟩
  · rw [decide_eq_false hm] at hH
    replace hH := Lib.hid hH
    have hif : (if a ∈ D then [((x0, x1) : Id)] else []) = [] := if_neg hm
    simp only [hif]
    clear hm hif
    go_enter Tryz.func75, Tryz.ntmps75
    go_wp2_with fail
    refine hH.out.mono ?_
    rintro e w2 ⟨rfl, hb2⟩
    have hw2 := bel1.trans (hb2.mono (by simp))
    go_wp2_with fail
    go_ret
    exact ⟨_, rfl, Rw.nil _ _, hw2⟩
set_option maxRecDepth 100000 in
theorem grUsers_nil (a : Id) (w : World) : Calls Tryz.prog 42 #[.pointer none, idV a] w fun e w' => e = .returned (.slice none 0 0) ∧ Below w.heap.size w w' := by
  have hb := boxBelow w (.cells #[.int .i64 a.1, .int .i64 a.2] 41)
  have hmf : ∀ (fn : Fn) (first cap : Array Value) (w : World), (Instr.makeFunc fn first cap).run Tryz.prog w = .ok (.func fn first cap) w := fun _ _ _ _ => rfl
  go_enter Tryz.func42, Tryz.ntmps42
  go_wp2_with fail
  refine (gathered_nil _ _).mono ?_
  rintro e w2 ⟨rfl, rfl⟩
  go_wp2_with fail
  go_ret
  exact ⟨rfl, hb⟩
set_option maxRecDepth 100000 in
set_option maxHeartbeats 1600000 in
theorem grUsers_any (p : Nat) (L : List Rc) (a : Id) (H : Hp) (fr : List HA) (w : World) (h : St H (GrA p L :: fr) w) (hLd : ∀ x ∈ L, RcD H x) (hLl : L.length ≤ 1000000) :
    Calls Tryz.prog 42 #[grP p, idV a] w (Told H p L fr (fun x => if a ∈ x.2.2.2.2.1 then [x.1] else []) w) := by
  have hmf : ∀ (fn : Fn) (first cap : Array Value) (w : World), (Instr.makeFunc fn first cap).run Tryz.prog w = .ok (.func fn first cap) w := fun _ _ _ _ => rfl
  obtain ⟨H1, l1, h1, y⟩ := h.box #[.int .i64 a.1, .int .i64 a.2] 41
  have y0 := y 0 _ rfl
  have y1 := y 1 _ rfl
  clear y
  have en1 := (Env.refl w).alloc (.cells #[.int .i64 a.1, .int .i64 a.2] 41)
  have hG := gathered_any p L (fun x => if a ∈ x.2.2.2.2.1 then [x.1] else []) 75 #[.pointer (some ⟨w.heap.size, 0, none⟩)] H1 fr _ h1 (fun x hx => (hLd x hx).mono l1) (fun x _ => by split <;> simp) hLl (enters_of Tryz.func75 (by kernel_rfl) rfl) (fun x hx fr' w' h' => users1_any x a w.heap.size w' (((hLd x hx).mono l1).rw h') (h'.cell y0) (h'.cell y1))
  replace hG := Lib.hid hG
  go_enter Tryz.func42, Tryz.ntmps42
  go_wp2_with fail
  refine hG.out.mono ?_
  rintro e w2 ⟨v, R, rfl, h2, en2, hr, hm⟩
  go_wp2_with fail
  go_ret
  exact ⟨v, R, rfl, h2.weaken l1, en1.trans en2, hr, hm⟩
theorem filt_step (K : List Id) (D : List Id) (k : Nat) (h : k < D.length) : (D.take (k + 1)).filter (fun d => decide (d ∉ K)) = (D.take k).filter (fun d => decide (d ∉ K)) ++ (if D[k] ∈ K then [] else [D[k]]) := by
  rw [List.take_add_one, List.getElem?_eq_getElem h, List.filter_append]
  by_cases hk : D[k] ∈ K <;> simp [hk]
set_option maxRecDepth 100000 in
set_option maxHeartbeats 3200000 in
theorem missing1_any (x : Rc) (p : Nat) (L : List Rc) (cb : Nat) (H : Hp) (fr : List HA) (w : World) (h : St H (GrA p L :: fr) w) (hLd : ∀ x ∈ L, RcD H x) (hx : RcR w x) (hl16 : x.2.2.2.2.1.length ≤ 16) (h0 : w.cell? ⟨cb, 0, none⟩ = some (grP p)) :
    Calls Tryz.prog 107 #[recV x, .pointer (some ⟨cb, 0, none⟩)] w fun e w' => ∃ v, e = .returned v ∧ Rw w' 2 v (idl (x.2.2.2.2.1.filter (fun d => decide (d ∉ rids L)))) ∧ Below w.heap.size w w' := by
  obtain ⟨⟨x0, x1⟩, x2, dv, bv, D, Bt⟩ := x
  obtain ⟨d1, d2, d3, hdv, hd4, hd5, hd6⟩ := hx.d.form
  obtain ⟨b1, b2, b3, hbv, _⟩ := hx.b.form
  have hD := hx.d.rd
  simp only at hdv hbv hD hd4 hl16 ⊢
  subst hdv hbv
  rw [idl_len] at hd4
  obtain rfl : d2 = D.length := by omega
  clear hx
  have cl := World.block_lt_of_cell? _ _ h0
  have hHas := fun w' a (hb : Below w.heap.size w w') => grHas_any p L a H fr w' hLd (h.below hb)
  generalize rids L = K at *
  replace hHas := Lib.hid hHas
  obtain ⟨H1, l1, k1, y⟩ := (St.start w).box #[.int .i64 x0, .int .i64 x1, .int .i64 x2, .slice d1 D.length d3, .slice b1 b2 b3] 53
  have y2 := y 3 _ rfl
  clear y
  have en1 := (Env.refl w).alloc (.cells #[.int .i64 x0, .int .i64 x1, .int .i64 x2, .slice d1 D.length d3, .slice b1 b2 b3] 53)
  have c3 := k1.cell y2
  have c3l := World.block_lt_of_cell? _ _ c3
  go_enter Tryz.func107, Tryz.ntmps107
  go_wp2_with fail
  have k2 := k1.row_nil 41 2
  go_loopw [4, 10] (fun lv i wr => ∃ k : Nat, k ≤ D.length ∧ i = .int .i64 (k : Int) ∧ St (snap w) (Row 41 2 lv (idl ((D.take k).filter (fun d => decide (d ∉ K)))) :: []) wr ∧ Env w wr) (fun _ i _ => D.length - (intOf i).toNat)
  case atStart => exact ⟨0, by omega, by go_num, k2.weaken l1, en1⟩
  case round =>
    clear k1 k2 en1 c3 c3l
    obtain ⟨k, hk, rfl, hst, hen⟩ := hrel
    have hfl : ((D.take k).filter (fun d => decide (d ∉ K))).length ≤ 16 := Nat.le_trans (List.length_filter_le ..) (by rw [List.length_take]; omega)
    by_cases hlt : k < D.length
    · obtain ⟨b, off, hA, hcr⟩ := (hD.rw hst).cells (by omega)
      cases hA
      have p1 := hcr _ _ (idl_fst D k hlt)
      have p2 := hcr _ _ (idl_snd D k hlt)
      rw [← Nat.add_assoc] at p2
      clear hcr
      have pl := World.block_lt_of_cell? _ _ p1
      have hfs := filt_step K D k hlt
      generalize (D.take k).filter (fun d => decide (d ∉ K)) = out at *
      generalize D[k] = d at *
      obtain ⟨r, s⟩ := d
      simp only at p1 p2
      obtain ⟨H2, l2, h2, y⟩ := hst.box #[.int .i64 r, .int .i64 s] 41
      have z0 := y 0 _ rfl
      have z1 := y 1 _ rfl
      clear y
      have en2 := hen.alloc (.cells #[.int .i64 r, .int .i64 s] 41)
      have hb2 := (h2.weaken l2).drop.toBelow en2
      have u0 := h2.cell z0
      have u1 := h2.cell z1
      have ul := World.block_lt_of_cell? _ _ u0
      have g0 := (hb2.cell (p := ⟨cb, 0, none⟩) cl).trans h0
      have gl := World.block_lt_of_cell? _ _ g0
      have hC := hHas.out _ (r, s) hb2
      have hni : Hid (∀ q : Nat, q = q) := Lib.hid (fun _ => rfl)
      by_cases hm : ((r, s) : Id) ∈ K
      · rw [decide_eq_true hm] at hC
        rw [if_pos hm, List.append_nil] at hfs
        replace hC := Lib.hid hC
        replace hfs := Lib.hid hfs
        clear hm
        go_wp2_with fail
        generalize wr.heap.size = gb at *
        generalize wr.alloc (.cells #[.int .i64 r, .int .i64 s] 41) = W at *
        refine hC.out.mono ?_
        rintro e w4 ⟨rfl, hb4⟩
        go_wp2_with fail
        go_roundw
        case rel => exact ⟨k + 1, by omega, by go_num, by rw [hfs.out]; exact (h2.below hb4).weaken l2, en2.trans (bel_env hb4)⟩
        case measure => simp [intOf]; omega
      · rw [decide_eq_false hm] at hC
        rw [if_neg hm] at hfs
        replace hC := Lib.hid hC
        replace hfs := Lib.hid hfs
        clear hm
        go_wp2_with fail
        generalize wr.heap.size = gb at *
        generalize wr.alloc (.cells #[.int .i64 r, .int .i64 s] 41) = W at *
        refine hC.out.mono ?_
        rintro e w4 ⟨rfl, hb4⟩
        have h4 := h2.below hb4
        have en4 := en2.trans (bel_env hb4)
        clear u0 u1 ul p1 p2 pl g0 gl
        have u0 := h4.cell z0
        have u1 := h4.cell z1
        have ul := World.block_lt_of_cell? _ _ u0
        go_wp2_with (at_builtin; refine wpList_append rfl (.tmp 18) (.tmp 20) 35 35 rfl Tryz.underlying35 (.inl ⟨_, Tryz.underlying35⟩) (.agg #[.int .i64 0, .int .i64 0]) 16 info_id rfl (by decide) (by decide) rfl rfl (h4.alloc _) (News.new w4 _ 1 #[.int .i64 r, .int .i64 s] rfl (by simp [Value.oneCell'])) ?apB1 ?apK1)
        try case apB1 => first | omega | (simp; omega) | (simp [idl_len]; omega) | skip
        intro v' w9 h9 en9
        go_wp2_with fail
        go_roundw
        case rel => exact ⟨k + 1, by omega, by go_num, by rw [hfs.out, idl_append]; exact h9.weaken l2, (en4.alloc _).trans en9⟩
        case measure => simp [intOf]; omega
    · obtain rfl : k = D.length := by omega
      rw [List.take_length] at hst hfl
      go_wp2_with fail
      go_ret
      exact ⟨_, rfl, hst.row_rw (by omega), hst.drop.toBelow hen⟩
set_option maxRecDepth 100000 in
theorem grMissing_nil (w : World) : Calls Tryz.prog 88 #[.pointer none] w fun e w' => e = .returned (.slice none 0 0) ∧ Below w.heap.size w w' := by
  have hb := boxBelow w (.cells #[.pointer none] 27)
  have hmf : ∀ (fn : Fn) (first cap : Array Value) (w : World), (Instr.makeFunc fn first cap).run Tryz.prog w = .ok (.func fn first cap) w := fun _ _ _ _ => rfl
  go_enter Tryz.func88, Tryz.ntmps88
  go_wp2_with fail
  refine (gathered_nil _ _).mono ?_
  rintro e w2 ⟨rfl, rfl⟩
  go_wp2_with fail
  go_ret
  exact ⟨rfl, hb⟩
set_option maxRecDepth 100000 in
set_option maxHeartbeats 1600000 in
theorem grMissing_any (p : Nat) (L : List Rc) (H : Hp) (fr : List HA) (w : World) (h : St H (GrA p L :: fr) w) (hLd : ∀ x ∈ L, RcD H x) (hl16 : ∀ x ∈ L, x.2.2.2.2.1.length ≤ 16) (hLl : L.length ≤ 1000000) :
    Calls Tryz.prog 88 #[grP p] w (Told H p L fr (fun x => x.2.2.2.2.1.filter (fun d => decide (d ∉ rids L))) w) := by
  have hmf : ∀ (fn : Fn) (first cap : Array Value) (w : World), (Instr.makeFunc fn first cap).run Tryz.prog w = .ok (.func fn first cap) w := fun _ _ _ _ => rfl
  obtain ⟨H1, l1, h1, y⟩ := h.box #[grP p] 27
  have y0 := y 0 _ rfl
  clear y
  have en1 := (Env.refl w).alloc (.cells #[grP p] 27)
  have u0 := h1.cell y0
  have ul := World.block_lt_of_cell? _ _ u0
  have hG := gathered_any p L (fun x => x.2.2.2.2.1.filter (fun d => decide (d ∉ rids L))) 107 #[.pointer (some ⟨w.heap.size, 0, none⟩)] H1 fr _ h1 (fun x hx => (hLd x hx).mono l1) (fun x hx => Nat.le_trans (List.length_filter_le ..) (hl16 x hx)) hLl (enters_of Tryz.func107 (by kernel_rfl) rfl) (fun x hx fr' w' h' => missing1_any x p L w.heap.size H1 fr' w' h' (fun z hz => (hLd z hz).mono l1) (((hLd x hx).mono l1).rw h') (hl16 x hx) (h'.cell y0))
  replace hG := Lib.hid hG
  go_enter Tryz.func88, Tryz.ntmps88
  go_wp2_with fail
  refine hG.out.mono ?_
  rintro e w2 ⟨v, R, rfl, h2, en2, hr, hm⟩
  go_wp2_with fail
  go_ret
  exact ⟨v, R, rfl, h2.weaken l1, en1.trans en2, hr, hm⟩
end Go.Proofs.YtcbckeoalmjcoaaGreat

/- Graphs: Record. -/
set_option linter.unusedVariables false
set_option linter.unusedSimpArgs false
namespace Go.Proofs.YtcbckeoalmjcoaaGreat
open Go.RowKit Go.Cw Go.Fl
attribute [local go_sem ↓] eql_id neq_id
abbrev recZ : Value := .agg #[.int .i64 0, .int .i64 0, .int .i64 0, .slice none 0 0, .slice none 0 0]
set_option maxRecDepth 100000 in
set_option maxHeartbeats 800000 in
theorem grRec_some (p : Nat) (L : List Rc) (x : Rc) (H : Hp) (fr : List HA) (w : World) (h : St H (GrA p L :: fr) w) (hLd : ∀ x ∈ L, RcD H x) (hxL : x ∈ L) (hl16 : x.2.2.2.2.1.length ≤ 16 ∧ x.2.2.2.2.2.length ≤ 8) (hlk : mlook x.1 (entsR L) = some x) :
    Calls Tryz.prog 40 #[grP p, idV x.1] w fun e w' => ∃ dv bv, e = .returned (.tuple #[recV (x.1, x.2.1, dv, bv, x.2.2.2.2.1, x.2.2.2.2.2), .bool true]) ∧ St H (Row 41 2 dv (idl x.2.2.2.2.1) :: Row 114 3 bv (cml x.2.2.2.2.2) :: GrA p L :: fr) w' ∧ Env w w' := by
  have hin : x.1 ∈ rids L := List.mem_map.2 ⟨x, hxL, rfl⟩
  have hxd := hLd x hxL
  obtain ⟨⟨r, s⟩, q, dv, bv, D, Bt⟩ := x
  obtain ⟨d1, d2, d3, hdv, _⟩ := hxd.d.form
  obtain ⟨b1, b2, b3, hbv, _⟩ := hxd.b.form
  simp only at hdv hbv hl16 hlk hin ⊢
  subst hdv hbv
  obtain ⟨H1, l1, h1, y⟩ := h.box #[.int .i64 r, .int .i64 s] 41
  have y0 := y 0 _ rfl
  have y1 := y 1 _ rfl
  clear y
  have h2 := h1.blk #[.int .i64 0, .int .i64 0, .int .i64 0, .slice none 0 0, .slice none 0 0] 53
  have e1 : (w.alloc (.cells #[.int .i64 r, .int .i64 s] 41)).heap.size = w.heap.size + 1 := by simp
  rw [e1] at h2
  have en2 := ((Env.refl w).alloc (.cells #[.int .i64 r, .int .i64 s] 41)).alloc (.cells #[.int .i64 0, .int .i64 0, .int .i64 0, .slice none 0 0, .slice none 0 0] 53)
  have hHas := grHas_any p L (r, s) H1 _ _ (fun z hz => (hLd z hz).mono l1) h2.swap
  rw [decide_eq_true hin] at hHas
  replace hHas := Lib.hid hHas
  have v0 := h2.cell y0
  have v1 := h2.cell y1
  have vl := World.block_lt_of_cell? _ _ v0
  clear hin h1 e1
  go_enter Tryz.func40, Tryz.ntmps40
  go_wp2_with fail
  generalize hW2 : (w.alloc (.cells #[.int .i64 r, .int .i64 s] 41)).alloc (.cells #[.int .i64 0, .int .i64 0, .int .i64 0, .slice none 0 0, .slice none 0 0] 53) = W2 at *
  generalize w.heap.size + 1 = gr at *
  generalize w.heap.size = gb at *
  refine hHas.out.mono ?_
  rintro e w3 ⟨rfl, hb3⟩
  have h3 := h2.below hb3
  have en3 := en2.trans (bel_env hb3)
  clear v0 v1 vl hHas h2 en2 hb3
  obtain ⟨g, h4⟩ := grOpen h3.swap
  have hlk2 := h4.drew.swap.mp_get false Tryz.underlying56 (zero_rec _) (r, s)
  rw [hlk] at hlk2
  change (Instr.lookup 56 (.map (some g)) (.agg #[.int .i64 r, .int .i64 s]) false).run Tryz.prog w3.drew = .ok (.agg #[.int .i64 r, .int .i64 s, .int .i64 q, .slice d1 d2 d3, .slice b1 b2 b3]) w3.drew at hlk2
  have v0 := h4.cell y0
  have v1 := h4.cell y1
  have vl := World.block_lt_of_cell? _ _ v0
  have c0 : w3.cell? ⟨p, 0, none⟩ = some (.map (some g)) := h4.blk_cell 0
  have cl := h4.blk_lt
  have h5 := h4.drew
  have en5 := en3.drew
  have hCp := Lib.hid (recCopy_any ((r, s), q, .slice d1 d2 d3, .slice b1 b2 b3, D, Bt) _ ((hxd.mono l1).rw h5) (by simp only; omega) (by simp only; omega))
  clear h3 en3 hlk
  have kk : ∀ (l' : List HA) (w' : World), w'.cell? ⟨p, 0, none⟩ = some (.map (some g)) → St H1 l' w' → (w'.cell? ⟨p, 0, none⟩ = some (.map (some g)) ∧ w'.cell? ⟨gb, 0, none⟩ = some (.int .i64 r) ∧ w'.cell? ⟨gb, 1, none⟩ = some (.int .i64 s)) := fun l' w' hc h => ⟨hc, h.cell y0, h.cell y1⟩
  have k5 := kk _ _ (h5.blk_cell 0) h5
  go_wp2_with fail
  go_region_held3 (fun w' => w'.cell? ⟨p, 0, none⟩ = some (.map (some g)) ∧ w'.cell? ⟨gb, 0, none⟩ = some (.int .i64 r) ∧ w'.cell? ⟨gb, 1, none⟩ = some (.int .i64 s))
    (first | (with_reducible exact k5) | (with_reducible exact k6) | (with_reducible exact k7))
    ((go_at_call 36; refine hCp.out.mono ?_; rintro e w6 he; obtain ⟨⟨dv', bv'⟩, rfl, h6, en6⟩ := ResE.lift h5 he; obtain ⟨f1, f2, f3, rfl, _⟩ := h6.row_form; obtain ⟨g1, g2, g3, rfl, _⟩ := h6.swap.row_form; have k6 := kk _ _ ((h6.pick 2 (by simp)).blk_cell 0) h6; have p6 := h6.pick 4 (by simp); have zf0 := p6.blk_free 0; have zf1 := p6.blk_free 1; have zf2 := p6.blk_free 2; have zf3 := p6.blk_free 3; have zf4 := p6.blk_free 4; have z0 := p6.blk_cell 0; have z1 := p6.blk_cell 1; have z2 := p6.blk_cell 2; have z3 := p6.blk_cell 3; have z4 := p6.blk_cell 4; have zl := p6.blk_lt; have p7 := ((((p6.blk_set 0 (.int .i64 r)).blk_set 1 (.int .i64 s)).blk_set 2 (.int .i64 q)).blk_set 3 (.slice f1 f2 f3)).blk_set 4 (.slice g1 g2 g3); have k7 := kk _ _ ((p7.pick 3 (by simp)).blk_cell 0) p7))
  have en7 := ((((((en5.trans en6).setCell ⟨gr, 0, none⟩ (.int .i64 r)).setCell ⟨gr, 1, none⟩ (.int .i64 s)).setCell ⟨gr, 2, none⟩ (.int .i64 q)).setCell ⟨gr, 3, none⟩ (.slice f1 f2 f3)).setCell ⟨gr, 4, none⟩ (.slice g1 g2 g3))
  clear k5 k6 k7 kk zf0 zf1 zf2 zf3 zf4 z0 z1 z2 z3 z4 zl p6 h6 h5 h4 hlk2
  generalize ((((w6.setCell ⟨gr, 0, none⟩ (.int .i64 r)).setCell ⟨gr, 1, none⟩ (.int .i64 s)).setCell ⟨gr, 2, none⟩ (.int .i64 q)).setCell ⟨gr, 3, none⟩ (.slice f1 f2 f3)).setCell ⟨gr, 4, none⟩ (.slice g1 g2 g3) = W9 at *
  have r0 : W9.cell? ⟨gr, 0, none⟩ = some (.int .i64 r) := p7.blk_cell 0
  have r1 : W9.cell? ⟨gr, 1, none⟩ = some (.int .i64 s) := p7.blk_cell 1
  have r2 : W9.cell? ⟨gr, 2, none⟩ = some (.int .i64 q) := p7.blk_cell 2
  have r3 : W9.cell? ⟨gr, 3, none⟩ = some (.slice f1 f2 f3) := p7.blk_cell 3
  have r4 : W9.cell? ⟨gr, 4, none⟩ = some (.slice g1 g2 g3) := p7.blk_cell 4
  have rl := p7.blk_lt
  go_wp2_with fail
  (try simp only [Exit.inBlock, Exit.then])
  refine bodyPost_ret ((results_cell_tmp rfl _ _ _).trans (?hres : _ = Result.ok (Value.tuple #[Value.agg #[.int .i64 r, .int .i64 s, .int .i64 q, .slice f1 f2 f3, .slice g1 g2 g3], .bool true]) W9)) rfl ?_
  case hres => go_simp
  have p8 := p7.drop
  have q1 := (p8.pick 3 (by simp)).pick 3 (by simp)
  have q2 := grShut (L := L) (p := p) (g := g) q1
  have q3 := ((q2.pick 2 (by simp)).pick 2 (by simp)).weaken l1
  exact ⟨.slice f1 f2 f3, .slice g1 g2 g3, rfl, q3, en7⟩
set_option maxRecDepth 100000 in
set_option maxHeartbeats 800000 in
theorem grRec_no (gp : Value) (a : Id) (w : World) (hHas : ∀ w', Below w.heap.size w w' → Calls Tryz.prog 49 #[gp, idV a] w' fun e w'' => e = .returned (.bool false) ∧ Below w'.heap.size w' w'') :
    Calls Tryz.prog 40 #[gp, idV a] w fun e w' => e = .returned (.tuple #[recZ, .bool false]) ∧ Below w.heap.size w w' := by
  obtain ⟨r, s⟩ := a
  obtain ⟨H1, l1, h1, y⟩ := (St.start w).box #[.int .i64 r, .int .i64 s] 41
  have y0 := y 0 _ rfl
  have y1 := y 1 _ rfl
  clear y
  have h2 := h1.blk #[.int .i64 0, .int .i64 0, .int .i64 0, .slice none 0 0, .slice none 0 0] 53
  have e1 : (w.alloc (.cells #[.int .i64 r, .int .i64 s] 41)).heap.size = w.heap.size + 1 := by simp
  rw [e1] at h2
  have en2 := ((Env.refl w).alloc (.cells #[.int .i64 r, .int .i64 s] 41)).alloc (.cells #[.int .i64 0, .int .i64 0, .int .i64 0, .slice none 0 0, .slice none 0 0] 53)
  have hH := hHas _ ((h2.weaken l1).drop.toBelow en2)
  replace hH := Lib.hid hH
  have v0 := h2.cell y0
  have v1 := h2.cell y1
  have vl := World.block_lt_of_cell? _ _ v0
  clear h1 e1 hHas
  go_enter Tryz.func40, Tryz.ntmps40
  go_wp2_with fail
  generalize hW2 : (w.alloc (.cells #[.int .i64 r, .int .i64 s] 41)).alloc (.cells #[.int .i64 0, .int .i64 0, .int .i64 0, .slice none 0 0, .slice none 0 0] 53) = W2 at *
  generalize hgr : w.heap.size + 1 = gr at *
  generalize hgb : w.heap.size = gb at *
  refine hH.out.mono ?_
  rintro e w3 ⟨rfl, hb3⟩
  have h3 := h2.below hb3
  have en3 := en2.trans (bel_env hb3)
  clear v0 v1 vl hH h2 en2 hb3 y0 y1
  have z0 := h3.blk_cell 0
  have z1 := h3.blk_cell 1
  have z2 := h3.blk_cell 2
  have z3 := h3.blk_cell 3
  have z4 := h3.blk_cell 4
  have zf0 := h3.blk_free 0
  have zf1 := h3.blk_free 1
  have zf2 := h3.blk_free 2
  have zf3 := h3.blk_free 3
  have zf4 := h3.blk_free 4
  have zl := h3.blk_lt
  have p7 := ((((h3.blk_set 0 (.int .i64 0)).blk_set 1 (.int .i64 0)).blk_set 2 (.int .i64 0)).blk_set 3 (.slice none 0 0)).blk_set 4 (.slice none 0 0)
  have en7 := (((((en3.setCell ⟨gr, 0, none⟩ (.int .i64 0)).setCell ⟨gr, 1, none⟩ (.int .i64 0)).setCell ⟨gr, 2, none⟩ (.int .i64 0)).setCell ⟨gr, 3, none⟩ (.slice none 0 0)).setCell ⟨gr, 4, none⟩ (.slice none 0 0))
  go_wp2_with fail
  generalize ((((w3.setCell ⟨gr, 0, none⟩ (.int .i64 0)).setCell ⟨gr, 1, none⟩ (.int .i64 0)).setCell ⟨gr, 2, none⟩ (.int .i64 0)).setCell ⟨gr, 3, none⟩ (.slice none 0 0)).setCell ⟨gr, 4, none⟩ (.slice none 0 0) = W9 at *
  have r0 : W9.cell? ⟨gr, 0, none⟩ = some (.int .i64 0) := p7.blk_cell 0
  have r1 : W9.cell? ⟨gr, 1, none⟩ = some (.int .i64 0) := p7.blk_cell 1
  have r2 : W9.cell? ⟨gr, 2, none⟩ = some (.int .i64 0) := p7.blk_cell 2
  have r3 : W9.cell? ⟨gr, 3, none⟩ = some (.slice none 0 0) := p7.blk_cell 3
  have r4 : W9.cell? ⟨gr, 4, none⟩ = some (.slice none 0 0) := p7.blk_cell 4
  have rl := p7.blk_lt
  (try simp only [Exit.inBlock, Exit.then])
  refine bodyPost_ret ((results_cell_tmp rfl _ _ _).trans (?hres : _ = Result.ok (Value.tuple #[recZ, .bool false]) W9)) rfl ?_
  case hres => go_simp
  exact ⟨rfl, hgb ▸ (p7.drop.weaken l1).toBelow en7⟩
end Go.Proofs.YtcbckeoalmjcoaaGreat
