/- Joined texts: Reach4, Edges7, Reach5. -/
import Derived.Test.YtcbckeoalmjcoaaGreatCGR11
import Derived.Test.YtcbckeoalmjcoaaGreatCGR15
/- What some ids reach: Path, Whole. -/
set_option linter.unusedVariables false
set_option linter.unusedSimpArgs false
namespace Go.Proofs.YtcbckeoalmjcoaaGreat
open Go.RowKit Go.Cw Go.Fl
attribute [local go_sem ↓] eql_id neq_id
attribute [local go_sem] Oper.semAt_some
attribute [local go_sem] wide_fn wide_fnR wide_dp wide_dpR wide_rd wide_rdR
def PathE (g : Nat) (b : Id) (pre : List Id) : HA := Pu (b ∉ pre) (Blk g #[.bool false] 4)
def PathX (g : Nat) (b : Id) (c : Go.Code) (pre : List Id) : HA := Pu (c = .exit 0 ∧ b ∈ pre) (Blk g #[.bool true] 4)
/-- What a question about what is reached tells. -/
def AskR (B : Bool) (G : HA) (H : Hp) (fr : List HA) (w : World) (e : Ending) (w' : World) : Prop := ∃ H', e = .returned (.bool B) ∧ Hp.le H H' ∧ St H' (G :: fr) w' ∧ Env w w'
open Classical in
set_option maxRecDepth 100000 in
set_option maxHeartbeats 4000000 in
theorem path_any (ga : Option Addr) (G : HA) (deps : Id → List Id) (a b : Id) (U : List Id) (H : Hp) (fr : List HA) (w : World) (h : St H (G :: fr) w)
    (hU : ∀ x, Rch deps [a] x → x ∈ U) (hUl : U.length ≤ 100000) (hd16 : ∀ a, (deps a).length ≤ 16) (hR : RecOf (.pointer ga) G deps H) :
    Calls Tryz.prog 50 #[.pointer ga, idV a, idV b] w (AskR (decide (Rch deps [a] b)) G H fr w) := by
  obtain ⟨H1, l1, h1, y1⟩ := h.box #[.int .i64 a.1, .int .i64 a.2] 41
  obtain ⟨H2, l2, h2, y2⟩ := h1.box #[.int .i64 b.1, .int .i64 b.2] 41
  rw [World.size_alloc] at y2
  have a0 := Hp.cell_le l2 (y1 0 _ rfl)
  have a1 := Hp.cell_le l2 (y1 1 _ rfl)
  have b0 := y2 0 _ rfl
  have b1 := y2 1 _ rfl
  have en2 := ((Env.refl w).alloc (.cells #[.int .i64 a.1, .int .i64 a.2] 41)).alloc (.cells #[.int .i64 b.1, .int .i64 b.2] 41)
  have h3 := h2.blk #[.bool false] 4
  have en3 := en2.alloc (.cells #[.bool false] 4)
  rw [World.size_alloc, World.size_alloc] at h3
  have h4 := h3.row_lit 41 2 1 #[.int .i64 a.1, .int .i64 a.2] rfl (by decide)
  have en4 := en3.alloc (.cells #[.int .i64 a.1, .int .i64 a.2] 41)
  rw [World.size_alloc, World.size_alloc, World.size_alloc] at h4
  obtain ⟨H3, l3, h5, hrd⟩ := h4.row_keep
  replace hrd : Rd H3 2 _ (idl [a]) := hrd
  have hE := Lib.hid (each_any ga (some ⟨w.heap.size + 1 + 1 + 1, 0, none⟩) 1 1 H3 _ _ h5)
  replace a0 := Hp.cell_le l3 a0
  replace a1 := Hp.cell_le l3 a1
  replace b0 := Hp.cell_le l3 b0
  replace b1 := Hp.cell_le l3 b1
  have l13 := Hp.le_trans l1 (Hp.le_trans l2 l3)
  clear h1 h2 h3 h4 y1 y2 en2 en3 h l1 l2 l3
  have hfin : ∀ (B : Bool) (H' : Hp) (w' : World), (B = true ↔ Rch deps [a] b) → Hp.le H H' → St H' (G :: fr) w' → Env w w' → AskR (decide (Rch deps [a] b)) G H fr w (.returned (.bool B)) w' := fun B H' w' h1 h2 h3 h4 => ⟨H', by
    have : B = decide (Rch deps [a] b) := by cases B <;> simp_all
    rw [this], h2, h3, h4⟩
  generalize AskR (decide (Rch deps [a] b)) G H fr w = Q at *
  replace hfin := Lib.hid hfin
  obtain ⟨ar, az⟩ := a
  obtain ⟨br, bz⟩ := b
  simp only at a0 a1 b0 b1 en4 h5 hE
  have v0 := h5.cell a0
  have v1 := h5.cell a1
  have vl := World.block_lt_of_cell? _ _ v0
  refine (callsIn_wide (n := 0)).1 (callsIn_of_wp_marks Tryz.func50 rfl trivial (wpIn_wide.2 ?_) rfl)
  simp only [Tryz.ntmps50, List.size_toArray, List.length_cons, List.length_nil, Nat.reduceAdd, Nat.reduceSub, Array.replicate_succ, Array.replicate_zero, List.push_toArray, List.append_toArray, List.nil_append, List.cons_append]
  go_wp2_with fail
  go_step3
  go_wp2_with fail
  go_step3
  go_wp2_with fail
  refine hE.out.mono ?_
  rintro e w2 ⟨cl, cg, H4, rfl, l4, h6, en6, ccl, ccg⟩
  replace en6 := en4.trans en6
  clear hE h5 en4 v0 v1 vl
  generalize w.heap.size + 1 + 1 = gf at *
  generalize w.heap.size = g0 at *
  go_wp2_with fail
  have h7 : St H4 (G :: PathE gf (br, bz) [] :: fr) w2 := (St.shutPu (by simp) h6).swap
  have l14 := Hp.le_trans l13 l4
  refine wpIn_wide.1 (wpIn_each (n := 0) (.pointer ga) G deps [(ar, az)] U cg cl _ (PathE gf (br, bz)) (PathX gf (br, bz)) H4 fr hU hUl (by simp) hd16 (fun x H' fr' w' hl h' => hR x H' fr' w' (Hp.le_trans l14 hl) h') ccl (hrd.mono l4) ccg ⟨ga, rfl⟩ h7 rfl rfl ?body ?done ?stop)
  case body =>
    intro l pre x H2 fr1 W l2 hrx hx hnd hpre hst
    obtain ⟨H3, l3, h4, y⟩ := hst.box #[.int .i64 x.1, .int .i64 x.2] 41
    have y0 := y 0 _ rfl
    have y1 := y 1 _ rfl
    have en4 := (Env.refl W).alloc (.cells #[.int .i64 x.1, .int .i64 x.2] 41)
    have l34 := Hp.le_trans l4 (Hp.le_trans l2 l3)
    gi_wp2_with fail
    refine ⟨H3, l3, en4, h4, ?_⟩
    intro fr2 W2 h5
    have c0 := h5.cell y0
    have c1 := h5.cell y1
    have cl0 := World.block_lt_of_cell? _ _ c0
    have d0 := h5.cell (Hp.cell_le l34 b0)
    have d1 := h5.cell (Hp.cell_le l34 b1)
    have dl := World.block_lt_of_cell? _ _ d0
    obtain ⟨hnb, h6⟩ := h5.swap.openPu
    have f0 : W2.cell? ⟨gf, 0, none⟩ = some (.bool false) := h6.blk_cell 0
    have ff := h6.blk_free 0
    have fl := h6.blk_lt
    clear hR hU hd16 hrd ccl ccg
    by_cases hxb : x = (br, bz)
    · have he : idEq x.1 x.2 br bz = true := by subst hxb; simp [idEq]
      have hz : LeftR G (PathE gf (br, bz)) (PathX gf (br, bz)) H3 fr2 (pre ++ [x]) W2 (.exit 0) { tmps := #[], defers := [] } (W2.setCell ⟨gf, 0, none⟩ (.bool true)) := ⟨H3, Hp.le_refl _, (Env.refl W2).setCell _ _, (St.shutPu ⟨rfl, by rw [hxb]; simp⟩ (h6.blk_set 0 (.bool true))).swap⟩
      clear hxb hx
      gi_wp2_with fail
      exact hz
    · have he : idEq x.1 x.2 br bz = false := idEq_no hxb
      have hz : LeftR G (PathE gf (br, bz)) (PathX gf (br, bz)) H3 fr2 (pre ++ [x]) W2 .normal { tmps := #[], defers := [] } W2 := ⟨H3, Hp.le_refl _, Env.refl W2, (St.shutPu (by simp [hnb]; exact fun e => hxb e.symm) h6).swap⟩
      clear hxb hx
      gi_wp2_with fail
      exact hz
  case done =>
    intro xs d H2 fr' W l2 hnd hall hst en3
    obtain ⟨hnb, h6⟩ := (hst.pick 2 (by simp)).openPu
    have f0 : W.cell? ⟨gf, 0, none⟩ = some (.bool false) := h6.blk_cell 0
    have fl := h6.blk_lt
    have h9 : St H2 (Ob d (.deferred (some [])) :: Blk gf #[.bool false] 4 :: G :: fr) W := h6.swap
    have hK := h9.ob_heap
    have hz := Lib.hid (hfin.out false H2 _ (by simp; rw [← hall]; exact hnb) (Hp.le_trans l14 l2) ((h9.ob_put (.deferred none)).drop.drop) ((en6.trans en3).putObj d (.deferred none)))
    clear hR hU hd16 hrd ccl ccg hall hnb
    go_wp2_with fail
    refine ⟨by simp, .inl ⟨_, _, rfl, run_takeDeferred hK, ?_⟩⟩
    refine ⟨_, results_tmp rfl _ _ _, ?_⟩
    exact hz.out
  case stop =>
    intro xs c d H2 W l2 hall hst en3
    obtain ⟨⟨rfl, hin⟩, h6⟩ := (hst.pick 2 (by simp)).openPu
    have f0 : W.cell? ⟨gf, 0, none⟩ = some (.bool true) := h6.blk_cell 0
    have fl := h6.blk_lt
    have h9 : St H2 (Ob d (.deferred (some [])) :: Blk gf #[.bool true] 4 :: G :: fr) W := h6.swap
    have hK := h9.ob_heap
    have hz := Lib.hid (hfin.out true H2 _ (by simp; exact hall _ hin) (Hp.le_trans l14 l2) ((h9.ob_put (.deferred none)).drop.drop) ((en6.trans en3).putObj d (.deferred none)))
    clear hR hU hd16 hrd ccl ccg hall hin
    refine wpIn_wide.2 ?_
    go_wp2_with fail
    refine ⟨by simp, .inl ⟨_, _, rfl, run_takeDeferred hK, ?_⟩⟩
    refine ⟨_, results_tmp rfl _ _ _, ?_⟩
    exact hz.out
theorem results_cell1 {fn : Func} {p : Tmp} {ty : TypeId} (h : fn.results = #[.cell p ty]) (tmps : Array Value) (P : Program) (w : World) :
    (results fn tmps).run P w = ((asAddr (tmps.getD p undef)).run P w).andThen fun a w₁ => (loadVar ty a).run P w₁ := by
  simp only [results, h]
  simp [Sem.run_bind, Result.andThen]
def WholeE (gr s : Nat) (src : List Id) (ok : Id → Bool) (pre : List Id) : HA := Pu (∀ a ∈ pre, ok a = true) (Star (Blk gr #[.bool false] 4) (SetA s (dedup src)))
def WholeX (gr s : Nat) (src : List Id) (ok : Id → Bool) (c : Go.Code) (pre : List Id) : HA := Pu (c = .ret ∧ ∃ a ∈ pre, ok a = false) (Star (Blk gr #[.bool false] 4) (SetA s (dedup src)))
theorem dedup_mem16 (l : List Id) (b : Id) : b ∈ dedup l ↔ b ∈ l := by
  have : ∀ (l acc : List Id), b ∈ l.foldl (fun L a => addL a L) acc ↔ b ∈ acc ∨ b ∈ l := by
    intro l
    induction l with
    | nil => simp
    | cons x r ih =>
      intro acc
      rw [List.foldl_cons, ih]
      unfold addL
      by_cases h : x ∈ acc
      · rw [if_pos h]
        simp only [List.mem_cons]
        constructor
        · rintro (h1 | h1)
          · exact .inl h1
          · exact .inr (.inr h1)
        · rintro (h1 | rfl | h1)
          · exact .inl h1
          · exact .inl h
          · exact .inr h1
      · rw [if_neg h]
        simp only [List.mem_append, List.mem_cons, List.not_mem_nil, or_false, or_assoc]
  simpa [dedup] using this l []
end Go.Proofs.YtcbckeoalmjcoaaGreat

/- Graphs: the reference's Ids, Users, Missing. -/
set_option linter.unusedVariables false
set_option linter.unusedSimpArgs false
namespace Go.Proofs.YtcbckeoalmjcoaaGreat
open Go.RowKit Go.Cw Go.Fl
attribute [local go_sem ↓] eql_id neq_id
theorem sortL_push (M : List Id) (x : Id) : sortL (M ++ [x]) = putL x (sortL M) := by unfold sortL; rw [List.foldl_append]; rfl
/-- Who depends on one. -/
def usr (a : Id) (l : List Rc) : List Id := (l.filter (fun x => decide (a ∈ x.2.2.2.2.1))).map (·.1)
theorem usr_step (a : Id) (l : List Rc) (k : Nat) (h : k < l.length) : usr a (l.take (k + 1)) = if a ∈ l[k].2.2.2.2.1 then usr a (l.take k) ++ [l[k].1] else usr a (l.take k) := by
  unfold usr
  rw [List.take_add_one, List.getElem?_eq_getElem h, List.filter_append, List.map_append]
  by_cases hm : a ∈ l[k].2.2.2.2.1 <;> simp [hm]
theorem usr_len (a : Id) (l : List Rc) : (usr a l).length ≤ l.length := by
  unfold usr
  rw [List.length_map]
  exact List.length_filter_le ..
/-- What is missing. -/
def mis (K : List Id) (l : List Rc) : List Id := l.flatMap (fun x => x.2.2.2.2.1.filter (fun d => decide (d ∉ K)))
theorem mis_step (K : List Id) (l : List Rc) (k : Nat) (h : k < l.length) : mis K (l.take (k + 1)) = mis K (l.take k) ++ l[k].2.2.2.2.1.filter (fun d => decide (d ∉ K)) := by
  unfold mis
  rw [List.take_add_one, List.getElem?_eq_getElem h, List.flatMap_append]
  simp
theorem mis_len (K : List Id) (l : List Rc) (h : ∀ x ∈ l, x.2.2.2.2.1.length ≤ 16) : (mis K l).length ≤ 16 * l.length := flat_le _ l (fun x hx => Nat.le_trans (List.length_filter_le ..) (h x hx))
end Go.Proofs.YtcbckeoalmjcoaaGreat

/- What some ids reach: open, Closed. -/
set_option linter.unusedVariables false
set_option linter.unusedSimpArgs false
namespace Go.Proofs.YtcbckeoalmjcoaaGreat
open Go.RowKit Go.Cw Go.Fl
attribute [local go_sem ↓] eql_id neq_id
/-- Users of an id, and what is missing. -/
def usrF (L : List Rc) (a : Id) : List Id := sortL (usr a L)
def misF (L : List Rc) : List Id := sortL (mis (rids L) L)
theorem usrF_mem (L : List Rc) (a b : Id) : b ∈ usrF L a ↔ ∃ x ∈ L, x.1 = b ∧ a ∈ x.2.2.2.2.1 := by
  unfold usrF usr
  rw [sortL_mem]
  simp only [List.mem_map, List.mem_filter, decide_eq_true_eq]
  constructor
  · rintro ⟨x, ⟨h1, h2⟩, h3⟩; exact ⟨x, h1, h3, h2⟩
  · rintro ⟨x, h1, h3, h2⟩; exact ⟨x, ⟨h1, h2⟩, h3⟩
theorem misF_mem (L : List Rc) (b : Id) : b ∈ misF L ↔ b ∉ rids L ∧ ∃ x ∈ L, b ∈ x.2.2.2.2.1 := by
  unfold misF mis
  rw [sortL_mem]
  simp only [List.mem_flatMap, List.mem_filter, decide_eq_true_eq]
  constructor
  · rintro ⟨x, h1, h2, h3⟩; exact ⟨h3, x, h1, h2⟩
  · rintro ⟨h3, x, h1, h2⟩; exact ⟨x, h1, h2, h3⟩
theorem told_users {L : List Rc} {a : Id} {R : List Id} (hr : Rises R) (hm : ∀ b, b ∈ R ↔ ∃ x ∈ L, b ∈ (if a ∈ x.2.2.2.2.1 then [x.1] else [])) : R = usrF L a :=
  rises_eq hr (sortL_rises _) (fun b => by
    rw [hm, usrF_mem]
    constructor
    · rintro ⟨x, h1, h2⟩
      by_cases h : a ∈ x.2.2.2.2.1
      · rw [if_pos h, List.mem_singleton] at h2; exact ⟨x, h1, h2.symm, h⟩
      · rw [if_neg h] at h2; cases h2
    · rintro ⟨x, h1, rfl, h2⟩; exact ⟨x, h1, by rw [if_pos h2]; simp⟩)
theorem told_missing {L : List Rc} {R : List Id} (hr : Rises R) (hm : ∀ b, b ∈ R ↔ ∃ x ∈ L, b ∈ x.2.2.2.2.1.filter (fun d => decide (d ∉ rids L))) : R = misF L :=
  rises_eq hr (sortL_rises _) (fun b => by
    rw [hm, misF_mem]
    simp only [List.mem_filter, decide_eq_true_eq]
    constructor
    · rintro ⟨x, h1, h2, h3⟩; exact ⟨h3, x, h1, h2⟩
    · rintro ⟨h3, x, h1, h2⟩; exact ⟨x, h1, h2, h3⟩)
theorem usrF_len (L : List Rc) (a : Id) : (usrF L a).length ≤ L.length := Nat.le_trans (sortL_len _) (usr_len a L)
/-- What is open. -/
def Opn (L : List Rc) (a : Id) : Prop := Rch (usrF L) (misF L) a
theorem opn_mem {L : List Rc} {a : Id} (h : Opn L a) : a ∈ misF L ++ rids L := by
  cases h with
  | base h => exact List.mem_append.2 (.inl h)
  | step _ hb =>
    obtain ⟨x, hx, rfl, _⟩ := (usrF_mem _ _ _).1 hb
    exact List.mem_append.2 (.inr (List.mem_map.2 ⟨x, hx, rfl⟩))
theorem Dfs.go' {deps : Id → List Id} {l pre left : List Id} {x : Id} (h : Dfs deps l pre (left ++ [x])) (hx : x ∉ pre) : Dfs deps l (addL x pre) (left ++ deps x) := by rw [addL_new hx]; exact h.go hx
/-- What open leaves. -/
def OpenR (L : List Rc) (p : Nat) (H : Hp) (fr : List HA) (w : World) (e : Ending) (w' : World) : Prop :=
  ∃ (s : Nat) (B : List Id) (H' : Hp), e = .returned (setP s) ∧ Hp.le H H' ∧ St H' (SetA s B :: GrA p L :: fr) w' ∧ Env w w' ∧ ∀ a, a ∈ B ↔ Opn L a
set_option maxRecDepth 100000 in
set_option maxHeartbeats 8000000 in
theorem open_any (p : Nat) (L : List Rc) (H : Hp) (fr : List HA) (w : World) (h : St H (GrA p L :: fr) w) (hg : GrOk H L) (hL : L.length ≤ 1000) :
    Calls Tryz.prog 69 #[grP p] w (OpenR L p H fr w) := by
  have hfin : ∀ (s : Nat) (B : List Id) (H' : Hp) (w' : World), Hp.le H H' → St H' (SetA s B :: GrA p L :: fr) w' → Env w w' → Dfs (usrF L) (misF L) B [] → OpenR L p H fr w (.returned (setP s)) w' := fun s B H' w' h1 h2 h3 h4 => ⟨s, B, H', rfl, h1, h2, h3, h4.all⟩
  generalize OpenR L p H fr w = Q at *
  have hml : (misF L).length ≤ 16000 := Nat.le_trans (sortL_len _) (Nat.le_trans (mis_len _ L (fun x hx => (hg.b x hx).1)) (by omega))
  obtain ⟨U, hUe⟩ : ∃ U, U = misF L ++ rids L := ⟨_, rfl⟩
  have hU : Hid (∀ a, Rch (usrF L) (misF L) a → a ∈ U) := Lib.hid (fun a ha => by rw [hUe]; exact opn_mem ha)
  have hUl : U.length ≤ 17000 := by rw [hUe, List.length_append, List.length_map]; omega
  clear hUe
  have hNew := Lib.hid (setNew_any (.slice none 0 0) [] w (Rw.nil w 2))
  have hgH := Lib.hid hg
  have hul := Lib.hid (usrF_len L)
  replace hfin := Lib.hid hfin
  go_enter Tryz.func69, Tryz.ntmps69
  go_wp2_with fail
  refine hNew.out.mono ?_
  rintro e w1 he
  obtain ⟨s, rfl, h1, en1⟩ := ResE.lift h he
  have hM := Lib.hid (grMissing_any p L H _ w1 (h1.swap) hg.d (fun x hx => (hg.b x hx).1) (by omega))
  clear he hNew hg
  go_wp2_with fail
  refine hM.out.mono ?_
  rintro e w2 ⟨lv, R, rfl, h2, en2, hr, hm⟩
  obtain rfl := told_missing hr hm
  replace en2 := en1.trans en2
  clear hM hr hm h1 en1 h
  go_wp2_with fail
  go_loopg [4] (U.length * 1001 + (misF L).length) (fun q s4 wr => ∃ (pre left : List Id) (H' : Hp), q = (U.length - pre.length) * 1001 + left.length ∧ Hp.le H H' ∧ Hid (Dfs (usrF L) (misF L) pre left) ∧ left.length ≤ 16000 + 1000 * pre.length ∧ St H' (Row 41 2 s4 (idl left) :: SetA s pre :: GrA p L :: fr) wr ∧ Env w wr)
  case atStart => exact ⟨[], misF L, H, by simp, Hp.le_refl _, Lib.hid (Dfs.start _ _), by simp; omega, h2.perm (List.Perm.cons _ (List.Perm.swap _ _ _)), en2⟩
  case round =>
    clear h2 en2
    obtain ⟨pre, left, H1, hq, l1, HD, hll, hst, hen⟩ := hrel
    have hpl := HD.out.len hU.out
    obtain ⟨A, m1, c, rfl, hm1, hmc, hmx⟩ := hst.row_form
    rw [idl_len] at hm1
    obtain rfl : m1 = left.length := by omega
    clear hm1
    rcases List.eq_nil_or_concat left with rfl | ⟨l0, x, rfl⟩
    · have hz := Lib.hid (hfin.out s pre H1 _ l1 hst.drop hen HD.out)
      go_wp2_with fail
      exact hz.out
    · simp only [List.concat_eq_append] at *
      have hlen : (l0 ++ [x]).length = l0.length + 1 := by simp
      rw [hlen] at hst hmc hll hq
      obtain ⟨b, off, hA, hcr⟩ := (hst.row_rw (by decide)).cells (by omega)
      cases hA
      have q0 := hcr _ _ (idl_fst (l0 ++ [x]) l0.length (by simp))
      have q1 := hcr _ _ (idl_snd (l0 ++ [x]) l0.length (by simp))
      rw [← Nat.add_assoc] at q1
      rw [List.getElem_concat_length (i := l0.length) rfl] at q0 q1
      clear hcr
      have ql := World.block_lt_of_cell? _ _ q0
      obtain ⟨H2, l2, h4, y⟩ := hst.box #[.int .i64 x.1, .int .i64 x.2] 41
      have y0 := y 0 _ rfl
      have y1 := y 1 _ rfl
      have en4 := hen.alloc (.cells #[.int .i64 x.1, .int .i64 x.2] 41)
      clear y hst hen
      have h5 : St H2 (Row 41 2 (.slice (some ⟨b, off, none⟩) l0.length c) (idl l0) :: SetA s pre :: GrA p L :: fr) (wr.alloc (.cells #[.int .i64 x.1, .int .i64 x.2] 41)) := by
        have := h4.row_take l0.length (by omega)
        rwa [idl_take, List.take_left' rfl] at this
      have hAdd := setAdd_any s pre x H2 _ _ h5.swap
      have v0 := h5.cell y0
      have v1 := h5.cell y1
      have vl := World.block_lt_of_cell? _ _ v0
      have hw1 : IntKind.i64.wrap (((l0.length + 1 : Nat) : Int) - 1) = (l0.length : Int) := by rw [IntKind.wrap_i64]; omega
      have hw2 : ((l0.length + 1 : Nat) : Int) - 1 = (l0.length : Int) := by omega
      have hcz : ¬ c = l0.length := by omega
      have hc0 : ¬ c = 0 := by omega
      have hw3 : ((l0.length : Int) + 1) - 1 = (l0.length : Int) := by omega
      have hw4 : IntKind.i64.wrap (((l0.length : Int) + 1) - 1) = (l0.length : Int) := by rw [IntKind.wrap_i64]; omega
      replace hAdd := Lib.hid hAdd
      obtain ⟨x0, x1⟩ := x
      simp only at q0 q1 v0 v1 y0 y1
      go_wp2_with fail
      generalize wr.heap.size = gb at *
      generalize wr.alloc (.cells #[.int .i64 x0, .int .i64 x1] 41) = wb at *
      clear q0 q1 ql v0 v1 vl h4 hw1 hw2 hw3 hw4
      refine hAdd.out.mono ?_
      rintro e w4 ⟨rfl, h6, en6⟩
      replace en6 := en4.trans en6
      replace h6 : St H2 (SetA s (addL (x0, x1) pre) :: Row 41 2 (.slice (some ⟨b, off, none⟩) l0.length c) (idl l0) :: GrA p L :: fr) w4 := h6
      clear en4 h5 hAdd
      have v0 := h6.cell y0
      have v1 := h6.cell y1
      have vl := World.block_lt_of_cell? _ _ v0
      have l12 := Hp.le_trans l1 l2
      by_cases hin : (x0, x1) ∈ pre
      · rw [decide_eq_true hin]
        rw [addL_old hin] at h6
        have hHD := Lib.hid (HD.out.skip hin)
        go_wp2_with fail
        go_roundg ((U.length - pre.length) * 1001 + l0.length)
        case measure => omega
        case rel => exact ⟨pre, l0, H2, rfl, l12, hHD, by omega, h6.swap, en6⟩
      · rw [decide_eq_false hin]
        rw [addL_new hin] at h6
        have hHD := Lib.hid (HD.out.go hin)
        have hpl2 := hHD.out.len hU.out
        have hUs := Lib.hid (grUsers_any p L (x0, x1) H2 _ w4 (h6.pick 2 (by simp)) (fun x hx => (hgH.out.d x hx).mono l12) (by omega))
        clear hin
        go_wp2_with fail
        refine hUs.out.mono ?_
        rintro e w6 ⟨uv, R, rfl, h9, en8, hr, hm⟩
        obtain rfl := told_users hr hm
        replace en8 := en6.trans en8
        obtain ⟨u1, u2, u3, rfl, _⟩ := h9.row_form
        obtain ⟨H3, l3, h10, hrd⟩ := h9.row_keep
        have h11 : St H3 (Row 41 2 (.slice (some ⟨b, off, none⟩) l0.length c) (idl l0) :: SetA s (pre ++ [(x0, x1)]) :: GrA p L :: fr) w6 := h10.perm ((List.perm_append_comm (l₁ := [GrA p L]) (l₂ := [SetA s (pre ++ [(x0, x1)]), Row 41 2 (.slice (some ⟨b, off, none⟩) l0.length c) (idl l0)]) |>.append_right fr).trans (List.Perm.swap _ _ _))
        have hnw := News.rw (P := Tryz.prog) (hrd.rw h11) (idl_one (usrF L (x0, x1)))
        have hl16 := hul.out (x0, x1)
        have l13 := Hp.le_trans l12 l3
        clear hr hm h9 h10 hUs h6 en6 v0 v1 vl
        generalize usrF L (x0, x1) = tD at *
        go_wp2_with (at_builtin; refine wpList_append rfl (.tmp 26) (.tmp 29) 35 35 rfl Tryz.underlying35 (.inl ⟨_, Tryz.underlying35⟩) (.agg #[.int .i64 0, .int .i64 0]) 16 info_id rfl (by decide) (by decide) rfl rfl h11 hnw ?apB2 ?apK2)
        case apB2 => simp [idl_len]; omega
        case apK2 =>
          intro lv2 w7 h12 en10
          replace en10 := en8.trans en10
          rw [← idl_append] at h12
          go_wp2_with fail
          go_roundg ((U.length - (pre.length + 1)) * 1001 + (l0.length + tD.length))
          case measure => simp at hpl2; omega
          case rel => exact ⟨pre ++ [(x0, x1)], l0 ++ tD, H3, by simp, l13, hHD, by simp; omega, h12, en10⟩
end Go.Proofs.YtcbckeoalmjcoaaGreat
