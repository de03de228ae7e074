/- Joined texts: COf1, COf2. -/
import Derived.Test.YtcbckeoalmjcoaaGreatCS17
import Derived.Test.YtcbckeoalmjcoaaGreatCS20
/- comps.Of: plain laws of its loops; its closures. -/
set_option linter.unusedVariables false
set_option linter.unusedSimpArgs false
namespace Go.Proofs.YtcbckeoalmjcoaaGreat
open Go.RowKit Go.Cw Go.Fl
attribute [local go_sem ↓] eql_id neq_id
theorem dedup_self {C : List Id} (h : C.Nodup) : dedup C = C := by
  have key : ∀ k, k ≤ C.length → dedup (C.take k) = C.take k := by
    intro k
    induction k with
    | zero => intro _; rfl
    | succ k ih =>
      intro hk
      rw [dedup_snoc C k (by omega), ih (by omega), List.take_succ_eq_append_getElem (by omega)]
      unfold addL
      rw [if_neg]
      intro hm
      obtain ⟨i, hi, he⟩ := List.getElem_of_mem hm
      rw [List.getElem_take] at he
      rw [List.length_take] at hi
      have := (List.getElem_inj h).1 he
      omega
  have := key C.length (Nat.le_refl _)
  rwa [List.take_length] at this
theorem Stps.sub {nx : Id → List Id} {a b : Wk} (h : Stps nx a b) : b.left.Sublist a.left := by
  induction h with
  | nil => exact List.Sublist.refl _
  | snoc _ s ih =>
    refine List.Sublist.trans ?_ ih
    cases s with
    | root => exact List.filter_sublist
    | pop => exact List.Sublist.refl _
    | skip => exact List.Sublist.refl _
    | push => exact List.filter_sublist
/-- What a walk told, or that its id was gone. -/
abbrev Went (nx : Id → List Id) (L O : List Id) (a : Id) (L' O' : List Id) : Prop := (a ∉ L ∧ L' = L ∧ O' = O) ∨ (a ∈ L ∧ Stpn nx ⟨cutL a L, [(a, 0)], O⟩ ⟨L', [], O'⟩)
theorem Went.sub {nx : Id → List Id} {L O L' O' : List Id} {a : Id} (h : Went nx L O a L' O') : L'.Sublist L ∧ a ∉ L' := by
  rcases h with ⟨h1, rfl, _⟩ | ⟨h1, h2⟩
  · exact ⟨List.Sublist.refl _, h1⟩
  · have := h2.all.sub
    exact ⟨this.trans List.filter_sublist, fun hm => (cutL_in.1 (this.subset hm)).2 rfl⟩
structure Lp1 (nx : Id → List Id) (U L O : List Id) (k : Nat) : Prop where
  jv : Jv nx U ⟨L, [], O⟩
  nd : L.Nodup
  gone : ∀ a ∈ U.take k, a ∉ L
theorem Lp1.start {nx : Id → List Id} {U : List Id} (h : U.Nodup) : Lp1 nx U U [] 0 := ⟨Jv.start nx U, h, by simp⟩
theorem Lp1.step {nx : Id → List Id} {U L O L' O' : List Id} {k : Nat} (hU : ∀ a ∈ U, ∀ b ∈ nx a, b ∈ U) (h : Lp1 nx U L O k) (hk : k < U.length) (hw : Went nx L O U[k] L' O') : Lp1 nx U L' O' (k + 1) := by
  obtain ⟨hs, ha⟩ := hw.sub
  refine ⟨?_, h.nd.sublist hs, fun a hm => ?_⟩
  · rcases hw with ⟨_, rfl, rfl⟩ | ⟨h1, h2⟩
    · exact h.jv
    · exact Stps.keep (fun _ _ hj s => hj.step hU s) (h.jv.step hU (.root h1)) h2.all
  · rcases (mem_take_succ hk).1 hm with hm | rfl
    · exact fun hl => h.gone a hm (hs.subset hl)
    · exact ha
theorem Lp1.fin {nx : Id → List Id} {U L O : List Id} (h : Lp1 nx U L O U.length) : Fin1 nx U O := by
  have hL : L = [] := List.eq_nil_iff_forall_not_mem.2 (fun a ha => h.gone a (by rw [List.take_length]; exact (h.jv.iv.all a).2 (.inl ha)) ha)
  have := h.jv
  rw [hL] at this
  exact this.fin
theorem Iv.new (nx : Id → List Id) (L : List Id) : Iv nx L ⟨L, [], []⟩ := ⟨fun a => by simp [Wk.ids], by simp [Wk.ids], by simp [Wk.ids], by simp, by simp⟩
theorem Went.room {nx : Id → List Id} {L L' C : List Id} {a : Id} (h : Went nx L [] a L' C) (hn : L.Nodup) {n : Nat} (hl : L.length ≤ n) : C.length ≤ n := by
  rcases h with ⟨_, _, rfl⟩ | ⟨h1, h2⟩
  · simp
  · have hi : Iv nx L ⟨L', [], C⟩ := Stps.keep (fun _ _ hj s => hj.step s) ((Iv.new nx L).step (.root h1)) h2.all
    have := hi.room
    simp only [List.length_nil, Nat.zero_add] at this
    omega
/-- One round of the second walks. -/
theorem lp2 {L : List Rc} (hn : (rids L).Nodup) {U O A B Lf L' C : List Id} {a : Id} {F : List (List Id)} (hU : ∀ x, x ∈ U ↔ clU (L.map rp) x) (h1 : Fin1 (dpsR (L.map rp)) U O) (hO : O = A ++ a :: B)
    (hc : Cv (muD (L.map rp)) (kfR (L.map rp)) (clU (L.map rp)) B Lf F) (hw : Went (usrF L) Lf [] a L' C) :
    (C = [] ∧ Cv (muD (L.map rp)) (kfR (L.map rp)) (clU (L.map rp)) (a :: B) L' F) ∨ (C ≠ [] ∧ ∀ R, SortedOf (L.map rp) C R → Cv (muD (L.map rp)) (kfR (L.map rp)) (clU (L.map rp)) (a :: B) L' (F ++ [R])) := by
  have haO : a ∈ O := by rw [hO]; simp
  have haU := (h1.all a).2 haO
  rcases hw with ⟨h2, rfl, rfl⟩ | ⟨h2, h3⟩
  · exact .inl ⟨rfl, hc.none muD_symm muD_trans (muD_refl _) h2 ((hU a).1 haU)⟩
  · have hs : Kv (usrF L) Lf a ⟨L', [], C⟩ := Stpn.keep (fun _ _ hk hne s => hk.step hne s) (Kv.start h2) h3
    have haC : a ∈ C := by
      have := (hs.iv.all a).1 h2
      simp only [Wk.ids, List.map_nil, List.not_mem_nil, false_or] at this
      rcases this with h | h
      · exact absurd rfl (cutL_in.1 (h3.all.sub.subset h)).2
      · exact h
    refine .inr ⟨fun e => (by rw [e] at haC; cases haC), fun R hR => (second hn hU h1 hO hc h2 h3.all hs haC hR).2⟩
/-- The edges of an id. -/
theorem of1_any (p gb : Nat) (L : List Rc) (a : Id) (H : Hp) (fr : List HA) (w : World) (h : St H (GrA p L :: fr) w) (hg : GrOk H L) (hgb : H.cell gb 0 = some (grP p)) :
    Calls Tryz.prog 39 #[idV a, .pointer (some ⟨gb, 0, none⟩)] w fun e w' => ∃ (v : Value) (H' : Hp), e = .returned v ∧ Hp.le H H' ∧ St H' (GrA p L :: fr) w' ∧ Env w w' ∧ Rd H' 2 v (idl (dpsR (L.map rp) a)) := by
  have hfin : ∀ (v : Value) (H' : Hp) (w' : World), Hp.le H H' → St H' (GrA p L :: fr) w' → Env w w' → Rd H' 2 v (idl (dpsR (L.map rp) a)) → (fun (e : Ending) (w' : World) => ∃ (v : Value) (H' : Hp), e = .returned v ∧ Hp.le H H' ∧ St H' (GrA p L :: fr) w' ∧ Env w w' ∧ Rd H' 2 v (idl (dpsR (L.map rp) a))) (.returned v) w' := fun v H' w' h1 h2 h3 h4 => ⟨v, H', rfl, h1, h2, h3, h4⟩
  generalize (fun (e : Ending) (w' : World) => ∃ (v : Value) (H' : Hp), e = .returned v ∧ Hp.le H H' ∧ St H' (GrA p L :: fr) w' ∧ Env w w' ∧ Rd H' 2 v (idl (dpsR (L.map rp) a))) = Q at *
  replace hfin := Lib.hid hfin
  obtain ⟨a0, a1⟩ := a
  obtain ⟨H1, l1, h1, y⟩ := h.box #[.int .i64 a0, .int .i64 a1] 41
  have y0 : H1.cell w.heap.size 0 = some (.int .i64 a0) := y 0 _ rfl
  have y1 : H1.cell w.heap.size 1 = some (.int .i64 a1) := y 1 _ rfl
  have en1 := (Env.refl w).alloc (.cells #[.int .i64 a0, .int .i64 a1] 41)
  have v0 := h1.cell y0
  have v1 := h1.cell y1
  have vl := World.block_lt_of_cell? _ _ v0
  have g0 := h1.cell (Hp.cell_le l1 hgb)
  have gl := World.block_lt_of_cell? _ _ g0
  have hRc := Lib.hid (grRecord_any p L (a0, a1) H1 _ _ h1 (hg.mono l1))
  clear y h
  go_enter Tryz.func39, Tryz.ntmps39
  go_wp2_with fail
  generalize w.heap.size = ga at *
  generalize w.alloc (.cells #[.int .i64 a0, .int .i64 a1] 41) = W at *
  refine hRc.out.mono ?_
  rintro e w2 ⟨H2, z, l2, h2, en2, rfl, hzd, hzr⟩
  replace en2 := en1.trans en2
  have hdz : Rd H2 2 z.2.2.1 (idl (dpsR (L.map rp) (a0, a1))) := by
    have := hzd.d
    unfold dpsR
    rw [← hzr]
    exact this
  obtain ⟨d1, d2, d3, hdv, _⟩ := hzd.d.form
  obtain ⟨e1, e2, e3, hbv, _⟩ := hzd.b.form
  clear hzr hzd v0 v1 vl g0 gl hRc h1 en1
  obtain ⟨⟨zr, zs⟩, zq, dv, bv, zD, zB⟩ := z
  simp only at hdv hbv hdz
  subst hdv hbv
  obtain ⟨H3, l3, h3, x⟩ := h2.box #[.int .i64 zr, .int .i64 zs, .int .i64 zq, .slice d1 d2 d3, .slice e1 e2 e3] 53
  have x3 := h3.cell (show H3.cell w2.heap.size 3 = some (.slice d1 d2 d3) from x 3 _ rfl)
  have en3 := en2.alloc (.cells #[.int .i64 zr, .int .i64 zs, .int .i64 zq, .slice d1 d2 d3, .slice e1 e2 e3] 53)
  have hz := Lib.hid (hfin.out (.slice d1 d2 d3) H3 _ (Hp.le_trans l1 (Hp.le_trans l2 l3)) h3 en3 (hdz.mono l3))
  clear h3 en3 hdz h2 en2 x
  go_wp2_with fail
  exact hz.out
theorem next1 {p gb : Nat} {L : List Rc} {H : Hp} (hg : GrOk H L) (hgb : H.cell gb 0 = some (grP p)) : NextOf 39 #[] #[.pointer (some ⟨gb, 0, none⟩)] (GrA p L) (dpsR (L.map rp)) H :=
  fun a H' fr w hl h => of1_any p gb L a H' fr w h (hg.mono hl) (Hp.cell_le hl hgb)
theorem next2 {p : Nat} {L : List Rc} {H : Hp} (hg : GrOk H L) (hL : L.length ≤ 1000) : NextOf 42 #[grP p] #[] (GrA p L) (usrF L) H := fun a H' fr w hl h => by
  refine (grUsers_any p L a H' fr w h (hg.mono hl).d (by omega)).mono ?_
  rintro e w' ⟨v, R, rfl, h2, en, hr, hm⟩
  obtain rfl := told_users hr hm
  obtain ⟨H2, l2, h3, hd⟩ := h2.row_keep
  exact ⟨v, H2, rfl, l2, h3, en, hd⟩
end Go.Proofs.YtcbckeoalmjcoaaGreat

/- comps.Of: lists of lists, and the map by heads. -/
set_option linter.unusedVariables false
set_option linter.unusedSimpArgs false
namespace Go.Proofs.YtcbckeoalmjcoaaGreat
open Go.RowKit Go.Cw Go.Fl
/-- A list and the slice that holds it. -/
abbrev Lv := List Id × Value
/-- The codes of a map from ids to slices. -/
def slC : Go.Cw.Code Tryz.prog 41 Id Value where
  kv := idV
  vv := fun v => v
  inj := setC.inj
  kinds := kinds_id
def hdE (X : List Lv) : List (Id × Value) := X.map (fun x => (hdI x.1, x.2))
def lists (X : List Lv) : List (List Id) := X.map (·.1)
def vals (X : List Lv) : List Value := X.map (·.2)
theorem vals_len (X : List Lv) : (vals X).length = X.length * 1 := by simp [vals]
theorem vals_app (X Y : List Lv) : vals (X ++ Y) = vals X ++ vals Y := by simp [vals]
theorem lists_app (X Y : List Lv) : lists (X ++ Y) = lists X ++ lists Y := by simp [lists]
theorem hdE_app (X Y : List Lv) : hdE (X ++ Y) = hdE X ++ hdE Y := by simp [hdE]
theorem vals_get (X : List Lv) (k : Nat) (h : k < X.length) : (vals X)[k * 1]? = some X[k].2 := by simp [vals, h]
theorem hdE_keys (X : List Lv) : (hdE X).map (·.1) = (lists X).map hdI := by simp [hdE, lists]
theorem hdE_put (X : List Lv) (x : Lv) (h : hdI x.1 ∉ (lists X).map hdI) : mput (hdI x.1) x.2 (hdE X) = hdE (X ++ [x]) := by
  unfold mput
  rw [if_neg (by rw [hdE_keys]; exact h), hdE_app]
  rfl
theorem hd_look : ∀ (X : List Lv) (a : Id), a ∈ (lists X).map hdI → ∃ x ∈ X, mlook a (hdE X) = some x.2 ∧ byHd (lists X) a = x.1
  | [], _, h => by simp [lists] at h
  | x :: r, a, h => by
    by_cases hx : hdI x.1 = a
    · exact ⟨x, by simp, by show (if hdI x.1 = a then _ else _) = _; rw [if_pos hx], by unfold byHd lists; rw [List.map_cons, List.find?_cons_of_pos (by simpa using hx)]; rfl⟩
    · have h2 : a ∈ (lists r).map hdI := by
        simp only [lists, List.map_cons, List.mem_cons] at h
        exact h.resolve_left (fun e => hx e.symm)
      obtain ⟨y, hy, hl, hb⟩ := hd_look r a h2
      refine ⟨y, List.mem_cons_of_mem _ hy, by show (if hdI x.1 = a then _ else _) = _; rw [if_neg hx]; exact hl, ?_⟩
      rw [← hb]
      unfold byHd lists
      rw [List.map_cons, List.find?_cons_of_neg (by simpa using hx)]
/-- All the lists' slices are read only. -/
def LvOk (H : Hp) (X : List Lv) : Prop := ∀ x ∈ X, Rd H 2 x.2 (idl x.1)
theorem LvOk.mono {H H' : Hp} {X : List Lv} (h : LvOk H X) (hl : Hp.le H H') : LvOk H' X := fun x hx => (h x hx).mono hl
theorem LvOk.snoc {H : Hp} {X : List Lv} {x : Lv} (h : LvOk H X) (hx : Rd H 2 x.2 (idl x.1)) : LvOk H (X ++ [x]) := fun y hy => by
  rcases List.mem_append.1 hy with hy | hy
  · exact h y hy
  · rw [List.mem_singleton] at hy; subst hy; exact hx
theorem vals_one {H : Hp} {X : List Lv} (h : LvOk H X) : ∀ u ∈ vals X, u.oneCell' = true := fun u hu => by
  obtain ⟨x, hx, rfl⟩ := List.mem_map.1 hu
  obtain ⟨A, n, c, hv, _⟩ := (h x hx).form
  rw [hv]; rfl
theorem info_ids : (Tryz.prog.info? 35).map (fun i => (i.zero, i.size, i.bytes)) = some (some (.slice none 0 0), 1, 24) := by kernel_rfl
theorem zero_ids (w : World) : (zeroValue 35).run Tryz.prog w = .ok (.slice none 0 0) w := by kernel_rfl
/-- The heads of a walk's lists are different. -/
theorem cv_heads {mu : Id → Id → Prop} {kf : Id → Ky} {U : Id → Prop} {B L : List Id} {F : List (List Id)} (hr : ∀ a, mu a a) (h : Cv mu kf U B L F) : (F.map hdI).Nodup := by
  rw [List.Nodup, List.pairwise_map]
  exact h.dis.imp (fun {a b} hn e => hn (by rw [e]; exact hr _))
theorem heads_fresh {X : List Lv} (h : ((lists X).map hdI).Nodup) (k : Nat) (hk : k < X.length) : hdI X[k].1 ∉ (lists (X.take k)).map hdI := by
  intro hm
  have e : (lists X).map hdI = X.map (fun x => hdI x.1) := by simp [lists, Function.comp_def]
  have e2 : (lists (X.take k)).map hdI = (X.take k).map (fun x => hdI x.1) := by simp [lists, Function.comp_def]
  rw [e] at h
  rw [e2] at hm
  obtain ⟨i, hi, he⟩ := List.getElem_of_mem hm
  simp only [List.length_map, List.length_take] at hi
  simp only [List.getElem_map, List.getElem_take] at he
  have h3 : (X.map (fun x => hdI x.1))[i]'(by simp; omega) = (X.map (fun x => hdI x.1))[k]'(by simp; omega) := by simpa using he
  have := (List.getElem_inj h).1 h3
  omega
theorem perm_O (X R S G : HA) (fr : List HA) : (X :: R :: S :: G :: fr).Perm (S :: R :: G :: X :: fr) :=
  (List.Perm.cons _ (List.Perm.swap _ _ _)).trans ((List.Perm.swap _ _ _).trans (List.Perm.cons _ ((List.Perm.swap _ _ _).trans (List.Perm.cons _ (List.Perm.swap _ _ _)))))
theorem perm_T (X G B S R : HA) (fr : List HA) : (X :: G :: B :: S :: R :: fr).Perm (B :: S :: R :: G :: X :: fr) := by
  have h1 : (X :: G :: B :: S :: R :: fr).Perm (G :: B :: S :: R :: X :: fr) :=
    (List.Perm.swap _ _ _).trans (List.Perm.cons _ ((List.Perm.swap _ _ _).trans (List.Perm.cons _ ((List.Perm.swap _ _ _).trans (List.Perm.cons _ (List.Perm.swap _ _ _))))))
  have h2 : (G :: B :: S :: R :: X :: fr).Perm (B :: S :: R :: G :: X :: fr) :=
    (List.Perm.swap _ _ _).trans (List.Perm.cons _ ((List.Perm.swap _ _ _).trans (List.Perm.cons _ (List.Perm.swap _ _ _))))
  exact h1.trans h2
/-- What comps.Of tells. -/
def CompsR (p : Nat) (L : List Rc) (H : Hp) (fr : List HA) (w : World) (e : Ending) (w' : World) : Prop :=
  ∃ (v : Value) (X : List Lv) (H' : Hp), e = .returned v ∧ Hp.le H H' ∧ St H' (Row 35 1 v (vals X) :: GrA p L :: fr) w' ∧ Env w w' ∧ LvOk H' X ∧ CompsOf (L.map rp) (lists X)
end Go.Proofs.YtcbckeoalmjcoaaGreat
