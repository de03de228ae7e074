/- Joined texts: COf1, COf2, CanOut. -/
import Derived.Test.YtcbckeoalmjcoaaGreatCGR17
import Derived.Test.YtcbckeoalmjcoaaGreatCGR21
/- comps.Of: plain laws of its loops; its closures. -/
set_option linter.unusedVariables false
set_option linter.unusedSimpArgs false
namespace Go.Proofs.YtcbckeoalmjcoaaGreat
open Go.RowKit Go.Cw Go.Fl
attribute [local go_sem ↓] eql_id neq_id
theorem dedup_self {C : List Id} (h : C.Nodup) : dedup C = C := by
  have key : ∀ k, k ≤ C.length → dedup (C.take k) = C.take k := by
    intro k
    induction k with
    | zero => intro _; rfl
    | succ k ih =>
      intro hk
      rw [dedup_snoc C k (by omega), ih (by omega), List.take_succ_eq_append_getElem (by omega)]
      unfold addL
      rw [if_neg]
      intro hm
      obtain ⟨i, hi, he⟩ := List.getElem_of_mem hm
      rw [List.getElem_take] at he
      rw [List.length_take] at hi
      have := (List.getElem_inj h).1 he
      omega
  have := key C.length (Nat.le_refl _)
  rwa [List.take_length] at this
theorem Stps.sub {nx : Id → List Id} {a b : Wk} (h : Stps nx a b) : b.left.Sublist a.left := by
  induction h with
  | nil => exact List.Sublist.refl _
  | snoc _ s ih =>
    refine List.Sublist.trans ?_ ih
    cases s with
    | root => exact List.filter_sublist
    | pop => exact List.Sublist.refl _
    | skip => exact List.Sublist.refl _
    | push => exact List.filter_sublist
/-- What a walk told, or that its id was gone. -/
abbrev Went (nx : Id → List Id) (L O : List Id) (a : Id) (L' O' : List Id) : Prop := (a ∉ L ∧ L' = L ∧ O' = O) ∨ (a ∈ L ∧ Stpn nx ⟨cutL a L, [(a, 0)], O⟩ ⟨L', [], O'⟩)
theorem Went.sub {nx : Id → List Id} {L O L' O' : List Id} {a : Id} (h : Went nx L O a L' O') : L'.Sublist L ∧ a ∉ L' := by
  rcases h with ⟨h1, rfl, _⟩ | ⟨h1, h2⟩
  · exact ⟨List.Sublist.refl _, h1⟩
  · have := h2.all.sub
    exact ⟨this.trans List.filter_sublist, fun hm => (cutL_in.1 (this.subset hm)).2 rfl⟩
structure Lp1 (nx : Id → List Id) (U L O : List Id) (k : Nat) : Prop where
  jv : Jv nx U ⟨L, [], O⟩
  nd : L.Nodup
  gone : ∀ a ∈ U.take k, a ∉ L
theorem Lp1.start {nx : Id → List Id} {U : List Id} (h : U.Nodup) : Lp1 nx U U [] 0 := ⟨Jv.start nx U, h, by simp⟩
theorem Lp1.step {nx : Id → List Id} {U L O L' O' : List Id} {k : Nat} (hU : ∀ a ∈ U, ∀ b ∈ nx a, b ∈ U) (h : Lp1 nx U L O k) (hk : k < U.length) (hw : Went nx L O U[k] L' O') : Lp1 nx U L' O' (k + 1) := by
  obtain ⟨hs, ha⟩ := hw.sub
  refine ⟨?_, h.nd.sublist hs, fun a hm => ?_⟩
  · rcases hw with ⟨_, rfl, rfl⟩ | ⟨h1, h2⟩
    · exact h.jv
    · exact Stps.keep (fun _ _ hj s => hj.step hU s) (h.jv.step hU (.root h1)) h2.all
  · rcases (mem_take_succ hk).1 hm with hm | rfl
    · exact fun hl => h.gone a hm (hs.subset hl)
    · exact ha
theorem Lp1.fin {nx : Id → List Id} {U L O : List Id} (h : Lp1 nx U L O U.length) : Fin1 nx U O := by
  have hL : L = [] := List.eq_nil_iff_forall_not_mem.2 (fun a ha => h.gone a (by rw [List.take_length]; exact (h.jv.iv.all a).2 (.inl ha)) ha)
  have := h.jv
  rw [hL] at this
  exact this.fin
theorem Iv.new (nx : Id → List Id) (L : List Id) : Iv nx L ⟨L, [], []⟩ := ⟨fun a => by simp [Wk.ids], by simp [Wk.ids], by simp [Wk.ids], by simp, by simp⟩
theorem Went.room {nx : Id → List Id} {L L' C : List Id} {a : Id} (h : Went nx L [] a L' C) (hn : L.Nodup) {n : Nat} (hl : L.length ≤ n) : C.length ≤ n := by
  rcases h with ⟨_, _, rfl⟩ | ⟨h1, h2⟩
  · simp
  · have hi : Iv nx L ⟨L', [], C⟩ := Stps.keep (fun _ _ hj s => hj.step s) ((Iv.new nx L).step (.root h1)) h2.all
    have := hi.room
    simp only [List.length_nil, Nat.zero_add] at this
    omega
/-- One round of the second walks. -/
theorem lp2 {L : List Rc} (hn : (rids L).Nodup) {U O A B Lf L' C : List Id} {a : Id} {F : List (List Id)} (hU : ∀ x, x ∈ U ↔ clU (L.map rp) x) (h1 : Fin1 (dpsR (L.map rp)) U O) (hO : O = A ++ a :: B)
    (hc : Cv (muD (L.map rp)) (kfR (L.map rp)) (clU (L.map rp)) B Lf F) (hw : Went (usrF L) Lf [] a L' C) :
    (C = [] ∧ Cv (muD (L.map rp)) (kfR (L.map rp)) (clU (L.map rp)) (a :: B) L' F) ∨ (C ≠ [] ∧ ∀ R, SortedOf (L.map rp) C R → Cv (muD (L.map rp)) (kfR (L.map rp)) (clU (L.map rp)) (a :: B) L' (F ++ [R])) := by
  have haO : a ∈ O := by rw [hO]; simp
  have haU := (h1.all a).2 haO
  rcases hw with ⟨h2, rfl, rfl⟩ | ⟨h2, h3⟩
  · exact .inl ⟨rfl, hc.none muD_symm muD_trans (muD_refl _) h2 ((hU a).1 haU)⟩
  · have hs : Kv (usrF L) Lf a ⟨L', [], C⟩ := Stpn.keep (fun _ _ hk hne s => hk.step hne s) (Kv.start h2) h3
    have haC : a ∈ C := by
      have := (hs.iv.all a).1 h2
      simp only [Wk.ids, List.map_nil, List.not_mem_nil, false_or] at this
      rcases this with h | h
      · exact absurd rfl (cutL_in.1 (h3.all.sub.subset h)).2
      · exact h
    refine .inr ⟨fun e => (by rw [e] at haC; cases haC), fun R hR => (second hn hU h1 hO hc h2 h3.all hs haC hR).2⟩
/-- The edges of an id. -/
theorem of1_any (p gb : Nat) (L : List Rc) (a : Id) (H : Hp) (fr : List HA) (w : World) (h : St H (GrA p L :: fr) w) (hg : GrOk H L) (hgb : H.cell gb 0 = some (grP p)) :
    Calls Tryz.prog 39 #[idV a, .pointer (some ⟨gb, 0, none⟩)] w fun e w' => ∃ (v : Value) (H' : Hp), e = .returned v ∧ Hp.le H H' ∧ St H' (GrA p L :: fr) w' ∧ Env w w' ∧ Rd H' 2 v (idl (dpsR (L.map rp) a)) := by
  have hfin : ∀ (v : Value) (H' : Hp) (w' : World), Hp.le H H' → St H' (GrA p L :: fr) w' → Env w w' → Rd H' 2 v (idl (dpsR (L.map rp) a)) → (fun (e : Ending) (w' : World) => ∃ (v : Value) (H' : Hp), e = .returned v ∧ Hp.le H H' ∧ St H' (GrA p L :: fr) w' ∧ Env w w' ∧ Rd H' 2 v (idl (dpsR (L.map rp) a))) (.returned v) w' := fun v H' w' h1 h2 h3 h4 => ⟨v, H', rfl, h1, h2, h3, h4⟩
  generalize (fun (e : Ending) (w' : World) => ∃ (v : Value) (H' : Hp), e = .returned v ∧ Hp.le H H' ∧ St H' (GrA p L :: fr) w' ∧ Env w w' ∧ Rd H' 2 v (idl (dpsR (L.map rp) a))) = Q at *
  replace hfin := Lib.hid hfin
  obtain ⟨a0, a1⟩ := a
  obtain ⟨H1, l1, h1, y⟩ := h.box #[.int .i64 a0, .int .i64 a1] 41
  have y0 : H1.cell w.heap.size 0 = some (.int .i64 a0) := y 0 _ rfl
  have y1 : H1.cell w.heap.size 1 = some (.int .i64 a1) := y 1 _ rfl
  have en1 := (Env.refl w).alloc (.cells #[.int .i64 a0, .int .i64 a1] 41)
  have v0 := h1.cell y0
  have v1 := h1.cell y1
  have vl := World.block_lt_of_cell? _ _ v0
  have g0 := h1.cell (Hp.cell_le l1 hgb)
  have gl := World.block_lt_of_cell? _ _ g0
  have hRc := Lib.hid (grRecord_any p L (a0, a1) H1 _ _ h1 (hg.mono l1))
  clear y h
  go_enter Tryz.func39, Tryz.ntmps39
  go_wp2_with fail
  generalize w.heap.size = ga at *
  generalize w.alloc (.cells #[.int .i64 a0, .int .i64 a1] 41) = W at *
  refine hRc.out.mono ?_
  rintro e w2 ⟨H2, z, l2, h2, en2, rfl, hzd, hzr⟩
  replace en2 := en1.trans en2
  have hdz : Rd H2 2 z.2.2.1 (idl (dpsR (L.map rp) (a0, a1))) := by
    have := hzd.d
    unfold dpsR
    rw [← hzr]
    exact this
  obtain ⟨d1, d2, d3, hdv, _⟩ := hzd.d.form
  obtain ⟨e1, e2, e3, hbv, _⟩ := hzd.b.form
  clear hzr hzd v0 v1 vl g0 gl hRc h1 en1
  obtain ⟨⟨zr, zs⟩, zq, dv, bv, zD, zB⟩ := z
  simp only at hdv hbv hdz
  subst hdv hbv
  obtain ⟨H3, l3, h3, x⟩ := h2.box #[.int .i64 zr, .int .i64 zs, .int .i64 zq, .slice d1 d2 d3, .slice e1 e2 e3] 53
  have x3 := h3.cell (show H3.cell w2.heap.size 3 = some (.slice d1 d2 d3) from x 3 _ rfl)
  have en3 := en2.alloc (.cells #[.int .i64 zr, .int .i64 zs, .int .i64 zq, .slice d1 d2 d3, .slice e1 e2 e3] 53)
  have hz := Lib.hid (hfin.out (.slice d1 d2 d3) H3 _ (Hp.le_trans l1 (Hp.le_trans l2 l3)) h3 en3 (hdz.mono l3))
  clear h3 en3 hdz h2 en2 x
  go_wp2_with fail
  exact hz.out
theorem next1 {p gb : Nat} {L : List Rc} {H : Hp} (hg : GrOk H L) (hgb : H.cell gb 0 = some (grP p)) : NextOf 39 #[] #[.pointer (some ⟨gb, 0, none⟩)] (GrA p L) (dpsR (L.map rp)) H :=
  fun a H' fr w hl h => of1_any p gb L a H' fr w h (hg.mono hl) (Hp.cell_le hl hgb)
theorem next2 {p : Nat} {L : List Rc} {H : Hp} (hg : GrOk H L) (hL : L.length ≤ 1000) : NextOf 42 #[grP p] #[] (GrA p L) (usrF L) H := fun a H' fr w hl h => by
  refine (grUsers_any p L a H' fr w h (hg.mono hl).d (by omega)).mono ?_
  rintro e w' ⟨v, R, rfl, h2, en, hr, hm⟩
  obtain rfl := told_users hr hm
  obtain ⟨H2, l2, h3, hd⟩ := h2.row_keep
  exact ⟨v, H2, rfl, l2, h3, en, hd⟩
end Go.Proofs.YtcbckeoalmjcoaaGreat

/- comps.Of: lists of lists, and the map by heads. -/
set_option linter.unusedVariables false
set_option linter.unusedSimpArgs false
namespace Go.Proofs.YtcbckeoalmjcoaaGreat
open Go.RowKit Go.Cw Go.Fl
/-- A list and the slice that holds it. -/
abbrev Lv := List Id × Value
/-- The codes of a map from ids to slices. -/
def slC : Go.Cw.Code Tryz.prog 41 Id Value where
  kv := idV
  vv := fun v => v
  inj := setC.inj
  kinds := kinds_id
def hdE (X : List Lv) : List (Id × Value) := X.map (fun x => (hdI x.1, x.2))
def lists (X : List Lv) : List (List Id) := X.map (·.1)
def vals (X : List Lv) : List Value := X.map (·.2)
theorem vals_len (X : List Lv) : (vals X).length = X.length * 1 := by simp [vals]
theorem vals_app (X Y : List Lv) : vals (X ++ Y) = vals X ++ vals Y := by simp [vals]
theorem lists_app (X Y : List Lv) : lists (X ++ Y) = lists X ++ lists Y := by simp [lists]
theorem hdE_app (X Y : List Lv) : hdE (X ++ Y) = hdE X ++ hdE Y := by simp [hdE]
theorem vals_get (X : List Lv) (k : Nat) (h : k < X.length) : (vals X)[k * 1]? = some X[k].2 := by simp [vals, h]
theorem hdE_keys (X : List Lv) : (hdE X).map (·.1) = (lists X).map hdI := by simp [hdE, lists]
theorem hdE_put (X : List Lv) (x : Lv) (h : hdI x.1 ∉ (lists X).map hdI) : mput (hdI x.1) x.2 (hdE X) = hdE (X ++ [x]) := by
  unfold mput
  rw [if_neg (by rw [hdE_keys]; exact h), hdE_app]
  rfl
theorem hd_look : ∀ (X : List Lv) (a : Id), a ∈ (lists X).map hdI → ∃ x ∈ X, mlook a (hdE X) = some x.2 ∧ byHd (lists X) a = x.1
  | [], _, h => by simp [lists] at h
  | x :: r, a, h => by
    by_cases hx : hdI x.1 = a
    · exact ⟨x, by simp, by show (if hdI x.1 = a then _ else _) = _; rw [if_pos hx], by unfold byHd lists; rw [List.map_cons, List.find?_cons_of_pos (by simpa using hx)]; rfl⟩
    · have h2 : a ∈ (lists r).map hdI := by
        simp only [lists, List.map_cons, List.mem_cons] at h
        exact h.resolve_left (fun e => hx e.symm)
      obtain ⟨y, hy, hl, hb⟩ := hd_look r a h2
      refine ⟨y, List.mem_cons_of_mem _ hy, by show (if hdI x.1 = a then _ else _) = _; rw [if_neg hx]; exact hl, ?_⟩
      rw [← hb]
      unfold byHd lists
      rw [List.map_cons, List.find?_cons_of_neg (by simpa using hx)]
/-- All the lists' slices are read only. -/
def LvOk (H : Hp) (X : List Lv) : Prop := ∀ x ∈ X, Rd H 2 x.2 (idl x.1)
theorem LvOk.mono {H H' : Hp} {X : List Lv} (h : LvOk H X) (hl : Hp.le H H') : LvOk H' X := fun x hx => (h x hx).mono hl
theorem LvOk.snoc {H : Hp} {X : List Lv} {x : Lv} (h : LvOk H X) (hx : Rd H 2 x.2 (idl x.1)) : LvOk H (X ++ [x]) := fun y hy => by
  rcases List.mem_append.1 hy with hy | hy
  · exact h y hy
  · rw [List.mem_singleton] at hy; subst hy; exact hx
theorem vals_one {H : Hp} {X : List Lv} (h : LvOk H X) : ∀ u ∈ vals X, u.oneCell' = true := fun u hu => by
  obtain ⟨x, hx, rfl⟩ := List.mem_map.1 hu
  obtain ⟨A, n, c, hv, _⟩ := (h x hx).form
  rw [hv]; rfl
theorem info_ids : (Tryz.prog.info? 35).map (fun i => (i.zero, i.size, i.bytes)) = some (some (.slice none 0 0), 1, 24) := by kernel_rfl
theorem zero_ids (w : World) : (zeroValue 35).run Tryz.prog w = .ok (.slice none 0 0) w := by kernel_rfl
/-- The heads of a walk's lists are different. -/
theorem cv_heads {mu : Id → Id → Prop} {kf : Id → Ky} {U : Id → Prop} {B L : List Id} {F : List (List Id)} (hr : ∀ a, mu a a) (h : Cv mu kf U B L F) : (F.map hdI).Nodup := by
  rw [List.Nodup, List.pairwise_map]
  exact h.dis.imp (fun {a b} hn e => hn (by rw [e]; exact hr _))
theorem heads_fresh {X : List Lv} (h : ((lists X).map hdI).Nodup) (k : Nat) (hk : k < X.length) : hdI X[k].1 ∉ (lists (X.take k)).map hdI := by
  intro hm
  have e : (lists X).map hdI = X.map (fun x => hdI x.1) := by simp [lists, Function.comp_def]
  have e2 : (lists (X.take k)).map hdI = (X.take k).map (fun x => hdI x.1) := by simp [lists, Function.comp_def]
  rw [e] at h
  rw [e2] at hm
  obtain ⟨i, hi, he⟩ := List.getElem_of_mem hm
  simp only [List.length_map, List.length_take] at hi
  simp only [List.getElem_map, List.getElem_take] at he
  have h3 : (X.map (fun x => hdI x.1))[i]'(by simp; omega) = (X.map (fun x => hdI x.1))[k]'(by simp; omega) := by simpa using he
  have := (List.getElem_inj h).1 h3
  omega
theorem perm_O (X R S G : HA) (fr : List HA) : (X :: R :: S :: G :: fr).Perm (S :: R :: G :: X :: fr) :=
  (List.Perm.cons _ (List.Perm.swap _ _ _)).trans ((List.Perm.swap _ _ _).trans (List.Perm.cons _ ((List.Perm.swap _ _ _).trans (List.Perm.cons _ (List.Perm.swap _ _ _)))))
theorem perm_T (X G B S R : HA) (fr : List HA) : (X :: G :: B :: S :: R :: fr).Perm (B :: S :: R :: G :: X :: fr) := by
  have h1 : (X :: G :: B :: S :: R :: fr).Perm (G :: B :: S :: R :: X :: fr) :=
    (List.Perm.swap _ _ _).trans (List.Perm.cons _ ((List.Perm.swap _ _ _).trans (List.Perm.cons _ ((List.Perm.swap _ _ _).trans (List.Perm.cons _ (List.Perm.swap _ _ _))))))
  have h2 : (G :: B :: S :: R :: X :: fr).Perm (B :: S :: R :: G :: X :: fr) :=
    (List.Perm.swap _ _ _).trans (List.Perm.cons _ ((List.Perm.swap _ _ _).trans (List.Perm.cons _ (List.Perm.swap _ _ _))))
  exact h1.trans h2
/-- What comps.Of tells. -/
def CompsR (p : Nat) (L : List Rc) (H : Hp) (fr : List HA) (w : World) (e : Ending) (w' : World) : Prop :=
  ∃ (v : Value) (X : List Lv) (H' : Hp), e = .returned v ∧ Hp.le H H' ∧ St H' (Row 35 1 v (vals X) :: GrA p L :: fr) w' ∧ Env w w' ∧ LvOk H' X ∧ CompsOf (L.map rp) (lists X)
end Go.Proofs.YtcbckeoalmjcoaaGreat

/- canon.out. -/
set_option linter.unusedVariables false
set_option linter.unusedSimpArgs false
namespace Go.Proofs.YtcbckeoalmjcoaaGreat
open Go.RowKit Go.Cw Go.Fl
attribute [local go_sem ↓] eql_id neq_id
/-- What of the ids was gathered: k whole ones of a, m of the next one's. -/
def outK (nx : Id → List Id) (a : List Id) (k : Nat) (D : List Id) (m : Nat) : List Id := (a.take k).flatMap (fun x => (nx x).filter (fun d => decide (d ∉ a))) ++ (D.take m).filter (fun d => decide (d ∉ a))
theorem outK_snoc (nx : Id → List Id) (a : List Id) (k : Nat) (D : List Id) (m : Nat) (h : m < D.length) : outK nx a k D (m + 1) = if D[m] ∈ a then outK nx a k D m else outK nx a k D m ++ [D[m]] := by
  unfold outK
  rw [List.take_add_one, List.getElem?_eq_getElem h, List.filter_append]
  by_cases hm : D[m] ∈ a <;> simp [hm]
theorem outK_next (nx : Id → List Id) (a : List Id) (k : Nat) (h : k < a.length) : outK nx a k (nx a[k]) (nx a[k]).length = outK nx a (k + 1) [] 0 := by
  unfold outK
  rw [List.take_length, List.take_add_one, List.getElem?_eq_getElem h, List.flatMap_append]
  simp
theorem outK_zero (nx : Id → List Id) (a : List Id) (k : Nat) (D : List Id) : outK nx a k [] 0 = outK nx a k D 0 := by simp [outK]
theorem outK_end (nx : Id → List Id) (a : List Id) : outK nx a a.length [] 0 = outP nx a := by
  unfold outK outP
  rw [List.take_length]
  simp
theorem outK_len (nx : Id → List Id) (a : List Id) (hn : ∀ x, (nx x).length ≤ 16) (k : Nat) (D : List Id) (hD : D.length ≤ 16) (m : Nat) : (outK nx a k D m).length ≤ 16 * a.length + 16 := by
  have h1 : ∀ l : List Id, (l.flatMap (fun x => (nx x).filter (fun d => decide (d ∉ a)))).length ≤ 16 * l.length := by
    intro l
    induction l with
    | nil => simp
    | cons x l ih =>
      rw [List.flatMap_cons, List.length_append, List.length_cons]
      have := Nat.le_trans (List.length_filter_le (fun d => decide (d ∉ a)) (nx x)) (hn x)
      omega
  have h2 := h1 (a.take k)
  have h3 := Nat.le_trans (List.length_filter_le (fun d => decide (d ∉ a)) (D.take m)) (List.length_take_le' m D)
  have h4 : (a.take k).length ≤ a.length := List.length_take_le' k a
  unfold outK
  rw [List.length_append]
  omega
def OutR (L : List Rc) (a : List Id) (p : Nat) (H : Hp) (fr : List HA) (w : World) (e : Ending) (w' : World) : Prop :=
  ∃ (v : Value) (H' : Hp), e = .returned v ∧ Hp.le H H' ∧ St H' (Row 41 2 v (idl (outP (dpsR (L.map rp)) a)) :: GrA p L :: fr) w' ∧ Env w w'
set_option maxRecDepth 100000 in
set_option maxHeartbeats 8000000 in
theorem canOut_any (p : Nat) (L : List Rc) (u : Value) (a : List Id) (H : Hp) (fr : List HA) (w : World) (h : St H (GrA p L :: fr) w) (hg : GrOk H L) (hu : Rd H 2 u (idl a)) (hal : a.length ≤ 1048576) :
    Calls Tryz.prog 57 #[grP p, u] w (OutR L a p H fr w) := by
  have hfin : ∀ (v : Value) (H' : Hp) (w' : World), Hp.le H H' → St H' (Row 41 2 v (idl (outP (dpsR (L.map rp)) a)) :: GrA p L :: fr) w' → Env w w' → OutR L a p H fr w (.returned v) w' := fun v H' w' h1 h2 h3 => ⟨v, H', rfl, h1, h2, h3⟩
  generalize OutR L a p H fr w = Q at *
  replace hfin := Lib.hid hfin
  obtain ⟨uA, un, uc, rfl, hu1, hu2, _⟩ := hu.form
  rw [idl_len] at hu1
  obtain rfl : un = a.length := by omega
  clear hu1
  have hnl : ∀ x, (dpsR (L.map rp) x).length ≤ 16 := fun x => (lookR_len hg x).1
  have h0 : St H (Row 41 2 (.slice none 0 0) (idl (outK (dpsR (L.map rp)) a 0 [] 0)) :: GrA p L :: fr) w := h.row_nil _ 2
  have hol := Lib.hid (outK_len (dpsR (L.map rp)) a hnl)
  replace hnl := Lib.hid hnl
  have hdps := Lib.hid (fun (x : Id) (y : Rc) (hy : rp y = lookR (L.map rp) x) => show dpsR (L.map rp) x = y.2.2.2.2.1 by unfold dpsR; rw [← hy])
  generalize dpsR (L.map rp) = nx at *
  replace hg := Lib.hid hg
  clear h
  go_enter Tryz.func57, Tryz.ntmps57
  go_wp2_with fail
  go_loopw [5, 14] (fun s5 s14 wr => ∃ (k : Nat) (H' : Hp), k ≤ a.length ∧ s14 = .int .i64 (k : Int) ∧ Hp.le H H' ∧ St H' (Row 41 2 s5 (idl (outK nx a k [] 0)) :: GrA p L :: fr) wr ∧ Env w wr) (fun _ s14 _ => a.length - (intOf s14).toNat)
  case atStart => exact ⟨0, H, by omega, by go_num, Hp.le_refl _, h0, Env.refl _⟩
  case round =>
    clear h0
    obtain ⟨k, H1, hk, rfl, l1, hst, hen⟩ := hrel
    by_cases hlt : k < a.length
    · obtain ⟨b, off, hA, hcr⟩ := ((hu.mono l1).rw hst).cells (by omega)
      cases hA
      have q0 := hcr _ _ (idl_fst a k hlt)
      have q1 := hcr _ _ (idl_snd a k hlt)
      rw [← Nat.add_assoc] at q1
      clear hcr
      have ql := World.block_lt_of_cell? _ _ q0
      have hnx := Lib.hid (outK_next nx a k hlt)
      have hk1 := Lib.hid (show k + 1 ≤ a.length by omega)
      generalize a[k] = x at *
      obtain ⟨H2, l2, h2, y⟩ := hst.box #[.int .i64 x.1, .int .i64 x.2] 41
      have v0 := h2.cell (show H2.cell wr.heap.size 0 = some (.int .i64 x.1) from y 0 _ rfl)
      have v1 := h2.cell (show H2.cell wr.heap.size 1 = some (.int .i64 x.2) from y 1 _ rfl)
      have vl := World.block_lt_of_cell? _ _ v0
      have en2 := hen.alloc (.cells #[.int .i64 x.1, .int .i64 x.2] 41)
      have hRc := Lib.hid (grRecord_any p L x H2 (Row 41 2 _ (idl (outK nx a k [] 0)) :: fr) _ h2.swap (hg.out.mono (Hp.le_trans l1 l2)))
      have l12 := Hp.le_trans l1 l2
      have hdx := Lib.hid (hdps.out x)
      have hnl16 := hnl.out x
      clear y hst hen h2
      obtain ⟨x0, x1⟩ := x
      simp only at q0 q1 v0 v1
      go_wp2_with fail
      generalize wr.alloc (.cells #[.int .i64 x0, .int .i64 x1] 41) = wb at *
      refine hRc.out.mono ?_
      rintro e w3 ⟨H3, z, l3, h3, en3, rfl, hzd, hzr⟩
      replace en3 := en2.trans en3
      have hdz : Rd H3 2 z.2.2.1 (idl (nx (x0, x1))) := by
        rw [hdx.out z hzr]
        exact hzd.d
      obtain ⟨d1, d2, d3, hdv, hd4, _⟩ := hdz.form
      obtain ⟨e1, e2, e3, hbv, _⟩ := hzd.b.form
      clear hzr hzd v0 v1 vl q0 q1 ql hRc en2 hdx
      generalize nx (x0, x1) = D at *
      rw [idl_len] at hd4
      obtain rfl : d2 = D.length := by omega
      clear hd4
      obtain ⟨⟨zr, zs⟩, zq, dv, bv, zD, zB⟩ := z
      simp only at hdv hbv hdz
      subst hdv hbv
      obtain ⟨H4, l4, h4, x⟩ := h3.swap.box #[.int .i64 zr, .int .i64 zs, .int .i64 zq, .slice d1 D.length d3, .slice e1 e2 e3] 53
      have x3 := h4.cell (show H4.cell w3.heap.size 3 = some (.slice d1 D.length d3) from x 3 _ rfl)
      have xl := World.block_lt_of_cell? _ _ x3
      have en4 := en3.alloc (.cells #[.int .i64 zr, .int .i64 zs, .int .i64 zq, .slice d1 D.length d3, .slice e1 e2 e3] 53)
      have l14 := Hp.le_trans l12 (Hp.le_trans l3 l4)
      replace hdz := hdz.mono l4
      rw [outK_zero nx a k D] at h4
      clear x h3 en3
      go_wp2_with fail
      generalize w3.alloc (.cells #[.int .i64 zr, .int .i64 zs, .int .i64 zq, .slice d1 D.length d3, .slice e1 e2 e3] 53) = wc at *
      go_loopw [5, 27] (fun s5 s27 wr => ∃ (m : Nat) (H' : Hp), m ≤ D.length ∧ s27 = .int .i64 (m : Int) ∧ Hp.le H4 H' ∧ St H' (Row 41 2 s5 (idl (outK nx a k D m)) :: GrA p L :: fr) wr ∧ Env w wr) (fun _ s27 _ => D.length - (intOf s27).toNat)
      case atStart => exact ⟨0, H4, by omega, by go_num, Hp.le_refl _, h4, en4⟩
      case round =>
        clear h4 en4 x3 xl
        obtain ⟨m, H5, hm, rfl, l5, hst, hen⟩ := hrel
        by_cases hmt : m < D.length
        · obtain ⟨b2, off2, hA2, hcr⟩ := ((hdz.mono l5).rw hst).cells (by omega)
          cases hA2
          have r0 := hcr _ _ (idl_fst D m hmt)
          have r1 := hcr _ _ (idl_snd D m hmt)
          rw [← Nat.add_assoc] at r1
          have rl := World.block_lt_of_cell? _ _ r0
          have hon := outK_snoc nx a k D m hmt
          have hbd := hol.out k D hnl16 m
          have hm1 := Lib.hid (show m + 1 ≤ D.length by omega)
          generalize D[m] = d at *
          obtain ⟨H6, l6, h6, y⟩ := hst.box #[.int .i64 d.1, .int .i64 d.2] 41
          have v0 := h6.cell (show H6.cell wr.heap.size 0 = some (.int .i64 d.1) from y 0 _ rfl)
          have v1 := h6.cell (show H6.cell wr.heap.size 1 = some (.int .i64 d.2) from y 1 _ rfl)
          have vl := World.block_lt_of_cell? _ _ v0
          have y0 := (show H6.cell wr.heap.size 0 = some (.int .i64 d.1) from y 0 _ rfl)
          have y1 := (show H6.cell wr.heap.size 1 = some (.int .i64 d.2) from y 1 _ rfl)
          have en6 := hen.alloc (.cells #[.int .i64 d.1, .int .i64 d.2] 41)
          have l56 := Hp.le_trans l5 l6
          have hHs := Lib.hid (identHas_any (.slice (some ⟨b, off, none⟩) a.length uc) a d _ ((hu.mono (Hp.le_trans l14 l56)).rw h6))
          clear hcr y hst hen
          obtain ⟨d0, d1'⟩ := d
          simp only at r0 r1 v0 v1 y0 y1
          go_wp2_with fail
          generalize wr.alloc (.cells #[.int .i64 d0, .int .i64 d1'] 41) = wd at *
          generalize wr.heap.size = gd at *
          refine hHs.out.mono ?_
          rintro e w7 ⟨rfl, hb7⟩
          have h7 := h6.below hb7
          have en7 := en6.trans (bel_env hb7)
          have v0 := h7.cell y0
          have v1 := h7.cell y1
          have vl := World.block_lt_of_cell? _ _ v0
          clear hHs h6 en6 hb7 r0 r1 rl
          by_cases hma : (d0, d1') ∈ a
          · rw [decide_eq_true hma]
            rw [if_pos hma] at hon
            rw [← hon] at h7
            clear hon hma
            go_wp2_with fail
            go_roundw
            case rel => exact ⟨m + 1, H6, hm1.out, by go_num, l56, h7, en7⟩
            case measure => simp [intOf]; have := hm1.out; omega
          · rw [decide_eq_false hma]
            rw [if_neg hma] at hon
            have hon2 := Lib.hid hon
            clear hon hma
            go_wp2_with (at_builtin; refine wpList_append rfl (.tmp 35) (.tmp 37) 35 35 rfl Tryz.underlying35 (.inl ⟨_, Tryz.underlying35⟩) (.agg #[.int .i64 0, .int .i64 0]) 16 info_id rfl (by decide) (by decide) rfl rfl (h7.alloc _) (News.new w7 _ 1 #[.int .i64 d0, .int .i64 d1'] rfl (by simp [Value.oneCell'])) ?apB5 ?apK5)
            case apB5 => first | (rw [idl_len]; omega) | (rw [idl_len]; simp; omega)
            case apK5 =>
              intro lv2 w10 h10 en10
              replace en10 := (en7.alloc _).trans en10
              have h11 : St H6 (Row 41 2 lv2 (idl (outK nx a k D (m + 1))) :: GrA p L :: fr) w10 := by rw [hon2.out, idl_append]; exact h10
              clear h10 h7 v0 v1 vl
              go_wp2_with fail
              go_roundw
              case rel => exact ⟨m + 1, H6, hm1.out, by go_num, l56, h11, en10⟩
              case measure => simp [intOf]; have := hm1.out; omega
        · obtain rfl : m = D.length := by omega
          rw [hnx.out] at hst
          clear hm hmt
          go_wp2_with fail
          go_roundw
          case rel => exact ⟨k + 1, H5, hk1.out, by go_num, Hp.le_trans l14 l5, hst, hen⟩
          case measure => simp [intOf]; have := hk1.out; omega
    · obtain rfl : k = a.length := by omega
      rw [outK_end] at hst
      have hz := Lib.hid (fun (v : Value) (hs : St H1 (Row 41 2 v (idl (outP nx a)) :: GrA p L :: fr) wr) => hfin.out v H1 wr l1 hs hen)
      obtain ⟨oA, on, oc, rfl, _⟩ := hst.row_form
      have hz2 := Lib.hid (hz.out _ hst)
      clear hst hz
      go_wp2_with fail
      exact hz2.out
end Go.Proofs.YtcbckeoalmjcoaaGreat
