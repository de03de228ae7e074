/- Joined texts: CSort. -/
import Derived.Test.YtcbckeoalmjcoaaGreatCGR5
import Derived.Test.YtcbckeoalmjcoaaGreatCGR18
/- comps.Sorted: ids in the order of their records. -/
set_option linter.unusedVariables false
set_option linter.unusedSimpArgs false
namespace Go.Proofs.YtcbckeoalmjcoaaGreat
open Go.RowKit Go.Cw Go.Fl Go.Sort
attribute [local go_sem ↓] eql_id neq_id
/-- Ids that are there. -/
def thereF (L : List Rc) (R : List Id) : List Id := R.filter (fun a => decide (a ∈ rids L))
theorem thereF_snoc (L : List Rc) (R : List Id) (k : Nat) (h : k < R.length) : thereF L (R.take (k + 1)) = if R[k] ∈ rids L then thereF L (R.take k) ++ [R[k]] else thereF L (R.take k) := by
  unfold thereF
  rw [List.take_add_one, List.getElem?_eq_getElem h, List.filter_append]
  by_cases hm : R[k] ∈ rids L <;> simp [hm]
theorem thereF_len (L : List Rc) (R : List Id) : (thereF L R).length ≤ R.length := List.length_filter_le ..
/-- What Sorted tells. -/
def SortR (p : Nat) (L : List Rc) (H : Hp) (fr : List HA) (l : List Id) (w : World) (e : Ending) (w' : World) : Prop :=
  ∃ (v : Value) (R : List Id) (H' : Hp), e = .returned v ∧ Hp.le H H' ∧ St H' (Row 41 2 v (idl R) :: GrA p L :: fr) w' ∧ Env w w' ∧ SortedOf (L.map rp) l R
theorem flatMap_map_id {α : Type} (f : α → Id) (l : List α) : l.flatMap (fun x => idc (f x)) = idl (l.map f) := by
  unfold idl
  rw [List.flatMap_map]
theorem sortWorld_ids {α : Type} [Inhabited α] (f : α → Id) (w : World) (b off m : Nat) (d : Array α) (os : Array Obj) : sortWorldK (fun x => idc (f x)) 2 w b off m d os = sortWorldK idc 2 w b off m (d.toList.map f).toArray os := by
  have e1 : flatK (fun x => idc (f x)) 2 d = flatK idc 2 (d.toList.map f).toArray := by
    have h1 := flatK_eq (fun x => idc (f x)) 2 (by omega) (fun _ => rfl) d.toList
    have h2 := flatK_eq idc 2 (by omega) (fun _ => rfl) (d.toList.map f)
    rw [show d.toList.toArray = d from rfl] at h1
    rw [h1, h2, flatMap_map_id]
    rfl
  unfold sortWorldK putRowK
  rw [e1]
theorem holds_rowF {α : Type} [Inhabited α] (f : α → Id) {H : Hp} {fr : List HA} {w : World} {e : TypeId} {g off n c : Nat} {l : List α} (h : St H (Row e 2 (.slice (some ⟨g, off, none⟩) n c) (idl (l.map f)) :: fr) w) (hn : 0 < n) : HoldsK (fun x => idc (f x)) 2 w g off l.toArray ∧ g < w.heap.size := by
  obtain ⟨h1, h2⟩ := holds_row h hn
  refine ⟨?_, h2⟩
  unfold HoldsK at *
  have e1 : flatK (fun x => idc (f x)) 2 l.toArray = flatK idc 2 (l.map f).toArray := by
    rw [flatK_eq (fun x => idc (f x)) 2 (by omega) (fun _ => rfl) l, flatK_eq idc 2 (by omega) (fun _ => rfl) (l.map f), flatMap_map_id]
    rfl
  rw [e1]
  exact h1
/-- The order of two of some records. -/
def cmpM {M : List Rc} (x y : {z : Rc // z ∈ M}) : Int := cmpRc x.1 y.1
theorem ltOf_M {M : List Rc} (x y : {z : Rc // z ∈ M}) : ltOf cmpM x y = kLt (ky x.1) (ky y.1) := by
  unfold ltOf cmpM cmpRc
  cases h1 : kLt (ky x.1) (ky y.1) with
  | true => simp
  | false => cases h2 : kLt (ky y.1) (ky x.1) <;> simp
theorem swo_M {M : List Rc} : SWO (ltOf (cmpM (M := M))) where
  irrefl x := by rw [ltOf_M, kLt_no]; omega
  trans x y z h1 h2 := by rw [ltOf_M, kLt_iff] at *; omega
  ntrans x y z h1 h2 := by rw [ltOf_M, kLt_no] at *; omega
theorem ids_inj {M : List Rc} (h : (rids M).Nodup) {x y : Rc} (hx : x ∈ M) (hy : y ∈ M) (e : x.1 = y.1) : x = y := by
  obtain ⟨i, hi, rfl⟩ := List.getElem_of_mem hx
  obtain ⟨j, hj, rfl⟩ := List.getElem_of_mem hy
  have : i = j := (List.getElem_inj (h₀ := by simpa [rids] using hi) (h₁ := by simpa [rids] using hj) h).1 (by simpa [rids] using e)
  subst this
  rfl
theorem total_M {M : List Rc} (h : (rids M).Nodup) (x y : {z : Rc // z ∈ M}) (h1 : ltOf cmpM x y = false) (h2 : ltOf cmpM y x = false) : x = y := by
  rw [ltOf_M] at *
  have := kLt_total h1 h2
  exact Subtype.ext (ids_inj h x.2 y.2 (congrArg Prod.snd this))
def sortM (M : List Rc) : List {z : Rc // z ∈ M} := M.attach.mergeSort fun x y => !(ltOf cmpM) y x
theorem sortM_mem (M : List Rc) (a : Id) : a ∈ (sortM M).map (fun z => z.1.1) ↔ a ∈ rids M := by
  have hp : (sortM M).Perm M.attach := List.mergeSort_perm ..
  rw [(hp.map (fun z => z.1.1)).mem_iff]
  simp [rids]
theorem sortM_rises {M : List Rc} (h : (rids M).Nodup) : KRises ((sortM M).map (fun z => ky z.1)) := by
  have hs : (sortM M).Pairwise (fun a b => (!(ltOf cmpM) b a) = true) := by
    unfold sortM
    refine List.pairwise_mergeSort (fun a b c h1 h2 => ?_) (fun a b => ?_) _
    · rw [ltOf_M] at *
      simp only [Bool.not_eq_true', kLt_no] at *
      omega
    · rw [ltOf_M, ltOf_M]
      simp only [Bool.or_eq_true, Bool.not_eq_true', kLt_no]
      omega
  have hp : (sortM M).Perm M.attach := List.mergeSort_perm ..
  have hMn : M.Nodup := by
    unfold rids at h
    exact (List.pairwise_map.1 h).imp (fun h e => h (by rw [e]))
  have hn : (sortM M).Nodup := hp.nodup_iff.2 (by
    have : (M.attach.map Subtype.val).Nodup := by rw [List.attach_map_subtype_val]; exact hMn
    exact (List.pairwise_map.1 this).imp (fun h e => h (by rw [e])))
  unfold KRises
  rw [List.pairwise_map]
  refine (hs.and hn).imp (fun {a b} hab => ?_)
  obtain ⟨h1, h2⟩ := hab
  rw [ltOf_M] at h1
  simp only [Bool.not_eq_true'] at h1
  cases hab : kLt (ky a.1) (ky b.1) with
  | true => rfl
  | false => exact absurd (Subtype.ext (ids_inj h a.2 b.2 (congrArg Prod.snd (kLt_total hab h1)))) h2
theorem rises_there {L : List Rc} {R : List Id} (h : R.Nodup) : (thereF L R).Nodup := List.Pairwise.filter _ h
theorem ky_kfR {L : List Rc} {z : Rc} (h : rp z = lookR (L.map rp) z.1) : ky z = kfR (L.map rp) z.1 := by
  unfold ky kfR
  rw [← h]
theorem mlook_at {M : List Rc} (hn : (rids M).Nodup) {x : Rc} (hx : x ∈ M) : mlook x.1 (entsR M) = some x := by
  obtain ⟨y, hy, he, hl⟩ := entsR_some M x.1 (List.mem_map.2 ⟨x, hx, rfl⟩)
  rw [hl, ids_inj hn hy hx he]
theorem attach_ids (M : List Rc) : M.attach.map (fun z => z.1.1) = rids M := by
  have : M.attach.map (fun z => z.1.1) = (M.attach.map Subtype.val).map (fun x => x.1) := by rw [List.map_map]; rfl
  exact this.trans (by rw [List.attach_map_subtype_val]; first | done | rfl)
/-- The closure's contract wherever the sort may be. -/
theorem lays_M {H : Hp} {fr : List HA} {w : World} {gc gm g off n c : Nat} {M : List Rc} [Inhabited {z : Rc // z ∈ M}] (hn : (rids M).Nodup)
    (h : St H (Row 41 2 (.slice (some ⟨g, off, none⟩) n c) (idl (rids M)) :: Blk gc #[.map (some gm)] 56 :: Mp recC gm (entsR M) :: fr) w) :
    CmpLays Tryz.prog 44 #[.pointer (some ⟨gc, 0, none⟩)] (fun z : {z : Rc // z ∈ M} => idc z.1.1) 2 cmpM g off M.attach.toArray.size w := by
  intro m os dk hdk x y
  have hlen : (dk.toList.map (fun z => z.1.1)).length = (rids M).length := by
    have h1 : dk.size = M.attach.length := by simpa using hdk
    rw [List.length_map, Array.length_toList, h1]
    simp [rids]
  obtain ⟨h2, _⟩ := row_sort h (dk.toList.map (fun z => z.1.1)) hlen m os
  have e1 := sortWorld_ids (fun z : {z : Rc // z ∈ M} => z.1.1) w g off m dk os
  rw [← e1] at h2
  generalize sortWorldK (fun z : {z : Rc // z ∈ M} => idc z.1.1) 2 w g off m dk os = W at *
  exact (less1_any gc gm x.1.1 y.1.1 x.1 y.1 W (fun w' hg => by
    have h3 := h2.below hg.below
    have h4 := h3.pick 1 (by simp)
    have h5 : St H (Mp recC gm (entsR M) :: Row 41 2 (.slice (some ⟨g, off, none⟩) n c) (idl (dk.toList.map (fun z => z.1.1))) :: Blk gc #[.map (some gm)] 56 :: fr) w' := h3.pick 2 (by simp)
    refine ⟨h4.blk_cell 0, ?_, ?_⟩
    · have := h5.mp_get false Tryz.underlying56 (zero_rec _) x.1.1
      rw [mlook_at hn x.2] at this
      exact this
    · have := h5.mp_get false Tryz.underlying56 (zero_rec _) y.1.1
      rw [mlook_at hn y.2] at this
      exact this)).mono (by
        rintro e w' ⟨rfl, hg⟩
        exact ⟨rfl, hg⟩)
set_option maxRecDepth 100000 in
set_option maxHeartbeats 8000000 in
theorem csorted_any (p : Nat) (L : List Rc) (v : Value) (l : List Id) (H : Hp) (fr : List HA) (w : World) (h : St H (GrA p L :: fr) w) (hg : GrOk H L) (hv : Rw w 2 v (idl l)) (hlen : l.length ≤ 1000) :
    Calls Tryz.prog 16 #[grP p, v] w (SortR p L H fr l w) := by
  have hfin : ∀ (v : Value) (R : List Id) (H' : Hp) (w' : World), Hp.le H H' → St H' (Row 41 2 v (idl R) :: GrA p L :: fr) w' → Env w w' → SortedOf (L.map rp) l R → SortR p L H fr l w (.returned v) w' := fun v R H' w' h1 h2 h3 h4 => ⟨v, R, H', rfl, h1, h2, h3, h4⟩
  generalize SortR p L H fr l w = Q at *
  replace hfin := Lib.hid hfin
  replace hg := Lib.hid hg
  have m1 := run_makeMap (P := Tryz.prog) 56 w
  have e1 : (w.alloc (.map #[] 0)).heap.size = w.heap.size + 1 := by simp
  have h1 := (h.mp_made (C := recC)).blk #[.map (some w.heap.size)] 56
  rw [e1] at h1
  have en1 := ((Env.refl w).alloc (.map #[] 0)).alloc (.cells #[.map (some w.heap.size)] 56)
  have hv1 := (hv.alloc (.map #[] 0)).alloc (.cells #[.map (some w.heap.size)] 56)
  have hS := Lib.hid (identSorted_any v l _ hv1 (by omega))
  clear h e1 hv hv1
  go_enter Tryz.func16, Tryz.ntmps16
  go_wp2_with fail
  generalize (w.alloc (.map #[] 0)).alloc (.cells #[.map (some w.heap.size)] 56) = W at *
  generalize hgc : w.heap.size + 1 = gc at *
  generalize hgm : w.heap.size = gm at *
  refine hS.out.mono ?_
  intro e w2 he
  obtain ⟨iv, rfl, h2, en2⟩ := ResE.lift h1 he
  replace en2 := en1.trans en2
  obtain ⟨R0, hR0⟩ : ∃ R0, R0 = runs (idSort l) := ⟨_, rfl⟩
  have hrs : Hid (R0.Nodup) := Lib.hid (by rw [hR0]; exact rises_nodup (runs_sort_rises l))
  have hrm : Hid (∀ a, a ∈ R0 ↔ a ∈ l) := Lib.hid (fun a => by rw [hR0]; exact runs_sort_mem l a)
  rw [← hR0] at h2
  have hRl : R0.length ≤ 1000 := by
    have := sub_len16 R0 l hrs.out (fun a ha => (hrm.out a).1 ha)
    omega
  obtain ⟨iA, im, ic, rfl, hi1, hi2, _⟩ := h2.row_form
  rw [idl_len] at hi1
  obtain rfl : im = R0.length := by omega
  obtain ⟨H2, l2, h3, hrd⟩ := h2.row_keep
  have h4 := h3.row_nil 41 2
  clear hS h1 h2 h3 en1 hi1 hi2 hR0 he m1
  go_wp2_with fail
  go_loopw [5, 16] (fun s5 s16 wr => ∃ (k : Nat) (H' : Hp) (M : List Rc), k ≤ R0.length ∧ s16 = .int .i64 (k : Int) ∧ Hp.le H2 H' ∧ St H' (Row 41 2 s5 (idl (rids M)) :: Blk gc #[.map (some gm)] 56 :: Mp recC gm (entsR M) :: GrA p L :: fr) wr ∧ Env w wr ∧ Hid (rids M = thereF L (R0.take k)) ∧ Hid (∀ z ∈ M, RcD H' z ∧ rp z = lookR (L.map rp) z.1)) (fun _ s16 _ => R0.length - (intOf s16).toNat)
  case atStart => exact ⟨0, H2, [], by omega, by go_num, Hp.le_refl _, h4, en2, Lib.hid rfl, Lib.hid (by simp)⟩
  case round =>
    clear h4 en2
    obtain ⟨k, H3, M, hk, rfl, l3, hst, hen, hM, hMd⟩ := hrel
    obtain ⟨oA, om, oc, rfl, ho1, ho2, _⟩ := hst.row_form
    rw [idl_len] at ho1
    have hMl : (rids M).length ≤ k := by
      rw [hM.out]
      have := thereF_len L (R0.take k)
      rw [List.length_take] at this
      omega
    by_cases hlt : k < R0.length
    · have hcs := thereF_snoc L R0 k hlt
      have hnin : Hid (R0[k] ∉ rids M) := Lib.hid (by
        rw [hM.out]
        intro hm
        have hm2 := (List.mem_filter.1 hm).1
        obtain ⟨i, hi, he⟩ := List.getElem_of_mem hm2
        rw [List.getElem_take] at he
        rw [List.length_take] at hi
        have := (List.getElem_inj hrs.out).1 he
        omega)
      obtain ⟨b, off, hA, hcr⟩ := ((hrd.mono l3).rw hst).cells (by omega)
      cases hA
      have q0 := hcr _ _ (idl_fst R0 k hlt)
      have q1 := hcr _ _ (idl_snd R0 k hlt)
      rw [← Nat.add_assoc] at q1
      clear hcr
      have ql := World.block_lt_of_cell? _ _ q0
      generalize R0[k] = x at *
      obtain ⟨H4, l4, h5, y⟩ := hst.box #[.int .i64 x.1, .int .i64 x.2] 41
      have y0 : H4.cell wr.heap.size 0 = some (.int .i64 x.1) := y 0 _ rfl
      have y1 : H4.cell wr.heap.size 1 = some (.int .i64 x.2) := y 1 _ rfl
      have en5 := hen.alloc (.cells #[.int .i64 x.1, .int .i64 x.2] 41)
      have v0 := h5.cell y0
      have v1 := h5.cell y1
      have vl := World.block_lt_of_cell? _ _ v0
      have l34 := Hp.le_trans l3 l4
      have hRc := Lib.hid (grRecord_any p L x H4 _ _ (h5.pick 3 (by simp)) (hg.out.mono (Hp.le_trans l2 l34)))
      have hk1 := Lib.hid (show k + 1 ≤ R0.length by omega)
      clear y hst hen
      obtain ⟨x0, x1⟩ := x
      simp only at q0 q1 v0 v1 y0 y1
      go_wp2_with fail
      generalize wr.heap.size = gb at *
      generalize wr.alloc (.cells #[.int .i64 x0, .int .i64 x1] 41) = wb at *
      refine hRc.out.mono ?_
      rintro e w6 ⟨H5, y, l5, h6, en6, rfl, hyd, hyr⟩
      replace en6 := en5.trans en6
      clear v0 v1 vl q0 q1 ql h5 en5 hRc
      have l45 := Hp.le_trans l34 l5
      obtain ⟨d1, d2, d3, hdv, _⟩ := hyd.d.form
      obtain ⟨e1, e2, e3, hbv, _⟩ := hyd.b.form
      by_cases hx : ((x0, x1) : Id) ∈ rids L
      · rw [decide_eq_true hx]
        rw [if_pos hx] at hcs
        have hyi : y.1 = (x0, x1) := by
          have h1 := (lookR_mem (l := L.map rp) (a := (x0, x1)) (by rw [pids_rp]; exact hx)).2
          rw [← hyr] at h1
          exact h1
        have hput : mput (x0, x1) y (entsR M) = entsR (M ++ [y]) := by
          have := entsR_put M y (by rw [hyi]; exact hnin.out)
          rw [hyi] at this
          exact this
        have hyr2 : rp y = lookR (L.map rp) y.1 := by rw [hyi]; exact hyr
        have hMn : Hid (rids (M ++ [y]) = thereF L (R0.take (k + 1))) := Lib.hid (by
          rw [hcs, ← hM.out]
          simp [rids, hyi])
        have hMd' : Hid (∀ z ∈ M ++ [y], RcD H5 z ∧ rp z = lookR (L.map rp) z.1) := Lib.hid (fun z hz => by
          rcases List.mem_append.1 hz with hz | hz
          · exact ⟨((hMd.out z hz).1.mono l4).mono l5, (hMd.out z hz).2⟩
          · rw [List.mem_singleton] at hz
            subst hz
            exact ⟨hyd, hyr2⟩)
        have hids : idl (rids (M ++ [y])) = idl (rids M) ++ [.int .i64 x0, .int .i64 x1] := by
          unfold rids
          rw [List.map_append, idl_append]
          simp [idl, idc, hyi]
        replace hids := Lib.hid hids
        replace hput := Lib.hid hput
        clear hcs hnin hx hyr hyr2 hyd
        obtain ⟨⟨yr, ys⟩, yq, dv, bv, yD, yB⟩ := y
        simp only at hdv hbv hyi
        cases hyi
        subst hdv hbv
        obtain ⟨H6, l6, h7, z⟩ := h6.box #[.int .i64 x0, .int .i64 x1, .int .i64 yq, .slice d1 d2 d3, .slice e1 e2 e3] 53
        have en7 := en6.alloc (.cells #[.int .i64 x0, .int .i64 x1, .int .i64 yq, .slice d1 d2 d3, .slice e1 e2 e3] 53)
        have z0 := h7.cell (show H6.cell w6.heap.size 0 = some (.int .i64 x0) from z 0 _ rfl)
        have z1 := h7.cell (show H6.cell w6.heap.size 1 = some (.int .i64 x1) from z 1 _ rfl)
        have z2 := h7.cell (show H6.cell w6.heap.size 2 = some (.int .i64 yq) from z 2 _ rfl)
        have z3 := h7.cell (show H6.cell w6.heap.size 3 = some (.slice d1 d2 d3) from z 3 _ rfl)
        have z4 := h7.cell (show H6.cell w6.heap.size 4 = some (.slice e1 e2 e3) from z 4 _ rfl)
        have zl := World.block_lt_of_cell? _ _ z0
        have zy0 := Hp.cell_le (Hp.le_trans l5 l6) y0
        have zy1 := Hp.cell_le (Hp.le_trans l5 l6) y1
        have v0 := h7.cell zy0
        have v1 := h7.cell zy1
        have vl := World.block_lt_of_cell? _ _ v0
        have h8 : St H6 (Blk gc #[.map (some gm)] 56 :: GrA p L :: Row 41 2 (.slice oA om oc) (idl (rids M)) :: Mp recC gm (entsR M) :: fr) _ := h7.pick 2 (by simp)
        have m0 := h8.blk_cell 0
        have ml := h8.blk_lt
        have h9 : St H6 (Mp recC gm (entsR M) :: GrA p L :: Row 41 2 (.slice oA om oc) (idl (rids M)) :: Blk gc #[.map (some gm)] 56 :: fr) _ := h7.pick 3 (by simp)
        have l46 := Hp.le_trans l45 l6
        clear h6 en6 z
        go_wp2_with (first
          | (at_mapUpdate; refine wpList_mput h9 rfl (.tmp 27) (.tmp 28) (.tmp 29) rfl Tryz.underlying56 rfl (x0, x1) rfl ((x0, x1), yq, .slice d1 d2 d3, .slice e1 e2 e3, yD, yB) rfl ?_; intro w10 h10 en10; rw [hput.out] at h10; replace en10 := en7.trans en10; have h11 : St H6 (Row 41 2 (.slice oA om oc) (idl (rids M)) :: Mp recC gm (entsR (M ++ [((x0, x1), yq, .slice d1 d2 d3, .slice e1 e2 e3, yD, yB)])) :: GrA p L :: Blk gc #[.map (some gm)] 56 :: fr) w10 := h10.pick 2 (by simp); clear z0 z1 z2 z3 z4 zl v0 v1 vl h8 m0 ml h10 h9 h7 en7; have v0 := h11.cell zy0; have v1 := h11.cell zy1; have vl := World.block_lt_of_cell? _ _ v0)
          | (at_builtin; refine wpList_append rfl (.tmp 30) (.tmp 32) 35 35 rfl Tryz.underlying35 (.inl ⟨_, Tryz.underlying35⟩) (.agg #[.int .i64 0, .int .i64 0]) 16 info_id rfl (by decide) (by decide) rfl rfl (h11.alloc _) (News.new w10 _ 1 #[.int .i64 x0, .int .i64 x1] rfl (by simp [Value.oneCell'])) ?apB2 ?apK2))
        case apB2 => first | omega | (rw [idl_len]; omega) | (simp only [idl_len]; simp; omega)
        case apK2 =>
          intro lv2 w12 h12 en12
          replace en12 := (en10.alloc _).trans en12
          have h13 : St H6 (Row 41 2 lv2 (idl (rids (M ++ [((x0, x1), yq, .slice d1 d2 d3, .slice e1 e2 e3, yD, yB)]))) :: Mp recC gm (entsR (M ++ [((x0, x1), yq, .slice d1 d2 d3, .slice e1 e2 e3, yD, yB)])) :: GrA p L :: Blk gc #[.map (some gm)] 56 :: fr) w12 := by rw [hids.out]; exact h12
          have h14 : St H6 (Row 41 2 lv2 (idl (rids (M ++ [((x0, x1), yq, .slice d1 d2 d3, .slice e1 e2 e3, yD, yB)]))) :: Blk gc #[.map (some gm)] 56 :: Mp recC gm (entsR (M ++ [((x0, x1), yq, .slice d1 d2 d3, .slice e1 e2 e3, yD, yB)])) :: GrA p L :: fr) w12 := (h13.pick 3 (by simp)).pick 1 (by simp)
          have hMd6 : Hid (∀ z ∈ M ++ [((x0, x1), yq, .slice d1 d2 d3, .slice e1 e2 e3, yD, yB)], RcD H6 z ∧ rp z = lookR (L.map rp) z.1) := Lib.hid (fun z hz => ⟨(hMd'.out z hz).1.mono l6, (hMd'.out z hz).2⟩)
          go_wp2_with fail
          go_roundw
          case rel => exact ⟨k + 1, H6, _, hk1.out, by go_num, l46, h14, en12, hMn, hMd6⟩
          case measure => simp [intOf]; omega
      · rw [decide_eq_false hx]
        rw [if_neg hx] at hcs
        have hMn : Hid (rids M = thereF L (R0.take (k + 1))) := Lib.hid (by rw [hcs, ← hM.out])
        have hMd' : Hid (∀ z ∈ M, RcD H5 z ∧ rp z = lookR (L.map rp) z.1) := Lib.hid (fun z hz => ⟨((hMd.out z hz).1.mono l4).mono l5, (hMd.out z hz).2⟩)
        clear hcs hnin hx hyr hyd
        obtain ⟨⟨yr, ys⟩, yq, dv, bv, yD, yB⟩ := y
        simp only at hdv hbv
        subst hdv hbv
        obtain ⟨H6, l6, h7, z⟩ := h6.box #[.int .i64 yr, .int .i64 ys, .int .i64 yq, .slice d1 d2 d3, .slice e1 e2 e3] 53
        have en7 := en6.alloc (.cells #[.int .i64 yr, .int .i64 ys, .int .i64 yq, .slice d1 d2 d3, .slice e1 e2 e3] 53)
        have l46 := Hp.le_trans l45 l6
        have h8 : St H6 (Row 41 2 (.slice oA om oc) (idl (rids M)) :: Blk gc #[.map (some gm)] 56 :: Mp recC gm (entsR M) :: GrA p L :: fr) _ := ((h7.pick 3 (by simp)).pick 3 (by simp)).pick 3 (by simp)
        have hMd6 : Hid (∀ z ∈ M, RcD H6 z ∧ rp z = lookR (L.map rp) z.1) := Lib.hid (fun z hz => ⟨(hMd'.out z hz).1.mono l6, (hMd'.out z hz).2⟩)
        clear h6 en6 z h7
        go_wp2_with fail
        go_roundw
        case rel => exact ⟨k + 1, H6, M, hk1.out, by go_num, l46, h8, en7, hMn, hMd6⟩
        case measure => simp [intOf]; omega
    · obtain rfl : k = R0.length := by omega
      rw [List.take_length] at hM
      have hMn : (rids M).Nodup := by rw [hM.out]; exact rises_there hrs.out
      have hmem : ∀ a, a ∈ rids M ↔ (a ∈ l ∧ a ∈ pids (L.map rp)) := fun a => by
        rw [hM.out]
        unfold thereF
        rw [List.mem_filter, decide_eq_true_eq, hrm.out, pids_rp]
      have hlr : (rids M).length = M.length := by simp [rids]
      have eg : ∀ args w, (callFunc 44 args).run Tryz.prog w = .ok (.enter 44 args) w := enters_of Tryz.func44 (by kernel_rfl) rfl
      rcases Nat.eq_zero_or_pos M.length with h0 | h0
      · have hM0 : M = [] := List.length_eq_zero_iff.1 h0
        subst hM0
        obtain rfl : om = 0 := by simp [rids] at ho1; omega
        have hcon := Lib.hid (AnyF.slices_SortFunc_none { sortId with } oA oc (.func (.func 44) #[] #[.pointer (some ⟨gc, 0, none⟩)]) wr)
        have h6 : St H3 (Row 41 2 (.slice oA 0 oc) (idl []) :: GrA p L :: fr) wr := ((hst.pick 3 (by simp)).pick 1 (by simp)).swap.drop.swap.drop |> fun _ => by
          have h7 : St H3 (Mp recC gm (entsR []) :: Row 41 2 (.slice oA 0 oc) (idl (rids [])) :: Blk gc #[.map (some gm)] 56 :: GrA p L :: fr) wr := hst.pick 2 (by simp)
          exact (h7.drop.pick 1 (by simp)).drop
        have hz := fun w' (hw : w' = wr) => hfin.out (.slice oA 0 oc) [] H3 w' (Hp.le_trans l2 l3) (by rw [hw]; exact h6) (by rw [hw]; exact hen) ⟨by simp [KR, KRises], fun a => by rw [← hmem]; simp [rids]⟩
        replace hz := Lib.hid hz
        clear hmem hMn eg hM hMd
        go_wp2_with fail
        refine hcon.out.mono ?_
        rintro e w3 ⟨rfl, hw3⟩
        subst hw3
        have hz2 := Lib.hid (fun v (hv : v = Value.slice oA 0 oc) => (hv ▸ hz.out w3 rfl : Q (.returned v) w3))
        go_wp2_with fail
        exact hz2.out _ rfl
      · haveI : Inhabited {z : Rc // z ∈ M} := ⟨⟨M[0], List.getElem_mem h0⟩⟩
        have hst2 : St H3 (Row 41 2 (.slice oA om oc) (idl (M.attach.map (fun z => z.1.1))) :: Blk gc #[.map (some gm)] 56 :: Mp recC gm (entsR M) :: GrA p L :: fr) wr := by rw [attach_ids]; exact hst
        obtain ⟨b, off, hA, _⟩ := hst2.row_cells (by omega) (by omega)
        cases hA
        have hss : M.attach.toArray.size = M.length := by simp
        obtain rfl : om = M.length := by omega
        obtain ⟨hH, hblk⟩ := holds_rowF (fun z : {z : Rc // z ∈ M} => z.1.1) hst2 h0
        have hsz : M.attach.toArray.size < 4611686018427387904 := by simp; omega
        have hcon := AnyQ.slices_SortFunc_total sortId 2 Tryz.isAgg41 Tryz.sizeOf41 (fun z : {z : Rc // z ∈ M} => idc z.1.1) (fun _ => rfl) (fun x v hv => by simp [idc] at hv; rcases hv with rfl | rfl <;> rfl) cmpM swo_M 44 #[.pointer (some ⟨gc, 0, none⟩)] b off oc M.attach.toArray wr eg (lays_M hMn (n := M.length) (c := oc) (by rw [← attach_ids]; exact hst2)) hH hblk hsz (total_M hMn)
        change Calls Tryz.prog 46 _ _ _ at hcon
        rw [hss] at hcon
        replace hcon := Lib.hid hcon
        have hz : Hid (∀ (m : Nat) (os : Array Obj), Q (.returned (.slice (some ⟨b, off, none⟩) M.length oc)) (sortWorldK (fun z : {z : Rc // z ∈ M} => idc z.1.1) 2 wr b off m (M.attach.toArray.toList.mergeSort fun x y => !(ltOf cmpM) y x).toArray os)) := Lib.hid (fun m os => by
          have e1 := sortWorld_ids (fun z : {z : Rc // z ∈ M} => z.1.1) wr b off m (M.attach.toArray.toList.mergeSort fun x y => !(ltOf cmpM) y x).toArray os
          rw [e1]
          obtain ⟨h6, en6⟩ := row_sort hst2 ((sortM M).map (fun z => z.1.1)) (by rw [List.length_map, List.length_map]; exact (List.mergeSort_perm _ _).length_eq) m os
          have h7 : St H3 (Mp recC gm (entsR M) :: Row 41 2 (.slice (some ⟨b, off, none⟩) M.length oc) (idl ((sortM M).map (fun z => z.1.1))) :: Blk gc #[.map (some gm)] 56 :: GrA p L :: fr) _ := h6.pick 2 (by simp)
          have h8 : St H3 (Row 41 2 (.slice (some ⟨b, off, none⟩) M.length oc) (idl ((sortM M).map (fun z => z.1.1))) :: GrA p L :: fr) _ := (h7.drop.pick 1 (by simp)).drop
          refine hfin.out _ ((sortM M).map (fun z : {z : Rc // z ∈ M} => z.1.1)) H3 _ (Hp.le_trans l2 l3) h8 (hen.trans en6) ⟨?_, fun a => by rw [sortM_mem, hmem]⟩
          have hr := sortM_rises hMn
          unfold KR
          rw [List.map_map]
          have : (sortM M).map ((kfR (L.map rp)) ∘ fun z => z.1.1) = (sortM M).map (fun z => ky z.1) := List.map_congr_left (fun z _ => (ky_kfR (hMd.out z.1 z.2).2).symm)
          rw [this]
          exact hr)
        clear hmem hMn eg hM hMd hst2 hH hst
        go_wp2_with fail
        refine hcon.out.mono ?_
        rintro e w3 ⟨rfl, m, os, hw3⟩
        replace hw3 := Lib.hid hw3
        have hz2 := Lib.hid (fun v (hv : v = Value.slice (some ⟨b, off, none⟩) M.length oc) => (hv ▸ hw3.out ▸ hz.out m os : Q (.returned v) w3))
        go_wp2_with fail
        exact hz2.out _ rfl
end Go.Proofs.YtcbckeoalmjcoaaGreat
