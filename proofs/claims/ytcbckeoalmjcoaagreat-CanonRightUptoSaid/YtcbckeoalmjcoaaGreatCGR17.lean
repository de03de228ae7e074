/- Joined texts: Reach6, CompsR, CanP. -/
import Derived.Test.YtcbckeoalmjcoaaGreatCGR13
import Derived.Test.YtcbckeoalmjcoaaGreatCGR16
/- What some ids reach: Closed. -/
set_option linter.unusedVariables false
set_option linter.unusedSimpArgs false
namespace Go.Proofs.YtcbckeoalmjcoaaGreat
open Go.RowKit Go.Cw Go.Fl
attribute [local go_sem ↓] eql_id neq_id
/-- Ids that are not open. -/
def clsF (B R : List Id) : List Id := R.filter (fun a => decide (a ∉ B))
theorem clsF_snoc (B R : List Id) (k : Nat) (h : k < R.length) : clsF B (R.take (k + 1)) = if R[k] ∈ B then clsF B (R.take k) else clsF B (R.take k) ++ [R[k]] := by
  unfold clsF
  rw [List.take_add_one, List.getElem?_eq_getElem h, List.filter_append]
  by_cases hm : R[k] ∈ B <;> simp [hm]
theorem clsF_len (B R : List Id) : (clsF B R).length ≤ R.length := List.length_filter_le ..
/-- What Closed tells. -/
def ClosedR (L : List Rc) (p : Nat) (H : Hp) (fr : List HA) (w : World) (e : Ending) (w' : World) : Prop :=
  ∃ (v : Value) (C : List Id) (H' : Hp), e = .returned v ∧ Hp.le H H' ∧ St H' (Row 41 2 v (idl C) :: GrA p L :: fr) w' ∧ Env w w' ∧ Rises C ∧ ∀ a, a ∈ C ↔ (a ∈ rids L ∧ ¬ Opn L a)
theorem rises_filter {R : List Id} (h : Rises R) (q : Id → Bool) : Rises (R.filter q) := List.Pairwise.filter q h
set_option maxRecDepth 100000 in
set_option maxHeartbeats 8000000 in
theorem closed_any (p : Nat) (L : List Rc) (H : Hp) (fr : List HA) (w : World) (h : St H (GrA p L :: fr) w) (hg : GrOk H L) (hL : L.length ≤ 1000) :
    Calls Tryz.prog 37 #[grP p] w (ClosedR L p H fr w) := by
  have hfin : ∀ (v : Value) (R B : List Id) (H' : Hp) (w' : World), Hp.le H H' → St H' (Row 41 2 v (idl (clsF B R)) :: GrA p L :: fr) w' → Env w w' → Rises R → (∀ a, a ∈ R ↔ a ∈ rids L) → (∀ a, a ∈ B ↔ Opn L a) → ClosedR L p H fr w (.returned v) w' := fun v R B H' w' h1 h2 h3 h4 h5 h6 => ⟨v, _, H', rfl, h1, h2, h3, rises_filter h4 _, fun a => by
    unfold clsF
    rw [List.mem_filter, decide_eq_true_eq, h5, h6]⟩
  generalize ClosedR L p H fr w = Q at *
  have hO := Lib.hid (open_any p L H fr w h hg hL)
  replace hg := Lib.hid hg
  replace hfin := Lib.hid hfin
  clear h
  go_enter Tryz.func37, Tryz.ntmps37
  go_wp2_with fail
  refine hO.out.mono ?_
  rintro e w1 ⟨s, B, H1, rfl, l1, h1, en1, hB⟩
  replace hB := Lib.hid hB
  have hI := Lib.hid (grIds_any p L H1 _ w1 h1.swap (fun x hx => (hg.out.d x hx).mono l1) (by omega))
  clear hO
  go_wp2_with fail
  refine hI.out.mono ?_
  rintro e w2 ⟨iv, R, rfl, h2, en2, hr, hm⟩
  replace en2 := en1.trans en2
  have hRm : Hid (∀ a, a ∈ R ↔ a ∈ rids L) := Lib.hid (fun a => by
    rw [hm]
    constructor
    · rintro ⟨x, hx, ha⟩
      rw [List.mem_singleton] at ha
      exact List.mem_map.2 ⟨x, hx, ha.symm⟩
    · intro ha
      obtain ⟨x, hx, rfl⟩ := List.mem_map.1 ha
      exact ⟨x, hx, by simp⟩)
  have hRl : R.length ≤ 1000 := by
    have := sub_len16 R (rids L) (rises_nodup hr) (fun a ha => (hRm.out a).1 ha)
    rw [List.length_map] at this
    omega
  replace hr := Lib.hid hr
  obtain ⟨iA, im, ic, rfl, hi1, hi2, _⟩ := h2.row_form
  rw [idl_len] at hi1
  obtain rfl : im = R.length := by omega
  obtain ⟨H2, l2, h3, hrd⟩ := h2.row_keep
  have h4 := h3.row_nil 41 2
  clear hI h1 h2 h3 hm en1 hi1 hi2
  have l12 := Hp.le_trans l1 l2
  go_wp2_with fail
  go_loopw [4, 12] (fun s4 s12 wr => ∃ (k : Nat) (H' : Hp), k ≤ R.length ∧ s12 = .int .i64 (k : Int) ∧ Hp.le H2 H' ∧ St H' (Row 41 2 s4 (idl (clsF B (R.take k))) :: GrA p L :: SetA s B :: fr) wr ∧ Env w wr) (fun _ s12 _ => R.length - (intOf s12).toNat)
  case atStart => exact ⟨0, H2, by omega, by go_num, Hp.le_refl _, h4, en2⟩
  case round =>
    clear h4 en2
    obtain ⟨k, H3, hk, rfl, l3, hst, hen⟩ := hrel
    obtain ⟨oA, om, oc, rfl, ho1, ho2, _⟩ := hst.row_form
    rw [idl_len] at ho1
    by_cases hlt : k < R.length
    · have hcs := clsF_snoc B R k hlt
      have hcl := clsF_len B (R.take k)
      rw [List.length_take] at hcl
      obtain ⟨b, off, hA, hcr⟩ := ((hrd.mono l3).rw hst).cells (by omega)
      cases hA
      have q0 := hcr _ _ (idl_fst R k hlt)
      have q1 := hcr _ _ (idl_snd R k hlt)
      rw [← Nat.add_assoc] at q1
      clear hcr
      have ql := World.block_lt_of_cell? _ _ q0
      generalize R[k] = x at *
      obtain ⟨H4, l4, h5, y⟩ := hst.box #[.int .i64 x.1, .int .i64 x.2] 41
      have y0 := y 0 _ rfl
      have y1 := y 1 _ rfl
      have en5 := hen.alloc (.cells #[.int .i64 x.1, .int .i64 x.2] 41)
      have v0 := h5.cell y0
      have v1 := h5.cell y1
      have vl := World.block_lt_of_cell? _ _ v0
      have hHx := has_any s B x H4 _ _ (h5.pick 2 (by simp))
      have hk1 := Lib.hid (show k + 1 ≤ R.length by omega)
      have l34 := Hp.le_trans l3 l4
      clear y hst hen
      by_cases hx : x ∈ B
      · rw [decide_eq_true hx] at hHx
        rw [if_pos hx] at hcs
        replace hHx := Lib.hid hHx
        replace hcs := Lib.hid hcs
        clear hx
        obtain ⟨x0, x1⟩ := x
        simp only at q0 q1 v0 v1 y0 y1
        go_wp2_with fail
        refine hHx.out.mono ?_
        rintro e w6 ⟨rfl, hb6⟩
        have h6 := h5.below hb6
        have en6 := en5.trans (bel_env hb6)
        go_wp2_with fail
        go_roundw
        case rel => exact ⟨k + 1, H4, hk1.out, by go_num, l34, by rw [hcs.out]; exact h6, en6⟩
        case measure => simp [intOf]; omega
      · rw [decide_eq_false hx] at hHx
        rw [if_neg hx] at hcs
        replace hHx := Lib.hid hHx
        replace hcs := Lib.hid hcs
        clear hx
        obtain ⟨x0, x1⟩ := x
        simp only at q0 q1 v0 v1 y0 y1
        go_wp2_with fail
        generalize wr.heap.size = gb at *
        generalize wr.alloc (.cells #[.int .i64 x0, .int .i64 x1] 41) = wb at *
        refine hHx.out.mono ?_
        rintro e w6 ⟨rfl, hb6⟩
        have h6 := h5.below hb6
        have en6 := en5.trans (bel_env hb6)
        clear v0 v1 vl q0 q1 ql h5 en5 hHx hb6
        have v0 := h6.cell y0
        have v1 := h6.cell y1
        have vl := World.block_lt_of_cell? _ _ v0
        go_wp2_with (at_builtin; refine wpList_append rfl (.tmp 20) (.tmp 22) 35 35 rfl Tryz.underlying35 (.inl ⟨_, Tryz.underlying35⟩) (.agg #[.int .i64 0, .int .i64 0]) 16 info_id rfl (by decide) (by decide) rfl rfl (h6.alloc _) (News.new w6 _ 1 #[.int .i64 x0, .int .i64 x1] rfl (by simp [Value.oneCell'])) ?apB2 ?apK2)
        case apB2 => first | omega | (rw [idl_len]; omega) | (simp only [idl_len]; simp; omega)
        case apK2 =>
          intro lv2 w7 h12 en10
          have en11 := (en6.alloc _).trans en10
          have h13 : St H4 (Row 41 2 lv2 (idl (clsF B (R.take (k + 1)))) :: GrA p L :: SetA s B :: fr) w7 := by rw [hcs.out, idl_append]; exact h12
          go_wp2_with fail
          go_roundw
          case rel => exact ⟨k + 1, H4, hk1.out, by go_num, l34, h13, en11⟩
          case measure => simp [intOf]; omega
    · obtain rfl : k = R.length := by omega
      rw [List.take_length] at hst
      have hz := Lib.hid (hfin.out _ R B H3 wr (Hp.le_trans l12 l3) ((hst.pick 2 (by simp)).drop) hen hr.out hRm.out hB.out)
      go_wp2_with fail
      exact hz.out
set_option maxRecDepth 100000 in
set_option maxHeartbeats 8000000 in
theorem open_nil (w : World) : Calls Tryz.prog 69 #[.pointer none] w fun e w' => ∃ s, e = .returned (setP s) ∧ St (snap w) [SetA s []] w' ∧ Env w w' := by
  have hNew := Lib.hid (setNew_any (.slice none 0 0) [] w (Rw.nil w 2))
  go_enter Tryz.func69, Tryz.ntmps69
  go_wp2_with fail
  refine hNew.out.mono ?_
  rintro e w1 he
  obtain ⟨s, rfl, h1, en1⟩ := ResE.lift (St.start w) he
  clear he hNew
  go_wp2_with fail
  refine (grMissing_nil w1).mono ?_
  rintro e w2 ⟨rfl, hb2⟩
  have h2 : St (snap w) [SetA s []] w2 := St.below h1 hb2
  have en2 := en1.trans (bel_env hb2)
  clear h1 en1 hb2
  go_wp2_with fail
  go_loopw [4] (fun s4 wr => s4 = .slice none 0 0 ∧ wr = w2) (fun _ _ => 0)
  case atStart => exact ⟨rfl, rfl⟩
  case round =>
    obtain ⟨rfl, rfl⟩ := hrel
    go_wp2_with fail
    go_ret
    exact ⟨s, rfl, h2, en2⟩
set_option maxRecDepth 100000 in
set_option maxHeartbeats 8000000 in
theorem closed_nil (w : World) : Calls Tryz.prog 37 #[.pointer none] w fun e w' => e = .returned (.slice none 0 0) ∧ Below w.heap.size w w' := by
  go_enter Tryz.func37, Tryz.ntmps37
  go_wp2_with fail
  refine (open_nil w).mono ?_
  rintro e w1 ⟨s, rfl, h1, en1⟩
  have hb := h1.toBelow en1
  go_wp2_with fail
  refine (grIds_nil w1).mono ?_
  rintro e w2 ⟨rfl, rfl⟩
  go_wp2_with fail
  go_loopw [4, 12] (fun s4 s12 wr => s4 = .slice none 0 0 ∧ s12 = .int .i64 0 ∧ wr = w1) (fun _ _ _ => 0)
  case atStart => exact ⟨rfl, by go_num, rfl⟩
  case round =>
    obtain ⟨rfl, rfl, rfl⟩ := hrel
    go_wp2_with fail
    go_ret
    exact ⟨rfl, hb⟩
/-- The closed ones of plain records: those that reach nothing that is missing. -/
def Clo (l : List Rp) (a : Id) : Prop := ∀ b, Rch (dpsR l) [a] b → b ∈ pids l
theorem dpsR_at {L : List Rc} (hn : (rids L).Nodup) {x : Rc} (hx : x ∈ L) : dpsR (L.map rp) x.1 = x.2.2.2.2.1 := by
  obtain ⟨y, hy, he, _, hr⟩ := lookR_ent L x.1 (List.mem_map.2 ⟨x, hx, rfl⟩)
  unfold dpsR
  rw [← hr]
  have : y = x := by
    obtain ⟨i, hi, rfl⟩ := List.getElem_of_mem hx
    obtain ⟨j, hj, rfl⟩ := List.getElem_of_mem hy
    have : j = i := (List.getElem_inj (h₀ := by simpa [rids] using hj) (h₁ := by simpa [rids] using hi) hn).1 (by simpa [rids] using he)
    subst this
    rfl
  rw [this]
theorem usr_dps {L : List Rc} (hn : (rids L).Nodup) (a b : Id) : b ∈ usrF L a ↔ (b ∈ rids L ∧ a ∈ dpsR (L.map rp) b) := by
  rw [usrF_mem]
  constructor
  · rintro ⟨x, hx, rfl, ha⟩
    exact ⟨List.mem_map.2 ⟨x, hx, rfl⟩, by rw [dpsR_at hn hx]; exact ha⟩
  · rintro ⟨hb, ha⟩
    obtain ⟨x, hx, rfl⟩ := List.mem_map.1 hb
    exact ⟨x, hx, rfl, by rw [dpsR_at hn hx] at ha; exact ha⟩
theorem mis_dps {L : List Rc} (hn : (rids L).Nodup) (b : Id) : b ∈ misF L ↔ (b ∉ rids L ∧ ∃ a ∈ rids L, b ∈ dpsR (L.map rp) a) := by
  rw [misF_mem]
  constructor
  · rintro ⟨h1, x, hx, hb⟩
    exact ⟨h1, x.1, List.mem_map.2 ⟨x, hx, rfl⟩, by rw [dpsR_at hn hx]; exact hb⟩
  · rintro ⟨h1, a, ha, hb⟩
    obtain ⟨x, hx, rfl⟩ := List.mem_map.1 ha
    exact ⟨h1, x, hx, by rw [dpsR_at hn hx] at hb; exact hb⟩
theorem opn_iff {L : List Rc} (hn : (rids L).Nodup) {a : Id} (ha : a ∈ rids L) : Opn L a ↔ ¬ Clo (L.map rp) a := by
  have hin : ∀ {x y : Id}, y ∈ dpsR (L.map rp) x → x ∈ rids L := fun {x y} h => by
    apply Classical.byContradiction
    intro hx
    rw [dpsR_none (by rw [pids_rp]; exact hx)] at h
    cases h
  constructor
  · intro ho hc
    have : ∀ x, Opn L x → ∃ b, Rch (dpsR (L.map rp)) [x] b ∧ b ∉ rids L := fun x hx => by
      refine hx.closed (P := fun x => ∃ b, Rch (dpsR (L.map rp)) [x] b ∧ b ∉ rids L) (fun m hm => ⟨m, .base (by simp), ((mis_dps hn m).1 hm).1⟩) ?_
      rintro y ⟨b, hb, hnb⟩ z hz
      have hz' := (usr_dps hn y z).1 hz
      exact ⟨b, hb.trans (fun q hq => by rw [List.mem_singleton] at hq; subst hq; exact .step (.base (by simp)) hz'.2), hnb⟩
    obtain ⟨b, hb, hnb⟩ := this a ho
    have := hc b hb
    rw [pids_rp] at this
    exact hnb this
  · intro hc
    apply Classical.byContradiction
    intro ho
    apply hc
    intro b hb
    rw [pids_rp]
    -- along the way all are there and not open
    have : b ∈ rids L ∧ ¬ Opn L b := by
      refine hb.closed (P := fun b => b ∈ rids L ∧ ¬ Opn L b) (fun q hq => by rw [List.mem_singleton] at hq; subst hq; exact ⟨ha, ho⟩) ?_
      rintro x ⟨hx, hxo⟩ y hy
      have hyo : ¬ Opn L y := fun h => hxo (.step h ((usr_dps hn y x).2 ⟨hx, hy⟩))
      refine ⟨?_, hyo⟩
      apply Classical.byContradiction
      intro hny
      exact hyo (.base ((mis_dps hn y).2 ⟨hny, x, hx, hy⟩))
    exact this.1
end Go.Proofs.YtcbckeoalmjcoaaGreat

/- Components of a graph's records: plain laws. -/
set_option linter.unusedVariables false
set_option linter.unusedSimpArgs false
namespace Go.Proofs.YtcbckeoalmjcoaaGreat
open Go.RowKit Go.Cw Go.Fl
/-- Two records' ids that reach each other. -/
def muD (l : List Rp) (a b : Id) : Prop := Mu (dpsR l) a b
theorem muD_refl (l : List Rp) (a : Id) : muD l a a := Mu.refl _ a
theorem muD_symm {l : List Rp} (a b : Id) (h : muD l a b) : muD l b a := h.symm
theorem muD_trans {l : List Rp} (a b c : Id) (h : muD l a b) (k : muD l b c) : muD l a c := Mu.trans h k
/-- The closed ids. -/
def clU (l : List Rp) (a : Id) : Prop := a ∈ pids l ∧ Clo l a
theorem clU_rr {l : List Rp} {a b : Id} (h : clU l a) (hr : Rr (dpsR l) a b) : clU l b := ⟨h.2 b hr, fun c hc => h.2 c (rr_trans hr hc)⟩
theorem clU_mu {l : List Rp} (a b : Id) (h : clU l a) (hm : muD l a b) : clU l b := clU_rr h hm.1
theorem clU_step {l : List Rp} {a b : Id} (h : clU l a) (hb : b ∈ dpsR l a) : clU l b := clU_rr h (rr_edge hb)
/-- An id's key: its record's number, itself. -/
def kfR (l : List Rp) (a : Id) : Ky := ((lookR l a).2.1, a)
theorem kfR_id (l : List Rp) (a : Id) : (kfR l a).2 = a := rfl
abbrev CompsOf (l : List Rp) (F : List (List Id)) : Prop := IsComps (muD l) (kfR l) (clU l) F
theorem compsOf_eq {l : List Rp} {F G : List (List Id)} (hF : CompsOf l F) (hG : CompsOf l G) : F = G := hF.eq (kfR_id l) muD_symm muD_trans hG
/-- Ids that are there, each once, in the order of their records. -/
def SortedOf (l : List Rp) (s R : List Id) : Prop := KR (kfR l) R ∧ ∀ a, a ∈ R ↔ (a ∈ s ∧ a ∈ pids l)
theorem sortedOf_eq {l : List Rp} {s R Q : List Id} (h : SortedOf l s R) (k : SortedOf l s Q) : R = Q := kr_eq (kfR_id l) h.1 k.1 (fun a => by rw [h.2, k.2])
/-- The first walk is right for a graph's records: its edges stay among the closed ones; users are the way back. -/
theorem usr_back {L : List Rc} (hn : (rids L).Nodup) {U : List Id} (hU : ∀ a ∈ U, clU (L.map rp) a) (x y : Id) (hx : x ∈ U) : (y ∈ usrF L x ∧ y ∈ U ↔ y ∈ U ∧ x ∈ dpsR (L.map rp) y) := by
  rw [usr_dps hn]
  constructor
  · rintro ⟨⟨_, h2⟩, h3⟩; exact ⟨h3, h2⟩
  · rintro ⟨h1, h2⟩
    have := (hU y h1).1
    rw [pids_rp] at this
    exact ⟨⟨this, h2⟩, h1⟩
/-- Where the second walks are: ids of the first walk's list that are not gone yet (A), those behind (B), what is left, the lists so far. -/
theorem second {L : List Rc} (hn : (rids L).Nodup) {U O A B Lf L' C : List Id} {a : Id} {F : List (List Id)} {R : List Id} (hU : ∀ x, x ∈ U ↔ clU (L.map rp) x) (h1 : Fin1 (dpsR (L.map rp)) U O) (hO : O = A ++ a :: B)
    (hc : Cv (muD (L.map rp)) (kfR (L.map rp)) (clU (L.map rp)) B Lf F) (ha : a ∈ Lf) (hk : Stps (usrF L) ⟨cutL a Lf, [(a, 0)], []⟩ ⟨L', [], C⟩) (hs : Kv (usrF L) Lf a ⟨L', [], C⟩) (haC : a ∈ C) (hR : SortedOf (L.map rp) C R) :
    C ≠ [] ∧ Cv (muD (L.map rp)) (kfR (L.map rp)) (clU (L.map rp)) (a :: B) L' (F ++ [R]) := by
  have hLU : ∀ x ∈ Lf, x ∈ U := fun x hx => (hU x).2 ((hc.lf x).1 hx).1
  have hm : ∀ b, b ∈ C ↔ muD (L.map rp) a b := fun b => fin2 h1 (fun x y hx => usr_back hn (fun z hz => (hU z).1 hz) x y hx) (fun x hx b hb => (hU b).2 (clU_step ((hU x).1 hx) hb)) hLU
    (fun x hx y hxy => (hc.lf y).2 ⟨clU_mu x y ((hc.lf x).1 hx).1 hxy, fun z hz hyz => ((hc.lf x).1 hx).2 z hz (hxy.trans hyz)⟩) hO
    (fun x hx hl => ((hc.lf x).1 hl).2 x hx (Mu.refl _ x)) ha hs haC b
  have hcl : ∀ b, b ∈ C → clU (L.map rp) b := fun b hb => clU_mu a b ((hc.lf a).1 ha).1 ((hm b).1 hb)
  refine ⟨fun e => (by rw [e] at haC; cases haC), hc.some muD_symm muD_trans (muD_refl _) clU_mu ha (fun b => by rw [hR.2, hm]; exact ⟨fun h => h.1, fun h => ⟨h, (hcl b ((hm b).2 h)).1⟩⟩) hR.1 (fun b => ?_)⟩
  have := hs.iv.all b
  simp only [Wk.ids, List.map_nil, List.not_mem_nil, false_or] at this
  rw [hR.2]
  constructor
  · intro hb
    refine ⟨this.2 (.inl hb), fun h => (hs.iv.dl b hb).2 h.1⟩
  · rintro ⟨h1, h2⟩
    rcases this.1 h1 with h | h
    · exact h
    · exact absurd ⟨h, (hcl b h).1⟩ h2
end Go.Proofs.YtcbckeoalmjcoaaGreat

/- The canonical order: plain laws. -/
set_option linter.unusedVariables false
set_option linter.unusedSimpArgs false
namespace Go.Proofs.YtcbckeoalmjcoaaGreat
open Go.RowKit Go.Cw Go.Fl
/-- The ids that a list's records depend on, but its own. -/
def outP (nx : Id → List Id) (a : List Id) : List Id := a.flatMap (fun x => (nx x).filter (fun d => decide (d ∉ a)))
theorem outP_mem {nx : Id → List Id} {a : List Id} {d : Id} : d ∈ outP nx a ↔ ∃ x ∈ a, d ∈ nx x ∧ d ∉ a := by
  unfold outP
  simp only [List.mem_flatMap, List.mem_filter, decide_eq_true_eq]
def leadsB (nx : Id → List Id) (a b : List Id) : Bool := decide (∃ d ∈ outP nx a, d ∈ b)
def freeB (nx : Id → List Id) (D c : List Id) : Bool := decide (∀ d ∈ outP nx c, d ∈ D)
/-- The canonical order: n rounds. -/
def canonF (nx : Id → List Id) : Nat → List (List Id) → List (List Id) → List (List Id)
  | 0, _, O => O
  | n + 1, L, O => if h : L.findIdx (freeB nx O.flatten) < L.length then canonF nx n (L.eraseIdx (L.findIdx (freeB nx O.flatten))) (O ++ [L[L.findIdx (freeB nx O.flatten)]]) else O
/-- Where a list may come in a right order. -/
def mayB (nx : Id → List Id) (C : List (List Id)) (D c : List Id) : Bool := decide (c ∈ C ∧ c ≠ [] ∧ hdI c ∉ D ∧ ∀ d ∈ outP nx c, d ∈ D)
def rightB (nx : Id → List Id) (C : List (List Id)) : List Id → List (List Id) → Bool
  | _, [] => true
  | D, c :: r => mayB nx C D c && rightB nx C (D ++ c) r
theorem rightB_app (nx : Id → List Id) (C : List (List Id)) : ∀ (l m : List (List Id)) (D : List Id), rightB nx C D (l ++ m) = (rightB nx C D l && rightB nx C (D ++ l.flatten) m)
  | [], m, D => by simp [rightB]
  | c :: l, m, D => by
    show (mayB nx C D c && rightB nx C (D ++ c) (l ++ m)) = ((mayB nx C D c && rightB nx C (D ++ c) l) && rightB nx C (D ++ (c :: l).flatten) m)
    rw [rightB_app nx C l m (D ++ c), Bool.and_assoc, List.flatten_cons, List.append_assoc]
theorem rightB_take {nx : Id → List Id} {C : List (List Id)} {D : List Id} {l : List (List Id)} (h : rightB nx C D l = true) (k : Nat) : rightB nx C D (l.take k) = true := by
  rw [← List.take_append_drop k l, rightB_app, Bool.and_eq_true] at h
  exact h.1
/-- What a round of Right asks. -/
theorem rightB_step (nx : Id → List Id) (C : List (List Id)) (X : List (List Id)) (k : Nat) (h : k < X.length) : rightB nx C (X.take k).flatten (X.drop k) = (mayB nx C (X.take k).flatten X[k] && rightB nx C (X.take (k + 1)).flatten (X.drop (k + 1))) := by
  have e : (X.take (k + 1)).flatten = (X.take k).flatten ++ X[k] := by
    rw [List.take_add_one, List.getElem?_eq_getElem h, List.flatten_append]
    simp
  rw [List.drop_eq_getElem_cons h, e]
  rfl
section
variable {nx : Id → List Id} {kf : Id → Ky} {U : Id → Prop} {C L O : List (List Id)}
theorem comps_in (hs : ∀ a b, Mu nx a b → Mu nx b a) (hC : IsComps (Mu nx) kf U C) (hk : ∀ a, (kf a).2 = a) {c d : List Id} (hc : c ∈ C) (hd : d ∈ C) {a : Id} (h1 : a ∈ c) (h2 : a ∈ d) : c = d := by
  obtain ⟨_, c2, _, c4⟩ := hC.one c hc
  obtain ⟨_, d2, _, d4⟩ := hC.one d hd
  have hm := ((c4 a).1 h1).trans (hs _ _ ((d4 a).1 h2))
  exact kr_eq hk c2 d2 (fun b => by
    rw [c4, d4]
    exact ⟨fun k => (hs _ _ hm).trans k, fun k => hm.trans k⟩)
/-- Asking by place, and asking whether it is one of them. -/
theorem at_is (hC : IsComps (Mu nx) kf U C) (hk : ∀ a, (kf a).2 = a) {c : List Id} (hne : c ≠ []) (hc : c ∈ C) : ∃ (i : Nat) (h : i < C.length), atFrom (hdI c) C 0 = (i : Int) ∧ C[i] = c := by
  rcases atFrom_spec (hdI c) C 0 with ⟨h1, h2⟩ | ⟨i, h1, h2, h3⟩
  · exact absurd (hdI_mem hne) (h2 c hc)
  · exact ⟨i, h1, by rw [h2]; omega, comps_in (fun a b h => h.symm) hC hk (List.getElem_mem h1) hc h3 (hdI_mem hne)⟩
/-- What is told, what is left. -/
structure Cn (nx : Id → List Id) (kf : Id → Ky) (U : Id → Prop) (C L O : List (List Id)) : Prop where
  cs : IsComps (Mu nx) kf U C
  kk : ∀ a, (kf a).2 = a
  cl : ∀ a, U a → ∀ b ∈ nx a, U b
  pm : C.Perm (O ++ L)
theorem Cn.umu (h : Cn nx kf U C L O) (a b : Id) (ha : U a) (hm : Mu nx a b) : U b := hm.1.closed (P := U) (fun x hx => by rw [List.mem_singleton] at hx; subst hx; exact ha) (fun x hx b hb => h.cl x hx b hb)
theorem Cn.nodup (h : Cn nx kf U C L O) : (O ++ L).flatten.Nodup := ((List.Perm.flatten h.pm).nodup_iff).1 (h.cs.nodup h.kk (fun a b k => k.symm) (fun a b c j k => j.trans k))
theorem Cn.inC (h : Cn nx kf U C L O) {c : List Id} (hc : c ∈ L) : c ∈ C := h.pm.mem_iff.2 (List.mem_append_right _ hc)
theorem Cn.mem (h : Cn nx kf U C L O) {c : List Id} (hc : c ∈ C) {a b : Id} (ha : a ∈ c) : b ∈ c ↔ Mu nx a b := by
  have h4 := (h.cs.one c hc).2.2.2
  rw [h4]
  have := (h4 a).1 ha
  exact ⟨fun k => this.symm.trans k, fun k => this.trans k⟩
theorem Cn.inU (h : Cn nx kf U C L O) {c : List Id} (hc : c ∈ C) {a : Id} (ha : a ∈ c) : U a := (h.cs.mem (fun a b => h.umu a b) a).1 (List.mem_flatten.2 ⟨c, hc, ha⟩)
/-- An id that a list depends on is told, or in another list that is left. -/
theorem Cn.dep (h : Cn nx kf U C L O) {c : List Id} (hc : c ∈ L) {d : Id} (hd : d ∈ outP nx c) : d ∈ O.flatten ∨ ∃ e ∈ L, d ∈ e ∧ e ≠ c := by
  obtain ⟨x, hx, hdx, hdc⟩ := outP_mem.1 hd
  have hu := h.cl x (h.inU (h.inC hc) hx) d hdx
  obtain ⟨e, he, hde⟩ := h.cs.all d hu
  rcases List.mem_append.1 (h.pm.mem_iff.1 he) with he | he
  · exact .inl (List.mem_flatten.2 ⟨e, he, hde⟩)
  · exact .inr ⟨e, he, hde, fun k => hdc (k ▸ hde)⟩
theorem Cn.apart (h : Cn nx kf U C L O) {d : Id} (hd : d ∈ O.flatten) {c : List Id} (hc : c ∈ L) : d ∉ c := fun hdc => by
  have hn := h.nodup
  rw [List.flatten_append, List.nodup_append] at hn
  exact hn.2.2 d hd d (List.mem_flatten.2 ⟨c, hc, hdc⟩) rfl
theorem Cn.lnodup (h : Cn nx kf U C L O) : L.Nodup := by
  have h1 : (C.map hdI).Nodup := kr_nodup h.cs.hds
  have h2 : C.Nodup := by
    unfold List.Nodup at *
    rw [List.pairwise_map] at h1
    exact h1.imp (fun hn e => hn (by rw [e]))
  have := (h.pm.nodup_iff).1 h2
  rw [List.nodup_append] at this
  exact this.2.1
/-- The reference's test. -/
theorem Cn.free (h : Cn nx kf U C L O) {i : Nat} (hi : i < L.length) : freeB nx O.flatten L[i] = true ↔ ∀ (k : Nat) (hk : k < L.length), k ≠ i → leadsB nx L[i] L[k] = false := by
  unfold freeB leadsB
  rw [decide_eq_true_eq]
  constructor
  · intro hf k hk hne
    rw [decide_eq_false_iff_not]
    rintro ⟨d, hd, hdk⟩
    exact h.apart (hf d hd) (List.getElem_mem hk) hdk
  · intro hf d hd
    rcases h.dep (List.getElem_mem hi) hd with hO | ⟨e, he, hde, hec⟩
    · exact hO
    · obtain ⟨k, hk, rfl⟩ := List.getElem_of_mem he
      have := hf k hk (fun e => hec (by subst e; rfl))
      rw [decide_eq_false_iff_not] at this
      exact absurd ⟨d, hd, hde⟩ this
open Classical in
/-- How much a list reaches. -/
noncomputable def rchN (nx : Id → List Id) (C : List (List Id)) (c : List Id) : List Id := C.flatten.filter (fun x => decide (Rr nx (hdI c) x))
theorem Cn.less (h : Cn nx kf U C L O) {c e : List Id} (hc : c ∈ L) (he : e ∈ L) {d : Id} (hd : d ∈ outP nx c) (hde : d ∈ e) : (rchN nx C e).length < (rchN nx C c).length := by
  obtain ⟨x, hx, hdx, hdc⟩ := outP_mem.1 hd
  have hcC := h.inC hc
  have heC := h.inC he
  have hne := (h.cs.one c hcC).1
  have h1 : Rr nx (hdI c) d := rr_trans ((h.mem hcC (hdI_mem hne)).1 hx).1 (rr_edge hdx)
  have hne2 := (h.cs.one e heC).1
  have h2 : Mu nx d (hdI e) := (h.mem heC hde).1 (hdI_mem hne2)
  have hcd : (rchN nx C e ++ [hdI c]).Nodup := by
    rw [List.nodup_append]
    refine ⟨List.Pairwise.filter _ (h.cs.nodup h.kk (fun a b k => k.symm) (fun a b c j k => j.trans k)), by simp, ?_⟩
    intro a ha b hb e1
    rw [List.mem_singleton] at hb
    subst e1; subst hb
    have h3 : Rr nx (hdI e) (hdI c) := by simpa using (List.mem_filter.1 ha).2
    exact hdc ((h.mem hcC (hdI_mem hne)).2 ⟨h1, rr_trans h2.1 h3⟩)
  have := sub_len16 _ (rchN nx C c) hcd (fun a ha => by
    rcases List.mem_append.1 ha with ha | ha
    · obtain ⟨h3, h4⟩ := List.mem_filter.1 ha
      refine List.mem_filter.2 ⟨h3, ?_⟩
      have h5 : Rr nx (hdI e) a := by simpa using h4
      simpa using rr_trans h1 (rr_trans h2.1 h5)
    · rw [List.mem_singleton] at ha
      subst ha
      refine List.mem_filter.2 ⟨List.mem_flatten.2 ⟨c, hcC, hdI_mem hne⟩, ?_⟩
      simpa using rr_refl nx (hdI c))
  rw [List.length_append, List.length_singleton] at this
  omega
/-- One is free. -/
theorem Cn.some (h : Cn nx kf U C L O) (hL : L ≠ []) : L.findIdx (freeB nx O.flatten) < L.length := by
  have key : ∀ (n : Nat) (c : List Id), c ∈ L → (rchN nx C c).length ≤ n → ∃ c ∈ L, freeB nx O.flatten c = true := by
    intro n
    induction n with
    | zero =>
      intro c hc hn
      refine ⟨c, hc, decide_eq_true (fun d hd => ?_)⟩
      rcases h.dep hc hd with hO | ⟨e, he, hde, _⟩
      · exact hO
      · have := h.less hc he hd hde
        omega
    | succ n ih =>
      intro c hc hn
      by_cases hf : freeB nx O.flatten c = true
      · exact ⟨c, hc, hf⟩
      · have hx : ∃ d ∈ outP nx c, d ∉ O.flatten := by
          unfold freeB at hf
          rw [decide_eq_true_eq] at hf
          exact Classical.byContradiction fun hno => hf (fun d hd => Classical.byContradiction fun hdn => hno ⟨d, hd, hdn⟩)
        obtain ⟨d, hd, hdO⟩ := hx
        rcases h.dep hc hd with hO | ⟨e, he, hde, _⟩
        · exact absurd hO hdO
        · have := h.less hc he hd hde
          exact ih e he (by omega)
  rw [List.findIdx_lt_length]
  obtain ⟨c, hc⟩ := List.exists_mem_of_ne_nil L hL
  exact key _ c hc (Nat.le_refl _)
theorem Cn.step (h : Cn nx kf U C L O) (i : Nat) (hi : i < L.length) : Cn nx kf U C (L.eraseIdx i) (O ++ [L[i]]) := by
  refine ⟨h.cs, h.kk, h.cl, h.pm.trans ?_⟩
  rw [List.append_assoc]
  exact List.Perm.append_left O (pickP L i hi)
where
  pickP : ∀ (L : List (List Id)) (i : Nat) (hi : i < L.length), L.Perm ([L[i]] ++ L.eraseIdx i)
    | a :: l, 0, _ => by simp
    | a :: l, i + 1, hi => by
      have := pickP l i (by simpa using hi)
      simp only [List.getElem_cons_succ, List.eraseIdx_cons_succ, List.singleton_append] at *
      exact (List.Perm.cons a this).trans (List.Perm.swap _ _ _)
theorem Cn.may (h : Cn nx kf U C L O) {c : List Id} (hc : c ∈ L) (hf : freeB nx O.flatten c = true) : mayB nx C O.flatten c = true := by
  unfold freeB at hf
  rw [decide_eq_true_eq] at hf
  have hne := (h.cs.one c (h.inC hc)).1
  exact decide_eq_true ⟨h.inC hc, hne, fun hd => h.apart hd hc (hdI_mem hne), hf⟩
/-- A round of the order. -/
theorem canonF_step (i : Nat) (hi : i < L.length) (hf : L.findIdx (freeB nx O.flatten) = i) : canonF nx L.length L O = canonF nx (L.eraseIdx i).length (L.eraseIdx i) (O ++ [L[i]]) := by
  subst hf
  rw [List.length_eraseIdx_of_lt hi]
  obtain ⟨n, hn⟩ : ∃ n, L.length = n + 1 := ⟨L.length - 1, by omega⟩
  have hi' := hi
  rw [hn, Nat.add_sub_cancel]
  show (if h : _ then _ else _) = _
  rw [dif_pos hi']
theorem findIdx_at {p : List Id → Bool} {i : Nat} (hi : i < L.length) (h1 : p L[i] = true) (h2 : ∀ (j : Nat) (hj : j < L.length), j < i → p L[j] = false) : L.findIdx p = i := by
  rw [List.findIdx_eq hi]
  exact ⟨h1, fun j hj => by simp [h2 j (by omega) hj]⟩
theorem Cn.right (h : Cn nx kf U C L O) (hr : rightB nx C [] O = true) : rightB nx C [] (canonF nx L.length L O) = true ∧ C.Perm (canonF nx L.length L O) := by
  generalize hn : L.length = n
  induction n generalizing L O with
  | zero =>
    obtain rfl := List.eq_nil_of_length_eq_zero hn
    exact ⟨hr, by simpa [canonF] using h.pm⟩
  | succ n ih =>
    have hi := h.some (fun e => by rw [e] at hn; simp at hn)
    have hf := List.findIdx_getElem (w := hi)
    have h2 := h.step _ hi
    have h3 : rightB nx C [] (O ++ [L[L.findIdx (freeB nx O.flatten)]]) = true := by
      rw [rightB_app, hr, Bool.true_and, List.nil_append]
      unfold rightB
      rw [h.may (List.getElem_mem hi) hf]
      rfl
    have := ih h2 h3 (by rw [List.length_eraseIdx_of_lt hi]; omega)
    unfold canonF
    rw [dif_pos hi]
    exact this
end
theorem Cn.start {nx : Id → List Id} {kf : Id → Ky} {U : Id → Prop} {C : List (List Id)} (h : IsComps (Mu nx) kf U C) (hk : ∀ a, (kf a).2 = a) (hc : ∀ a, U a → ∀ b ∈ nx a, U b) : Cn nx kf U C C [] := ⟨h, hk, hc, List.Perm.refl _⟩
theorem cnStart {l : List Rp} {C : List (List Id)} (h : CompsOf l C) : Cn (dpsR l) (kfR l) (clU l) C C [] := Cn.start h (kfR_id l) (fun a ha b hb => clU_step ha hb)
/-- The reference's test of what a list depends on. -/
theorem out_all {nx : Id → List Id} {c D : List Id} : (∀ d ∈ outP nx c, d ∈ D) ↔ ∀ x ∈ c, ∀ d ∈ nx x, d ∈ D ∨ d ∈ c := by
  constructor
  · intro h x hx d hd
    by_cases hc : d ∈ c
    · exact .inr hc
    · exact .inl (h d (outP_mem.2 ⟨x, hx, hd, hc⟩))
  · intro h d hd
    obtain ⟨x, hx, hdx, hdc⟩ := outP_mem.1 hd
    exact (h x hx d hdx).resolve_right hdc
end Go.Proofs.YtcbckeoalmjcoaaGreat
