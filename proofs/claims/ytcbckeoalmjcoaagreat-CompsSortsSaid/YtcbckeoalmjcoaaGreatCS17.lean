/- Joined texts: Reach6, CompsR, Less. -/
import Derived.Test.YtcbckeoalmjcoaaGreatCS2
import Derived.Test.YtcbckeoalmjcoaaGreatCS11
import Derived.Test.YtcbckeoalmjcoaaGreatCS13
import Derived.Test.YtcbckeoalmjcoaaGreatCS16
/- What some ids reach: Closed. -/
set_option linter.unusedVariables false
set_option linter.unusedSimpArgs false
namespace Go.Proofs.YtcbckeoalmjcoaaGreat
open Go.RowKit Go.Cw Go.Fl
attribute [local go_sem ↓] eql_id neq_id
/-- Ids that are not open. -/
def clsF (B R : List Id) : List Id := R.filter (fun a => decide (a ∉ B))
theorem clsF_snoc (B R : List Id) (k : Nat) (h : k < R.length) : clsF B (R.take (k + 1)) = if R[k] ∈ B then clsF B (R.take k) else clsF B (R.take k) ++ [R[k]] := by
  unfold clsF
  rw [List.take_add_one, List.getElem?_eq_getElem h, List.filter_append]
  by_cases hm : R[k] ∈ B <;> simp [hm]
theorem clsF_len (B R : List Id) : (clsF B R).length ≤ R.length := List.length_filter_le ..
/-- What Closed tells. -/
def ClosedR (L : List Rc) (p : Nat) (H : Hp) (fr : List HA) (w : World) (e : Ending) (w' : World) : Prop :=
  ∃ (v : Value) (C : List Id) (H' : Hp), e = .returned v ∧ Hp.le H H' ∧ St H' (Row 41 2 v (idl C) :: GrA p L :: fr) w' ∧ Env w w' ∧ Rises C ∧ ∀ a, a ∈ C ↔ (a ∈ rids L ∧ ¬ Opn L a)
theorem rises_filter {R : List Id} (h : Rises R) (q : Id → Bool) : Rises (R.filter q) := List.Pairwise.filter q h
set_option maxRecDepth 100000 in
set_option maxHeartbeats 8000000 in
theorem closed_any (p : Nat) (L : List Rc) (H : Hp) (fr : List HA) (w : World) (h : St H (GrA p L :: fr) w) (hg : GrOk H L) (hL : L.length ≤ 1000) :
    Calls Tryz.prog 37 #[grP p] w (ClosedR L p H fr w) := by
  have hfin : ∀ (v : Value) (R B : List Id) (H' : Hp) (w' : World), Hp.le H H' → St H' (Row 41 2 v (idl (clsF B R)) :: GrA p L :: fr) w' → Env w w' → Rises R → (∀ a, a ∈ R ↔ a ∈ rids L) → (∀ a, a ∈ B ↔ Opn L a) → ClosedR L p H fr w (.returned v) w' := fun v R B H' w' h1 h2 h3 h4 h5 h6 => ⟨v, _, H', rfl, h1, h2, h3, rises_filter h4 _, fun a => by
    unfold clsF
    rw [List.mem_filter, decide_eq_true_eq, h5, h6]⟩
  generalize ClosedR L p H fr w = Q at *
  have hO := Lib.hid (open_any p L H fr w h hg hL)
  replace hg := Lib.hid hg
  replace hfin := Lib.hid hfin
  clear h
  go_enter Tryz.func37, Tryz.ntmps37
  go_wp2_with fail
  refine hO.out.mono ?_
  rintro e w1 ⟨s, B, H1, rfl, l1, h1, en1, hB⟩
  replace hB := Lib.hid hB
  have hI := Lib.hid (grIds_any p L H1 _ w1 h1.swap (fun x hx => (hg.out.d x hx).mono l1) (by omega))
  clear hO
  go_wp2_with fail
  refine hI.out.mono ?_
  rintro e w2 ⟨iv, R, rfl, h2, en2, hr, hm⟩
  replace en2 := en1.trans en2
  have hRm : Hid (∀ a, a ∈ R ↔ a ∈ rids L) := Lib.hid (fun a => by
    rw [hm]
    constructor
    · rintro ⟨x, hx, ha⟩
      rw [List.mem_singleton] at ha
      exact List.mem_map.2 ⟨x, hx, ha.symm⟩
    · intro ha
      obtain ⟨x, hx, rfl⟩ := List.mem_map.1 ha
      exact ⟨x, hx, by simp⟩)
  have hRl : R.length ≤ 1000 := by
    have := sub_len16 R (rids L) (rises_nodup hr) (fun a ha => (hRm.out a).1 ha)
    rw [List.length_map] at this
    omega
  replace hr := Lib.hid hr
  obtain ⟨iA, im, ic, rfl, hi1, hi2, _⟩ := h2.row_form
  rw [idl_len] at hi1
  obtain rfl : im = R.length := by omega
  obtain ⟨H2, l2, h3, hrd⟩ := h2.row_keep
  have h4 := h3.row_nil 41 2
  clear hI h1 h2 h3 hm en1 hi1 hi2
  have l12 := Hp.le_trans l1 l2
  go_wp2_with fail
  go_loopw [4, 12] (fun s4 s12 wr => ∃ (k : Nat) (H' : Hp), k ≤ R.length ∧ s12 = .int .i64 (k : Int) ∧ Hp.le H2 H' ∧ St H' (Row 41 2 s4 (idl (clsF B (R.take k))) :: GrA p L :: SetA s B :: fr) wr ∧ Env w wr) (fun _ s12 _ => R.length - (intOf s12).toNat)
  case atStart => exact ⟨0, H2, by omega, by go_num, Hp.le_refl _, h4, en2⟩
  case round =>
    clear h4 en2
    obtain ⟨k, H3, hk, rfl, l3, hst, hen⟩ := hrel
    obtain ⟨oA, om, oc, rfl, ho1, ho2, _⟩ := hst.row_form
    rw [idl_len] at ho1
    by_cases hlt : k < R.length
    · have hcs := clsF_snoc B R k hlt
      have hcl := clsF_len B (R.take k)
      rw [List.length_take] at hcl
      obtain ⟨b, off, hA, hcr⟩ := ((hrd.mono l3).rw hst).cells (by omega)
      cases hA
      have q0 := hcr _ _ (idl_fst R k hlt)
      have q1 := hcr _ _ (idl_snd R k hlt)
      rw [← Nat.add_assoc] at q1
      clear hcr
      have ql := World.block_lt_of_cell? _ _ q0
      generalize R[k] = x at *
      obtain ⟨H4, l4, h5, y⟩ := hst.box #[.int .i64 x.1, .int .i64 x.2] 41
      have y0 := y 0 _ rfl
      have y1 := y 1 _ rfl
      have en5 := hen.alloc (.cells #[.int .i64 x.1, .int .i64 x.2] 41)
      have v0 := h5.cell y0
      have v1 := h5.cell y1
      have vl := World.block_lt_of_cell? _ _ v0
      have hHx := has_any s B x H4 _ _ (h5.pick 2 (by simp))
      have hk1 := Lib.hid (show k + 1 ≤ R.length by omega)
      have l34 := Hp.le_trans l3 l4
      clear y hst hen
      by_cases hx : x ∈ B
      · rw [decide_eq_true hx] at hHx
        rw [if_pos hx] at hcs
        replace hHx := Lib.hid hHx
        replace hcs := Lib.hid hcs
        clear hx
        obtain ⟨x0, x1⟩ := x
        simp only at q0 q1 v0 v1 y0 y1
        go_wp2_with fail
        refine hHx.out.mono ?_
        rintro e w6 ⟨rfl, hb6⟩
        have h6 := h5.below hb6
        have en6 := en5.trans (bel_env hb6)
        go_wp2_with fail
        go_roundw
        case rel => exact ⟨k + 1, H4, hk1.out, by go_num, l34, by rw [hcs.out]; exact h6, en6⟩
        case measure => simp [intOf]; omega
      · rw [decide_eq_false hx] at hHx
        rw [if_neg hx] at hcs
        replace hHx := Lib.hid hHx
        replace hcs := Lib.hid hcs
        clear hx
        obtain ⟨x0, x1⟩ := x
        simp only at q0 q1 v0 v1 y0 y1
        go_wp2_with fail
        generalize wr.heap.size = gb at *
        generalize wr.alloc (.cells #[.int .i64 x0, .int .i64 x1] 41) = wb at *
        refine hHx.out.mono ?_
        rintro e w6 ⟨rfl, hb6⟩
        have h6 := h5.below hb6
        have en6 := en5.trans (bel_env hb6)
        clear v0 v1 vl q0 q1 ql h5 en5 hHx hb6
        have v0 := h6.cell y0
        have v1 := h6.cell y1
        have vl := World.block_lt_of_cell? _ _ v0
        go_wp2_with (at_builtin; refine wpList_append rfl (.tmp 20) (.tmp 22) 35 35 rfl Tryz.underlying35 (.inl ⟨_, Tryz.underlying35⟩) (.agg #[.int .i64 0, .int .i64 0]) 16 info_id rfl (by decide) (by decide) rfl rfl (h6.alloc _) (News.new w6 _ 1 #[.int .i64 x0, .int .i64 x1] rfl (by simp [Value.oneCell'])) ?apB2 ?apK2)
        case apB2 => first | omega | (rw [idl_len]; omega) | (simp only [idl_len]; simp; omega)
        case apK2 =>
          intro lv2 w7 h12 en10
          have en11 := (en6.alloc _).trans en10
          have h13 : St H4 (Row 41 2 lv2 (idl (clsF B (R.take (k + 1)))) :: GrA p L :: SetA s B :: fr) w7 := by rw [hcs.out, idl_append]; exact h12
          go_wp2_with fail
          go_roundw
          case rel => exact ⟨k + 1, H4, hk1.out, by go_num, l34, h13, en11⟩
          case measure => simp [intOf]; omega
    · obtain rfl : k = R.length := by omega
      rw [List.take_length] at hst
      have hz := Lib.hid (hfin.out _ R B H3 wr (Hp.le_trans l12 l3) ((hst.pick 2 (by simp)).drop) hen hr.out hRm.out hB.out)
      go_wp2_with fail
      exact hz.out
set_option maxRecDepth 100000 in
set_option maxHeartbeats 8000000 in
theorem open_nil (w : World) : Calls Tryz.prog 69 #[.pointer none] w fun e w' => ∃ s, e = .returned (setP s) ∧ St (snap w) [SetA s []] w' ∧ Env w w' := by
  have hNew := Lib.hid (setNew_any (.slice none 0 0) [] w (Rw.nil w 2))
  go_enter Tryz.func69, Tryz.ntmps69
  go_wp2_with fail
  refine hNew.out.mono ?_
  rintro e w1 he
  obtain ⟨s, rfl, h1, en1⟩ := ResE.lift (St.start w) he
  clear he hNew
  go_wp2_with fail
  refine (grMissing_nil w1).mono ?_
  rintro e w2 ⟨rfl, hb2⟩
  have h2 : St (snap w) [SetA s []] w2 := St.below h1 hb2
  have en2 := en1.trans (bel_env hb2)
  clear h1 en1 hb2
  go_wp2_with fail
  go_loopw [4] (fun s4 wr => s4 = .slice none 0 0 ∧ wr = w2) (fun _ _ => 0)
  case atStart => exact ⟨rfl, rfl⟩
  case round =>
    obtain ⟨rfl, rfl⟩ := hrel
    go_wp2_with fail
    go_ret
    exact ⟨s, rfl, h2, en2⟩
set_option maxRecDepth 100000 in
set_option maxHeartbeats 8000000 in
theorem closed_nil (w : World) : Calls Tryz.prog 37 #[.pointer none] w fun e w' => e = .returned (.slice none 0 0) ∧ Below w.heap.size w w' := by
  go_enter Tryz.func37, Tryz.ntmps37
  go_wp2_with fail
  refine (open_nil w).mono ?_
  rintro e w1 ⟨s, rfl, h1, en1⟩
  have hb := h1.toBelow en1
  go_wp2_with fail
  refine (grIds_nil w1).mono ?_
  rintro e w2 ⟨rfl, rfl⟩
  go_wp2_with fail
  go_loopw [4, 12] (fun s4 s12 wr => s4 = .slice none 0 0 ∧ s12 = .int .i64 0 ∧ wr = w1) (fun _ _ _ => 0)
  case atStart => exact ⟨rfl, by go_num, rfl⟩
  case round =>
    obtain ⟨rfl, rfl, rfl⟩ := hrel
    go_wp2_with fail
    go_ret
    exact ⟨rfl, hb⟩
/-- The closed ones of plain records: those that reach nothing that is missing. -/
def Clo (l : List Rp) (a : Id) : Prop := ∀ b, Rch (dpsR l) [a] b → b ∈ pids l
theorem dpsR_at {L : List Rc} (hn : (rids L).Nodup) {x : Rc} (hx : x ∈ L) : dpsR (L.map rp) x.1 = x.2.2.2.2.1 := by
  obtain ⟨y, hy, he, _, hr⟩ := lookR_ent L x.1 (List.mem_map.2 ⟨x, hx, rfl⟩)
  unfold dpsR
  rw [← hr]
  have : y = x := by
    obtain ⟨i, hi, rfl⟩ := List.getElem_of_mem hx
    obtain ⟨j, hj, rfl⟩ := List.getElem_of_mem hy
    have : j = i := (List.getElem_inj (h₀ := by simpa [rids] using hj) (h₁ := by simpa [rids] using hi) hn).1 (by simpa [rids] using he)
    subst this
    rfl
  rw [this]
theorem usr_dps {L : List Rc} (hn : (rids L).Nodup) (a b : Id) : b ∈ usrF L a ↔ (b ∈ rids L ∧ a ∈ dpsR (L.map rp) b) := by
  rw [usrF_mem]
  constructor
  · rintro ⟨x, hx, rfl, ha⟩
    exact ⟨List.mem_map.2 ⟨x, hx, rfl⟩, by rw [dpsR_at hn hx]; exact ha⟩
  · rintro ⟨hb, ha⟩
    obtain ⟨x, hx, rfl⟩ := List.mem_map.1 hb
    exact ⟨x, hx, rfl, by rw [dpsR_at hn hx] at ha; exact ha⟩
theorem mis_dps {L : List Rc} (hn : (rids L).Nodup) (b : Id) : b ∈ misF L ↔ (b ∉ rids L ∧ ∃ a ∈ rids L, b ∈ dpsR (L.map rp) a) := by
  rw [misF_mem]
  constructor
  · rintro ⟨h1, x, hx, hb⟩
    exact ⟨h1, x.1, List.mem_map.2 ⟨x, hx, rfl⟩, by rw [dpsR_at hn hx]; exact hb⟩
  · rintro ⟨h1, a, ha, hb⟩
    obtain ⟨x, hx, rfl⟩ := List.mem_map.1 ha
    exact ⟨h1, x, hx, by rw [dpsR_at hn hx] at hb; exact hb⟩
theorem opn_iff {L : List Rc} (hn : (rids L).Nodup) {a : Id} (ha : a ∈ rids L) : Opn L a ↔ ¬ Clo (L.map rp) a := by
  have hin : ∀ {x y : Id}, y ∈ dpsR (L.map rp) x → x ∈ rids L := fun {x y} h => by
    apply Classical.byContradiction
    intro hx
    rw [dpsR_none (by rw [pids_rp]; exact hx)] at h
    cases h
  constructor
  · intro ho hc
    have : ∀ x, Opn L x → ∃ b, Rch (dpsR (L.map rp)) [x] b ∧ b ∉ rids L := fun x hx => by
      refine hx.closed (P := fun x => ∃ b, Rch (dpsR (L.map rp)) [x] b ∧ b ∉ rids L) (fun m hm => ⟨m, .base (by simp), ((mis_dps hn m).1 hm).1⟩) ?_
      rintro y ⟨b, hb, hnb⟩ z hz
      have hz' := (usr_dps hn y z).1 hz
      exact ⟨b, hb.trans (fun q hq => by rw [List.mem_singleton] at hq; subst hq; exact .step (.base (by simp)) hz'.2), hnb⟩
    obtain ⟨b, hb, hnb⟩ := this a ho
    have := hc b hb
    rw [pids_rp] at this
    exact hnb this
  · intro hc
    apply Classical.byContradiction
    intro ho
    apply hc
    intro b hb
    rw [pids_rp]
    -- along the way all are there and not open
    have : b ∈ rids L ∧ ¬ Opn L b := by
      refine hb.closed (P := fun b => b ∈ rids L ∧ ¬ Opn L b) (fun q hq => by rw [List.mem_singleton] at hq; subst hq; exact ⟨ha, ho⟩) ?_
      rintro x ⟨hx, hxo⟩ y hy
      have hyo : ¬ Opn L y := fun h => hxo (.step h ((usr_dps hn y x).2 ⟨hx, hy⟩))
      refine ⟨?_, hyo⟩
      apply Classical.byContradiction
      intro hny
      exact hyo (.base ((mis_dps hn y).2 ⟨hny, x, hx, hy⟩))
    exact this.1
end Go.Proofs.YtcbckeoalmjcoaaGreat

/- Components of a graph's records: plain laws. -/
set_option linter.unusedVariables false
set_option linter.unusedSimpArgs false
namespace Go.Proofs.YtcbckeoalmjcoaaGreat
open Go.RowKit Go.Cw Go.Fl
/-- Two records' ids that reach each other. -/
def muD (l : List Rp) (a b : Id) : Prop := Mu (dpsR l) a b
theorem muD_refl (l : List Rp) (a : Id) : muD l a a := Mu.refl _ a
theorem muD_symm {l : List Rp} (a b : Id) (h : muD l a b) : muD l b a := h.symm
theorem muD_trans {l : List Rp} (a b c : Id) (h : muD l a b) (k : muD l b c) : muD l a c := Mu.trans h k
/-- The closed ids. -/
def clU (l : List Rp) (a : Id) : Prop := a ∈ pids l ∧ Clo l a
theorem clU_rr {l : List Rp} {a b : Id} (h : clU l a) (hr : Rr (dpsR l) a b) : clU l b := ⟨h.2 b hr, fun c hc => h.2 c (rr_trans hr hc)⟩
theorem clU_mu {l : List Rp} (a b : Id) (h : clU l a) (hm : muD l a b) : clU l b := clU_rr h hm.1
theorem clU_step {l : List Rp} {a b : Id} (h : clU l a) (hb : b ∈ dpsR l a) : clU l b := clU_rr h (rr_edge hb)
/-- An id's key: its record's number, itself. -/
def kfR (l : List Rp) (a : Id) : Ky := ((lookR l a).2.1, a)
theorem kfR_id (l : List Rp) (a : Id) : (kfR l a).2 = a := rfl
abbrev CompsOf (l : List Rp) (F : List (List Id)) : Prop := IsComps (muD l) (kfR l) (clU l) F
theorem compsOf_eq {l : List Rp} {F G : List (List Id)} (hF : CompsOf l F) (hG : CompsOf l G) : F = G := hF.eq (kfR_id l) muD_symm muD_trans hG
/-- Ids that are there, each once, in the order of their records. -/
def SortedOf (l : List Rp) (s R : List Id) : Prop := KR (kfR l) R ∧ ∀ a, a ∈ R ↔ (a ∈ s ∧ a ∈ pids l)
theorem sortedOf_eq {l : List Rp} {s R Q : List Id} (h : SortedOf l s R) (k : SortedOf l s Q) : R = Q := kr_eq (kfR_id l) h.1 k.1 (fun a => by rw [h.2, k.2])
/-- The first walk is right for a graph's records: its edges stay among the closed ones; users are the way back. -/
theorem usr_back {L : List Rc} (hn : (rids L).Nodup) {U : List Id} (hU : ∀ a ∈ U, clU (L.map rp) a) (x y : Id) (hx : x ∈ U) : (y ∈ usrF L x ∧ y ∈ U ↔ y ∈ U ∧ x ∈ dpsR (L.map rp) y) := by
  rw [usr_dps hn]
  constructor
  · rintro ⟨⟨_, h2⟩, h3⟩; exact ⟨h3, h2⟩
  · rintro ⟨h1, h2⟩
    have := (hU y h1).1
    rw [pids_rp] at this
    exact ⟨⟨this, h2⟩, h1⟩
/-- Where the second walks are: ids of the first walk's list that are not gone yet (A), those behind (B), what is left, the lists so far. -/
theorem second {L : List Rc} (hn : (rids L).Nodup) {U O A B Lf L' C : List Id} {a : Id} {F : List (List Id)} {R : List Id} (hU : ∀ x, x ∈ U ↔ clU (L.map rp) x) (h1 : Fin1 (dpsR (L.map rp)) U O) (hO : O = A ++ a :: B)
    (hc : Cv (muD (L.map rp)) (kfR (L.map rp)) (clU (L.map rp)) B Lf F) (ha : a ∈ Lf) (hk : Stps (usrF L) ⟨cutL a Lf, [(a, 0)], []⟩ ⟨L', [], C⟩) (hs : Kv (usrF L) Lf a ⟨L', [], C⟩) (haC : a ∈ C) (hR : SortedOf (L.map rp) C R) :
    C ≠ [] ∧ Cv (muD (L.map rp)) (kfR (L.map rp)) (clU (L.map rp)) (a :: B) L' (F ++ [R]) := by
  have hLU : ∀ x ∈ Lf, x ∈ U := fun x hx => (hU x).2 ((hc.lf x).1 hx).1
  have hm : ∀ b, b ∈ C ↔ muD (L.map rp) a b := fun b => fin2 h1 (fun x y hx => usr_back hn (fun z hz => (hU z).1 hz) x y hx) (fun x hx b hb => (hU b).2 (clU_step ((hU x).1 hx) hb)) hLU
    (fun x hx y hxy => (hc.lf y).2 ⟨clU_mu x y ((hc.lf x).1 hx).1 hxy, fun z hz hyz => ((hc.lf x).1 hx).2 z hz (hxy.trans hyz)⟩) hO
    (fun x hx hl => ((hc.lf x).1 hl).2 x hx (Mu.refl _ x)) ha hs haC b
  have hcl : ∀ b, b ∈ C → clU (L.map rp) b := fun b hb => clU_mu a b ((hc.lf a).1 ha).1 ((hm b).1 hb)
  refine ⟨fun e => (by rw [e] at haC; cases haC), hc.some muD_symm muD_trans (muD_refl _) clU_mu ha (fun b => by rw [hR.2, hm]; exact ⟨fun h => h.1, fun h => ⟨h, (hcl b ((hm b).2 h)).1⟩⟩) hR.1 (fun b => ?_)⟩
  have := hs.iv.all b
  simp only [Wk.ids, List.map_nil, List.not_mem_nil, false_or] at this
  rw [hR.2]
  constructor
  · intro hb
    refine ⟨this.2 (.inl hb), fun h => (hs.iv.dl b hb).2 h.1⟩
  · rintro ⟨h1, h2⟩
    rcases this.1 h1 with h | h
    · exact h
    · exact absurd ⟨h, (hcl b h).1⟩ h2
end Go.Proofs.YtcbckeoalmjcoaaGreat

/- Records in their order: record.Less, the closure of comps.Sorted. -/
set_option linter.unusedVariables false
set_option linter.unusedSimpArgs false
namespace Go.Proofs.YtcbckeoalmjcoaaGreat
open Go.RowKit Go.Cw Go.Fl
attribute [local go_sem ↓] eql_id neq_id
/-- A world that has grown alone. -/
def Grw (w w' : World) : Prop := ∃ q os, w' = Go.Sort.grow (w.drewN q) os
theorem Grw.refl (w : World) : Grw w w := ⟨0, #[], by simp [Go.Sort.grow, World.drewN]⟩
theorem Grw.alloc {w w' : World} (h : Grw w w') (o : Obj) : Grw w (w'.alloc o) := by
  obtain ⟨q, os, rfl⟩ := h
  exact ⟨q, os.push o, by simp [Go.Sort.grow, World.alloc, World.drewN]⟩
theorem Grw.drew {w w' : World} (h : Grw w w') : Grw w w'.drew := by
  obtain ⟨q, os, rfl⟩ := h
  exact ⟨q + 1, os, by simp [Go.Sort.grow, World.drew, World.drewN, Nat.add_assoc]⟩
theorem Grw.grow {w w' : World} (h : Grw w w') (q : Nat) (os : Array Obj) : Grw w (Go.Sort.grow (w'.drewN q) os) := by
  obtain ⟨p, os', rfl⟩ := h
  exact ⟨p + q, os' ++ os, by simp [Go.Sort.grow, World.drewN, Nat.add_assoc, Array.append_assoc]⟩
theorem Grw.trans {a b c : World} (h : Grw a b) (k : Grw b c) : Grw a c := by
  obtain ⟨q, os, rfl⟩ := k
  exact h.grow q os
theorem Grw.below {w w' : World} (h : Grw w w') : Below w.heap.size w w' := by
  obtain ⟨q, os, rfl⟩ := h
  refine (bel_drewN (Below.refl _ _) q).trans ?_
  exact ⟨rfl, rfl, rfl, by simp [Go.Sort.grow, World.drewN], fun i hi => by simp only [Go.Sort.grow]; exact Array.getElem?_append_left hi⟩
theorem compareG_any (a b : Id) (w : World) : Calls Tryz.prog 76 #[idV a, idV b] w fun e w' => e = .returned (.int .i64 (cmpId a b)) ∧ Grw w w' := (compare_any a b w).mono (by
  rintro e w' ⟨rfl, q, os, rfl⟩
  exact ⟨rfl, q, os, rfl⟩)
theorem cmpId_dec (a b : Id) : decide (cmpId a b < 0) = idLt a b := by
  have := ltOf_id a b
  unfold ltOf at this
  exact this
/-- A record's key. -/
def ky (x : Rc) : Ky := (x.2.1, x.1)
set_option maxRecDepth 100000 in
set_option maxHeartbeats 1600000 in
theorem recLess_any (x y : Rc) (w : World) : Calls Tryz.prog 45 #[recV x, recV y] w fun e w' => e = .returned (.bool (kLt (ky x) (ky y))) ∧ Grw w w' := by
  obtain ⟨⟨r, s⟩, q, dv, bv, D, B⟩ := x
  obtain ⟨⟨r', s'⟩, q', dv', bv', D', B'⟩ := y
  have hC := Lib.hid (fun w' => compareG_any (r, s) (r', s') w')
  have hcl := cmpId_dec (r, s) (r', s')
  have h1 := ((St.start w).blk #[.int .i64 r, .int .i64 s, .int .i64 q, dv, bv] 53).blk #[.int .i64 r', .int .i64 s', .int .i64 q', dv', bv'] 53
  have g1 := ((Grw.refl w).alloc (.cells #[.int .i64 r, .int .i64 s, .int .i64 q, dv, bv] 53)).alloc (.cells #[.int .i64 r', .int .i64 s', .int .i64 q', dv', bv'] 53)
  have hgs : (w.alloc (.cells #[.int .i64 r, .int .i64 s, .int .i64 q, dv, bv] 53)).heap.size = w.heap.size + 1 := by simp
  rw [hgs] at h1
  have y0 := h1.blk_cell 0
  have y1 := h1.blk_cell 1
  have y2 := h1.blk_cell 2
  have yl := h1.blk_lt
  have h2 := h1.swap
  have x0 := h2.blk_cell 0
  have x1 := h2.blk_cell 1
  have x2 := h2.blk_cell 2
  have xl := h2.blk_lt
  clear h1 h2 hgs
  have hfin : ∀ (b : Bool) (w' : World), kLt (q, (r, s)) (q', (r', s')) = b → Grw w w' → Hid ((Ending.returned (Value.bool b)) = Ending.returned (Value.bool (kLt (ky ((r, s), q, dv, bv, D, B)) (ky ((r', s'), q', dv', bv', D', B')))) ∧ Grw w w') := fun b w' h hg => Lib.hid ⟨by unfold ky; rw [h], hg⟩
  by_cases hq : q = q'
  · have hqb : (q != q') = false := by simp [hq]
    have hk : kLt (q, (r, s)) (q', (r', s')) = idLt (r, s) (r', s') := by unfold kLt; simp [hq]
    rw [← hcl] at hk
    clear hq hcl
    go_enter Tryz.func45, Tryz.ntmps45
    go_wp2_with fail
    refine (hC.out _).mono ?_
    rintro e w3 ⟨rfl, hg3⟩
    have hz := hfin _ _ hk (g1.trans hg3)
    go_wp2_with fail
    go_ret
    exact hz.out
  · have hqb : (q != q') = true := by simpa using hq
    have hk : kLt (q, (r, s)) (q', (r', s')) = decide (q < q') := by unfold kLt; simp [hq]
    clear hq hcl
    go_enter Tryz.func45, Tryz.ntmps45
    have hz := hfin _ _ hk g1
    go_wp2_with fail
    go_ret
    exact hz.out
/-- How two records stand. -/
def cmpRc (x y : Rc) : Int := if kLt (ky x) (ky y) then -1 else if kLt (ky y) (ky x) then 1 else 0
set_option maxRecDepth 100000 in
set_option maxHeartbeats 1600000 in
theorem less1_any (gc m : Nat) (a b : Id) (x y : Rc) (w : World) (hS : ∀ w', Grw w w' → w'.cell? ⟨gc, 0, none⟩ = some (.map (some m)) ∧ (Instr.lookup 56 (.map (some m)) (idV a) false).run Tryz.prog w' = .ok (recV x) w' ∧ (Instr.lookup 56 (.map (some m)) (idV b) false).run Tryz.prog w' = .ok (recV y) w') :
    Calls Tryz.prog 44 #[idV a, idV b, .pointer (some ⟨gc, 0, none⟩)] w fun e w' => e = .returned (.int .i64 (cmpRc x y)) ∧ Grw w w' := by
  obtain ⟨r, s⟩ := a
  obtain ⟨r', s'⟩ := b
  have hL1 := Lib.hid (fun w' => recLess_any x y w')
  have hL2 := Lib.hid (fun w' => recLess_any y x w')
  have h1 := ((St.start w).blk #[.int .i64 r, .int .i64 s] 41).blk #[.int .i64 r', .int .i64 s'] 41
  have g1 := ((Grw.refl w).alloc (.cells #[.int .i64 r, .int .i64 s] 41)).alloc (.cells #[.int .i64 r', .int .i64 s'] 41)
  have hgs : (w.alloc (.cells #[.int .i64 r, .int .i64 s] 41)).heap.size = w.heap.size + 1 := by simp
  rw [hgs] at h1
  obtain ⟨B1, hB1⟩ : ∃ B1, B1 = kLt (ky x) (ky y) := ⟨_, rfl⟩
  obtain ⟨B2, hB2⟩ : ∃ B2, B2 = kLt (ky y) (ky x) := ⟨_, rfl⟩
  have hfin : ∀ (n : Int) (w' : World), (if B1 then -1 else if B2 then 1 else 0) = n → Grw w w' → Hid ((Ending.returned (Value.int .i64 n)) = Ending.returned (Value.int .i64 (cmpRc x y)) ∧ Grw w w') := fun n w' h hg => Lib.hid ⟨by unfold cmpRc; rw [← hB1, ← hB2, h], hg⟩
  rw [← hB1] at hL1
  rw [← hB2] at hL2
  clear hB1 hB2 hgs
  have kk : ∀ w', Grw w w' → St (snap w) [Blk (w.heap.size + 1) #[.int .i64 r', .int .i64 s'] 41, Blk w.heap.size #[.int .i64 r, .int .i64 s] 41] w' → (w'.cell? ⟨gc, 0, none⟩ = some (.map (some m)) ∧ w'.cell? ⟨w.heap.size, 0, none⟩ = some (.int .i64 r) ∧ w'.cell? ⟨w.heap.size, 1, none⟩ = some (.int .i64 s) ∧ w'.cell? ⟨w.heap.size + 1, 0, none⟩ = some (.int .i64 r') ∧ w'.cell? ⟨w.heap.size + 1, 1, none⟩ = some (.int .i64 s') ∧ (Instr.lookup 56 (.map (some m)) (.agg #[.int .i64 r, .int .i64 s]) false).run Tryz.prog w' = .ok (recV x) w' ∧ (Instr.lookup 56 (.map (some m)) (.agg #[.int .i64 r', .int .i64 s']) false).run Tryz.prog w' = .ok (recV y) w') := fun w' hg hst => ⟨(hS w' hg).1, hst.swap.blk_cell 0, hst.swap.blk_cell 1, hst.blk_cell 0, hst.blk_cell 1, (hS w' hg).2.1, (hS w' hg).2.2⟩
  go_enter Tryz.func44, Tryz.ntmps44
  go_wp2_with fail
  generalize ((w.alloc (.cells #[.int .i64 r, .int .i64 s] 41)).alloc (.cells #[.int .i64 r', .int .i64 s'] 41)) = W1 at *
  have h2 := h1.drew
  have g2 := g1.drew
  refine wp_region_held_drew (S := fun w' => w'.cell? ⟨gc, 0, none⟩ = some (.map (some m)) ∧ w'.cell? ⟨w.heap.size, 0, none⟩ = some (.int .i64 r) ∧ w'.cell? ⟨w.heap.size, 1, none⟩ = some (.int .i64 s) ∧ w'.cell? ⟨w.heap.size + 1, 0, none⟩ = some (.int .i64 r') ∧ w'.cell? ⟨w.heap.size + 1, 1, none⟩ = some (.int .i64 s') ∧ (Instr.lookup 56 (.map (some m)) (.agg #[.int .i64 r, .int .i64 s]) false).run Tryz.prog w' = .ok (recV x) w' ∧ (Instr.lookup 56 (.map (some m)) (.agg #[.int .i64 r', .int .i64 s']) false).run Tryz.prog w' = .ok (recV y) w') (by kernel_rfl) (kk _ g2 h2) (fun hHeld => ?_)
  refine wpAnyH_take (i := 0) (oi := { dst := some 7, op := Go.Op.load 56 (Go.Operand.tmp 2), type := 56, pos := "comps.go:27", after := #[], guard := none }) (v := ?_) rfl (by kernel_rfl) (by kernel_rfl) (by kernel_rfl) (fun _ _ _ h => h) (Or.inl ⟨by rfl, ?_⟩) (by assumption) ?_
  rotate_left
  · (intro w hSw; (try dsimp only at hSw); go_simp; (try (with_reducible rfl)))
  try simp only [Act.put, List.setIfInBounds_toArray, List.set_cons_zero, List.set_cons_succ]
  refine wpAnyH_take (i := 1) (oi := { dst := some 8, op := Go.Op.load 41 (Go.Operand.tmp 3), type := 41, pos := "comps.go:27", after := #[], guard := none }) (v := ?_) rfl (by kernel_rfl) (by kernel_rfl) (by kernel_rfl) (fun _ _ _ h => h) (Or.inl ⟨by rfl, ?_⟩) (by assumption) ?_
  rotate_left
  · (intro w hSw; (try dsimp only at hSw); go_simp; (try (with_reducible rfl)))
  try simp only [Act.put, List.setIfInBounds_toArray, List.set_cons_zero, List.set_cons_succ]
  refine wpAnyH_take (i := 2) (oi := { dst := some 9, op := Go.Op.lookup 56 (Go.Operand.tmp 7) (Go.Operand.tmp 8) false, type := 53, pos := "comps.go:27", after := #[{ on := 0, ground := Go.Ground.data }, { on := 1, ground := Go.Ground.data }], guard := none }) (v := ?_) rfl (by kernel_rfl) (by kernel_rfl) (by kernel_rfl) (fun _ _ _ h => h) (Or.inl ⟨by rfl, ?_⟩) (by assumption) ?_
  rotate_left
  · (intro w hSw; (try dsimp only at hSw); go_simp; (try (with_reducible rfl)))
  try simp only [Act.put, List.setIfInBounds_toArray, List.set_cons_zero, List.set_cons_succ]
  refine wpAnyH_take (i := 3) (oi := { dst := some 10, op := Go.Op.load 56 (Go.Operand.tmp 2), type := 56, pos := "comps.go:27", after := #[], guard := none }) (v := ?_) rfl (by kernel_rfl) (by kernel_rfl) (by kernel_rfl) (fun _ _ _ h => h) (Or.inl ⟨by rfl, ?_⟩) (by assumption) ?_
  rotate_left
  · (intro w hSw; (try dsimp only at hSw); go_simp; (try (with_reducible rfl)))
  try simp only [Act.put, List.setIfInBounds_toArray, List.set_cons_zero, List.set_cons_succ]
  refine wpAnyH_take (i := 4) (oi := { dst := some 11, op := Go.Op.load 41 (Go.Operand.tmp 4), type := 41, pos := "comps.go:27", after := #[], guard := none }) (v := ?_) rfl (by kernel_rfl) (by kernel_rfl) (by kernel_rfl) (fun _ _ _ h => h) (Or.inl ⟨by rfl, ?_⟩) (by assumption) ?_
  rotate_left
  · (intro w hSw; (try dsimp only at hSw); go_simp; (try (with_reducible rfl)))
  try simp only [Act.put, List.setIfInBounds_toArray, List.set_cons_zero, List.set_cons_succ]
  refine wpAnyH_take (i := 5) (oi := { dst := some 12, op := Go.Op.lookup 56 (Go.Operand.tmp 10) (Go.Operand.tmp 11) false, type := 53, pos := "comps.go:27", after := #[{ on := 3, ground := Go.Ground.data }, { on := 4, ground := Go.Ground.data }], guard := none }) (v := ?_) rfl (by kernel_rfl) (by kernel_rfl) (by kernel_rfl) (fun _ _ _ h => h) (Or.inl ⟨by rfl, ?_⟩) (by assumption) ?_
  rotate_left
  · (intro w hSw; (try dsimp only at hSw); go_simp; (try (with_reducible rfl)))
  try simp only [Act.put, List.setIfInBounds_toArray, List.set_cons_zero, List.set_cons_succ]
  refine wpAnyH_ready (rs := [6]) (by kernel_rfl) (by simp) ?_
  refine AllReadyH.cons (o := { dst := some 13, op := Go.Op.call { callee := Go.Callee.value (Go.Operand.func 45), args := #[Go.Operand.tmp 9, Go.Operand.tmp 12], argTypes := #[53, 53] }, type := 4, pos := "comps.go:27", after := #[{ on := 2, ground := Go.Ground.data }, { on := 5, ground := Go.Ground.data }], guard := none }) rfl (fun K hK => ?_) AllReadyH.nil
  go_simp
  refine (hL1.out _).mono ?_
  rintro e w3 ⟨rfl, hg3⟩
  have h3 := h2.below hg3.below
  have g3 := g2.trans hg3
  refine hK.out _ _ (kk _ g3 h3) (fun hHeld2 => ?_)
  clear hK K hHeld
  try simp only [Act.put, List.setIfInBounds_toArray, List.set_cons_zero, List.set_cons_succ]
  refine wpAnyH_take (i := 7) (oi := { dst := some 6, op := Go.Op.assign (Go.Operand.tmp 13), type := 4, pos := "comps.go:27", after := #[{ on := 6, ground := Go.Ground.data }, { on := 6, ground := Go.Ground.chain }], guard := none }) (v := ?_) rfl (by kernel_rfl) (by kernel_rfl) (by kernel_rfl) (fun _ _ _ h => h) (Or.inl ⟨by rfl, ?_⟩) (by assumption) ?_
  rotate_left
  · (intro w hSw; (try dsimp only at hSw); go_simp; (try (with_reducible rfl)))
  try simp only [Act.put, List.setIfInBounds_toArray, List.set_cons_zero, List.set_cons_succ]
  refine wpAnyH_done (by kernel_rfl) ?_ _
  clear h2 g2 h1 g1
  cases B1 with
  | true =>
    have hz := hfin (-1) _ rfl g3
    go_wp2_with fail
    go_ret
    exact hz.out
  | false =>
    have h4 := h3.drew
    have g4 := g3.drew
    go_wp2_with fail
    refine wp_region_held_drew (S := fun w' => w'.cell? ⟨gc, 0, none⟩ = some (.map (some m)) ∧ w'.cell? ⟨w.heap.size, 0, none⟩ = some (.int .i64 r) ∧ w'.cell? ⟨w.heap.size, 1, none⟩ = some (.int .i64 s) ∧ w'.cell? ⟨w.heap.size + 1, 0, none⟩ = some (.int .i64 r') ∧ w'.cell? ⟨w.heap.size + 1, 1, none⟩ = some (.int .i64 s') ∧ (Instr.lookup 56 (.map (some m)) (.agg #[.int .i64 r, .int .i64 s]) false).run Tryz.prog w' = .ok (recV x) w' ∧ (Instr.lookup 56 (.map (some m)) (.agg #[.int .i64 r', .int .i64 s']) false).run Tryz.prog w' = .ok (recV y) w') (by kernel_rfl) (kk _ g4 h4) (fun hHeld3 => ?_)
    refine wpAnyH_take (i := 0) (oi := { dst := some 15, op := Go.Op.load 56 (Go.Operand.tmp 2), type := 56, pos := "comps.go:29", after := #[], guard := none }) (v := ?_) rfl (by kernel_rfl) (by kernel_rfl) (by kernel_rfl) (fun _ _ _ h => h) (Or.inl ⟨by rfl, ?_⟩) (by assumption) ?_
    rotate_left
    · (intro w hSw; (try dsimp only at hSw); go_simp; (try (with_reducible rfl)))
    try simp only [Act.put, List.setIfInBounds_toArray, List.set_cons_zero, List.set_cons_succ]
    refine wpAnyH_take (i := 1) (oi := { dst := some 16, op := Go.Op.load 41 (Go.Operand.tmp 4), type := 41, pos := "comps.go:29", after := #[], guard := none }) (v := ?_) rfl (by kernel_rfl) (by kernel_rfl) (by kernel_rfl) (fun _ _ _ h => h) (Or.inl ⟨by rfl, ?_⟩) (by assumption) ?_
    rotate_left
    · (intro w hSw; (try dsimp only at hSw); go_simp; (try (with_reducible rfl)))
    try simp only [Act.put, List.setIfInBounds_toArray, List.set_cons_zero, List.set_cons_succ]
    refine wpAnyH_take (i := 2) (oi := { dst := some 17, op := Go.Op.lookup 56 (Go.Operand.tmp 15) (Go.Operand.tmp 16) false, type := 53, pos := "comps.go:29", after := #[{ on := 0, ground := Go.Ground.data }, { on := 1, ground := Go.Ground.data }], guard := none }) (v := ?_) rfl (by kernel_rfl) (by kernel_rfl) (by kernel_rfl) (fun _ _ _ h => h) (Or.inl ⟨by rfl, ?_⟩) (by assumption) ?_
    rotate_left
    · (intro w hSw; (try dsimp only at hSw); go_simp; (try (with_reducible rfl)))
    try simp only [Act.put, List.setIfInBounds_toArray, List.set_cons_zero, List.set_cons_succ]
    refine wpAnyH_take (i := 3) (oi := { dst := some 18, op := Go.Op.load 56 (Go.Operand.tmp 2), type := 56, pos := "comps.go:29", after := #[], guard := none }) (v := ?_) rfl (by kernel_rfl) (by kernel_rfl) (by kernel_rfl) (fun _ _ _ h => h) (Or.inl ⟨by rfl, ?_⟩) (by assumption) ?_
    rotate_left
    · (intro w hSw; (try dsimp only at hSw); go_simp; (try (with_reducible rfl)))
    try simp only [Act.put, List.setIfInBounds_toArray, List.set_cons_zero, List.set_cons_succ]
    refine wpAnyH_take (i := 4) (oi := { dst := some 19, op := Go.Op.load 41 (Go.Operand.tmp 3), type := 41, pos := "comps.go:29", after := #[], guard := none }) (v := ?_) rfl (by kernel_rfl) (by kernel_rfl) (by kernel_rfl) (fun _ _ _ h => h) (Or.inl ⟨by rfl, ?_⟩) (by assumption) ?_
    rotate_left
    · (intro w hSw; (try dsimp only at hSw); go_simp; (try (with_reducible rfl)))
    try simp only [Act.put, List.setIfInBounds_toArray, List.set_cons_zero, List.set_cons_succ]
    refine wpAnyH_take (i := 5) (oi := { dst := some 20, op := Go.Op.lookup 56 (Go.Operand.tmp 18) (Go.Operand.tmp 19) false, type := 53, pos := "comps.go:29", after := #[{ on := 3, ground := Go.Ground.data }, { on := 4, ground := Go.Ground.data }], guard := none }) (v := ?_) rfl (by kernel_rfl) (by kernel_rfl) (by kernel_rfl) (fun _ _ _ h => h) (Or.inl ⟨by rfl, ?_⟩) (by assumption) ?_
    rotate_left
    · (intro w hSw; (try dsimp only at hSw); go_simp; (try (with_reducible rfl)))
    try simp only [Act.put, List.setIfInBounds_toArray, List.set_cons_zero, List.set_cons_succ]
    refine wpAnyH_ready (rs := [6]) (by kernel_rfl) (by simp) ?_
    refine AllReadyH.cons (o := { dst := some 21, op := Go.Op.call { callee := Go.Callee.value (Go.Operand.func 45), args := #[Go.Operand.tmp 17, Go.Operand.tmp 20], argTypes := #[53, 53] }, type := 4, pos := "comps.go:29", after := #[{ on := 2, ground := Go.Ground.data }, { on := 5, ground := Go.Ground.data }], guard := none }) rfl (fun K hK => ?_) AllReadyH.nil
    go_simp
    refine (hL2.out _).mono ?_
    rintro e w5 ⟨rfl, hg5⟩
    have h5 := h4.below hg5.below
    have g5 := g4.trans hg5
    refine hK.out _ _ (kk _ g5 h5) (fun hHeld4 => ?_)
    clear hK K
    try simp only [Act.put, List.setIfInBounds_toArray, List.set_cons_zero, List.set_cons_succ]
    refine wpAnyH_take (i := 7) (oi := { dst := some 14, op := Go.Op.assign (Go.Operand.tmp 21), type := 4, pos := "comps.go:29", after := #[{ on := 6, ground := Go.Ground.data }, { on := 6, ground := Go.Ground.chain }], guard := none }) (v := ?_) rfl (by kernel_rfl) (by kernel_rfl) (by kernel_rfl) (fun _ _ _ h => h) (Or.inl ⟨by rfl, ?_⟩) (by assumption) ?_
    rotate_left
    · (intro w hSw; (try dsimp only at hSw); go_simp; (try (with_reducible rfl)))
    try simp only [Act.put, List.setIfInBounds_toArray, List.set_cons_zero, List.set_cons_succ]
    refine wpAnyH_done (by kernel_rfl) ?_ _
    cases B2 with
    | true =>
      have hz := hfin 1 _ rfl g5
      go_wp2_with fail
      go_ret
      exact hz.out
    | false =>
      have hz := hfin 0 _ rfl g5
      go_wp2_with fail
      go_ret
      exact hz.out
end Go.Proofs.YtcbckeoalmjcoaaGreat
