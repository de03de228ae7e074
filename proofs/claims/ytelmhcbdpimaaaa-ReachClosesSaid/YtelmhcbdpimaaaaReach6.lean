/- What some ids reach: Closed. -/
import Derived.Test.YtelmhcbdpimaaaaReach5
set_option linter.unusedVariables false
set_option linter.unusedSimpArgs false
namespace Go.Proofs.Ytelmhcbdpimaaaa
open Go.RowKit Go.Cw Go.Fl
attribute [local go_sem ↓] eql_id neq_id
/-- Ids that are not open. -/
def clsF (B R : List Id) : List Id := R.filter (fun a => decide (a ∉ B))
theorem clsF_snoc (B R : List Id) (k : Nat) (h : k < R.length) : clsF B (R.take (k + 1)) = if R[k] ∈ B then clsF B (R.take k) else clsF B (R.take k) ++ [R[k]] := by
  unfold clsF
  rw [List.take_add_one, List.getElem?_eq_getElem h, List.filter_append]
  by_cases hm : R[k] ∈ B <;> simp [hm]
theorem clsF_len (B R : List Id) : (clsF B R).length ≤ R.length := List.length_filter_le ..
/-- What Closed tells. -/
def ClosedR (L : List Rc) (p : Nat) (H : Hp) (fr : List HA) (w : World) (e : Ending) (w' : World) : Prop :=
  ∃ (v : Value) (C : List Id) (H' : Hp), e = .returned v ∧ Hp.le H H' ∧ St H' (Row 28 2 v (idl C) :: GrA p L :: fr) w' ∧ Env w w' ∧ Rises C ∧ ∀ a, a ∈ C ↔ (a ∈ rids L ∧ ¬ Opn L a)
theorem rises_filter {R : List Id} (h : Rises R) (q : Id → Bool) : Rises (R.filter q) := List.Pairwise.filter q h
set_option maxRecDepth 100000 in
set_option maxHeartbeats 8000000 in
theorem closed_any (p : Nat) (L : List Rc) (H : Hp) (fr : List HA) (w : World) (h : St H (GrA p L :: fr) w) (hg : GrOk H L) (hL : L.length ≤ 1000) :
    Calls Try.prog 31 #[grP p] w (ClosedR L p H fr w) := by
  have hfin : ∀ (v : Value) (R B : List Id) (H' : Hp) (w' : World), Hp.le H H' → St H' (Row 28 2 v (idl (clsF B R)) :: GrA p L :: fr) w' → Env w w' → Rises R → (∀ a, a ∈ R ↔ a ∈ rids L) → (∀ a, a ∈ B ↔ Opn L a) → ClosedR L p H fr w (.returned v) w' := fun v R B H' w' h1 h2 h3 h4 h5 h6 => ⟨v, _, H', rfl, h1, h2, h3, rises_filter h4 _, fun a => by
    unfold clsF
    rw [List.mem_filter, decide_eq_true_eq, h5, h6]⟩
  generalize ClosedR L p H fr w = Q at *
  have hO := Lib.hid (open_any p L H fr w h hg hL)
  replace hg := Lib.hid hg
  replace hfin := Lib.hid hfin
  clear h
  go_enter Try.func31, Try.ntmps31
  go_wp2_with fail
  refine hO.out.mono ?_
  rintro e w1 ⟨s, B, H1, rfl, l1, h1, en1, hB⟩
  replace hB := Lib.hid hB
  have hI := Lib.hid (grIds_any p L H1 _ w1 h1.swap (fun x hx => (hg.out.d x hx).mono l1) (by omega))
  clear hO
  go_wp2_with fail
  refine hI.out.mono ?_
  rintro e w2 ⟨iv, R, rfl, h2, en2, hr, hm⟩
  replace en2 := en1.trans en2
  have hRm : Hid (∀ a, a ∈ R ↔ a ∈ rids L) := Lib.hid (fun a => by
    rw [hm]
    constructor
    · rintro ⟨x, hx, ha⟩
      rw [List.mem_singleton] at ha
      exact List.mem_map.2 ⟨x, hx, ha.symm⟩
    · intro ha
      obtain ⟨x, hx, rfl⟩ := List.mem_map.1 ha
      exact ⟨x, hx, by simp⟩)
  have hRl : R.length ≤ 1000 := by
    have := sub_len16 R (rids L) (rises_nodup hr) (fun a ha => (hRm.out a).1 ha)
    rw [List.length_map] at this
    omega
  replace hr := Lib.hid hr
  obtain ⟨iA, im, ic, rfl, hi1, hi2, _⟩ := h2.row_form
  rw [idl_len] at hi1
  obtain rfl : im = R.length := by omega
  obtain ⟨H2, l2, h3, hrd⟩ := h2.row_keep
  have h4 := h3.row_nil 28 2
  clear hI h1 h2 h3 hm en1 hi1 hi2
  have l12 := Hp.le_trans l1 l2
  go_wp2_with fail
  go_loopw [4, 12] (fun s4 s12 wr => ∃ (k : Nat) (H' : Hp), k ≤ R.length ∧ s12 = .int .i64 (k : Int) ∧ Hp.le H2 H' ∧ St H' (Row 28 2 s4 (idl (clsF B (R.take k))) :: GrA p L :: SetA s B :: fr) wr ∧ Env w wr) (fun _ s12 _ => R.length - (intOf s12).toNat)
  case atStart => exact ⟨0, H2, by omega, by go_num, Hp.le_refl _, h4, en2⟩
  case round =>
    clear h4 en2
    obtain ⟨k, H3, hk, rfl, l3, hst, hen⟩ := hrel
    obtain ⟨oA, om, oc, rfl, ho1, ho2, _⟩ := hst.row_form
    rw [idl_len] at ho1
    by_cases hlt : k < R.length
    · have hcs := clsF_snoc B R k hlt
      have hcl := clsF_len B (R.take k)
      rw [List.length_take] at hcl
      obtain ⟨b, off, hA, hcr⟩ := ((hrd.mono l3).rw hst).cells (by omega)
      cases hA
      have q0 := hcr _ _ (idl_fst R k hlt)
      have q1 := hcr _ _ (idl_snd R k hlt)
      rw [← Nat.add_assoc] at q1
      clear hcr
      have ql := World.block_lt_of_cell? _ _ q0
      generalize R[k] = x at *
      obtain ⟨H4, l4, h5, y⟩ := hst.box #[.int .i64 x.1, .int .i64 x.2] 28
      have y0 := y 0 _ rfl
      have y1 := y 1 _ rfl
      have en5 := hen.alloc (.cells #[.int .i64 x.1, .int .i64 x.2] 28)
      have v0 := h5.cell y0
      have v1 := h5.cell y1
      have vl := World.block_lt_of_cell? _ _ v0
      have hHx := has_any s B x H4 _ _ (h5.pick 2 (by simp))
      have hk1 := Lib.hid (show k + 1 ≤ R.length by omega)
      have l34 := Hp.le_trans l3 l4
      clear y hst hen
      by_cases hx : x ∈ B
      · rw [decide_eq_true hx] at hHx
        rw [if_pos hx] at hcs
        replace hHx := Lib.hid hHx
        replace hcs := Lib.hid hcs
        clear hx
        obtain ⟨x0, x1⟩ := x
        simp only at q0 q1 v0 v1 y0 y1
        go_wp2_with fail
        refine hHx.out.mono ?_
        rintro e w6 ⟨rfl, hb6⟩
        have h6 := h5.below hb6
        have en6 := en5.trans (bel_env hb6)
        go_wp2_with fail
        go_roundw
        case rel => exact ⟨k + 1, H4, hk1.out, by go_num, l34, by rw [hcs.out]; exact h6, en6⟩
        case measure => simp [intOf]; omega
      · rw [decide_eq_false hx] at hHx
        rw [if_neg hx] at hcs
        replace hHx := Lib.hid hHx
        replace hcs := Lib.hid hcs
        clear hx
        obtain ⟨x0, x1⟩ := x
        simp only at q0 q1 v0 v1 y0 y1
        go_wp2_with fail
        generalize wr.heap.size = gb at *
        generalize wr.alloc (.cells #[.int .i64 x0, .int .i64 x1] 28) = wb at *
        refine hHx.out.mono ?_
        rintro e w6 ⟨rfl, hb6⟩
        have h6 := h5.below hb6
        have en6 := en5.trans (bel_env hb6)
        clear v0 v1 vl q0 q1 ql h5 en5 hHx hb6
        have v0 := h6.cell y0
        have v1 := h6.cell y1
        have vl := World.block_lt_of_cell? _ _ v0
        go_wp2_with (at_builtin; refine wpList_append rfl (.tmp 20) (.tmp 22) 29 29 rfl Try.underlying29 (.inl ⟨_, Try.underlying29⟩) (.agg #[.int .i64 0, .int .i64 0]) 16 info_id rfl (by decide) (by decide) rfl rfl (h6.alloc _) (News.new w6 _ 1 #[.int .i64 x0, .int .i64 x1] rfl (by simp [Value.oneCell'])) ?apB2 ?apK2)
        case apB2 => first | omega | (rw [idl_len]; omega) | (simp only [idl_len]; simp; omega)
        case apK2 =>
          intro lv2 w7 h12 en10
          have en11 := (en6.alloc _).trans en10
          have h13 : St H4 (Row 28 2 lv2 (idl (clsF B (R.take (k + 1)))) :: GrA p L :: SetA s B :: fr) w7 := by rw [hcs.out, idl_append]; exact h12
          go_wp2_with fail
          go_roundw
          case rel => exact ⟨k + 1, H4, hk1.out, by go_num, l34, h13, en11⟩
          case measure => simp [intOf]; omega
    · obtain rfl : k = R.length := by omega
      rw [List.take_length] at hst
      have hz := Lib.hid (hfin.out _ R B H3 wr (Hp.le_trans l12 l3) ((hst.pick 2 (by simp)).drop) hen hr.out hRm.out hB.out)
      go_wp2_with fail
      exact hz.out
set_option maxRecDepth 100000 in
set_option maxHeartbeats 8000000 in
theorem open_nil (w : World) : Calls Try.prog 75 #[.pointer none] w fun e w' => ∃ s, e = .returned (setP s) ∧ St (snap w) [SetA s []] w' ∧ Env w w' := by
  have hNew := Lib.hid (setNew_any (.slice none 0 0) [] w (Rw.nil w 2))
  go_enter Try.func75, Try.ntmps75
  go_wp2_with fail
  refine hNew.out.mono ?_
  rintro e w1 he
  obtain ⟨s, rfl, h1, en1⟩ := ResE.lift (St.start w) he
  clear he hNew
  go_wp2_with fail
  refine (grMissing_nil w1).mono ?_
  rintro e w2 ⟨rfl, hb2⟩
  have h2 : St (snap w) [SetA s []] w2 := St.below h1 hb2
  have en2 := en1.trans (bel_env hb2)
  clear h1 en1 hb2
  go_wp2_with fail
  go_loopw [4] (fun s4 wr => s4 = .slice none 0 0 ∧ wr = w2) (fun _ _ => 0)
  case atStart => exact ⟨rfl, rfl⟩
  case round =>
    obtain ⟨rfl, rfl⟩ := hrel
    go_wp2_with fail
    go_ret
    exact ⟨s, rfl, h2, en2⟩
set_option maxRecDepth 100000 in
set_option maxHeartbeats 8000000 in
theorem closed_nil (w : World) : Calls Try.prog 31 #[.pointer none] w fun e w' => e = .returned (.slice none 0 0) ∧ Below w.heap.size w w' := by
  go_enter Try.func31, Try.ntmps31
  go_wp2_with fail
  refine (open_nil w).mono ?_
  rintro e w1 ⟨s, rfl, h1, en1⟩
  have hb := h1.toBelow en1
  go_wp2_with fail
  refine (grIds_nil w1).mono ?_
  rintro e w2 ⟨rfl, rfl⟩
  go_wp2_with fail
  go_loopw [4, 12] (fun s4 s12 wr => s4 = .slice none 0 0 ∧ s12 = .int .i64 0 ∧ wr = w1) (fun _ _ _ => 0)
  case atStart => exact ⟨rfl, by go_num, rfl⟩
  case round =>
    obtain ⟨rfl, rfl, rfl⟩ := hrel
    go_wp2_with fail
    go_ret
    exact ⟨rfl, hb⟩
/-- The closed ones of plain records: those that reach nothing that is missing. -/
def Clo (l : List Rp) (a : Id) : Prop := ∀ b, Rch (dpsR l) [a] b → b ∈ pids l
theorem dpsR_at {L : List Rc} (hn : (rids L).Nodup) {x : Rc} (hx : x ∈ L) : dpsR (L.map rp) x.1 = x.2.2.2.2.1 := by
  obtain ⟨y, hy, he, _, hr⟩ := lookR_ent L x.1 (List.mem_map.2 ⟨x, hx, rfl⟩)
  unfold dpsR
  rw [← hr]
  have : y = x := by
    obtain ⟨i, hi, rfl⟩ := List.getElem_of_mem hx
    obtain ⟨j, hj, rfl⟩ := List.getElem_of_mem hy
    have : j = i := (List.getElem_inj (h₀ := by simpa [rids] using hj) (h₁ := by simpa [rids] using hi) hn).1 (by simpa [rids] using he)
    subst this
    rfl
  rw [this]
theorem usr_dps {L : List Rc} (hn : (rids L).Nodup) (a b : Id) : b ∈ usrF L a ↔ (b ∈ rids L ∧ a ∈ dpsR (L.map rp) b) := by
  rw [usrF_mem]
  constructor
  · rintro ⟨x, hx, rfl, ha⟩
    exact ⟨List.mem_map.2 ⟨x, hx, rfl⟩, by rw [dpsR_at hn hx]; exact ha⟩
  · rintro ⟨hb, ha⟩
    obtain ⟨x, hx, rfl⟩ := List.mem_map.1 hb
    exact ⟨x, hx, rfl, by rw [dpsR_at hn hx] at ha; exact ha⟩
theorem mis_dps {L : List Rc} (hn : (rids L).Nodup) (b : Id) : b ∈ misF L ↔ (b ∉ rids L ∧ ∃ a ∈ rids L, b ∈ dpsR (L.map rp) a) := by
  rw [misF_mem]
  constructor
  · rintro ⟨h1, x, hx, hb⟩
    exact ⟨h1, x.1, List.mem_map.2 ⟨x, hx, rfl⟩, by rw [dpsR_at hn hx]; exact hb⟩
  · rintro ⟨h1, a, ha, hb⟩
    obtain ⟨x, hx, rfl⟩ := List.mem_map.1 ha
    exact ⟨h1, x, hx, by rw [dpsR_at hn hx] at hb; exact hb⟩
theorem opn_iff {L : List Rc} (hn : (rids L).Nodup) {a : Id} (ha : a ∈ rids L) : Opn L a ↔ ¬ Clo (L.map rp) a := by
  have hin : ∀ {x y : Id}, y ∈ dpsR (L.map rp) x → x ∈ rids L := fun {x y} h => by
    apply Classical.byContradiction
    intro hx
    rw [dpsR_none (by rw [pids_rp]; exact hx)] at h
    cases h
  constructor
  · intro ho hc
    have : ∀ x, Opn L x → ∃ b, Rch (dpsR (L.map rp)) [x] b ∧ b ∉ rids L := fun x hx => by
      refine hx.closed (P := fun x => ∃ b, Rch (dpsR (L.map rp)) [x] b ∧ b ∉ rids L) (fun m hm => ⟨m, .base (by simp), ((mis_dps hn m).1 hm).1⟩) ?_
      rintro y ⟨b, hb, hnb⟩ z hz
      have hz' := (usr_dps hn y z).1 hz
      exact ⟨b, hb.trans (fun q hq => by rw [List.mem_singleton] at hq; subst hq; exact .step (.base (by simp)) hz'.2), hnb⟩
    obtain ⟨b, hb, hnb⟩ := this a ho
    have := hc b hb
    rw [pids_rp] at this
    exact hnb this
  · intro hc
    apply Classical.byContradiction
    intro ho
    apply hc
    intro b hb
    rw [pids_rp]
    -- along the way all are there and not open
    have : b ∈ rids L ∧ ¬ Opn L b := by
      refine hb.closed (P := fun b => b ∈ rids L ∧ ¬ Opn L b) (fun q hq => by rw [List.mem_singleton] at hq; subst hq; exact ⟨ha, ho⟩) ?_
      rintro x ⟨hx, hxo⟩ y hy
      have hyo : ¬ Opn L y := fun h => hxo (.step h ((usr_dps hn y x).2 ⟨hx, hy⟩))
      refine ⟨?_, hyo⟩
      apply Classical.byContradiction
      intro hny
      exact hyo (.base ((mis_dps hn y).2 ⟨hny, x, hx, hy⟩))
    exact this.1
end Go.Proofs.Ytelmhcbdpimaaaa
