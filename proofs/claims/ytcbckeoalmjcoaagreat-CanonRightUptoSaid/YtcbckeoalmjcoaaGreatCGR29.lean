/- Joined texts: RefFrom, RefReach. -/
import Derived.Test.YtcbckeoalmjcoaaGreatCGR12
import Derived.Test.YtcbckeoalmjcoaaGreatCGR17
import Derived.Test.YtcbckeoalmjcoaaGreatCGR28
/- Reference 16: From. -/
set_option linter.unusedVariables false
set_option linter.unusedSimpArgs false
namespace Go.Proofs.YtcbckeoalmjcoaaGreat
open Go.RowKit Go.Cw Go.Fl
attribute [local go_sem ↓] eql_id neq_id
theorem putF_rd (v : Value) (M : List Id) (x : Id) (H : Hp) (fr : List HA) (w : World) (h : St H fr w) (hv : Rd H 2 v (idl M)) (hlen : (M.length + 1) * 16 ≤ 140737488355328) :
    Calls Tryz.prog 55 #[v, idV x] w fun e w' => ∃ v' H', e = .returned v' ∧ Hp.le H H' ∧ St H' fr w' ∧ Env w w' ∧ Rd H' 2 v' (idl (putL x M)) := by
  by_cases hin : x ∈ M
  · refine (put_has v M x w (hv.rw h) hin).mono ?_
    rintro e w' ⟨rfl, hb⟩
    exact ⟨v, H, rfl, Hp.le_refl _, h.below hb, bel_env hb, by unfold putL; rw [if_pos hin]; exact hv⟩
  · refine (put_new v M x w (hv.rw h) hin hlen).mono ?_
    rintro e w' he
    obtain ⟨v', rfl, h', en'⟩ := ResE.lift h he
    obtain ⟨H', l', h2, hr⟩ := St.row_keep h'
    exact ⟨v', H', rfl, l', h2, en', by unfold putL; rw [if_neg hin]; exact hr⟩
/-- What From tells. -/
def FromR (deps : Id → List Id) (src : List Id) (H : Hp) (fr : List HA) (w : World) (e : Ending) (w' : World) : Prop :=
  ∃ v R H', e = .returned v ∧ Hp.le H H' ∧ St H' fr w' ∧ Env w w' ∧ Rd H' 2 v (idl R) ∧ Rises R ∧ ∀ a, a ∈ R ↔ Rch deps src a
/-- Its rounds. -/
structure FrI (deps : Id → List Id) (src : List Id) (R : List Id) : Prop where
  rs : Rises R
  st : ∀ a ∈ src, a ∈ R
  rc : ∀ a ∈ R, Rch deps src a
structure FrJ (deps : Id → List Id) (src R M : List Id) (i : Nat) (E : List Id) : Prop where
  m : FrI deps src M
  ge : ∀ a ∈ R, a ∈ M
  cl : ∀ a ∈ R.take i, ∀ b ∈ deps a, b ∈ M
  e : ∀ b ∈ E, b ∈ M
theorem FrJ.put {deps : Id → List Id} {src R M E : List Id} {i : Nat} {x : Id} (h : FrJ deps src R M i E) (hx : Rch deps src x) : FrJ deps src R (putL x M) i (E ++ [x]) := by
  refine ⟨⟨putL_rises _ _ h.m.rs, fun a ha => (putL_mem _ _ _).2 (.inr (h.m.st a ha)), fun a ha => ?_⟩, fun a ha => (putL_mem _ _ _).2 (.inr (h.ge a ha)), fun a ha b hb => (putL_mem _ _ _).2 (.inr (h.cl a ha b hb)), fun b hb => ?_⟩
  · rcases (putL_mem _ _ _).1 ha with rfl | h1
    · exact hx
    · exact h.m.rc a h1
  · rcases List.mem_append.1 hb with h1 | h1
    · exact (putL_mem _ _ _).2 (.inr (h.e b h1))
    · rw [List.mem_singleton] at h1; exact (putL_mem _ _ _).2 (.inl h1)
theorem FrJ.next {deps : Id → List Id} {src R M : List Id} {i : Nat} (hi : i < R.length) (h : FrJ deps src R M i (deps R[i])) : FrJ deps src R M (i + 1) [] := by
  refine ⟨h.m, h.ge, fun a ha b hb => ?_, by simp⟩
  rw [List.take_add_one, List.getElem?_eq_getElem hi] at ha
  rcases List.mem_append.1 ha with h1 | h1
  · exact h.cl a h1 b hb
  · simp only [Option.toList_some, List.mem_singleton] at h1
    subst h1
    exact h.e b hb
theorem FrJ.start {deps : Id → List Id} {src R : List Id} (h : FrI deps src R) : FrJ deps src R R 0 [] := ⟨h, fun a ha => ha, by simp, by simp⟩
theorem FrJ.none {deps : Id → List Id} {src R M : List Id} {i : Nat} (h : FrJ deps src R M i []) {E : List Id} (hE : E = []) : FrJ deps src R M i E := hE ▸ h
theorem sub_eq16 {R M : List Id} (hR : R.Nodup) (hM : M.Nodup) (hs : ∀ a ∈ R, a ∈ M) (hl : M.length = R.length) : ∀ a ∈ M, a ∈ R := by
  intro a ha
  apply Classical.byContradiction
  intro hn
  have := sub_len16 (a :: R) M (List.nodup_cons.2 ⟨hn, hR⟩) (fun b hb => by
    rcases List.mem_cons.1 hb with rfl | hb
    · exact ha
    · exact hs b hb)
  simp at this
  omega
theorem FrJ.last {deps : Id → List Id} {src R M : List Id} {i : Nat} (hR : FrI deps src R) (h : FrJ deps src R M i []) (hi : R.length ≤ i) (hl : M.length = R.length) (a : Id) : a ∈ R ↔ Rch deps src a := by
  refine ⟨hR.rc a, fun hr => hr.closed hR.st (fun a ha b hb => ?_)⟩
  exact sub_eq16 (rises_nodup hR.rs) (rises_nodup h.m.rs) h.ge hl b (h.cl a (by rw [List.take_of_length_le hi]; exact ha) b hb)
theorem FrJ.more {deps : Id → List Id} {src R M : List Id} {i : Nat} (hR : FrI deps src R) (h : FrJ deps src R M i []) (hl : M.length ≠ R.length) : R.length < M.length := by
  have := sub_len16 R M (rises_nodup hR.rs) h.ge
  omega
theorem FrI.len {deps : Id → List Id} {src R U : List Id} (h : FrI deps src R) (hU : ∀ a, Rch deps src a → a ∈ U) : R.length ≤ U.length := sub_len16 _ _ (rises_nodup h.rs) (fun a ha => hU a (h.rc a ha))
set_option maxRecDepth 100000 in
set_option maxHeartbeats 8000000 in
theorem refFrom_any (u v : Value) (l : List Rc) (src : List Id) (H : Hp) (fr : List HA) (w : World) (h : St H fr w) (hx : Rd H 5 u (recs l)) (hl : ∀ x ∈ l, RcD H x) (hl16 : ∀ x ∈ l, x.2.2.2.2.1.length ≤ 16) (hlen : l.length ≤ 1000) (hv : Rd H 2 v (idl src)) (hsl : src.length ≤ 1000) :
    Calls Tryz.prog 51 #[u, v] w (FromR (dpsR (l.map rp)) src H fr w) := by
  obtain ⟨A, n, c, rfl, hn, hnc, hc⟩ := hx.form
  rw [recs_len] at hn
  obtain rfl : n = l.length := by omega
  clear hn
  obtain ⟨U, hUe⟩ : ∃ U, U = allU (l.map rp) src := ⟨_, rfl⟩
  have hU : Hid (∀ a, Rch (dpsR (l.map rp)) src a → a ∈ U) := Lib.hid (fun a ha => by rw [hUe]; exact rch_allU ha)
  have hUl : U.length ≤ 17000 := by
    rw [hUe]
    have := allU_len (l.map rp) src (fun x hx => by obtain ⟨y, hy, rfl⟩ := List.mem_map.1 hx; exact hl16 y hy)
    rw [List.length_map] at this
    omega
  clear hUe
  obtain ⟨deps, hde⟩ : ∃ deps, dpsR (l.map rp) = deps := ⟨_, rfl⟩
  rw [hde] at hU ⊢
  replace hde := Lib.hid hde
  have hfin : ∀ (vo : Value) (R : List Id) (H' : Hp) (w' : World), Hp.le H H' → St H' fr w' → Env w w' → Rd H' 2 vo (idl R) → Rises R → (∀ a, a ∈ R ↔ Rch deps src a) → FromR deps src H fr w (.returned vo) w' := fun vo R H' w' h1 h2 h3 h4 h5 h6 => ⟨vo, R, H', rfl, h1, h2, h3, h4, h5, h6⟩
  generalize FromR deps src H fr w = Q at *
  have hS := Lib.hid (refSorted_any v src w (hv.rw h) (by omega))
  replace hl := Lib.hid hl
  replace hfin := Lib.hid hfin
  go_enter Tryz.func51, Tryz.ntmps51
  go_wp2_with fail
  refine hS.out.mono ?_
  rintro e w1 he
  obtain ⟨v1, rfl, h1, en1⟩ := ResE.lift h he
  obtain ⟨H1, l1, h2, hr1⟩ := St.row_keep h1
  have HI := Lib.hid (show FrI deps src (sortL src) from ⟨sortL_rises _, fun a ha => (sortL_mem _ _).2 ha, fun a ha => .base ((sortL_mem _ _).1 ha)⟩)
  clear hS he h1
  go_wp2_with fail
  go_loopg [5] (U.length - (sortL src).length) (fun q s5 wr => ∃ (R : List Id) (H' : Hp), q = U.length - R.length ∧ Hp.le H H' ∧ St H' fr wr ∧ Env w wr ∧ Rd H' 2 s5 (idl R) ∧ Hid (FrI deps src R))
  case atStart => exact ⟨_, H1, rfl, l1, h2, en1, hr1, HI⟩
  case round =>
    clear h2 hr1 HI en1 l1 h hv
    clear H1
    obtain ⟨R, H1, hq, l1, hst, hen, hrd, HI⟩ := hrel
    have hRl := HI.out.len hU.out
    obtain ⟨oA, on, oc, rfl, hon, honc, _⟩ := hrd.form
    rw [idl_len] at hon
    obtain rfl : on = R.length := by omega
    clear hon
    go_wp2_with fail
    go_loopw [6, 7] (fun s6 s7 wr => ∃ (i : Nat) (M : List Id) (H2 : Hp), i ≤ R.length ∧ s7 = .int .i64 (i : Int) ∧ Hp.le H1 H2 ∧ St H2 fr wr ∧ Env w wr ∧ Rd H2 2 s6 (idl M) ∧ Hid (FrJ deps src R M i [])) (fun _ s7 _ => R.length - (intOf s7).toNat)
    case atStart => exact ⟨0, R, H1, by omega, by go_num, Hp.le_refl _, hst, hen, hrd, Lib.hid (FrJ.start HI.out)⟩
    case round =>
      clear hst hen
      obtain ⟨i, M, H2, hi, rfl, l2, hst, hen, hm, HJ⟩ := hrel
      have hMl := HJ.out.m.len hU.out
      have hmm := hm
      obtain ⟨mA, mn, mc, rfl, hmn, hmnc, _⟩ := hm.form
      rw [idl_len] at hmn
      obtain rfl : mn = M.length := by omega
      clear hmn
      by_cases hlt : i < R.length
      · obtain ⟨b, off, hA, hcr⟩ := ((hrd.mono l2).rw hst).cells (by omega)
        cases hA
        have q0 := hcr _ _ (idl_fst R i hlt)
        have q1 := hcr _ _ (idl_snd R i hlt)
        rw [← Nat.add_assoc] at q1
        clear hcr
        have hRx : Rch deps src R[i] := HI.out.rc _ (List.getElem_mem hlt)
        have hnext := fun M (h : FrJ deps src R M i (deps R[i])) => h.next hlt
        have ql := World.block_lt_of_cell? _ _ q0
        generalize R[i] = x at *
        have hFp := findAt_pos x (rids l) 0 (by omega)
        have hFl := findAt_look x l 0
        have hF := find_any (.slice A l.length c) l x wr (((hx.mono l1).mono l2).rw hst)
        obtain ⟨F, hFF⟩ : ∃ F, findAt x (rids l) 0 = F := ⟨_, rfl⟩
        rw [hFF] at hFp hFl hF
        clear hFF
        replace hF := Lib.hid hF
        replace hnext := Lib.hid hnext
        replace hFl := Lib.hid hFl
        have hin := Decidable.em (x ∈ rids l)
        rw [← hFp] at hin
        replace hin := Lib.hid hin
        have hdn : Hid (x ∉ rids l → deps x = []) := Lib.hid (fun hn => by rw [← hde.out]; exact dpsR_none (by rw [pids_rp]; exact hn))
        have hdy : Hid (∀ y : Rc, rp y = lookR (l.map rp) x → deps x = y.2.2.2.2.1) := Lib.hid (fun y hy => by rw [← hde.out]; unfold dpsR; rw [← hy])
        replace hRx := Lib.hid hRx
        replace hFp := Lib.hid hFp
        obtain ⟨x0, x1⟩ := x
        simp only at q0 q1
        go_wp2_with fail
        refine hF.out.mono ?_
        rintro e w3 ⟨rfl, hb3⟩
        have h3 := hst.below hb3
        have en3 := hen.trans (bel_env hb3)
        clear hst hen hb3 q0 q1 ql hF
        rcases hin.out with hin | hin
        · obtain ⟨j, hj, hFj, hLj, hLr⟩ := hFl.out (hFp.out.1 hin)
          obtain rfl : F = (j : Int) := by omega
          obtain ⟨b2, off2, hA, hcr⟩ := rd_at ((hx.mono l1).mono l2) (by omega)
          cases hA
          have p3 := hcr _ _ (recs_get l j hj).2.2.2.1
          rw [← Nat.add_assoc] at p3
          clear hcr
          have hyd := hl.out l[j] (List.getElem_mem hj)
          have hy16 := hl16 l[j] (List.getElem_mem hj)
          have hdx := hdy.out l[j] hLr
          generalize l[j] = y at *
          obtain ⟨d1, d2, d3, hdv, hd4, _⟩ := hyd.d.form
          obtain ⟨⟨y0, y1⟩, yq, yd, yb, yD, yB⟩ := y
          simp only at hdv p3 hdx hd4 hy16
          subst hdv
          rw [idl_len] at hd4
          obtain rfl : d2 = yD.length := by omega
          clear hd4 hLr hLj hFj hin hdy hdn hFl hFp
          replace hnext := Lib.hid hnext.out
          replace hdx := Lib.hid hdx
          replace hyd := Lib.hid hyd
          have hj' : (j : Int) < (l.length : Int) := by omega
          have hj0 : ¬ (j : Int) < 0 := by omega
          go_wp2_with fail
          go_loopw [6, 9] (fun s6 s9 wr => ∃ (k : Nat) (M : List Id) (H3 : Hp), k ≤ yD.length ∧ s9 = .int .i64 (k : Int) ∧ Hp.le H2 H3 ∧ St H3 fr wr ∧ Env w wr ∧ Rd H3 2 s6 (idl M) ∧ Hid (FrJ deps src R M i (yD.take k))) (fun _ s9 _ => yD.length - (intOf s9).toNat)
          case atStart => exact ⟨0, M, H2, by omega, by go_num, Hp.le_refl _, h3, en3, hmm, Lib.hid (HJ.out.none (by simp))⟩
          case round =>
            clear h3 en3 HJ hmm hm hMl hmnc
            obtain ⟨k, M, H3, hk, rfl, l3, hst, hen, hm, HJ⟩ := hrel
            have hMl := HJ.out.m.len hU.out
            have v3 := hst.cell (Hp.cell_le l3 p3)
            have vl := World.block_lt_of_cell? _ _ v3
            have hmm := hm
            obtain ⟨mA, mn, mc, rfl, hmn, hmnc, _⟩ := hm.form
            rw [idl_len] at hmn
            obtain rfl : mn = M.length := by omega
            clear hmn
            by_cases hlt : k < yD.length
            · obtain ⟨b3, off3, hA, hcr⟩ := ((((hyd.out.d.mono l1).mono l2).mono l3).rw hst).cells (by omega)
              cases hA
              have q0 := hcr _ _ (idl_fst yD k hlt)
              have q1 := hcr _ _ (idl_snd yD k hlt)
              rw [← Nat.add_assoc] at q1
              clear hcr
              have hRz : Rch deps src yD[k] := .step hRx.out (by rw [hdx.out]; exact List.getElem_mem hlt)
              have HJ2 : Hid (FrJ deps src R (putL yD[k] M) i (yD.take (k + 1))) := Lib.hid (by
                have := HJ.out.put hRz
                rwa [List.take_append_getElem hlt] at this)
              have ql := World.block_lt_of_cell? _ _ q0
              have hk1 := Lib.hid (show k + 1 ≤ yD.length by omega)
              have hP := Lib.hid (putF_rd (.slice mA M.length mc) M yD[k] H3 fr wr hst hmm (by omega))
              clear hRz
              generalize yD[k] = z at *
              obtain ⟨z0, z1⟩ := z
              simp only at q0 q1
              go_wp2_with fail
              refine hP.out.mono ?_
              rintro e w4 ⟨v', H4, rfl, l4, h4, en4, hr4⟩
              have en5 := hen.trans en4
              clear q0 q1 ql v3 vl hP
              go_wp2_with fail
              go_roundw
              case rel => exact ⟨k + 1, _, H4, hk1.out, by go_num, Hp.le_trans l3 l4, h4, en5, hr4, HJ2⟩
              case measure => simp [intOf]; omega
            · obtain rfl : k = yD.length := by omega
              have HJ2 := Lib.hid (hnext.out M (by rw [hdx.out]; have := HJ.out; rwa [List.take_length] at this))
              clear hnext HJ
              go_wp2_with fail
              go_roundw
              case rel => exact ⟨i + 1, M, H3, by omega, by go_num, Hp.le_trans l2 l3, hst, hen, hmm, HJ2⟩
              case measure => simp [intOf]; omega
        · have hin' : F < 0 := by omega
          have HJ2 := Lib.hid (hnext.out M (HJ.out.none (hdn.out (fun hm => by have := hFp.out.2 hm; omega))))
          clear hdy hdn hFl hFp hnext HJ hin
          go_wp2_with fail
          go_roundw
          case rel => exact ⟨i + 1, M, H2, by omega, by go_num, l2, h3, en3, hmm, HJ2⟩
          case measure => simp [intOf]; omega
      · obtain rfl : i = R.length := by omega
        by_cases he : M.length = R.length
        · have hz := Lib.hid (hfin.out _ R H2 _ (Hp.le_trans l1 l2) hst hen (hrd.mono l2) HI.out.rs (HJ.out.last HI.out (Nat.le_refl _) he))
          have he' : (M.length : Int) = (R.length : Int) := by omega
          clear he
          go_wp2_with fail
          exact hz.out
        · have hmr := HJ.out.more HI.out he
          have HM := Lib.hid HJ.out.m
          have he' : ¬ (M.length : Int) = (R.length : Int) := by omega
          clear he
          go_wp2_with fail
          go_roundg (U.length - M.length)
          case measure => omega
          case rel => exact ⟨M, H2, rfl, Hp.le_trans l1 l2, hst, hen, hmm, HM⟩
end Go.Proofs.YtcbckeoalmjcoaaGreat

/- Reference 16: Whole, Closed. -/
set_option linter.unusedVariables false
set_option linter.unusedSimpArgs false
namespace Go.Proofs.YtcbckeoalmjcoaaGreat
open Go.RowKit Go.Cw Go.Fl
attribute [local go_sem ↓] eql_id neq_id
/-- What a question tells. -/
def AskF (B : Bool) (H : Hp) (fr : List HA) (w : World) (e : Ending) (w' : World) : Prop := ∃ H', e = .returned (.bool B) ∧ Hp.le H H' ∧ St H' fr w' ∧ Env w w'
/-- What the reference's Closed tells. -/
def RClosed (l : List Rc) (H : Hp) (fr : List HA) (w : World) (e : Ending) (w' : World) : Prop :=
  ∃ (v : Value) (C : List Id) (H' : Hp), e = .returned v ∧ Hp.le H H' ∧ St H' (Row 41 2 v (idl C) :: fr) w' ∧ Env w w' ∧ Rises C ∧ ∀ a, a ∈ C ↔ (a ∈ rids l ∧ Clo (l.map rp) a)
structure ClI (l : List Rc) (k : Nat) (C : List Id) : Prop where
  rs : Rises C
  mem : ∀ a, a ∈ C ↔ (a ∈ rids (l.take k) ∧ Clo (l.map rp) a)
  len : C.length ≤ k
theorem ClI.yes {l : List Rc} {k : Nat} {C : List Id} (h : ClI l k C) (hk : k < l.length) (hc : Clo (l.map rp) l[k].1) : ClI l (k + 1) (putL l[k].1 C) := by
  refine ⟨putL_rises _ _ h.rs, fun a => ?_, by have := putL_len l[k].1 C; have := h.len; omega⟩
  rw [putL_mem, h.mem, List.take_add_one, List.getElem?_eq_getElem hk]
  simp only [rids, List.map_append, Option.toList_some, List.map_cons, List.map_nil, List.mem_append, List.mem_singleton]
  constructor
  · rintro (rfl | ⟨h1, h2⟩)
    · exact ⟨.inr rfl, hc⟩
    · exact ⟨.inl h1, h2⟩
  · rintro ⟨h1 | h1, h2⟩
    · exact .inr ⟨h1, h2⟩
    · exact .inl h1
theorem ClI.no {l : List Rc} {k : Nat} {C : List Id} (h : ClI l k C) (hk : k < l.length) (hc : ¬ Clo (l.map rp) l[k].1) : ClI l (k + 1) C := by
  refine ⟨h.rs, fun a => ?_, by have := h.len; omega⟩
  rw [h.mem, List.take_add_one, List.getElem?_eq_getElem hk]
  simp only [rids, List.map_append, Option.toList_some, List.map_cons, List.map_nil, List.mem_append, List.mem_singleton]
  constructor
  · rintro ⟨h1, h2⟩
    exact ⟨.inl h1, h2⟩
  · rintro ⟨h1 | h1, h2⟩
    · exact ⟨h1, h2⟩
    · subst h1; exact absurd h2 hc
def allIn (K R : List Id) (k : Nat) : Bool := (R.take k).all (fun a => decide (a ∈ K))
theorem allIn_step (K R : List Id) (k : Nat) (h : k < R.length) : allIn K R (k + 1) = (allIn K R k && decide (R[k] ∈ K)) := by
  unfold allIn
  rw [List.take_add_one, List.getElem?_eq_getElem h, List.all_append]
  simp
theorem allIn_end {K R : List Id} : allIn K R R.length = true ↔ ∀ a ∈ R, a ∈ K := by
  unfold allIn
  rw [List.take_length, List.all_eq_true]
  simp
set_option maxRecDepth 100000 in
set_option maxHeartbeats 8000000 in
theorem refClosed_any (u : Value) (l : List Rc) (H : Hp) (fr : List HA) (w : World) (h : St H fr w) (hx : Rd H 5 u (recs l)) (hl : ∀ x ∈ l, RcD H x) (hl16 : ∀ x ∈ l, x.2.2.2.2.1.length ≤ 16) (hlen : l.length ≤ 1000) :
    Calls Tryz.prog 22 #[u] w (RClosed l H fr w) := by
  obtain ⟨A, n, c, rfl, hn, hnc, hc⟩ := hx.form
  rw [recs_len] at hn
  obtain rfl : n = l.length := by omega
  clear hn
  have hfin : ∀ (v : Value) (C : List Id) (H' : Hp) (w' : World), ClI l l.length C → Hp.le H H' → St H' (Row 41 2 v (idl C) :: fr) w' → Env w w' → RClosed l H fr w (.returned v) w' := fun v C H' w' h1 h2 h3 h4 => ⟨v, C, H', rfl, h2, h3, h4, h1.rs, fun a => by rw [h1.mem, List.take_length]⟩
  generalize RClosed l H fr w = Q at *
  replace hfin := Lib.hid hfin
  have h1 := h.row_lit 41 2 0 #[] rfl (by decide)
  have en1 := (Env.refl w).alloc (.cells #[] 41)
  clear h
  go_enter Tryz.func22, Tryz.ntmps22
  go_wp2_with fail
  go_loopw [3, 4] (fun s3 s4 wr => ∃ (k : Nat) (C : List Id) (H' : Hp), k ≤ l.length ∧ s4 = .int .i64 (k : Int) ∧ Hp.le H H' ∧ St H' (Row 41 2 s3 (idl C) :: fr) wr ∧ Env w wr ∧ Hid (ClI l k C)) (fun _ s4 _ => l.length - (intOf s4).toNat)
  case atStart => exact ⟨0, [], H, by omega, by go_num, Hp.le_refl _, h1, en1, Lib.hid ⟨List.Pairwise.nil, by simp [rids], by simp⟩⟩
  case round =>
    clear h1 en1
    obtain ⟨k, C, H1, hk, rfl, l1, hst, hen, HC⟩ := hrel
    have hCl := HC.out.len
    obtain ⟨cA, cn, cc, rfl, hcn, hcnc, _⟩ := hst.row_form
    by_cases hlt : k < l.length
    · obtain ⟨b, off, hA, hcr⟩ := rd_at (hx.mono l1) (by omega)
      cases hA
      obtain ⟨p0, p1, -, -, -⟩ := recs_get l k hlt
      replace p0 := hcr _ _ p0
      replace p1 := hcr _ _ p1
      rw [← Nat.add_assoc] at p1
      clear hcr
      have hyes := Lib.hid (HC.out.yes hlt)
      have hno := Lib.hid (HC.out.no hlt)
      generalize l[k].1 = x at *
      have h2 := hst.row_lit 41 2 1 #[.int .i64 x.1, .int .i64 x.2] rfl (by decide)
      have en2 := hen.alloc (.cells #[.int .i64 x.1, .int .i64 x.2] 41)
      obtain ⟨H2, l2, h3, hrd⟩ := h2.row_keep
      replace hrd : Rd H2 2 _ (idl [x]) := hrd
      have l12 := Hp.le_trans l1 l2
      have hF := Lib.hid (refFrom_any _ _ l [x] H2 _ _ h3 (hx.mono l12) (fun y hy => (hl y hy).mono l12) hl16 hlen hrd (by simp))
      have q0 := hst.cell p0
      have q1 := hst.cell p1
      have ql := World.block_lt_of_cell? _ _ q0
      have hk1 := Lib.hid (show k + 1 ≤ l.length by omega)
      clear h2 hst hen HC
      obtain ⟨x0, x1⟩ := x
      simp only at q0 q1 p0 p1 hF en2 h3
      go_wp2_with fail
      refine hF.out.mono ?_
      rintro e w3 ⟨v3, R, H3, rfl, l3, h4, en4, hrR, hrs, hrm⟩
      replace en4 := en2.trans en4
      obtain ⟨oA, on, oc, rfl, hon, honc, _⟩ := hrR.form
      rw [idl_len] at hon
      obtain rfl : on = R.length := by omega
      have hRl : R.length ≤ 17000 := by
        have h1 := sub_len16 R (allU (l.map rp) [(x0, x1)]) (rises_nodup hrs) (fun a ha => rch_allU ((hrm a).1 ha))
        have h2 := allU_len (l.map rp) [(x0, x1)] (fun x hx => by obtain ⟨y, hy, rfl⟩ := List.mem_map.1 hx; exact hl16 y hy)
        rw [List.length_map] at h2
        simp only [List.length_cons, List.length_nil] at h2
        omega
      have hclo : Hid (allIn (rids l) R R.length = true ↔ Clo (l.map rp) (x0, x1)) := Lib.hid (by
        rw [allIn_end]
        unfold Clo
        rw [pids_rp]
        exact ⟨fun h b hb => h b ((hrm b).2 hb), fun h b hb => h b ((hrm b).1 hb)⟩)
      have l13 := Hp.le_trans l12 l3
      clear hF h3 en2 q0 q1 ql hon hrs hrm hrd
      go_wp2_with fail
      go_loopw [6, 7] (fun s6 s7 wr => ∃ j : Nat, j ≤ R.length ∧ s7 = .int .i64 (j : Int) ∧ s6 = .bool (allIn (rids l) R j) ∧ St H3 (Row 41 2 (.slice cA cn cc) (idl C) :: fr) wr ∧ Env w wr) (fun _ s7 _ => R.length - (intOf s7).toNat)
      case atStart => exact ⟨0, by omega, by go_num, rfl, h4, en4⟩
      case round =>
        clear h4 en4
        obtain ⟨j, hj, rfl, rfl, hst, hen⟩ := hrel
        by_cases hjl : j < R.length
        · obtain ⟨b2, off2, hA, hcr⟩ := (hrR.rw hst).cells (by omega)
          cases hA
          have q0 := hcr _ _ (idl_fst R j hjl)
          have q1 := hcr _ _ (idl_snd R j hjl)
          rw [← Nat.add_assoc] at q1
          clear hcr
          have hstep := allIn_step (rids l) R j hjl
          have ql := World.block_lt_of_cell? _ _ q0
          generalize R[j] = z at *
          have hFp := findAt_pos z (rids l) 0 (by omega)
          have hFd := find_any _ l z wr ((hx.mono l13).rw hst)
          obtain ⟨F, hFF⟩ : ∃ F, findAt z (rids l) 0 = F := ⟨_, rfl⟩
          rw [hFF] at hFp hFd
          clear hFF
          have hFB : decide (z ∈ rids l) = decide (0 ≤ F) := by rw [decide_eq_decide]; exact hFp.symm
          rw [hFB] at hstep
          replace hFd := Lib.hid hFd
          have hj1 := Lib.hid (show j + 1 ≤ R.length by omega)
          clear hFp hFB
          obtain ⟨z0, z1⟩ := z
          simp only at q0 q1
          cases hB : allIn (rids l) R j with
          | true =>
            rw [hB, Bool.true_and] at hstep
            replace hstep := Lib.hid hstep
            clear hB
            go_wp2_with fail
            refine hFd.out.mono ?_
            rintro e w5 ⟨rfl, hb5⟩
            have h5 := hst.below hb5
            have en5 := hen.trans (bel_env hb5)
            go_wp2_with fail
            go_roundw
            case rel => exact ⟨j + 1, hj1.out, by go_num, by rw [hstep.out], h5, en5⟩
            case measure => simp [intOf]; omega
          | false =>
            rw [hB, Bool.false_and] at hstep
            replace hstep := Lib.hid hstep
            clear hB
            go_wp2_with fail
            go_roundw
            case rel => exact ⟨j + 1, hj1.out, by go_num, by rw [hstep.out], hst, hen⟩
            case measure => simp [intOf]; omega
        · obtain rfl : j = R.length := by omega
          cases hB : allIn (rids l) R R.length with
          | true =>
            have hC2 := Lib.hid (hyes.out (hclo.out.1 hB))
            have p0' := hst.cell (Hp.cell_le (Hp.le_trans l2 l3) p0)
            have p1' := hst.cell (Hp.cell_le (Hp.le_trans l2 l3) p1)
            have pl' := World.block_lt_of_cell? _ _ p0'
            have hP := Lib.hid (put_own _ C (x0, x1) _ _ _ hst (by omega))
            clear hB hyes hno
            go_wp2_with fail
            refine hP.out.mono ?_
            rintro e w5 ⟨v5, rfl, h5, en5⟩
            replace en5 := hen.trans en5
            go_wp2_with fail
            go_roundw
            case rel => exact ⟨k + 1, _, H3, hk1.out, by go_num, l13, h5, en5, hC2⟩
            case measure => simp [intOf]; omega
          | false =>
            have hC2 := Lib.hid (hno.out (fun h => by have := hclo.out.2 h; rw [hB] at this; cases this))
            clear hB hyes hno
            go_wp2_with fail
            go_roundw
            case rel => exact ⟨k + 1, C, H3, hk1.out, by go_num, l13, hst, hen, hC2⟩
            case measure => simp [intOf]; omega
    · obtain rfl : k = l.length := by omega
      have hz := Lib.hid (hfin.out _ C H1 wr HC.out l1 hst hen)
      go_wp2_with fail
      exact hz.out
end Go.Proofs.YtcbckeoalmjcoaaGreat
