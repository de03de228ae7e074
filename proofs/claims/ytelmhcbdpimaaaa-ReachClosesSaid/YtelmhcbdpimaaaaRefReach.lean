/- Reference 16: Whole, Closed. -/
import Derived.Test.YtelmhcbdpimaaaaRefFrom
import Derived.Test.YtelmhcbdpimaaaaReach6
set_option linter.unusedVariables false
set_option linter.unusedSimpArgs false
namespace Go.Proofs.Ytelmhcbdpimaaaa
open Go.RowKit Go.Cw Go.Fl
attribute [local go_sem ↓] eql_id neq_id
/-- What a question tells. -/
def AskF (B : Bool) (H : Hp) (fr : List HA) (w : World) (e : Ending) (w' : World) : Prop := ∃ H', e = .returned (.bool B) ∧ Hp.le H H' ∧ St H' fr w' ∧ Env w w'
open Classical in
set_option maxRecDepth 100000 in
set_option maxHeartbeats 8000000 in
theorem refWhole_any (u v : Value) (l : List Rc) (src : List Id) (H : Hp) (fr : List HA) (w : World) (h : St H fr w) (hx : Rd H 5 u (recs l)) (hl : ∀ x ∈ l, RcD H x) (hl16 : ∀ x ∈ l, x.2.2.2.2.1.length ≤ 16) (hlen : l.length ≤ 1000) (hv : Rd H 2 v (idl src)) (hsl : src.length ≤ 1000) :
    Calls Try.prog 35 #[u, v] w (AskF (decide (∀ a, Rch (dpsR (l.map rp)) src a → a ∈ rids l ∧ a ∈ src)) H fr w) := by
  obtain ⟨A, n, c, rfl, hn, hnc, hc⟩ := hx.form
  rw [recs_len] at hn
  obtain rfl : n = l.length := by omega
  obtain ⟨vA, vn, vc, rfl, hvn, hvnc, _⟩ := hv.form
  rw [idl_len] at hvn
  obtain rfl : vn = src.length := by omega
  clear hn hvn
  have hF := Lib.hid (refFrom_any _ _ l src H fr w h hx hl hl16 hlen hv hsl)
  have hfin : ∀ (B : Bool) (H' : Hp) (w' : World), (B = true ↔ ∀ a, Rch (dpsR (l.map rp)) src a → a ∈ rids l ∧ a ∈ src) → Hp.le H H' → St H' fr w' → Env w w' → AskF (decide (∀ a, Rch (dpsR (l.map rp)) src a → a ∈ rids l ∧ a ∈ src)) H fr w (.returned (.bool B)) w' := fun B H' w' h1 h2 h3 h4 => ⟨H', by
    have : B = decide (∀ a, Rch (dpsR (l.map rp)) src a → a ∈ rids l ∧ a ∈ src) := by
      cases B with
      | true => rw [decide_eq_true (h1.1 rfl)]
      | false => rw [decide_eq_false (fun h => by have := h1.2 h; cases this)]
    rw [this], h2, h3, h4⟩
  generalize AskF (decide (∀ a, Rch (dpsR (l.map rp)) src a → a ∈ rids l ∧ a ∈ src)) H fr w = Q at *
  replace hfin := Lib.hid hfin
  go_enter Try.func35, Try.ntmps35
  go_wp2_with fail
  refine hF.out.mono ?_
  rintro e w1 ⟨v1, R, H1, rfl, l1, h1, en1, hr1, hrs, hrm⟩
  obtain ⟨oA, on, oc, rfl, hon, honc, _⟩ := hr1.form
  rw [idl_len] at hon
  obtain rfl : on = R.length := by omega
  have hRl : R.length ≤ 17000 := by
    have h1 := sub_len16 R (allU (l.map rp) src) (rises_nodup hrs) (fun a ha => rch_allU ((hrm a).1 ha))
    have h2 := allU_len (l.map rp) src (fun x hx => by obtain ⟨y, hy, rfl⟩ := List.mem_map.1 hx; exact hl16 y hy)
    rw [List.length_map] at h2
    omega
  replace hrm := Lib.hid hrm
  clear hF hon hrs h
  go_wp2_with fail
  go_loopw [6] (fun s6 wr => ∃ k : Nat, k ≤ R.length ∧ s6 = .int .i64 (k : Int) ∧ St H1 fr wr ∧ Env w wr ∧ Hid (∀ a ∈ R.take k, a ∈ rids l ∧ a ∈ src)) (fun s6 _ => R.length - (intOf s6).toNat)
  case atStart => exact ⟨0, by omega, by go_num, h1, en1, Lib.hid (by simp)⟩
  case round =>
    clear h1 en1
    obtain ⟨k, hk, rfl, hst, hen, HA⟩ := hrel
    by_cases hlt : k < R.length
    · obtain ⟨b, off, hA, hcr⟩ := (hr1.rw hst).cells (by omega)
      cases hA
      have q0 := hcr _ _ (idl_fst R k hlt)
      have q1 := hcr _ _ (idl_snd R k hlt)
      rw [← Nat.add_assoc] at q1
      clear hcr
      have hnext : Hid ((R[k] ∈ rids l ∧ R[k] ∈ src) → ∀ a ∈ R.take (k + 1), a ∈ rids l ∧ a ∈ src) := Lib.hid (fun h2 a ha => by
        rw [List.take_add_one, List.getElem?_eq_getElem hlt] at ha
        rcases List.mem_append.1 ha with h1 | h1
        · exact HA.out a h1
        · simp only [Option.toList_some, List.mem_singleton] at h1
          rw [h1]; exact h2)
      have hrx : Hid (Rch (dpsR (l.map rp)) src R[k]) := Lib.hid ((hrm.out _).1 (List.getElem_mem hlt))
      have ql := World.block_lt_of_cell? _ _ q0
      generalize R[k] = x at *
      have hFp := findAt_pos x (rids l) 0 (by omega)
      have hFd := find_any (.slice A l.length c) l x wr ((hx.mono l1).rw hst)
      obtain ⟨F, hFF⟩ : ∃ F, findAt x (rids l) 0 = F := ⟨_, rfl⟩
      rw [hFF] at hFp hFd
      clear hFF
      have hHs := fun (w' : World) (h' : St H1 fr w') => hasIds_any (.slice vA src.length vc) src x w' ((hv.mono l1).rw h')
      replace hFd := Lib.hid hFd
      have hFp' : Hid (0 ≤ F ↔ x ∈ rids l) := Lib.hid hFp
      have hk1 := Lib.hid (show k + 1 ≤ R.length by omega)
      by_cases hin : x ∈ rids l
      · have hF0 : ¬ F < 0 := by have := hFp.2 hin; omega
        replace hin := Lib.hid hin
        by_cases hsr : x ∈ src
        · rw [decide_eq_true hsr] at hHs
          replace hHs := Lib.hid hHs
          have HA2 := Lib.hid (hnext.out ⟨hin.out, hsr⟩)
          clear hsr hFp hnext HA
          obtain ⟨x0, x1⟩ := x
          simp only at q0 q1
          go_wp2_with fail
          refine hFd.out.mono ?_
          rintro e w3 ⟨rfl, hb3⟩
          have h3 := hst.below hb3
          have en3 := hen.trans (bel_env hb3)
          have q0' := (hb3.cell (p := ⟨b, off + k * 2, none⟩) ql).trans q0
          have q1' := (hb3.cell (p := ⟨b, off + k * 2 + 1, none⟩) ql).trans q1
          have ql' := World.block_lt_of_cell? _ _ q0'
          clear q0 q1 ql hst hen
          go_wp2_with fail
          refine (hHs.out _ h3).mono ?_
          rintro e w4 ⟨rfl, hb4⟩
          have h4 := h3.below hb4
          have en4 := en3.trans (bel_env hb4)
          go_wp2_with fail
          go_roundw
          case rel => exact ⟨k + 1, hk1.out, by go_num, h4, en4, HA2⟩
          case measure => simp [intOf]; omega
        · rw [decide_eq_false hsr] at hHs
          replace hHs := Lib.hid hHs
          have hno : Hid (false = true ↔ ∀ a, Rch (dpsR (l.map rp)) src a → a ∈ rids l ∧ a ∈ src) := Lib.hid (by
            constructor
            · intro h; cases h
            · intro h; exact absurd (h x hrx.out).2 hsr)
          clear hsr hFp hnext HA
          obtain ⟨x0, x1⟩ := x
          simp only at q0 q1
          go_wp2_with fail
          refine hFd.out.mono ?_
          rintro e w3 ⟨rfl, hb3⟩
          have h3 := hst.below hb3
          have en3 := hen.trans (bel_env hb3)
          have q0' := (hb3.cell (p := ⟨b, off + k * 2, none⟩) ql).trans q0
          have q1' := (hb3.cell (p := ⟨b, off + k * 2 + 1, none⟩) ql).trans q1
          have ql' := World.block_lt_of_cell? _ _ q0'
          clear q0 q1 ql hst hen
          go_wp2_with fail
          refine (hHs.out _ h3).mono ?_
          rintro e w4 ⟨rfl, hb4⟩
          have h4 := h3.below hb4
          have hz := Lib.hid (hfin.out false H1 w4 hno.out l1 h4 (en3.trans (bel_env hb4)))
          go_wp2_with fail
          exact hz.out
      · have hF0 : F < 0 := by
          apply Classical.byContradiction
          intro h
          exact hin (hFp.1 (by omega))
        have hno : Hid (false = true ↔ ∀ a, Rch (dpsR (l.map rp)) src a → a ∈ rids l ∧ a ∈ src) := Lib.hid (by
          constructor
          · intro h; cases h
          · intro h; exact absurd (h x hrx.out).1 hin)
        clear hin hFp hnext HA
        obtain ⟨x0, x1⟩ := x
        simp only at q0 q1
        go_wp2_with fail
        refine hFd.out.mono ?_
        rintro e w3 ⟨rfl, hb3⟩
        have h3 := hst.below hb3
        have hz := Lib.hid (hfin.out false H1 w3 hno.out l1 h3 (hen.trans (bel_env hb3)))
        go_wp2_with fail
        exact hz.out
    · obtain rfl : k = R.length := by omega
      have hz := Lib.hid (hfin.out true H1 wr (by
        simp only [true_iff]
        intro a ha
        exact HA.out a (by rw [List.take_length]; exact (hrm.out a).2 ha)) l1 hst hen)
      go_wp2_with fail
      exact hz.out
/-- What the reference's Closed tells. -/
def RClosed (l : List Rc) (H : Hp) (fr : List HA) (w : World) (e : Ending) (w' : World) : Prop :=
  ∃ (v : Value) (C : List Id) (H' : Hp), e = .returned v ∧ Hp.le H H' ∧ St H' (Row 28 2 v (idl C) :: fr) w' ∧ Env w w' ∧ Rises C ∧ ∀ a, a ∈ C ↔ (a ∈ rids l ∧ Clo (l.map rp) a)
structure ClI (l : List Rc) (k : Nat) (C : List Id) : Prop where
  rs : Rises C
  mem : ∀ a, a ∈ C ↔ (a ∈ rids (l.take k) ∧ Clo (l.map rp) a)
  len : C.length ≤ k
theorem ClI.yes {l : List Rc} {k : Nat} {C : List Id} (h : ClI l k C) (hk : k < l.length) (hc : Clo (l.map rp) l[k].1) : ClI l (k + 1) (putL l[k].1 C) := by
  refine ⟨putL_rises _ _ h.rs, fun a => ?_, by have := putL_len l[k].1 C; have := h.len; omega⟩
  rw [putL_mem, h.mem, List.take_add_one, List.getElem?_eq_getElem hk]
  simp only [rids, List.map_append, Option.toList_some, List.map_cons, List.map_nil, List.mem_append, List.mem_singleton]
  constructor
  · rintro (rfl | ⟨h1, h2⟩)
    · exact ⟨.inr rfl, hc⟩
    · exact ⟨.inl h1, h2⟩
  · rintro ⟨h1 | h1, h2⟩
    · exact .inr ⟨h1, h2⟩
    · exact .inl h1
theorem ClI.no {l : List Rc} {k : Nat} {C : List Id} (h : ClI l k C) (hk : k < l.length) (hc : ¬ Clo (l.map rp) l[k].1) : ClI l (k + 1) C := by
  refine ⟨h.rs, fun a => ?_, by have := h.len; omega⟩
  rw [h.mem, List.take_add_one, List.getElem?_eq_getElem hk]
  simp only [rids, List.map_append, Option.toList_some, List.map_cons, List.map_nil, List.mem_append, List.mem_singleton]
  constructor
  · rintro ⟨h1, h2⟩
    exact ⟨.inl h1, h2⟩
  · rintro ⟨h1 | h1, h2⟩
    · exact ⟨h1, h2⟩
    · subst h1; exact absurd h2 hc
def allIn (K R : List Id) (k : Nat) : Bool := (R.take k).all (fun a => decide (a ∈ K))
theorem allIn_step (K R : List Id) (k : Nat) (h : k < R.length) : allIn K R (k + 1) = (allIn K R k && decide (R[k] ∈ K)) := by
  unfold allIn
  rw [List.take_add_one, List.getElem?_eq_getElem h, List.all_append]
  simp
theorem allIn_end {K R : List Id} : allIn K R R.length = true ↔ ∀ a ∈ R, a ∈ K := by
  unfold allIn
  rw [List.take_length, List.all_eq_true]
  simp
set_option maxRecDepth 100000 in
set_option maxHeartbeats 8000000 in
theorem refClosed_any (u : Value) (l : List Rc) (H : Hp) (fr : List HA) (w : World) (h : St H fr w) (hx : Rd H 5 u (recs l)) (hl : ∀ x ∈ l, RcD H x) (hl16 : ∀ x ∈ l, x.2.2.2.2.1.length ≤ 16) (hlen : l.length ≤ 1000) :
    Calls Try.prog 22 #[u] w (RClosed l H fr w) := by
  obtain ⟨A, n, c, rfl, hn, hnc, hc⟩ := hx.form
  rw [recs_len] at hn
  obtain rfl : n = l.length := by omega
  clear hn
  have hfin : ∀ (v : Value) (C : List Id) (H' : Hp) (w' : World), ClI l l.length C → Hp.le H H' → St H' (Row 28 2 v (idl C) :: fr) w' → Env w w' → RClosed l H fr w (.returned v) w' := fun v C H' w' h1 h2 h3 h4 => ⟨v, C, H', rfl, h2, h3, h4, h1.rs, fun a => by rw [h1.mem, List.take_length]⟩
  generalize RClosed l H fr w = Q at *
  replace hfin := Lib.hid hfin
  have h1 := h.row_lit 28 2 0 #[] rfl (by decide)
  have en1 := (Env.refl w).alloc (.cells #[] 28)
  clear h
  go_enter Try.func22, Try.ntmps22
  go_wp2_with fail
  go_loopw [3, 4] (fun s3 s4 wr => ∃ (k : Nat) (C : List Id) (H' : Hp), k ≤ l.length ∧ s4 = .int .i64 (k : Int) ∧ Hp.le H H' ∧ St H' (Row 28 2 s3 (idl C) :: fr) wr ∧ Env w wr ∧ Hid (ClI l k C)) (fun _ s4 _ => l.length - (intOf s4).toNat)
  case atStart => exact ⟨0, [], H, by omega, by go_num, Hp.le_refl _, h1, en1, Lib.hid ⟨List.Pairwise.nil, by simp [rids], by simp⟩⟩
  case round =>
    clear h1 en1
    obtain ⟨k, C, H1, hk, rfl, l1, hst, hen, HC⟩ := hrel
    have hCl := HC.out.len
    obtain ⟨cA, cn, cc, rfl, hcn, hcnc, _⟩ := hst.row_form
    by_cases hlt : k < l.length
    · obtain ⟨b, off, hA, hcr⟩ := rd_at (hx.mono l1) (by omega)
      cases hA
      obtain ⟨p0, p1, -, -, -⟩ := recs_get l k hlt
      replace p0 := hcr _ _ p0
      replace p1 := hcr _ _ p1
      rw [← Nat.add_assoc] at p1
      clear hcr
      have hyes := Lib.hid (HC.out.yes hlt)
      have hno := Lib.hid (HC.out.no hlt)
      generalize l[k].1 = x at *
      have h2 := hst.row_lit 28 2 1 #[.int .i64 x.1, .int .i64 x.2] rfl (by decide)
      have en2 := hen.alloc (.cells #[.int .i64 x.1, .int .i64 x.2] 28)
      obtain ⟨H2, l2, h3, hrd⟩ := h2.row_keep
      replace hrd : Rd H2 2 _ (idl [x]) := hrd
      have l12 := Hp.le_trans l1 l2
      have hF := Lib.hid (refFrom_any _ _ l [x] H2 _ _ h3 (hx.mono l12) (fun y hy => (hl y hy).mono l12) hl16 hlen hrd (by simp))
      have q0 := hst.cell p0
      have q1 := hst.cell p1
      have ql := World.block_lt_of_cell? _ _ q0
      have hk1 := Lib.hid (show k + 1 ≤ l.length by omega)
      clear h2 hst hen HC
      obtain ⟨x0, x1⟩ := x
      simp only at q0 q1 p0 p1 hF en2 h3
      go_wp2_with fail
      refine hF.out.mono ?_
      rintro e w3 ⟨v3, R, H3, rfl, l3, h4, en4, hrR, hrs, hrm⟩
      replace en4 := en2.trans en4
      obtain ⟨oA, on, oc, rfl, hon, honc, _⟩ := hrR.form
      rw [idl_len] at hon
      obtain rfl : on = R.length := by omega
      have hRl : R.length ≤ 17000 := by
        have h1 := sub_len16 R (allU (l.map rp) [(x0, x1)]) (rises_nodup hrs) (fun a ha => rch_allU ((hrm a).1 ha))
        have h2 := allU_len (l.map rp) [(x0, x1)] (fun x hx => by obtain ⟨y, hy, rfl⟩ := List.mem_map.1 hx; exact hl16 y hy)
        rw [List.length_map] at h2
        simp only [List.length_cons, List.length_nil] at h2
        omega
      have hclo : Hid (allIn (rids l) R R.length = true ↔ Clo (l.map rp) (x0, x1)) := Lib.hid (by
        rw [allIn_end]
        unfold Clo
        rw [pids_rp]
        exact ⟨fun h b hb => h b ((hrm b).2 hb), fun h b hb => h b ((hrm b).1 hb)⟩)
      have l13 := Hp.le_trans l12 l3
      clear hF h3 en2 q0 q1 ql hon hrs hrm hrd
      go_wp2_with fail
      go_loopw [6, 7] (fun s6 s7 wr => ∃ j : Nat, j ≤ R.length ∧ s7 = .int .i64 (j : Int) ∧ s6 = .bool (allIn (rids l) R j) ∧ St H3 (Row 28 2 (.slice cA cn cc) (idl C) :: fr) wr ∧ Env w wr) (fun _ s7 _ => R.length - (intOf s7).toNat)
      case atStart => exact ⟨0, by omega, by go_num, rfl, h4, en4⟩
      case round =>
        clear h4 en4
        obtain ⟨j, hj, rfl, rfl, hst, hen⟩ := hrel
        by_cases hjl : j < R.length
        · obtain ⟨b2, off2, hA, hcr⟩ := (hrR.rw hst).cells (by omega)
          cases hA
          have q0 := hcr _ _ (idl_fst R j hjl)
          have q1 := hcr _ _ (idl_snd R j hjl)
          rw [← Nat.add_assoc] at q1
          clear hcr
          have hstep := allIn_step (rids l) R j hjl
          have ql := World.block_lt_of_cell? _ _ q0
          generalize R[j] = z at *
          have hFp := findAt_pos z (rids l) 0 (by omega)
          have hFd := find_any _ l z wr ((hx.mono l13).rw hst)
          obtain ⟨F, hFF⟩ : ∃ F, findAt z (rids l) 0 = F := ⟨_, rfl⟩
          rw [hFF] at hFp hFd
          clear hFF
          have hFB : decide (z ∈ rids l) = decide (0 ≤ F) := by rw [decide_eq_decide]; exact hFp.symm
          rw [hFB] at hstep
          replace hFd := Lib.hid hFd
          have hj1 := Lib.hid (show j + 1 ≤ R.length by omega)
          clear hFp hFB
          obtain ⟨z0, z1⟩ := z
          simp only at q0 q1
          cases hB : allIn (rids l) R j with
          | true =>
            rw [hB, Bool.true_and] at hstep
            replace hstep := Lib.hid hstep
            clear hB
            go_wp2_with fail
            refine hFd.out.mono ?_
            rintro e w5 ⟨rfl, hb5⟩
            have h5 := hst.below hb5
            have en5 := hen.trans (bel_env hb5)
            go_wp2_with fail
            go_roundw
            case rel => exact ⟨j + 1, hj1.out, by go_num, by rw [hstep.out], h5, en5⟩
            case measure => simp [intOf]; omega
          | false =>
            rw [hB, Bool.false_and] at hstep
            replace hstep := Lib.hid hstep
            clear hB
            go_wp2_with fail
            go_roundw
            case rel => exact ⟨j + 1, hj1.out, by go_num, by rw [hstep.out], hst, hen⟩
            case measure => simp [intOf]; omega
        · obtain rfl : j = R.length := by omega
          cases hB : allIn (rids l) R R.length with
          | true =>
            have hC2 := Lib.hid (hyes.out (hclo.out.1 hB))
            have p0' := hst.cell (Hp.cell_le (Hp.le_trans l2 l3) p0)
            have p1' := hst.cell (Hp.cell_le (Hp.le_trans l2 l3) p1)
            have pl' := World.block_lt_of_cell? _ _ p0'
            have hP := Lib.hid (put_own _ C (x0, x1) _ _ _ hst (by omega))
            clear hB hyes hno
            go_wp2_with fail
            refine hP.out.mono ?_
            rintro e w5 ⟨v5, rfl, h5, en5⟩
            replace en5 := hen.trans en5
            go_wp2_with fail
            go_roundw
            case rel => exact ⟨k + 1, _, H3, hk1.out, by go_num, l13, h5, en5, hC2⟩
            case measure => simp [intOf]; omega
          | false =>
            have hC2 := Lib.hid (hno.out (fun h => by have := hclo.out.2 h; rw [hB] at this; cases this))
            clear hB hyes hno
            go_wp2_with fail
            go_roundw
            case rel => exact ⟨k + 1, C, H3, hk1.out, by go_num, l13, hst, hen, hC2⟩
            case measure => simp [intOf]; omega
    · obtain rfl : k = l.length := by omega
      have hz := Lib.hid (hfin.out _ C H1 wr HC.out l1 hst hen)
      go_wp2_with fail
      exact hz.out
end Go.Proofs.Ytelmhcbdpimaaaa
