/- Law 16: ReachCloses. -/
import Derived.Test.YtelmhcbdpimaaaaReachWorks
set_option linter.unusedVariables false
set_option linter.unusedSimpArgs false
namespace Go.Proofs.Ytelmhcbdpimaaaa
open Go.RowKit Go.Cw Go.Fl
attribute [local go_sem ↓] eql_id neq_id
theorem closed_one {L l : List Rc} (hm : L.map rp = l.map rp) (hn : (rids L).Nodup) {C C2 : List Id} (hr : Rises C) (h : ∀ a, a ∈ C ↔ (a ∈ rids L ∧ ¬ Opn L a)) (hr2 : Rises C2) (h2 : ∀ a, a ∈ C2 ↔ (a ∈ rids l ∧ Clo (l.map rp) a)) : C = C2 :=
  rises_eq hr hr2 (fun a => by
    have e : rids L = rids l := by rw [rids_rp, rids_rp, hm]
    rw [h, h2, e]
    constructor
    · rintro ⟨h1, h3⟩
      refine ⟨h1, ?_⟩
      apply Classical.byContradiction
      intro h4
      exact h3 ((opn_iff hn (by rw [e]; exact h1)).2 (by rw [hm]; exact h4))
    · rintro ⟨h1, h3⟩
      exact ⟨h1, fun h4 => (opn_iff hn (by rw [e]; exact h1)).1 h4 (by rw [hm]; exact h3)⟩)
theorem closed_whole {l : List Rc} {C : List Id} (h : ∀ a, a ∈ C ↔ (a ∈ rids l ∧ Clo (l.map rp) a)) {a : Id} (ha : Rch (dpsR (l.map rp)) C a) : a ∈ rids l ∧ a ∈ C := by
  have : a ∈ C := ha.closed (P := fun a => a ∈ C) (fun a h => h) (fun x hx b hb => by
    obtain ⟨h1, h2⟩ := (h x).1 hx
    have hb1 : b ∈ pids (l.map rp) := h2 b (.step (.base (by simp)) hb)
    refine (h b).2 ⟨by rw [pids_rp] at hb1; exact hb1, fun y hy => ?_⟩
    exact h2 y (hy.trans (fun q hq => by rw [List.mem_singleton] at hq; subst hq; exact .step (.base (by simp)) hb)))
  exact ⟨((h a).1 this).1, this⟩
theorem whole_closed {l : List Rc} {S C : List Id} (h : ∀ a, a ∈ C ↔ (a ∈ rids l ∧ Clo (l.map rp) a)) (hw : ∀ a, Rch (dpsR (l.map rp)) S a → a ∈ rids l ∧ a ∈ S) {a : Id} (ha : a ∈ S) : a ∈ C :=
  (h a).2 ⟨(hw a (.base ha)).1, fun b hb => by
    rw [pids_rp]
    exact (hw b (hb.trans (fun q hq => by rw [List.mem_singleton] at hq; subst hq; exact .base ha))).1⟩
theorem recOf_nil (H : Hp) : RecOf (.pointer none) Emp (fun _ => []) H := fun x H' fr w hl h => (grRecord_nil x w).mono (by
  rintro e w' ⟨rfl, hb⟩
  exact ⟨H', zeroRc, false, Hp.le_refl _, h.below hb, bel_env hb, rfl, ⟨Rd.nil _ _, Rd.nil _ _, fun c hc => by simp at hc⟩, rfl⟩)
theorem rch_nil {a : Id} (h : Rch (fun _ => []) [] a) : False := h.closed (P := fun _ => False) (by simp) (fun _ h => h.elim)
open Classical in
set_option maxRecDepth 100000 in
set_option maxHeartbeats 40000000 in
theorem reachCloses_any (u v : Value) (l : List Rc) (f : List Id) (w : World) (hx : Rw w 5 u (recs l)) (hl : ∀ x ∈ l, RcR w x) (hv : Rw w 2 v (idl f)) :
    Calls Try.prog 6 #[u, v] w fun e w' => e = .returned (.bool true) ∧ Below w.heap.size w w' := by
  obtain ⟨A, n, c, rfl, hn, hnc, hc⟩ := hx.form
  rw [recs_len] at hn
  obtain rfl : n = l.length := by omega
  obtain ⟨A2, n2, c2, rfl, hn2, hnc2, hc2⟩ := hv.form
  rw [idl_len] at hn2
  obtain rfl : n2 = f.length := by omega
  clear hn hn2
  have hrd := hx.rd
  have hvd := hv.rd
  have hld : Hid (∀ x ∈ l, RcD (snap w) x) := Lib.hid (fun x hm => ⟨(hl x hm).d.rd, (hl x hm).b.rd, (hl x hm).ok⟩)
  obtain ⟨H1, hH1⟩ : ∃ H1, H1 = snap w := ⟨_, rfl⟩
  have h1 : St H1 [] w := by rw [hH1]; exact St.start w
  have l1 : Hp.le (snap w) H1 := by rw [hH1]; exact Hp.le_refl _
  have en1 := Env.refl w
  have hFew := few15_any (.slice A l.length c) l 20 _ ((hrd.mono l1).rw h1) (fun x hm => ((hld.out x hm).mono l1).rw h1)
  obtain ⟨B, hB⟩ : ∃ B, (fewR l && decide ((l.length : Int) ≤ 20)) = B := ⟨_, rfl⟩
  rw [hB] at hFew
  replace hFew := Lib.hid hFew
  have hck := Lib.hid (fun (w' : World) (h' : St H1 [] w') => refGr_any (.slice A l.length c) l w' ((hrd.mono l1).rw h') (fun x hm => ((hld.out x hm).mono l1).rw h'))
  clear hx hl hv hH1
  have hwk : ∀ (H' : Hp) (l' : List HA) (w' w'' : World), Hp.le (snap w) H' → St H' l' w' → Env w w' → Below w'.heap.size w' w'' → Hid (Below w.heap.size w w'') := fun H' l' w' w'' hl h en hb => Lib.hid ((h.weaken hl |>.below hb).toBelow (en.trans (bel_env hb)))
  go_enter Try.func6, Try.ntmps6
  go_wp2_with fail
  refine hFew.out.mono ?_
  rintro e w2 ⟨rfl, hb2⟩
  have h2 := h1.below hb2
  have en2 := en1.trans (bel_env hb2)
  clear hFew
  have work : ∀ (w' : World), St H1 [] w' → Env w w' → Calls Try.prog 30 #[] w' fun e w'' => e = .returned (.bool true) ∧ Hid (Below w.heap.size w w'') := fun w' h' en => (works16 w').mono (by
    rintro e w'' ⟨rfl, hb⟩
    exact ⟨rfl, hwk H1 [] w' w'' l1 h' en hb⟩)
  replace work := Lib.hid work
  cases B with
  | false =>
    go_wp2_with fail
    refine (work.out _ h2 en2).mono ?_
    rintro e w3 ⟨rfl, hz⟩
    go_wp2_with fail
    go_ret
    exact ⟨rfl, hz.out⟩
  | true =>
    have hl20 : l.length ≤ 20 := by
      rw [Bool.and_eq_true, decide_eq_true_eq] at hB
      omega
    by_cases hf20 : (20 : Int) < (f.length : Int)
    · go_wp2_with fail
      refine (work.out _ h2 en2).mono ?_
      rintro e w3 ⟨rfl, hz⟩
      go_wp2_with fail
      go_ret
      exact ⟨rfl, hz.out⟩
    · have hf20' : f.length ≤ 20 := by omega
      go_wp2_with fail
      refine (hck.out _ h2).mono ?_
      rintro e w3 ⟨rfl, hb3⟩
      have h3 := h2.below hb3
      have en3 := en2.trans (bel_env hb3)
      by_cases hE : gErr [] (l.map rp) = 0
      · have hok : ∀ x ∈ l, recErr (rp x) = 0 := fun x hm => gErr_zero _ _ hE (rp x) (List.mem_map.2 ⟨x, hm, rfl⟩)
        have hl16 : ∀ x ∈ l, x.2.2.2.2.1.length ≤ 16 := fun x hm => (recErr_len _ (hok x hm)).1
        have hN := Lib.hid ((newGr_any (.slice A l.length c) l w3 ((hrd.mono l1).rw h3) (fun x hm => ((hld.out x hm).mono l1).rw h3) (by omega)).mono (fun e w' h => NewR.ok h (by rw [List.length_map]; omega)))
        rw [hE]
        go_wp2_with fail
        refine hN.out.mono ?_
        rintro e w4 (⟨_, p, L, H, hle, h4, hg, hLm, en4, rfl⟩ | ⟨hno, _⟩)
        case inr => exact absurd hE hno
        have hlen : L.length = l.length := by have := congrArg List.length hLm; simpa using this
        have l1H : Hp.le H1 H := Hp.le_trans (fun k o hk => h3.imm k o hk) hle
        replace en4 := en3.trans en4
        have hde : dpsR (L.map rp) = dpsR (l.map rp) := by rw [hLm]
        have l0H := Hp.le_trans l1 l1H
        have hrd2 := hrd.mono l0H
        have hvd2 := hvd.mono l0H
        have hldH : Hid (∀ x ∈ l, RcD H x) := Lib.hid (fun x hm => (hld.out x hm).mono l0H)
        have hCl := closed_any p L H [] w4 h4 hg (by omega)
        have hnd := gr_nodup h4
        have hrids : rids L = rids l := by rw [rids_rp, rids_rp, hLm]
        have hRC := fun (Hc : Hp) (fr : List HA) (w' : World) (hl : Hp.le H Hc) (h' : St Hc fr w') => refClosed_any (.slice A l.length c) l Hc fr w' h' (hrd2.mono hl) (fun x hm => (hldH.out x hm).mono hl) hl16 (by omega)
        have hRW := fun (Hc : Hp) (fr : List HA) (w' : World) (hl : Hp.le H Hc) (h' : St Hc fr w') => refWhole_any (.slice A l.length c) (.slice A2 f.length c2) l f Hc fr w' h' (hrd2.mono hl) (fun x hm => (hldH.out x hm).mono hl) hl16 (by omega) (hvd2.mono hl) (by omega)
        have hWh := fun (sv : Value) (src : List Id) (Hc : Hp) (fr : List HA) (w' : World) (hl : Hp.le H Hc) (h' : St Hc (GrA p L :: fr) w') (hs : Rd Hc 2 sv (idl src)) (hsl : src.length ≤ 1000) => whole_any (some ⟨p, 0, none⟩) (GrA p L) (dpsR (L.map rp)) src (fun a => decide (a ∈ rids L)) (allU (L.map rp) src) sv Hc fr w' h' (fun x hx => rch_allU hx) (allU_bound hg (by omega) _ (by omega)) (by omega) (dps16 hg) (recOf_gr (hg.mono hl)) hs (fun x H' fr w hl2 h => grHas_any p L x H' fr w (fun y hy => ((hg.mono hl).mono hl2).d y hy) h)
        rw [hde, hrids] at hWh
        simp only [decide_eq_true_eq] at hWh
        replace hCl := Lib.hid hCl
        replace hRC := Lib.hid hRC
        replace hRW := Lib.hid hRW
        replace hWh := Lib.hid hWh
        clear hN hck hld hrd hvd h3 en3 hb3 hb2 h2 en2 hE hok hB h1 en1
        go_wp2_with fail
        refine hCl.out.mono ?_
        rintro e w5 ⟨cv, C, H5, rfl, l5, h5, en5, hrs, hrm⟩
        obtain ⟨cv1, cv2, cv3, rfl, hcv, _⟩ := h5.row_form
        rw [idl_len] at hcv
        obtain rfl : cv2 = C.length := by omega
        obtain ⟨H6, l6, h6, hcd⟩ := h5.row_keep
        replace en5 := en4.trans en5
        have l56 := Hp.le_trans l5 l6
        go_wp2_with fail
        refine (hRC.out H6 _ w5 l56 h6).mono ?_
        rintro e w6 ⟨rv, C2, H7, rfl, l7, h7, en7, hrs2, hrm2⟩
        obtain ⟨rv1, rv2, rv3, rfl, _⟩ := h7.row_form
        obtain rfl : C = C2 := closed_one hLm hnd hrs hrm hrs2 hrm2
        obtain ⟨H8, l8, h8, hr2⟩ := h7.row_keep
        replace en7 := en5.trans en7
        have l58 := Hp.le_trans l56 (Hp.le_trans l7 l8)
        have hcl : C.length ≤ 1000 := by
          have := sub_len16 C (rids l) (rises_nodup hrs) (fun a ha => ((hrm2 a).1 ha).1)
          rw [List.length_map] at this
          omega
        replace hcd := hcd.mono (Hp.le_trans l7 l8)
        have hS := sameIds_any _ _ C C _ (hcd.rw h8) (hr2.rw h8)
        rw [decide_eq_true rfl] at hS
        replace hS := Lib.hid hS
        replace hrm2 := Lib.hid hrm2
        clear hCl h5 h6 hr2 hrs hrm hrs2 en5 h4 en4 h7
        go_wp2_with fail
        refine hS.out.mono ?_
        rintro e w8 ⟨rfl, hb8⟩
        have h9 := h8.below hb8
        have en9 := en7.trans (bel_env hb8)
        have hW1 := hWh.out (.slice cv1 C.length cv3) C H8 [] w8 l58 h9 hcd (by omega)
        rw [decide_eq_true (fun a ha => closed_whole hrm2.out ha)] at hW1
        replace hW1 := Lib.hid hW1
        clear hS h8 en7 hb8
        go_wp2_with fail
        refine hW1.out.mono ?_
        rintro e w10 ⟨H10, rfl, l10, h10, en10⟩
        replace en10 := en9.trans en10
        have l510 := Hp.le_trans l58 l10
        have hW2 := hWh.out (.slice A2 f.length c2) f H10 [] w10 l510 h10 (hvd2.mono l510) (by omega)
        have hRW2 := hRW.out
        have hall : (decide (∀ a, Rch (dpsR (l.map rp)) f a → a ∈ rids l ∧ a ∈ f)) = true → ∀ a ∈ f, a ∈ C := fun h a ha => whole_closed hrm2.out (of_decide_eq_true h) ha
        generalize decide (∀ a, Rch (dpsR (l.map rp)) f a → a ∈ rids l ∧ a ∈ f) = B at hW2 hRW2 hall
        replace hW2 := Lib.hid hW2
        replace hRW2 := Lib.hid hRW2
        replace hall := Lib.hid hall
        clear hW1 h9 en9
        go_wp2_with fail
        refine hW2.out.mono ?_
        rintro e w11 ⟨H11, rfl, l11, h11, en11⟩
        replace en11 := en10.trans en11
        have l511 := Hp.le_trans l510 l11
        replace hcd := hcd.mono (Hp.le_trans l10 l11)
        clear hW2 h10 en10
        go_wp2_with fail
        go_loopw [9] (fun s9 wr => ∃ k : Nat, k ≤ f.length ∧ s9 = .int .i64 (k : Int) ∧ St H11 [GrA p L] wr ∧ Env w wr) (fun s9 _ => f.length - (intOf s9).toNat)
        case atStart => exact ⟨0, by omega, by go_num, h11, en11⟩
        case round =>
          clear h11 en11
          obtain ⟨k, hk, rfl, hst, hen⟩ := hrel
          by_cases hlt : k < f.length
          · cases B with
            | true =>
              obtain ⟨fb, fo, hA, hcr⟩ := ((hvd2.mono l511).rw hst).cells (by omega)
              cases hA
              have q0 := hcr _ _ (idl_fst f k hlt)
              have q1 := hcr _ _ (idl_snd f k hlt)
              rw [← Nat.add_assoc] at q1
              clear hcr
              have hxC := hall.out rfl f[k] (List.getElem_mem hlt)
              have ql := World.block_lt_of_cell? _ _ q0
              generalize f[k] = x at *
              have hHs := hasIds_any (.slice cv1 C.length cv3) C x wr (hcd.rw hst)
              rw [decide_eq_true hxC] at hHs
              replace hHs := Lib.hid hHs
              have hk1 := Lib.hid (show k + 1 ≤ f.length by omega)
              clear hxC
              obtain ⟨x0, x1⟩ := x
              simp only at q0 q1
              go_wp2_with fail
              refine hHs.out.mono ?_
              rintro e w12 ⟨rfl, hb12⟩
              have h12 := hst.below hb12
              have en12 := hen.trans (bel_env hb12)
              go_wp2_with fail
              go_roundw
              case rel => exact ⟨k + 1, hk1.out, by go_num, h12, en12⟩
              case measure => simp [intOf]; omega
            | false =>
              have hk1 := Lib.hid (show k + 1 ≤ f.length by omega)
              go_wp2_with fail
              go_roundw
              case rel => exact ⟨k + 1, hk1.out, by go_num, hst, hen⟩
              case measure => simp [intOf]; omega
          · obtain rfl : k = f.length := by omega
            have hRW3 := Lib.hid (hRW2.out H11 _ wr l511 hst)
            have hBB : (B == B) = true := by cases B <;> rfl
            go_wp2_with fail
            refine hRW3.out.mono ?_
            rintro e w12 ⟨H12, rfl, l12, h12, en12⟩
            replace en12 := hen.trans en12
            go_wp2_with fail
            refine (closed_nil w12).mono ?_
            rintro e w13 ⟨rfl, hb13⟩
            have h13 := h12.below hb13
            have en13 := en12.trans (bel_env hb13)
            have hWn := whole_any none Emp (fun _ => []) [] (fun _ => false) [] (.slice none 0 0) H12 _ w13 h13.emp (fun x hx => (rch_nil hx).elim) (by simp) (by simp) (by simp) (recOf_nil H12) (Rd.nil _ _) (fun x H' fr w hl2 h => grHas_nil x w)
            rw [decide_eq_true (fun a ha => (rch_nil ha).elim)] at hWn
            replace hWn := Lib.hid hWn
            go_wp2_with fail
            refine hWn.out.mono ?_
            rintro e w14 ⟨H14, rfl, l14, h14, en14⟩
            replace en14 := en13.trans en14
            have hwz := Lib.hid ((works16 w14).mono (R' := fun e w'' => e = .returned (.bool true) ∧ Hid (Below w.heap.size w w'')) (by
              rintro e w'' ⟨rfl, hb⟩
              exact ⟨rfl, hwk H14 _ w14 w'' (Hp.le_trans l0H (Hp.le_trans l511 (Hp.le_trans l12 l14))) h14 en14 hb⟩))
            go_wp2_with fail
            refine hwz.out.mono ?_
            rintro e w15 ⟨rfl, hz⟩
            go_wp2_with fail
            go_ret
            exact ⟨rfl, hz.out⟩
      · have hE' : (gErr [] (l.map rp) != 0) = true := by simpa using hE
        go_wp2_with fail
        refine (work.out _ h3 en3).mono ?_
        rintro e w4 ⟨rfl, hz⟩
        go_wp2_with fail
        go_ret
        exact ⟨rfl, hz.out⟩
end Go.Proofs.Ytelmhcbdpimaaaa
