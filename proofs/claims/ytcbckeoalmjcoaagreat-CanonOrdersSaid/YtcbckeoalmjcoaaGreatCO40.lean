/- Joined texts: CanonOrders. -/
import Derived.Test.YtcbckeoalmjcoaaGreatCO37
import Derived.Test.YtcbckeoalmjcoaaGreatCO38
import Derived.Test.YtcbckeoalmjcoaaGreatCO39
/- Law 18: CanonOrders. -/
set_option linter.unusedVariables false
set_option linter.unusedSimpArgs false
namespace Go.Proofs.YtcbckeoalmjcoaaGreat
open Go.RowKit Go.Cw Go.Fl
attribute [local go_sem ↓] eql_id neq_id
theorem canon_uniq {l : List Rp} {F G : List (List Id)} (hF : ∃ C, CompsOf l C ∧ F = canonF (dpsR l) C.length C []) (hG : ∃ C, CompsOf l C ∧ G = canonF (dpsR l) C.length C []) : F = G := by
  obtain ⟨C, h1, rfl⟩ := hF
  obtain ⟨C', h2, rfl⟩ := hG
  rw [compsOf_eq h1 h2]
theorem canon_right {l : List Rp} {F : List (List Id)} (hF : ∃ C, CompsOf l C ∧ F = canonF (dpsR l) C.length C []) (k : Nat) : RightOf l (F.take k) := by
  obtain ⟨C, h1, rfl⟩ := hF
  exact ⟨C, h1, rightB_take ((cnStart h1).right rfl).1 k⟩
theorem canon_len {L : List Rc} {F : List (List Id)} (hF : ∃ C, CompsOf (L.map rp) C ∧ F = canonF (dpsR (L.map rp)) C.length C []) : F.length ≤ L.length := by
  obtain ⟨C, hC, rfl⟩ := hF
  rw [← ((cnStart hC).right rfl).2.length_eq]
  have h1 : (C.map hdI).Nodup := kr_nodup hC.hds
  have h2 := sub_len16 _ (rids L) h1 (fun a ha => by
    obtain ⟨c, hc, rfl⟩ := List.mem_map.1 ha
    have := (hC.one c hc).2.2.1.1
    rwa [pids_rp] at this)
  rw [List.length_map, List.length_map] at h2
  exact h2
theorem lists_take (X : List Lv) (k : Nat) : lists (X.take k) = (lists X).take k := by unfold lists; rw [List.map_take]
theorem vals_take (X : List Lv) (k : Nat) : vals (X.take k) = (vals X).take (k * 1) := by unfold vals; rw [List.map_take, Nat.mul_one]
theorem LvOk.take {H : Hp} {X : List Lv} (h : LvOk H X) (k : Nat) : LvOk H (X.take k) := fun x hx => h x (List.mem_of_mem_take hx)
open Classical in
set_option maxRecDepth 100000 in
set_option maxHeartbeats 40000000 in
theorem canonOrders_any (u : Value) (l : List Rc) (w : World) (hx : Rw w 5 u (recs l)) (hl : ∀ x ∈ l, RcR w x) :
    Calls Tryz.prog 7 #[u] w fun e w' => e = .returned (.bool true) ∧ Below w.heap.size w w' := by
  obtain ⟨A, n, c, rfl, hn, hnc, hc⟩ := hx.form
  rw [recs_len] at hn
  obtain rfl : n = l.length := by omega
  clear hn
  have hrd := hx.rd
  have hld : Hid (∀ x ∈ l, RcD (snap w) x) := Lib.hid (fun x hm => ⟨(hl x hm).d.rd, (hl x hm).b.rd, (hl x hm).ok⟩)
  obtain ⟨H1, hH1⟩ : ∃ H1, H1 = snap w := ⟨_, rfl⟩
  have h1 : St H1 [] w := by rw [hH1]; exact St.start w
  have l1 : Hp.le (snap w) H1 := by rw [hH1]; exact Hp.le_refl _
  have en1 := Env.refl w
  have hFew := few15_any (.slice A l.length c) l 12 _ ((hrd.mono l1).rw h1) (fun x hm => ((hld.out x hm).mono l1).rw h1)
  obtain ⟨B, hB⟩ : ∃ B, (fewR l && decide ((l.length : Int) ≤ 12)) = B := ⟨_, rfl⟩
  rw [hB] at hFew
  replace hFew := Lib.hid hFew
  have hck := Lib.hid (fun (w' : World) (h' : St H1 [] w') => refGr_any (.slice A l.length c) l w' ((hrd.mono l1).rw h') (fun x hm => ((hld.out x hm).mono l1).rw h'))
  clear hx hl hH1
  have hwk : ∀ (H' : Hp) (l' : List HA) (w' w'' : World), Hp.le (snap w) H' → St H' l' w' → Env w w' → Below w'.heap.size w' w'' → Hid (Below w.heap.size w w'') := fun H' l' w' w'' hl h en hb => Lib.hid ((h.weaken hl |>.below hb).toBelow (en.trans (bel_env hb)))
  go_enter Tryz.func7, Tryz.ntmps7
  go_wp2_with fail
  refine hFew.out.mono ?_
  rintro e w2 ⟨rfl, hb2⟩
  have h2 := h1.below hb2
  have en2 := en1.trans (bel_env hb2)
  clear hFew
  have work : ∀ (H' : Hp) (fr : List HA) (w' : World), Hp.le (snap w) H' → St H' fr w' → Env w w' → Calls Tryz.prog 23 #[] w' fun e w'' => e = .returned (.bool true) ∧ Hid (Below w.heap.size w w'') := fun H' fr w' hl h' en => (works18 w').mono (by
    rintro e w'' ⟨rfl, hb⟩
    exact ⟨rfl, hwk H' fr w' w'' hl h' en hb⟩)
  replace work := Lib.hid work
  cases B with
  | false =>
    go_wp2_with fail
    refine (work.out H1 _ _ l1 h2 en2).mono ?_
    rintro e w3 ⟨rfl, hz⟩
    go_wp2_with fail
    go_ret
    exact ⟨rfl, hz.out⟩
  | true =>
    have hl20 : l.length ≤ 12 := by
      rw [Bool.and_eq_true, decide_eq_true_eq] at hB
      omega
    go_wp2_with fail
    refine (hck.out _ h2).mono ?_
    rintro e w3 ⟨rfl, hb3⟩
    have h3 := h2.below hb3
    have en3 := en2.trans (bel_env hb3)
    by_cases hE : gErr [] (l.map rp) = 0
    · have hok : ∀ x ∈ l, recErr (rp x) = 0 := fun x hm => gErr_zero _ _ hE (rp x) (List.mem_map.2 ⟨x, hm, rfl⟩)
      have hl16 : ∀ x ∈ l, x.2.2.2.2.1.length ≤ 16 := fun x hm => (recErr_len _ (hok x hm)).1
      have hN := Lib.hid ((newGr_any (.slice A l.length c) l w3 ((hrd.mono l1).rw h3) (fun x hm => ((hld.out x hm).mono l1).rw h3) (by omega)).mono (fun e w' h => NewR.ok h (by rw [List.length_map]; omega)))
      rw [hE]
      go_wp2_with fail
      refine hN.out.mono ?_
      rintro e w4 (⟨_, p, L, H, hle, h4, hg, hLm, en4, rfl⟩ | ⟨hno, _⟩)
      case inr => exact absurd hE hno
      have hlen : L.length = l.length := by have := congrArg List.length hLm; simpa using this
      have l1H : Hp.le H1 H := Hp.le_trans (fun k o hk => h3.imm k o hk) hle
      replace en4 := en3.trans en4
      have l0H := Hp.le_trans l1 l1H
      have hrd2 := hrd.mono l0H
      have hldH : Hid (∀ x ∈ l, RcD H x) := Lib.hid (fun x hm => (hld.out x hm).mono l0H)
      have hCo := canOrder_any p L H [] w4 h4 hg (by omega)
      have hRO := fun (Hc : Hp) (fr : List HA) (w' : World) (hl : Hp.le H Hc) (h' : St Hc fr w') => refOrder_any (.slice A l.length c) l Hc fr w' h' (hrd2.mono hl) (fun x hx => (hldH.out x hx).mono hl) hl16 (by omega)
      have hRi := Lib.hid (fun (v : Value) (X : List Lv) (Hc : Hp) (fr : List HA) (w' : World) (hl : Hp.le H Hc) (h' : St Hc (GrA p L :: fr) w') (hv : Rd Hc 1 v (vals X)) (hX : LvOk Hc X) => canRight_any p L v X Hc fr w' h' (hg.mono hl) (by omega) hv hX)
      rw [hLm] at hRi
      replace hCo := Lib.hid hCo
      replace hRO := Lib.hid hRO
      clear hN hck hld hrd h3 en3 hb3 hb2 h2 en2 hE hok hB h1 en1
      go_wp2_with fail
      refine hCo.out.mono ?_
      rintro e w5 ⟨cv, X, H5, rfl, l5, h5, en5, hX, hco⟩
      have hXl := canon_len hco
      rw [lists_len16] at hXl
      rw [hLm] at hco
      obtain ⟨cv1, cv2, cv3, rfl, hcv, _⟩ := h5.row_form
      rw [vals_len] at hcv
      obtain rfl : cv2 = X.length := by omega
      obtain ⟨H6, l6, h6, hXr⟩ := h5.row_keep
      replace en5 := en4.trans en5
      have hX6 := Lib.hid (hX.mono l6)
      have l56 := Hp.le_trans l5 l6
      replace hco := Lib.hid hco
      clear hCo h5 en4 h4 hX hcv
      go_wp2_with fail
      refine (hRO.out H6 _ w5 l56 h6).mono ?_
      rintro e w6 ⟨rv, Y, H7, rfl, l7, h7, en7, hY, hcy⟩
      obtain ⟨rv1, rv2, rv3, rfl, _⟩ := h7.row_form
      obtain ⟨H8, l8, h8, hYr⟩ := h7.row_keep
      replace en7 := en5.trans en7
      have l78 := Hp.le_trans l7 l8
      have hEq : lists X = lists Y := canon_uniq hco.out hcy
      have hSa := Lib.hid (ref17Same_any (.slice cv1 X.length cv3) (.slice rv1 rv2 rv3) X Y w6 ⟨(hXr.mono l78).rw h8, fun x hx => ((hX6.out x hx).mono l78).rw h8⟩ ⟨hYr.rw h8, fun x hx => ((hY x hx).mono l8).rw h8⟩)
      have hXr8 := hXr.mono l78
      have hX8 := Lib.hid (hX6.out.mono l78)
      have hcb := hXr.bound
      clear hRO h6 h7 en5 hXr hX6 hYr hY hcy
      go_wp2_with fail
      refine hSa.out.mono ?_
      rintro e w7 ⟨rfl, hb7⟩
      rw [decide_eq_true hEq]
      have h9 := h8.below hb7
      have en9 := en7.trans (bel_env hb7)
      clear hSa h8 en7 hb7 hEq
      go_wp2_with fail
      go_loopw [6] (fun s6 wr => ∃ (i : Nat) (H' : Hp), i ≤ X.length + 1 ∧ s6 = .int .i64 (i : Int) ∧ Hp.le H8 H' ∧ St H' [GrA p L] wr ∧ Env w wr) (fun s6 _ => X.length + 1 - (intOf s6).toNat)
      case atStart => exact ⟨0, H8, by omega, by go_num, Hp.le_refl _, h9, en9⟩
      case round =>
        clear h9 en9
        obtain ⟨i, H9, hi, rfl, l9, hst, hen⟩ := hrel
        by_cases hlt : i ≤ X.length
        · have hlti : (i : Int) ≤ (X.length : Int) := by omega
          have hic : (i : Int) ≤ (cv3 : Int) := by omega
          have hR1 := hRi.out (.slice cv1 i cv3) (X.take i) H9 [] wr (Hp.le_trans l56 (Hp.le_trans l78 l9)) hst (by rw [vals_take]; exact (hXr8.mono l9).take i hlt) ((hX8.out.mono l9).take i)
          rw [lists_take, decide_eq_true (canon_right hco.out i)] at hR1
          replace hR1 := Lib.hid hR1
          have hi1 := Lib.hid (show i + 1 ≤ X.length + 1 by omega)
          by_cases hc0 : cv3 = 0
          · have hi00 : i = 0 := by omega
            subst hc0
            subst hi00
            cases cv1 with
            | none =>
              go_wp2_with fail
              refine hR1.out.mono ?_
              rintro e w10 ⟨H10, rfl, l10, h10, en10⟩
              replace en10 := hen.trans en10
              clear hR1 hst hen
              go_wp2_with fail
              go_roundw
              case rel => exact ⟨0 + 1, H10, hi1.out, by go_num, Hp.le_trans l9 l10, h10, en10⟩
              case measure => first | (simp [intOf]; done) | (simp [intOf]; omega)
            | some ca =>
              go_wp2_with fail
              refine hR1.out.mono ?_
              rintro e w10 ⟨H10, rfl, l10, h10, en10⟩
              replace en10 := hen.trans en10
              clear hR1 hst hen
              go_wp2_with fail
              go_roundw
              case rel => exact ⟨0 + 1, H10, hi1.out, by go_num, Hp.le_trans l9 l10, h10, en10⟩
              case measure => first | (simp [intOf]; done) | (simp [intOf]; omega)
          · go_wp2_with fail
            refine hR1.out.mono ?_
            rintro e w10 ⟨H10, rfl, l10, h10, en10⟩
            replace en10 := hen.trans en10
            clear hR1 hst hen
            go_wp2_with fail
            go_roundw
            case rel => exact ⟨i + 1, H10, hi1.out, by go_num, Hp.le_trans l9 l10, h10, en10⟩
            case measure => first | (simp [intOf]; done) | (simp [intOf]; omega)
        · obtain rfl : i = X.length + 1 := by omega
          have hlti : ¬ ((X.length + 1 : Nat) : Int) ≤ (X.length : Int) := by omega
          have hlti2 : decide (((X.length + 1 : Nat) : Int) ≤ (X.length : Int)) = false := decide_eq_false hlti
          have hNi := Lib.hid (canOrder_nil wr)
          go_wp2_with fail
          refine hNi.out.mono ?_
          rintro e w10 ⟨rfl, hb10⟩
          have h10 := hst.below hb10
          have en10 := hen.trans (bel_env hb10)
          have hw := Lib.hid (work.out H9 _ w10 (Hp.le_trans l0H (Hp.le_trans l56 (Hp.le_trans l78 l9))) h10 en10)
          clear hNi hst hen hb10
          go_wp2_with fail
          refine hw.out.mono ?_
          rintro e w11 ⟨rfl, hz⟩
          go_wp2_with fail
          go_ret
          exact ⟨rfl, hz.out⟩
    · have hne : (gErr [] (l.map rp) != 0) = true := by simpa using hE
      generalize gErr [] (l.map rp) = E at *
      go_wp2_with fail
      refine (work.out H1 _ _ l1 h3 en3).mono ?_
      rintro e w4 ⟨rfl, hz⟩
      go_wp2_with fail
      go_ret
      exact ⟨rfl, hz.out⟩
end Go.Proofs.YtcbckeoalmjcoaaGreat
