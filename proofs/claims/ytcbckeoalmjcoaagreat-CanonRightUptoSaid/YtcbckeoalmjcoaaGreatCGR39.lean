/- Joined texts: CanonRight. -/
import Derived.Test.YtcbckeoalmjcoaaGreatCGR37
import Derived.Test.YtcbckeoalmjcoaaGreatCGR38
/- Law 18: CanonRight. -/
set_option linter.unusedVariables false
set_option linter.unusedSimpArgs false
namespace Go.Proofs.YtcbckeoalmjcoaaGreat
open Go.RowKit Go.Cw Go.Fl
attribute [local go_sem ↓] eql_id neq_id
theorem one_le_flat (X : List Lv) (i : Nat) (h : i < X.length) : X[i].1.length ≤ (lists X).flatten.length := by
  have h1 := flatl_step X i h
  have h2 := flatl_le X (i + 1)
  rw [h1, List.length_append] at h2
  omega
open Classical in
set_option maxRecDepth 100000 in
set_option maxHeartbeats 40000000 in
theorem canonRight_any (u v : Value) (l : List Rc) (X : List Lv) (w : World) (hx : Rw w 5 u (recs l)) (hl : ∀ x ∈ l, RcR w x) (hX : LvR w v X) (hbk : (lists X).flatten.length ≤ 1048576) :
    Calls Tryz.prog 6 #[u, v] w fun e w' => e = .returned (.bool true) ∧ Below w.heap.size w w' := by
  obtain ⟨A, n, c, rfl, hn, hnc, hc⟩ := hx.form
  rw [recs_len] at hn
  obtain rfl : n = l.length := by omega
  obtain ⟨vA, vn, vc, rfl, hv1, hv2, _⟩ := hX.row.form
  rw [vals_len] at hv1
  obtain rfl : vn = X.length := by omega
  clear hn hv1
  have hrd := hx.rd
  have hld : Hid (∀ x ∈ l, RcD (snap w) x) := Lib.hid (fun x hm => ⟨(hl x hm).d.rd, (hl x hm).b.rd, (hl x hm).ok⟩)
  have hXd := hX.row.rd
  have hXe : Hid (LvOk (snap w) X) := Lib.hid (fun x hm => (hX.el x hm).rd)
  obtain ⟨H1, hH1⟩ : ∃ H1, H1 = snap w := ⟨_, rfl⟩
  have h1 : St H1 [] w := by rw [hH1]; exact St.start w
  have l1 : Hp.le (snap w) H1 := by rw [hH1]; exact Hp.le_refl _
  have en1 := Env.refl w
  have hFew := few15_any (.slice A l.length c) l 12 _ ((hrd.mono l1).rw h1) (fun x hm => ((hld.out x hm).mono l1).rw h1)
  obtain ⟨B, hB⟩ : ∃ B, (fewR l && decide ((l.length : Int) ≤ 12)) = B := ⟨_, rfl⟩
  rw [hB] at hFew
  replace hFew := Lib.hid hFew
  have hck := Lib.hid (fun (w' : World) (h' : St H1 [] w') => refGr_any (.slice A l.length c) l w' ((hrd.mono l1).rw h') (fun x hm => ((hld.out x hm).mono l1).rw h'))
  have hle1 := Lib.hid (one_le_flat X)
  clear hx hl hH1 hX
  have hwk : ∀ (H' : Hp) (l' : List HA) (w' w'' : World), Hp.le (snap w) H' → St H' l' w' → Env w w' → Below w'.heap.size w' w'' → Hid (Below w.heap.size w w'') := fun H' l' w' w'' hl h en hb => Lib.hid ((h.weaken hl |>.below hb).toBelow (en.trans (bel_env hb)))
  go_enter Tryz.func6, Tryz.ntmps6
  go_wp2_with fail
  refine hFew.out.mono ?_
  rintro e w2 ⟨rfl, hb2⟩
  have h2 := h1.below hb2
  have en2 := en1.trans (bel_env hb2)
  clear hFew
  have work : ∀ (H' : Hp) (fr : List HA) (w' : World), Hp.le (snap w) H' → St H' fr w' → Env w w' → Calls Tryz.prog 23 #[] w' fun e w'' => e = .returned (.bool true) ∧ Hid (Below w.heap.size w w'') := fun H' fr w' hl h' en => (works18 w').mono (by
    rintro e w'' ⟨rfl, hb⟩
    exact ⟨rfl, hwk H' fr w' w'' hl h' en hb⟩)
  replace work := Lib.hid work
  cases B with
  | false =>
    go_wp2_with fail
    refine (work.out H1 _ _ l1 h2 en2).mono ?_
    rintro e w3 ⟨rfl, hz⟩
    go_wp2_with fail
    go_ret
    exact ⟨rfl, hz.out⟩
  | true =>
    have hl20 : l.length ≤ 12 := by
      rw [Bool.and_eq_true, decide_eq_true_eq] at hB
      omega
    by_cases hX12 : 12 < X.length
    · have hX12i : (12 : Int) < (X.length : Int) := by omega
      have hX12d : decide (12 < X.length) = true := decide_eq_true hX12
      go_wp2_with fail
      refine (work.out H1 _ _ l1 h2 en2).mono ?_
      rintro e w3 ⟨rfl, hz⟩
      go_wp2_with fail
      go_ret
      exact ⟨rfl, hz.out⟩
    · have hX12i : ¬ (12 : Int) < (X.length : Int) := by omega
      have hX12d : decide (12 < X.length) = false := decide_eq_false hX12
      go_wp2_with fail
      refine (hck.out _ h2).mono ?_
      rintro e w3 ⟨rfl, hb3⟩
      have h3 := h2.below hb3
      have en3 := en2.trans (bel_env hb3)
      by_cases hE : gErr [] (l.map rp) = 0
      · have hok : ∀ x ∈ l, recErr (rp x) = 0 := fun x hm => gErr_zero _ _ hE (rp x) (List.mem_map.2 ⟨x, hm, rfl⟩)
        have hl16 : ∀ x ∈ l, x.2.2.2.2.1.length ≤ 16 := fun x hm => (recErr_len _ (hok x hm)).1
        have hN := Lib.hid ((newGr_any (.slice A l.length c) l w3 ((hrd.mono l1).rw h3) (fun x hm => ((hld.out x hm).mono l1).rw h3) (by omega)).mono (fun e w' h => NewR.ok h (by rw [List.length_map]; omega)))
        rw [hE]
        go_wp2_with fail
        refine hN.out.mono ?_
        rintro e w4 (⟨_, p, L, H, hle, h4, hg, hLm, en4, rfl⟩ | ⟨hno, _⟩)
        case inr => exact absurd hE hno
        have hlen : L.length = l.length := by have := congrArg List.length hLm; simpa using this
        have l1H : Hp.le H1 H := Hp.le_trans (fun k o hk => h3.imm k o hk) hle
        replace en4 := en3.trans en4
        have l0H := Hp.le_trans l1 l1H
        have hrd2 := hrd.mono l0H
        have hldH : Hid (∀ x ∈ l, RcD H x) := Lib.hid (fun x hm => (hld.out x hm).mono l0H)
        replace hXd := hXd.mono l0H
        replace hXe : Hid (LvOk H X) := Lib.hid (hXe.out.mono l0H)
        have hRi := canRight_any p L (.slice vA X.length vc) X H [] w4 h4 hg (by omega) hXd hXe.out
        rw [hLm] at hRi
        have hRR := Lib.hid (fun (Hc : Hp) (fr : List HA) (w' : World) (hl : Hp.le H Hc) (h' : St Hc fr w') => refRight_any (.slice A l.length c) (.slice vA X.length vc) l X Hc fr w' h' (hrd2.mono hl) (fun x hx => (hldH.out x hx).mono hl) hl16 (by omega) (hXd.mono hl) (hXe.out.mono hl) (by omega))
        have hF1 := Lib.hid (fun (Hc : Hp) (fr : List HA) (w' : World) (hl : Hp.le H Hc) (h' : St Hc fr w') => canFlat_any (.slice vA X.length vc) X w' ⟨(hXd.mono hl).rw h', fun x hx => ((hXe.out x hx).mono hl).rw h'⟩ (by omega))
        have hF2 := Lib.hid (fun (Hc : Hp) (fr : List HA) (w' : World) (hl : Hp.le H Hc) (h' : St Hc fr w') => refFlat_any (.slice vA X.length vc) X w' ⟨(hXd.mono hl).rw h', fun x hx => ((hXe.out x hx).mono hl).rw h'⟩ (by omega))
        have hL1 := Lib.hid (fun (ua ub : Value) (a b : List Id) (Hc : Hp) (fr : List HA) (w' : World) (hl : Hp.le H Hc) (h' : St Hc (GrA p L :: fr) w') (ha : Rd Hc 2 ua (idl a)) (hb : Rd Hc 2 ub (idl b)) (hal : a.length ≤ 1048576) => canLeads_any p L ua ub a b Hc fr w' h' (hg.mono hl) ha hb hal)
        rw [hLm] at hL1
        have hL2 := Lib.hid (fun (ua ub : Value) (a b : List Id) (Hc : Hp) (fr : List HA) (w' : World) (hl : Hp.le H Hc) (h' : St Hc fr w') (ha : Rd Hc 2 ua (idl a)) (hb : Rd Hc 2 ub (idl b)) => refLeads_any (.slice A l.length c) ua ub l a b w' ((hrd2.mono hl).rw h') (fun x hx => ((hldH.out x hx).mono hl).rw h') (ha.rw h') (hb.rw h'))
        unfold FlatR at hF1 hF2
        unfold LeadsBR at hL2
        have hcons := fun (D : Bool) => bne_self_eq_false D
        generalize decide (RightOf (l.map rp) (lists X)) = RB at *
        generalize dpsR (l.map rp) = nx at *
        replace hRi := Lib.hid hRi
        have hcb := hXd.bound
        clear hN hck hld hrd h3 en3 hb3 hb2 h2 en2 hE hok hB h1 en1 hl16 hg
        go_wp2_with fail
        refine hRi.out.mono ?_
        rintro e w5 ⟨H5, rfl, l5, h5, en5⟩
        replace en5 := en4.trans en5
        have hRR1 := Lib.hid (hRR.out H5 _ w5 l5 h5)
        clear hRi en4 h4 hRR
        go_wp2_with fail
        refine hRR1.out.mono ?_
        rintro e w6 ⟨rfl, H6, l6, h6, en6⟩
        replace en6 := en5.trans en6
        have l56 := Hp.le_trans l5 l6
        have hFa := Lib.hid (hF1.out H6 _ w6 l56 h6)
        have hRBs : (RB != RB) = false := by simp
        clear hRR1 h5 en5 hF1
        go_wp2_with fail
        refine hFa.out.mono ?_
        rintro e w7 ⟨f1, rfl, h7a, en7a⟩
        have h7 := h6.lift h7a en7a
        have en7 := en6.trans en7a
        obtain ⟨H7, l7, h8, hfr1⟩ := h7.row_keep
        replace h8 : St H7 [GrA p L] w7 := h8
        have l57 := Hp.le_trans l56 l7
        have hFb := Lib.hid (hF2.out H7 _ w7 l57 h8)
        obtain ⟨f1A, f1n, f1c, rfl, _⟩ := hfr1.form
        clear hFa h7a en7a h7 h6 en6 hF2
        go_wp2_with fail
        refine hFb.out.mono ?_
        rintro e w9 ⟨f2, rfl, h9a, en9a⟩
        have h9 := h8.lift h9a en9a
        have en9 := en7.trans en9a
        obtain ⟨H9, l9, h10, hfr2⟩ := h9.row_keep
        replace h10 : St H9 [GrA p L] w9 := h10
        have l59 := Hp.le_trans l57 l9
        obtain ⟨f2A, f2n, f2c, rfl, _⟩ := hfr2.form
        have hSm := sameIds_any _ _ _ _ w9 ((hfr1.mono l9).rw h10) (hfr2.rw h10)
        rw [decide_eq_true rfl] at hSm
        replace hSm := Lib.hid hSm
        clear hFb h9a en9a h9 h8 en7 hfr1 hfr2
        go_wp2_with fail
        refine hSm.out.mono ?_
        rintro e w11 ⟨rfl, hb11⟩
        have h11 := h10.below hb11
        have en11 := en9.trans (bel_env hb11)
        clear hSm h10 en9 hb11
        go_wp2_with fail
        go_loopw [7] (fun s7 wr => ∃ (i : Nat) (H' : Hp), 1 ≤ i ∧ i ≤ 13 ∧ s7 = .int .i64 (i : Int) ∧ Hp.le H9 H' ∧ St H' [GrA p L] wr ∧ Env w wr) (fun s7 _ => X.length - (intOf s7).toNat)
        case atStart => exact ⟨1, H9, by omega, by omega, by go_num, Hp.le_refl _, h11, en11⟩
        case round =>
          clear h11 en11
          obtain ⟨i, Hi, hi1, hi13, rfl, li, hst, hen⟩ := hrel
          by_cases hlt : i < X.length
          · obtain ⟨j, rfl⟩ : ∃ j, i = j + 1 := ⟨i - 1, by omega⟩
            have hj : j < X.length := by omega
            have lHi := Hp.le_trans l59 li
            obtain ⟨b, off, hAe, hcr⟩ := Rd.form2 (hXd.mono lHi) (by omega)
            cases hAe
            have c1 := hcr _ _ (vals_get X (j + 1) hlt)
            have c2 := hcr _ _ (vals_get X j hj)
            rw [Nat.mul_one] at c1 c2
            clear hcr
            have ha := (hXe.out X[j + 1] (List.getElem_mem hlt)).mono lHi
            have hb := (hXe.out X[j] (List.getElem_mem hj)).mono lHi
            have hal := hle1.out (j + 1) hlt
            have hbl := hle1.out j hj
            generalize X[j + 1] = x at *
            generalize X[j] = y at *
            obtain ⟨xl, xv⟩ := x
            obtain ⟨yl, yv⟩ := y
            obtain ⟨xA, xn, xc, rfl, _⟩ := ha.form
            obtain ⟨yA, yn, yc, rfl, _⟩ := hb.form
            simp only at ha hb hal hbl c1 c2
            have kk : ∀ (Hc : Hp) (l' : List HA) (w' : World), Hp.le Hi Hc → St Hc l' w' → w'.cell? ⟨b, off + (j + 1), none⟩ = some (.slice xA xn xc) ∧ w'.cell? ⟨b, off + j, none⟩ = some (.slice yA yn yc) := fun Hc l' w' hl h => ⟨h.cell (Hp.cell_le hl c1), h.cell (Hp.cell_le hl c2)⟩
            have hX1 := Lib.hid (fun (Hc : Hp) (w' : World) (hl : Hp.le Hi Hc) (h' : St Hc [GrA p L] w') => hL1.out (.slice xA xn xc) (.slice yA yn yc) xl yl Hc [] w' (Hp.le_trans lHi hl) h' (ha.mono hl) (hb.mono hl) (by omega))
            have hX2 := Lib.hid (fun (Hc : Hp) (w' : World) (hl : Hp.le Hi Hc) (h' : St Hc [GrA p L] w') => hL2.out (.slice xA xn xc) (.slice yA yn yc) xl yl Hc _ w' (Hp.le_trans lHi hl) h' (ha.mono hl) (hb.mono hl))
            have hY1 := Lib.hid (fun (Hc : Hp) (w' : World) (hl : Hp.le Hi Hc) (h' : St Hc [GrA p L] w') => hL1.out (.slice yA yn yc) (.slice xA xn xc) yl xl Hc [] w' (Hp.le_trans lHi hl) h' (hb.mono hl) (ha.mono hl) (by omega))
            have hY2 := Lib.hid (fun (Hc : Hp) (w' : World) (hl : Hp.le Hi Hc) (h' : St Hc [GrA p L] w') => hL2.out (.slice yA yn yc) (.slice xA xn xc) yl xl Hc _ w' (Hp.le_trans lHi hl) h' (hb.mono hl) (ha.mono hl))
            generalize leadsB nx xl yl = B1 at *
            generalize leadsB nx yl xl = B2 at *
            have hB1 : (B1 != B1) = false := by simp
            have hB2 : (B2 != B2) = false := by simp
            have hji : ((j + 1 : Nat) : Int) < (X.length : Int) := by omega
            have hji2 : (j : Int) + 1 < (X.length : Int) := by omega
            have hj0 : (0 : Int) ≤ ((j + 1 : Nat) : Int) := by omega
            have hj02 : (0 : Int) ≤ (j : Int) + 1 := by omega
            have hj1 : (0 : Int) ≤ (j : Int) := by omega
            have hj2 : (j : Int) < (X.length : Int) := by omega
            have hjw : IntKind.i64.wrap (((j + 1 : Nat) : Int) - 1) = (j : Int) := by rw [IntKind.wrap_i64]; omega
            have hjw2 : IntKind.i64.wrap ((j : Int) + 1 - 1) = (j : Int) := by rw [IntKind.wrap_i64]; omega
            have hjw3 : ((j : Int) + 1 - 1) = (j : Int) := by omega
            have hjw4 : IntKind.i64.wrap (j : Int) = (j : Int) := by rw [IntKind.wrap_i64]; omega
            have hstD := hst.drew
            have en5 := hen.drew
            have lc := Hp.le_refl Hi
            clear hst hen hal hbl
            replace hst := hstD
            clear hstD
            go_wp2_with fail
            refine wp_region_held_drew (S := fun w' => w'.cell? ⟨b, off + (j + 1), none⟩ = some (.slice xA xn xc) ∧ w'.cell? ⟨b, off + j, none⟩ = some (.slice yA yn yc)) (by kernel_rfl) (kk _ _ _ lc hst) (fun hHeld => ?_)
            refine wpAnyH_take (i := 0) (oi := { dst := some 52, op := Go.Op.move (Go.Operand.tmp 5), type := 27, pos := "law.go:49", after := #[], guard := none }) (v := ?_) rfl (by kernel_rfl) (by kernel_rfl) (by kernel_rfl) (fun _ _ _ h => h) (Or.inl ⟨by rfl, ?_⟩) (by assumption) ?_
            rotate_left
            · (intro w hSw; (try dsimp only at hSw); go_simp; (try (with_reducible rfl)))
            try simp only [Act.put, List.setIfInBounds_toArray, List.set_cons_zero, List.set_cons_succ]
            refine wpAnyH_take (i := 1) (oi := { dst := some 53, op := Go.Op.move (Go.Operand.tmp 1), type := 31, pos := "law.go:49", after := #[], guard := none }) (v := ?_) rfl (by kernel_rfl) (by kernel_rfl) (by kernel_rfl) (fun _ _ _ h => h) (Or.inl ⟨by rfl, ?_⟩) (by assumption) ?_
            rotate_left
            · (intro w hSw; (try dsimp only at hSw); go_simp; (try (with_reducible rfl)))
            try simp only [Act.put, List.setIfInBounds_toArray, List.set_cons_zero, List.set_cons_succ]
            refine wpAnyH_take (i := 2) (oi := { dst := some 54, op := Go.Op.move (Go.Operand.tmp 7), type := 3, pos := "law.go:49", after := #[], guard := none }) (v := ?_) rfl (by kernel_rfl) (by kernel_rfl) (by kernel_rfl) (fun _ _ _ h => h) (Or.inl ⟨by rfl, ?_⟩) (by assumption) ?_
            rotate_left
            · (intro w hSw; (try dsimp only at hSw); go_simp; (try (with_reducible rfl)))
            try simp only [Act.put, List.setIfInBounds_toArray, List.set_cons_zero, List.set_cons_succ]
            refine wpAnyH_take (i := 3) (oi := { dst := some 55, op := Go.Op.indexAddr 31 (Go.Operand.tmp 53) (Go.Operand.tmp 54), type := 0, pos := "law.go:49", after := #[{ on := 1, ground := Go.Ground.data }, { on := 2, ground := Go.Ground.data }], guard := none }) (v := ?_) rfl (by kernel_rfl) (by kernel_rfl) (by kernel_rfl) (fun _ _ _ h => h) (Or.inl ⟨by rfl, ?_⟩) (by assumption) ?_
            rotate_left
            · (intro w hSw; (try dsimp only at hSw); go_simp; (try (with_reducible rfl)))
            try simp only [Act.put, List.setIfInBounds_toArray, List.set_cons_zero, List.set_cons_succ]
            refine wpAnyH_take (i := 4) (oi := { dst := some 56, op := Go.Op.load 35 (Go.Operand.tmp 55), type := 35, pos := "law.go:49", after := #[{ on := 3, ground := Go.Ground.data }], guard := none }) (v := ?_) rfl (by kernel_rfl) (by kernel_rfl) (by kernel_rfl) (fun _ _ _ h => h) (Or.inl ⟨by rfl, ?_⟩) (by assumption) ?_
            rotate_left
            · (intro w hSw; (try dsimp only at hSw); go_simp; (try (with_reducible rfl)))
            try simp only [Act.put, List.setIfInBounds_toArray, List.set_cons_zero, List.set_cons_succ]
            refine wpAnyH_take (i := 5) (oi := { dst := some 57, op := Go.Op.move (Go.Operand.tmp 1), type := 31, pos := "law.go:49", after := #[], guard := none }) (v := ?_) rfl (by kernel_rfl) (by kernel_rfl) (by kernel_rfl) (fun _ _ _ h => h) (Or.inl ⟨by rfl, ?_⟩) (by assumption) ?_
            rotate_left
            · (intro w hSw; (try dsimp only at hSw); go_simp; (try (with_reducible rfl)))
            try simp only [Act.put, List.setIfInBounds_toArray, List.set_cons_zero, List.set_cons_succ]
            refine wpAnyH_take (i := 6) (oi := { dst := some 58, op := Go.Op.move (Go.Operand.tmp 7), type := 3, pos := "law.go:49", after := #[], guard := none }) (v := ?_) rfl (by kernel_rfl) (by kernel_rfl) (by kernel_rfl) (fun _ _ _ h => h) (Or.inl ⟨by rfl, ?_⟩) (by assumption) ?_
            rotate_left
            · (intro w hSw; (try dsimp only at hSw); go_simp; (try (with_reducible rfl)))
            try simp only [Act.put, List.setIfInBounds_toArray, List.set_cons_zero, List.set_cons_succ]
            refine wpAnyH_take (i := 7) (oi := { dst := some 59, op := Go.Op.binOp Go.BinOp.sub 3 (Go.Operand.tmp 58) (Go.Operand.const (Go.Value.int Go.IntKind.i64 1)) 3, type := 3, pos := "law.go:49", after := #[{ on := 6, ground := Go.Ground.data }], guard := none }) (v := ?_) rfl (by kernel_rfl) (by kernel_rfl) (by kernel_rfl) (fun _ _ _ h => h) (Or.inl ⟨by rfl, ?_⟩) (by assumption) ?_
            rotate_left
            · (intro w hSw; (try dsimp only at hSw); go_simp; (try (with_reducible rfl)))
            try simp only [Act.put, List.setIfInBounds_toArray, List.set_cons_zero, List.set_cons_succ]
            refine wpAnyH_take (i := 8) (oi := { dst := some 60, op := Go.Op.indexAddr 31 (Go.Operand.tmp 57) (Go.Operand.tmp 59), type := 0, pos := "law.go:49", after := #[{ on := 5, ground := Go.Ground.data }, { on := 7, ground := Go.Ground.data }], guard := none }) (v := ?_) rfl (by kernel_rfl) (by kernel_rfl) (by kernel_rfl) (fun _ _ _ h => h) (Or.inl ⟨by rfl, ?_⟩) (by assumption) ?_
            rotate_left
            · (intro w hSw; (try dsimp only at hSw); go_simp; (try (with_reducible rfl)))
            try simp only [Act.put, List.setIfInBounds_toArray, List.set_cons_zero, List.set_cons_succ]
            refine wpAnyH_take (i := 9) (oi := { dst := some 61, op := Go.Op.load 35 (Go.Operand.tmp 60), type := 35, pos := "law.go:49", after := #[{ on := 8, ground := Go.Ground.data }], guard := none }) (v := ?_) rfl (by kernel_rfl) (by kernel_rfl) (by kernel_rfl) (fun _ _ _ h => h) (Or.inl ⟨by rfl, ?_⟩) (by assumption) ?_
            rotate_left
            · (intro w hSw; (try dsimp only at hSw); go_simp; (try (with_reducible rfl)))
            try simp only [Act.put, List.setIfInBounds_toArray, List.set_cons_zero, List.set_cons_succ]
            refine wpAnyH_take (i := 11) (oi := { dst := some 63, op := Go.Op.move (Go.Operand.tmp 0), type := 22, pos := "law.go:49", after := #[], guard := none }) (v := ?_) rfl (by kernel_rfl) (by kernel_rfl) (by kernel_rfl) (fun _ _ _ h => h) (Or.inl ⟨by rfl, ?_⟩) (by assumption) ?_
            rotate_left
            · (intro w hSw; (try dsimp only at hSw); go_simp; (try (with_reducible rfl)))
            try simp only [Act.put, List.setIfInBounds_toArray, List.set_cons_zero, List.set_cons_succ]
            refine wpAnyH_take (i := 12) (oi := { dst := some 64, op := Go.Op.move (Go.Operand.tmp 1), type := 31, pos := "law.go:49", after := #[], guard := none }) (v := ?_) rfl (by kernel_rfl) (by kernel_rfl) (by kernel_rfl) (fun _ _ _ h => h) (Or.inl ⟨by rfl, ?_⟩) (by assumption) ?_
            rotate_left
            · (intro w hSw; (try dsimp only at hSw); go_simp; (try (with_reducible rfl)))
            try simp only [Act.put, List.setIfInBounds_toArray, List.set_cons_zero, List.set_cons_succ]
            refine wpAnyH_take (i := 13) (oi := { dst := some 65, op := Go.Op.move (Go.Operand.tmp 7), type := 3, pos := "law.go:49", after := #[], guard := none }) (v := ?_) rfl (by kernel_rfl) (by kernel_rfl) (by kernel_rfl) (fun _ _ _ h => h) (Or.inl ⟨by rfl, ?_⟩) (by assumption) ?_
            rotate_left
            · (intro w hSw; (try dsimp only at hSw); go_simp; (try (with_reducible rfl)))
            try simp only [Act.put, List.setIfInBounds_toArray, List.set_cons_zero, List.set_cons_succ]
            refine wpAnyH_take (i := 14) (oi := { dst := some 66, op := Go.Op.indexAddr 31 (Go.Operand.tmp 64) (Go.Operand.tmp 65), type := 0, pos := "law.go:49", after := #[{ on := 12, ground := Go.Ground.data }, { on := 13, ground := Go.Ground.data }], guard := none }) (v := ?_) rfl (by kernel_rfl) (by kernel_rfl) (by kernel_rfl) (fun _ _ _ h => h) (Or.inl ⟨by rfl, ?_⟩) (by assumption) ?_
            rotate_left
            · (intro w hSw; (try dsimp only at hSw); go_simp; (try (with_reducible rfl)))
            try simp only [Act.put, List.setIfInBounds_toArray, List.set_cons_zero, List.set_cons_succ]
            refine wpAnyH_take (i := 15) (oi := { dst := some 67, op := Go.Op.load 35 (Go.Operand.tmp 66), type := 35, pos := "law.go:49", after := #[{ on := 14, ground := Go.Ground.data }], guard := none }) (v := ?_) rfl (by kernel_rfl) (by kernel_rfl) (by kernel_rfl) (fun _ _ _ h => h) (Or.inl ⟨by rfl, ?_⟩) (by assumption) ?_
            rotate_left
            · (intro w hSw; (try dsimp only at hSw); go_simp; (try (with_reducible rfl)))
            try simp only [Act.put, List.setIfInBounds_toArray, List.set_cons_zero, List.set_cons_succ]
            refine wpAnyH_take (i := 16) (oi := { dst := some 68, op := Go.Op.move (Go.Operand.tmp 1), type := 31, pos := "law.go:49", after := #[], guard := none }) (v := ?_) rfl (by kernel_rfl) (by kernel_rfl) (by kernel_rfl) (fun _ _ _ h => h) (Or.inl ⟨by rfl, ?_⟩) (by assumption) ?_
            rotate_left
            · (intro w hSw; (try dsimp only at hSw); go_simp; (try (with_reducible rfl)))
            try simp only [Act.put, List.setIfInBounds_toArray, List.set_cons_zero, List.set_cons_succ]
            refine wpAnyH_take (i := 17) (oi := { dst := some 69, op := Go.Op.move (Go.Operand.tmp 7), type := 3, pos := "law.go:49", after := #[], guard := none }) (v := ?_) rfl (by kernel_rfl) (by kernel_rfl) (by kernel_rfl) (fun _ _ _ h => h) (Or.inl ⟨by rfl, ?_⟩) (by assumption) ?_
            rotate_left
            · (intro w hSw; (try dsimp only at hSw); go_simp; (try (with_reducible rfl)))
            try simp only [Act.put, List.setIfInBounds_toArray, List.set_cons_zero, List.set_cons_succ]
            refine wpAnyH_take (i := 18) (oi := { dst := some 70, op := Go.Op.binOp Go.BinOp.sub 3 (Go.Operand.tmp 69) (Go.Operand.const (Go.Value.int Go.IntKind.i64 1)) 3, type := 3, pos := "law.go:49", after := #[{ on := 17, ground := Go.Ground.data }], guard := none }) (v := ?_) rfl (by kernel_rfl) (by kernel_rfl) (by kernel_rfl) (fun _ _ _ h => h) (Or.inl ⟨by rfl, ?_⟩) (by assumption) ?_
            rotate_left
            · (intro w hSw; (try dsimp only at hSw); go_simp; (try (with_reducible rfl)))
            try simp only [Act.put, List.setIfInBounds_toArray, List.set_cons_zero, List.set_cons_succ]
            refine wpAnyH_take (i := 19) (oi := { dst := some 71, op := Go.Op.indexAddr 31 (Go.Operand.tmp 68) (Go.Operand.tmp 70), type := 0, pos := "law.go:49", after := #[{ on := 16, ground := Go.Ground.data }, { on := 18, ground := Go.Ground.data }], guard := none }) (v := ?_) rfl (by kernel_rfl) (by kernel_rfl) (by kernel_rfl) (fun _ _ _ h => h) (Or.inl ⟨by rfl, ?_⟩) (by assumption) ?_
            rotate_left
            · (intro w hSw; (try dsimp only at hSw); go_simp; (try (with_reducible rfl)))
            try simp only [Act.put, List.setIfInBounds_toArray, List.set_cons_zero, List.set_cons_succ]
            refine wpAnyH_take (i := 20) (oi := { dst := some 72, op := Go.Op.load 35 (Go.Operand.tmp 71), type := 35, pos := "law.go:49", after := #[{ on := 19, ground := Go.Ground.data }], guard := none }) (v := ?_) rfl (by kernel_rfl) (by kernel_rfl) (by kernel_rfl) (fun _ _ _ h => h) (Or.inl ⟨by rfl, ?_⟩) (by assumption) ?_
            rotate_left
            · (intro w hSw; (try dsimp only at hSw); go_simp; (try (with_reducible rfl)))
            try simp only [Act.put, List.setIfInBounds_toArray, List.set_cons_zero, List.set_cons_succ]
            refine wpAnyH_ready (rs := [10]) (by kernel_rfl) (by simp) ?_
            refine AllReadyH.cons (o := { dst := some 62, op := Go.Op.call { callee := Go.Callee.value (Go.Operand.func 28), args := #[Go.Operand.tmp 52, Go.Operand.tmp 56, Go.Operand.tmp 61], argTypes := #[27, 35, 35] }, type := 4, pos := "law.go:49", after := #[{ on := 0, ground := Go.Ground.data }, { on := 4, ground := Go.Ground.data }, { on := 9, ground := Go.Ground.data }], guard := none }) rfl (fun K hK => ?_) AllReadyH.nil
            go_simp
            refine (hX1.out _ _ lc hst).mono ?_
            rintro e wD ⟨HD, rfl, lD, hD, enD⟩
            replace lc := Hp.le_trans lc lD
            replace hst := hD
            replace en5 := en5.trans enD
            refine hK.out _ _ (kk _ _ _ lc hst) (fun hHeld => ?_)
            clear hK K
            try simp only [Act.put, List.setIfInBounds_toArray, List.set_cons_zero, List.set_cons_succ]
            refine wpAnyH_ready (rs := [21]) (by kernel_rfl) (by simp) ?_
            refine AllReadyH.cons (o := { dst := some 73, op := Go.Op.call { callee := Go.Callee.value (Go.Operand.func 29), args := #[Go.Operand.tmp 63, Go.Operand.tmp 67, Go.Operand.tmp 72], argTypes := #[22, 35, 35] }, type := 4, pos := "law.go:49", after := #[{ on := 11, ground := Go.Ground.data }, { on := 15, ground := Go.Ground.data }, { on := 20, ground := Go.Ground.data }, { on := 10, ground := Go.Ground.chain }], guard := none }) rfl (fun K hK => ?_) AllReadyH.nil
            go_simp
            refine (hX2.out _ _ lc hst).mono ?_
            rintro e wC ⟨rfl, hbC⟩
            replace hst := hst.below hbC
            replace en5 := en5.trans (bel_env hbC)
            refine hK.out _ _ (kk _ _ _ lc hst) (fun hHeld => ?_)
            clear hK K
            try simp only [Act.put, List.setIfInBounds_toArray, List.set_cons_zero, List.set_cons_succ]
            refine wpAnyH_take (i := 22) (oi := { dst := some 74, op := Go.Op.binOp Go.BinOp.neq 4 (Go.Operand.tmp 62) (Go.Operand.tmp 73) 4, type := 4, pos := "law.go:49", after := #[{ on := 10, ground := Go.Ground.data }, { on := 21, ground := Go.Ground.data }], guard := none }) (v := ?_) rfl (by kernel_rfl) (by kernel_rfl) (by kernel_rfl) (fun _ _ _ h => h) (Or.inl ⟨by rfl, ?_⟩) (by assumption) ?_
            rotate_left
            · (intro w hSw; (try dsimp only at hSw); go_simp; (try (with_reducible rfl)))
            try simp only [Act.put, List.setIfInBounds_toArray, List.set_cons_zero, List.set_cons_succ]
            refine wpAnyH_take (i := 23) (oi := { dst := some 75, op := Go.Op.move (Go.Operand.tmp 74), type := 4, pos := "law.go:49", after := #[{ on := 22, ground := Go.Ground.data }, { on := 21, ground := Go.Ground.chain }], guard := none }) (v := ?_) rfl (by kernel_rfl) (by kernel_rfl) (by kernel_rfl) (fun _ _ _ h => h) (Or.inl ⟨by rfl, ?_⟩) (by assumption) ?_
            rotate_left
            · (intro w hSw; (try dsimp only at hSw); go_simp; (try (with_reducible rfl)))
            try simp only [Act.put, List.setIfInBounds_toArray, List.set_cons_zero, List.set_cons_succ]
            refine wpAnyH_take (i := 24) (oi := { dst := some 76, op := Go.Op.move (Go.Operand.tmp 5), type := 27, pos := "law.go:49", after := #[{ on := 23, ground := Go.Ground.guard }], guard := some (23, false) }) (v := ?_) rfl (by kernel_rfl) (by kernel_rfl) (by kernel_rfl) (fun _ _ _ h => h) (Or.inl ⟨by rfl, ?_⟩) (by assumption) ?_
            rotate_left
            · (intro w hSw; (try dsimp only at hSw); go_simp; (try (with_reducible rfl)))
            try simp only [Act.put, List.setIfInBounds_toArray, List.set_cons_zero, List.set_cons_succ]
            refine wpAnyH_take (i := 25) (oi := { dst := some 77, op := Go.Op.move (Go.Operand.tmp 1), type := 31, pos := "law.go:49", after := #[{ on := 23, ground := Go.Ground.guard }], guard := some (23, false) }) (v := ?_) rfl (by kernel_rfl) (by kernel_rfl) (by kernel_rfl) (fun _ _ _ h => h) (Or.inl ⟨by rfl, ?_⟩) (by assumption) ?_
            rotate_left
            · (intro w hSw; (try dsimp only at hSw); go_simp; (try (with_reducible rfl)))
            try simp only [Act.put, List.setIfInBounds_toArray, List.set_cons_zero, List.set_cons_succ]
            refine wpAnyH_take (i := 26) (oi := { dst := some 78, op := Go.Op.move (Go.Operand.tmp 7), type := 3, pos := "law.go:49", after := #[{ on := 23, ground := Go.Ground.guard }], guard := some (23, false) }) (v := ?_) rfl (by kernel_rfl) (by kernel_rfl) (by kernel_rfl) (fun _ _ _ h => h) (Or.inl ⟨by rfl, ?_⟩) (by assumption) ?_
            rotate_left
            · (intro w hSw; (try dsimp only at hSw); go_simp; (try (with_reducible rfl)))
            try simp only [Act.put, List.setIfInBounds_toArray, List.set_cons_zero, List.set_cons_succ]
            refine wpAnyH_take (i := 27) (oi := { dst := some 79, op := Go.Op.binOp Go.BinOp.sub 3 (Go.Operand.tmp 78) (Go.Operand.const (Go.Value.int Go.IntKind.i64 1)) 3, type := 3, pos := "law.go:49", after := #[{ on := 26, ground := Go.Ground.data }, { on := 23, ground := Go.Ground.guard }], guard := some (23, false) }) (v := ?_) rfl (by kernel_rfl) (by kernel_rfl) (by kernel_rfl) (fun _ _ _ h => h) (Or.inl ⟨by rfl, ?_⟩) (by assumption) ?_
            rotate_left
            · (intro w hSw; (try dsimp only at hSw); go_simp; (try (with_reducible rfl)))
            try simp only [Act.put, List.setIfInBounds_toArray, List.set_cons_zero, List.set_cons_succ]
            refine wpAnyH_take (i := 28) (oi := { dst := some 80, op := Go.Op.indexAddr 31 (Go.Operand.tmp 77) (Go.Operand.tmp 79), type := 0, pos := "law.go:49", after := #[{ on := 25, ground := Go.Ground.data }, { on := 27, ground := Go.Ground.data }, { on := 23, ground := Go.Ground.guard }], guard := some (23, false) }) (v := ?_) rfl (by kernel_rfl) (by kernel_rfl) (by kernel_rfl) (fun _ _ _ h => h) (Or.inl ⟨by rfl, ?_⟩) (by assumption) ?_
            rotate_left
            · (intro w hSw; (try dsimp only at hSw); go_simp; (try (with_reducible rfl)))
            try simp only [Act.put, List.setIfInBounds_toArray, List.set_cons_zero, List.set_cons_succ]
            refine wpAnyH_take (i := 29) (oi := { dst := some 81, op := Go.Op.load 35 (Go.Operand.tmp 80), type := 35, pos := "law.go:49", after := #[{ on := 28, ground := Go.Ground.data }, { on := 23, ground := Go.Ground.guard }], guard := some (23, false) }) (v := ?_) rfl (by kernel_rfl) (by kernel_rfl) (by kernel_rfl) (fun _ _ _ h => h) (Or.inl ⟨by rfl, ?_⟩) (by assumption) ?_
            rotate_left
            · (intro w hSw; (try dsimp only at hSw); go_simp; (try (with_reducible rfl)))
            try simp only [Act.put, List.setIfInBounds_toArray, List.set_cons_zero, List.set_cons_succ]
            refine wpAnyH_take (i := 30) (oi := { dst := some 82, op := Go.Op.move (Go.Operand.tmp 1), type := 31, pos := "law.go:49", after := #[{ on := 23, ground := Go.Ground.guard }], guard := some (23, false) }) (v := ?_) rfl (by kernel_rfl) (by kernel_rfl) (by kernel_rfl) (fun _ _ _ h => h) (Or.inl ⟨by rfl, ?_⟩) (by assumption) ?_
            rotate_left
            · (intro w hSw; (try dsimp only at hSw); go_simp; (try (with_reducible rfl)))
            try simp only [Act.put, List.setIfInBounds_toArray, List.set_cons_zero, List.set_cons_succ]
            refine wpAnyH_take (i := 31) (oi := { dst := some 83, op := Go.Op.move (Go.Operand.tmp 7), type := 3, pos := "law.go:49", after := #[{ on := 23, ground := Go.Ground.guard }], guard := some (23, false) }) (v := ?_) rfl (by kernel_rfl) (by kernel_rfl) (by kernel_rfl) (fun _ _ _ h => h) (Or.inl ⟨by rfl, ?_⟩) (by assumption) ?_
            rotate_left
            · (intro w hSw; (try dsimp only at hSw); go_simp; (try (with_reducible rfl)))
            try simp only [Act.put, List.setIfInBounds_toArray, List.set_cons_zero, List.set_cons_succ]
            refine wpAnyH_take (i := 32) (oi := { dst := some 84, op := Go.Op.indexAddr 31 (Go.Operand.tmp 82) (Go.Operand.tmp 83), type := 0, pos := "law.go:49", after := #[{ on := 30, ground := Go.Ground.data }, { on := 31, ground := Go.Ground.data }, { on := 23, ground := Go.Ground.guard }], guard := some (23, false) }) (v := ?_) rfl (by kernel_rfl) (by kernel_rfl) (by kernel_rfl) (fun _ _ _ h => h) (Or.inl ⟨by rfl, ?_⟩) (by assumption) ?_
            rotate_left
            · (intro w hSw; (try dsimp only at hSw); go_simp; (try (with_reducible rfl)))
            try simp only [Act.put, List.setIfInBounds_toArray, List.set_cons_zero, List.set_cons_succ]
            refine wpAnyH_take (i := 33) (oi := { dst := some 85, op := Go.Op.load 35 (Go.Operand.tmp 84), type := 35, pos := "law.go:49", after := #[{ on := 32, ground := Go.Ground.data }, { on := 23, ground := Go.Ground.guard }], guard := some (23, false) }) (v := ?_) rfl (by kernel_rfl) (by kernel_rfl) (by kernel_rfl) (fun _ _ _ h => h) (Or.inl ⟨by rfl, ?_⟩) (by assumption) ?_
            rotate_left
            · (intro w hSw; (try dsimp only at hSw); go_simp; (try (with_reducible rfl)))
            try simp only [Act.put, List.setIfInBounds_toArray, List.set_cons_zero, List.set_cons_succ]
            refine wpAnyH_take (i := 35) (oi := { dst := some 87, op := Go.Op.move (Go.Operand.tmp 0), type := 22, pos := "law.go:49", after := #[{ on := 23, ground := Go.Ground.guard }], guard := some (23, false) }) (v := ?_) rfl (by kernel_rfl) (by kernel_rfl) (by kernel_rfl) (fun _ _ _ h => h) (Or.inl ⟨by rfl, ?_⟩) (by assumption) ?_
            rotate_left
            · (intro w hSw; (try dsimp only at hSw); go_simp; (try (with_reducible rfl)))
            try simp only [Act.put, List.setIfInBounds_toArray, List.set_cons_zero, List.set_cons_succ]
            refine wpAnyH_take (i := 36) (oi := { dst := some 88, op := Go.Op.move (Go.Operand.tmp 1), type := 31, pos := "law.go:49", after := #[{ on := 23, ground := Go.Ground.guard }], guard := some (23, false) }) (v := ?_) rfl (by kernel_rfl) (by kernel_rfl) (by kernel_rfl) (fun _ _ _ h => h) (Or.inl ⟨by rfl, ?_⟩) (by assumption) ?_
            rotate_left
            · (intro w hSw; (try dsimp only at hSw); go_simp; (try (with_reducible rfl)))
            try simp only [Act.put, List.setIfInBounds_toArray, List.set_cons_zero, List.set_cons_succ]
            refine wpAnyH_take (i := 37) (oi := { dst := some 89, op := Go.Op.move (Go.Operand.tmp 7), type := 3, pos := "law.go:49", after := #[{ on := 23, ground := Go.Ground.guard }], guard := some (23, false) }) (v := ?_) rfl (by kernel_rfl) (by kernel_rfl) (by kernel_rfl) (fun _ _ _ h => h) (Or.inl ⟨by rfl, ?_⟩) (by assumption) ?_
            rotate_left
            · (intro w hSw; (try dsimp only at hSw); go_simp; (try (with_reducible rfl)))
            try simp only [Act.put, List.setIfInBounds_toArray, List.set_cons_zero, List.set_cons_succ]
            refine wpAnyH_take (i := 38) (oi := { dst := some 90, op := Go.Op.binOp Go.BinOp.sub 3 (Go.Operand.tmp 89) (Go.Operand.const (Go.Value.int Go.IntKind.i64 1)) 3, type := 3, pos := "law.go:49", after := #[{ on := 37, ground := Go.Ground.data }, { on := 23, ground := Go.Ground.guard }], guard := some (23, false) }) (v := ?_) rfl (by kernel_rfl) (by kernel_rfl) (by kernel_rfl) (fun _ _ _ h => h) (Or.inl ⟨by rfl, ?_⟩) (by assumption) ?_
            rotate_left
            · (intro w hSw; (try dsimp only at hSw); go_simp; (try (with_reducible rfl)))
            try simp only [Act.put, List.setIfInBounds_toArray, List.set_cons_zero, List.set_cons_succ]
            refine wpAnyH_take (i := 39) (oi := { dst := some 91, op := Go.Op.indexAddr 31 (Go.Operand.tmp 88) (Go.Operand.tmp 90), type := 0, pos := "law.go:49", after := #[{ on := 36, ground := Go.Ground.data }, { on := 38, ground := Go.Ground.data }, { on := 23, ground := Go.Ground.guard }], guard := some (23, false) }) (v := ?_) rfl (by kernel_rfl) (by kernel_rfl) (by kernel_rfl) (fun _ _ _ h => h) (Or.inl ⟨by rfl, ?_⟩) (by assumption) ?_
            rotate_left
            · (intro w hSw; (try dsimp only at hSw); go_simp; (try (with_reducible rfl)))
            try simp only [Act.put, List.setIfInBounds_toArray, List.set_cons_zero, List.set_cons_succ]
            refine wpAnyH_take (i := 40) (oi := { dst := some 92, op := Go.Op.load 35 (Go.Operand.tmp 91), type := 35, pos := "law.go:49", after := #[{ on := 39, ground := Go.Ground.data }, { on := 23, ground := Go.Ground.guard }], guard := some (23, false) }) (v := ?_) rfl (by kernel_rfl) (by kernel_rfl) (by kernel_rfl) (fun _ _ _ h => h) (Or.inl ⟨by rfl, ?_⟩) (by assumption) ?_
            rotate_left
            · (intro w hSw; (try dsimp only at hSw); go_simp; (try (with_reducible rfl)))
            try simp only [Act.put, List.setIfInBounds_toArray, List.set_cons_zero, List.set_cons_succ]
            refine wpAnyH_take (i := 41) (oi := { dst := some 93, op := Go.Op.move (Go.Operand.tmp 1), type := 31, pos := "law.go:49", after := #[{ on := 23, ground := Go.Ground.guard }], guard := some (23, false) }) (v := ?_) rfl (by kernel_rfl) (by kernel_rfl) (by kernel_rfl) (fun _ _ _ h => h) (Or.inl ⟨by rfl, ?_⟩) (by assumption) ?_
            rotate_left
            · (intro w hSw; (try dsimp only at hSw); go_simp; (try (with_reducible rfl)))
            try simp only [Act.put, List.setIfInBounds_toArray, List.set_cons_zero, List.set_cons_succ]
            refine wpAnyH_take (i := 42) (oi := { dst := some 94, op := Go.Op.move (Go.Operand.tmp 7), type := 3, pos := "law.go:49", after := #[{ on := 23, ground := Go.Ground.guard }], guard := some (23, false) }) (v := ?_) rfl (by kernel_rfl) (by kernel_rfl) (by kernel_rfl) (fun _ _ _ h => h) (Or.inl ⟨by rfl, ?_⟩) (by assumption) ?_
            rotate_left
            · (intro w hSw; (try dsimp only at hSw); go_simp; (try (with_reducible rfl)))
            try simp only [Act.put, List.setIfInBounds_toArray, List.set_cons_zero, List.set_cons_succ]
            refine wpAnyH_take (i := 43) (oi := { dst := some 95, op := Go.Op.indexAddr 31 (Go.Operand.tmp 93) (Go.Operand.tmp 94), type := 0, pos := "law.go:49", after := #[{ on := 41, ground := Go.Ground.data }, { on := 42, ground := Go.Ground.data }, { on := 23, ground := Go.Ground.guard }], guard := some (23, false) }) (v := ?_) rfl (by kernel_rfl) (by kernel_rfl) (by kernel_rfl) (fun _ _ _ h => h) (Or.inl ⟨by rfl, ?_⟩) (by assumption) ?_
            rotate_left
            · (intro w hSw; (try dsimp only at hSw); go_simp; (try (with_reducible rfl)))
            try simp only [Act.put, List.setIfInBounds_toArray, List.set_cons_zero, List.set_cons_succ]
            refine wpAnyH_take (i := 44) (oi := { dst := some 96, op := Go.Op.load 35 (Go.Operand.tmp 95), type := 35, pos := "law.go:49", after := #[{ on := 43, ground := Go.Ground.data }, { on := 23, ground := Go.Ground.guard }], guard := some (23, false) }) (v := ?_) rfl (by kernel_rfl) (by kernel_rfl) (by kernel_rfl) (fun _ _ _ h => h) (Or.inl ⟨by rfl, ?_⟩) (by assumption) ?_
            rotate_left
            · (intro w hSw; (try dsimp only at hSw); go_simp; (try (with_reducible rfl)))
            try simp only [Act.put, List.setIfInBounds_toArray, List.set_cons_zero, List.set_cons_succ]
            refine wpAnyH_ready (rs := [34]) (by kernel_rfl) (by simp) ?_
            refine AllReadyH.cons (o := { dst := some 86, op := Go.Op.call { callee := Go.Callee.value (Go.Operand.func 28), args := #[Go.Operand.tmp 76, Go.Operand.tmp 81, Go.Operand.tmp 85], argTypes := #[27, 35, 35] }, type := 4, pos := "law.go:49", after := #[{ on := 24, ground := Go.Ground.data }, { on := 29, ground := Go.Ground.data }, { on := 33, ground := Go.Ground.data }, { on := 23, ground := Go.Ground.chain }, { on := 23, ground := Go.Ground.guard }], guard := some (23, false) }) rfl (fun K hK => ?_) AllReadyH.nil
            go_simp
            refine (hY1.out _ _ lc hst).mono ?_
            rintro e wD ⟨HD, rfl, lD, hD, enD⟩
            replace lc := Hp.le_trans lc lD
            replace hst := hD
            replace en5 := en5.trans enD
            refine hK.out _ _ (kk _ _ _ lc hst) (fun hHeld => ?_)
            clear hK K
            try simp only [Act.put, List.setIfInBounds_toArray, List.set_cons_zero, List.set_cons_succ]
            refine wpAnyH_ready (rs := [45]) (by kernel_rfl) (by simp) ?_
            refine AllReadyH.cons (o := { dst := some 97, op := Go.Op.call { callee := Go.Callee.value (Go.Operand.func 29), args := #[Go.Operand.tmp 87, Go.Operand.tmp 92, Go.Operand.tmp 96], argTypes := #[22, 35, 35] }, type := 4, pos := "law.go:49", after := #[{ on := 35, ground := Go.Ground.data }, { on := 40, ground := Go.Ground.data }, { on := 44, ground := Go.Ground.data }, { on := 34, ground := Go.Ground.chain }, { on := 23, ground := Go.Ground.guard }], guard := some (23, false) }) rfl (fun K hK => ?_) AllReadyH.nil
            go_simp
            refine (hY2.out _ _ lc hst).mono ?_
            rintro e wC ⟨rfl, hbC⟩
            replace hst := hst.below hbC
            replace en5 := en5.trans (bel_env hbC)
            refine hK.out _ _ (kk _ _ _ lc hst) (fun hHeld => ?_)
            clear hK K
            try simp only [Act.put, List.setIfInBounds_toArray, List.set_cons_zero, List.set_cons_succ]
            refine wpAnyH_take (i := 46) (oi := { dst := some 98, op := Go.Op.binOp Go.BinOp.neq 4 (Go.Operand.tmp 86) (Go.Operand.tmp 97) 4, type := 4, pos := "law.go:49", after := #[{ on := 34, ground := Go.Ground.data }, { on := 45, ground := Go.Ground.data }, { on := 23, ground := Go.Ground.guard }], guard := some (23, false) }) (v := ?_) rfl (by kernel_rfl) (by kernel_rfl) (by kernel_rfl) (fun _ _ _ h => h) (Or.inl ⟨by rfl, ?_⟩) (by assumption) ?_
            rotate_left
            · (intro w hSw; (try dsimp only at hSw); go_simp; (try (with_reducible rfl)))
            try simp only [Act.put, List.setIfInBounds_toArray, List.set_cons_zero, List.set_cons_succ]
            refine wpAnyH_take (i := 47) (oi := { dst := some 99, op := Go.Op.pick (Go.Operand.tmp 75) (Go.Operand.const (Go.Value.bool true)) (Go.Operand.tmp 98), type := 4, pos := "law.go:49", after := #[{ on := 23, ground := Go.Ground.data }, { on := 46, ground := Go.Ground.data }], guard := none }) (v := ?_) rfl (by kernel_rfl) (by kernel_rfl) (by kernel_rfl) (fun _ _ _ h => h) (Or.inl ⟨by rfl, ?_⟩) (by assumption) ?_
            rotate_left
            · (intro w hSw; (try dsimp only at hSw); go_simp; (try (with_reducible rfl)))
            try simp only [Act.put, List.setIfInBounds_toArray, List.set_cons_zero, List.set_cons_succ]
            refine wpAnyH_done (by kernel_rfl) ?_ _
            all_goals
              have hi2 := Lib.hid (show j + 2 ≤ 13 by omega)
              clear hX1 hX2 hY1 hY2 kk hB1 hB2 hjw hjw2 hjw3 hjw4 c1 c2
              go_wp2_with fail
              go_roundw
              case rel => exact ⟨j + 2, _, by omega, hi2.out, by go_num, Hp.le_trans li lc, hst, en5⟩
              case measure => first | (simp [intOf]; done) | (simp [intOf]; omega)
          · have hlti : ¬ (i : Int) < (X.length : Int) := by omega
            have hltd : decide (i < X.length) = false := decide_eq_false hlt
            have hw := Lib.hid (work.out Hi _ wr (Hp.le_trans l0H (Hp.le_trans l59 li)) hst hen)
            go_wp2_with fail
            refine hw.out.mono ?_
            rintro e w12 ⟨rfl, hz⟩
            go_wp2_with fail
            go_ret
            exact ⟨rfl, hz.out⟩
      · have hne : (gErr [] (l.map rp) != 0) = true := by simpa using hE
        generalize gErr [] (l.map rp) = E at *
        go_wp2_with fail
        refine (work.out H1 _ _ l1 h3 en3).mono ?_
        rintro e w4 ⟨rfl, hz⟩
        go_wp2_with fail
        go_ret
        exact ⟨rfl, hz.out⟩
end Go.Proofs.YtcbckeoalmjcoaaGreat
