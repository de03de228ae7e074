/- Joined texts: CSorts. -/
import Derived.Test.YtcbckeoalmjcoaaGreatCS26
import Derived.Test.YtcbckeoalmjcoaaGreatCS29
/- Law 17: CompsSorts. -/
set_option linter.unusedVariables false
set_option linter.unusedSimpArgs false
namespace Go.Proofs.YtcbckeoalmjcoaaGreat
open Go.RowKit Go.Cw Go.Fl
attribute [local go_sem ↓] eql_id neq_id
open Classical in
set_option maxRecDepth 100000 in
set_option maxHeartbeats 40000000 in
theorem compsSorts_any (u v x : Value) (l : List Rc) (f : List Id) (X : List Lv) (w : World) (hx : Rw w 5 u (recs l)) (hl : ∀ x ∈ l, RcR w x) (hv : Rw w 2 v (idl f)) (hX : LvR w x X) :
    Calls Tryz.prog 4 #[u, v, x] w fun e w' => e = .returned (.bool true) ∧ Below w.heap.size w w' := by
  obtain ⟨A, n, c, rfl, hn, hnc, hc⟩ := hx.form
  rw [recs_len] at hn
  obtain rfl : n = l.length := by omega
  obtain ⟨A2, n2, c2, rfl, hn2, hnc2, hc2⟩ := hv.form
  rw [idl_len] at hn2
  obtain rfl : n2 = f.length := by omega
  obtain ⟨A3, n3, c3, rfl, hn3, hnc3, hc3⟩ := hX.row.form
  rw [vals_len] at hn3
  obtain rfl : n3 = X.length := by omega
  clear hn hn2 hn3
  have hrd := hx.rd
  have hvd := hv.rd
  have hXd := hX.row.rd
  have hXe : Hid (∀ y ∈ X, Rd (snap w) 2 y.2 (idl y.1)) := Lib.hid (fun y hy => (hX.el y hy).rd)
  have hld : Hid (∀ x ∈ l, RcD (snap w) x) := Lib.hid (fun x hm => ⟨(hl x hm).d.rd, (hl x hm).b.rd, (hl x hm).ok⟩)
  obtain ⟨H1, hH1⟩ : ∃ H1, H1 = snap w := ⟨_, rfl⟩
  have h1 : St H1 [] w := by rw [hH1]; exact St.start w
  have l1 : Hp.le (snap w) H1 := by rw [hH1]; exact Hp.le_refl _
  have en1 := Env.refl w
  have hFew := few15_any (.slice A l.length c) l 14 _ ((hrd.mono l1).rw h1) (fun x hm => ((hld.out x hm).mono l1).rw h1)
  obtain ⟨B, hB⟩ : ∃ B, (fewR l && decide ((l.length : Int) ≤ 14)) = B := ⟨_, rfl⟩
  rw [hB] at hFew
  replace hFew := Lib.hid hFew
  have hck := Lib.hid (fun (w' : World) (h' : St H1 [] w') => refGr_any (.slice A l.length c) l w' ((hrd.mono l1).rw h') (fun x hm => ((hld.out x hm).mono l1).rw h'))
  clear hx hl hH1 hv hX
  have hwk : ∀ (H' : Hp) (l' : List HA) (w' w'' : World), Hp.le (snap w) H' → St H' l' w' → Env w w' → Below w'.heap.size w' w'' → Hid (Below w.heap.size w w'') := fun H' l' w' w'' hl h en hb => Lib.hid ((h.weaken hl |>.below hb).toBelow (en.trans (bel_env hb)))
  go_enter Tryz.func4, Tryz.ntmps4
  go_wp2_with fail
  refine hFew.out.mono ?_
  rintro e w2 ⟨rfl, hb2⟩
  have h2 := h1.below hb2
  have en2 := en1.trans (bel_env hb2)
  clear hFew
  have work : ∀ (H' : Hp) (w' : World), Hp.le (snap w) H' → St H' [] w' → Env w w' → Calls Tryz.prog 10 #[] w' fun e w'' => e = .returned (.bool true) ∧ Hid (Below w.heap.size w w'') := fun H' w' hl h' en => (works17 w').mono (by
    rintro e w'' ⟨rfl, hb⟩
    exact ⟨rfl, hwk H' [] w' w'' hl h' en hb⟩)
  replace work := Lib.hid work
  cases B with
  | false =>
    go_wp2_with fail
    refine (work.out H1 _ l1 h2 en2).mono ?_
    rintro e w3 ⟨rfl, hz⟩
    go_wp2_with fail
    go_ret
    exact ⟨rfl, hz.out⟩
  | true =>
    have hl20 : l.length ≤ 14 := by
      rw [Bool.and_eq_true, decide_eq_true_eq] at hB
      omega
    by_cases hf20 : (20 : Int) < (f.length : Int)
    · go_wp2_with fail
      refine (work.out H1 _ l1 h2 en2).mono ?_
      rintro e w3 ⟨rfl, hz⟩
      go_wp2_with fail
      go_ret
      exact ⟨rfl, hz.out⟩
    by_cases hX20 : (20 : Int) < (X.length : Int)
    · go_wp2_with fail
      refine (work.out H1 _ l1 h2 en2).mono ?_
      rintro e w3 ⟨rfl, hz⟩
      go_wp2_with fail
      go_ret
      exact ⟨rfl, hz.out⟩
    have hf20' : f.length ≤ 20 := by omega
    have hX20' : X.length ≤ 20 := by omega
    go_wp2_with fail
    refine (hck.out _ h2).mono ?_
    rintro e w3 ⟨rfl, hb3⟩
    have h3 := h2.below hb3
    have en3 := en2.trans (bel_env hb3)
    by_cases hE : gErr [] (l.map rp) = 0
    · have hok : ∀ x ∈ l, recErr (rp x) = 0 := fun x hm => gErr_zero _ _ hE (rp x) (List.mem_map.2 ⟨x, hm, rfl⟩)
      have hl16 : ∀ x ∈ l, x.2.2.2.2.1.length ≤ 16 := fun x hm => (recErr_len _ (hok x hm)).1
      have hN := Lib.hid ((newGr_any (.slice A l.length c) l w3 ((hrd.mono l1).rw h3) (fun x hm => ((hld.out x hm).mono l1).rw h3) (by omega)).mono (fun e w' h => NewR.ok h (by rw [List.length_map]; omega)))
      rw [hE]
      go_wp2_with fail
      refine hN.out.mono ?_
      rintro e w4 (⟨_, p, L, H, hle, h4, hg, hLm, en4, rfl⟩ | ⟨hno, _⟩)
      case inr => exact absurd hE hno
      have hlen : L.length = l.length := by have := congrArg List.length hLm; simpa using this
      have l1H : Hp.le H1 H := Hp.le_trans (fun k o hk => h3.imm k o hk) hle
      replace en4 := en3.trans en4
      have l0H := Hp.le_trans l1 l1H
      have hrd2 := hrd.mono l0H
      have hldH : Hid (∀ x ∈ l, RcD H x) := Lib.hid (fun x hm => (hld.out x hm).mono l0H)
      have hrids : rids L = rids l := by rw [rids_rp, rids_rp, hLm]
      have hvd2 := hvd.mono l0H
      have hXd2 := hXd.mono l0H
      have hXe2 : Hid (∀ y ∈ X, Rd H 2 y.2 (idl y.1)) := Lib.hid (fun y hy => (hXe.out y hy).mono l0H)
      have hCS := csorted_any p L (.slice A2 f.length c2) f H [] w4 h4 hg (hvd2.rw h4) (by omega)
      have hRS := fun (Hc : Hp) (fr : List HA) (w' : World) (hl : Hp.le H Hc) (h' : St Hc fr w') => ref17Sorted_any (.slice A l.length c) (.slice A2 f.length c2) l f Hc fr w' h' (hrd2.mono hl) (fun x hm => (hldH.out x hm).mono hl) (by omega) (hvd2.mono hl) (by omega)
      have hRM := fun (a b : Id) (Hc : Hp) (fr : List HA) (w' : World) (hl : Hp.le H Hc) (h' : St Hc fr w') => refMut_any (.slice A l.length c) l a b Hc fr w' h' (hrd2.mono hl) (fun x hm => (hldH.out x hm).mono hl) hl16 (by omega)
      have hCM := fun (a b : Id) (Hc : Hp) (fr : List HA) (w' : World) (hl : Hp.le H Hc) (h' : St Hc (GrA p L :: fr) w') => mutual_any p L a b Hc fr w' h' (hg.mono hl) (by omega)
      rw [hrids, hLm] at hCM
      replace hCS := Lib.hid hCS
      replace hRS := Lib.hid hRS
      replace hRM := Lib.hid hRM
      replace hCM := Lib.hid hCM
      clear hN hck hld hrd hvd hXd hXe h3 en3 hb3 hb2 h2 en2 hE hok hB h1 en1
      go_wp2_with fail
      refine hCS.out.mono ?_
      rintro e w5 ⟨sv, R, H5, rfl, l5, h5, en5, hR⟩
      rw [hLm] at hR
      obtain ⟨sv1, sv2, sv3, rfl, _⟩ := h5.row_form
      obtain ⟨H6, l6, h6, hRd⟩ := h5.row_keep
      replace en5 := en4.trans en5
      have l56 := Hp.le_trans l5 l6
      clear hCS h5 h4 en4
      go_wp2_with fail
      refine (hRS.out H6 _ w5 l56 h6).mono ?_
      rintro e w6 ⟨rv, R2, H7, rfl, l7, h7, en7, hR2⟩
      obtain rfl := sortedOf_eq hR hR2
      obtain ⟨rv1, rv2, rv3, rfl, _⟩ := h7.row_form
      obtain ⟨H8, l8, h8, hRd2⟩ := h7.row_keep
      replace en7 := en5.trans en7
      have l78 := Hp.le_trans l7 l8
      have l58 := Hp.le_trans l56 l78
      have hSa := sameIds_any _ _ R R w6 ((hRd.mono l78).rw h8) (hRd2.rw h8)
      rw [decide_eq_true rfl] at hSa
      replace hSa := Lib.hid hSa
      clear hRS h6 h7 en5 hR hR2
      go_wp2_with fail
      refine hSa.out.mono ?_
      rintro e w7 ⟨rfl, hb7⟩
      have h9 := h8.below hb7
      have en9 := en7.trans (bel_env hb7)
      clear hSa h8 en7 hb7 hRd hRd2
      go_wp2_with fail
      go_loopw [9] (fun s9 wr => ∃ (i : Nat) (H' : Hp), i ≤ f.length ∧ s9 = .int .i64 (i : Int) ∧ Hp.le H8 H' ∧ St H' [GrA p L] wr ∧ Env w wr) (fun s9 _ => f.length - (intOf s9).toNat)
      case atStart => exact ⟨0, H8, by omega, by go_num, Hp.le_refl _, h9, en9⟩
      case round =>
        clear h9 en9
        obtain ⟨i, H9, hi, rfl, l9, hst, hen⟩ := hrel
        by_cases hit : i < f.length
        · have hi1 := Lib.hid (show i + 1 ≤ f.length by omega)
          have h0t : 0 < f.length := by omega
          obtain ⟨b, off, hA, hcr⟩ := Rd.form2 (hvd2.mono (Hp.le_trans l58 l9)) (by omega)
          cases hA
          have q0 := hcr _ _ (idl_fst f 0 h0t)
          have q1 := hcr _ _ (idl_snd f 0 h0t)
          have r0 := hcr _ _ (idl_fst f i hit)
          have r1 := hcr _ _ (idl_snd f i hit)
          rw [← Nat.add_assoc] at r1
          simp only [Nat.zero_mul, Nat.zero_add, Nat.add_zero] at q0 q1
          clear hcr
          generalize f[0] = a at *
          generalize f[i] = bb at *
          have hM1 := fun (Hc : Hp) (w' : World) (hl : Hp.le H Hc) (h' : St Hc [GrA p L] w') => hCM.out a bb Hc [] w' hl h'
          have hM2 := fun (Hc : Hp) (w' : World) (hl : Hp.le H Hc) (h' : St Hc [GrA p L] w') => hRM.out a bb Hc [GrA p L] w' hl h'
          have hA1 := fun (Hc : Hp) (w' : World) (hl : Hp.le H Hc) (h' : St Hc [GrA p L] w') => compsAt_any (.slice A3 X.length c3) X bb w' ⟨(hXd2.mono hl).rw h', fun x hx => ((hXe2.out x hx).mono hl).rw h'⟩
          have hA2 := fun (Hc : Hp) (w' : World) (hl : Hp.le H Hc) (h' : St Hc [GrA p L] w') => refAt_any (.slice A3 X.length c3) X bb w' ⟨(hXd2.mono hl).rw h', fun x hx => ((hXe2.out x hx).mono hl).rw h'⟩
          unfold AtR at hA1 hA2
          generalize atFrom bb (lists X) 0 = z1 at *
          generalize decide (a ∈ rids l ∧ bb ∈ rids l ∧ muD (l.map rp) a bb) = bo at *
          replace hA1 := Lib.hid hA1
          replace hA2 := Lib.hid hA2
          replace hM1 := Lib.hid hM1
          replace hM2 := Lib.hid hM2
          obtain ⟨a0, a1⟩ := a
          obtain ⟨b0, b1⟩ := bb
          simp only at q0 q1 r0 r1
          have kk : ∀ (H' : Hp) (l' : List HA) (w' : World), Hp.le H9 H' → St H' l' w' → w'.cell? ⟨b, off, none⟩ = some (.int .i64 a0) ∧ w'.cell? ⟨b, off + 1, none⟩ = some (.int .i64 a1) ∧ w'.cell? ⟨b, off + i * 2, none⟩ = some (.int .i64 b0) ∧ w'.cell? ⟨b, off + i * 2 + 1, none⟩ = some (.int .i64 b1) := fun H' l' w' hl h' => ⟨h'.cell (Hp.cell_le hl q0), h'.cell (Hp.cell_le hl q1), h'.cell (Hp.cell_le hl r0), h'.cell (Hp.cell_le hl r1)⟩
          have l59 := Hp.le_trans l58 l9
          replace hst := hst.drew
          replace hen := hen.drew
          have lc := Hp.le_refl H9
          have hbo : (bo != bo) = false := by simp
          have hzz : (z1 != z1) = false := by simp
          replace kk := Lib.hid kk
          clear q0 q1 r0 r1
          go_wp2_with fail
          refine wp_region_held_drew (S := fun w' => w'.cell? ⟨b, off, none⟩ = some (.int .i64 a0) ∧ w'.cell? ⟨b, off + 1, none⟩ = some (.int .i64 a1) ∧ w'.cell? ⟨b, off + i * 2, none⟩ = some (.int .i64 b0) ∧ w'.cell? ⟨b, off + i * 2 + 1, none⟩ = some (.int .i64 b1)) (by kernel_rfl) (kk.out _ _ _ lc hst) (fun hHeld => ?_)
          refine wpAnyH_take (i := 0) (oi := { dst := some 52, op := Go.Op.move (Go.Operand.tmp 7), type := 27, pos := "law.go:40", after := #[], guard := none }) (v := ?_) rfl (by kernel_rfl) (by kernel_rfl) (by kernel_rfl) (fun _ _ _ h => h) (Or.inl ⟨by rfl, ?_⟩) (by assumption) ?_
          rotate_left
          · (intro w hSw; (try dsimp only at hSw); go_simp; (try (with_reducible rfl)))
          try simp only [Act.put, List.setIfInBounds_toArray, List.set_cons_zero, List.set_cons_succ]
          refine wpAnyH_take (i := 1) (oi := { dst := some 53, op := Go.Op.move (Go.Operand.tmp 1), type := 35, pos := "law.go:40", after := #[], guard := none }) (v := ?_) rfl (by kernel_rfl) (by kernel_rfl) (by kernel_rfl) (fun _ _ _ h => h) (Or.inl ⟨by rfl, ?_⟩) (by assumption) ?_
          rotate_left
          · (intro w hSw; (try dsimp only at hSw); go_simp; (try (with_reducible rfl)))
          try simp only [Act.put, List.setIfInBounds_toArray, List.set_cons_zero, List.set_cons_succ]
          refine wpAnyH_take (i := 2) (oi := { dst := some 54, op := Go.Op.indexAddr 35 (Go.Operand.tmp 53) (Go.Operand.const (Go.Value.int Go.IntKind.i64 0)), type := 0, pos := "law.go:40", after := #[{ on := 1, ground := Go.Ground.data }], guard := none }) (v := ?_) rfl (by kernel_rfl) (by kernel_rfl) (by kernel_rfl) (fun _ _ _ h => h) (Or.inl ⟨by rfl, ?_⟩) (by assumption) ?_
          rotate_left
          · (intro w hSw; (try dsimp only at hSw); go_simp; (try (with_reducible rfl)))
          try simp only [Act.put, List.setIfInBounds_toArray, List.set_cons_zero, List.set_cons_succ]
          refine wpAnyH_take (i := 3) (oi := { dst := some 55, op := Go.Op.load 41 (Go.Operand.tmp 54), type := 41, pos := "law.go:40", after := #[{ on := 2, ground := Go.Ground.data }], guard := none }) (v := ?_) rfl (by kernel_rfl) (by kernel_rfl) (by kernel_rfl) (fun _ _ _ h => h) (Or.inl ⟨by rfl, ?_⟩) (by assumption) ?_
          rotate_left
          · (intro w hSw; (try dsimp only at hSw); go_simp; (try (with_reducible rfl)))
          try simp only [Act.put, List.setIfInBounds_toArray, List.set_cons_zero, List.set_cons_succ]
          refine wpAnyH_take (i := 4) (oi := { dst := some 56, op := Go.Op.move (Go.Operand.tmp 1), type := 35, pos := "law.go:40", after := #[], guard := none }) (v := ?_) rfl (by kernel_rfl) (by kernel_rfl) (by kernel_rfl) (fun _ _ _ h => h) (Or.inl ⟨by rfl, ?_⟩) (by assumption) ?_
          rotate_left
          · (intro w hSw; (try dsimp only at hSw); go_simp; (try (with_reducible rfl)))
          try simp only [Act.put, List.setIfInBounds_toArray, List.set_cons_zero, List.set_cons_succ]
          refine wpAnyH_take (i := 5) (oi := { dst := some 57, op := Go.Op.move (Go.Operand.tmp 9), type := 3, pos := "law.go:40", after := #[], guard := none }) (v := ?_) rfl (by kernel_rfl) (by kernel_rfl) (by kernel_rfl) (fun _ _ _ h => h) (Or.inl ⟨by rfl, ?_⟩) (by assumption) ?_
          rotate_left
          · (intro w hSw; (try dsimp only at hSw); go_simp; (try (with_reducible rfl)))
          try simp only [Act.put, List.setIfInBounds_toArray, List.set_cons_zero, List.set_cons_succ]
          refine wpAnyH_take (i := 6) (oi := { dst := some 58, op := Go.Op.indexAddr 35 (Go.Operand.tmp 56) (Go.Operand.tmp 57), type := 0, pos := "law.go:40", after := #[{ on := 4, ground := Go.Ground.data }, { on := 5, ground := Go.Ground.data }], guard := none }) (v := ?_) rfl (by kernel_rfl) (by kernel_rfl) (by kernel_rfl) (fun _ _ _ h => h) (Or.inl ⟨by rfl, ?_⟩) (by assumption) ?_
          rotate_left
          · (intro w hSw; (try dsimp only at hSw); go_simp; (try (with_reducible rfl)))
          try simp only [Act.put, List.setIfInBounds_toArray, List.set_cons_zero, List.set_cons_succ]
          refine wpAnyH_take (i := 7) (oi := { dst := some 59, op := Go.Op.load 41 (Go.Operand.tmp 58), type := 41, pos := "law.go:40", after := #[{ on := 6, ground := Go.Ground.data }], guard := none }) (v := ?_) rfl (by kernel_rfl) (by kernel_rfl) (by kernel_rfl) (fun _ _ _ h => h) (Or.inl ⟨by rfl, ?_⟩) (by assumption) ?_
          rotate_left
          · (intro w hSw; (try dsimp only at hSw); go_simp; (try (with_reducible rfl)))
          try simp only [Act.put, List.setIfInBounds_toArray, List.set_cons_zero, List.set_cons_succ]
          refine wpAnyH_take (i := 9) (oi := { dst := some 61, op := Go.Op.move (Go.Operand.tmp 0), type := 22, pos := "law.go:40", after := #[], guard := none }) (v := ?_) rfl (by kernel_rfl) (by kernel_rfl) (by kernel_rfl) (fun _ _ _ h => h) (Or.inl ⟨by rfl, ?_⟩) (by assumption) ?_
          rotate_left
          · (intro w hSw; (try dsimp only at hSw); go_simp; (try (with_reducible rfl)))
          try simp only [Act.put, List.setIfInBounds_toArray, List.set_cons_zero, List.set_cons_succ]
          refine wpAnyH_take (i := 10) (oi := { dst := some 62, op := Go.Op.move (Go.Operand.tmp 1), type := 35, pos := "law.go:40", after := #[], guard := none }) (v := ?_) rfl (by kernel_rfl) (by kernel_rfl) (by kernel_rfl) (fun _ _ _ h => h) (Or.inl ⟨by rfl, ?_⟩) (by assumption) ?_
          rotate_left
          · (intro w hSw; (try dsimp only at hSw); go_simp; (try (with_reducible rfl)))
          try simp only [Act.put, List.setIfInBounds_toArray, List.set_cons_zero, List.set_cons_succ]
          refine wpAnyH_take (i := 11) (oi := { dst := some 63, op := Go.Op.indexAddr 35 (Go.Operand.tmp 62) (Go.Operand.const (Go.Value.int Go.IntKind.i64 0)), type := 0, pos := "law.go:40", after := #[{ on := 10, ground := Go.Ground.data }], guard := none }) (v := ?_) rfl (by kernel_rfl) (by kernel_rfl) (by kernel_rfl) (fun _ _ _ h => h) (Or.inl ⟨by rfl, ?_⟩) (by assumption) ?_
          rotate_left
          · (intro w hSw; (try dsimp only at hSw); go_simp; (try (with_reducible rfl)))
          try simp only [Act.put, List.setIfInBounds_toArray, List.set_cons_zero, List.set_cons_succ]
          refine wpAnyH_take (i := 12) (oi := { dst := some 64, op := Go.Op.load 41 (Go.Operand.tmp 63), type := 41, pos := "law.go:40", after := #[{ on := 11, ground := Go.Ground.data }], guard := none }) (v := ?_) rfl (by kernel_rfl) (by kernel_rfl) (by kernel_rfl) (fun _ _ _ h => h) (Or.inl ⟨by rfl, ?_⟩) (by assumption) ?_
          rotate_left
          · (intro w hSw; (try dsimp only at hSw); go_simp; (try (with_reducible rfl)))
          try simp only [Act.put, List.setIfInBounds_toArray, List.set_cons_zero, List.set_cons_succ]
          refine wpAnyH_take (i := 13) (oi := { dst := some 65, op := Go.Op.move (Go.Operand.tmp 1), type := 35, pos := "law.go:40", after := #[], guard := none }) (v := ?_) rfl (by kernel_rfl) (by kernel_rfl) (by kernel_rfl) (fun _ _ _ h => h) (Or.inl ⟨by rfl, ?_⟩) (by assumption) ?_
          rotate_left
          · (intro w hSw; (try dsimp only at hSw); go_simp; (try (with_reducible rfl)))
          try simp only [Act.put, List.setIfInBounds_toArray, List.set_cons_zero, List.set_cons_succ]
          refine wpAnyH_take (i := 14) (oi := { dst := some 66, op := Go.Op.move (Go.Operand.tmp 9), type := 3, pos := "law.go:40", after := #[], guard := none }) (v := ?_) rfl (by kernel_rfl) (by kernel_rfl) (by kernel_rfl) (fun _ _ _ h => h) (Or.inl ⟨by rfl, ?_⟩) (by assumption) ?_
          rotate_left
          · (intro w hSw; (try dsimp only at hSw); go_simp; (try (with_reducible rfl)))
          try simp only [Act.put, List.setIfInBounds_toArray, List.set_cons_zero, List.set_cons_succ]
          refine wpAnyH_take (i := 15) (oi := { dst := some 67, op := Go.Op.indexAddr 35 (Go.Operand.tmp 65) (Go.Operand.tmp 66), type := 0, pos := "law.go:40", after := #[{ on := 13, ground := Go.Ground.data }, { on := 14, ground := Go.Ground.data }], guard := none }) (v := ?_) rfl (by kernel_rfl) (by kernel_rfl) (by kernel_rfl) (fun _ _ _ h => h) (Or.inl ⟨by rfl, ?_⟩) (by assumption) ?_
          rotate_left
          · (intro w hSw; (try dsimp only at hSw); go_simp; (try (with_reducible rfl)))
          try simp only [Act.put, List.setIfInBounds_toArray, List.set_cons_zero, List.set_cons_succ]
          refine wpAnyH_take (i := 16) (oi := { dst := some 68, op := Go.Op.load 41 (Go.Operand.tmp 67), type := 41, pos := "law.go:40", after := #[{ on := 15, ground := Go.Ground.data }], guard := none }) (v := ?_) rfl (by kernel_rfl) (by kernel_rfl) (by kernel_rfl) (fun _ _ _ h => h) (Or.inl ⟨by rfl, ?_⟩) (by assumption) ?_
          rotate_left
          · (intro w hSw; (try dsimp only at hSw); go_simp; (try (with_reducible rfl)))
          try simp only [Act.put, List.setIfInBounds_toArray, List.set_cons_zero, List.set_cons_succ]
          refine wpAnyH_ready (rs := [8]) (by kernel_rfl) (by simp) ?_
          refine AllReadyH.cons (o := { dst := some 60, op := Go.Op.call { callee := Go.Callee.value (Go.Operand.func 18), args := #[Go.Operand.tmp 52, Go.Operand.tmp 55, Go.Operand.tmp 59], argTypes := #[27, 41, 41] }, type := 4, pos := "law.go:40", after := #[{ on := 0, ground := Go.Ground.data }, { on := 3, ground := Go.Ground.data }, { on := 7, ground := Go.Ground.data }], guard := none }) rfl (fun K hK => ?_) AllReadyH.nil
          go_simp
          refine (hM1.out _ _ (Hp.le_trans l59 lc) hst).mono ?_
          rintro e wC ⟨HC, rfl, lC, hC, enC⟩
          replace hst := hC
          replace hen := hen.trans enC
          replace lc := Hp.le_trans lc lC
          refine hK.out _ _ (kk.out _ _ _ lc hst) (fun hHeld => ?_)
          clear hK K hC enC lC
          try simp only [Act.put, List.setIfInBounds_toArray, List.set_cons_zero, List.set_cons_succ]
          refine wpAnyH_ready (rs := [17]) (by kernel_rfl) (by simp) ?_
          refine AllReadyH.cons (o := { dst := some 69, op := Go.Op.call { callee := Go.Callee.value (Go.Operand.func 19), args := #[Go.Operand.tmp 61, Go.Operand.tmp 64, Go.Operand.tmp 68], argTypes := #[22, 41, 41] }, type := 4, pos := "law.go:40", after := #[{ on := 9, ground := Go.Ground.data }, { on := 12, ground := Go.Ground.data }, { on := 16, ground := Go.Ground.data }, { on := 8, ground := Go.Ground.chain }], guard := none }) rfl (fun K hK => ?_) AllReadyH.nil
          go_simp
          refine (hM2.out _ _ (Hp.le_trans l59 lc) hst).mono ?_
          rintro e wC ⟨HC, rfl, lC, hC, enC⟩
          replace hst := hC
          replace hen := hen.trans enC
          replace lc := Hp.le_trans lc lC
          refine hK.out _ _ (kk.out _ _ _ lc hst) (fun hHeld => ?_)
          clear hK K hC enC lC
          try simp only [Act.put, List.setIfInBounds_toArray, List.set_cons_zero, List.set_cons_succ]
          refine wpAnyH_take (i := 18) (oi := { dst := some 70, op := Go.Op.binOp Go.BinOp.neq 4 (Go.Operand.tmp 60) (Go.Operand.tmp 69) 4, type := 4, pos := "law.go:40", after := #[{ on := 8, ground := Go.Ground.data }, { on := 17, ground := Go.Ground.data }], guard := none }) (v := ?_) rfl (by kernel_rfl) (by kernel_rfl) (by kernel_rfl) (fun _ _ _ h => h) (Or.inl ⟨by rfl, ?_⟩) (by assumption) ?_
          rotate_left
          · (intro w hSw; (try dsimp only at hSw); go_simp; (try (with_reducible rfl)))
          try simp only [Act.put, List.setIfInBounds_toArray, List.set_cons_zero, List.set_cons_succ]
          refine wpAnyH_take (i := 19) (oi := { dst := some 71, op := Go.Op.move (Go.Operand.tmp 70), type := 4, pos := "law.go:40", after := #[{ on := 18, ground := Go.Ground.data }, { on := 17, ground := Go.Ground.chain }], guard := none }) (v := ?_) rfl (by kernel_rfl) (by kernel_rfl) (by kernel_rfl) (fun _ _ _ h => h) (Or.inl ⟨by rfl, ?_⟩) (by assumption) ?_
          rotate_left
          · (intro w hSw; (try dsimp only at hSw); go_simp; (try (with_reducible rfl)))
          try simp only [Act.put, List.setIfInBounds_toArray, List.set_cons_zero, List.set_cons_succ]
          refine wpAnyH_take (i := 20) (oi := { dst := some 72, op := Go.Op.move (Go.Operand.tmp 2), type := 31, pos := "law.go:40", after := #[{ on := 19, ground := Go.Ground.guard }], guard := some (19, false) }) (v := ?_) rfl (by kernel_rfl) (by kernel_rfl) (by kernel_rfl) (fun _ _ _ h => h) (Or.inl ⟨by rfl, ?_⟩) (by assumption) ?_
          rotate_left
          · (intro w hSw; (try dsimp only at hSw); go_simp; (try (with_reducible rfl)))
          try simp only [Act.put, List.setIfInBounds_toArray, List.set_cons_zero, List.set_cons_succ]
          refine wpAnyH_take (i := 21) (oi := { dst := some 73, op := Go.Op.move (Go.Operand.tmp 1), type := 35, pos := "law.go:40", after := #[{ on := 19, ground := Go.Ground.guard }], guard := some (19, false) }) (v := ?_) rfl (by kernel_rfl) (by kernel_rfl) (by kernel_rfl) (fun _ _ _ h => h) (Or.inl ⟨by rfl, ?_⟩) (by assumption) ?_
          rotate_left
          · (intro w hSw; (try dsimp only at hSw); go_simp; (try (with_reducible rfl)))
          try simp only [Act.put, List.setIfInBounds_toArray, List.set_cons_zero, List.set_cons_succ]
          refine wpAnyH_take (i := 22) (oi := { dst := some 74, op := Go.Op.move (Go.Operand.tmp 9), type := 3, pos := "law.go:40", after := #[{ on := 19, ground := Go.Ground.guard }], guard := some (19, false) }) (v := ?_) rfl (by kernel_rfl) (by kernel_rfl) (by kernel_rfl) (fun _ _ _ h => h) (Or.inl ⟨by rfl, ?_⟩) (by assumption) ?_
          rotate_left
          · (intro w hSw; (try dsimp only at hSw); go_simp; (try (with_reducible rfl)))
          try simp only [Act.put, List.setIfInBounds_toArray, List.set_cons_zero, List.set_cons_succ]
          refine wpAnyH_take (i := 23) (oi := { dst := some 75, op := Go.Op.indexAddr 35 (Go.Operand.tmp 73) (Go.Operand.tmp 74), type := 0, pos := "law.go:40", after := #[{ on := 21, ground := Go.Ground.data }, { on := 22, ground := Go.Ground.data }, { on := 19, ground := Go.Ground.guard }], guard := some (19, false) }) (v := ?_) rfl (by kernel_rfl) (by kernel_rfl) (by kernel_rfl) (fun _ _ _ h => h) (Or.inl ⟨by rfl, ?_⟩) (by assumption) ?_
          rotate_left
          · (intro w hSw; (try dsimp only at hSw); go_simp; (try (with_reducible rfl)))
          try simp only [Act.put, List.setIfInBounds_toArray, List.set_cons_zero, List.set_cons_succ]
          refine wpAnyH_take (i := 24) (oi := { dst := some 76, op := Go.Op.load 41 (Go.Operand.tmp 75), type := 41, pos := "law.go:40", after := #[{ on := 23, ground := Go.Ground.data }, { on := 19, ground := Go.Ground.guard }], guard := some (19, false) }) (v := ?_) rfl (by kernel_rfl) (by kernel_rfl) (by kernel_rfl) (fun _ _ _ h => h) (Or.inl ⟨by rfl, ?_⟩) (by assumption) ?_
          rotate_left
          · (intro w hSw; (try dsimp only at hSw); go_simp; (try (with_reducible rfl)))
          try simp only [Act.put, List.setIfInBounds_toArray, List.set_cons_zero, List.set_cons_succ]
          refine wpAnyH_take (i := 26) (oi := { dst := some 78, op := Go.Op.move (Go.Operand.tmp 2), type := 31, pos := "law.go:40", after := #[{ on := 19, ground := Go.Ground.guard }], guard := some (19, false) }) (v := ?_) rfl (by kernel_rfl) (by kernel_rfl) (by kernel_rfl) (fun _ _ _ h => h) (Or.inl ⟨by rfl, ?_⟩) (by assumption) ?_
          rotate_left
          · (intro w hSw; (try dsimp only at hSw); go_simp; (try (with_reducible rfl)))
          try simp only [Act.put, List.setIfInBounds_toArray, List.set_cons_zero, List.set_cons_succ]
          refine wpAnyH_take (i := 27) (oi := { dst := some 79, op := Go.Op.move (Go.Operand.tmp 1), type := 35, pos := "law.go:40", after := #[{ on := 19, ground := Go.Ground.guard }], guard := some (19, false) }) (v := ?_) rfl (by kernel_rfl) (by kernel_rfl) (by kernel_rfl) (fun _ _ _ h => h) (Or.inl ⟨by rfl, ?_⟩) (by assumption) ?_
          rotate_left
          · (intro w hSw; (try dsimp only at hSw); go_simp; (try (with_reducible rfl)))
          try simp only [Act.put, List.setIfInBounds_toArray, List.set_cons_zero, List.set_cons_succ]
          refine wpAnyH_take (i := 28) (oi := { dst := some 80, op := Go.Op.move (Go.Operand.tmp 9), type := 3, pos := "law.go:40", after := #[{ on := 19, ground := Go.Ground.guard }], guard := some (19, false) }) (v := ?_) rfl (by kernel_rfl) (by kernel_rfl) (by kernel_rfl) (fun _ _ _ h => h) (Or.inl ⟨by rfl, ?_⟩) (by assumption) ?_
          rotate_left
          · (intro w hSw; (try dsimp only at hSw); go_simp; (try (with_reducible rfl)))
          try simp only [Act.put, List.setIfInBounds_toArray, List.set_cons_zero, List.set_cons_succ]
          refine wpAnyH_take (i := 29) (oi := { dst := some 81, op := Go.Op.indexAddr 35 (Go.Operand.tmp 79) (Go.Operand.tmp 80), type := 0, pos := "law.go:40", after := #[{ on := 27, ground := Go.Ground.data }, { on := 28, ground := Go.Ground.data }, { on := 19, ground := Go.Ground.guard }], guard := some (19, false) }) (v := ?_) rfl (by kernel_rfl) (by kernel_rfl) (by kernel_rfl) (fun _ _ _ h => h) (Or.inl ⟨by rfl, ?_⟩) (by assumption) ?_
          rotate_left
          · (intro w hSw; (try dsimp only at hSw); go_simp; (try (with_reducible rfl)))
          try simp only [Act.put, List.setIfInBounds_toArray, List.set_cons_zero, List.set_cons_succ]
          refine wpAnyH_take (i := 30) (oi := { dst := some 82, op := Go.Op.load 41 (Go.Operand.tmp 81), type := 41, pos := "law.go:40", after := #[{ on := 29, ground := Go.Ground.data }, { on := 19, ground := Go.Ground.guard }], guard := some (19, false) }) (v := ?_) rfl (by kernel_rfl) (by kernel_rfl) (by kernel_rfl) (fun _ _ _ h => h) (Or.inl ⟨by rfl, ?_⟩) (by assumption) ?_
          rotate_left
          · (intro w hSw; (try dsimp only at hSw); go_simp; (try (with_reducible rfl)))
          try simp only [Act.put, List.setIfInBounds_toArray, List.set_cons_zero, List.set_cons_succ]
          refine wpAnyH_ready (rs := [25]) (by kernel_rfl) (by simp) ?_
          refine AllReadyH.cons (o := { dst := some 77, op := Go.Op.call { callee := Go.Callee.value (Go.Operand.func 20), args := #[Go.Operand.tmp 72, Go.Operand.tmp 76], argTypes := #[31, 41] }, type := 3, pos := "law.go:40", after := #[{ on := 20, ground := Go.Ground.data }, { on := 24, ground := Go.Ground.data }, { on := 19, ground := Go.Ground.chain }, { on := 19, ground := Go.Ground.guard }], guard := some (19, false) }) rfl (fun K hK => ?_) AllReadyH.nil
          go_simp
          refine (hA1.out _ _ (Hp.le_trans l59 lc) hst).mono ?_
          rintro e wA ⟨rfl, hbA⟩
          replace hst := hst.below hbA
          replace hen := hen.trans (bel_env hbA)
          refine hK.out _ _ (kk.out _ _ _ lc hst) (fun hHeld => ?_)
          clear hK K hbA
          try simp only [Act.put, List.setIfInBounds_toArray, List.set_cons_zero, List.set_cons_succ]
          refine wpAnyH_ready (rs := [31]) (by kernel_rfl) (by simp) ?_
          refine AllReadyH.cons (o := { dst := some 83, op := Go.Op.call { callee := Go.Callee.value (Go.Operand.func 21), args := #[Go.Operand.tmp 78, Go.Operand.tmp 82], argTypes := #[31, 41] }, type := 3, pos := "law.go:40", after := #[{ on := 26, ground := Go.Ground.data }, { on := 30, ground := Go.Ground.data }, { on := 25, ground := Go.Ground.chain }, { on := 19, ground := Go.Ground.guard }], guard := some (19, false) }) rfl (fun K hK => ?_) AllReadyH.nil
          go_simp
          refine (hA2.out _ _ (Hp.le_trans l59 lc) hst).mono ?_
          rintro e wA ⟨rfl, hbA⟩
          replace hst := hst.below hbA
          replace hen := hen.trans (bel_env hbA)
          refine hK.out _ _ (kk.out _ _ _ lc hst) (fun hHeld => ?_)
          clear hK K hbA
          try simp only [Act.put, List.setIfInBounds_toArray, List.set_cons_zero, List.set_cons_succ]
          refine wpAnyH_take (i := 32) (oi := { dst := some 84, op := Go.Op.binOp Go.BinOp.neq 3 (Go.Operand.tmp 77) (Go.Operand.tmp 83) 3, type := 4, pos := "law.go:40", after := #[{ on := 25, ground := Go.Ground.data }, { on := 31, ground := Go.Ground.data }, { on := 19, ground := Go.Ground.guard }], guard := some (19, false) }) (v := ?_) rfl (by kernel_rfl) (by kernel_rfl) (by kernel_rfl) (fun _ _ _ h => h) (Or.inl ⟨by rfl, ?_⟩) (by assumption) ?_
          rotate_left
          · (intro w hSw; (try dsimp only at hSw); go_simp; (try (with_reducible rfl)))
          try simp only [Act.put, List.setIfInBounds_toArray, List.set_cons_zero, List.set_cons_succ]
          refine wpAnyH_take (i := 33) (oi := { dst := some 85, op := Go.Op.pick (Go.Operand.tmp 71) (Go.Operand.const (Go.Value.bool true)) (Go.Operand.tmp 84), type := 4, pos := "law.go:40", after := #[{ on := 19, ground := Go.Ground.data }, { on := 32, ground := Go.Ground.data }], guard := none }) (v := ?_) rfl (by kernel_rfl) (by kernel_rfl) (by kernel_rfl) (fun _ _ _ h => h) (Or.inl ⟨by rfl, ?_⟩) (by assumption) ?_
          rotate_left
          · (intro w hSw; (try dsimp only at hSw); go_simp; (try (with_reducible rfl)))
          try simp only [Act.put, List.setIfInBounds_toArray, List.set_cons_zero, List.set_cons_succ]
          refine wpAnyH_done (by kernel_rfl) ?_ _
          all_goals
            have l8c := Hp.le_trans l9 lc
            clear hA1 hA2 hM1 hM2 kk
            go_wp2_with fail
            go_roundw
            case rel => exact ⟨i + 1, _, hi1.out, by go_num, l8c, hst, hen⟩
            case measure => simp [intOf]; have := hi1.out; omega
        · obtain rfl : i = f.length := by omega
          have hw := Lib.hid (work.out H9 wr (Hp.le_trans l0H (Hp.le_trans l58 l9)) hst.drop hen)
          go_wp2_with fail
          refine hw.out.mono ?_
          rintro e w3 ⟨rfl, hz⟩
          go_wp2_with fail
          go_ret
          exact ⟨rfl, hz.out⟩
    · have hne : (gErr [] (l.map rp) != 0) = true := by simpa using hE
      generalize gErr [] (l.map rp) = E at *
      go_wp2_with fail
      refine (work.out H1 _ l1 h3 en3).mono ?_
      rintro e w4 ⟨rfl, hz⟩
      go_wp2_with fail
      go_ret
      exact ⟨rfl, hz.out⟩
end Go.Proofs.YtcbckeoalmjcoaaGreat
