/- Joined texts: COf. -/
import Derived.Test.YtcbckeoalmjcoaaGreatCGR22
/- comps.Of: all components. -/
set_option linter.unusedVariables false
set_option linter.unusedSimpArgs false
namespace Go.Proofs.YtcbckeoalmjcoaaGreat
open Go.RowKit Go.Cw Go.Fl
attribute [local go_sem ↓] eql_id neq_id
set_option maxRecDepth 100000 in
set_option maxHeartbeats 16000000 in
theorem comps_any (p : Nat) (L : List Rc) (H : Hp) (fr : List HA) (w : World) (h : St H (GrA p L :: fr) w) (hg : GrOk H L) (hL : L.length ≤ 1000) :
    Calls Tryz.prog 13 #[grP p] w (CompsR p L H fr w) := by
  have hn : Hid ((rids L).Nodup) := Lib.hid (gr_nodup h)
  have hfin : ∀ (v : Value) (X : List Lv) (H' : Hp) (w' : World), Hp.le H H' → St H' (Row 35 1 v (vals X) :: GrA p L :: fr) w' → Env w w' → LvOk H' X → CompsOf (L.map rp) (lists X) → CompsR p L H fr w (.returned v) w' := fun v X H' w' h1 h2 h3 h4 h5 => ⟨v, X, H', rfl, h1, h2, h3, h4, h5⟩
  generalize CompsR p L H fr w = Q at *
  replace hfin := Lib.hid hfin
  obtain ⟨H1, l1, h1, y⟩ := h.box #[grP p] 27
  have y0 : H1.cell w.heap.size 0 = some (grP p) := y 0 _ rfl
  have g0 := h1.cell y0
  have gl := World.block_lt_of_cell? _ _ g0
  have en1 := (Env.refl w).alloc (.cells #[grP p] 27)
  have hCl := Lib.hid (closed_any p L H1 fr _ h1 (hg.mono l1) hL)
  have hmf : ∀ (fn : Fn) (first cap : Array Value) (w : World), (Instr.makeFunc fn first cap).run Tryz.prog w = .ok (.func fn first cap) w := fun _ _ _ _ => rfl
  replace hg := Lib.hid hg
  clear y h
  go_enter Tryz.func13, Tryz.ntmps13
  go_wp2_with fail
  generalize w.heap.size = gx at *
  generalize w.alloc (.cells #[grP p] 27) = W at *
  refine hCl.out.mono ?_
  rintro e w2 ⟨cv, C, H2, rfl, l2, h2, en2, hCr, hCm⟩
  replace en2 := en1.trans en2
  have hU : Hid (∀ x, x ∈ C ↔ clU (L.map rp) x) := Lib.hid (fun x => by
    rw [hCm]
    unfold clU
    rw [pids_rp]
    exact ⟨fun ⟨h1, h2⟩ => ⟨h1, Classical.byContradiction fun h3 => h2 ((opn_iff hn.out h1).2 h3)⟩, fun ⟨h1, h2⟩ => ⟨h1, fun h3 => (opn_iff hn.out h1).1 h3 h2⟩⟩)
  have hCn : Hid (C.Nodup) := Lib.hid (rises_nodup hCr)
  have hCl2 : C.length ≤ 1000 := by
    have := sub_len16 C (rids L) hCn.out (fun a ha => ((hCm a).1 ha).1)
    rw [List.length_map] at this
    omega
  obtain ⟨cA, cn, cc, rfl, hc1, hc2, _⟩ := h2.row_form
  rw [idl_len] at hc1
  obtain rfl : cn = C.length := by omega
  obtain ⟨H3, l3, h3, hcd⟩ := h2.row_keep
  have hNw := Lib.hid (setNew_any (.slice cA C.length cc) C w2 (hcd.rw h3))
  clear hCl h1 h2 en1 hCm hCr hc1 g0 gl
  go_wp2_with fail
  refine hNw.out.mono ?_
  rintro e w3 he
  obtain ⟨ps, rfl, h4, en4⟩ := ResE.lift h3 he
  rw [dedup_self hCn.out] at h4
  replace en4 := en2.trans en4
  have h5 := (h4.row_nil 41 2).blk #[setP ps, .func (.func 39) #[] #[.pointer (some ⟨gx, 0, none⟩)], .slice none 0 0] 71
  have en5 := en4.alloc (.cells #[setP ps, .func (.func 39) #[] #[.pointer (some ⟨gx, 0, none⟩)], .slice none 0 0] 71)
  have eF1 : ∀ args w, (callFunc 39 args).run Tryz.prog w = .ok (.enter 39 args) w := enters_of Tryz.func39 (by kernel_rfl) rfl
  have l13 := Hp.le_trans l2 l3
  have yy := Hp.cell_le l13 y0
  have hgy : GrOk H3 L := hg.out.mono (Hp.le_trans l1 l13)
  have hN1 := Lib.hid (next1 (p := p) (gb := gx) (L := L) (H := H3) hgy yy)
  have hl1 : Hid (∀ x, (dpsR (L.map rp) x).length ≤ 1000) := Lib.hid (fun x => by have := (lookR_len hgy x).1; unfold dpsR; omega)
  replace eF1 := Lib.hid eF1
  clear hNw h3 h4 en2 en4 he hgy
  go_wp2_with fail
  generalize w3.heap.size = pw at *
  generalize w3.alloc (.cells #[setP ps, .func (.func 39) #[] #[.pointer (some ⟨gx, 0, none⟩)], .slice none 0 0] 71) = W3 at *
  have h6 : St H3 (Blk pw #[setP ps, .func (.func 39) #[] #[.pointer (some ⟨gx, 0, none⟩)], .slice none 0 0] 71 :: SetA ps C :: Row 41 2 (.slice none 0 0) (idl []) :: GrA p L :: fr) W3 := St.perm h5 (List.Perm.cons _ (List.Perm.swap _ _ _))
  clear h5
  go_loopw [25] (fun s25 wr => ∃ (k : Nat) (H' : Hp) (L1 O : List Id) (ov : Value), k ≤ C.length ∧ s25 = .int .i64 (k : Int) ∧ Hp.le H3 H' ∧ St H' (Blk pw #[setP ps, .func (.func 39) #[] #[.pointer (some ⟨gx, 0, none⟩)], ov] 71 :: SetA ps L1 :: Row 41 2 ov (idl O) :: GrA p L :: fr) wr ∧ Env w wr ∧ Hid (Lp1 (dpsR (L.map rp)) C L1 O k)) (fun s25 _ => C.length - (intOf s25).toNat)
  case atStart => exact ⟨0, H3, C, [], _, by omega, by go_num, Hp.le_refl _, h6, en5, Lib.hid (Lp1.start hCn.out)⟩
  case round =>
    clear h6 en5
    obtain ⟨k, H4, L1, O, ov, hk, rfl, l4, hst, hen, hP⟩ := hrel
    by_cases hlt : k < C.length
    · obtain ⟨b, off, hA, hcr⟩ := ((hcd.mono l4).rw hst).cells (by omega)
      cases hA
      have q0 := hcr _ _ (idl_fst C k hlt)
      have q1 := hcr _ _ (idl_snd C k hlt)
      rw [← Nat.add_assoc] at q1
      clear hcr
      have ql := World.block_lt_of_cell? _ _ q0
      have hstep := Lib.hid (fun (L' O' : List Id) (hw : Went (dpsR (L.map rp)) L1 O C[k] L' O') => Lp1.step (fun a ha b hb => (hU.out b).2 (clU_step ((hU.out a).1 ha) hb)) hP.out hlt hw)
      generalize C[k] = x at *
      obtain ⟨H5, l5, h7, y⟩ := hst.box #[.int .i64 x.1, .int .i64 x.2] 41
      have v0 := h7.cell (show H5.cell wr.heap.size 0 = some (.int .i64 x.1) from y 0 _ rfl)
      have v1 := h7.cell (show H5.cell wr.heap.size 1 = some (.int .i64 x.2) from y 1 _ rfl)
      have vl := World.block_lt_of_cell? _ _ v0
      have en7 := hen.alloc (.cells #[.int .i64 x.1, .int .i64 x.2] 41)
      have l45 := Hp.le_trans l4 l5
      have hFr := Lib.hid (cfrom_any pw ps 39 #[] #[.pointer (some ⟨gx, 0, none⟩)] (GrA p L) (dpsR (L.map rp)) C L1 O ov x H5 fr _ hCl2 hl1.out h7 (fun a H' fr w hl h => hN1.out a H' fr w (Hp.le_trans l45 hl) h) eF1.out hP.out.jv.iv hP.out.nd)
      have hk1 := Lib.hid (show k + 1 ≤ C.length by omega)
      clear y hst hen h7
      obtain ⟨x0, x1⟩ := x
      simp only at q0 q1 v0 v1
      go_wp2_with fail
      generalize wr.alloc (.cells #[.int .i64 x0, .int .i64 x1] 41) = wb at *
      refine hFr.out.mono ?_
      rintro e w8 ⟨ov', L', O', H6, rfl, l6, h8, en8, hw⟩
      replace en8 := en7.trans en8
      have hP2 := Lib.hid (hstep.out L' O' hw)
      clear hFr q0 q1 ql v0 v1 vl en7 hstep hw
      go_wp2_with fail
      go_roundw
      case rel => exact ⟨k + 1, H6, L', O', ov', hk1.out, by go_num, Hp.le_trans l45 l6, h8, en8, hP2⟩
      case measure => simp [intOf]; omega
    · obtain rfl : k = C.length := by omega
      have hF1 := Lib.hid hP.out.fin
      clear hP hlt hN1 hl1 eF1
      obtain ⟨oA, on, oc, rfl, ho1, ho2, _⟩ := (hst.pick 2 (by simp)).row_form
      rw [idl_len] at ho1
      obtain rfl : on = O.length := by omega
      obtain ⟨H5, l5, h7, hp⟩ := St.blk_for_good hst
      have p2 : H5.cell pw 2 = some (.slice oA O.length oc) := hp 2
      obtain ⟨H6, l6, h8, hod⟩ := (h7.pick 1 (by simp)).row_keep
      have h9 : St H6 (GrA p L :: fr) wr := (St.swap h8).pick 1 (by simp) |>.drop
      clear hp h7 h8 hst
      have l46 := Hp.le_trans l4 (Hp.le_trans l5 l6)
      replace p2 := Hp.cell_le l6 p2
      have y6 := Hp.cell_le l46 yy
      have c6 := hcd.mono l46
      have hOl : O.length ≤ 1000 := by
        have := sub_len16 O C hF1.out.nd (fun a ha => (hF1.out.all a).2 ha)
        omega
      clear l4 l5 l6 ho1
      have hD := h9.drew
      have hNw2 := Lib.hid (setNew_any (.slice cA C.length cc) C wr.drew (c6.rw hD))
      have kk : ∀ (H' : Hp) (l' : List HA) (w' : World), Hp.le H6 H' → St H' l' w' → w'.cell? ⟨gx, 0, none⟩ = some (grP p) := fun H' l' w' hl h' => h'.cell (Hp.cell_le hl y6)
      have kA := kk _ _ _ (Hp.le_refl _) hD
      have enD := hen.drew
      replace kk := Lib.hid kk
      clear h9 hen
      go_wp2_with fail
      refine wp_region_held_drew (S := fun w' => w'.cell? ⟨gx, 0, none⟩ = some (grP p)) (by kernel_rfl) kA (fun hHeld => ?_)
      refine wpAnyH_take (i := 0) (oi := { dst := some 33, op := Go.Op.move (Go.Operand.tmp 3), type := 35, pos := "comps.go:86", after := #[], guard := none }) (v := ?_) rfl (by kernel_rfl) (by kernel_rfl) (by kernel_rfl) (fun _ _ _ h => h) (Or.inl ⟨by rfl, ?_⟩) (by assumption) ?_
      rotate_left
      · (intro w hSw; (try dsimp only at hSw); go_simp; (try (with_reducible rfl)))
      try simp only [Act.put, List.setIfInBounds_toArray, List.set_cons_zero, List.set_cons_succ]
      refine wpAnyH_take (i := 2) (oi := { dst := some 35, op := Go.Op.load 27 (Go.Operand.tmp 1), type := 27, pos := "comps.go:86", after := #[], guard := none }) (v := ?_) rfl (by kernel_rfl) (by kernel_rfl) (by kernel_rfl) (fun _ _ _ h => h) (Or.inl ⟨by rfl, ?_⟩) (by assumption) ?_
      rotate_left
      · (intro w hSw; (try dsimp only at hSw); go_simp; (try (with_reducible rfl)))
      try simp only [Act.put, List.setIfInBounds_toArray, List.set_cons_zero, List.set_cons_succ]
      refine wpAnyH_take (i := 3) (oi := { dst := some 36, op := Go.Op.makeFunc (Go.Fn.func 42) #[Go.Operand.tmp 35] #[], type := 69, pos := "comps.go:86", after := #[{ on := 2, ground := Go.Ground.data }], guard := none }) (v := ?_) rfl (by kernel_rfl) (by kernel_rfl) (by kernel_rfl) (fun _ _ _ h => h) (Or.inl ⟨by rfl, ?_⟩) (by assumption) ?_
      rotate_left
      · (intro w hSw; (try dsimp only at hSw); go_simp; (try (with_reducible rfl)))
      try simp only [Act.put, List.setIfInBounds_toArray, List.set_cons_zero, List.set_cons_succ]
      refine wpAnyH_ready (rs := [1]) (by kernel_rfl) (by simp) ?_
      refine AllReadyH.cons (o := { dst := some 34, op := Go.Op.call { callee := Go.Callee.value (Go.Operand.func 38), args := #[Go.Operand.tmp 33], argTypes := #[35] }, type := 65, pos := "comps.go:86", after := #[{ on := 0, ground := Go.Ground.data }], guard := none }) rfl (fun K hK => ?_) AllReadyH.nil
      go_simp
      refine hNw2.out.mono ?_
      intro e w10 he
      obtain ⟨ps2, rfl, h10, en10⟩ := ResE.lift hD he
      rw [dedup_self hCn.out] at h10
      replace en10 := enD.trans en10
      refine hK.out _ _ (kk.out _ _ _ (Hp.le_refl _) h10) (fun hHeld2 => ?_)
      clear hK K hHeld
      try simp only [Act.put, List.setIfInBounds_toArray, List.set_cons_zero, List.set_cons_succ]
      refine wpAnyH_take (i := 4) (oi := { dst := some 37, op := Go.Op.build 71 #[(0, Go.Operand.tmp 34), (1, Go.Operand.tmp 36)], type := 71, pos := "comps.go:86", after := #[{ on := 1, ground := Go.Ground.data }, { on := 3, ground := Go.Ground.data }], guard := none }) (v := ?_) rfl (by kernel_rfl) (by kernel_rfl) (by kernel_rfl) (fun _ _ _ h => h) (Or.inl ⟨by rfl, ?_⟩) (by assumption) ?_
      rotate_left
      · (intro w hSw; (try dsimp only at hSw); go_simp; (try (with_reducible rfl)))
      try simp only [Act.put, List.setIfInBounds_toArray, List.set_cons_zero, List.set_cons_succ]
      refine wpAnyH_ready (rs := [5]) (by kernel_rfl) (by simp) ?_
      refine AllReadyH.cons (o := { dst := some 38, op := Go.Op.box 71 (Go.Operand.tmp 37), type := 64, pos := "comps.go:86", after := #[{ on := 4, ground := Go.Ground.data }], guard := none }) rfl (fun K hK => ?_) AllReadyH.nil
      go_simp
      refine hK.out _ _ (kk.out _ _ _ (Hp.le_refl _) (h10.alloc _)) (fun hHeld3 => ?_)
      clear hK K hHeld2
      try simp only [Act.put, List.setIfInBounds_toArray, List.set_cons_zero, List.set_cons_succ]
      refine wpAnyH_take (i := 6) (oi := { dst := some 7, op := Go.Op.assign (Go.Operand.tmp 38), type := 64, pos := "comps.go:86", after := #[{ on := 5, ground := Go.Ground.data }, { on := 1, ground := Go.Ground.chain }, { on := 0, ground := Go.Ground.phase }, { on := 1, ground := Go.Ground.phase }, { on := 2, ground := Go.Ground.phase }, { on := 3, ground := Go.Ground.phase }, { on := 4, ground := Go.Ground.phase }, { on := 5, ground := Go.Ground.phase }], guard := none }) (v := ?_) rfl (by kernel_rfl) (by kernel_rfl) (by kernel_rfl) (fun _ _ _ h => h) (Or.inl ⟨by rfl, ?_⟩) (by assumption) ?_
      rotate_left
      · (intro w hSw; (try dsimp only at hSw); go_simp; (try (with_reducible rfl)))
      try simp only [Act.put, List.setIfInBounds_toArray, List.set_cons_zero, List.set_cons_succ]
      refine wpAnyH_done (by kernel_rfl) ?_ _
      have h11 := (h10.row_nil 41 2).row_nil 35 1
      have h12 := h11.blk #[setP ps2, .func (.func 42) #[grP p] #[], .slice none 0 0] 71
      have en12 := en10.alloc (.cells #[setP ps2, .func (.func 42) #[grP p] #[], .slice none 0 0] 71)
      have h13 : St H6 (Blk w10.heap.size #[setP ps2, .func (.func 42) #[grP p] #[], .slice none 0 0] 71 :: SetA ps2 C :: Row 41 2 (.slice none 0 0) (idl []) :: GrA p L :: Row 35 1 (.slice none 0 0) (vals []) :: fr) (w10.alloc (.cells #[setP ps2, .func (.func 42) #[grP p] #[], .slice none 0 0] 71)) := St.perm h12 (List.Perm.cons _ (perm_O _ _ _ _ _))
      have eF2 : ∀ args w, (callFunc 42 args).run Tryz.prog w = .ok (.enter 42 args) w := enters_of Tryz.func42 (by kernel_rfl) rfl
      have hN2 := Lib.hid (next2 (p := p) (L := L) (H := H6) (hg.out.mono (Hp.le_trans l1 (Hp.le_trans l13 l46))) hL)
      have hl2 : Hid (∀ x, (usrF L x).length ≤ 1000) := Lib.hid (fun x => Nat.le_trans (usrF_len L x) hL)
      replace eF2 := Lib.hid eF2
      have hod6 := hod
      have hCv0 : Hid (Cv (muD (L.map rp)) (kfR (L.map rp)) (clU (L.map rp)) (O.drop O.length) C (lists [])) := Lib.hid (by
        rw [List.drop_length]
        exact ⟨fun a => by rw [hU.out]; simp, by simp [lists], by simp, by simp [lists], by simp [lists]⟩)
      clear h10 h11 h12 hNw2 hD kA enD en10 hHeld3 he kk
      generalize w10.heap.size = pv at *
      generalize w10.alloc (.cells #[setP ps2, .func (.func 42) #[grP p] #[], .slice none 0 0] 71) = W10 at *
      have pf := h13.cell p2
      have pl := World.block_lt_of_cell? _ _ pf
      have hwo : IntKind.i64.wrap ((O.length : Int) - 1) = (O.length : Int) - 1 := by rw [IntKind.wrap_i64]; omega
      go_wp2_with fail
      clear pf pl hwo
      go_loopw [8, 9] (fun s8 s9 wr => ∃ (i : Nat) (H' : Hp) (Lf Cc : List Id) (ov : Value) (X : List Lv), i ≤ O.length ∧ s9 = .int .i64 ((i : Int) - 1) ∧ Hp.le H6 H' ∧ St H' (Blk pv #[setP ps2, .func (.func 42) #[grP p] #[], ov] 71 :: SetA ps2 Lf :: Row 41 2 ov (idl Cc) :: GrA p L :: Row 35 1 s8 (vals X) :: fr) wr ∧ Env w wr ∧ Hid (LvOk H' X) ∧ Hid (Cv (muD (L.map rp)) (kfR (L.map rp)) (clU (L.map rp)) (O.drop i) Lf (lists X)) ∧ Hid (Lf.Nodup ∧ Lf.length ≤ 1000) ∧ X.length + i ≤ O.length) (fun _ s9 _ => (intOf s9 + 1).toNat)
      case atStart => exact ⟨O.length, H6, C, [], _, [], by omega, rfl, Hp.le_refl _, h13, en12, Lib.hid (fun x hx => by cases hx), hCv0, Lib.hid ⟨hCn.out, hCl2⟩, by simp⟩
      case round =>
        clear h13 en12 hCv0
        obtain ⟨i, H7, Lf, Cc, ov, X, hi, rfl, l7, hst, hen, hX, hcv, hLf, hXl⟩ := hrel
        obtain ⟨tA, tn, tc, rfl, ht1, ht2, _⟩ := (hst.pick 4 (by simp)).row_form
        rw [vals_len] at ht1
        obtain rfl : tn = X.length := by omega
        clear ht1
        cases i with
        | zero =>
          have hz9 : (((0 : Nat) : Int) - 1) = -1 := rfl
          rw [hz9]
          rw [List.drop_zero] at hcv
          obtain ⟨H8, l8, h15, hXd⟩ := (hst.pick 4 (by simp)).row_keep
          have h16 : St H8 (GrA p L :: fr) wr := St.drop (St.drop (St.drop h15))
          have hX8 := Lib.hid (hX.out.mono l8)
          have hXm : X.length ≤ 1000 := by omega
          have hcm : Hid (∀ R, KR (kfR (L.map rp)) R → (∀ a, a ∈ R ↔ a ∈ (lists X).map hdI) → CompsOf (L.map rp) (R.map (byHd (lists X)))) := Lib.hid (fun R h1 h2 => hcv.out.comps muD_symm muD_trans (fun a ha => (hF1.out.all a).1 ((hU.out a).2 ha)) h1 h2)
          have hhd : Hid (((lists X).map hdI).Nodup) := Lib.hid (cv_heads (muD_refl _) hcv.out)
          have hhu : Hid (∀ a ∈ (lists X).map hdI, a ∈ pids (L.map rp)) := Lib.hid (fun a ha => by
            obtain ⟨c, hc, rfl⟩ := List.mem_map.1 ha
            exact (hcv.out.one c hc).2.2.1.1)
          have hne : Hid (∀ c ∈ lists X, c ≠ []) := Lib.hid (fun c hc => (hcv.out.one c hc).1)
          have m1 := run_makeMap (P := Tryz.prog) 73 wr
          have h17 := ((h16.mp_made (C := slC)).row_nil 41 2)
          have en17 := hen.alloc (.map #[] 0)
          clear h15 h16 hst hen hcv hX hLf hF1 hN2 hl2 eF2 hod6 hod hU p2 hXl
          have l68 := Hp.le_trans l7 l8
          have y8 := Hp.cell_le l68 y6
          have hg8 := Lib.hid (hg.out.mono (Hp.le_trans l1 (Hp.le_trans l13 (Hp.le_trans l46 l68))))
          have h18 : St H8 (Row 41 2 (.slice none 0 0) (idl ((lists (X.take 0)).map hdI)) :: Mp slC wr.heap.size (hdE (X.take 0)) :: GrA p L :: fr) (wr.alloc (.map #[] 0)) := h17
          clear h17
          go_wp2_with fail
          clear m1
          generalize wr.heap.size = gm at *
          generalize wr.alloc (.map #[] 0) = W17 at *
          go_loopw [11, 79] (fun s11 s79 wr => ∃ (k : Nat), k ≤ X.length ∧ s79 = .int .i64 (k : Int) ∧ St H8 (Row 41 2 s11 (idl ((lists (X.take k)).map hdI)) :: Mp slC gm (hdE (X.take k)) :: GrA p L :: fr) wr ∧ Env w wr) (fun _ s79 _ => X.length - (intOf s79).toNat)
          case atStart => exact ⟨0, by omega, by go_num, h18, en17⟩
          case round =>
            clear h18 en17
            obtain ⟨k, hk, rfl, hst, hen⟩ := hrel
            obtain ⟨oA2, om2, oc2, rfl, ho1, ho2, _⟩ := hst.row_form
            have hkl : (idl ((lists (X.take k)).map hdI)).length = k * 2 := by rw [idl_len]; simp [lists]; omega
            obtain rfl : om2 = k := by omega
            by_cases hlt : om2 < X.length
            · obtain ⟨b, off, hA, hcr⟩ := (hXd.rw hst).cells (by omega)
              cases hA
              have q0 := hcr _ _ (vals_get X om2 hlt)
              rw [Nat.mul_one] at q0
              clear hcr
              have ql := World.block_lt_of_cell? _ _ q0
              have hfr := heads_fresh hhd.out om2 hlt
              have hts : X.take (om2 + 1) = X.take om2 ++ [X[om2]] := List.take_succ_eq_append_getElem hlt
              have hxr := hX8.out X[om2] (List.getElem_mem hlt)
              have hxn := hne.out X[om2].1 (List.mem_map.2 ⟨X[om2], List.getElem_mem hlt, rfl⟩)
              generalize X[om2] = x at *
              obtain ⟨xl, xv⟩ := x
              simp only at hxr hxn hfr q0
              obtain ⟨xA, xn, xc, rfl, hx1, hx2, _⟩ := hxr.form
              rw [idl_len] at hx1
              obtain rfl : xn = xl.length := by omega
              cases xl with
              | nil => exact absurd rfl hxn
              | cons a r =>
                obtain ⟨a0, a1⟩ := a
                obtain ⟨tb, toff, hA, htc⟩ := Rd.form2 hxr (by simp)
                cases hA
                have t0 : H8.cell tb toff = some (.int .i64 a0) := htc 0 _ rfl
                have t1 : H8.cell tb (toff + 1) = some (.int .i64 a1) := htc 1 _ rfl
                have u0 := hst.cell t0
                have u1 := hst.cell t1
                have ul := World.block_lt_of_cell? _ _ u0
                have hput := Lib.hid (hdE_put (X.take om2) (((a0, a1) :: r), .slice (some ⟨tb, toff, none⟩) ((a0, a1) :: r).length xc) hfr)
                have hids : Hid (idl ((lists (X.take (om2 + 1))).map hdI) = idl ((lists (X.take om2)).map hdI) ++ [.int .i64 a0, .int .i64 a1]) := Lib.hid (by
                  rw [hts, lists_app, List.map_append, idl_append]
                  rfl)
                have hent : Hid (hdE (X.take om2 ++ [(((a0, a1) :: r), .slice (some ⟨tb, toff, none⟩) ((a0, a1) :: r).length xc)]) = hdE (X.take (om2 + 1))) := Lib.hid (by rw [hts])
                have h19 : St H8 (Mp slC gm (hdE (X.take om2)) :: Row 41 2 (.slice oA2 om2 oc2) (idl ((lists (X.take om2)).map hdI)) :: GrA p L :: fr) wr := hst.swap
                have hk1 := Lib.hid (show om2 + 1 ≤ X.length by omega)
                clear hst hxr hxn hfr hts hkl ho1 hk
                go_wp2_with (first
                  | (at_mapUpdate; refine wpList_mput h19 rfl (.tmp 83) (.tmp 86) (.tmp 87) rfl Tryz.underlying73 rfl (a0, a1) rfl (.slice (some ⟨tb, toff, none⟩) ((a0, a1) :: r).length xc) rfl ?_; intro w20 h20 en20; have h21 : St H8 (Row 41 2 (.slice oA2 om2 oc2) (idl ((lists (X.take om2)).map hdI)) :: Mp slC gm (hdE (X.take (om2 + 1))) :: GrA p L :: fr) w20 := (by rw [← hent.out, ← hput.out]; exact h20.swap); replace en20 := hen.trans en20; clear q0 ql u0 u1 ul h19 h20; have u0 := h21.cell t0; have u1 := h21.cell t1; have ul := World.block_lt_of_cell? _ _ u0)
                  | (at_builtin; refine wpList_append rfl (.tmp 88) (.tmp 92) 35 35 rfl Tryz.underlying35 (.inl ⟨_, Tryz.underlying35⟩) (.agg #[.int .i64 0, .int .i64 0]) 16 info_id rfl (by decide) (by decide) rfl rfl (h21.alloc _) (News.new w20 _ 1 #[.int .i64 a0, .int .i64 a1] rfl (by simp [Value.oneCell'])) ?apB3 ?apK3))
                case apB3 => rw [idl_len]; simp [lists]; omega
                case apK3 =>
                  intro lv2 w22 h22 en22
                  replace en22 := (en20.alloc _).trans en22
                  have h23 : St H8 (Row 41 2 lv2 (idl ((lists (X.take (om2 + 1))).map hdI)) :: Mp slC gm (hdE (X.take (om2 + 1))) :: GrA p L :: fr) w22 := by rw [hids.out]; exact h22
                  go_wp2_with fail
                  go_roundw
                  case rel => exact ⟨om2 + 1, hk1.out, by go_num, h23, en22⟩
                  case measure => simp [intOf]; omega
            · obtain rfl : om2 = X.length := by omega
              rw [List.take_length] at hst hkl
              have hHl : ((lists X).map hdI).length ≤ 1000 := by simp [lists]; omega
              have hSo := Lib.hid (csorted_any p L (.slice oA2 X.length oc2) ((lists X).map hdI) H8 (Row 41 2 (.slice oA2 X.length oc2) (idl ((lists X).map hdI)) :: Mp slC gm (hdE X) :: fr) wr (hst.pick 2 (by simp)) hg8.out (hst.row_rw (by decide)) hHl)
              have g8 := hst.cell y8
              have gl8 := World.block_lt_of_cell? _ _ g8
              clear hst hkl ho1 hk hlt hne hhd
              go_wp2_with fail
              refine hSo.out.mono ?_
              rintro e w24 ⟨rv, R, H9, rfl, l9, h24, en24, hR⟩
              replace en24 := hen.trans en24
              have hRm : Hid (∀ a, a ∈ R ↔ a ∈ (lists X).map hdI) := Lib.hid (fun a => by
                rw [hR.2]
                exact ⟨fun h => h.1, fun h => ⟨h, hhu.out a h⟩⟩)
              have hFin := Lib.hid (hcm.out R hR.1 hRm.out)
              have hRn : R.Nodup := kr_nodup hR.1
              have hRl : R.length ≤ 1000 := by
                have := sub_len16 R _ hRn (fun a ha => (hRm.out a).1 ha)
                omega
              obtain ⟨rA, rn, rc, rfl, hr1, hr2, _⟩ := h24.row_form
              rw [idl_len] at hr1
              obtain rfl : rn = R.length := by omega
              obtain ⟨H10, l10, h25, hRd⟩ := h24.row_keep
              have l810 := Hp.le_trans l9 l10
              have h26 : St H10 (Row 35 1 (.slice none 0 0) (vals []) :: Mp slC gm (hdE X) :: GrA p L :: fr) w24 := St.row_nil (St.swap (St.drop (h25.pick 1 (by simp)))) 35 1
              clear hSo g8 gl8 hR hRn hhu hcm h24 h25 hr1 hen
              go_wp2_with fail
              have hY0 : lists [] = (R.take 0).map (byHd (lists X)) := rfl
              go_loopw [8, 99] (fun s8 s99 wr => ∃ (k : Nat) (H' : Hp) (Y : List Lv), k ≤ R.length ∧ s99 = .int .i64 (k : Int) ∧ Hp.le H10 H' ∧ St H' (Row 35 1 s8 (vals Y) :: Mp slC gm (hdE X) :: GrA p L :: fr) wr ∧ Env w wr ∧ Hid (LvOk H' Y) ∧ Hid (lists Y = (R.take k).map (byHd (lists X)))) (fun _ s99 _ => R.length - (intOf s99).toNat)
              case atStart => exact ⟨0, H10, [], by omega, by go_num, Hp.le_refl _, h26, en24, Lib.hid (fun x hx => by cases hx), Lib.hid hY0⟩
              case round =>
                clear h26 en24 hY0
                obtain ⟨k, H11, Y, hk, rfl, l11, hst, hen, hY, hYl⟩ := hrel
                obtain ⟨tA2, tn2, tc2, rfl, ht1, ht2, _⟩ := hst.row_form
                have hYn : Y.length = k := by
                  have := congrArg List.length hYl.out
                  simp [lists] at this
                  omega
                rw [vals_len] at ht1
                obtain rfl : tn2 = Y.length := by omega
                clear ht1
                by_cases hlt : k < R.length
                · obtain ⟨b, off, hA, hcr⟩ := ((hRd.mono l11).rw hst).cells (by omega)
                  cases hA
                  have q0 := hcr _ _ (idl_fst R k hlt)
                  have q1 := hcr _ _ (idl_snd R k hlt)
                  rw [← Nat.add_assoc] at q1
                  clear hcr
                  have ql := World.block_lt_of_cell? _ _ q0
                  have hts : R.take (k + 1) = R.take k ++ [R[k]] := List.take_succ_eq_append_getElem hlt
                  obtain ⟨y, hyX, hyl, hyb⟩ := hd_look X R[k] ((hRm.out _).1 (List.getElem_mem hlt))
                  generalize R[k] = x at *
                  obtain ⟨x0, x1⟩ := x
                  simp only at q0 q1
                  have hyr := (hX8.out y hyX).mono (Hp.le_trans l810 l11)
                  obtain ⟨yl, yv⟩ := y
                  simp only at hyr hyl hyb
                  obtain ⟨yA, yn, yc, rfl, _⟩ := hyr.form
                  obtain ⟨H12, l12, h27, z⟩ := hst.box #[.int .i64 x0, .int .i64 x1] 41
                  have v0 := h27.cell (show H12.cell wr.heap.size 0 = some (.int .i64 x0) from z 0 _ rfl)
                  have v1 := h27.cell (show H12.cell wr.heap.size 1 = some (.int .i64 x1) from z 1 _ rfl)
                  have vl := World.block_lt_of_cell? _ _ v0
                  have en27 := hen.alloc (.cells #[.int .i64 x0, .int .i64 x1] 41)
                  have hlk := (h27.swap).mp_get false Tryz.underlying73 (zero_ids _) (x0, x1)
                  rw [hyl] at hlk
                  have hY2 : Hid (LvOk H12 (Y ++ [(yl, .slice yA yn yc)])) := Lib.hid ((hY.out.mono l12).snoc (x := (yl, .slice yA yn yc)) (hyr.mono l12))
                  have hYl2 : Hid (lists (Y ++ [(yl, .slice yA yn yc)]) = (R.take (k + 1)).map (byHd (lists X))) := Lib.hid (by
                    rw [lists_app, hYl.out, hts, List.map_append, List.map_cons, List.map_nil, hyb]
                    rfl)
                  have hk1 := Lib.hid (show k + 1 ≤ R.length by omega)
                  clear z hst hen hts hyX hyl hyb hyr hY hYl
                  change (Instr.lookup 73 (.map (some gm)) (.agg #[.int .i64 x0, .int .i64 x1]) false).run Tryz.prog (wr.alloc (.cells #[.int .i64 x0, .int .i64 x1] 41)) = .ok (.slice yA yn yc) (wr.alloc (.cells #[.int .i64 x0, .int .i64 x1] 41)) at hlk
                  go_wp2_with (at_builtin; refine wpList_append rfl (.tmp 103) (.tmp 107) 31 31 rfl Tryz.underlying31 (.inl ⟨_, Tryz.underlying31⟩) (.slice none 0 0) 24 info_ids rfl (by decide) (by decide) rfl rfl (h27.alloc _) (news_at (wr.alloc (.cells #[.int .i64 x0, .int .i64 x1] 41)) _ 1 #[.slice yA yn yc] rfl (by simp [Value.oneCell']) (by simp)) ?apB4 ?apK4)
                  case apB4 => rw [vals_len]; simp; omega
                  case apK4 =>
                    intro lv2 w28 h28 en28
                    replace en28 := (en27.alloc _).trans en28
                    have h29 : St H12 (Row 35 1 lv2 (vals (Y ++ [(yl, .slice yA yn yc)])) :: Mp slC gm (hdE X) :: GrA p L :: fr) w28 := by rw [vals_app]; exact h28
                    clear h28 hlk h27 v0 v1 vl q0 q1 ql
                    go_wp2_with fail
                    go_roundw
                    case rel => exact ⟨k + 1, H12, _, hk1.out, by go_num, Hp.le_trans l11 l12, h29, en28, hY2, hYl2⟩
                    case measure => simp [intOf]; omega
                · obtain rfl : k = R.length := by omega
                  have hz := Lib.hid (hfin.out (.slice tA2 Y.length tc2) Y H11 wr (Hp.le_trans l1 (Hp.le_trans l13 (Hp.le_trans l46 (Hp.le_trans l68 (Hp.le_trans l810 l11))))) (hst.pick 1 (by simp)).drop hen hY.out (by rw [hYl.out, List.take_length]; exact hFin.out))
                  clear hst hY hYl hFin
                  go_wp2_with fail
                  exact hz.out
        | succ j =>
          have hj9 : (((j + 1 : Nat) : Int) - 1) = (j : Int) := by omega
          rw [hj9]
          have hlt : j < O.length := by omega
          have h14 : St H7 (Blk pv #[setP ps2, .func (.func 42) #[grP p] #[], .slice none 0 0] 71 :: SetA ps2 Lf :: Row 41 2 (.slice none 0 0) (idl []) :: GrA p L :: Row 35 1 (.slice tA X.length tc) (vals X) :: fr) (wr.setCell ⟨pv, 2, none⟩ (.slice none 0 0)) :=
            St.perm (((hst.blk_set 2 (.slice none 0 0)).pick 2 (by simp)).drop.row_nil 41 2) ((List.Perm.swap _ _ _).trans (List.Perm.cons _ (List.Perm.swap _ _ _)))
          have en14 : Env w (wr.setCell ⟨pv, 2, none⟩ (.slice none 0 0)) := hen.setCell _ _
          have sc := hst.blk_cell 2
          have sf := hst.blk_free 2
          have sl := hst.blk_lt
          obtain ⟨b, off, hA, hcr⟩ := ((hod6.mono l7).rw h14).cells (by omega)
          cases hA
          have q0 := hcr _ _ (idl_fst O j hlt)
          have q1 := hcr _ _ (idl_snd O j hlt)
          rw [← Nat.add_assoc] at q1
          clear hcr
          have hO : O = O.take j ++ O[j] :: O.drop (j + 1) := by rw [← List.drop_eq_getElem_cons hlt, List.take_append_drop]
          have hdr : O.drop j = O[j] :: O.drop (j + 1) := List.drop_eq_getElem_cons hlt
          have hstep := Lib.hid (fun (L' C' : List Id) (hw : Went (usrF L) Lf [] O[j] L' C') => lp2 hn.out hU.out hF1.out hO hcv.out hw)
          rw [← hdr] at hstep
          generalize O[j] = x at *
          clear hO hdr
          have pf := h14.cell (Hp.cell_le l7 p2)
          have hFr := Lib.hid (cfrom_any pv ps2 42 #[grP p] #[] (GrA p L) (usrF L) Lf Lf [] (.slice none 0 0) x H7 (Row 35 1 (.slice tA X.length tc) (vals X) :: fr) _ hLf.out.2 hl2.out h14 (fun a H' fr w hl h => hN2.out a H' fr w (Hp.le_trans l7 hl) h) eF2.out (Iv.new _ _) hLf.out.1)
          obtain ⟨x0, x1⟩ := x
          simp only at q0 q1
          clear hst hen h14
          go_wp2_with fail
          generalize wr.setCell ⟨pv, 2, none⟩ (.slice none 0 0) = wb at *
          refine hFr.out.mono ?_
          rintro e w15 ⟨ov', L', C', H8, rfl, l8, h15, en15, hw⟩
          replace en15 := en14.trans en15
          have hcases := hstep.out L' C' hw
          have hLf2 : Hid (L'.Nodup ∧ L'.length ≤ 1000) := Lib.hid ⟨hLf.out.1.sublist (Went.sub hw).1, Nat.le_trans (Went.sub hw).1.length_le hLf.out.2⟩
          have hCl : C'.length ≤ 1000 := Went.room hw hLf.out.1 hLf.out.2
          obtain ⟨vA, vn, vc, rfl, hv1, hv2, _⟩ := (h15.pick 2 (by simp)).row_form
          rw [idl_len] at hv1
          obtain rfl : vn = C'.length := by omega
          have l78 := Hp.le_trans l7 l8
          have hX8 := Lib.hid (hX.out.mono l8)
          clear hFr q0 q1 pf en14 hstep hw hcv hLf hX hv1 sc sf sl
          have oc := h15.blk_cell 2
          have ol := h15.blk_lt
          rcases hcases with ⟨rfl, hcv⟩ | ⟨hne, hcv⟩
          · replace hcv := Lib.hid hcv
            have hwj : IntKind.i64.wrap ((j : Int) - 1) = (j : Int) - 1 := by rw [IntKind.wrap_i64]; omega
            replace h15 := Lib.hid h15
            go_wp2_with fail
            go_roundw
            case rel => exact ⟨j, H8, L', [], _, X, by omega, rfl, l78, h15.out, en15, hX8, hcv, hLf2, by omega⟩
            case measure => first | (simp [intOf]; done) | (simp [intOf]; omega)
          · have hpos : 0 < C'.length := List.length_pos_iff.2 hne
            have hpi : (0 : Int) < (C'.length : Int) := by omega
            have hD := h15.drew
            have enD := en15.drew
            have hSo := Lib.hid (csorted_any p L (.slice vA C'.length vc) C' H8 (Blk pv #[setP ps2, .func (.func 42) #[grP p] #[], .slice vA C'.length vc] 71 :: SetA ps2 L' :: Row 41 2 (.slice vA C'.length vc) (idl C') :: Row 35 1 (.slice tA X.length tc) (vals X) :: fr) w15.drew (hD.pick 3 (by simp)) (hg.out.mono (Hp.le_trans l1 (Hp.le_trans l13 (Hp.le_trans l46 l78)))) ((hD.pick 2 (by simp)).row_rw (by decide)) hCl)
            have kk : ∀ (H' : Hp) (l' : List HA) (w' : World), Hp.le H8 H' → St H' (Blk pv #[setP ps2, .func (.func 42) #[grP p] #[], .slice vA C'.length vc] 71 :: l') w' → w'.cell? ⟨gx, 0, none⟩ = some (grP p) ∧ w'.cell? ⟨pv, 2, none⟩ = some (.slice vA C'.length vc) := fun H' l' w' hl h' => ⟨h'.cell (Hp.cell_le hl (Hp.cell_le l78 y6)), h'.blk_cell 2⟩
            have kA := kk _ _ _ (Hp.le_refl _) hD
            replace kk := Lib.hid kk
            clear hD en15 hne
            replace h15 := Lib.hid h15
            replace hcv := Lib.hid hcv
            go_wp2_with fail
            clear h15 oc ol hpi hpos
            refine wp_region_held_drew (S := fun w' => w'.cell? ⟨gx, 0, none⟩ = some (grP p) ∧ w'.cell? ⟨pv, 2, none⟩ = some (.slice vA C'.length vc)) (by kernel_rfl) kA (fun hHeld => ?_)
            refine wpAnyH_take (i := 0) (oi := { dst := some 67, op := Go.Op.move (Go.Operand.tmp 8), type := 31, pos := "comps.go:92", after := #[], guard := none }) (v := ?_) rfl (by kernel_rfl) (by kernel_rfl) (by kernel_rfl) (fun _ _ _ h => h) (Or.inl ⟨by rfl, ?_⟩) (by assumption) ?_
            rotate_left
            · (intro w hSw; (try dsimp only at hSw); go_simp; (try (with_reducible rfl)))
            try simp only [Act.put, List.setIfInBounds_toArray, List.set_cons_zero, List.set_cons_succ]
            refine wpAnyH_take (i := 1) (oi := { dst := some 68, op := Go.Op.load 27 (Go.Operand.tmp 1), type := 27, pos := "comps.go:92", after := #[], guard := none }) (v := ?_) rfl (by kernel_rfl) (by kernel_rfl) (by kernel_rfl) (fun _ _ _ h => h) (Or.inl ⟨by rfl, ?_⟩) (by assumption) ?_
            rotate_left
            · (intro w hSw; (try dsimp only at hSw); go_simp; (try (with_reducible rfl)))
            try simp only [Act.put, List.setIfInBounds_toArray, List.set_cons_zero, List.set_cons_succ]
            refine wpAnyH_take (i := 2) (oi := { dst := some 69, op := Go.Op.move (Go.Operand.tmp 7), type := 64, pos := "comps.go:92", after := #[], guard := none }) (v := ?_) rfl (by kernel_rfl) (by kernel_rfl) (by kernel_rfl) (fun _ _ _ h => h) (Or.inl ⟨by rfl, ?_⟩) (by assumption) ?_
            rotate_left
            · (intro w hSw; (try dsimp only at hSw); go_simp; (try (with_reducible rfl)))
            try simp only [Act.put, List.setIfInBounds_toArray, List.set_cons_zero, List.set_cons_succ]
            refine wpAnyH_take (i := 3) (oi := { dst := some 70, op := Go.Op.nilCheck (Go.Operand.tmp 69), type := 0, pos := "comps.go:92", after := #[{ on := 2, ground := Go.Ground.data }], guard := none }) (v := ?_) rfl (by kernel_rfl) (by kernel_rfl) (by kernel_rfl) (fun _ _ _ h => h) (Or.inl ⟨by rfl, ?_⟩) (by assumption) ?_
            rotate_left
            · (intro w hSw; (try dsimp only at hSw); go_simp; (try (with_reducible rfl)))
            try simp only [Act.put, List.setIfInBounds_toArray, List.set_cons_zero, List.set_cons_succ]
            refine wpAnyH_take (i := 4) (oi := { dst := some 71, op := Go.Op.fieldAddr 71 (Go.Operand.tmp 70) 2, type := 0, pos := "comps.go:92", after := #[{ on := 3, ground := Go.Ground.data }], guard := none }) (v := ?_) rfl (by kernel_rfl) (by kernel_rfl) (by kernel_rfl) (fun _ _ _ h => h) (Or.inl ⟨by rfl, ?_⟩) (by assumption) ?_
            rotate_left
            · (intro w hSw; (try dsimp only at hSw); go_simp; (try (with_reducible rfl)))
            try simp only [Act.put, List.setIfInBounds_toArray, List.set_cons_zero, List.set_cons_succ]
            refine wpAnyH_take (i := 5) (oi := { dst := some 72, op := Go.Op.load 35 (Go.Operand.tmp 71), type := 35, pos := "comps.go:92", after := #[{ on := 4, ground := Go.Ground.data }], guard := none }) (v := ?_) rfl (by kernel_rfl) (by kernel_rfl) (by kernel_rfl) (fun _ _ _ h => h) (Or.inl ⟨by rfl, ?_⟩) (by assumption) ?_
            rotate_left
            · (intro w hSw; (try dsimp only at hSw); go_simp; (try (with_reducible rfl)))
            try simp only [Act.put, List.setIfInBounds_toArray, List.set_cons_zero, List.set_cons_succ]
            refine wpAnyH_ready (rs := [6]) (by kernel_rfl) (by simp) ?_
            refine AllReadyH.cons (o := { dst := some 73, op := Go.Op.call { callee := Go.Callee.value (Go.Operand.func 16), args := #[Go.Operand.tmp 68, Go.Operand.tmp 72], argTypes := #[27, 35] }, type := 35, pos := "comps.go:92", after := #[{ on := 1, ground := Go.Ground.data }, { on := 5, ground := Go.Ground.data }], guard := none }) rfl (fun K hK => ?_) AllReadyH.nil
            go_simp
            refine hSo.out.mono ?_
            rintro e w17 ⟨rv, R, H9, rfl, l9, h17, en17, hR⟩
            obtain ⟨rA, rn, rc, rfl, _⟩ := h17.row_form
            replace en17 := enD.trans en17
            have hcv2 := Lib.hid (hcv.out R hR)
            obtain ⟨H10, l10, h18, hRd⟩ := h17.row_keep
            have l810 := Hp.le_trans l9 l10
            have k17 := kk.out _ _ _ l810 (h18.pick 1 (by simp))
            obtain ⟨H11, l11, h19, z⟩ := h18.box #[.slice rA rn rc] 35
            have k19 := kk.out _ _ _ (Hp.le_trans l810 l11) (h19.pick 1 (by simp))
            obtain ⟨v', w20, hrun, h20, en20⟩ := St.append_run (h19.pick 4 (by simp)) 31 31 31 (.slice none 0 0) 24 Tryz.underlying31 (.inl ⟨_, Tryz.underlying31⟩) info_ids rfl (by decide) (x := .slice (some ⟨w17.heap.size, 0, none⟩) 1 1) (m := 1) (news := vals [(R, .slice rA rn rc)]) (News.slice rfl (fun _ => ⟨_, rfl, fun j u hj => by rw [add_lit, Nat.zero_add]; exact h19.cell (z j u (by simpa [vals] using hj))⟩) (by intro u hu; simp [vals] at hu; subst hu; rfl)) (by rw [vals_len, vals_len]; simp; omega) (by decide)
            rw [← vals_app] at h20
            have en21 := (en17.alloc (.cells #[.slice rA rn rc] 35)).trans en20
            have h21 : St H11 (Blk pv #[setP ps2, .func (.func 42) #[grP p] #[], .slice vA C'.length vc] 71 :: SetA ps2 L' :: Row 41 2 (.slice vA C'.length vc) (idl C') :: GrA p L :: Row 35 1 v' (vals (X ++ [(R, .slice rA rn rc)])) :: fr) w20 := St.perm h20 (perm_T _ _ _ _ _ _)
            have k21 := kk.out _ _ _ (Hp.le_trans l810 l11) h21
            have hX11 := Lib.hid ((hX8.out.mono (Hp.le_trans l810 l11)).snoc (x := (R, .slice rA rn rc)) (hRd.mono l11))
            replace h21 := Lib.hid h21
            replace en21 := Lib.hid en21
            clear h17 h18 h19 h20 z en20 en17 hR hRd
            refine hK.out _ _ k17 (fun hHeld2 => ?_)
            clear hK K hHeld
            try simp only [Act.put, List.setIfInBounds_toArray, List.set_cons_zero, List.set_cons_succ]
            refine wpAnyH_ready (rs := [7]) (by kernel_rfl) (by simp) ?_
            refine AllReadyH.cons (o := { dst := some 74, op := Go.Op.buildSlice 31 1 #[(0, Go.Operand.tmp 73)], type := 31, pos := "comps.go:92", after := #[{ on := 6, ground := Go.Ground.data }], guard := none }) rfl (fun K hK => ?_) AllReadyH.nil
            go_simp
            refine hK.out _ _ k19 (fun hHeld3 => ?_)
            clear hK K hHeld2
            try simp only [Act.put, List.setIfInBounds_toArray, List.set_cons_zero, List.set_cons_succ]
            refine wpAnyH_ready (rs := [8]) (by kernel_rfl) (by simp) ?_
            refine AllReadyH.cons (o := { dst := some 75, op := Go.Op.call { callee := Go.Callee.builtin Go.Builtin.append, args := #[Go.Operand.tmp 67, Go.Operand.tmp 74], argTypes := #[31, 31] }, type := 31, pos := "comps.go:92", after := #[{ on := 0, ground := Go.Ground.data }, { on := 7, ground := Go.Ground.data }, { on := 6, ground := Go.Ground.chain }], guard := none }) rfl (fun K hK => ?_) AllReadyH.nil
            rw [if_pos (by rfl)]
            refine oper_append_at (.tmp 67) (.tmp 74) 31 31 31 hrun rfl rfl rfl rfl ?_
            refine hK.out _ _ k21 (fun hHeld4 => ?_)
            clear hK K hHeld3
            try simp only [Act.put, List.setIfInBounds_toArray, List.set_cons_zero, List.set_cons_succ]
            refine wpAnyH_take (i := 9) (oi := { dst := some 8, op := Go.Op.assign (Go.Operand.tmp 75), type := 31, pos := "comps.go:92", after := #[{ on := 8, ground := Go.Ground.data }, { on := 8, ground := Go.Ground.chain }, { on := 0, ground := Go.Ground.phase }, { on := 1, ground := Go.Ground.phase }, { on := 2, ground := Go.Ground.phase }, { on := 3, ground := Go.Ground.phase }, { on := 4, ground := Go.Ground.phase }, { on := 5, ground := Go.Ground.phase }, { on := 6, ground := Go.Ground.phase }, { on := 7, ground := Go.Ground.phase }, { on := 8, ground := Go.Ground.phase }], guard := none }) (v := ?_) rfl (by kernel_rfl) (by kernel_rfl) (by kernel_rfl) (fun _ _ _ h => h) (Or.inl ⟨by rfl, ?_⟩) (by assumption) ?_
            rotate_left
            · (intro w hSw; (try dsimp only at hSw); go_simp; (try (with_reducible rfl)))
            try simp only [Act.put, List.setIfInBounds_toArray, List.set_cons_zero, List.set_cons_succ]
            refine wpAnyH_done (by kernel_rfl) ?_ _
            clear k17 k19 k21 kA hrun hHeld4 hSo kk hcv enD
            have hcv3 : Hid (Cv (muD (L.map rp)) (kfR (L.map rp)) (clU (L.map rp)) (O.drop j) L' (lists (X ++ [(R, .slice rA rn rc)]))) := Lib.hid (by rw [lists_app]; exact hcv2.out)
            have hwj : IntKind.i64.wrap ((j : Int) - 1) = (j : Int) - 1 := by rw [IntKind.wrap_i64]; omega
            go_wp2_with fail
            go_roundw
            case rel => exact ⟨j, H11, L', C', _, X ++ [(R, .slice rA rn rc)], by omega, rfl, Hp.le_trans l78 (Hp.le_trans l810 l11), h21.out, en21.out, hX11, hcv3, hLf2, by simp; omega⟩
            case measure => first | (simp [intOf]; done) | (simp [intOf]; omega)
end Go.Proofs.YtcbckeoalmjcoaaGreat
