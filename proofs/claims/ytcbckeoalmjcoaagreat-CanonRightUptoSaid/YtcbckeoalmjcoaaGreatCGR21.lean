/- Joined texts: CFrom. -/
import Derived.Test.YtcbckeoalmjcoaaGreatCGR20
/- comps.walk.from: one walk. -/
set_option linter.unusedVariables false
set_option linter.unusedSimpArgs false
namespace Go.Proofs.YtcbckeoalmjcoaaGreat
open Go.RowKit Go.Cw Go.Fl
attribute [local go_sem ↓] eql_id neq_id
set_option maxRecDepth 100000 in
set_option maxHeartbeats 16000000 in
theorem cfrom_any (pw ps F : Nat) (bnd caps : Array Value) (G : HA) (nx : Id → List Id) (U L O : List Id) (ov : Value) (a : Id) (H : Hp) (fr : List HA) (w : World) (hUl : U.length ≤ 1000) (hnl : ∀ x, (nx x).length ≤ 1000)
    (h : St H (Blk pw #[setP ps, .func (.func F) bnd caps, ov] 71 :: SetA ps L :: Row 41 2 ov (idl O) :: G :: fr) w) (hN : NextOf F bnd caps G nx H) (eF : ∀ args w, (callFunc F args).run Tryz.prog w = .ok (.enter F args) w) (hI : Iv nx U ⟨L, [], O⟩) (hLn : L.Nodup) :
    Calls Tryz.prog 41 #[.pointer (some ⟨pw, 0, none⟩), idV a] w (WalkR pw ps (.func (.func F) bnd caps) G fr nx L O a H w) := by
  have hfinN : a ∉ L → ∀ (H' : Hp) (w' : World), Hp.le H H' → St H' (Blk pw #[setP ps, .func (.func F) bnd caps, ov] 71 :: SetA ps L :: Row 41 2 ov (idl O) :: G :: fr) w' → Env w w' → WalkR pw ps (.func (.func F) bnd caps) G fr nx L O a H w (.returned (.tuple #[])) w' := fun hm H' w' h1 h2 h3 => ⟨ov, L, O, H', rfl, h1, h2, h3, .inl ⟨hm, rfl, rfl⟩⟩
  have hfinS : a ∈ L → ∀ (ov' : Value) (L' O' : List Id) (H' : Hp) (w' : World), Hp.le H H' → St H' (Blk pw #[setP ps, .func (.func F) bnd caps, ov'] 71 :: SetA ps L' :: Row 41 2 ov' (idl O') :: G :: fr) w' → Env w w' → Stpn nx ⟨cutL a L, [(a, 0)], O⟩ ⟨L', [], O'⟩ → WalkR pw ps (.func (.func F) bnd caps) G fr nx L O a H w (.returned (.tuple #[])) w' := fun hm ov' L' O' H' w' h1 h2 h3 h4 => ⟨ov', L', O', H', rfl, h1, h2, h3, .inr ⟨hm, h4⟩⟩
  generalize WalkR pw ps (.func (.func F) bnd caps) G fr nx L O a H w = Q at *
  replace hfinN := Lib.hid hfinN
  replace hfinS := Lib.hid hfinS
  replace hN := Lib.hid hN
  replace hnl := Lib.hid hnl
  obtain ⟨a0, a1⟩ := a
  obtain ⟨H1, l1, h1, y⟩ := h.box #[.int .i64 a0, .int .i64 a1] 41
  have y0 : H1.cell w.heap.size 0 = some (.int .i64 a0) := y 0 _ rfl
  have y1 : H1.cell w.heap.size 1 = some (.int .i64 a1) := y 1 _ rfl
  have en1 := (Env.refl w).alloc (.cells #[.int .i64 a0, .int .i64 a1] 41)
  clear y h
  go_enter Tryz.func41, Tryz.ntmps41
  go_wp2_with fail
  generalize w.heap.size = gb at *
  generalize w.alloc (.cells #[.int .i64 a0, .int .i64 a1] 41) = W1 at *
  have kk : ∀ (H' : Hp) (fv' : Value) (A B : List HA) (w' : World), Hp.le H1 H' → St H' (Blk pw #[setP ps, .func (.func F) bnd caps, fv'] 71 :: A) w' → (w'.cell? ⟨pw, 0, none⟩ = some (setP ps) ∧ w'.cell? ⟨pw, 1, none⟩ = some (.func (.func F) bnd caps) ∧ w'.cell? ⟨gb, 0, none⟩ = some (.int .i64 a0) ∧ w'.cell? ⟨gb, 1, none⟩ = some (.int .i64 a1)) := fun H' fv' A B w' hl h' => ⟨h'.blk_cell 0, h'.blk_cell 1, h'.cell (Hp.cell_le hl y0), h'.cell (Hp.cell_le hl y1)⟩
  have h2 := h1.drew
  have en2 := en1.drew
  have hRm := Lib.hid (setRem_any ps L (a0, a1) H1 _ _ (h2.pick 1 (by simp)))
  refine wp_jumps_skip 0 (CFJ pw ps F bnd caps G nx U L O (a0, a1) gb H1 fr w) rfl (fun hRest => ?_) ?_
  rotate_left
  · intro n act wr hj
    obtain ⟨r0, r3, sv, r1, us, rfl, rfl, rfl, rfl, T, L', O', ov', H2, hn, l2, hst, hen, hTd, hSp, hIv, hLn'⟩ := hj.out
    clear hj y0 y1 kk h1 h2 hRm en1 en2 hfinN hI hLn
    have hrm := hIv.room
    have hlm := hIv.rooml hLn'
    replace hTd := Lib.hid hTd
    replace hSp := Lib.hid hSp
    replace hIv := Lib.hid hIv
    replace hLn' := Lib.hid hLn'
    obtain ⟨sA, sn, sc, rfl, hs1, hs2, hs3⟩ := hst.row_form
    rw [pls_len] at hs1
    obtain ⟨oA, on, oc, rfl, ho1, ho2, _⟩ := (hst.pick 3 (by simp)).row_form
    rw [idl_len] at ho1
    obtain rfl : on = O'.length := by omega
    have hrl : (stk T).length = T.length := by simp [stk]
    simp only [hrl] at hrm
    rcases nil_or_snoc T with rfl | ⟨T0, x, rfl⟩
    · obtain rfl : sn = 0 := by simp at hs1; omega
      have hz := Lib.hid (hfinS.out hSp.out.1 _ L' O' H2 wr (Hp.le_trans l1 l2) hst.drop hen hSp.out.2)
      clear hst
      go_wp2_with fail
      simp only [Exit.jump]
      refine bodyPost_ret (results_none rfl _ _ _) rfl ?_
      exact hz.out
    · have hlen : (T0 ++ [x]).length = T0.length + 1 := by simp
      rw [hlen] at hs1 hrm
      obtain rfl : sn = T0.length + 1 := by omega
      clear hrl hlen hs1 ho1
      obtain ⟨b, off, hA, hbl, hcr, hcf⟩ := hst.row_cells (by omega) (by omega)
      cases hA
      obtain ⟨⟨x0, x1⟩, gk, tv⟩ := x
      have hxd := hTd.out ((x0, x1), gk, tv) (by simp)
      simp only at hxd
      obtain ⟨hxr, hxl⟩ := hxd
      obtain ⟨tA, tn, tc, rfl, ht1, ht2, ht3⟩ := hxr.form
      rw [idl_len] at ht1
      obtain rfl : tn = (nx (x0, x1)).length := by omega
      have hxm := hnl.out (x0, x1)
      clear ht1
      have g0 : ∀ (w' : World) (l' : List HA) (H' : Hp), St H' (Row 99 4 (.slice (some ⟨b, off, none⟩) (T0.length + 1) sc) (pls (T0 ++ [((x0, x1), gk, .slice tA (nx (x0, x1)).length tc)])) :: l') w' → w'.cell? ⟨b, off + T0.length * 4, none⟩ = some (.int .i64 x0) ∧ w'.cell? ⟨b, off + T0.length * 4 + 1, none⟩ = some (.int .i64 x1) ∧ w'.cell? ⟨b, off + T0.length * 4 + 2, none⟩ = some (.int .i64 (gk : Int)) ∧ w'.cell? ⟨b, off + T0.length * 4 + 3, none⟩ = some (.slice tA (nx (x0, x1)).length tc) := by
        intro w' l' H' h'
        obtain ⟨b', off', hA', _, hcr', _⟩ := h'.row_cells (by omega) (by omega)
        cases hA'
        exact ⟨hcr' (T0.length * 4 + 0) _ (pls_top T0 _ 0 (by omega)), hcr' (T0.length * 4 + 1) _ (pls_top T0 _ 1 (by omega)), hcr' (T0.length * 4 + 2) _ (pls_top T0 _ 2 (by omega)), hcr' (T0.length * 4 + 3) _ (pls_top T0 _ 3 (by omega))⟩
      obtain ⟨q0, q1, q2, q3⟩ := g0 _ _ _ hst
      replace g0 := Lib.hid g0
      have hw1 : IntKind.i64.wrap (((T0.length + 1 : Nat) : Int) - 1) = (T0.length : Int) := by rw [IntKind.wrap_i64]; omega
      have hw2 : ((T0.length + 1 : Nat) : Int) - 1 = (T0.length : Int) := by omega
      have hw3 : ((T0.length : Int) + 1) - 1 = (T0.length : Int) := by omega
      have hw4 : IntKind.i64.wrap (((T0.length : Int) + 1) - 1) = (T0.length : Int) := by rw [IntKind.wrap_i64]; omega
      have hcz : ¬ sc = T0.length := by omega
      have hc0 : ¬ sc = 0 := by omega
      clear hcr hcf
      go_wp2_with fail
      go_quiet (fail)
      clear hw1 hw2 hw3 hw4 hcz hc0 q0 q1 q2 q3
      have hst3 := hst.drewN nq
      have en3 : Env w (wr.drewN nq) := hen.drewN nq
      clear hst hen hbl
      generalize wr.drewN nq = W3 at *
      by_cases hg : gk = (nx (x0, x1)).length
      · have hgw : ((gk : Int) == ((nx (x0, x1)).length : Int)) = true := by simp [hg]
        rw [hgw]
        have hD := hst3.drew
        have enD := en3.drew
        obtain ⟨H3, l3, hE, y⟩ := hD.box #[.int .i64 x0, .int .i64 x1] 41
        obtain ⟨v', w8, hrun, h8, en8⟩ := St.append_run (hE.pick 3 (by simp)) 35 35 35 (.agg #[.int .i64 0, .int .i64 0]) 16 Tryz.underlying35 (.inl ⟨_, Tryz.underlying35⟩) (by kernel_rfl) rfl (by decide) (x := .slice (some ⟨W3.heap.size, 0, none⟩) 1 1) (m := 1) (news := idl [(x0, x1)]) (News.slice rfl (fun _ => ⟨_, rfl, fun j u hj => by rw [add_lit, Nat.zero_add]; exact hE.cell (y j u (by simpa [idl, idc] using hj))⟩) (idl_one _)) (by rw [idl_len, idl_len]; simp; omega) (by decide)
        rw [← idl_append] at h8
        obtain ⟨va, vn, vc, rfl, _⟩ := h8.row_form
        replace en8 := (enD.alloc (.cells #[.int .i64 x0, .int .i64 x1] 41)).trans en8
        have h8b : St H3 (Blk pw #[setP ps, .func (.func F) bnd caps, .slice oA O'.length oc] 71 :: Row 41 2 (.slice va vn vc) (idl (O' ++ [(x0, x1)])) :: Row 99 4 (.slice (some ⟨b, off, none⟩) (T0.length + 1) sc) (pls (T0 ++ [((x0, x1), gk, .slice tA (nx (x0, x1)).length tc)])) :: SetA ps L' :: G :: fr) w8 := h8.pick 2 (by simp)
        have h9 : St H3 (Blk pw #[setP ps, .func (.func F) bnd caps, .slice va vn vc] 71 :: Row 41 2 (.slice va vn vc) (idl (O' ++ [(x0, x1)])) :: Row 99 4 (.slice (some ⟨b, off, none⟩) (T0.length + 1) sc) (pls (T0 ++ [((x0, x1), gk, .slice tA (nx (x0, x1)).length tc)])) :: SetA ps L' :: G :: fr) (w8.setCell ⟨pw, 2, none⟩ (.slice va vn vc)) := h8b.blk_set 2 (.slice va vn vc)
        have sc1 : w8.cell? ⟨pw, 2, none⟩ = some (.slice oA O'.length oc) := h8b.blk_cell 2
        have sf := h8b.blk_free 2
        have sl := h8b.blk_lt
        have lc1 : W3.cell? ⟨pw, 2, none⟩ = some (.slice oA O'.length oc) := (hst3.swap).blk_cell 2
        have cl3 : pw < W3.heap.size := hst3.swap.blk_lt
        have kk : ∀ (H' : Hp) (l' : List HA) (w' : World), St H' (Row 99 4 (.slice (some ⟨b, off, none⟩) (T0.length + 1) sc) (pls (T0 ++ [((x0, x1), gk, .slice tA (nx (x0, x1)).length tc)])) :: l') w' → w'.cell? ⟨b, off + T0.length * 4, none⟩ = some (.int .i64 x0) ∧ w'.cell? ⟨b, off + T0.length * 4 + 1, none⟩ = some (.int .i64 x1) := fun H' l' w' h' => ⟨(g0.out _ _ _ h').1, (g0.out _ _ _ h').2.1⟩
        have kA := kk _ _ _ hD
        have kE := kk _ _ _ hE
        have k8 := kk _ _ _ (h8b.pick 2 (by simp))
        have k9 := kk _ _ _ (h9.pick 2 (by simp))
        replace kk := Lib.hid kk
        have hpop : St H3 (Row 99 4 (.slice (some ⟨b, off, none⟩) T0.length sc) (pls T0) :: Blk pw #[setP ps, .func (.func F) bnd caps, .slice va vn vc] 71 :: SetA ps L' :: Row 41 2 (.slice va vn vc) (idl (O' ++ [(x0, x1)])) :: G :: fr) (w8.setCell ⟨pw, 2, none⟩ (.slice va vn vc)) := by
          have h10 := (h9.pick 2 (by simp)).row_take T0.length (by omega)
          rw [pls_take] at h10
          exact St.perm h10 (List.Perm.cons _ (List.Perm.cons _ (List.Perm.swap _ _ _)))
        have en10 : Env w (w8.setCell ⟨pw, 2, none⟩ (.slice va vn vc)) := en8.setCell _ _
        have hstp : Stp nx ⟨L', stk (T0 ++ [((x0, x1), gk, .slice tA (nx (x0, x1)).length tc)]), O'⟩ ⟨L', stk T0, O' ++ [(x0, x1)]⟩ := by
          rw [stk_snoc, hg]
          exact .pop
        clear hst3 en3 hE y h8 h8b h9 en8 enD hfinS hN hnl eF hxr
        go_wp2_with fail
        refine wp_region_held_drew (S := fun w' : World => w'.cell? ⟨b, off + T0.length * 4, none⟩ = some (.int .i64 x0) ∧ w'.cell? ⟨b, off + T0.length * 4 + 1, none⟩ = some (.int .i64 x1)) (by kernel_rfl) kA (fun hHeld => ?_)
        refine wpAnyH_take (i := 0) (oi := { dst := some 41, op := Go.Op.move (Go.Operand.tmp 0), type := 64, pos := "comps.go:64", after := #[], guard := none }) (v := ?_) rfl (by kernel_rfl) (by kernel_rfl) (by kernel_rfl) (fun _ _ _ h => h) (Or.inl ⟨by rfl, ?_⟩) (by assumption) ?_
        rotate_left
        · (intro w hSw; (try dsimp only at hSw); go_simp; (try (with_reducible rfl)))
        try simp only [Act.put, List.setIfInBounds_toArray, List.set_cons_zero, List.set_cons_succ]
        refine wpAnyH_take (i := 1) (oi := { dst := some 42, op := Go.Op.move (Go.Operand.tmp 0), type := 64, pos := "comps.go:64", after := #[], guard := none }) (v := ?_) rfl (by kernel_rfl) (by kernel_rfl) (by kernel_rfl) (fun _ _ _ h => h) (Or.inl ⟨by rfl, ?_⟩) (by assumption) ?_
        rotate_left
        · (intro w hSw; (try dsimp only at hSw); go_simp; (try (with_reducible rfl)))
        try simp only [Act.put, List.setIfInBounds_toArray, List.set_cons_zero, List.set_cons_succ]
        refine wpAnyH_take (i := 2) (oi := { dst := some 43, op := Go.Op.nilCheck (Go.Operand.tmp 42), type := 0, pos := "comps.go:64", after := #[{ on := 1, ground := Go.Ground.data }], guard := none }) (v := ?_) rfl (by kernel_rfl) (by kernel_rfl) (by kernel_rfl) (fun _ _ _ h => h) (Or.inl ⟨by rfl, ?_⟩) (by assumption) ?_
        rotate_left
        · (intro w hSw; (try dsimp only at hSw); go_simp; (try (with_reducible rfl)))
        try simp only [Act.put, List.setIfInBounds_toArray, List.set_cons_zero, List.set_cons_succ]
        refine wpAnyH_take (i := 3) (oi := { dst := some 44, op := Go.Op.fieldAddr 71 (Go.Operand.tmp 43) 2, type := 0, pos := "comps.go:64", after := #[{ on := 2, ground := Go.Ground.data }], guard := none }) (v := ?_) rfl (by kernel_rfl) (by kernel_rfl) (by kernel_rfl) (fun _ _ _ h => h) (Or.inl ⟨by rfl, ?_⟩) (by assumption) ?_
        rotate_left
        · (intro w hSw; (try dsimp only at hSw); go_simp; (try (with_reducible rfl)))
        try simp only [Act.put, List.setIfInBounds_toArray, List.set_cons_zero, List.set_cons_succ]
        refine wpAnyH_take (i := 5) (oi := { dst := some 46, op := Go.Op.move (Go.Operand.tmp 5), type := 101, pos := "comps.go:64", after := #[], guard := none }) (v := ?_) rfl (by kernel_rfl) (by kernel_rfl) (by kernel_rfl) (fun _ _ _ h => h) (Or.inl ⟨by rfl, ?_⟩) (by assumption) ?_
        rotate_left
        · (intro w hSw; (try dsimp only at hSw); go_simp; (try (with_reducible rfl)))
        try simp only [Act.put, List.setIfInBounds_toArray, List.set_cons_zero, List.set_cons_succ]
        refine wpAnyH_take (i := 6) (oi := { dst := some 47, op := Go.Op.nilCheck (Go.Operand.tmp 46), type := 0, pos := "comps.go:64", after := #[{ on := 5, ground := Go.Ground.data }], guard := none }) (v := ?_) rfl (by kernel_rfl) (by kernel_rfl) (by kernel_rfl) (fun _ _ _ h => h) (Or.inl ⟨by rfl, ?_⟩) (by assumption) ?_
        rotate_left
        · (intro w hSw; (try dsimp only at hSw); go_simp; (try (with_reducible rfl)))
        try simp only [Act.put, List.setIfInBounds_toArray, List.set_cons_zero, List.set_cons_succ]
        refine wpAnyH_take (i := 7) (oi := { dst := some 48, op := Go.Op.fieldAddr 99 (Go.Operand.tmp 47) 0, type := 0, pos := "comps.go:64", after := #[{ on := 6, ground := Go.Ground.data }], guard := none }) (v := ?_) rfl (by kernel_rfl) (by kernel_rfl) (by kernel_rfl) (fun _ _ _ h => h) (Or.inl ⟨by rfl, ?_⟩) (by assumption) ?_
        rotate_left
        · (intro w hSw; (try dsimp only at hSw); go_simp; (try (with_reducible rfl)))
        try simp only [Act.put, List.setIfInBounds_toArray, List.set_cons_zero, List.set_cons_succ]
        refine wpAnyH_take (i := 8) (oi := { dst := some 49, op := Go.Op.load 41 (Go.Operand.tmp 48), type := 41, pos := "comps.go:64", after := #[{ on := 7, ground := Go.Ground.data }], guard := none }) (v := ?_) rfl (by kernel_rfl) (by kernel_rfl) (by kernel_rfl) (fun _ _ _ h => h) (Or.inl ⟨by rfl, ?_⟩) (by assumption) ?_
        rotate_left
        · (intro w hSw; (try dsimp only at hSw); go_simp; (try (with_reducible rfl)))
        try simp only [Act.put, List.setIfInBounds_toArray, List.set_cons_zero, List.set_cons_succ]
        refine wpAnyH_ready (rs := [4, 9]) (by kernel_rfl) (by simp) ?_
        refine (AllReadyH.cons (o := { dst := some 45, op := Go.Op.load 35 (Go.Operand.tmp 44), type := 35, pos := "comps.go:64", after := #[{ on := 3, ground := Go.Ground.data }], guard := none }) rfl (fun K hK => ?_) (AllReadyH.cons (o := { dst := some 50, op := Go.Op.buildSlice 35 1 #[(0, Go.Operand.tmp 49)], type := 35, pos := "comps.go:64", after := #[{ on := 8, ground := Go.Ground.data }], guard := none }) rfl (fun K hK => ?_) AllReadyH.nil))
        go_simp
        refine hK.out _ _ (by first | (with_reducible exact kA) | exact kE) (fun hHeld1 => ?_)
        clear hK K
        try simp only [Act.put, List.setIfInBounds_toArray, List.set_cons_zero, List.set_cons_succ]
        refine wpAnyH_ready (rs := [9]) (by kernel_rfl) (by simp) ?_
        refine AllReadyH.cons (o := { dst := some 50, op := Go.Op.buildSlice 35 1 #[(0, Go.Operand.tmp 49)], type := 35, pos := "comps.go:64", after := #[{ on := 8, ground := Go.Ground.data }], guard := none }) rfl (fun K hK => ?_) AllReadyH.nil
        go_simp
        refine hK.out _ _ kE (fun hHeld2 => ?_)
        clear hK K
        try simp only [Act.put, List.setIfInBounds_toArray, List.set_cons_zero, List.set_cons_succ]
        refine wpAnyH_ready (rs := [10]) (by kernel_rfl) (by simp) ?_
        refine AllReadyH.cons (o := { dst := some 51, op := Go.Op.call { callee := Go.Callee.builtin Go.Builtin.append, args := #[Go.Operand.tmp 45, Go.Operand.tmp 50], argTypes := #[35, 35] }, type := 35, pos := "comps.go:64", after := #[{ on := 4, ground := Go.Ground.data }, { on := 9, ground := Go.Ground.data }], guard := none }) rfl (fun K hK => ?_) AllReadyH.nil
        rw [if_pos (by rfl)]
        refine oper_append_at (.tmp 45) (.tmp 50) 35 35 35 hrun rfl rfl rfl rfl ?_
        refine hK.out _ _ k8 (fun hHeld3 => ?_)
        clear hK K
        try simp only [Act.put, List.setIfInBounds_toArray, List.set_cons_zero, List.set_cons_succ]
        refine wpAnyH_take (i := 11) (oi := { dst := some 52, op := Go.Op.nilCheck (Go.Operand.tmp 41), type := 0, pos := "comps.go:64", after := #[{ on := 0, ground := Go.Ground.data }, { on := 0, ground := Go.Ground.phase }, { on := 1, ground := Go.Ground.phase }, { on := 2, ground := Go.Ground.phase }, { on := 3, ground := Go.Ground.phase }, { on := 4, ground := Go.Ground.phase }, { on := 5, ground := Go.Ground.phase }, { on := 6, ground := Go.Ground.phase }, { on := 7, ground := Go.Ground.phase }, { on := 8, ground := Go.Ground.phase }, { on := 9, ground := Go.Ground.phase }, { on := 10, ground := Go.Ground.phase }], guard := none }) (v := ?_) rfl (by kernel_rfl) (by kernel_rfl) (by kernel_rfl) (fun _ _ _ h => h) (Or.inl ⟨by rfl, ?_⟩) (by assumption) ?_
        rotate_left
        · (intro w hSw; (try dsimp only at hSw); go_simp; (try (with_reducible rfl)))
        try simp only [Act.put, List.setIfInBounds_toArray, List.set_cons_zero, List.set_cons_succ]
        refine wpAnyH_take (i := 12) (oi := { dst := some 53, op := Go.Op.fieldAddr 71 (Go.Operand.tmp 52) 2, type := 0, pos := "comps.go:64", after := #[{ on := 11, ground := Go.Ground.data }, { on := 0, ground := Go.Ground.phase }, { on := 1, ground := Go.Ground.phase }, { on := 2, ground := Go.Ground.phase }, { on := 3, ground := Go.Ground.phase }, { on := 4, ground := Go.Ground.phase }, { on := 5, ground := Go.Ground.phase }, { on := 6, ground := Go.Ground.phase }, { on := 7, ground := Go.Ground.phase }, { on := 8, ground := Go.Ground.phase }, { on := 9, ground := Go.Ground.phase }, { on := 10, ground := Go.Ground.phase }], guard := none }) (v := ?_) rfl (by kernel_rfl) (by kernel_rfl) (by kernel_rfl) (fun _ _ _ h => h) (Or.inl ⟨by rfl, ?_⟩) (by assumption) ?_
        rotate_left
        · (intro w hSw; (try dsimp only at hSw); go_simp; (try (with_reducible rfl)))
        try simp only [Act.put, List.setIfInBounds_toArray, List.set_cons_zero, List.set_cons_succ]
        refine wpAnyH_ready (rs := [13]) (by kernel_rfl) (by simp) ?_
        refine AllReadyH.cons (o := { dst := none, op := Go.Op.store 35 (Go.Operand.tmp 53) (Go.Operand.tmp 51), type := 0, pos := "comps.go:64", after := #[{ on := 12, ground := Go.Ground.data }, { on := 10, ground := Go.Ground.data }, { on := 10, ground := Go.Ground.chain }, { on := 0, ground := Go.Ground.phase }, { on := 1, ground := Go.Ground.phase }, { on := 2, ground := Go.Ground.phase }, { on := 3, ground := Go.Ground.phase }, { on := 4, ground := Go.Ground.phase }, { on := 5, ground := Go.Ground.phase }, { on := 6, ground := Go.Ground.phase }, { on := 7, ground := Go.Ground.phase }, { on := 8, ground := Go.Ground.phase }, { on := 9, ground := Go.Ground.phase }, { on := 10, ground := Go.Ground.phase }], guard := none }) rfl (fun K hK => ?_) AllReadyH.nil
        go_simp
        refine hK.out _ _ k9 (fun hHeld4 => ?_)
        clear hK K
        try simp only [Act.put, List.setIfInBounds_toArray, List.set_cons_zero, List.set_cons_succ]
        refine wpAnyH_done (by kernel_rfl) ?_ _
        rotate_left
        go_simp
        refine hK.out _ _ kE (fun hHeld2 => ?_)
        clear hK K
        try simp only [Act.put, List.setIfInBounds_toArray, List.set_cons_zero, List.set_cons_succ]
        refine wpAnyH_ready (rs := [4]) (by kernel_rfl) (by simp) ?_
        refine AllReadyH.cons (o := { dst := some 45, op := Go.Op.load 35 (Go.Operand.tmp 44), type := 35, pos := "comps.go:64", after := #[{ on := 3, ground := Go.Ground.data }], guard := none }) rfl (fun K hK => ?_) AllReadyH.nil
        go_simp
        refine hK.out _ _ (by first | (with_reducible exact kA) | exact kE) (fun hHeld1 => ?_)
        clear hK K
        try simp only [Act.put, List.setIfInBounds_toArray, List.set_cons_zero, List.set_cons_succ]
        refine wpAnyH_ready (rs := [10]) (by kernel_rfl) (by simp) ?_
        refine AllReadyH.cons (o := { dst := some 51, op := Go.Op.call { callee := Go.Callee.builtin Go.Builtin.append, args := #[Go.Operand.tmp 45, Go.Operand.tmp 50], argTypes := #[35, 35] }, type := 35, pos := "comps.go:64", after := #[{ on := 4, ground := Go.Ground.data }, { on := 9, ground := Go.Ground.data }], guard := none }) rfl (fun K hK => ?_) AllReadyH.nil
        rw [if_pos (by rfl)]
        refine oper_append_at (.tmp 45) (.tmp 50) 35 35 35 hrun rfl rfl rfl rfl ?_
        refine hK.out _ _ k8 (fun hHeld3 => ?_)
        clear hK K
        try simp only [Act.put, List.setIfInBounds_toArray, List.set_cons_zero, List.set_cons_succ]
        refine wpAnyH_take (i := 11) (oi := { dst := some 52, op := Go.Op.nilCheck (Go.Operand.tmp 41), type := 0, pos := "comps.go:64", after := #[{ on := 0, ground := Go.Ground.data }, { on := 0, ground := Go.Ground.phase }, { on := 1, ground := Go.Ground.phase }, { on := 2, ground := Go.Ground.phase }, { on := 3, ground := Go.Ground.phase }, { on := 4, ground := Go.Ground.phase }, { on := 5, ground := Go.Ground.phase }, { on := 6, ground := Go.Ground.phase }, { on := 7, ground := Go.Ground.phase }, { on := 8, ground := Go.Ground.phase }, { on := 9, ground := Go.Ground.phase }, { on := 10, ground := Go.Ground.phase }], guard := none }) (v := ?_) rfl (by kernel_rfl) (by kernel_rfl) (by kernel_rfl) (fun _ _ _ h => h) (Or.inl ⟨by rfl, ?_⟩) (by assumption) ?_
        rotate_left
        · (intro w hSw; (try dsimp only at hSw); go_simp; (try (with_reducible rfl)))
        try simp only [Act.put, List.setIfInBounds_toArray, List.set_cons_zero, List.set_cons_succ]
        refine wpAnyH_take (i := 12) (oi := { dst := some 53, op := Go.Op.fieldAddr 71 (Go.Operand.tmp 52) 2, type := 0, pos := "comps.go:64", after := #[{ on := 11, ground := Go.Ground.data }, { on := 0, ground := Go.Ground.phase }, { on := 1, ground := Go.Ground.phase }, { on := 2, ground := Go.Ground.phase }, { on := 3, ground := Go.Ground.phase }, { on := 4, ground := Go.Ground.phase }, { on := 5, ground := Go.Ground.phase }, { on := 6, ground := Go.Ground.phase }, { on := 7, ground := Go.Ground.phase }, { on := 8, ground := Go.Ground.phase }, { on := 9, ground := Go.Ground.phase }, { on := 10, ground := Go.Ground.phase }], guard := none }) (v := ?_) rfl (by kernel_rfl) (by kernel_rfl) (by kernel_rfl) (fun _ _ _ h => h) (Or.inl ⟨by rfl, ?_⟩) (by assumption) ?_
        rotate_left
        · (intro w hSw; (try dsimp only at hSw); go_simp; (try (with_reducible rfl)))
        try simp only [Act.put, List.setIfInBounds_toArray, List.set_cons_zero, List.set_cons_succ]
        refine wpAnyH_ready (rs := [13]) (by kernel_rfl) (by simp) ?_
        refine AllReadyH.cons (o := { dst := none, op := Go.Op.store 35 (Go.Operand.tmp 53) (Go.Operand.tmp 51), type := 0, pos := "comps.go:64", after := #[{ on := 12, ground := Go.Ground.data }, { on := 10, ground := Go.Ground.data }, { on := 10, ground := Go.Ground.chain }, { on := 0, ground := Go.Ground.phase }, { on := 1, ground := Go.Ground.phase }, { on := 2, ground := Go.Ground.phase }, { on := 3, ground := Go.Ground.phase }, { on := 4, ground := Go.Ground.phase }, { on := 5, ground := Go.Ground.phase }, { on := 6, ground := Go.Ground.phase }, { on := 7, ground := Go.Ground.phase }, { on := 8, ground := Go.Ground.phase }, { on := 9, ground := Go.Ground.phase }, { on := 10, ground := Go.Ground.phase }], guard := none }) rfl (fun K hK => ?_) AllReadyH.nil
        go_simp
        refine hK.out _ _ k9 (fun hHeld4 => ?_)
        clear hK K
        try simp only [Act.put, List.setIfInBounds_toArray, List.set_cons_zero, List.set_cons_succ]
        refine wpAnyH_done (by kernel_rfl) ?_ _
        rotate_left
        all_goals
          clear hHeld hHeld1 hHeld2 hHeld3 hHeld4 kA kE k8 k9 kk hrun sc1 sf sl lc1 cl3
          generalize w8.setCell ⟨pw, 2, none⟩ (.slice va vn vc) = W9 at *
          have hw1 : IntKind.i64.wrap (((T0.length + 1 : Nat) : Int) - 1) = (T0.length : Int) := by rw [IntKind.wrap_i64]; omega
          have hw2 : ((T0.length + 1 : Nat) : Int) - 1 = (T0.length : Int) := by omega
          have hw3 : ((T0.length : Int) + 1) - 1 = (T0.length : Int) := by omega
          have hw4 : IntKind.i64.wrap (((T0.length : Int) + 1) - 1) = (T0.length : Int) := by rw [IntKind.wrap_i64]; omega
          have hcz : T0.length ≤ sc := by omega
          have hcy : (T0.length : Int) ≤ (sc : Int) := by omega
          go_wp2_with fail
          refine wp_goto ?_
          refine ⟨rfl, L'.length * 1002 + (T0.map (fun x => (nx x.1).length - x.2.1 + 1)).sum, ?_, CFJ.mk (.slice (some ⟨b, off, none⟩) T0.length sc) T0 L' (O' ++ [(x0, x1)]) (.slice va vn vc) H3 rfl rfl rfl rfl rfl rfl rfl (Hp.le_trans l2 l3) hpop en10 (fun x hx => ?_) ⟨hSp.out.1, hSp.out.2.snoc (stk_ne _ _) hstp⟩ (hIv.out.step hstp) hLn'.out⟩
          · rw [hn, List.map_append, List.sum_append]
            simp
          · have h := hTd.out x (by simp [hx])
            exact ⟨h.1.mono l3, h.2⟩
      · have hgw : ((gk : Int) == ((nx (x0, x1)).length : Int)) = false := by simp; omega
        rw [hgw]
        obtain ⟨tb, toff, hA, htc⟩ := Rd.form2 hxr (by omega)
        cases hA
        have hgl : gk < (nx (x0, x1)).length := by omega
        have hnk : (nx (x0, x1))[gk]? = some (nx (x0, x1))[gk] := List.getElem?_eq_getElem hgl
        have t0 := htc _ _ (idl_fst _ gk hgl)
        have t1 := htc _ _ (idl_snd _ gk hgl)
        rw [← Nat.add_assoc] at t1
        generalize (nx (x0, x1))[gk] = yy at *
        obtain ⟨y0, y1⟩ := yy
        simp only at t0 t1
        have hD := hst3.drew
        have enD := en3.drew
        obtain ⟨H3, l3, h5, y⟩ := hD.box #[.int .i64 y0, .int .i64 y1] 41
        have z0 : H3.cell W3.heap.size 0 = some (.int .i64 y0) := y 0 _ rfl
        have z1 : H3.cell W3.heap.size 1 = some (.int .i64 y1) := y 1 _ rfl
        have en5 := enD.alloc (.cells #[.int .i64 y0, .int .i64 y1] 41)
        have kk : ∀ (H' : Hp) (l' : List HA) (w' : World), Hp.le H2 H' → St H' (Row 99 4 (.slice (some ⟨b, off, none⟩) (T0.length + 1) sc) (pls (T0 ++ [((x0, x1), gk, .slice (some ⟨tb, toff, none⟩) (nx (x0, x1)).length tc)])) :: l') w' → w'.cell? ⟨b, off + T0.length * 4 + 2, none⟩ = some (.int .i64 (gk : Int)) ∧ w'.cell? ⟨b, off + T0.length * 4 + 3, none⟩ = some (.slice (some ⟨tb, toff, none⟩) (nx (x0, x1)).length tc) ∧ w'.cell? ⟨tb, toff + gk * 2, none⟩ = some (.int .i64 y0) ∧ w'.cell? ⟨tb, toff + gk * 2 + 1, none⟩ = some (.int .i64 y1) := fun H' l' w' hl h' => ⟨(g0.out _ _ _ h').2.2.1, (g0.out _ _ _ h').2.2.2, h'.cell (Hp.cell_le hl t0), h'.cell (Hp.cell_le hl t1)⟩
        have kA := kk _ _ _ (Hp.le_refl _) hD
        have k4 := kk _ _ _ (Hp.le_refl _) (hD.alloc (.cells #[.int .i64 0, .int .i64 0] 41))
        have k5 := kk _ _ _ l3 h5
        replace kk := Lib.hid kk
        have hgi : (gk : Int) < ((nx (x0, x1)).length : Int) := by omega
        clear hst3 hD y en3 enD
        replace h5 := Lib.hid h5
        replace en5 := Lib.hid en5
        go_wp2_with fail
        refine wp_region_held_drew (S := fun w' : World => w'.cell? ⟨b, off + T0.length * 4 + 2, none⟩ = some (.int .i64 (gk : Int)) ∧ w'.cell? ⟨b, off + T0.length * 4 + 3, none⟩ = some (.slice (some ⟨tb, toff, none⟩) (nx (x0, x1)).length tc) ∧ w'.cell? ⟨tb, toff + gk * 2, none⟩ = some (.int .i64 y0) ∧ w'.cell? ⟨tb, toff + gk * 2 + 1, none⟩ = some (.int .i64 y1)) (by kernel_rfl) kA (fun hHeld => ?_)
        refine wpAnyH_take (i := 0) (oi := { dst := some 59, op := Go.Op.move (Go.Operand.tmp 5), type := 101, pos := "comps.go:68", after := #[], guard := none }) (v := ?_) rfl (by kernel_rfl) (by kernel_rfl) (by kernel_rfl) (fun _ _ _ h => h) (Or.inl ⟨by rfl, ?_⟩) (by assumption) ?_
        rotate_left
        · (intro w hSw; (try dsimp only at hSw); go_simp; (try (with_reducible rfl)))
        try simp only [Act.put, List.setIfInBounds_toArray, List.set_cons_zero, List.set_cons_succ]
        refine wpAnyH_take (i := 1) (oi := { dst := some 60, op := Go.Op.nilCheck (Go.Operand.tmp 59), type := 0, pos := "comps.go:68", after := #[{ on := 0, ground := Go.Ground.data }], guard := none }) (v := ?_) rfl (by kernel_rfl) (by kernel_rfl) (by kernel_rfl) (fun _ _ _ h => h) (Or.inl ⟨by rfl, ?_⟩) (by assumption) ?_
        rotate_left
        · (intro w hSw; (try dsimp only at hSw); go_simp; (try (with_reducible rfl)))
        try simp only [Act.put, List.setIfInBounds_toArray, List.set_cons_zero, List.set_cons_succ]
        refine wpAnyH_take (i := 2) (oi := { dst := some 61, op := Go.Op.fieldAddr 99 (Go.Operand.tmp 60) 2, type := 0, pos := "comps.go:68", after := #[{ on := 1, ground := Go.Ground.data }], guard := none }) (v := ?_) rfl (by kernel_rfl) (by kernel_rfl) (by kernel_rfl) (fun _ _ _ h => h) (Or.inl ⟨by rfl, ?_⟩) (by assumption) ?_
        rotate_left
        · (intro w hSw; (try dsimp only at hSw); go_simp; (try (with_reducible rfl)))
        try simp only [Act.put, List.setIfInBounds_toArray, List.set_cons_zero, List.set_cons_succ]
        refine wpAnyH_take (i := 3) (oi := { dst := some 62, op := Go.Op.load 35 (Go.Operand.tmp 61), type := 35, pos := "comps.go:68", after := #[{ on := 2, ground := Go.Ground.data }], guard := none }) (v := ?_) rfl (by kernel_rfl) (by kernel_rfl) (by kernel_rfl) (fun _ _ _ h => h) (Or.inl ⟨by rfl, ?_⟩) (by assumption) ?_
        rotate_left
        · (intro w hSw; (try dsimp only at hSw); go_simp; (try (with_reducible rfl)))
        try simp only [Act.put, List.setIfInBounds_toArray, List.set_cons_zero, List.set_cons_succ]
        refine wpAnyH_take (i := 4) (oi := { dst := some 63, op := Go.Op.move (Go.Operand.tmp 5), type := 101, pos := "comps.go:68", after := #[], guard := none }) (v := ?_) rfl (by kernel_rfl) (by kernel_rfl) (by kernel_rfl) (fun _ _ _ h => h) (Or.inl ⟨by rfl, ?_⟩) (by assumption) ?_
        rotate_left
        · (intro w hSw; (try dsimp only at hSw); go_simp; (try (with_reducible rfl)))
        try simp only [Act.put, List.setIfInBounds_toArray, List.set_cons_zero, List.set_cons_succ]
        refine wpAnyH_take (i := 5) (oi := { dst := some 64, op := Go.Op.nilCheck (Go.Operand.tmp 63), type := 0, pos := "comps.go:68", after := #[{ on := 4, ground := Go.Ground.data }], guard := none }) (v := ?_) rfl (by kernel_rfl) (by kernel_rfl) (by kernel_rfl) (fun _ _ _ h => h) (Or.inl ⟨by rfl, ?_⟩) (by assumption) ?_
        rotate_left
        · (intro w hSw; (try dsimp only at hSw); go_simp; (try (with_reducible rfl)))
        try simp only [Act.put, List.setIfInBounds_toArray, List.set_cons_zero, List.set_cons_succ]
        refine wpAnyH_take (i := 6) (oi := { dst := some 65, op := Go.Op.fieldAddr 99 (Go.Operand.tmp 64) 1, type := 0, pos := "comps.go:68", after := #[{ on := 5, ground := Go.Ground.data }], guard := none }) (v := ?_) rfl (by kernel_rfl) (by kernel_rfl) (by kernel_rfl) (fun _ _ _ h => h) (Or.inl ⟨by rfl, ?_⟩) (by assumption) ?_
        rotate_left
        · (intro w hSw; (try dsimp only at hSw); go_simp; (try (with_reducible rfl)))
        try simp only [Act.put, List.setIfInBounds_toArray, List.set_cons_zero, List.set_cons_succ]
        refine wpAnyH_take (i := 7) (oi := { dst := some 66, op := Go.Op.load 3 (Go.Operand.tmp 65), type := 3, pos := "comps.go:68", after := #[{ on := 6, ground := Go.Ground.data }], guard := none }) (v := ?_) rfl (by kernel_rfl) (by kernel_rfl) (by kernel_rfl) (fun _ _ _ h => h) (Or.inl ⟨by rfl, ?_⟩) (by assumption) ?_
        rotate_left
        · (intro w hSw; (try dsimp only at hSw); go_simp; (try (with_reducible rfl)))
        try simp only [Act.put, List.setIfInBounds_toArray, List.set_cons_zero, List.set_cons_succ]
        refine wpAnyH_take (i := 8) (oi := { dst := some 67, op := Go.Op.indexAddr 35 (Go.Operand.tmp 62) (Go.Operand.tmp 66), type := 0, pos := "comps.go:68", after := #[{ on := 3, ground := Go.Ground.data }, { on := 7, ground := Go.Ground.data }], guard := none }) (v := ?_) rfl (by kernel_rfl) (by kernel_rfl) (by kernel_rfl) (fun _ _ _ h => h) (Or.inl ⟨by rfl, ?_⟩) (by assumption) ?_
        rotate_left
        · (intro w hSw; (try dsimp only at hSw); go_simp; (try (with_reducible rfl)))
        try simp only [Act.put, List.setIfInBounds_toArray, List.set_cons_zero, List.set_cons_succ]
        refine wpAnyH_take (i := 9) (oi := { dst := some 68, op := Go.Op.load 41 (Go.Operand.tmp 67), type := 41, pos := "comps.go:68", after := #[{ on := 8, ground := Go.Ground.data }], guard := none }) (v := ?_) rfl (by kernel_rfl) (by kernel_rfl) (by kernel_rfl) (fun _ _ _ h => h) (Or.inl ⟨by rfl, ?_⟩) (by assumption) ?_
        rotate_left
        · (intro w hSw; (try dsimp only at hSw); go_simp; (try (with_reducible rfl)))
        try simp only [Act.put, List.setIfInBounds_toArray, List.set_cons_zero, List.set_cons_succ]
        refine wpAnyH_ready (rs := [10]) (by kernel_rfl) (by simp) ?_
        refine AllReadyH.cons (o := { dst := some 6, op := Go.Op.alloc 41, type := 0, pos := "comps.go:68", after := #[], guard := none }) rfl (fun K hK => ?_) AllReadyH.nil
        go_simp
        refine hK.out _ _ k4 (fun hHeld1 => ?_)
        clear hK K
        try simp only [Act.put, List.setIfInBounds_toArray, List.set_cons_zero, List.set_cons_succ]
        refine wpAnyH_ready (rs := [11]) (by kernel_rfl) (by simp) ?_
        refine AllReadyH.cons (o := { dst := none, op := Go.Op.store 41 (Go.Operand.tmp 6) (Go.Operand.tmp 68), type := 0, pos := "comps.go:68", after := #[{ on := 10, ground := Go.Ground.data }, { on := 9, ground := Go.Ground.data }, { on := 0, ground := Go.Ground.phase }, { on := 1, ground := Go.Ground.phase }, { on := 2, ground := Go.Ground.phase }, { on := 3, ground := Go.Ground.phase }, { on := 4, ground := Go.Ground.phase }, { on := 5, ground := Go.Ground.phase }, { on := 6, ground := Go.Ground.phase }, { on := 7, ground := Go.Ground.phase }, { on := 8, ground := Go.Ground.phase }, { on := 9, ground := Go.Ground.phase }, { on := 10, ground := Go.Ground.phase }], guard := none }) rfl (fun K hK => ?_) AllReadyH.nil
        go_simp
        refine hK.out _ _ k5 (fun hHeld2 => ?_)
        clear hK K
        try simp only [Act.put, List.setIfInBounds_toArray, List.set_cons_zero, List.set_cons_succ]
        refine wpAnyH_done (by kernel_rfl) ?_ _
        clear hHeld hHeld1 hHeld2 kA k4 k5
        generalize hW5 : (W3.alloc (.cells #[.int .i64 y0, .int .i64 y1] 41)).drew = W5
        replace h5 : St H3 (Row 99 4 (.slice (some ⟨b, off, none⟩) (T0.length + 1) sc) (pls (T0 ++ [((x0, x1), gk, .slice (some ⟨tb, toff, none⟩) (nx (x0, x1)).length tc)])) :: Blk pw #[setP ps, .func (.func F) bnd caps, .slice oA O'.length oc] 71 :: SetA ps L' :: Row 41 2 (.slice oA O'.length oc) (idl O') :: G :: fr) W5 := by rw [← hW5]; exact h5.out
        replace en5 : Env w W5 := by rw [← hW5]; exact en5.out
        clear hW5
        generalize W3.heap.size = gn at *
        have q2 := (g0.out _ _ _ h5).2.2.1
        obtain ⟨_, _, hA, hbl, _, hcf⟩ := h5.row_cells (by omega) (by omega)
        cases hA
        have q2f := hcf (T0.length * 4 + 2)
        rw [← Nat.add_assoc] at q2f
        have h6 := h5.row_set (T0.length * 4 + 2) (by rw [pls_len]; simp; omega) (.int .i64 ((gk + 1 : Nat) : Int))
        have hgc : ((gk + 1 : Nat) : Int) = (gk : Int) + 1 := by omega
        rw [pls_set, ← Nat.add_assoc, hgc] at h6
        have en6 : Env w (W5.setCell ⟨b, off + T0.length * 4 + 2, none⟩ (.int .i64 ((gk : Int) + 1))) := en5.setCell _ _
        have hw5 : IntKind.i64.wrap ((gk : Int) + 1) = (gk : Int) + 1 := by rw [IntKind.wrap_i64]; omega
        clear hcf hbl kk h5 en5 hgi
        replace h6 := Lib.hid h6
        replace en6 := Lib.hid en6
        go_wp2_with fail
        replace h6 := h6.out
        replace en6 := en6.out
        generalize W5.setCell ⟨b, off + T0.length * 4 + 2, none⟩ (.int .i64 ((gk : Int) + 1)) = W6 at *
        clear q2 q2f hw5 hgc
        have h7 := h6.drew
        have en7 := en6.drew
        have kk : ∀ (H' : Hp) (fv' : Value) (l' : List HA) (w' : World), Hp.le H3 H' → St H' (Blk pw #[setP ps, .func (.func F) bnd caps, fv'] 71 :: l') w' → (w'.cell? ⟨pw, 0, none⟩ = some (setP ps) ∧ w'.cell? ⟨pw, 1, none⟩ = some (.func (.func F) bnd caps) ∧ w'.cell? ⟨gn, 0, none⟩ = some (.int .i64 y0) ∧ w'.cell? ⟨gn, 1, none⟩ = some (.int .i64 y1)) := fun H' fv' l' w' hl h' => ⟨h'.blk_cell 0, h'.blk_cell 1, h'.cell (Hp.cell_le hl z0), h'.cell (Hp.cell_le hl z1)⟩
        have kA := kk _ _ _ _ (Hp.le_refl _) h7.swap
        have hRm := Lib.hid (setRem_any ps L' (y0, y1) H3 _ _ (h7.pick 2 (by simp)))
        replace kk := Lib.hid kk
        replace h7 := Lib.hid h7
        clear h6 en6
        refine wp_region_held_drew (S := fun w' => w'.cell? ⟨pw, 0, none⟩ = some (setP ps) ∧ w'.cell? ⟨pw, 1, none⟩ = some (.func (.func F) bnd caps) ∧ w'.cell? ⟨gn, 0, none⟩ = some (.int .i64 y0) ∧ w'.cell? ⟨gn, 1, none⟩ = some (.int .i64 y1)) (by kernel_rfl) kA (fun hHeld => ?_)
        refine wpAnyH_take (i := 0) (oi := { dst := some 76, op := Go.Op.move (Go.Operand.tmp 0), type := 64, pos := "comps.go:70", after := #[], guard := none }) (v := ?_) rfl (by kernel_rfl) (by kernel_rfl) (by kernel_rfl) (fun _ _ _ h => h) (Or.inl ⟨by rfl, ?_⟩) (by assumption) ?_
        rotate_left
        · (intro w hSw; (try dsimp only at hSw); go_simp; (try (with_reducible rfl)))
        try simp only [Act.put, List.setIfInBounds_toArray, List.set_cons_zero, List.set_cons_succ]
        refine wpAnyH_take (i := 1) (oi := { dst := some 77, op := Go.Op.nilCheck (Go.Operand.tmp 76), type := 0, pos := "comps.go:70", after := #[{ on := 0, ground := Go.Ground.data }], guard := none }) (v := ?_) rfl (by kernel_rfl) (by kernel_rfl) (by kernel_rfl) (fun _ _ _ h => h) (Or.inl ⟨by rfl, ?_⟩) (by assumption) ?_
        rotate_left
        · (intro w hSw; (try dsimp only at hSw); go_simp; (try (with_reducible rfl)))
        try simp only [Act.put, List.setIfInBounds_toArray, List.set_cons_zero, List.set_cons_succ]
        refine wpAnyH_take (i := 2) (oi := { dst := some 78, op := Go.Op.fieldAddr 71 (Go.Operand.tmp 77) 0, type := 0, pos := "comps.go:70", after := #[{ on := 1, ground := Go.Ground.data }], guard := none }) (v := ?_) rfl (by kernel_rfl) (by kernel_rfl) (by kernel_rfl) (fun _ _ _ h => h) (Or.inl ⟨by rfl, ?_⟩) (by assumption) ?_
        rotate_left
        · (intro w hSw; (try dsimp only at hSw); go_simp; (try (with_reducible rfl)))
        try simp only [Act.put, List.setIfInBounds_toArray, List.set_cons_zero, List.set_cons_succ]
        refine wpAnyH_take (i := 3) (oi := { dst := some 79, op := Go.Op.load 65 (Go.Operand.tmp 78), type := 65, pos := "comps.go:70", after := #[{ on := 2, ground := Go.Ground.data }], guard := none }) (v := ?_) rfl (by kernel_rfl) (by kernel_rfl) (by kernel_rfl) (fun _ _ _ h => h) (Or.inl ⟨by rfl, ?_⟩) (by assumption) ?_
        rotate_left
        · (intro w hSw; (try dsimp only at hSw); go_simp; (try (with_reducible rfl)))
        try simp only [Act.put, List.setIfInBounds_toArray, List.set_cons_zero, List.set_cons_succ]
        refine wpAnyH_take (i := 4) (oi := { dst := some 80, op := Go.Op.load 41 (Go.Operand.tmp 6), type := 41, pos := "comps.go:70", after := #[], guard := none }) (v := ?_) rfl (by kernel_rfl) (by kernel_rfl) (by kernel_rfl) (fun _ _ _ h => h) (Or.inl ⟨by rfl, ?_⟩) (by assumption) ?_
        rotate_left
        · (intro w hSw; (try dsimp only at hSw); go_simp; (try (with_reducible rfl)))
        try simp only [Act.put, List.setIfInBounds_toArray, List.set_cons_zero, List.set_cons_succ]
        refine wpAnyH_ready (rs := [5]) (by kernel_rfl) (by simp) ?_
        refine AllReadyH.cons (o := { dst := some 81, op := Go.Op.call { callee := Go.Callee.value (Go.Operand.func 73), args := #[Go.Operand.tmp 79, Go.Operand.tmp 80], argTypes := #[65, 41] }, type := 4, pos := "comps.go:70", after := #[{ on := 3, ground := Go.Ground.data }, { on := 4, ground := Go.Ground.data }], guard := none }) rfl (fun K hK => ?_) AllReadyH.nil
        go_simp
        refine hRm.out.mono ?_
        rintro e w8 ⟨rfl, h8, en8⟩
        replace h8 : St H3 (SetA ps (cutL (y0, y1) L') :: Row 99 4 (.slice (some ⟨b, off, none⟩) (T0.length + 1) sc) (pls (T0 ++ [((x0, x1), gk + 1, .slice (some ⟨tb, toff, none⟩) (nx (x0, x1)).length tc)])) :: Blk pw #[setP ps, .func (.func F) bnd caps, .slice oA O'.length oc] 71 :: Row 41 2 (.slice oA O'.length oc) (idl O') :: G :: fr) w8 := h8
        replace en8 := en7.trans en8
        refine hK.out _ _ (kk.out _ _ _ _ (Hp.le_refl _) (h8.pick 2 (by simp))) (fun hHeld2 => ?_)
        clear hK K hHeld
        try simp only [Act.put, List.setIfInBounds_toArray, List.set_cons_zero, List.set_cons_succ]
        refine wpAnyH_done (by kernel_rfl) ?_ _
        clear hRm h7 en7 kA hHeld2
        by_cases hm : (y0, y1) ∈ L'
        · rw [decide_eq_true hm]
          have h9 := h8.drew
          have en9 := en8.drew
          have kA := kk.out _ _ _ _ (Hp.le_refl _) (h9.pick 2 (by simp))
          have h9p : St H3 (G :: SetA ps (cutL (y0, y1) L') :: Row 99 4 (.slice (some ⟨b, off, none⟩) (T0.length + 1) sc) (pls (T0 ++ [(((x0, x1), gk + 1, .slice (some ⟨tb, toff, none⟩) (nx (x0, x1)).length tc) : Pl)])) :: Blk pw #[setP ps, .func (.func F) bnd caps, .slice oA O'.length oc] 71 :: Row 41 2 (.slice oA O'.length oc) (idl O') :: fr) w8.drew := h9.pick 4 (by simp)
          have hCn := Lib.hid (hN.out (y0, y1) H3 _ _ (Hp.le_trans l1 (Hp.le_trans l2 l3)) h9p)
          have hym := hnl.out (y0, y1)
          have hstp : Stp nx ⟨L', stk (T0 ++ [((x0, x1), gk, .slice (some ⟨tb, toff, none⟩) (nx (x0, x1)).length tc)]), O'⟩ ⟨cutL (y0, y1) L', ((y0, y1), 0) :: stk (T0 ++ [((x0, x1), gk + 1, .slice (some ⟨tb, toff, none⟩) (nx (x0, x1)).length tc)]), O'⟩ := by
            rw [stk_snoc, stk_snoc]
            exact .push hnk hm
          have hless := cutL_less hm
          replace hstp := Lib.hid hstp
          clear h8 en8 h9 h9p hm hnk hfinS hN
          go_wp2_with fail
          refine wp_region_held_drew (S := fun w' => w'.cell? ⟨pw, 0, none⟩ = some (setP ps) ∧ w'.cell? ⟨pw, 1, none⟩ = some (.func (.func F) bnd caps) ∧ w'.cell? ⟨gn, 0, none⟩ = some (.int .i64 y0) ∧ w'.cell? ⟨gn, 1, none⟩ = some (.int .i64 y1)) (by kernel_rfl) kA (fun hHeld => ?_)
          refine wpAnyH_take (i := 0) (oi := { dst := some 82, op := Go.Op.move (Go.Operand.tmp 4), type := 100, pos := "comps.go:71", after := #[], guard := none }) (v := ?_) rfl (by kernel_rfl) (by kernel_rfl) (by kernel_rfl) (fun _ _ _ h => h) (Or.inl ⟨by rfl, ?_⟩) (by assumption) ?_
          rotate_left
          · (intro w hSw; (try dsimp only at hSw); go_simp; (try (with_reducible rfl)))
          try simp only [Act.put, List.setIfInBounds_toArray, List.set_cons_zero, List.set_cons_succ]
          refine wpAnyH_take (i := 1) (oi := { dst := some 83, op := Go.Op.load 41 (Go.Operand.tmp 6), type := 41, pos := "comps.go:71", after := #[], guard := none }) (v := ?_) rfl (by kernel_rfl) (by kernel_rfl) (by kernel_rfl) (fun _ _ _ h => h) (Or.inl ⟨by rfl, ?_⟩) (by assumption) ?_
          rotate_left
          · (intro w hSw; (try dsimp only at hSw); go_simp; (try (with_reducible rfl)))
          try simp only [Act.put, List.setIfInBounds_toArray, List.set_cons_zero, List.set_cons_succ]
          refine wpAnyH_take (i := 2) (oi := { dst := some 84, op := Go.Op.move (Go.Operand.tmp 0), type := 64, pos := "comps.go:71", after := #[], guard := none }) (v := ?_) rfl (by kernel_rfl) (by kernel_rfl) (by kernel_rfl) (fun _ _ _ h => h) (Or.inl ⟨by rfl, ?_⟩) (by assumption) ?_
          rotate_left
          · (intro w hSw; (try dsimp only at hSw); go_simp; (try (with_reducible rfl)))
          try simp only [Act.put, List.setIfInBounds_toArray, List.set_cons_zero, List.set_cons_succ]
          refine wpAnyH_take (i := 3) (oi := { dst := some 85, op := Go.Op.nilCheck (Go.Operand.tmp 84), type := 0, pos := "comps.go:71", after := #[{ on := 2, ground := Go.Ground.data }], guard := none }) (v := ?_) rfl (by kernel_rfl) (by kernel_rfl) (by kernel_rfl) (fun _ _ _ h => h) (Or.inl ⟨by rfl, ?_⟩) (by assumption) ?_
          rotate_left
          · (intro w hSw; (try dsimp only at hSw); go_simp; (try (with_reducible rfl)))
          try simp only [Act.put, List.setIfInBounds_toArray, List.set_cons_zero, List.set_cons_succ]
          refine wpAnyH_take (i := 4) (oi := { dst := some 86, op := Go.Op.fieldAddr 71 (Go.Operand.tmp 85) 1, type := 0, pos := "comps.go:71", after := #[{ on := 3, ground := Go.Ground.data }], guard := none }) (v := ?_) rfl (by kernel_rfl) (by kernel_rfl) (by kernel_rfl) (fun _ _ _ h => h) (Or.inl ⟨by rfl, ?_⟩) (by assumption) ?_
          rotate_left
          · (intro w hSw; (try dsimp only at hSw); go_simp; (try (with_reducible rfl)))
          try simp only [Act.put, List.setIfInBounds_toArray, List.set_cons_zero, List.set_cons_succ]
          refine wpAnyH_take (i := 5) (oi := { dst := some 87, op := Go.Op.load 69 (Go.Operand.tmp 86), type := 69, pos := "comps.go:71", after := #[{ on := 4, ground := Go.Ground.data }], guard := none }) (v := ?_) rfl (by kernel_rfl) (by kernel_rfl) (by kernel_rfl) (fun _ _ _ h => h) (Or.inl ⟨by rfl, ?_⟩) (by assumption) ?_
          rotate_left
          · (intro w hSw; (try dsimp only at hSw); go_simp; (try (with_reducible rfl)))
          try simp only [Act.put, List.setIfInBounds_toArray, List.set_cons_zero, List.set_cons_succ]
          refine wpAnyH_take (i := 6) (oi := { dst := some 88, op := Go.Op.load 41 (Go.Operand.tmp 6), type := 41, pos := "comps.go:71", after := #[], guard := none }) (v := ?_) rfl (by kernel_rfl) (by kernel_rfl) (by kernel_rfl) (fun _ _ _ h => h) (Or.inl ⟨by rfl, ?_⟩) (by assumption) ?_
          rotate_left
          · (intro w hSw; (try dsimp only at hSw); go_simp; (try (with_reducible rfl)))
          try simp only [Act.put, List.setIfInBounds_toArray, List.set_cons_zero, List.set_cons_succ]
          refine wpAnyH_ready (rs := [7]) (by kernel_rfl) (by simp) ?_
          refine AllReadyH.cons (o := { dst := some 89, op := Go.Op.call { callee := Go.Callee.value (Go.Operand.tmp 87), args := #[Go.Operand.tmp 88], argTypes := #[41] }, type := 35, pos := "comps.go:71", after := #[{ on := 5, ground := Go.Ground.data }, { on := 6, ground := Go.Ground.data }], guard := none }) rfl (fun K hK => ?_) AllReadyH.nil
          go_simp
          refine hCn.out.mono ?_
          rintro e w10 ⟨nv, H4, rfl, l4, h10, en10, hnv⟩
          obtain ⟨nA, nn, nc, rfl, hn1, hn2, _⟩ := hnv.form
          replace en10 := en9.trans en10
          have h11 : St H4 (Row 99 4 (.slice (some ⟨b, off, none⟩) (T0.length + 1) sc) (pls (T0 ++ [((x0, x1), gk + 1, .slice (some ⟨tb, toff, none⟩) (nx (x0, x1)).length tc)])) :: Blk pw #[setP ps, .func (.func F) bnd caps, .slice oA O'.length oc] 71 :: SetA ps (cutL (y0, y1) L') :: Row 41 2 (.slice oA O'.length oc) (idl O') :: G :: fr) w10 := h10.perm (perm_G _ _ _ _ _ _)
          have k11 := kk.out _ _ _ _ l4 h11.swap
          obtain ⟨H5, l5, h12, y⟩ := h11.box #[.int .i64 y0, .int .i64 y1, .int .i64 0, .slice nA nn nc] 99
          have k12 := kk.out _ _ _ _ (Hp.le_trans l4 l5) h12.swap
          obtain ⟨v', w13, hrun, h13, en13⟩ := St.append_run h12 100 100 100 (.agg #[.int .i64 0, .int .i64 0, .int .i64 0, .slice none 0 0]) 48 Tryz.underlying100 (.inl ⟨_, Tryz.underlying100⟩) info_place rfl (by decide) (x := .slice (some ⟨w10.heap.size, 0, none⟩) 1 1) (m := 1) (news := pls [((y0, y1), 0, .slice nA nn nc)]) (News.slice rfl (fun _ => ⟨_, rfl, fun j u hj => by rw [add_lit, Nat.zero_add]; exact h12.cell (y j u (by simpa [pls, plc] using hj))⟩) (by rw [pls_one]; exact plc_one _ _ _ _ _)) (by rw [pls_len, pls_len]; simp; omega) (by decide)
          rw [← pls_app] at h13
          obtain ⟨va, vn, vc, rfl, _⟩ := h13.row_form
          have en14 := (en10.alloc (.cells #[.int .i64 y0, .int .i64 y1, .int .i64 0, .slice nA nn nc] 99)).trans en13
          have k13 := kk.out _ _ _ _ (Hp.le_trans l4 l5) h13.swap
          replace h13 := Lib.hid h13
          replace en14 := Lib.hid en14
          clear h10 h11 h12 en10 y en13
          refine hK.out _ _ k11 (fun hHeld2 => ?_)
          clear hK K hHeld
          try simp only [Act.put, List.setIfInBounds_toArray, List.set_cons_zero, List.set_cons_succ]
          refine wpAnyH_take (i := 8) (oi := { dst := some 90, op := Go.Op.build 99 #[(0, Go.Operand.tmp 83), (2, Go.Operand.tmp 89)], type := 99, pos := "comps.go:71", after := #[{ on := 1, ground := Go.Ground.data }, { on := 7, ground := Go.Ground.data }], guard := none }) (v := ?_) rfl (by kernel_rfl) (by kernel_rfl) (by kernel_rfl) (fun _ _ _ h => h) (Or.inl ⟨by rfl, ?_⟩) (by assumption) ?_
          rotate_left
          · (intro w hSw; (try dsimp only at hSw); go_simp; (try (with_reducible rfl)))
          try simp only [Act.put, List.setIfInBounds_toArray, List.set_cons_zero, List.set_cons_succ]
          refine wpAnyH_ready (rs := [9]) (by kernel_rfl) (by simp) ?_
          refine AllReadyH.cons (o := { dst := some 91, op := Go.Op.buildSlice 100 1 #[(0, Go.Operand.tmp 90)], type := 100, pos := "comps.go:71", after := #[{ on := 8, ground := Go.Ground.data }], guard := none }) rfl (fun K hK => ?_) AllReadyH.nil
          go_simp
          refine hK.out _ _ k12 (fun hHeld3 => ?_)
          clear hK K hHeld2
          try simp only [Act.put, List.setIfInBounds_toArray, List.set_cons_zero, List.set_cons_succ]
          refine wpAnyH_ready (rs := [10]) (by kernel_rfl) (by simp) ?_
          refine AllReadyH.cons (o := { dst := some 92, op := Go.Op.call { callee := Go.Callee.builtin Go.Builtin.append, args := #[Go.Operand.tmp 82, Go.Operand.tmp 91], argTypes := #[100, 100] }, type := 100, pos := "comps.go:71", after := #[{ on := 0, ground := Go.Ground.data }, { on := 9, ground := Go.Ground.data }, { on := 7, ground := Go.Ground.chain }], guard := none }) rfl (fun K hK => ?_) AllReadyH.nil
          rw [if_pos (by rfl)]
          refine oper_append_at (.tmp 82) (.tmp 91) 100 100 100 hrun rfl rfl rfl rfl ?_
          refine hK.out _ _ k13 (fun hHeld4 => ?_)
          clear hK K hHeld3
          try simp only [Act.put, List.setIfInBounds_toArray, List.set_cons_zero, List.set_cons_succ]
          refine wpAnyH_take (i := 11) (oi := { dst := some 4, op := Go.Op.assign (Go.Operand.tmp 92), type := 100, pos := "comps.go:71", after := #[{ on := 10, ground := Go.Ground.data }, { on := 10, ground := Go.Ground.chain }, { on := 0, ground := Go.Ground.phase }, { on := 1, ground := Go.Ground.phase }, { on := 2, ground := Go.Ground.phase }, { on := 3, ground := Go.Ground.phase }, { on := 4, ground := Go.Ground.phase }, { on := 5, ground := Go.Ground.phase }, { on := 6, ground := Go.Ground.phase }, { on := 7, ground := Go.Ground.phase }, { on := 8, ground := Go.Ground.phase }, { on := 9, ground := Go.Ground.phase }, { on := 10, ground := Go.Ground.phase }], guard := none }) (v := ?_) rfl (by kernel_rfl) (by kernel_rfl) (by kernel_rfl) (fun _ _ _ h => h) (Or.inl ⟨by rfl, ?_⟩) (by assumption) ?_
          rotate_left
          · (intro w hSw; (try dsimp only at hSw); go_simp; (try (with_reducible rfl)))
          try simp only [Act.put, List.setIfInBounds_toArray, List.set_cons_zero, List.set_cons_succ]
          refine wpAnyH_done (by kernel_rfl) ?_ _
          clear hrun k11 k12 k13 kA hHeld4 hCn kk
          have h14 := h13.out
          have en15 := en14.out
          have hI2 := hIv.out.step hstp.out
          have hS2 := hSp.out.2.snoc (stk_ne _ _) hstp.out
          clear h13 en14
          go_wp2_with fail
          refine wp_goto ?_
          refine ⟨rfl, (cutL (y0, y1) L').length * 1002 + ((T0 ++ [(((x0, x1), gk + 1, .slice (some ⟨tb, toff, none⟩) (nx (x0, x1)).length tc) : Pl)] ++ [(((y0, y1), 0, .slice nA nn nc) : Pl)]).map (fun x => (nx x.1).length - x.2.1 + 1)).sum, ?_, CFJ.mk (.slice va vn vc) (T0 ++ [((x0, x1), gk + 1, .slice (some ⟨tb, toff, none⟩) (nx (x0, x1)).length tc)] ++ [((y0, y1), 0, .slice nA nn nc)]) (cutL (y0, y1) L') O' (.slice oA O'.length oc) H5 rfl rfl rfl rfl rfl rfl rfl (Hp.le_trans (Hp.le_trans l2 l3) (Hp.le_trans l4 l5)) h14 en15 (fun x hx => ?_) ⟨hSp.out.1, by rw [stk_snoc]; exact hS2⟩ (by rw [stk_snoc]; exact hI2) (List.Pairwise.filter _ hLn'.out)⟩
          · rw [hn, List.map_append, List.sum_append, List.map_append, List.sum_append, List.map_append, List.sum_append]
            simp
            omega
          · have l35 := Hp.le_trans l3 (Hp.le_trans l4 l5)
            rcases List.mem_append.1 hx with h | h
            · rcases List.mem_append.1 h with h | h
              · have h := hTd.out x (by simp [h])
                exact ⟨h.1.mono l35, h.2⟩
              · rw [List.mem_singleton] at h
                subst h
                exact ⟨hxr.mono l35, hgl⟩
            · rw [List.mem_singleton] at h
              subst h
              exact ⟨hnv.mono l5, Nat.zero_le _⟩
        · rw [decide_eq_false hm]
          have hcut : cutL (y0, y1) L' = L' := List.filter_eq_self.2 (fun b hb => decide_eq_true (fun (e : b = (y0, y1)) => hm (e ▸ hb)))
          rw [hcut] at h8
          have hstp : Stp nx ⟨L', stk (T0 ++ [((x0, x1), gk, .slice (some ⟨tb, toff, none⟩) (nx (x0, x1)).length tc)]), O'⟩ ⟨L', stk (T0 ++ [((x0, x1), gk + 1, .slice (some ⟨tb, toff, none⟩) (nx (x0, x1)).length tc)]), O'⟩ := by
            rw [stk_snoc, stk_snoc]
            exact .skip hnk hm
          have h9 : St H3 (Row 99 4 (.slice (some ⟨b, off, none⟩) (T0.length + 1) sc) (pls (T0 ++ [((x0, x1), gk + 1, .slice (some ⟨tb, toff, none⟩) (nx (x0, x1)).length tc)])) :: Blk pw #[setP ps, .func (.func F) bnd caps, .slice oA O'.length oc] 71 :: SetA ps L' :: Row 41 2 (.slice oA O'.length oc) (idl O') :: G :: fr) w8 := h8.perm ((List.Perm.swap _ _ _).trans (List.Perm.cons _ (List.Perm.swap _ _ _)))
          clear kk hm hcut h8 hfinS hN
          go_wp2_with fail
          refine wp_goto ?_
          refine ⟨rfl, L'.length * 1002 + ((T0 ++ [(((x0, x1), gk + 1, .slice (some ⟨tb, toff, none⟩) (nx (x0, x1)).length tc) : Pl)]).map (fun x => (nx x.1).length - x.2.1 + 1)).sum, ?_, CFJ.mk (.slice (some ⟨b, off, none⟩) (T0.length + 1) sc) (T0 ++ [((x0, x1), gk + 1, .slice (some ⟨tb, toff, none⟩) (nx (x0, x1)).length tc)]) L' O' (.slice oA O'.length oc) H3 rfl rfl rfl rfl rfl rfl rfl (Hp.le_trans l2 l3) h9 en8 (fun x hx => ?_) ⟨hSp.out.1, hSp.out.2.snoc (stk_ne _ _) hstp⟩ (hIv.out.step hstp) hLn'.out⟩
          · rw [hn, List.map_append, List.sum_append, List.map_append, List.sum_append]
            simp
            omega
          · rcases List.mem_append.1 hx with h | h
            · have h := hTd.out x (by simp [h])
              exact ⟨h.1.mono l3, h.2⟩
            · rw [List.mem_singleton] at h
              subst h
              exact ⟨hxr.mono l3, hgl⟩
  go_wp2_with fail
  refine wp_region_held_drew (S := fun w' => w'.cell? ⟨pw, 0, none⟩ = some (setP ps) ∧ w'.cell? ⟨pw, 1, none⟩ = some (.func (.func F) bnd caps) ∧ w'.cell? ⟨gb, 0, none⟩ = some (.int .i64 a0) ∧ w'.cell? ⟨gb, 1, none⟩ = some (.int .i64 a1)) (by kernel_rfl) (kk _ _ _ [] _ (Hp.le_refl _) h2) (fun hHeld => ?_)
  refine wpAnyH_take (i := 0) (oi := { dst := some 7, op := Go.Op.move (Go.Operand.tmp 0), type := 64, pos := "comps.go:54", after := #[], guard := none }) (v := ?_) rfl (by kernel_rfl) (by kernel_rfl) (by kernel_rfl) (fun _ _ _ h => h) (Or.inl ⟨by rfl, ?_⟩) (by assumption) ?_
  rotate_left
  · (intro w hSw; (try dsimp only at hSw); go_simp; (try (with_reducible rfl)))
  try simp only [Act.put, List.setIfInBounds_toArray, List.set_cons_zero, List.set_cons_succ]
  refine wpAnyH_take (i := 1) (oi := { dst := some 8, op := Go.Op.nilCheck (Go.Operand.tmp 7), type := 0, pos := "comps.go:54", after := #[{ on := 0, ground := Go.Ground.data }], guard := none }) (v := ?_) rfl (by kernel_rfl) (by kernel_rfl) (by kernel_rfl) (fun _ _ _ h => h) (Or.inl ⟨by rfl, ?_⟩) (by assumption) ?_
  rotate_left
  · (intro w hSw; (try dsimp only at hSw); go_simp; (try (with_reducible rfl)))
  try simp only [Act.put, List.setIfInBounds_toArray, List.set_cons_zero, List.set_cons_succ]
  refine wpAnyH_take (i := 2) (oi := { dst := some 9, op := Go.Op.fieldAddr 71 (Go.Operand.tmp 8) 0, type := 0, pos := "comps.go:54", after := #[{ on := 1, ground := Go.Ground.data }], guard := none }) (v := ?_) rfl (by kernel_rfl) (by kernel_rfl) (by kernel_rfl) (fun _ _ _ h => h) (Or.inl ⟨by rfl, ?_⟩) (by assumption) ?_
  rotate_left
  · (intro w hSw; (try dsimp only at hSw); go_simp; (try (with_reducible rfl)))
  try simp only [Act.put, List.setIfInBounds_toArray, List.set_cons_zero, List.set_cons_succ]
  refine wpAnyH_take (i := 3) (oi := { dst := some 10, op := Go.Op.load 65 (Go.Operand.tmp 9), type := 65, pos := "comps.go:54", after := #[{ on := 2, ground := Go.Ground.data }], guard := none }) (v := ?_) rfl (by kernel_rfl) (by kernel_rfl) (by kernel_rfl) (fun _ _ _ h => h) (Or.inl ⟨by rfl, ?_⟩) (by assumption) ?_
  rotate_left
  · (intro w hSw; (try dsimp only at hSw); go_simp; (try (with_reducible rfl)))
  try simp only [Act.put, List.setIfInBounds_toArray, List.set_cons_zero, List.set_cons_succ]
  refine wpAnyH_take (i := 4) (oi := { dst := some 11, op := Go.Op.load 41 (Go.Operand.tmp 3), type := 41, pos := "comps.go:54", after := #[], guard := none }) (v := ?_) rfl (by kernel_rfl) (by kernel_rfl) (by kernel_rfl) (fun _ _ _ h => h) (Or.inl ⟨by rfl, ?_⟩) (by assumption) ?_
  rotate_left
  · (intro w hSw; (try dsimp only at hSw); go_simp; (try (with_reducible rfl)))
  try simp only [Act.put, List.setIfInBounds_toArray, List.set_cons_zero, List.set_cons_succ]
  refine wpAnyH_ready (rs := [5]) (by kernel_rfl) (by simp) ?_
  refine AllReadyH.cons (o := { dst := some 12, op := Go.Op.call { callee := Go.Callee.value (Go.Operand.func 73), args := #[Go.Operand.tmp 10, Go.Operand.tmp 11], argTypes := #[65, 41] }, type := 4, pos := "comps.go:54", after := #[{ on := 3, ground := Go.Ground.data }, { on := 4, ground := Go.Ground.data }], guard := none }) rfl (fun K hK => ?_) AllReadyH.nil
  go_simp
  refine hRm.out.mono ?_
  rintro e w3 ⟨rfl, h3, en3⟩
  have h4 : St H1 (Blk pw #[setP ps, .func (.func F) bnd caps, ov] 71 :: SetA ps (cutL (a0, a1) L) :: Row 41 2 ov (idl O) :: G :: fr) w3 := St.swap h3
  replace en3 := en2.trans en3
  refine hK.out _ _ (kk _ _ _ [] _ (Hp.le_refl _) h4) (fun hHeld2 => ?_)
  clear hK K hHeld
  try simp only [Act.put, List.setIfInBounds_toArray, List.set_cons_zero, List.set_cons_succ]
  refine wpAnyH_take (i := 6) (oi := { dst := some 13, op := Go.Op.unOp Go.UnOp.not 4 (Go.Operand.tmp 12), type := 4, pos := "comps.go:54", after := #[{ on := 5, ground := Go.Ground.data }], guard := none }) (v := ?_) rfl (by kernel_rfl) (by kernel_rfl) (by kernel_rfl) (fun _ _ _ h => h) (Or.inl ⟨by rfl, ?_⟩) (by assumption) ?_
  rotate_left
  · (intro w hSw; (try dsimp only at hSw); go_simp; (try (with_reducible rfl)))
  try simp only [Act.put, List.setIfInBounds_toArray, List.set_cons_zero, List.set_cons_succ]
  refine wpAnyH_done (by kernel_rfl) ?_ _
  by_cases hm : (a0, a1) ∈ L
  · rw [decide_eq_true hm]
    clear hfinN hRm h3 h1 h2 en1 en2 hHeld2
    go_wp2_with fail
    have h5 := h4.drew
    have en5 := en3.drew
    have hCn := Lib.hid (hN.out (a0, a1) H1 (Blk pw #[setP ps, .func (.func F) bnd caps, ov] 71 :: SetA ps (cutL (a0, a1) L) :: Row 41 2 ov (idl O) :: fr) _ l1 (h5.pick 3 (by simp)))
    refine wp_region_held_drew (S := fun w' => w'.cell? ⟨pw, 0, none⟩ = some (setP ps) ∧ w'.cell? ⟨pw, 1, none⟩ = some (.func (.func F) bnd caps) ∧ w'.cell? ⟨gb, 0, none⟩ = some (.int .i64 a0) ∧ w'.cell? ⟨gb, 1, none⟩ = some (.int .i64 a1)) (by kernel_rfl) (kk _ _ _ [] _ (Hp.le_refl _) h5) (fun hHeld => ?_)
    refine wpAnyH_take (i := 0) (oi := { dst := some 14, op := Go.Op.load 41 (Go.Operand.tmp 3), type := 41, pos := "comps.go:57", after := #[], guard := none }) (v := ?_) rfl (by kernel_rfl) (by kernel_rfl) (by kernel_rfl) (fun _ _ _ h => h) (Or.inl ⟨by rfl, ?_⟩) (by assumption) ?_
    rotate_left
    · (intro w hSw; (try dsimp only at hSw); go_simp; (try (with_reducible rfl)))
    try simp only [Act.put, List.setIfInBounds_toArray, List.set_cons_zero, List.set_cons_succ]
    refine wpAnyH_take (i := 1) (oi := { dst := some 15, op := Go.Op.move (Go.Operand.tmp 0), type := 64, pos := "comps.go:57", after := #[], guard := none }) (v := ?_) rfl (by kernel_rfl) (by kernel_rfl) (by kernel_rfl) (fun _ _ _ h => h) (Or.inl ⟨by rfl, ?_⟩) (by assumption) ?_
    rotate_left
    · (intro w hSw; (try dsimp only at hSw); go_simp; (try (with_reducible rfl)))
    try simp only [Act.put, List.setIfInBounds_toArray, List.set_cons_zero, List.set_cons_succ]
    refine wpAnyH_take (i := 2) (oi := { dst := some 16, op := Go.Op.nilCheck (Go.Operand.tmp 15), type := 0, pos := "comps.go:57", after := #[{ on := 1, ground := Go.Ground.data }], guard := none }) (v := ?_) rfl (by kernel_rfl) (by kernel_rfl) (by kernel_rfl) (fun _ _ _ h => h) (Or.inl ⟨by rfl, ?_⟩) (by assumption) ?_
    rotate_left
    · (intro w hSw; (try dsimp only at hSw); go_simp; (try (with_reducible rfl)))
    try simp only [Act.put, List.setIfInBounds_toArray, List.set_cons_zero, List.set_cons_succ]
    refine wpAnyH_take (i := 3) (oi := { dst := some 17, op := Go.Op.fieldAddr 71 (Go.Operand.tmp 16) 1, type := 0, pos := "comps.go:57", after := #[{ on := 2, ground := Go.Ground.data }], guard := none }) (v := ?_) rfl (by kernel_rfl) (by kernel_rfl) (by kernel_rfl) (fun _ _ _ h => h) (Or.inl ⟨by rfl, ?_⟩) (by assumption) ?_
    rotate_left
    · (intro w hSw; (try dsimp only at hSw); go_simp; (try (with_reducible rfl)))
    try simp only [Act.put, List.setIfInBounds_toArray, List.set_cons_zero, List.set_cons_succ]
    refine wpAnyH_take (i := 4) (oi := { dst := some 18, op := Go.Op.load 69 (Go.Operand.tmp 17), type := 69, pos := "comps.go:57", after := #[{ on := 3, ground := Go.Ground.data }], guard := none }) (v := ?_) rfl (by kernel_rfl) (by kernel_rfl) (by kernel_rfl) (fun _ _ _ h => h) (Or.inl ⟨by rfl, ?_⟩) (by assumption) ?_
    rotate_left
    · (intro w hSw; (try dsimp only at hSw); go_simp; (try (with_reducible rfl)))
    try simp only [Act.put, List.setIfInBounds_toArray, List.set_cons_zero, List.set_cons_succ]
    refine wpAnyH_take (i := 5) (oi := { dst := some 19, op := Go.Op.load 41 (Go.Operand.tmp 3), type := 41, pos := "comps.go:57", after := #[], guard := none }) (v := ?_) rfl (by kernel_rfl) (by kernel_rfl) (by kernel_rfl) (fun _ _ _ h => h) (Or.inl ⟨by rfl, ?_⟩) (by assumption) ?_
    rotate_left
    · (intro w hSw; (try dsimp only at hSw); go_simp; (try (with_reducible rfl)))
    try simp only [Act.put, List.setIfInBounds_toArray, List.set_cons_zero, List.set_cons_succ]
    refine wpAnyH_ready (rs := [6]) (by kernel_rfl) (by simp) ?_
    refine AllReadyH.cons (o := { dst := some 20, op := Go.Op.call { callee := Go.Callee.value (Go.Operand.tmp 18), args := #[Go.Operand.tmp 19], argTypes := #[41] }, type := 35, pos := "comps.go:57", after := #[{ on := 4, ground := Go.Ground.data }, { on := 5, ground := Go.Ground.data }], guard := none }) rfl (fun K hK => ?_) AllReadyH.nil
    go_simp
    refine hCn.out.mono ?_
    rintro e w6 ⟨nv, H2, rfl, l2, h6, en6, hnv⟩
    obtain ⟨nA, nn, nc, rfl, hn1, hn2, _⟩ := hnv.form
    replace en6 := en5.trans en6
    have h7 : St H2 (Blk pw #[setP ps, .func (.func F) bnd caps, ov] 71 :: SetA ps (cutL (a0, a1) L) :: Row 41 2 ov (idl O) :: G :: fr) w6 := ((h6.pick 3 (by simp)).pick 3 (by simp)).pick 3 (by simp)
    refine hK.out _ _ (kk _ _ _ [] _ l2 h7) (fun hHeld2 => ?_)
    clear hK K hHeld
    try simp only [Act.put, List.setIfInBounds_toArray, List.set_cons_zero, List.set_cons_succ]
    refine wpAnyH_take (i := 7) (oi := { dst := some 21, op := Go.Op.build 99 #[(0, Go.Operand.tmp 14), (2, Go.Operand.tmp 20)], type := 99, pos := "comps.go:57", after := #[{ on := 0, ground := Go.Ground.data }, { on := 6, ground := Go.Ground.data }], guard := none }) (v := ?_) rfl (by kernel_rfl) (by kernel_rfl) (by kernel_rfl) (fun _ _ _ h => h) (Or.inl ⟨by rfl, ?_⟩) (by assumption) ?_
    rotate_left
    · (intro w hSw; (try dsimp only at hSw); go_simp; (try (with_reducible rfl)))
    try simp only [Act.put, List.setIfInBounds_toArray, List.set_cons_zero, List.set_cons_succ]
    refine wpAnyH_ready (rs := [8]) (by kernel_rfl) (by simp) ?_
    refine AllReadyH.cons (o := { dst := some 22, op := Go.Op.buildSlice 100 1 #[(0, Go.Operand.tmp 21)], type := 100, pos := "comps.go:57", after := #[{ on := 7, ground := Go.Ground.data }], guard := none }) rfl (fun K hK => ?_) AllReadyH.nil
    go_simp
    refine hK.out _ _ (kk _ _ _ [] _ l2 (h7.alloc _)) (fun hHeld3 => ?_)
    clear hK K hHeld2
    try simp only [Act.put, List.setIfInBounds_toArray, List.set_cons_zero, List.set_cons_succ]
    refine wpAnyH_take (i := 9) (oi := { dst := some 4, op := Go.Op.assign (Go.Operand.tmp 22), type := 100, pos := "comps.go:57", after := #[{ on := 8, ground := Go.Ground.data }, { on := 6, ground := Go.Ground.chain }, { on := 0, ground := Go.Ground.phase }, { on := 1, ground := Go.Ground.phase }, { on := 2, ground := Go.Ground.phase }, { on := 3, ground := Go.Ground.phase }, { on := 4, ground := Go.Ground.phase }, { on := 5, ground := Go.Ground.phase }, { on := 6, ground := Go.Ground.phase }, { on := 7, ground := Go.Ground.phase }, { on := 8, ground := Go.Ground.phase }], guard := none }) (v := ?_) rfl (by kernel_rfl) (by kernel_rfl) (by kernel_rfl) (fun _ _ _ h => h) (Or.inl ⟨by rfl, ?_⟩) (by assumption) ?_
    rotate_left
    · (intro w hSw; (try dsimp only at hSw); go_simp; (try (with_reducible rfl)))
    try simp only [Act.put, List.setIfInBounds_toArray, List.set_cons_zero, List.set_cons_succ]
    refine wpAnyH_done (by kernel_rfl) ?_ _
    have h8 := h7.row_lit 99 4 1 #[.int .i64 a0, .int .i64 a1, .int .i64 0, .slice nA nn nc] rfl (by decide)
    have en8 := en6.alloc (.cells #[.int .i64 a0, .int .i64 a1, .int .i64 0, .slice nA nn nc] 99)
    have hI0 : Hid (Iv nx U ⟨cutL (a0, a1) L, [((a0, a1), 0)], O⟩) := Lib.hid (hI.step (.root hm))
    have hLn0 : Hid ((cutL (a0, a1) L).Nodup) := Lib.hid (List.Pairwise.filter _ hLn)
    have h9 : St H2 (Row 99 4 (.slice (some ⟨w6.heap.size, 0, none⟩) 1 1) (pls [((a0, a1), 0, .slice nA nn nc)]) :: Blk pw #[setP ps, .func (.func F) bnd caps, ov] 71 :: SetA ps (cutL (a0, a1) L) :: Row 41 2 ov (idl O) :: G :: fr) (w6.alloc (.cells #[.int .i64 a0, .int .i64 a1, .int .i64 0, .slice nA nn nc] 99)) := h8
    have hTd : Hid (∀ x ∈ [(((a0, a1), 0, .slice nA nn nc) : Pl)], Rd H2 2 x.2.2 (idl (nx x.1)) ∧ x.2.1 ≤ (nx x.1).length) := Lib.hid (fun x hx => by rw [List.mem_singleton] at hx; subst hx; exact ⟨hnv, Nat.zero_le _⟩)
    have l12 := Hp.le_trans l1 l2
    have hm' := hm
    clear h8 h7 h6 h5 h4 en6 en5 en3 hCn hHeld3 hI hLn hm kk y0 y1 hnv hfinS
    generalize (w6.alloc (.cells #[.int .i64 a0, .int .i64 a1, .int .i64 0, .slice nA nn nc] 99)) = W7 at *
    generalize w6.heap.size = gs at *
    go_wp2_with fail
    go_step3
    refine (‹∀ (a : Act) (w : World), Code.wp Tryz.prog _ _ a w → _› _ _ (hRest ((cutL (a0, a1) L).length * 1002 + ((nx (a0, a1)).length - 0 + 1)) _ _ ?_))
    exact CFJ.mk _ [((a0, a1), 0, .slice nA nn nc)] (cutL (a0, a1) L) O ov H2 rfl rfl rfl rfl rfl rfl (by simp) l2 h9 en8 hTd.out ⟨hm', .nil⟩ hI0.out hLn0.out
  · have hcut : cutL (a0, a1) L = L := List.filter_eq_self.2 (fun b hb => decide_eq_true (fun (e : b = (a0, a1)) => hm (e ▸ hb)))
    rw [hcut] at h4
    have hz := Lib.hid (hfinN.out hm H1 _ l1 h4 en3)
    rw [decide_eq_false hm]
    clear hcut hm
    go_wp2_with fail
    simp only [Exit.jump]
    refine bodyPost_ret (results_none rfl _ _ _) rfl ?_
    exact hz.out
end Go.Proofs.YtcbckeoalmjcoaaGreat
