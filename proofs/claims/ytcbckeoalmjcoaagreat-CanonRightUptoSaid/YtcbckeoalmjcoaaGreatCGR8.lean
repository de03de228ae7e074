/- Joined texts: Rec4, Rec5, Rec6. -/
import Derived.Test.YtcbckeoalmjcoaaGreatCGR4
import Derived.Test.YtcbckeoalmjcoaaGreatCGR7
/- Records: the reference's answer to what is wrong with one. -/
set_option linter.unusedVariables false
set_option linter.unusedSimpArgs false
namespace Go.Proofs.YtcbckeoalmjcoaaGreat
open Go.RowKit Go.Cw Go.Fl
attribute [local go_sem ↓] eql_id neq_id
set_option maxRecDepth 100000 in
set_option maxHeartbeats 6400000 in
theorem refRec_any (x : Rc) (w : World) (h : RcR w x) : Calls Tryz.prog 32 #[recV x] w fun e w' => e = .returned (.int .i64 (recErr (rp x))) ∧ Below w.heap.size w w' := by
  obtain ⟨⟨r, s⟩, q, dv, bv, D, Bt⟩ := x
  obtain ⟨dA, dn, dc, hd, hdl, hdn, hdc⟩ := h.d.form
  obtain ⟨bA, bn, bc, hb, _⟩ := h.b.form
  have hD := h.d.rd
  have hBt := h.b.rd
  have hok := h.ok
  simp only at hd hb hD hdl hBt hok
  subst hd hb
  rw [idl_len] at hdl
  obtain rfl : dn = D.length := by omega
  clear h hdl
  obtain ⟨H1, l1, h1, y⟩ := (St.start w).box #[.int .i64 r, .int .i64 s, .int .i64 q, .slice dA D.length dc, .slice bA bn bc] 53
  have en1 := (Env.refl w).alloc (.cells #[.int .i64 r, .int .i64 s, .int .i64 q, .slice dA D.length dc, .slice bA bn bc] 53)
  have y0 := y 0 _ rfl
  have y1 := y 1 _ rfl
  have y2 := y 2 _ rfl
  have y3 := y 3 _ rfl
  have y4 := y 4 _ rfl
  clear y
  have hI := refId_any (r, s)
  have hR : recErr ((r, s), q, D, Bt) = if idErr (r, s) ≠ 0 then idErr (r, s) else if ¬ (1 ≤ q ∧ q ≤ 1073741824) then 9 else if 16 < D.length then 10 else if depsErr (r, s) none D ≠ 0 then depsErr (r, s) none D else batchErr Bt := by
    unfold recErr ownErr depErr
    by_cases a1 : idErr (r, s) = 0
    · by_cases a2 : 1 ≤ q ∧ q ≤ 1073741824
      · by_cases a3 : 16 < D.length <;> simp [a1, a2, a3]
      · simp [a1, a2]
    · simp [a1]
  change Calls _ _ _ _ (fun e w' => e = .returned (.int .i64 (recErr ((r, s), q, D, Bt))) ∧ _)
  rw [hR]
  clear hR
  by_cases hi : idErr (r, s) = 0
  · rw [if_neg (by simpa using hi)]
    rw [hi] at hI
    replace hI := Lib.hid hI
    clear hi
    by_cases hq : 1 ≤ q ∧ q ≤ 1073741824
    · rw [if_neg (by simpa using hq)]
      obtain ⟨hq1, hq2⟩ := hq
      have hq1' : ¬ q < 1 := by omega
      have hq2' : ¬ 1073741824 < q := by omega
      by_cases h16 : 16 < D.length
      · rw [if_pos h16]
        have h16I : (16 : Int) < (D.length : Int) := by omega
        go_enter Tryz.func32, Tryz.ntmps32
        go_wp2_with fail
        refine (hI.out _).mono ?_
        rintro e w2 ⟨rfl, hb2⟩
        have h2 := h1.below hb2
        have v2 := h2.cell y2
        have v3 := h2.cell y3
        have vl := World.block_lt_of_cell? _ _ v2
        go_wp2_with fail
        go_ret
        exact ⟨rfl, (h2.weaken l1).toBelow (en1.trans (bel_env hb2))⟩
      · rw [if_neg h16]
        have h16I : ¬ (16 : Int) < (D.length : Int) := by omega
        generalize hG : depsErr (r, s) none D = G at *
        replace hG := Lib.hid hG
        go_enter Tryz.func32, Tryz.ntmps32
        go_wp2_with fail
        refine (hI.out _).mono ?_
        rintro e w2 ⟨rfl, hb2⟩
        have h2 := h1.below hb2
        have en2 := en1.trans (bel_env hb2)
        have v2 := h2.cell y2
        have v3 := h2.cell y3
        have vl := World.block_lt_of_cell? _ _ v2
        clear h1 en1
        go_wp2_with fail
        go_loopw [3] (fun s3 wr => ∃ k : Nat, k ≤ D.length ∧ s3 = .int .i64 (k : Int) ∧ St H1 [] wr ∧ Env w wr ∧ Hid (depsErr (r, s) (prevOf D k) (D.drop k) = G)) (fun s3 _ => D.length - (intOf s3).toNat)
        case atStart => exact ⟨0, by omega, rfl, h2, en2, hG⟩
        case round =>
          clear hG h2 en2 v2 v3 vl hb2
          obtain ⟨k, hk, rfl, hst, hen, hg⟩ := hrel
          have v0 := hst.cell y0
          have v1 := hst.cell y1
          have v3 := hst.cell y3
          have v4 := hst.cell y4
          have vl := World.block_lt_of_cell? _ _ v0
          by_cases hlt : k < D.length
          · have hstep := depsErr_step (r, s) (prevOf D k) D k hlt
            rw [hg.out] at hstep
            obtain ⟨A0, n0, c0, hv0, hl0, hn0, hc0, hcells0⟩ := hD.mono l1
            cases hv0
            obtain ⟨b, off, rfl, hcells⟩ := hcells0 (by omega)
            have t0 := hcells _ _ (idl_fst D k hlt)
            have t1 := hcells _ _ (idl_snd D k hlt)
            rw [← Nat.add_assoc] at t1
            replace hcells := Lib.hid hcells
            obtain ⟨d, HX⟩ : ∃ x, Hid (x = D[k]) := ⟨_, Lib.hid rfl⟩
            rw [← HX.out] at t0 t1 hstep
            obtain ⟨d1, d2⟩ := d
            simp only at t0 t1
            have q0 := hst.cell t0
            have q1 := hst.cell t1
            have ql := World.block_lt_of_cell? _ _ q0
            clear hg hcells0 hc0 hl0
            have hJ := refId_any (d1, d2)
            have hk0 : (0 : Int) ≤ (k : Int) := by omega
            have hkD : (k : Int) < (D.length : Int) := by omega
            by_cases hj : idErr (d1, d2) = 0
            · rw [if_neg (by simpa using hj)] at hstep
              rw [hj] at hJ
              replace hJ := Lib.hid hJ
              clear hj
              by_cases ho : (d1, d2) = ((r, s) : Id)
              · rw [if_pos ho] at hstep
                subst hstep
                have hq := idEq_of ho
                simp only at hq
                clear ho
                go_wp2_with fail
                refine (hJ.out _).mono ?_
                rintro e w3 ⟨rfl, hb3⟩
                have h3 := hst.below hb3
                clear v0 v1 v3 v4 vl q0 q1 ql
                have v0 := h3.cell y0
                have v1 := h3.cell y1
                have v3 := h3.cell y3
                have q0 := h3.cell t0
                have q1 := h3.cell t1
                have vl := World.block_lt_of_cell? _ _ v0
                have ql := World.block_lt_of_cell? _ _ q0
                go_wp2_with fail
                go_quiet (fail)
                go_wp2_with fail
                go_ret
                exact ⟨rfl, ((h3.drewN _).weaken l1).toBelow ((hen.trans (bel_env hb3)).drewN _)⟩
              · rw [if_neg ho] at hstep
                have hq := idEq_not ho
                simp only at hq
                clear ho
                cases k with
                | zero =>
                  replace hstep : G = depsErr (r, s) (some (d1, d2)) (D.drop (0 + 1)) := hstep
                  replace hstep := Lib.hid hstep
                  simp only [Nat.zero_mul, Nat.add_zero] at q0 q1 t0 t1
                  have hd0 : decide ((0 : Int) < ((0 : Nat) : Int)) = false := by decide
                  go_wp2_with fail
                  refine (hJ.out _).mono ?_
                  rintro e w3 ⟨rfl, hb3⟩
                  have h3 := hst.below hb3
                  clear v0 v1 v3 v4 vl q0 q1 ql
                  have v0 := h3.cell y0
                  have v1 := h3.cell y1
                  have v3 := h3.cell y3
                  have q0 := h3.cell t0
                  have q1 := h3.cell t1
                  have vl := World.block_lt_of_cell? _ _ v0
                  have ql := World.block_lt_of_cell? _ _ q0
                  go_wp2_with fail
                  go_quiet (fail)
                  have h4 := h3.drewN nq
                  have en4 := (hen.trans (bel_env hb3)).drewN nq
                  generalize w3.drewN nq = w4 at *
                  clear v0 v1 v3 vl q0 q1 ql
                  have v0 := h4.cell y0
                  have v1 := h4.cell y1
                  have v3 := h4.cell y3
                  have vl := World.block_lt_of_cell? _ _ v0
                  go_wp2_with fail
                  go_quiet (fail)
                  go_wp2_with fail
                  go_roundw
                  case rel => exact ⟨1, by omega, by go_num, h4.drewN _, en4.drewN _, Lib.hid (by rw [show prevOf D 1 = some (d1, d2) by unfold prevOf; rw [HX.out]; simp [hlt]]; exact hstep.out.symm)⟩
                  case measure => simp [intOf]; omega
                | succ m =>
                  have hpv : prevOf D (m + 1) = some D[m] := by unfold prevOf; simp [show m < D.length by omega]
                  rw [hpv] at hstep
                  have g0 := hcells.out _ _ (idl_fst D m (by omega))
                  have g1 := hcells.out _ _ (idl_snd D m (by omega))
                  rw [← Nat.add_assoc] at g1
                  obtain ⟨pd, HY⟩ : ∃ x, Hid (x = D[m]) := ⟨_, Lib.hid rfl⟩
                  rw [← HY.out] at g0 g1 hstep
                  obtain ⟨p1', p2'⟩ := pd
                  simp only at g0 g1
                  clear hpv
                  have hk1 : (0 : Int) < ((m : Int) + 1) := by omega
                  have hm0 : (0 : Int) ≤ (m : Int) := by omega
                  have hml : (m : Int) < (D.length : Int) := by omega
                  have hm1 : (m : Int) + 1 < (D.length : Int) := by omega
                  have hw1 : IntKind.i64.wrap ((m : Int) + 1 - 1) = (m : Int) := by rw [IntKind.wrap_i64]; omega
                  have hw2 : IntKind.i64.wrap (m : Int) = (m : Int) := by rw [IntKind.wrap_i64]; omega
                  have hi0 : (0 : Int) ≤ (m : Int) + 1 := by omega
                  have hin : ((m : Int) + 1).toNat = m + 1 := by omega
                  have hin0 : ((m : Int)).toNat = m := by omega
                  have hL := fun w => less_any (p1', p2') (d1, d2) w
                  cases hah : idLt (p1', p2') (d1, d2) with
                  | true =>
                    replace hstep : G = depsErr (r, s) (some (d1, d2)) (D.drop (m + 1 + 1)) := by rw [hstep, show aheadOf (some (p1', p2')) (d1, d2) = idLt (p1', p2') (d1, d2) from rfl, hah]; rfl
                    replace hstep := Lib.hid hstep
                    rw [hah] at hL
                    replace hL := Lib.hid hL
                    clear hah
                    go_wp2_with fail
                    refine (hJ.out _).mono ?_
                    rintro e w3 ⟨rfl, hb3⟩
                    have h3 := hst.below hb3
                    clear v0 v1 v3 v4 vl q0 q1 ql
                    have v0 := h3.cell y0
                    have v1 := h3.cell y1
                    have v3 := h3.cell y3
                    have q0 := h3.cell t0
                    have q1 := h3.cell t1
                    have vl := World.block_lt_of_cell? _ _ v0
                    have ql := World.block_lt_of_cell? _ _ q0
                    go_wp2_with fail
                    go_quiet (fail)
                    have h4 := h3.drewN nq
                    have en4 := (hen.trans (bel_env hb3)).drewN nq
                    generalize w3.drewN nq = w4 at *
                    clear v0 v1 v3 vl q0 q1 ql
                    have v3 := h4.cell y3
                    have q0 := h4.cell t0
                    have q1 := h4.cell t1
                    have p0 := h4.cell g0
                    have p1 := h4.cell g1
                    have vl := World.block_lt_of_cell? _ _ v3
                    go_wp2_with fail
                    go_still_tail 14, (by kernel_rfl)
                    change wpList _ _ _ _ _ w4.drew
                    go_wp2_with fail
                    refine (hL.out _).mono ?_
                    rintro e w5 ⟨rfl, hb5⟩
                    have h5 := h4.drew.below hb5
                    go_wp2_with fail
                    go_roundw
                    case rel => exact ⟨m + 1 + 1, by omega, by go_num, h5, en4.drew.trans (bel_env hb5), Lib.hid (by rw [show prevOf D (m + 1 + 1) = some (d1, d2) by unfold prevOf; rw [HX.out]; simp [hlt]]; exact hstep.out.symm)⟩
                    case measure => simp [intOf]; omega
                  | false =>
                    replace hstep : G = 11 := by rw [hstep, show aheadOf (some (p1', p2')) (d1, d2) = idLt (p1', p2') (d1, d2) from rfl, hah]; rfl
                    rw [hah] at hL
                    replace hL := Lib.hid hL
                    clear hah
                    subst hstep
                    go_wp2_with fail
                    refine (hJ.out _).mono ?_
                    rintro e w3 ⟨rfl, hb3⟩
                    have h3 := hst.below hb3
                    clear v0 v1 v3 v4 vl q0 q1 ql
                    have v0 := h3.cell y0
                    have v1 := h3.cell y1
                    have v3 := h3.cell y3
                    have q0 := h3.cell t0
                    have q1 := h3.cell t1
                    have vl := World.block_lt_of_cell? _ _ v0
                    have ql := World.block_lt_of_cell? _ _ q0
                    go_wp2_with fail
                    go_quiet (fail)
                    have h4 := h3.drewN nq
                    have en4 := (hen.trans (bel_env hb3)).drewN nq
                    generalize w3.drewN nq = w4 at *
                    clear v0 v1 v3 vl q0 q1 ql
                    have v3 := h4.cell y3
                    have q0 := h4.cell t0
                    have q1 := h4.cell t1
                    have p0 := h4.cell g0
                    have p1 := h4.cell g1
                    have vl := World.block_lt_of_cell? _ _ v3
                    go_wp2_with fail
                    go_still_tail 14, (by kernel_rfl)
                    change wpList _ _ _ _ _ w4.drew
                    go_wp2_with fail
                    refine (hL.out _).mono ?_
                    rintro e w5 ⟨rfl, hb5⟩
                    have h5 := h4.drew.below hb5
                    go_wp2_with fail
                    go_ret
                    exact ⟨rfl, (h5.weaken l1).toBelow (en4.drew.trans (bel_env hb5))⟩
            · rw [if_pos (by simpa using hj)] at hstep
              have hne : (idErr (d1, d2) != 0) = true := by simpa using hj
              have hneP : (if idErr (d1, d2) ≠ 0 then idErr (d1, d2) else batchErr Bt) = idErr (d1, d2) := if_pos (by simpa using hj)
              clear hj
              generalize idErr (d1, d2) = E at *
              replace hJ := Lib.hid hJ
              subst hstep
              replace hneP := Lib.hid hneP
              go_wp2_with fail
              refine (hJ.out _).mono ?_
              rintro e w3 ⟨rfl, hb3⟩
              have h3 := hst.below hb3
              clear v0 v1 v3 v4 vl q0 q1 ql
              have v3 := h3.cell y3
              have q0 := h3.cell t0
              have q1 := h3.cell t1
              have vl := World.block_lt_of_cell? _ _ v3
              go_wp2_with fail
              refine (hJ.out _).mono ?_
              rintro e w4 ⟨rfl, hb4⟩
              go_wp2_with fail
              go_ret
              exact ⟨rfl, ((h3.below hb4).weaken l1).toBelow ((hen.trans (bel_env hb3)).trans (bel_env hb4))⟩
              all_goals exact absurd (by simpa using hne) (by assumption : ¬ G ≠ 0)
          · obtain rfl : k = D.length := by omega
            have hG2 : G = 0 := by rw [← hg.out, List.drop_length]; rfl
            subst hG2
            have hB := refBatch_any bA bn bc Bt hok wr ((hBt.mono l1).rw hst)
            clear hg
            go_wp2_with fail
            refine hB.mono ?_
            rintro e w3 ⟨rfl, hb3⟩
            go_wp2_with fail
            go_ret
            exact ⟨rfl, ((hst.below hb3).weaken l1).toBelow (hen.trans (bel_env hb3))⟩
    · rw [if_pos hq]
      by_cases hq1 : q < 1
      · clear hq
        go_enter Tryz.func32, Tryz.ntmps32
        go_wp2_with fail
        refine (hI.out _).mono ?_
        rintro e w2 ⟨rfl, hb2⟩
        have h2 := h1.below hb2
        have v2 := h2.cell y2
        have vl := World.block_lt_of_cell? _ _ v2
        go_wp2_with fail
        go_ret
        exact ⟨rfl, (h2.weaken l1).toBelow (en1.trans (bel_env hb2))⟩
      · have hq2 : 1073741824 < q := by omega
        clear hq
        go_enter Tryz.func32, Tryz.ntmps32
        go_wp2_with fail
        refine (hI.out _).mono ?_
        rintro e w2 ⟨rfl, hb2⟩
        have h2 := h1.below hb2
        have v2 := h2.cell y2
        have vl := World.block_lt_of_cell? _ _ v2
        go_wp2_with fail
        go_ret
        exact ⟨rfl, (h2.weaken l1).toBelow (en1.trans (bel_env hb2))⟩
  · rw [if_pos (by simpa using hi)]
    have hne : (idErr (r, s) != 0) = true := by simpa using hi
    clear hi
    generalize idErr (r, s) = E at *
    replace hI := Lib.hid hI
    go_enter Tryz.func32, Tryz.ntmps32
    go_wp2_with fail
    refine (hI.out _).mono ?_
    rintro e w2 ⟨rfl, hb2⟩
    have h2 := h1.below hb2
    have v0 := h2.cell y0
    have v1 := h2.cell y1
    have vl := World.block_lt_of_cell? _ _ v0
    go_wp2_with fail
    refine (hI.out _).mono ?_
    rintro e w3 ⟨rfl, hb3⟩
    go_wp2_with fail
    go_ret
    exact ⟨rfl, ((h2.below hb3).weaken l1).toBelow ((en1.trans (bel_env hb2)).trans (bel_env hb3))⟩
end Go.Proofs.YtcbckeoalmjcoaaGreat

/- Records: a copy in new memory. -/
set_option linter.unusedVariables false
set_option linter.unusedSimpArgs false
namespace Go.Proofs.YtcbckeoalmjcoaaGreat
open Go.RowKit Go.Cw Go.Fl
attribute [local go_sem ↓] eql_id neq_id
theorem info_cm : (Tryz.prog.info? 114).map (fun i => (i.zero, i.size, i.bytes)) = some (some (.agg #[.int .i64 0, .string ByteArray.empty, .float .f64 0]), 3, 32) := by kernel_rfl
theorem idSize : (Tryz.prog.info? 41).map (·.size) = some 2 := by kernel_rfl
theorem cmSize : (Tryz.prog.info? 114).map (·.size) = some 3 := by kernel_rfl
theorem makeId (n : Nat) (hn : n * 16 ≤ 140737488355328) (w : World) : (Instr.makeSlice 35 (.int .i64 (n : Int)) (.int .i64 (n : Int))).run Tryz.prog w = .ok (.slice (some ⟨w.heap.size, 0, none⟩) n n) (w.alloc (.cells (madeCells #[.int .i64 0, .int .i64 0] (n * 2)) 41)) := by
  obtain ⟨i, hi, hz0, hz1, hz2⟩ := info_parts info_id
  have := run_make (P := Tryz.prog) w 35 41 i (.agg #[.int .i64 0, .int .i64 0]) Tryz.underlying35 hi hz0 .i64 .i64 (n : Int) (n : Int) (by omega) (by omega) (by rw [hz2]; omega) (by omega)
  rw [hz1] at this
  simpa [Value.cells] using this
theorem makeCm (n : Nat) (hn : n * 32 ≤ 140737488355328) (w : World) : (Instr.makeSlice 51 (.int .i64 (n : Int)) (.int .i64 (n : Int))).run Tryz.prog w = .ok (.slice (some ⟨w.heap.size, 0, none⟩) n n) (w.alloc (.cells (madeCells #[.int .i64 0, .string ByteArray.empty, .float .f64 0] (n * 3)) 114)) := by
  obtain ⟨i, hi, hz0, hz1, hz2⟩ := info_parts info_cm
  have := run_make (P := Tryz.prog) w 51 114 i (.agg #[.int .i64 0, .string ByteArray.empty, .float .f64 0]) Tryz.underlying51 hi hz0 .i64 .i64 (n : Int) (n : Int) (by omega) (by omega) (by rw [hz2]; omega) (by omega)
  rw [hz1] at this
  simpa [Value.cells] using this
set_option maxRecDepth 100000 in
set_option maxHeartbeats 6400000 in
theorem recCopy_any (x : Rc) (w : World) (h : RcR w x) (hlD : x.2.2.2.2.1.length * 16 ≤ 140737488355328) (hlB : x.2.2.2.2.2.length * 32 ≤ 140737488355328) :
    Calls Tryz.prog 36 #[recV x] w (ResE (snap w) [] w (fun (p : Value × Value) => recV (x.1, x.2.1, p.1, p.2, x.2.2.2.2.1, x.2.2.2.2.2)) (fun p => [Row 41 2 p.1 (idl x.2.2.2.2.1), Row 114 3 p.2 (cml x.2.2.2.2.2)])) := by
  obtain ⟨⟨r, s⟩, q, dv, bv, D, Bt⟩ := x
  obtain ⟨dA, dn, dc, hd, hdl, hdn, hdc⟩ := h.d.form
  obtain ⟨bA, bn, bc, hb, hbl, hbn, hbc⟩ := h.b.form
  have hD := h.d.rd
  have hBt := h.b.rd
  simp only at hd hb hD hdl hBt hbl hlD hlB
  subst hd hb
  rw [idl_len] at hdl
  rw [cml_len] at hbl
  obtain rfl : dn = D.length := by omega
  obtain rfl : bn = Bt.length := by omega
  clear h hdl hbl
  obtain ⟨H1, l1, h1, y⟩ := (St.start w).box #[.int .i64 r, .int .i64 s, .int .i64 q, .slice dA D.length dc, .slice bA Bt.length bc] 53
  have hs1 : (w.alloc (.cells #[.int .i64 r, .int .i64 s, .int .i64 q, .slice dA D.length dc, .slice bA Bt.length bc] 53)).heap.size = w.heap.size + 1 := by simp
  have en1 := (Env.refl w).alloc (.cells #[.int .i64 r, .int .i64 s, .int .i64 q, .slice dA D.length dc, .slice bA Bt.length bc] 53)
  have y0 := y 0 _ rfl
  have y1 := y 1 _ rfl
  have y2 := y 2 _ rfl
  have y3 := y 3 _ rfl
  have y4 := y 4 _ rfl
  clear y
  have h2 := h1.blk #[.int .i64 0, .int .i64 0, .int .i64 0, .slice none 0 0, .slice none 0 0] 53
  have en2 := en1.alloc (.cells #[.int .i64 0, .int .i64 0, .int .i64 0, .slice none 0 0, .slice none 0 0] 53)
  rw [hs1] at h2
  clear h1 en1 hs1
  have v0 := h2.cell y0
  have v1 := h2.cell y1
  have v2 := h2.cell y2
  have v3 := h2.cell y3
  have v4 := h2.cell y4
  have vl := World.block_lt_of_cell? _ _ v0
  have hmi := makeId D.length hlD
  have hmc := makeCm Bt.length hlB
  go_enter Tryz.func36, Tryz.ntmps36
  generalize hW : (w.alloc (.cells #[.int .i64 r, .int .i64 s, .int .i64 q, .slice dA D.length dc, .slice bA Bt.length bc] 53)).alloc (.cells #[.int .i64 0, .int .i64 0, .int .i64 0, .slice none 0 0, .slice none 0 0] 53) = W at *
  go_upto_region 1 with fail
  have kk : ∀ w', Below W.heap.size W w' → w'.cell? ⟨w.heap.size, 0, none⟩ = some (.int .i64 r) ∧ w'.cell? ⟨w.heap.size, 1, none⟩ = some (.int .i64 s) ∧ w'.cell? ⟨w.heap.size, 2, none⟩ = some (.int .i64 q) ∧ w'.cell? ⟨w.heap.size, 3, none⟩ = some (.slice dA D.length dc) ∧ w'.cell? ⟨w.heap.size, 4, none⟩ = some (.slice bA Bt.length bc) := fun w' hb => by
    have h3 := h2.below hb
    exact ⟨h3.cell y0, h3.cell y1, h3.cell y2, h3.cell y3, h3.cell y4⟩
  have kb := Below.refl W.heap.size W
  go_cut [3] from 4 to 16 (fun s3 wx => ∃ go gd gb : Nat, s3 = .pointer (some ⟨go, 0, none⟩) ∧ St H1 (Blk go #[.int .i64 r, .int .i64 s, .int .i64 q, .slice (some ⟨gd, 0, none⟩) D.length D.length, .slice (some ⟨gb, 0, none⟩) Bt.length Bt.length] 53 :: Row 41 2 (.slice (some ⟨gd, 0, none⟩) D.length D.length) (madeCells #[.int .i64 0, .int .i64 0] (D.length * 2)).toList :: Row 114 3 (.slice (some ⟨gb, 0, none⟩) Bt.length Bt.length) (madeCells #[.int .i64 0, .string ByteArray.empty, .float .f64 0] (Bt.length * 3)).toList :: Blk (w.heap.size + 1) #[.int .i64 0, .int .i64 0, .int .i64 0, .slice none 0 0, .slice none 0 0] 53 :: []) wx ∧ Env w wx)
  case first =>
    go_region_held3 (fun w' => w'.cell? ⟨w.heap.size, 0, none⟩ = some (.int .i64 r) ∧ w'.cell? ⟨w.heap.size, 1, none⟩ = some (.int .i64 s) ∧ w'.cell? ⟨w.heap.size, 2, none⟩ = some (.int .i64 q) ∧ w'.cell? ⟨w.heap.size, 3, none⟩ = some (.slice dA D.length dc) ∧ w'.cell? ⟨w.heap.size, 4, none⟩ = some (.slice bA Bt.length bc)) ((refine kk _ ?_; repeat' (first | exact kb | apply Below.drew | apply Below.alloc | apply Below.setCell | (simp; done) | (simp; omega)))) (fail)
    all_goals go_wp2_with fail
    all_goals go_meet
    -- SIX
    · have a1 := h2.row_lit 41 2 D.length (madeCells #[.int .i64 0, .int .i64 0] (D.length * 2)) (by simp [size_madeCells]) (by simp [maxLen]; omega)
      have a2 := a1.row_lit 114 3 Bt.length (madeCells #[.int .i64 0, .string ByteArray.empty, .float .f64 0] (Bt.length * 3)) (by simp [size_madeCells]) (by simp [maxLen]; omega)
      have a3 := a2.blk #[.int .i64 r, .int .i64 s, .int .i64 q, .slice (some ⟨W.heap.size, 0, none⟩) D.length D.length, .slice (some ⟨W.heap.size + 1, 0, none⟩) Bt.length Bt.length] 53
      have g1 : (W.alloc (.cells (madeCells #[.int .i64 0, .int .i64 0] (D.length * 2)) 41)).heap.size = W.heap.size + 1 := by simp
      have g2 : ((W.alloc (.cells (madeCells #[.int .i64 0, .int .i64 0] (D.length * 2)) 41)).alloc (.cells (madeCells #[.int .i64 0, .string ByteArray.empty, .float .f64 0] (Bt.length * 3)) 114)).heap.size = W.heap.size + 1 + 1 := by simp
      rw [g1] at a2 a3
      rw [g2] at a3
      exact ⟨_, _, _, rfl, (((a3.pick 1 (by simp)).pick 2 (by simp)).pick 2 (by simp)).drew, (((en2.alloc (.cells (madeCells #[.int .i64 0, .int .i64 0] (D.length * 2)) 41)).alloc (.cells (madeCells #[.int .i64 0, .string ByteArray.empty, .float .f64 0] (Bt.length * 3)) 114)).alloc (.cells #[.int .i64 r, .int .i64 s, .int .i64 q, .slice (some ⟨W.heap.size, 0, none⟩) D.length D.length, .slice (some ⟨W.heap.size + 1, 0, none⟩) Bt.length Bt.length] 53)).drew⟩
    · have a1 := h2.row_lit 41 2 D.length (madeCells #[.int .i64 0, .int .i64 0] (D.length * 2)) (by simp [size_madeCells]) (by simp [maxLen]; omega)
      have a2 := a1.blk #[.int .i64 r, .int .i64 s, .int .i64 q, .slice (some ⟨W.heap.size, 0, none⟩) D.length D.length, .slice (some ⟨W.heap.size + 1 + 1, 0, none⟩) Bt.length Bt.length] 53
      have a3 := a2.row_lit 114 3 Bt.length (madeCells #[.int .i64 0, .string ByteArray.empty, .float .f64 0] (Bt.length * 3)) (by simp [size_madeCells]) (by simp [maxLen]; omega)
      have g1 : (W.alloc (.cells (madeCells #[.int .i64 0, .int .i64 0] (D.length * 2)) 41)).heap.size = W.heap.size + 1 := by simp
      have g2 : ((W.alloc (.cells (madeCells #[.int .i64 0, .int .i64 0] (D.length * 2)) 41)).alloc (.cells #[.int .i64 r, .int .i64 s, .int .i64 q, .slice (some ⟨W.heap.size, 0, none⟩) D.length D.length, .slice (some ⟨W.heap.size + 1 + 1, 0, none⟩) Bt.length Bt.length] 53)).heap.size = W.heap.size + 1 + 1 := by simp
      rw [g1] at a2 a3
      rw [g2] at a3
      exact ⟨_, _, _, rfl, (((a3.pick 0 (by simp)).pick 2 (by simp)).pick 2 (by simp)).drew, (((en2.alloc (.cells (madeCells #[.int .i64 0, .int .i64 0] (D.length * 2)) 41)).alloc (.cells #[.int .i64 r, .int .i64 s, .int .i64 q, .slice (some ⟨W.heap.size, 0, none⟩) D.length D.length, .slice (some ⟨W.heap.size + 1 + 1, 0, none⟩) Bt.length Bt.length] 53)).alloc (.cells (madeCells #[.int .i64 0, .string ByteArray.empty, .float .f64 0] (Bt.length * 3)) 114)).drew⟩
    · have a1 := h2.row_lit 114 3 Bt.length (madeCells #[.int .i64 0, .string ByteArray.empty, .float .f64 0] (Bt.length * 3)) (by simp [size_madeCells]) (by simp [maxLen]; omega)
      have a2 := a1.row_lit 41 2 D.length (madeCells #[.int .i64 0, .int .i64 0] (D.length * 2)) (by simp [size_madeCells]) (by simp [maxLen]; omega)
      have a3 := a2.blk #[.int .i64 r, .int .i64 s, .int .i64 q, .slice (some ⟨W.heap.size + 1, 0, none⟩) D.length D.length, .slice (some ⟨W.heap.size, 0, none⟩) Bt.length Bt.length] 53
      have g1 : (W.alloc (.cells (madeCells #[.int .i64 0, .string ByteArray.empty, .float .f64 0] (Bt.length * 3)) 114)).heap.size = W.heap.size + 1 := by simp
      have g2 : ((W.alloc (.cells (madeCells #[.int .i64 0, .string ByteArray.empty, .float .f64 0] (Bt.length * 3)) 114)).alloc (.cells (madeCells #[.int .i64 0, .int .i64 0] (D.length * 2)) 41)).heap.size = W.heap.size + 1 + 1 := by simp
      rw [g1] at a2 a3
      rw [g2] at a3
      exact ⟨_, _, _, rfl, (((a3.pick 2 (by simp)).pick 2 (by simp)).pick 2 (by simp)).drew, (((en2.alloc (.cells (madeCells #[.int .i64 0, .string ByteArray.empty, .float .f64 0] (Bt.length * 3)) 114)).alloc (.cells (madeCells #[.int .i64 0, .int .i64 0] (D.length * 2)) 41)).alloc (.cells #[.int .i64 r, .int .i64 s, .int .i64 q, .slice (some ⟨W.heap.size + 1, 0, none⟩) D.length D.length, .slice (some ⟨W.heap.size, 0, none⟩) Bt.length Bt.length] 53)).drew⟩
    · have a1 := h2.row_lit 114 3 Bt.length (madeCells #[.int .i64 0, .string ByteArray.empty, .float .f64 0] (Bt.length * 3)) (by simp [size_madeCells]) (by simp [maxLen]; omega)
      have a2 := a1.blk #[.int .i64 r, .int .i64 s, .int .i64 q, .slice (some ⟨W.heap.size + 1 + 1, 0, none⟩) D.length D.length, .slice (some ⟨W.heap.size, 0, none⟩) Bt.length Bt.length] 53
      have a3 := a2.row_lit 41 2 D.length (madeCells #[.int .i64 0, .int .i64 0] (D.length * 2)) (by simp [size_madeCells]) (by simp [maxLen]; omega)
      have g1 : (W.alloc (.cells (madeCells #[.int .i64 0, .string ByteArray.empty, .float .f64 0] (Bt.length * 3)) 114)).heap.size = W.heap.size + 1 := by simp
      have g2 : ((W.alloc (.cells (madeCells #[.int .i64 0, .string ByteArray.empty, .float .f64 0] (Bt.length * 3)) 114)).alloc (.cells #[.int .i64 r, .int .i64 s, .int .i64 q, .slice (some ⟨W.heap.size + 1 + 1, 0, none⟩) D.length D.length, .slice (some ⟨W.heap.size, 0, none⟩) Bt.length Bt.length] 53)).heap.size = W.heap.size + 1 + 1 := by simp
      rw [g1] at a2 a3
      rw [g2] at a3
      exact ⟨_, _, _, rfl, (((a3.pick 2 (by simp)).pick 1 (by simp)).pick 2 (by simp)).drew, (((en2.alloc (.cells (madeCells #[.int .i64 0, .string ByteArray.empty, .float .f64 0] (Bt.length * 3)) 114)).alloc (.cells #[.int .i64 r, .int .i64 s, .int .i64 q, .slice (some ⟨W.heap.size + 1 + 1, 0, none⟩) D.length D.length, .slice (some ⟨W.heap.size, 0, none⟩) Bt.length Bt.length] 53)).alloc (.cells (madeCells #[.int .i64 0, .int .i64 0] (D.length * 2)) 41)).drew⟩
    · have a1 := h2.blk #[.int .i64 r, .int .i64 s, .int .i64 q, .slice (some ⟨W.heap.size + 1, 0, none⟩) D.length D.length, .slice (some ⟨W.heap.size + 1 + 1, 0, none⟩) Bt.length Bt.length] 53
      have a2 := a1.row_lit 41 2 D.length (madeCells #[.int .i64 0, .int .i64 0] (D.length * 2)) (by simp [size_madeCells]) (by simp [maxLen]; omega)
      have a3 := a2.row_lit 114 3 Bt.length (madeCells #[.int .i64 0, .string ByteArray.empty, .float .f64 0] (Bt.length * 3)) (by simp [size_madeCells]) (by simp [maxLen]; omega)
      have g1 : (W.alloc (.cells #[.int .i64 r, .int .i64 s, .int .i64 q, .slice (some ⟨W.heap.size + 1, 0, none⟩) D.length D.length, .slice (some ⟨W.heap.size + 1 + 1, 0, none⟩) Bt.length Bt.length] 53)).heap.size = W.heap.size + 1 := by simp
      have g2 : ((W.alloc (.cells #[.int .i64 r, .int .i64 s, .int .i64 q, .slice (some ⟨W.heap.size + 1, 0, none⟩) D.length D.length, .slice (some ⟨W.heap.size + 1 + 1, 0, none⟩) Bt.length Bt.length] 53)).alloc (.cells (madeCells #[.int .i64 0, .int .i64 0] (D.length * 2)) 41)).heap.size = W.heap.size + 1 + 1 := by simp
      rw [g1] at a2 a3
      rw [g2] at a3
      exact ⟨_, _, _, rfl, (((a3.pick 0 (by simp)).pick 1 (by simp)).pick 2 (by simp)).drew, (((en2.alloc (.cells #[.int .i64 r, .int .i64 s, .int .i64 q, .slice (some ⟨W.heap.size + 1, 0, none⟩) D.length D.length, .slice (some ⟨W.heap.size + 1 + 1, 0, none⟩) Bt.length Bt.length] 53)).alloc (.cells (madeCells #[.int .i64 0, .int .i64 0] (D.length * 2)) 41)).alloc (.cells (madeCells #[.int .i64 0, .string ByteArray.empty, .float .f64 0] (Bt.length * 3)) 114)).drew⟩
    · have a1 := h2.blk #[.int .i64 r, .int .i64 s, .int .i64 q, .slice (some ⟨W.heap.size + 1 + 1, 0, none⟩) D.length D.length, .slice (some ⟨W.heap.size + 1, 0, none⟩) Bt.length Bt.length] 53
      have a2 := a1.row_lit 114 3 Bt.length (madeCells #[.int .i64 0, .string ByteArray.empty, .float .f64 0] (Bt.length * 3)) (by simp [size_madeCells]) (by simp [maxLen]; omega)
      have a3 := a2.row_lit 41 2 D.length (madeCells #[.int .i64 0, .int .i64 0] (D.length * 2)) (by simp [size_madeCells]) (by simp [maxLen]; omega)
      have g1 : (W.alloc (.cells #[.int .i64 r, .int .i64 s, .int .i64 q, .slice (some ⟨W.heap.size + 1 + 1, 0, none⟩) D.length D.length, .slice (some ⟨W.heap.size + 1, 0, none⟩) Bt.length Bt.length] 53)).heap.size = W.heap.size + 1 := by simp
      have g2 : ((W.alloc (.cells #[.int .i64 r, .int .i64 s, .int .i64 q, .slice (some ⟨W.heap.size + 1 + 1, 0, none⟩) D.length D.length, .slice (some ⟨W.heap.size + 1, 0, none⟩) Bt.length Bt.length] 53)).alloc (.cells (madeCells #[.int .i64 0, .string ByteArray.empty, .float .f64 0] (Bt.length * 3)) 114)).heap.size = W.heap.size + 1 + 1 := by simp
      rw [g1] at a2 a3
      rw [g2] at a3
      exact ⟨_, _, _, rfl, (((a3.pick 1 (by simp)).pick 1 (by simp)).pick 2 (by simp)).drew, (((en2.alloc (.cells #[.int .i64 r, .int .i64 s, .int .i64 q, .slice (some ⟨W.heap.size + 1 + 1, 0, none⟩) D.length D.length, .slice (some ⟨W.heap.size + 1, 0, none⟩) Bt.length Bt.length] 53)).alloc (.cells (madeCells #[.int .i64 0, .string ByteArray.empty, .float .f64 0] (Bt.length * 3)) 114)).alloc (.cells (madeCells #[.int .i64 0, .int .i64 0] (D.length * 2)) 41)).drew⟩
  case rest =>
    obtain ⟨go, gd, gb, rfl, h3, en3⟩ := hcut
    clear en2 kb kk v0 v1 v2 v3 v4 vl hmi hmc
    have hs : (madeCells #[Value.int .i64 0, .int .i64 0] (D.length * 2)).toList.length = D.length * 2 := by simp [size_madeCells]
    have hs' : (madeCells #[Value.int .i64 0, .string ByteArray.empty, .float .f64 0] (Bt.length * 3)).toList.length = Bt.length * 3 := by simp [size_madeCells]
    generalize (madeCells #[Value.int .i64 0, .int .i64 0] (D.length * 2)).toList = ZI at *
    generalize (madeCells #[Value.int .i64 0, .string ByteArray.empty, .float .f64 0] (Bt.length * 3)).toList = ZC at *
    have hnD : News Tryz.prog wc 2 (.slice dA D.length dc) D.length (idl D) := News.rw ((hD.mono l1).rw h3) (idl_one D)
    obtain ⟨w4, hcp4, h4, en4⟩ := h3.swap.copy_row 35 35 3 Tryz.underlying35 idSize 0 D.length D.length D.length D.length (.slice dA D.length dc) (idl D) 0 (by omega) (by rw [idl_len]) (by rw [hs]; omega) (hnD.lenOf _) (Nat.min_self _) (hnD.first 0) (idl_one D)
    rw [Nat.zero_mul, List.take_zero, List.nil_append, List.drop_of_length_le (by rw [hs]; omega), List.append_nil] at h4
    have hnB : News Tryz.prog w4 3 (.slice bA Bt.length bc) Bt.length (cml Bt) := News.rw ((hBt.mono l1).rw h4) (cml_one Bt)
    obtain ⟨w5, hcp5, h5, en5⟩ := (h4.pick 2 (by simp)).copy_row 51 51 3 Tryz.underlying51 cmSize 0 Bt.length Bt.length Bt.length Bt.length (.slice bA Bt.length bc) (cml Bt) 0 (by omega) (by rw [cml_len]) (by rw [hs']; omega) (hnB.lenOf _) (Nat.min_self _) (hnB.first 0) (cml_one Bt)
    rw [Nat.zero_mul, List.take_zero, List.nil_append, List.drop_of_length_le (by rw [hs']; omega), List.append_nil] at h5
    have o3 := h3
    have o4 := h4.swap
    have o5 := h5.pick 2 (by simp)
    have v3 := h3.cell y3
    have v3l := World.block_lt_of_cell? _ _ v3
    have u2 := h3.blk_cell 2
    have u3 := h3.blk_cell 3
    have ul := h3.blk_lt
    have v4 := h4.cell y4
    have v4l := World.block_lt_of_cell? _ _ v4
    have t4 := o4.blk_cell 4
    have t4l := o4.blk_lt
    have q0 := o5.blk_cell 0
    have q1 := o5.blk_cell 1
    have q2 := o5.blk_cell 2
    have q3 := o5.blk_cell 3
    have q4 := o5.blk_cell 4
    have ql := o5.blk_lt
    have p5 := h5.pick 3 (by simp)
    have z0 := p5.blk_cell 0
    have z1 := p5.blk_cell 1
    have z2 := p5.blk_cell 2
    have z3 := p5.blk_cell 3
    have z4 := p5.blk_cell 4
    have zf0 := p5.blk_free 0
    have zf1 := p5.blk_free 1
    have zf2 := p5.blk_free 2
    have zf3 := p5.blk_free 3
    have zf4 := p5.blk_free 4
    have zl := p5.blk_lt
    have p6 := ((((p5.blk_set 0 (.int .i64 r)).blk_set 1 (.int .i64 s)).blk_set 2 (.int .i64 q)).blk_set 3 (.slice (some ⟨gd, 0, none⟩) D.length D.length)).blk_set 4 (.slice (some ⟨gb, 0, none⟩) Bt.length Bt.length)
    change St H1 (Blk (w.heap.size + 1) #[.int .i64 r, .int .i64 s, .int .i64 q, .slice (some ⟨gd, 0, none⟩) D.length D.length, .slice (some ⟨gb, 0, none⟩) Bt.length Bt.length] 53 :: _) _ at p6
    have en6 := (((((en3.trans en4).trans en5).setCell ⟨w.heap.size + 1, 0, none⟩ (.int .i64 r)).setCell ⟨w.heap.size + 1, 1, none⟩ (.int .i64 s)).setCell ⟨w.heap.size + 1, 2, none⟩ (.int .i64 q)).setCell ⟨w.heap.size + 1, 3, none⟩ (.slice (some ⟨gd, 0, none⟩) D.length D.length) |>.setCell ⟨w.heap.size + 1, 4, none⟩ (.slice (some ⟨gb, 0, none⟩) Bt.length Bt.length)
    clear h3 h4 h5 o3 o4 o5 p5 hnD hnB hs hs' en3 en4 en5
    go_wp2_with fail
    refine bodyPost_ret (results_cell_row rfl _ _ (w.heap.size + 1) 53 _ (0, 0) _ rfl p6.blk_heap Tryz.underlying53 rfl (by kernel_rfl)) rfl ?_
    exact ⟨(.slice (some ⟨gd, 0, none⟩) D.length D.length, .slice (some ⟨gb, 0, none⟩) Bt.length Bt.length), rfl, ((p6.drop.pick 2 (by simp)).perm (.cons _ (.swap _ _ _))).drop.weaken l1, en6⟩
end Go.Proofs.YtcbckeoalmjcoaaGreat

/- Records: the reference's Same, Find. -/
set_option linter.unusedVariables false
set_option linter.unusedSimpArgs false
namespace Go.Proofs.YtcbckeoalmjcoaaGreat
open Go.RowKit Go.Cw Go.Fl
attribute [local go_sem ↓] eql_id neq_id
def recSame (x y : Rp) : Bool := decide (x.1 = y.1) && decide (x.2.1 = y.2.1) && decide (x.2.2.1 = y.2.2.1) && cmdsSame x.2.2.2 y.2.2.2
/-- Where an id stands first. -/
def findAt (a : Id) : List Id → Int → Int
  | [], _ => -1
  | x :: r, k => if x = a then k else findAt a r (k + 1)
abbrev rids (l : List Rc) : List Id := l.map (·.1)
theorem findAt_step (a : Id) (l : List Rc) (k : Nat) (h : k < l.length) : findAt a ((rids l).drop k) k = if l[k].1 = a then (k : Int) else findAt a ((rids l).drop (k + 1)) ((k : Int) + 1) := by
  rw [List.drop_eq_getElem_cons (by simpa using h), findAt]
  simp
set_option maxRecDepth 100000 in
set_option maxHeartbeats 1600000 in
theorem find_any (u : Value) (l : List Rc) (a : Id) (w : World) (hx : Rw w 5 u (recs l)) :
    Calls Tryz.prog 33 #[u, idV a] w fun e w' => e = .returned (.int .i64 (findAt a (rids l) 0)) ∧ Below w.heap.size w w' := by
  obtain ⟨A, n, c, rfl, hl, hn, hc⟩ := hx.form
  rw [recs_len] at hl
  obtain rfl : n = l.length := by omega
  clear hl
  have hd := Lib.hid (show findAt a (rids l) 0 = findAt a ((rids l).drop 0) ((0 : Nat) : Int) by simp)
  obtain ⟨G, hG⟩ : ∃ G, Hid (G = findAt a (rids l) 0) := ⟨_, Lib.hid rfl⟩
  rw [← hG.out]
  rw [hG.out.symm] at hd
  obtain ⟨r, s⟩ := a
  have hx1 := hx.alloc (.cells #[.int .i64 r, .int .i64 s] 41)
  have hb1 := boxBelow w (.cells #[.int .i64 r, .int .i64 s] 41)
  obtain ⟨H1, l1, h1, y⟩ := (St.start w).box #[.int .i64 r, .int .i64 s] 41
  have y0 := y 0 _ rfl
  have y1 := y 1 _ rfl
  clear y hG hx
  have en1 := (Env.refl w).alloc (.cells #[.int .i64 r, .int .i64 s] 41)
  have hR := hx1.rd
  go_enter Tryz.func33, Tryz.ntmps33
  go_wp2_with fail
  generalize w.alloc (.cells #[.int .i64 r, .int .i64 s] 41) = W at *
  go_loopw [5] (fun i wr => ∃ k n : Nat, k ≤ l.length ∧ i = .int .i64 (k : Int) ∧ Hid (G = findAt (r, s) ((rids l).drop k) k) ∧ wr = W.drewN n) (fun i _ => l.length - (intOf i).toNat)
  case atStart => exact ⟨0, 0, by omega, by go_num, hd, rfl⟩
  case round =>
    obtain ⟨k, n, hk, rfl, hr, rfl⟩ := hrel
    by_cases hlt : k < l.length
    · obtain ⟨b, off, hA, hcr⟩ := hx1.cells (by omega)
      cases hA
      obtain ⟨p0, p1, -, -, -⟩ := recs_get l k hlt
      replace p0 := hcr _ _ p0
      replace p1 := hcr _ _ p1
      rw [← Nat.add_assoc] at p1
      clear hcr
      have hst := findAt_step (r, s) l k hlt
      rw [← hr.out] at hst
      have v0 := h1.cell y0
      have v1 := h1.cell y1
      have vl := World.block_lt_of_cell? _ _ v0
      have pl := World.block_lt_of_cell? _ _ p0
      generalize l[k].1 = x at *
      by_cases hxa : x = (r, s)
      · have hne := idEq_of hxa
        rw [if_pos hxa] at hst
        subst hst
        replace hxa := Lib.hid hxa
        simp only at hne
        go_wp2_with fail
        go_quiet (fail)
        go_wp2_with fail
        go_ret
        exact ⟨rfl, hb1.trans (bel_drewN (bel_drewN (Below.refl _ _) _) _)⟩
      · have hne := idEq_not hxa
        rw [if_neg hxa] at hst
        replace hst := Lib.hid hst
        replace hxa := Lib.hid hxa
        simp only at hne
        go_wp2_with fail
        go_quiet (fail)
        go_wp2_with fail
        go_roundw
        case rel => exact ⟨k + 1, _, by omega, by go_num, Lib.hid (by rw [hst.out]; rfl), rfl⟩
        case measure => simp [intOf]; omega
    · obtain rfl : k = l.length := by omega
      have hg : G = -1 := by rw [hr.out, List.drop_of_length_le (by simp)]; rfl
      subst hg
      go_wp2_with fail
      go_ret
      exact ⟨rfl, hb1.trans (bel_drewN (Below.refl _ _) _)⟩
end Go.Proofs.YtcbckeoalmjcoaaGreat
