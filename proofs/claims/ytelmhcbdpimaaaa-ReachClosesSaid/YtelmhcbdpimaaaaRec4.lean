/- Records: the reference's answer to what is wrong with one. -/
import Derived.Test.YtelmhcbdpimaaaaRec3
set_option linter.unusedVariables false
set_option linter.unusedSimpArgs false
namespace Go.Proofs.Ytelmhcbdpimaaaa
open Go.RowKit Go.Cw Go.Fl
attribute [local go_sem ↓] eql_id neq_id
set_option maxRecDepth 100000 in
set_option maxHeartbeats 6400000 in
theorem refRec_any (x : Rc) (w : World) (h : RcR w x) : Calls Try.prog 69 #[recV x] w fun e w' => e = .returned (.int .i64 (recErr (rp x))) ∧ Below w.heap.size w w' := by
  obtain ⟨⟨r, s⟩, q, dv, bv, D, Bt⟩ := x
  obtain ⟨dA, dn, dc, hd, hdl, hdn, hdc⟩ := h.d.form
  obtain ⟨bA, bn, bc, hb, _⟩ := h.b.form
  have hD := h.d.rd
  have hBt := h.b.rd
  have hok := h.ok
  simp only at hd hb hD hdl hBt hok
  subst hd hb
  rw [idl_len] at hdl
  obtain rfl : dn = D.length := by omega
  clear h hdl
  obtain ⟨H1, l1, h1, y⟩ := (St.start w).box #[.int .i64 r, .int .i64 s, .int .i64 q, .slice dA D.length dc, .slice bA bn bc] 32
  have en1 := (Env.refl w).alloc (.cells #[.int .i64 r, .int .i64 s, .int .i64 q, .slice dA D.length dc, .slice bA bn bc] 32)
  have y0 := y 0 _ rfl
  have y1 := y 1 _ rfl
  have y2 := y 2 _ rfl
  have y3 := y 3 _ rfl
  have y4 := y 4 _ rfl
  clear y
  have hI := refId_any (r, s)
  have hR : recErr ((r, s), q, D, Bt) = if idErr (r, s) ≠ 0 then idErr (r, s) else if ¬ (1 ≤ q ∧ q ≤ 1073741824) then 9 else if 16 < D.length then 10 else if depsErr (r, s) none D ≠ 0 then depsErr (r, s) none D else batchErr Bt := by
    unfold recErr ownErr depErr
    by_cases a1 : idErr (r, s) = 0
    · by_cases a2 : 1 ≤ q ∧ q ≤ 1073741824
      · by_cases a3 : 16 < D.length <;> simp [a1, a2, a3]
      · simp [a1, a2]
    · simp [a1]
  change Calls _ _ _ _ (fun e w' => e = .returned (.int .i64 (recErr ((r, s), q, D, Bt))) ∧ _)
  rw [hR]
  clear hR
  by_cases hi : idErr (r, s) = 0
  · rw [if_neg (by simpa using hi)]
    rw [hi] at hI
    replace hI := Lib.hid hI
    clear hi
    by_cases hq : 1 ≤ q ∧ q ≤ 1073741824
    · rw [if_neg (by simpa using hq)]
      obtain ⟨hq1, hq2⟩ := hq
      have hq1' : ¬ q < 1 := by omega
      have hq2' : ¬ 1073741824 < q := by omega
      by_cases h16 : 16 < D.length
      · rw [if_pos h16]
        have h16I : (16 : Int) < (D.length : Int) := by omega
        go_enter Try.func69, Try.ntmps69
        go_wp2_with fail
        refine (hI.out _).mono ?_
        rintro e w2 ⟨rfl, hb2⟩
        have h2 := h1.below hb2
        have v2 := h2.cell y2
        have v3 := h2.cell y3
        have vl := World.block_lt_of_cell? _ _ v2
        go_wp2_with fail
        go_ret
        exact ⟨rfl, (h2.weaken l1).toBelow (en1.trans (bel_env hb2))⟩
      · rw [if_neg h16]
        have h16I : ¬ (16 : Int) < (D.length : Int) := by omega
        generalize hG : depsErr (r, s) none D = G at *
        replace hG := Lib.hid hG
        go_enter Try.func69, Try.ntmps69
        go_wp2_with fail
        refine (hI.out _).mono ?_
        rintro e w2 ⟨rfl, hb2⟩
        have h2 := h1.below hb2
        have en2 := en1.trans (bel_env hb2)
        have v2 := h2.cell y2
        have v3 := h2.cell y3
        have vl := World.block_lt_of_cell? _ _ v2
        clear h1 en1
        go_wp2_with fail
        go_loopw [3] (fun s3 wr => ∃ k : Nat, k ≤ D.length ∧ s3 = .int .i64 (k : Int) ∧ St H1 [] wr ∧ Env w wr ∧ Hid (depsErr (r, s) (prevOf D k) (D.drop k) = G)) (fun s3 _ => D.length - (intOf s3).toNat)
        case atStart => exact ⟨0, by omega, rfl, h2, en2, hG⟩
        case round =>
          clear hG h2 en2 v2 v3 vl hb2
          obtain ⟨k, hk, rfl, hst, hen, hg⟩ := hrel
          have v0 := hst.cell y0
          have v1 := hst.cell y1
          have v3 := hst.cell y3
          have v4 := hst.cell y4
          have vl := World.block_lt_of_cell? _ _ v0
          by_cases hlt : k < D.length
          · have hstep := depsErr_step (r, s) (prevOf D k) D k hlt
            rw [hg.out] at hstep
            obtain ⟨A0, n0, c0, hv0, hl0, hn0, hc0, hcells0⟩ := hD.mono l1
            cases hv0
            obtain ⟨b, off, rfl, hcells⟩ := hcells0 (by omega)
            have t0 := hcells _ _ (idl_fst D k hlt)
            have t1 := hcells _ _ (idl_snd D k hlt)
            rw [← Nat.add_assoc] at t1
            replace hcells := Lib.hid hcells
            obtain ⟨d, HX⟩ : ∃ x, Hid (x = D[k]) := ⟨_, Lib.hid rfl⟩
            rw [← HX.out] at t0 t1 hstep
            obtain ⟨d1, d2⟩ := d
            simp only at t0 t1
            have q0 := hst.cell t0
            have q1 := hst.cell t1
            have ql := World.block_lt_of_cell? _ _ q0
            clear hg hcells0 hc0 hl0
            have hJ := refId_any (d1, d2)
            have hk0 : (0 : Int) ≤ (k : Int) := by omega
            have hkD : (k : Int) < (D.length : Int) := by omega
            by_cases hj : idErr (d1, d2) = 0
            · rw [if_neg (by simpa using hj)] at hstep
              rw [hj] at hJ
              replace hJ := Lib.hid hJ
              clear hj
              by_cases ho : (d1, d2) = ((r, s) : Id)
              · rw [if_pos ho] at hstep
                subst hstep
                have hq := idEq_of ho
                simp only at hq
                clear ho
                go_wp2_with fail
                refine (hJ.out _).mono ?_
                rintro e w3 ⟨rfl, hb3⟩
                have h3 := hst.below hb3
                clear v0 v1 v3 v4 vl q0 q1 ql
                have v0 := h3.cell y0
                have v1 := h3.cell y1
                have v3 := h3.cell y3
                have q0 := h3.cell t0
                have q1 := h3.cell t1
                have vl := World.block_lt_of_cell? _ _ v0
                have ql := World.block_lt_of_cell? _ _ q0
                go_wp2_with fail
                go_quiet (fail)
                go_wp2_with fail
                go_ret
                exact ⟨rfl, ((h3.drewN _).weaken l1).toBelow ((hen.trans (bel_env hb3)).drewN _)⟩
              · rw [if_neg ho] at hstep
                have hq := idEq_not ho
                simp only at hq
                clear ho
                cases k with
                | zero =>
                  replace hstep : G = depsErr (r, s) (some (d1, d2)) (D.drop (0 + 1)) := hstep
                  replace hstep := Lib.hid hstep
                  simp only [Nat.zero_mul, Nat.add_zero] at q0 q1 t0 t1
                  have hd0 : decide ((0 : Int) < ((0 : Nat) : Int)) = false := by decide
                  go_wp2_with fail
                  refine (hJ.out _).mono ?_
                  rintro e w3 ⟨rfl, hb3⟩
                  have h3 := hst.below hb3
                  clear v0 v1 v3 v4 vl q0 q1 ql
                  have v0 := h3.cell y0
                  have v1 := h3.cell y1
                  have v3 := h3.cell y3
                  have q0 := h3.cell t0
                  have q1 := h3.cell t1
                  have vl := World.block_lt_of_cell? _ _ v0
                  have ql := World.block_lt_of_cell? _ _ q0
                  go_wp2_with fail
                  go_quiet (fail)
                  have h4 := h3.drewN nq
                  have en4 := (hen.trans (bel_env hb3)).drewN nq
                  generalize w3.drewN nq = w4 at *
                  clear v0 v1 v3 vl q0 q1 ql
                  have v0 := h4.cell y0
                  have v1 := h4.cell y1
                  have v3 := h4.cell y3
                  have vl := World.block_lt_of_cell? _ _ v0
                  go_wp2_with fail
                  go_quiet (fail)
                  go_wp2_with fail
                  go_roundw
                  case rel => exact ⟨1, by omega, by go_num, h4.drewN _, en4.drewN _, Lib.hid (by rw [show prevOf D 1 = some (d1, d2) by unfold prevOf; rw [HX.out]; simp [hlt]]; exact hstep.out.symm)⟩
                  case measure => simp [intOf]; omega
                | succ m =>
                  have hpv : prevOf D (m + 1) = some D[m] := by unfold prevOf; simp [show m < D.length by omega]
                  rw [hpv] at hstep
                  have g0 := hcells.out _ _ (idl_fst D m (by omega))
                  have g1 := hcells.out _ _ (idl_snd D m (by omega))
                  rw [← Nat.add_assoc] at g1
                  obtain ⟨pd, HY⟩ : ∃ x, Hid (x = D[m]) := ⟨_, Lib.hid rfl⟩
                  rw [← HY.out] at g0 g1 hstep
                  obtain ⟨p1', p2'⟩ := pd
                  simp only at g0 g1
                  clear hpv
                  have hk1 : (0 : Int) < ((m : Int) + 1) := by omega
                  have hm0 : (0 : Int) ≤ (m : Int) := by omega
                  have hml : (m : Int) < (D.length : Int) := by omega
                  have hm1 : (m : Int) + 1 < (D.length : Int) := by omega
                  have hw1 : IntKind.i64.wrap ((m : Int) + 1 - 1) = (m : Int) := by rw [IntKind.wrap_i64]; omega
                  have hw2 : IntKind.i64.wrap (m : Int) = (m : Int) := by rw [IntKind.wrap_i64]; omega
                  have hi0 : (0 : Int) ≤ (m : Int) + 1 := by omega
                  have hin : ((m : Int) + 1).toNat = m + 1 := by omega
                  have hin0 : ((m : Int)).toNat = m := by omega
                  have hL := fun w => less_any (p1', p2') (d1, d2) w
                  cases hah : idLt (p1', p2') (d1, d2) with
                  | true =>
                    replace hstep : G = depsErr (r, s) (some (d1, d2)) (D.drop (m + 1 + 1)) := by rw [hstep, show aheadOf (some (p1', p2')) (d1, d2) = idLt (p1', p2') (d1, d2) from rfl, hah]; rfl
                    replace hstep := Lib.hid hstep
                    rw [hah] at hL
                    replace hL := Lib.hid hL
                    clear hah
                    go_wp2_with fail
                    refine (hJ.out _).mono ?_
                    rintro e w3 ⟨rfl, hb3⟩
                    have h3 := hst.below hb3
                    clear v0 v1 v3 v4 vl q0 q1 ql
                    have v0 := h3.cell y0
                    have v1 := h3.cell y1
                    have v3 := h3.cell y3
                    have q0 := h3.cell t0
                    have q1 := h3.cell t1
                    have vl := World.block_lt_of_cell? _ _ v0
                    have ql := World.block_lt_of_cell? _ _ q0
                    go_wp2_with fail
                    go_quiet (fail)
                    have h4 := h3.drewN nq
                    have en4 := (hen.trans (bel_env hb3)).drewN nq
                    generalize w3.drewN nq = w4 at *
                    clear v0 v1 v3 vl q0 q1 ql
                    have v3 := h4.cell y3
                    have q0 := h4.cell t0
                    have q1 := h4.cell t1
                    have p0 := h4.cell g0
                    have p1 := h4.cell g1
                    have vl := World.block_lt_of_cell? _ _ v3
                    go_wp2_with fail
                    go_still_tail 14, (by kernel_rfl)
                    change wpList _ _ _ _ _ w4.drew
                    go_wp2_with fail
                    refine (hL.out _).mono ?_
                    rintro e w5 ⟨rfl, hb5⟩
                    have h5 := h4.drew.below hb5
                    go_wp2_with fail
                    go_roundw
                    case rel => exact ⟨m + 1 + 1, by omega, by go_num, h5, en4.drew.trans (bel_env hb5), Lib.hid (by rw [show prevOf D (m + 1 + 1) = some (d1, d2) by unfold prevOf; rw [HX.out]; simp [hlt]]; exact hstep.out.symm)⟩
                    case measure => simp [intOf]; omega
                  | false =>
                    replace hstep : G = 11 := by rw [hstep, show aheadOf (some (p1', p2')) (d1, d2) = idLt (p1', p2') (d1, d2) from rfl, hah]; rfl
                    rw [hah] at hL
                    replace hL := Lib.hid hL
                    clear hah
                    subst hstep
                    go_wp2_with fail
                    refine (hJ.out _).mono ?_
                    rintro e w3 ⟨rfl, hb3⟩
                    have h3 := hst.below hb3
                    clear v0 v1 v3 v4 vl q0 q1 ql
                    have v0 := h3.cell y0
                    have v1 := h3.cell y1
                    have v3 := h3.cell y3
                    have q0 := h3.cell t0
                    have q1 := h3.cell t1
                    have vl := World.block_lt_of_cell? _ _ v0
                    have ql := World.block_lt_of_cell? _ _ q0
                    go_wp2_with fail
                    go_quiet (fail)
                    have h4 := h3.drewN nq
                    have en4 := (hen.trans (bel_env hb3)).drewN nq
                    generalize w3.drewN nq = w4 at *
                    clear v0 v1 v3 vl q0 q1 ql
                    have v3 := h4.cell y3
                    have q0 := h4.cell t0
                    have q1 := h4.cell t1
                    have p0 := h4.cell g0
                    have p1 := h4.cell g1
                    have vl := World.block_lt_of_cell? _ _ v3
                    go_wp2_with fail
                    go_still_tail 14, (by kernel_rfl)
                    change wpList _ _ _ _ _ w4.drew
                    go_wp2_with fail
                    refine (hL.out _).mono ?_
                    rintro e w5 ⟨rfl, hb5⟩
                    have h5 := h4.drew.below hb5
                    go_wp2_with fail
                    go_ret
                    exact ⟨rfl, (h5.weaken l1).toBelow (en4.drew.trans (bel_env hb5))⟩
            · rw [if_pos (by simpa using hj)] at hstep
              have hne : (idErr (d1, d2) != 0) = true := by simpa using hj
              have hneP : (if idErr (d1, d2) ≠ 0 then idErr (d1, d2) else batchErr Bt) = idErr (d1, d2) := if_pos (by simpa using hj)
              clear hj
              generalize idErr (d1, d2) = E at *
              replace hJ := Lib.hid hJ
              subst hstep
              replace hneP := Lib.hid hneP
              go_wp2_with fail
              refine (hJ.out _).mono ?_
              rintro e w3 ⟨rfl, hb3⟩
              have h3 := hst.below hb3
              clear v0 v1 v3 v4 vl q0 q1 ql
              have v3 := h3.cell y3
              have q0 := h3.cell t0
              have q1 := h3.cell t1
              have vl := World.block_lt_of_cell? _ _ v3
              go_wp2_with fail
              refine (hJ.out _).mono ?_
              rintro e w4 ⟨rfl, hb4⟩
              go_wp2_with fail
              go_ret
              exact ⟨rfl, ((h3.below hb4).weaken l1).toBelow ((hen.trans (bel_env hb3)).trans (bel_env hb4))⟩
              all_goals exact absurd (by simpa using hne) (by assumption : ¬ G ≠ 0)
          · obtain rfl : k = D.length := by omega
            have hG2 : G = 0 := by rw [← hg.out, List.drop_length]; rfl
            subst hG2
            have hB := refBatch_any bA bn bc Bt hok wr ((hBt.mono l1).rw hst)
            clear hg
            go_wp2_with fail
            refine hB.mono ?_
            rintro e w3 ⟨rfl, hb3⟩
            go_wp2_with fail
            go_ret
            exact ⟨rfl, ((hst.below hb3).weaken l1).toBelow (hen.trans (bel_env hb3))⟩
    · rw [if_pos hq]
      by_cases hq1 : q < 1
      · clear hq
        go_enter Try.func69, Try.ntmps69
        go_wp2_with fail
        refine (hI.out _).mono ?_
        rintro e w2 ⟨rfl, hb2⟩
        have h2 := h1.below hb2
        have v2 := h2.cell y2
        have vl := World.block_lt_of_cell? _ _ v2
        go_wp2_with fail
        go_ret
        exact ⟨rfl, (h2.weaken l1).toBelow (en1.trans (bel_env hb2))⟩
      · have hq2 : 1073741824 < q := by omega
        clear hq
        go_enter Try.func69, Try.ntmps69
        go_wp2_with fail
        refine (hI.out _).mono ?_
        rintro e w2 ⟨rfl, hb2⟩
        have h2 := h1.below hb2
        have v2 := h2.cell y2
        have vl := World.block_lt_of_cell? _ _ v2
        go_wp2_with fail
        go_ret
        exact ⟨rfl, (h2.weaken l1).toBelow (en1.trans (bel_env hb2))⟩
  · rw [if_pos (by simpa using hi)]
    have hne : (idErr (r, s) != 0) = true := by simpa using hi
    clear hi
    generalize idErr (r, s) = E at *
    replace hI := Lib.hid hI
    go_enter Try.func69, Try.ntmps69
    go_wp2_with fail
    refine (hI.out _).mono ?_
    rintro e w2 ⟨rfl, hb2⟩
    have h2 := h1.below hb2
    have v0 := h2.cell y0
    have v1 := h2.cell y1
    have vl := World.block_lt_of_cell? _ _ v0
    go_wp2_with fail
    refine (hI.out _).mono ?_
    rintro e w3 ⟨rfl, hb3⟩
    go_wp2_with fail
    go_ret
    exact ⟨rfl, ((h2.below hb3).weaken l1).toBelow ((en1.trans (bel_env hb2)).trans (bel_env hb3))⟩
end Go.Proofs.Ytelmhcbdpimaaaa
