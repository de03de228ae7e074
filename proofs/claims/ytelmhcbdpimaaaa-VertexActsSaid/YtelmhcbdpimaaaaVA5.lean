/- Joined texts: Rec3, Rec4, Bytes, Rec5, Rec6. -/
import Derived.Laws.BytesArg
import Derived.Laws.MakeOwn
import Derived.Laws.IdiomCopy
import Derived.Test.YtelmhcbdpimaaaaVA1
import Derived.Test.YtelmhcbdpimaaaaVA4
/- Records: what is wrong with one; the reference's answer. -/
set_option linter.unusedVariables false
set_option linter.unusedSimpArgs false
namespace Go.Proofs.Ytelmhcbdpimaaaa
open Go.RowKit Go.Cw Go.Fl
attribute [local go_sem ↓] eql_id neq_id
set_option maxRecDepth 100000 in
set_option maxHeartbeats 800000 in
theorem does_any (x : Rc) (w : World) (h : RcR w x) : Calls Try.prog 89 #[recV x] w fun e w' => e = .returned (.int .i64 (batchErr x.2.2.2.2.2)) ∧ Below w.heap.size w w' := by
  obtain ⟨⟨r, s⟩, q, dv, bv, D, Bt⟩ := x
  obtain ⟨dA, dn, dc, hd, _⟩ := h.d.form
  obtain ⟨bA, bn, bc, hb, _⟩ := h.b.form
  have hB := h.b
  have hok := h.ok
  simp only at hd hb hB hok
  subst hd hb
  clear h
  have bel := boxBelow w (.cells #[.int .i64 r, .int .i64 s, .int .i64 q, .slice dA dn dc, .slice bA bn bc] 128)
  have hC := batchCheck_any bA bn bc Bt hok _ (hB.below bel)
  go_enter Try.func89, Try.ntmps89
  go_wp2_with fail
  refine hC.mono ?_
  rintro e w2 ⟨rfl, hb2⟩
  go_wp2_with fail
  go_ret
  exact ⟨rfl, bel.trans (hb2.mono (by simp))⟩
/-- What is wrong with a record, as far as the k-th look and those behind it tell. -/
def tailErr (x : Rp) : Nat → Int
  | 0 => recErr x
  | 1 => if depErr x ≠ 0 then depErr x else batchErr x.2.2.2
  | 2 => batchErr x.2.2.2
  | _ => 0
set_option maxRecDepth 100000 in
set_option maxHeartbeats 3200000 in
theorem recCheck_any (x : Rc) (w : World) (h : RcR w x) : Calls Try.prog 55 #[recV x] w fun e w' => e = .returned (.int .i64 (recErr (rp x))) ∧ Below w.heap.size w w' := by
  have hO := own_any x
  have hP := deps_any x
  have hQ := does_any x
  obtain ⟨⟨r, s⟩, q, dv, bv, D, Bt⟩ := x
  obtain ⟨dA, dn, dc, hd, _⟩ := h.d.form
  obtain ⟨bA, bn, bc, hb, _⟩ := h.b.form
  simp only at hd hb
  subst hd hb
  replace hO := Lib.hid hO
  replace hP := Lib.hid hP
  replace hQ := Lib.hid hQ
  obtain ⟨H1, l1, h1, y⟩ := (St.start w).box #[.int .i64 r, .int .i64 s, .int .i64 q, .slice dA dn dc, .slice bA bn bc] 32
  have en1 := (Env.refl w).alloc (.cells #[.int .i64 r, .int .i64 s, .int .i64 q, .slice dA dn dc, .slice bA bn bc] 32)
  have y0 := y 0 _ rfl
  have y1 := y 1 _ rfl
  have y2 := y 2 _ rfl
  have y3 := y 3 _ rfl
  have y4 := y 4 _ rfl
  clear y
  have hR : recErr ((r, s), q, D, Bt) = if ownErr ((r, s), q, D, Bt) ≠ 0 then ownErr ((r, s), q, D, Bt) else if depErr ((r, s), q, D, Bt) ≠ 0 then depErr ((r, s), q, D, Bt) else batchErr Bt := rfl
  have hr := h.d.rd
  have hb' := h.b.rd
  change Calls _ _ _ _ (fun e w' => e = .returned (.int .i64 (recErr ((r, s), q, D, Bt))) ∧ _)
  generalize hG : recErr ((r, s), q, D, Bt) = G at *
  have hG' : Hid (tailErr ((r, s), q, D, Bt) 0 = G) := Lib.hid hG
  clear hG hR
  go_enter Try.func55, Try.ntmps55
  obtain ⟨H2, l2, h2, z⟩ := h1.box #[.func (.func 87) #[] #[], .func (.func 88) #[] #[], .func (.func 89) #[] #[]] 125
  have hs1 : (w.alloc (.cells #[.int .i64 r, .int .i64 s, .int .i64 q, .slice dA dn dc, .slice bA bn bc] 32)).heap.size = w.heap.size + 1 := by simp
  have g0 := z 0 _ rfl
  have g1 := z 1 _ rfl
  have g2 := z 2 _ rfl
  rw [hs1] at g0 g1 g2
  have en2 := en1.alloc (.cells #[.func (.func 87) #[] #[], .func (.func 88) #[] #[], .func (.func 89) #[] #[]] 125)
  have hRd : ∀ wr, St H2 [] wr → RcR wr ((r, s), q, .slice dA dn dc, .slice bA bn bc, D, Bt) := fun wr hst => ⟨((hr.mono l1).mono l2).rw hst, ((hb'.mono l1).mono l2).rw hst, h.ok⟩
  clear z hs1 h1 en1
  go_wp2_with fail
  go_loopw [8] (fun s8 wr => ∃ k : Nat, k ≤ 3 ∧ s8 = .int .i64 (k : Int) ∧ St H2 [] wr ∧ Env w wr ∧ Hid (tailErr ((r, s), q, D, Bt) k = G)) (fun s8 _ => 3 - (intOf s8).toNat)
  case atStart => exact ⟨0, by omega, rfl, h2, en2, hG'⟩
  case round =>
    clear hG' h2 en2
    obtain ⟨k, hk, rfl, hst, hen, hg⟩ := hrel
    by_cases hlt : k < 3
    · have hk3 : k = 0 ∨ k = 1 ∨ k = 2 := by omega
      clear hk hlt
      rcases hk3 with rfl | rfl | rfl
      · have hck := hRd wr hst
        have c := hO.out wr hck
        have f0 := hst.cell g0
        have fl := World.block_lt_of_cell? _ _ f0
        have v0 := hst.cell (Hp.cell_le l2 y0)
        have v1 := hst.cell (Hp.cell_le l2 y1)
        have v2 := hst.cell (Hp.cell_le l2 y2)
        have v3 := hst.cell (Hp.cell_le l2 y3)
        have v4 := hst.cell (Hp.cell_le l2 y4)
        have vl := World.block_lt_of_cell? _ _ v0
        have hT : tailErr ((r, s), q, D, Bt) 0 = if ownErr ((r, s), q, D, Bt) ≠ 0 then ownErr ((r, s), q, D, Bt) else tailErr ((r, s), q, D, Bt) (0 + 1) := rfl
        rw [hT] at hg
        clear hT hck
        by_cases he : ownErr ((r, s), q, D, Bt) = 0
        · replace hg := hg.out
          rw [if_neg (by simpa using he)] at hg
          replace hg := Lib.hid hg
          change Calls _ _ _ _ (fun e w' => e = .returned (.int .i64 (ownErr ((r, s), q, D, Bt))) ∧ _) at c
          rw [he] at c
          clear he
          go_wp2_with fail
          refine c.mono ?_
          rintro e w3 ⟨rfl, hb3⟩
          go_wp2_with fail
          go_roundw
          case rel => exact ⟨0 + 1, by omega, by go_num, hst.below hb3, hen.trans (bel_env hb3), hg⟩
          case measure => simp [intOf]
        · replace hg := hg.out
          rw [if_pos (by simpa using he)] at hg
          have hne : (ownErr ((r, s), q, D, Bt) != 0) = true := by simpa using he
          change Calls _ _ _ _ (fun e w' => e = .returned (.int .i64 (ownErr ((r, s), q, D, Bt))) ∧ _) at c
          clear he
          generalize ownErr ((r, s), q, D, Bt) = E at *
          subst hg
          go_wp2_with fail
          refine c.mono ?_
          rintro e w3 ⟨rfl, hb3⟩
          go_wp2_with fail
          go_ret
          exact ⟨rfl, (((hst.below hb3).weaken l2).weaken l1).toBelow (hen.trans (bel_env hb3))⟩
      · have hck := hRd wr hst
        have c := hP.out wr hck
        have f0 := hst.cell g1
        have fl := World.block_lt_of_cell? _ _ f0
        have v0 := hst.cell (Hp.cell_le l2 y0)
        have v1 := hst.cell (Hp.cell_le l2 y1)
        have v2 := hst.cell (Hp.cell_le l2 y2)
        have v3 := hst.cell (Hp.cell_le l2 y3)
        have v4 := hst.cell (Hp.cell_le l2 y4)
        have vl := World.block_lt_of_cell? _ _ v0
        have hT : tailErr ((r, s), q, D, Bt) 1 = if depErr ((r, s), q, D, Bt) ≠ 0 then depErr ((r, s), q, D, Bt) else tailErr ((r, s), q, D, Bt) (1 + 1) := rfl
        rw [hT] at hg
        clear hT hck
        by_cases he : depErr ((r, s), q, D, Bt) = 0
        · replace hg := hg.out
          rw [if_neg (by simpa using he)] at hg
          replace hg := Lib.hid hg
          change Calls _ _ _ _ (fun e w' => e = .returned (.int .i64 (depErr ((r, s), q, D, Bt))) ∧ _) at c
          rw [he] at c
          clear he
          go_wp2_with fail
          refine c.mono ?_
          rintro e w3 ⟨rfl, hb3⟩
          go_wp2_with fail
          go_roundw
          case rel => exact ⟨1 + 1, by omega, by go_num, hst.below hb3, hen.trans (bel_env hb3), hg⟩
          case measure => simp [intOf]
        · replace hg := hg.out
          rw [if_pos (by simpa using he)] at hg
          have hne : (depErr ((r, s), q, D, Bt) != 0) = true := by simpa using he
          change Calls _ _ _ _ (fun e w' => e = .returned (.int .i64 (depErr ((r, s), q, D, Bt))) ∧ _) at c
          clear he
          generalize depErr ((r, s), q, D, Bt) = E at *
          subst hg
          go_wp2_with fail
          refine c.mono ?_
          rintro e w3 ⟨rfl, hb3⟩
          go_wp2_with fail
          go_ret
          exact ⟨rfl, (((hst.below hb3).weaken l2).weaken l1).toBelow (hen.trans (bel_env hb3))⟩
      · have hck := hRd wr hst
        have c := hQ.out wr hck
        have f0 := hst.cell g2
        have fl := World.block_lt_of_cell? _ _ f0
        have v0 := hst.cell (Hp.cell_le l2 y0)
        have v1 := hst.cell (Hp.cell_le l2 y1)
        have v2 := hst.cell (Hp.cell_le l2 y2)
        have v3 := hst.cell (Hp.cell_le l2 y3)
        have v4 := hst.cell (Hp.cell_le l2 y4)
        have vl := World.block_lt_of_cell? _ _ v0
        have hT : tailErr ((r, s), q, D, Bt) 2 = if batchErr Bt ≠ 0 then batchErr Bt else tailErr ((r, s), q, D, Bt) (2 + 1) := by show batchErr Bt = _; by_cases h : batchErr Bt = 0 <;> simp [h, tailErr]
        rw [hT] at hg
        clear hT hck
        by_cases he : batchErr Bt = 0
        · replace hg := hg.out
          rw [if_neg (by simpa using he)] at hg
          replace hg := Lib.hid hg
          change Calls _ _ _ _ (fun e w' => e = .returned (.int .i64 (batchErr Bt)) ∧ _) at c
          rw [he] at c
          clear he
          go_wp2_with fail
          refine c.mono ?_
          rintro e w3 ⟨rfl, hb3⟩
          go_wp2_with fail
          go_roundw
          case rel => exact ⟨2 + 1, by omega, by go_num, hst.below hb3, hen.trans (bel_env hb3), hg⟩
          case measure => simp [intOf]
        · replace hg := hg.out
          rw [if_pos (by simpa using he)] at hg
          have hne : (batchErr Bt != 0) = true := by simpa using he
          change Calls _ _ _ _ (fun e w' => e = .returned (.int .i64 (batchErr Bt)) ∧ _) at c
          clear he
          generalize batchErr Bt = E at *
          subst hg
          go_wp2_with fail
          refine c.mono ?_
          rintro e w3 ⟨rfl, hb3⟩
          go_wp2_with fail
          go_ret
          exact ⟨rfl, (((hst.below hb3).weaken l2).weaken l1).toBelow (hen.trans (bel_env hb3))⟩
    · obtain rfl : k = 3 := by omega
      have hG2 : G = 0 := hg.out.symm
      subst hG2
      clear hg
      go_wp2_with fail
      go_ret
      exact ⟨rfl, ((hst.weaken l2).weaken l1).toBelow hen⟩
end Go.Proofs.Ytelmhcbdpimaaaa

/- Records: the reference's answer to what is wrong with one. -/
set_option linter.unusedVariables false
set_option linter.unusedSimpArgs false
namespace Go.Proofs.Ytelmhcbdpimaaaa
open Go.RowKit Go.Cw Go.Fl
attribute [local go_sem ↓] eql_id neq_id
set_option maxRecDepth 100000 in
set_option maxHeartbeats 6400000 in
theorem refRec_any (x : Rc) (w : World) (h : RcR w x) : Calls Try.prog 69 #[recV x] w fun e w' => e = .returned (.int .i64 (recErr (rp x))) ∧ Below w.heap.size w w' := by
  obtain ⟨⟨r, s⟩, q, dv, bv, D, Bt⟩ := x
  obtain ⟨dA, dn, dc, hd, hdl, hdn, hdc⟩ := h.d.form
  obtain ⟨bA, bn, bc, hb, _⟩ := h.b.form
  have hD := h.d.rd
  have hBt := h.b.rd
  have hok := h.ok
  simp only at hd hb hD hdl hBt hok
  subst hd hb
  rw [idl_len] at hdl
  obtain rfl : dn = D.length := by omega
  clear h hdl
  obtain ⟨H1, l1, h1, y⟩ := (St.start w).box #[.int .i64 r, .int .i64 s, .int .i64 q, .slice dA D.length dc, .slice bA bn bc] 32
  have en1 := (Env.refl w).alloc (.cells #[.int .i64 r, .int .i64 s, .int .i64 q, .slice dA D.length dc, .slice bA bn bc] 32)
  have y0 := y 0 _ rfl
  have y1 := y 1 _ rfl
  have y2 := y 2 _ rfl
  have y3 := y 3 _ rfl
  have y4 := y 4 _ rfl
  clear y
  have hI := refId_any (r, s)
  have hR : recErr ((r, s), q, D, Bt) = if idErr (r, s) ≠ 0 then idErr (r, s) else if ¬ (1 ≤ q ∧ q ≤ 1073741824) then 9 else if 16 < D.length then 10 else if depsErr (r, s) none D ≠ 0 then depsErr (r, s) none D else batchErr Bt := by
    unfold recErr ownErr depErr
    by_cases a1 : idErr (r, s) = 0
    · by_cases a2 : 1 ≤ q ∧ q ≤ 1073741824
      · by_cases a3 : 16 < D.length <;> simp [a1, a2, a3]
      · simp [a1, a2]
    · simp [a1]
  change Calls _ _ _ _ (fun e w' => e = .returned (.int .i64 (recErr ((r, s), q, D, Bt))) ∧ _)
  rw [hR]
  clear hR
  by_cases hi : idErr (r, s) = 0
  · rw [if_neg (by simpa using hi)]
    rw [hi] at hI
    replace hI := Lib.hid hI
    clear hi
    by_cases hq : 1 ≤ q ∧ q ≤ 1073741824
    · rw [if_neg (by simpa using hq)]
      obtain ⟨hq1, hq2⟩ := hq
      have hq1' : ¬ q < 1 := by omega
      have hq2' : ¬ 1073741824 < q := by omega
      by_cases h16 : 16 < D.length
      · rw [if_pos h16]
        have h16I : (16 : Int) < (D.length : Int) := by omega
        go_enter Try.func69, Try.ntmps69
        go_wp2_with fail
        refine (hI.out _).mono ?_
        rintro e w2 ⟨rfl, hb2⟩
        have h2 := h1.below hb2
        have v2 := h2.cell y2
        have v3 := h2.cell y3
        have vl := World.block_lt_of_cell? _ _ v2
        go_wp2_with fail
        go_ret
        exact ⟨rfl, (h2.weaken l1).toBelow (en1.trans (bel_env hb2))⟩
      · rw [if_neg h16]
        have h16I : ¬ (16 : Int) < (D.length : Int) := by omega
        generalize hG : depsErr (r, s) none D = G at *
        replace hG := Lib.hid hG
        go_enter Try.func69, Try.ntmps69
        go_wp2_with fail
        refine (hI.out _).mono ?_
        rintro e w2 ⟨rfl, hb2⟩
        have h2 := h1.below hb2
        have en2 := en1.trans (bel_env hb2)
        have v2 := h2.cell y2
        have v3 := h2.cell y3
        have vl := World.block_lt_of_cell? _ _ v2
        clear h1 en1
        go_wp2_with fail
        go_loopw [3] (fun s3 wr => ∃ k : Nat, k ≤ D.length ∧ s3 = .int .i64 (k : Int) ∧ St H1 [] wr ∧ Env w wr ∧ Hid (depsErr (r, s) (prevOf D k) (D.drop k) = G)) (fun s3 _ => D.length - (intOf s3).toNat)
        case atStart => exact ⟨0, by omega, rfl, h2, en2, hG⟩
        case round =>
          clear hG h2 en2 v2 v3 vl hb2
          obtain ⟨k, hk, rfl, hst, hen, hg⟩ := hrel
          have v0 := hst.cell y0
          have v1 := hst.cell y1
          have v3 := hst.cell y3
          have v4 := hst.cell y4
          have vl := World.block_lt_of_cell? _ _ v0
          by_cases hlt : k < D.length
          · have hstep := depsErr_step (r, s) (prevOf D k) D k hlt
            rw [hg.out] at hstep
            obtain ⟨A0, n0, c0, hv0, hl0, hn0, hc0, hcells0⟩ := hD.mono l1
            cases hv0
            obtain ⟨b, off, rfl, hcells⟩ := hcells0 (by omega)
            have t0 := hcells _ _ (idl_fst D k hlt)
            have t1 := hcells _ _ (idl_snd D k hlt)
            rw [← Nat.add_assoc] at t1
            replace hcells := Lib.hid hcells
            obtain ⟨d, HX⟩ : ∃ x, Hid (x = D[k]) := ⟨_, Lib.hid rfl⟩
            rw [← HX.out] at t0 t1 hstep
            obtain ⟨d1, d2⟩ := d
            simp only at t0 t1
            have q0 := hst.cell t0
            have q1 := hst.cell t1
            have ql := World.block_lt_of_cell? _ _ q0
            clear hg hcells0 hc0 hl0
            have hJ := refId_any (d1, d2)
            have hk0 : (0 : Int) ≤ (k : Int) := by omega
            have hkD : (k : Int) < (D.length : Int) := by omega
            by_cases hj : idErr (d1, d2) = 0
            · rw [if_neg (by simpa using hj)] at hstep
              rw [hj] at hJ
              replace hJ := Lib.hid hJ
              clear hj
              by_cases ho : (d1, d2) = ((r, s) : Id)
              · rw [if_pos ho] at hstep
                subst hstep
                have hq := idEq_of ho
                simp only at hq
                clear ho
                go_wp2_with fail
                refine (hJ.out _).mono ?_
                rintro e w3 ⟨rfl, hb3⟩
                have h3 := hst.below hb3
                clear v0 v1 v3 v4 vl q0 q1 ql
                have v0 := h3.cell y0
                have v1 := h3.cell y1
                have v3 := h3.cell y3
                have q0 := h3.cell t0
                have q1 := h3.cell t1
                have vl := World.block_lt_of_cell? _ _ v0
                have ql := World.block_lt_of_cell? _ _ q0
                go_wp2_with fail
                go_quiet (fail)
                go_wp2_with fail
                go_ret
                exact ⟨rfl, ((h3.drewN _).weaken l1).toBelow ((hen.trans (bel_env hb3)).drewN _)⟩
              · rw [if_neg ho] at hstep
                have hq := idEq_not ho
                simp only at hq
                clear ho
                cases k with
                | zero =>
                  replace hstep : G = depsErr (r, s) (some (d1, d2)) (D.drop (0 + 1)) := hstep
                  replace hstep := Lib.hid hstep
                  simp only [Nat.zero_mul, Nat.add_zero] at q0 q1 t0 t1
                  have hd0 : decide ((0 : Int) < ((0 : Nat) : Int)) = false := by decide
                  go_wp2_with fail
                  refine (hJ.out _).mono ?_
                  rintro e w3 ⟨rfl, hb3⟩
                  have h3 := hst.below hb3
                  clear v0 v1 v3 v4 vl q0 q1 ql
                  have v0 := h3.cell y0
                  have v1 := h3.cell y1
                  have v3 := h3.cell y3
                  have q0 := h3.cell t0
                  have q1 := h3.cell t1
                  have vl := World.block_lt_of_cell? _ _ v0
                  have ql := World.block_lt_of_cell? _ _ q0
                  go_wp2_with fail
                  go_quiet (fail)
                  have h4 := h3.drewN nq
                  have en4 := (hen.trans (bel_env hb3)).drewN nq
                  generalize w3.drewN nq = w4 at *
                  clear v0 v1 v3 vl q0 q1 ql
                  have v0 := h4.cell y0
                  have v1 := h4.cell y1
                  have v3 := h4.cell y3
                  have vl := World.block_lt_of_cell? _ _ v0
                  go_wp2_with fail
                  go_quiet (fail)
                  go_wp2_with fail
                  go_roundw
                  case rel => exact ⟨1, by omega, by go_num, h4.drewN _, en4.drewN _, Lib.hid (by rw [show prevOf D 1 = some (d1, d2) by unfold prevOf; rw [HX.out]; simp [hlt]]; exact hstep.out.symm)⟩
                  case measure => simp [intOf]; omega
                | succ m =>
                  have hpv : prevOf D (m + 1) = some D[m] := by unfold prevOf; simp [show m < D.length by omega]
                  rw [hpv] at hstep
                  have g0 := hcells.out _ _ (idl_fst D m (by omega))
                  have g1 := hcells.out _ _ (idl_snd D m (by omega))
                  rw [← Nat.add_assoc] at g1
                  obtain ⟨pd, HY⟩ : ∃ x, Hid (x = D[m]) := ⟨_, Lib.hid rfl⟩
                  rw [← HY.out] at g0 g1 hstep
                  obtain ⟨p1', p2'⟩ := pd
                  simp only at g0 g1
                  clear hpv
                  have hk1 : (0 : Int) < ((m : Int) + 1) := by omega
                  have hm0 : (0 : Int) ≤ (m : Int) := by omega
                  have hml : (m : Int) < (D.length : Int) := by omega
                  have hm1 : (m : Int) + 1 < (D.length : Int) := by omega
                  have hw1 : IntKind.i64.wrap ((m : Int) + 1 - 1) = (m : Int) := by rw [IntKind.wrap_i64]; omega
                  have hw2 : IntKind.i64.wrap (m : Int) = (m : Int) := by rw [IntKind.wrap_i64]; omega
                  have hi0 : (0 : Int) ≤ (m : Int) + 1 := by omega
                  have hin : ((m : Int) + 1).toNat = m + 1 := by omega
                  have hin0 : ((m : Int)).toNat = m := by omega
                  have hL := fun w => less_any (p1', p2') (d1, d2) w
                  cases hah : idLt (p1', p2') (d1, d2) with
                  | true =>
                    replace hstep : G = depsErr (r, s) (some (d1, d2)) (D.drop (m + 1 + 1)) := by rw [hstep, show aheadOf (some (p1', p2')) (d1, d2) = idLt (p1', p2') (d1, d2) from rfl, hah]; rfl
                    replace hstep := Lib.hid hstep
                    rw [hah] at hL
                    replace hL := Lib.hid hL
                    clear hah
                    go_wp2_with fail
                    refine (hJ.out _).mono ?_
                    rintro e w3 ⟨rfl, hb3⟩
                    have h3 := hst.below hb3
                    clear v0 v1 v3 v4 vl q0 q1 ql
                    have v0 := h3.cell y0
                    have v1 := h3.cell y1
                    have v3 := h3.cell y3
                    have q0 := h3.cell t0
                    have q1 := h3.cell t1
                    have vl := World.block_lt_of_cell? _ _ v0
                    have ql := World.block_lt_of_cell? _ _ q0
                    go_wp2_with fail
                    go_quiet (fail)
                    have h4 := h3.drewN nq
                    have en4 := (hen.trans (bel_env hb3)).drewN nq
                    generalize w3.drewN nq = w4 at *
                    clear v0 v1 v3 vl q0 q1 ql
                    have v3 := h4.cell y3
                    have q0 := h4.cell t0
                    have q1 := h4.cell t1
                    have p0 := h4.cell g0
                    have p1 := h4.cell g1
                    have vl := World.block_lt_of_cell? _ _ v3
                    go_wp2_with fail
                    go_still_tail 14, (by kernel_rfl)
                    change wpList _ _ _ _ _ w4.drew
                    go_wp2_with fail
                    refine (hL.out _).mono ?_
                    rintro e w5 ⟨rfl, hb5⟩
                    have h5 := h4.drew.below hb5
                    go_wp2_with fail
                    go_roundw
                    case rel => exact ⟨m + 1 + 1, by omega, by go_num, h5, en4.drew.trans (bel_env hb5), Lib.hid (by rw [show prevOf D (m + 1 + 1) = some (d1, d2) by unfold prevOf; rw [HX.out]; simp [hlt]]; exact hstep.out.symm)⟩
                    case measure => simp [intOf]; omega
                  | false =>
                    replace hstep : G = 11 := by rw [hstep, show aheadOf (some (p1', p2')) (d1, d2) = idLt (p1', p2') (d1, d2) from rfl, hah]; rfl
                    rw [hah] at hL
                    replace hL := Lib.hid hL
                    clear hah
                    subst hstep
                    go_wp2_with fail
                    refine (hJ.out _).mono ?_
                    rintro e w3 ⟨rfl, hb3⟩
                    have h3 := hst.below hb3
                    clear v0 v1 v3 v4 vl q0 q1 ql
                    have v0 := h3.cell y0
                    have v1 := h3.cell y1
                    have v3 := h3.cell y3
                    have q0 := h3.cell t0
                    have q1 := h3.cell t1
                    have vl := World.block_lt_of_cell? _ _ v0
                    have ql := World.block_lt_of_cell? _ _ q0
                    go_wp2_with fail
                    go_quiet (fail)
                    have h4 := h3.drewN nq
                    have en4 := (hen.trans (bel_env hb3)).drewN nq
                    generalize w3.drewN nq = w4 at *
                    clear v0 v1 v3 vl q0 q1 ql
                    have v3 := h4.cell y3
                    have q0 := h4.cell t0
                    have q1 := h4.cell t1
                    have p0 := h4.cell g0
                    have p1 := h4.cell g1
                    have vl := World.block_lt_of_cell? _ _ v3
                    go_wp2_with fail
                    go_still_tail 14, (by kernel_rfl)
                    change wpList _ _ _ _ _ w4.drew
                    go_wp2_with fail
                    refine (hL.out _).mono ?_
                    rintro e w5 ⟨rfl, hb5⟩
                    have h5 := h4.drew.below hb5
                    go_wp2_with fail
                    go_ret
                    exact ⟨rfl, (h5.weaken l1).toBelow (en4.drew.trans (bel_env hb5))⟩
            · rw [if_pos (by simpa using hj)] at hstep
              have hne : (idErr (d1, d2) != 0) = true := by simpa using hj
              have hneP : (if idErr (d1, d2) ≠ 0 then idErr (d1, d2) else batchErr Bt) = idErr (d1, d2) := if_pos (by simpa using hj)
              clear hj
              generalize idErr (d1, d2) = E at *
              replace hJ := Lib.hid hJ
              subst hstep
              replace hneP := Lib.hid hneP
              go_wp2_with fail
              refine (hJ.out _).mono ?_
              rintro e w3 ⟨rfl, hb3⟩
              have h3 := hst.below hb3
              clear v0 v1 v3 v4 vl q0 q1 ql
              have v3 := h3.cell y3
              have q0 := h3.cell t0
              have q1 := h3.cell t1
              have vl := World.block_lt_of_cell? _ _ v3
              go_wp2_with fail
              refine (hJ.out _).mono ?_
              rintro e w4 ⟨rfl, hb4⟩
              go_wp2_with fail
              go_ret
              exact ⟨rfl, ((h3.below hb4).weaken l1).toBelow ((hen.trans (bel_env hb3)).trans (bel_env hb4))⟩
              all_goals exact absurd (by simpa using hne) (by assumption : ¬ G ≠ 0)
          · obtain rfl : k = D.length := by omega
            have hG2 : G = 0 := by rw [← hg.out, List.drop_length]; rfl
            subst hG2
            have hB := refBatch_any bA bn bc Bt hok wr ((hBt.mono l1).rw hst)
            clear hg
            go_wp2_with fail
            refine hB.mono ?_
            rintro e w3 ⟨rfl, hb3⟩
            go_wp2_with fail
            go_ret
            exact ⟨rfl, ((hst.below hb3).weaken l1).toBelow (hen.trans (bel_env hb3))⟩
    · rw [if_pos hq]
      by_cases hq1 : q < 1
      · clear hq
        go_enter Try.func69, Try.ntmps69
        go_wp2_with fail
        refine (hI.out _).mono ?_
        rintro e w2 ⟨rfl, hb2⟩
        have h2 := h1.below hb2
        have v2 := h2.cell y2
        have vl := World.block_lt_of_cell? _ _ v2
        go_wp2_with fail
        go_ret
        exact ⟨rfl, (h2.weaken l1).toBelow (en1.trans (bel_env hb2))⟩
      · have hq2 : 1073741824 < q := by omega
        clear hq
        go_enter Try.func69, Try.ntmps69
        go_wp2_with fail
        refine (hI.out _).mono ?_
        rintro e w2 ⟨rfl, hb2⟩
        have h2 := h1.below hb2
        have v2 := h2.cell y2
        have vl := World.block_lt_of_cell? _ _ v2
        go_wp2_with fail
        go_ret
        exact ⟨rfl, (h2.weaken l1).toBelow (en1.trans (bel_env hb2))⟩
  · rw [if_pos (by simpa using hi)]
    have hne : (idErr (r, s) != 0) = true := by simpa using hi
    clear hi
    generalize idErr (r, s) = E at *
    replace hI := Lib.hid hI
    go_enter Try.func69, Try.ntmps69
    go_wp2_with fail
    refine (hI.out _).mono ?_
    rintro e w2 ⟨rfl, hb2⟩
    have h2 := h1.below hb2
    have v0 := h2.cell y0
    have v1 := h2.cell y1
    have vl := World.block_lt_of_cell? _ _ v0
    go_wp2_with fail
    refine (hI.out _).mono ?_
    rintro e w3 ⟨rfl, hb3⟩
    go_wp2_with fail
    go_ret
    exact ⟨rfl, ((h2.below hb3).weaken l1).toBelow ((en1.trans (bel_env hb2)).trans (bel_env hb3))⟩
end Go.Proofs.Ytelmhcbdpimaaaa

/- Slices that are made, copied into, and turned into strings: plain lemmas, of no program. -/
set_option linter.unusedVariables false
set_option linter.unusedSimpArgs false
namespace Go.Cw
open Go.RowKit
def u8s (xs : List Int) : List Value := xs.map (Value.int .u8)
theorem u8s_len (xs : List Int) : (u8s xs).length = xs.length := by simp [u8s]
theorem u8s_one (xs : List Int) : ∀ u ∈ u8s xs, u.oneCell' = true := by
  intro u hu
  obtain ⟨x, _, rfl⟩ := List.mem_map.1 hu
  rfl
theorem u8s_get (xs : List Int) (k : Nat) (h : k < xs.length) : (u8s xs)[k]? = some (.int .u8 (xs.getD k 0)) := by simp [u8s, h]
theorem u8s_append (xs ys : List Int) : u8s (xs ++ ys) = u8s xs ++ u8s ys := by simp [u8s]
theorem u8s_take (xs : List Int) (k : Nat) : (u8s xs).take k = u8s (xs.take k) := by simp [u8s]
theorem u8s_drop (xs : List Int) (k : Nat) : (u8s xs).drop k = u8s (xs.drop k) := by simp [u8s]
theorem setCells_far (b : Nat) : ∀ (vs : List Value) (o : Nat) (w : World) (cur : Array Value) (e : TypeId), w.heap[b]? = some (.cells cur e (0, 0)) →
    ∀ cur' e', (w.setCells b o vs).heap[b]? = some (.cells cur' e' (0, 0)) → ∀ j, o + vs.length ≤ j → cur'[j]? = cur[j]?
  | [], o, w, cur, e, h, cur', e', h', j, hj => by
    have : (w.setCells b o []).heap[b]? = w.heap[b]? := rfl
    rw [this, h] at h'
    cases h'
    rfl
  | x :: r, o, w, cur, e, h, cur', e', h', j, hj => by
    have ih := setCells_far b r (o + 1) (w.setCell ⟨b, o, none⟩ x) (cur.setIfInBounds o x) e (heap_set w b o cur e x h) cur' e' h' j (by simp at hj; omega)
    rw [ih, Array.getElem?_setIfInBounds, if_neg (by simp at hj; omega)]
section
variable {P : Program} {H : Hp} {l : List HA} {w : World} {e : TypeId} {sz : Nat} {cs : List Value}
/-- copy into a row of one's own, from its element k on: m elements. -/
theorem St.copy_row {g off n c : Nat} (h : St H (Row e sz (.slice (some ⟨g, off, none⟩) n c) cs :: l) w) (t u ty : TypeId) (ht : P.underlying t = some (.slice e)) (hsz : (P.info? e).map (·.size) = some sz) (k m d c' M : Nat) (x : Value) (news : List Value) (o' : Nat)
    (ho : 0 < m → o' = off + k * sz) (hn : news.length = m * sz) (hk : (k + m) * sz ≤ cs.length) (hM : (Builtin.lenOf x).run P w = .ok M w) (hm : Nat.min M d = m) (hf : (Builtin.firstCells sz m x).run P w = .ok news.toArray w) (h1 : ∀ u ∈ news, u.oneCell' = true) :
    ∃ w', (Builtin.copy_ #[t, u] ty #[.slice (some ⟨g, o', none⟩) d c', x]).run P w = .ok (.int .i64 m) w' ∧ St H (Row e sz (.slice (some ⟨g, off, none⟩) n c) (cs.take (k * sz) ++ news ++ cs.drop ((k + m) * sz)) :: l) w' ∧ Env w w' := by
  rcases Nat.eq_zero_or_pos m with rfl | hm0
  · obtain rfl : news = [] := List.eq_nil_of_length_eq_zero (by simpa using hn)
    refine ⟨w, ?_, by simpa using h, Env.refl w⟩
    cases hq : P.info? e with
    | none => simp [hq] at hsz
    | some i =>
      have hi : i.size = sz := by simpa [hq] using hsz
      simp [Builtin.copy_, run_underlying ht, hM, hm, sizeOf, typeInfo, hq, hi, hf, storeCells, goInt]
  obtain rfl := ho hm0
  have hadd : (k + m) * sz = k * sz + m * sz := Nat.add_mul ..
  obtain ⟨S, ⟨S1, S2, hR, h2, hdj, hs⟩, hno⟩ := h.sep
  rcases hR with ⟨hv, _⟩ | ⟨g', off', n', cap, cur, hv, hl', hc', hM', hh, hs', hjj, hS⟩
  · cases hv
  · cases hv
    have hcl : cs.length ≤ c * sz := by rw [hl']; exact Nat.mul_le_mul_right _ hc'
    have hst := run_storeCells_cells (P := P) g (off + k * sz) news 0 w
      (fun j hj => by
        simp only [Nat.add_zero, World.cell?, hh]
        rw [if_neg (by simp)]
        simp
        omega)
      (fun j hj => by simp [World.frozen?, hh]) h1
    simp only [Nat.add_zero] at hst
    obtain ⟨cur', hh', hsz', hlow, hnew, hfar⟩ := setCells_heap g news (off + k * sz) w cur e hh (by omega)
    have hbey := setCells_far g news (off + k * sz) w cur e hh cur' e hh'
    refine ⟨w.setCells g (off + k * sz) news, ?_, ?_, setCells_env _ _ _ _⟩
    · cases hq : P.info? e with
      | none => simp [hq] at hsz
      | some i =>
        have hi : i.size = sz := by simpa [hq] using hsz
        simp [Builtin.copy_, run_underlying ht, hM, hm, sizeOf, typeInfo, hq, hi, hf, hst, goInt]
    · refine h.turn (setCells_env _ _ _ _).size (fun S hS => ?_)
      rcases hS with ⟨hv, _⟩ | ⟨g', off', n', cap', cur2, hv, _, _, _, hh2, _, _, hS⟩
      · cases hv
      · cases hv
        refine ⟨S, .inr ⟨g, off, n, c, cur', rfl, ?_, hc', hM', hh', by omega, fun j u hj => ?_, hS⟩, fun k hk => .inl hk, fun k _ hk => hfar k (fun e => hk ((hS k).2 e))⟩
        · simp only [List.length_append, List.length_take, List.length_drop]
          omega
        · have hlt : (cs.take (k * sz)).length = k * sz := by rw [List.length_take]; omega
          rw [List.append_assoc] at hj
          rcases Nat.lt_or_ge j (k * sz) with hj1 | hj1
          · rw [List.getElem?_append_left (by omega), List.getElem?_take_of_lt hj1] at hj
            rw [hlow (off + j) (by omega)]
            exact hjj j u hj
          · rw [List.getElem?_append_right (by omega), hlt] at hj
            rcases Nat.lt_or_ge (j - k * sz) news.length with hj2 | hj2
            · rw [List.getElem?_append_left hj2] at hj
              have := hnew _ u hj
              rwa [show off + k * sz + (j - k * sz) = off + j by omega] at this
            · rw [List.getElem?_append_right hj2, List.getElem?_drop, show (k + m) * sz + (j - k * sz - news.length) = j by omega] at hj
              rw [hbey (off + j) (by omega)]
              exact hjj j u hj
/-- string(b) of bytes that may be read. -/
theorem conv_rw {A : Option Addr} {n c : Nat} {xs : List Int} (h : Rw w 1 (.slice A n c) (u8s xs)) (src dst : TypeId) (hs : P.underlying src = some (.slice e)) (he : P.underlying e = some (.int .u8)) (hd : P.underlying dst = some .string) :
    (convert src dst (.slice A n c)).run P w = .ok (.string (strOfNums xs)) w := by
  obtain ⟨A', n', c', hv, hl, _, _, hc⟩ := h
  cases hv
  rw [u8s_len, Nat.mul_one] at hl
  rcases Nat.eq_zero_or_pos n with rfl | hn
  · obtain rfl : xs = [] := List.eq_nil_of_length_eq_zero hl
    rw [run_convert_bytes_string w src dst e _ 0 c hs he hd]
    cases A with
    | none => simp [Conv.bytesToString]; rfl
    | some a =>
      rw [run_bytesToString w a 0 c [] rfl]
      rfl
  · obtain ⟨b, off, rfl, hcc⟩ := hc hn
    exact run_convert_bytes_arg w src e hs he b off n c xs hl (fun i hi => hcc i _ (u8s_get xs i (by omega))) dst hd
end
end Go.Cw

/- Records: a copy in new memory. -/
set_option linter.unusedVariables false
set_option linter.unusedSimpArgs false
namespace Go.Proofs.Ytelmhcbdpimaaaa
open Go.RowKit Go.Cw Go.Fl
attribute [local go_sem ↓] eql_id neq_id
theorem info_cm : (Try.prog.info? 90).map (fun i => (i.zero, i.size, i.bytes)) = some (some (.agg #[.int .i64 0, .string ByteArray.empty, .float .f64 0]), 3, 32) := by kernel_rfl
theorem idSize : (Try.prog.info? 28).map (·.size) = some 2 := by kernel_rfl
theorem cmSize : (Try.prog.info? 90).map (·.size) = some 3 := by kernel_rfl
theorem makeId (n : Nat) (hn : n * 16 ≤ 140737488355328) (w : World) : (Instr.makeSlice 29 (.int .i64 (n : Int)) (.int .i64 (n : Int))).run Try.prog w = .ok (.slice (some ⟨w.heap.size, 0, none⟩) n n) (w.alloc (.cells (madeCells #[.int .i64 0, .int .i64 0] (n * 2)) 28)) := by
  obtain ⟨i, hi, hz0, hz1, hz2⟩ := info_parts info_id
  have := run_make (P := Try.prog) w 29 28 i (.agg #[.int .i64 0, .int .i64 0]) Try.underlying29 hi hz0 .i64 .i64 (n : Int) (n : Int) (by omega) (by omega) (by rw [hz2]; omega) (by omega)
  rw [hz1] at this
  simpa [Value.cells] using this
theorem makeCm (n : Nat) (hn : n * 32 ≤ 140737488355328) (w : World) : (Instr.makeSlice 30 (.int .i64 (n : Int)) (.int .i64 (n : Int))).run Try.prog w = .ok (.slice (some ⟨w.heap.size, 0, none⟩) n n) (w.alloc (.cells (madeCells #[.int .i64 0, .string ByteArray.empty, .float .f64 0] (n * 3)) 90)) := by
  obtain ⟨i, hi, hz0, hz1, hz2⟩ := info_parts info_cm
  have := run_make (P := Try.prog) w 30 90 i (.agg #[.int .i64 0, .string ByteArray.empty, .float .f64 0]) Try.underlying30 hi hz0 .i64 .i64 (n : Int) (n : Int) (by omega) (by omega) (by rw [hz2]; omega) (by omega)
  rw [hz1] at this
  simpa [Value.cells] using this
set_option maxRecDepth 100000 in
set_option maxHeartbeats 6400000 in
theorem recCopy_any (x : Rc) (w : World) (h : RcR w x) (hlD : x.2.2.2.2.1.length * 16 ≤ 140737488355328) (hlB : x.2.2.2.2.2.length * 32 ≤ 140737488355328) :
    Calls Try.prog 56 #[recV x] w (ResE (snap w) [] w (fun (p : Value × Value) => recV (x.1, x.2.1, p.1, p.2, x.2.2.2.2.1, x.2.2.2.2.2)) (fun p => [Row 28 2 p.1 (idl x.2.2.2.2.1), Row 90 3 p.2 (cml x.2.2.2.2.2)])) := by
  obtain ⟨⟨r, s⟩, q, dv, bv, D, Bt⟩ := x
  obtain ⟨dA, dn, dc, hd, hdl, hdn, hdc⟩ := h.d.form
  obtain ⟨bA, bn, bc, hb, hbl, hbn, hbc⟩ := h.b.form
  have hD := h.d.rd
  have hBt := h.b.rd
  simp only at hd hb hD hdl hBt hbl hlD hlB
  subst hd hb
  rw [idl_len] at hdl
  rw [cml_len] at hbl
  obtain rfl : dn = D.length := by omega
  obtain rfl : bn = Bt.length := by omega
  clear h hdl hbl
  obtain ⟨H1, l1, h1, y⟩ := (St.start w).box #[.int .i64 r, .int .i64 s, .int .i64 q, .slice dA D.length dc, .slice bA Bt.length bc] 32
  have hs1 : (w.alloc (.cells #[.int .i64 r, .int .i64 s, .int .i64 q, .slice dA D.length dc, .slice bA Bt.length bc] 32)).heap.size = w.heap.size + 1 := by simp
  have en1 := (Env.refl w).alloc (.cells #[.int .i64 r, .int .i64 s, .int .i64 q, .slice dA D.length dc, .slice bA Bt.length bc] 32)
  have y0 := y 0 _ rfl
  have y1 := y 1 _ rfl
  have y2 := y 2 _ rfl
  have y3 := y 3 _ rfl
  have y4 := y 4 _ rfl
  clear y
  have h2 := h1.blk #[.int .i64 0, .int .i64 0, .int .i64 0, .slice none 0 0, .slice none 0 0] 32
  have en2 := en1.alloc (.cells #[.int .i64 0, .int .i64 0, .int .i64 0, .slice none 0 0, .slice none 0 0] 32)
  rw [hs1] at h2
  clear h1 en1 hs1
  have v0 := h2.cell y0
  have v1 := h2.cell y1
  have v2 := h2.cell y2
  have v3 := h2.cell y3
  have v4 := h2.cell y4
  have vl := World.block_lt_of_cell? _ _ v0
  have hmi := makeId D.length hlD
  have hmc := makeCm Bt.length hlB
  go_enter Try.func56, Try.ntmps56
  generalize hW : (w.alloc (.cells #[.int .i64 r, .int .i64 s, .int .i64 q, .slice dA D.length dc, .slice bA Bt.length bc] 32)).alloc (.cells #[.int .i64 0, .int .i64 0, .int .i64 0, .slice none 0 0, .slice none 0 0] 32) = W at *
  go_upto_region 1 with fail
  have kk : ∀ w', Below W.heap.size W w' → w'.cell? ⟨w.heap.size, 0, none⟩ = some (.int .i64 r) ∧ w'.cell? ⟨w.heap.size, 1, none⟩ = some (.int .i64 s) ∧ w'.cell? ⟨w.heap.size, 2, none⟩ = some (.int .i64 q) ∧ w'.cell? ⟨w.heap.size, 3, none⟩ = some (.slice dA D.length dc) ∧ w'.cell? ⟨w.heap.size, 4, none⟩ = some (.slice bA Bt.length bc) := fun w' hb => by
    have h3 := h2.below hb
    exact ⟨h3.cell y0, h3.cell y1, h3.cell y2, h3.cell y3, h3.cell y4⟩
  have kb := Below.refl W.heap.size W
  go_cut [3] from 4 to 16 (fun s3 wx => ∃ go gd gb : Nat, s3 = .pointer (some ⟨go, 0, none⟩) ∧ St H1 (Blk go #[.int .i64 r, .int .i64 s, .int .i64 q, .slice (some ⟨gd, 0, none⟩) D.length D.length, .slice (some ⟨gb, 0, none⟩) Bt.length Bt.length] 32 :: Row 28 2 (.slice (some ⟨gd, 0, none⟩) D.length D.length) (madeCells #[.int .i64 0, .int .i64 0] (D.length * 2)).toList :: Row 90 3 (.slice (some ⟨gb, 0, none⟩) Bt.length Bt.length) (madeCells #[.int .i64 0, .string ByteArray.empty, .float .f64 0] (Bt.length * 3)).toList :: Blk (w.heap.size + 1) #[.int .i64 0, .int .i64 0, .int .i64 0, .slice none 0 0, .slice none 0 0] 32 :: []) wx ∧ Env w wx)
  case first =>
    go_region_held3 (fun w' => w'.cell? ⟨w.heap.size, 0, none⟩ = some (.int .i64 r) ∧ w'.cell? ⟨w.heap.size, 1, none⟩ = some (.int .i64 s) ∧ w'.cell? ⟨w.heap.size, 2, none⟩ = some (.int .i64 q) ∧ w'.cell? ⟨w.heap.size, 3, none⟩ = some (.slice dA D.length dc) ∧ w'.cell? ⟨w.heap.size, 4, none⟩ = some (.slice bA Bt.length bc)) ((refine kk _ ?_; repeat' (first | exact kb | apply Below.drew | apply Below.alloc | apply Below.setCell | (simp; done) | (simp; omega)))) (fail)
    all_goals go_wp2_with fail
    all_goals go_meet
    -- SIX
    · have a1 := h2.row_lit 28 2 D.length (madeCells #[.int .i64 0, .int .i64 0] (D.length * 2)) (by simp [size_madeCells]) (by simp [maxLen]; omega)
      have a2 := a1.row_lit 90 3 Bt.length (madeCells #[.int .i64 0, .string ByteArray.empty, .float .f64 0] (Bt.length * 3)) (by simp [size_madeCells]) (by simp [maxLen]; omega)
      have a3 := a2.blk #[.int .i64 r, .int .i64 s, .int .i64 q, .slice (some ⟨W.heap.size, 0, none⟩) D.length D.length, .slice (some ⟨W.heap.size + 1, 0, none⟩) Bt.length Bt.length] 32
      have g1 : (W.alloc (.cells (madeCells #[.int .i64 0, .int .i64 0] (D.length * 2)) 28)).heap.size = W.heap.size + 1 := by simp
      have g2 : ((W.alloc (.cells (madeCells #[.int .i64 0, .int .i64 0] (D.length * 2)) 28)).alloc (.cells (madeCells #[.int .i64 0, .string ByteArray.empty, .float .f64 0] (Bt.length * 3)) 90)).heap.size = W.heap.size + 1 + 1 := by simp
      rw [g1] at a2 a3
      rw [g2] at a3
      exact ⟨_, _, _, rfl, (((a3.pick 1 (by simp)).pick 2 (by simp)).pick 2 (by simp)).drew, (((en2.alloc (.cells (madeCells #[.int .i64 0, .int .i64 0] (D.length * 2)) 28)).alloc (.cells (madeCells #[.int .i64 0, .string ByteArray.empty, .float .f64 0] (Bt.length * 3)) 90)).alloc (.cells #[.int .i64 r, .int .i64 s, .int .i64 q, .slice (some ⟨W.heap.size, 0, none⟩) D.length D.length, .slice (some ⟨W.heap.size + 1, 0, none⟩) Bt.length Bt.length] 32)).drew⟩
    · have a1 := h2.row_lit 28 2 D.length (madeCells #[.int .i64 0, .int .i64 0] (D.length * 2)) (by simp [size_madeCells]) (by simp [maxLen]; omega)
      have a2 := a1.blk #[.int .i64 r, .int .i64 s, .int .i64 q, .slice (some ⟨W.heap.size, 0, none⟩) D.length D.length, .slice (some ⟨W.heap.size + 1 + 1, 0, none⟩) Bt.length Bt.length] 32
      have a3 := a2.row_lit 90 3 Bt.length (madeCells #[.int .i64 0, .string ByteArray.empty, .float .f64 0] (Bt.length * 3)) (by simp [size_madeCells]) (by simp [maxLen]; omega)
      have g1 : (W.alloc (.cells (madeCells #[.int .i64 0, .int .i64 0] (D.length * 2)) 28)).heap.size = W.heap.size + 1 := by simp
      have g2 : ((W.alloc (.cells (madeCells #[.int .i64 0, .int .i64 0] (D.length * 2)) 28)).alloc (.cells #[.int .i64 r, .int .i64 s, .int .i64 q, .slice (some ⟨W.heap.size, 0, none⟩) D.length D.length, .slice (some ⟨W.heap.size + 1 + 1, 0, none⟩) Bt.length Bt.length] 32)).heap.size = W.heap.size + 1 + 1 := by simp
      rw [g1] at a2 a3
      rw [g2] at a3
      exact ⟨_, _, _, rfl, (((a3.pick 0 (by simp)).pick 2 (by simp)).pick 2 (by simp)).drew, (((en2.alloc (.cells (madeCells #[.int .i64 0, .int .i64 0] (D.length * 2)) 28)).alloc (.cells #[.int .i64 r, .int .i64 s, .int .i64 q, .slice (some ⟨W.heap.size, 0, none⟩) D.length D.length, .slice (some ⟨W.heap.size + 1 + 1, 0, none⟩) Bt.length Bt.length] 32)).alloc (.cells (madeCells #[.int .i64 0, .string ByteArray.empty, .float .f64 0] (Bt.length * 3)) 90)).drew⟩
    · have a1 := h2.row_lit 90 3 Bt.length (madeCells #[.int .i64 0, .string ByteArray.empty, .float .f64 0] (Bt.length * 3)) (by simp [size_madeCells]) (by simp [maxLen]; omega)
      have a2 := a1.row_lit 28 2 D.length (madeCells #[.int .i64 0, .int .i64 0] (D.length * 2)) (by simp [size_madeCells]) (by simp [maxLen]; omega)
      have a3 := a2.blk #[.int .i64 r, .int .i64 s, .int .i64 q, .slice (some ⟨W.heap.size + 1, 0, none⟩) D.length D.length, .slice (some ⟨W.heap.size, 0, none⟩) Bt.length Bt.length] 32
      have g1 : (W.alloc (.cells (madeCells #[.int .i64 0, .string ByteArray.empty, .float .f64 0] (Bt.length * 3)) 90)).heap.size = W.heap.size + 1 := by simp
      have g2 : ((W.alloc (.cells (madeCells #[.int .i64 0, .string ByteArray.empty, .float .f64 0] (Bt.length * 3)) 90)).alloc (.cells (madeCells #[.int .i64 0, .int .i64 0] (D.length * 2)) 28)).heap.size = W.heap.size + 1 + 1 := by simp
      rw [g1] at a2 a3
      rw [g2] at a3
      exact ⟨_, _, _, rfl, (((a3.pick 2 (by simp)).pick 2 (by simp)).pick 2 (by simp)).drew, (((en2.alloc (.cells (madeCells #[.int .i64 0, .string ByteArray.empty, .float .f64 0] (Bt.length * 3)) 90)).alloc (.cells (madeCells #[.int .i64 0, .int .i64 0] (D.length * 2)) 28)).alloc (.cells #[.int .i64 r, .int .i64 s, .int .i64 q, .slice (some ⟨W.heap.size + 1, 0, none⟩) D.length D.length, .slice (some ⟨W.heap.size, 0, none⟩) Bt.length Bt.length] 32)).drew⟩
    · have a1 := h2.row_lit 90 3 Bt.length (madeCells #[.int .i64 0, .string ByteArray.empty, .float .f64 0] (Bt.length * 3)) (by simp [size_madeCells]) (by simp [maxLen]; omega)
      have a2 := a1.blk #[.int .i64 r, .int .i64 s, .int .i64 q, .slice (some ⟨W.heap.size + 1 + 1, 0, none⟩) D.length D.length, .slice (some ⟨W.heap.size, 0, none⟩) Bt.length Bt.length] 32
      have a3 := a2.row_lit 28 2 D.length (madeCells #[.int .i64 0, .int .i64 0] (D.length * 2)) (by simp [size_madeCells]) (by simp [maxLen]; omega)
      have g1 : (W.alloc (.cells (madeCells #[.int .i64 0, .string ByteArray.empty, .float .f64 0] (Bt.length * 3)) 90)).heap.size = W.heap.size + 1 := by simp
      have g2 : ((W.alloc (.cells (madeCells #[.int .i64 0, .string ByteArray.empty, .float .f64 0] (Bt.length * 3)) 90)).alloc (.cells #[.int .i64 r, .int .i64 s, .int .i64 q, .slice (some ⟨W.heap.size + 1 + 1, 0, none⟩) D.length D.length, .slice (some ⟨W.heap.size, 0, none⟩) Bt.length Bt.length] 32)).heap.size = W.heap.size + 1 + 1 := by simp
      rw [g1] at a2 a3
      rw [g2] at a3
      exact ⟨_, _, _, rfl, (((a3.pick 2 (by simp)).pick 1 (by simp)).pick 2 (by simp)).drew, (((en2.alloc (.cells (madeCells #[.int .i64 0, .string ByteArray.empty, .float .f64 0] (Bt.length * 3)) 90)).alloc (.cells #[.int .i64 r, .int .i64 s, .int .i64 q, .slice (some ⟨W.heap.size + 1 + 1, 0, none⟩) D.length D.length, .slice (some ⟨W.heap.size, 0, none⟩) Bt.length Bt.length] 32)).alloc (.cells (madeCells #[.int .i64 0, .int .i64 0] (D.length * 2)) 28)).drew⟩
    · have a1 := h2.blk #[.int .i64 r, .int .i64 s, .int .i64 q, .slice (some ⟨W.heap.size + 1, 0, none⟩) D.length D.length, .slice (some ⟨W.heap.size + 1 + 1, 0, none⟩) Bt.length Bt.length] 32
      have a2 := a1.row_lit 28 2 D.length (madeCells #[.int .i64 0, .int .i64 0] (D.length * 2)) (by simp [size_madeCells]) (by simp [maxLen]; omega)
      have a3 := a2.row_lit 90 3 Bt.length (madeCells #[.int .i64 0, .string ByteArray.empty, .float .f64 0] (Bt.length * 3)) (by simp [size_madeCells]) (by simp [maxLen]; omega)
      have g1 : (W.alloc (.cells #[.int .i64 r, .int .i64 s, .int .i64 q, .slice (some ⟨W.heap.size + 1, 0, none⟩) D.length D.length, .slice (some ⟨W.heap.size + 1 + 1, 0, none⟩) Bt.length Bt.length] 32)).heap.size = W.heap.size + 1 := by simp
      have g2 : ((W.alloc (.cells #[.int .i64 r, .int .i64 s, .int .i64 q, .slice (some ⟨W.heap.size + 1, 0, none⟩) D.length D.length, .slice (some ⟨W.heap.size + 1 + 1, 0, none⟩) Bt.length Bt.length] 32)).alloc (.cells (madeCells #[.int .i64 0, .int .i64 0] (D.length * 2)) 28)).heap.size = W.heap.size + 1 + 1 := by simp
      rw [g1] at a2 a3
      rw [g2] at a3
      exact ⟨_, _, _, rfl, (((a3.pick 0 (by simp)).pick 1 (by simp)).pick 2 (by simp)).drew, (((en2.alloc (.cells #[.int .i64 r, .int .i64 s, .int .i64 q, .slice (some ⟨W.heap.size + 1, 0, none⟩) D.length D.length, .slice (some ⟨W.heap.size + 1 + 1, 0, none⟩) Bt.length Bt.length] 32)).alloc (.cells (madeCells #[.int .i64 0, .int .i64 0] (D.length * 2)) 28)).alloc (.cells (madeCells #[.int .i64 0, .string ByteArray.empty, .float .f64 0] (Bt.length * 3)) 90)).drew⟩
    · have a1 := h2.blk #[.int .i64 r, .int .i64 s, .int .i64 q, .slice (some ⟨W.heap.size + 1 + 1, 0, none⟩) D.length D.length, .slice (some ⟨W.heap.size + 1, 0, none⟩) Bt.length Bt.length] 32
      have a2 := a1.row_lit 90 3 Bt.length (madeCells #[.int .i64 0, .string ByteArray.empty, .float .f64 0] (Bt.length * 3)) (by simp [size_madeCells]) (by simp [maxLen]; omega)
      have a3 := a2.row_lit 28 2 D.length (madeCells #[.int .i64 0, .int .i64 0] (D.length * 2)) (by simp [size_madeCells]) (by simp [maxLen]; omega)
      have g1 : (W.alloc (.cells #[.int .i64 r, .int .i64 s, .int .i64 q, .slice (some ⟨W.heap.size + 1 + 1, 0, none⟩) D.length D.length, .slice (some ⟨W.heap.size + 1, 0, none⟩) Bt.length Bt.length] 32)).heap.size = W.heap.size + 1 := by simp
      have g2 : ((W.alloc (.cells #[.int .i64 r, .int .i64 s, .int .i64 q, .slice (some ⟨W.heap.size + 1 + 1, 0, none⟩) D.length D.length, .slice (some ⟨W.heap.size + 1, 0, none⟩) Bt.length Bt.length] 32)).alloc (.cells (madeCells #[.int .i64 0, .string ByteArray.empty, .float .f64 0] (Bt.length * 3)) 90)).heap.size = W.heap.size + 1 + 1 := by simp
      rw [g1] at a2 a3
      rw [g2] at a3
      exact ⟨_, _, _, rfl, (((a3.pick 1 (by simp)).pick 1 (by simp)).pick 2 (by simp)).drew, (((en2.alloc (.cells #[.int .i64 r, .int .i64 s, .int .i64 q, .slice (some ⟨W.heap.size + 1 + 1, 0, none⟩) D.length D.length, .slice (some ⟨W.heap.size + 1, 0, none⟩) Bt.length Bt.length] 32)).alloc (.cells (madeCells #[.int .i64 0, .string ByteArray.empty, .float .f64 0] (Bt.length * 3)) 90)).alloc (.cells (madeCells #[.int .i64 0, .int .i64 0] (D.length * 2)) 28)).drew⟩
  case rest =>
    obtain ⟨go, gd, gb, rfl, h3, en3⟩ := hcut
    clear en2 kb kk v0 v1 v2 v3 v4 vl hmi hmc
    have hs : (madeCells #[Value.int .i64 0, .int .i64 0] (D.length * 2)).toList.length = D.length * 2 := by simp [size_madeCells]
    have hs' : (madeCells #[Value.int .i64 0, .string ByteArray.empty, .float .f64 0] (Bt.length * 3)).toList.length = Bt.length * 3 := by simp [size_madeCells]
    generalize (madeCells #[Value.int .i64 0, .int .i64 0] (D.length * 2)).toList = ZI at *
    generalize (madeCells #[Value.int .i64 0, .string ByteArray.empty, .float .f64 0] (Bt.length * 3)).toList = ZC at *
    have hnD : News Try.prog wc 2 (.slice dA D.length dc) D.length (idl D) := News.rw ((hD.mono l1).rw h3) (idl_one D)
    obtain ⟨w4, hcp4, h4, en4⟩ := h3.swap.copy_row 29 29 3 Try.underlying29 idSize 0 D.length D.length D.length D.length (.slice dA D.length dc) (idl D) 0 (by omega) (by rw [idl_len]) (by rw [hs]; omega) (hnD.lenOf _) (Nat.min_self _) (hnD.first 0) (idl_one D)
    rw [Nat.zero_mul, List.take_zero, List.nil_append, List.drop_of_length_le (by rw [hs]; omega), List.append_nil] at h4
    have hnB : News Try.prog w4 3 (.slice bA Bt.length bc) Bt.length (cml Bt) := News.rw ((hBt.mono l1).rw h4) (cml_one Bt)
    obtain ⟨w5, hcp5, h5, en5⟩ := (h4.pick 2 (by simp)).copy_row 30 30 3 Try.underlying30 cmSize 0 Bt.length Bt.length Bt.length Bt.length (.slice bA Bt.length bc) (cml Bt) 0 (by omega) (by rw [cml_len]) (by rw [hs']; omega) (hnB.lenOf _) (Nat.min_self _) (hnB.first 0) (cml_one Bt)
    rw [Nat.zero_mul, List.take_zero, List.nil_append, List.drop_of_length_le (by rw [hs']; omega), List.append_nil] at h5
    have o3 := h3
    have o4 := h4.swap
    have o5 := h5.pick 2 (by simp)
    have v3 := h3.cell y3
    have v3l := World.block_lt_of_cell? _ _ v3
    have u2 := h3.blk_cell 2
    have u3 := h3.blk_cell 3
    have ul := h3.blk_lt
    have v4 := h4.cell y4
    have v4l := World.block_lt_of_cell? _ _ v4
    have t4 := o4.blk_cell 4
    have t4l := o4.blk_lt
    have q0 := o5.blk_cell 0
    have q1 := o5.blk_cell 1
    have q2 := o5.blk_cell 2
    have q3 := o5.blk_cell 3
    have q4 := o5.blk_cell 4
    have ql := o5.blk_lt
    have p5 := h5.pick 3 (by simp)
    have z0 := p5.blk_cell 0
    have z1 := p5.blk_cell 1
    have z2 := p5.blk_cell 2
    have z3 := p5.blk_cell 3
    have z4 := p5.blk_cell 4
    have zf0 := p5.blk_free 0
    have zf1 := p5.blk_free 1
    have zf2 := p5.blk_free 2
    have zf3 := p5.blk_free 3
    have zf4 := p5.blk_free 4
    have zl := p5.blk_lt
    have p6 := ((((p5.blk_set 0 (.int .i64 r)).blk_set 1 (.int .i64 s)).blk_set 2 (.int .i64 q)).blk_set 3 (.slice (some ⟨gd, 0, none⟩) D.length D.length)).blk_set 4 (.slice (some ⟨gb, 0, none⟩) Bt.length Bt.length)
    change St H1 (Blk (w.heap.size + 1) #[.int .i64 r, .int .i64 s, .int .i64 q, .slice (some ⟨gd, 0, none⟩) D.length D.length, .slice (some ⟨gb, 0, none⟩) Bt.length Bt.length] 32 :: _) _ at p6
    have en6 := (((((en3.trans en4).trans en5).setCell ⟨w.heap.size + 1, 0, none⟩ (.int .i64 r)).setCell ⟨w.heap.size + 1, 1, none⟩ (.int .i64 s)).setCell ⟨w.heap.size + 1, 2, none⟩ (.int .i64 q)).setCell ⟨w.heap.size + 1, 3, none⟩ (.slice (some ⟨gd, 0, none⟩) D.length D.length) |>.setCell ⟨w.heap.size + 1, 4, none⟩ (.slice (some ⟨gb, 0, none⟩) Bt.length Bt.length)
    clear h3 h4 h5 o3 o4 o5 p5 hnD hnB hs hs' en3 en4 en5
    go_wp2_with fail
    refine bodyPost_ret (results_cell_row rfl _ _ (w.heap.size + 1) 32 _ (0, 0) _ rfl p6.blk_heap Try.underlying32 rfl (by kernel_rfl)) rfl ?_
    exact ⟨(.slice (some ⟨gd, 0, none⟩) D.length D.length, .slice (some ⟨gb, 0, none⟩) Bt.length Bt.length), rfl, ((p6.drop.pick 2 (by simp)).perm (.cons _ (.swap _ _ _))).drop.weaken l1, en6⟩
end Go.Proofs.Ytelmhcbdpimaaaa

/- Records: the reference's Same, Find. -/
set_option linter.unusedVariables false
set_option linter.unusedSimpArgs false
namespace Go.Proofs.Ytelmhcbdpimaaaa
open Go.RowKit Go.Cw Go.Fl
attribute [local go_sem ↓] eql_id neq_id
def recSame (x y : Rp) : Bool := decide (x.1 = y.1) && decide (x.2.1 = y.2.1) && decide (x.2.2.1 = y.2.2.1) && cmdsSame x.2.2.2 y.2.2.2
set_option maxRecDepth 100000 in
set_option maxHeartbeats 3200000 in
theorem refRecSame_any (x y : Rc) (w : World) (hx : RcR w x) (hy : RcR w y) : Calls Try.prog 14 #[recV x, recV y] w fun e w' => e = .returned (.bool (recSame (rp x) (rp y))) ∧ Below w.heap.size w w' := by
  obtain ⟨⟨r, s⟩, q, dv, bv, D, Bt⟩ := x
  obtain ⟨⟨r', s'⟩, q', dv', bv', D', Bt'⟩ := y
  have hD := hx.d.rd
  have hB := hx.b.rd
  have hD' := hy.d.rd
  have hB' := hy.b.rd
  have ok := hx.ok
  have ok' := hy.ok
  simp only at hD hB hD' hB' ok ok'
  clear hx hy
  obtain ⟨H1, l1, h1, ya⟩ := (St.start w).box #[.int .i64 r, .int .i64 s, .int .i64 q, dv, bv] 32
  have y0 := ya 0 _ rfl
  have y1 := ya 1 _ rfl
  have y2 := ya 2 _ rfl
  have y3 := ya 3 _ rfl
  have y4 := ya 4 _ rfl
  clear ya
  have hs1 : (w.alloc (.cells #[.int .i64 r, .int .i64 s, .int .i64 q, dv, bv] 32)).heap.size = w.heap.size + 1 := by simp
  obtain ⟨H2, l2, h2, za⟩ := h1.box #[.int .i64 r', .int .i64 s', .int .i64 q', dv', bv'] 32
  rw [hs1] at za
  have z0 := za 0 _ rfl
  have z1 := za 1 _ rfl
  have z2 := za 2 _ rfl
  have z3 := za 3 _ rfl
  have z4 := za 4 _ rfl
  clear za hs1
  have en2 := ((Env.refl w).alloc (.cells #[.int .i64 r, .int .i64 s, .int .i64 q, dv, bv] 32)).alloc (.cells #[.int .i64 r', .int .i64 s', .int .i64 q', dv', bv'] 32)
  have v0 := h2.cell (Hp.cell_le l2 y0)
  have v1 := h2.cell (Hp.cell_le l2 y1)
  have v2 := h2.cell (Hp.cell_le l2 y2)
  have v3 := h2.cell (Hp.cell_le l2 y3)
  have v4 := h2.cell (Hp.cell_le l2 y4)
  have u0 := h2.cell z0
  have u1 := h2.cell z1
  have u2 := h2.cell z2
  have u3 := h2.cell z3
  have u4 := h2.cell z4
  have vl := World.block_lt_of_cell? _ _ v0
  have ul := World.block_lt_of_cell? _ _ u0
  have l12 := Hp.le_trans l1 l2
  have rD := (hD.mono l12).rw h2
  have rD' := (hD'.mono l12).rw h2
  change Calls _ _ _ _ (fun e w' => e = .returned (.bool (decide (((r, s) : Id) = (r', s')) && decide (q = q') && decide (D = D') && cmdsSame Bt Bt')) ∧ _)
  have fin : ∀ w', Below ((w.alloc (.cells #[.int .i64 r, .int .i64 s, .int .i64 q, dv, bv] 32)).alloc (.cells #[.int .i64 r', .int .i64 s', .int .i64 q', dv', bv'] 32)).heap.size ((w.alloc (.cells #[.int .i64 r, .int .i64 s, .int .i64 q, dv, bv] 32)).alloc (.cells #[.int .i64 r', .int .i64 s', .int .i64 q', dv', bv'] 32)) w' → Below w.heap.size w w' := fun w' hb => ((h2.below hb).weaken l12).toBelow (en2.trans (bel_env hb))
  have fin0 := fin _ (Below.refl _ _)
  by_cases hi : ((r, s) : Id) = (r', s')
  · have hie := idEq_of hi
    simp only at hie
    by_cases hq : q = q'
    · rw [decide_eq_true hi, decide_eq_true hq, Bool.true_and, Bool.true_and]
      clear hi
      subst hq
      have hS := sameIds_any dv dv' D D' _ rD rD'
      cases hd : decide (D = D') with
      | false =>
        rw [Bool.false_and]
        rw [hd] at hS
        replace hS := Lib.hid hS
        clear hd rD rD' hD hD' hB hB'
        go_enter Try.func14, Try.ntmps14
        go_wp2_with fail
        refine hS.out.mono ?_
        rintro e w3 ⟨rfl, hb3⟩
        go_wp2_with fail
        go_ret
        exact ⟨rfl, fin _ hb3⟩
      | true =>
        rw [Bool.true_and]
        rw [hd] at hS
        replace hS := Lib.hid hS
        have hC := fun w3 (hb3 : Below _ _ w3) => refCmds_any bv bv' Bt Bt' ok ok' w3 (((hB.mono l12).rw h2).below hb3) (((hB'.mono l12).rw h2).below hb3)
        replace hC := Lib.hid hC
        clear hd rD rD' hD hD' hB hB'
        go_enter Try.func14, Try.ntmps14
        go_wp2_with fail
        refine hS.out.mono ?_
        rintro e w3 ⟨rfl, hb3⟩
        have h3 := h2.below hb3
        clear v0 v1 v2 v3 v4 u0 u1 u2 u3 u4 vl ul
        have v4 := h3.cell (Hp.cell_le l2 y4)
        have u4 := h3.cell z4
        have vl := World.block_lt_of_cell? _ _ v4
        have ul := World.block_lt_of_cell? _ _ u4
        go_wp2_with fail
        refine (hC.out w3 hb3).mono ?_
        rintro e w4 ⟨rfl, hb4⟩
        go_wp2_with fail
        go_ret
        exact ⟨rfl, fin _ (hb3.trans (hb4.mono hb3.size))⟩
    · rw [decide_eq_false hq, Bool.and_false, Bool.false_and, Bool.false_and]
      have hq2 : (q == q') = false := beq_eq_false_iff_ne.2 hq
      clear hi rD rD' hD hD' hB hB'
      go_enter Try.func14, Try.ntmps14
      go_wp2_with fail
      go_ret
      exact ⟨rfl, fin0⟩
  · have hie := idEq_not hi
    simp only at hie
    rw [decide_eq_false hi, Bool.false_and, Bool.false_and, Bool.false_and]
    clear hi rD rD' hD hD' hB hB'
    go_enter Try.func14, Try.ntmps14
    go_wp2_with fail
    go_ret
    exact ⟨rfl, fin0⟩
/-- Where an id stands first. -/
def findAt (a : Id) : List Id → Int → Int
  | [], _ => -1
  | x :: r, k => if x = a then k else findAt a r (k + 1)
abbrev rids (l : List Rc) : List Id := l.map (·.1)
theorem findAt_step (a : Id) (l : List Rc) (k : Nat) (h : k < l.length) : findAt a ((rids l).drop k) k = if l[k].1 = a then (k : Int) else findAt a ((rids l).drop (k + 1)) ((k : Int) + 1) := by
  rw [List.drop_eq_getElem_cons (by simpa using h), findAt]
  simp
set_option maxRecDepth 100000 in
set_option maxHeartbeats 1600000 in
theorem find_any (u : Value) (l : List Rc) (a : Id) (w : World) (hx : Rw w 5 u (recs l)) :
    Calls Try.prog 24 #[u, idV a] w fun e w' => e = .returned (.int .i64 (findAt a (rids l) 0)) ∧ Below w.heap.size w w' := by
  obtain ⟨A, n, c, rfl, hl, hn, hc⟩ := hx.form
  rw [recs_len] at hl
  obtain rfl : n = l.length := by omega
  clear hl
  have hd := Lib.hid (show findAt a (rids l) 0 = findAt a ((rids l).drop 0) ((0 : Nat) : Int) by simp)
  obtain ⟨G, hG⟩ : ∃ G, Hid (G = findAt a (rids l) 0) := ⟨_, Lib.hid rfl⟩
  rw [← hG.out]
  rw [hG.out.symm] at hd
  obtain ⟨r, s⟩ := a
  have hx1 := hx.alloc (.cells #[.int .i64 r, .int .i64 s] 28)
  have hb1 := boxBelow w (.cells #[.int .i64 r, .int .i64 s] 28)
  obtain ⟨H1, l1, h1, y⟩ := (St.start w).box #[.int .i64 r, .int .i64 s] 28
  have y0 := y 0 _ rfl
  have y1 := y 1 _ rfl
  clear y hG hx
  have en1 := (Env.refl w).alloc (.cells #[.int .i64 r, .int .i64 s] 28)
  have hR := hx1.rd
  go_enter Try.func24, Try.ntmps24
  go_wp2_with fail
  generalize w.alloc (.cells #[.int .i64 r, .int .i64 s] 28) = W at *
  go_loopw [5] (fun i wr => ∃ k n : Nat, k ≤ l.length ∧ i = .int .i64 (k : Int) ∧ Hid (G = findAt (r, s) ((rids l).drop k) k) ∧ wr = W.drewN n) (fun i _ => l.length - (intOf i).toNat)
  case atStart => exact ⟨0, 0, by omega, by go_num, hd, rfl⟩
  case round =>
    obtain ⟨k, n, hk, rfl, hr, rfl⟩ := hrel
    by_cases hlt : k < l.length
    · obtain ⟨b, off, hA, hcr⟩ := hx1.cells (by omega)
      cases hA
      obtain ⟨p0, p1, -, -, -⟩ := recs_get l k hlt
      replace p0 := hcr _ _ p0
      replace p1 := hcr _ _ p1
      rw [← Nat.add_assoc] at p1
      clear hcr
      have hst := findAt_step (r, s) l k hlt
      rw [← hr.out] at hst
      have v0 := h1.cell y0
      have v1 := h1.cell y1
      have vl := World.block_lt_of_cell? _ _ v0
      have pl := World.block_lt_of_cell? _ _ p0
      generalize l[k].1 = x at *
      by_cases hxa : x = (r, s)
      · have hne := idEq_of hxa
        rw [if_pos hxa] at hst
        subst hst
        replace hxa := Lib.hid hxa
        simp only at hne
        go_wp2_with fail
        go_quiet (fail)
        go_wp2_with fail
        go_ret
        exact ⟨rfl, hb1.trans (bel_drewN (bel_drewN (Below.refl _ _) _) _)⟩
      · have hne := idEq_not hxa
        rw [if_neg hxa] at hst
        replace hst := Lib.hid hst
        replace hxa := Lib.hid hxa
        simp only at hne
        go_wp2_with fail
        go_quiet (fail)
        go_wp2_with fail
        go_roundw
        case rel => exact ⟨k + 1, _, by omega, by go_num, Lib.hid (by rw [hst.out]; rfl), rfl⟩
        case measure => simp [intOf]; omega
    · obtain rfl : k = l.length := by omega
      have hg : G = -1 := by rw [hr.out, List.drop_of_length_le (by simp)]; rfl
      subst hg
      go_wp2_with fail
      go_ret
      exact ⟨rfl, hb1.trans (bel_drewN (Below.refl _ _) _)⟩
end Go.Proofs.Ytelmhcbdpimaaaa
