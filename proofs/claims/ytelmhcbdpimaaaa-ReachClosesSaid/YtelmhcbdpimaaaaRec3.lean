/- Records: what is wrong with one; the reference's answer. -/
import Derived.Test.YtelmhcbdpimaaaaRec2
set_option linter.unusedVariables false
set_option linter.unusedSimpArgs false
namespace Go.Proofs.Ytelmhcbdpimaaaa
open Go.RowKit Go.Cw Go.Fl
attribute [local go_sem ↓] eql_id neq_id
set_option maxRecDepth 100000 in
set_option maxHeartbeats 800000 in
theorem does_any (x : Rc) (w : World) (h : RcR w x) : Calls Try.prog 89 #[recV x] w fun e w' => e = .returned (.int .i64 (batchErr x.2.2.2.2.2)) ∧ Below w.heap.size w w' := by
  obtain ⟨⟨r, s⟩, q, dv, bv, D, Bt⟩ := x
  obtain ⟨dA, dn, dc, hd, _⟩ := h.d.form
  obtain ⟨bA, bn, bc, hb, _⟩ := h.b.form
  have hB := h.b
  have hok := h.ok
  simp only at hd hb hB hok
  subst hd hb
  clear h
  have bel := boxBelow w (.cells #[.int .i64 r, .int .i64 s, .int .i64 q, .slice dA dn dc, .slice bA bn bc] 128)
  have hC := batchCheck_any bA bn bc Bt hok _ (hB.below bel)
  go_enter Try.func89, Try.ntmps89
  go_wp2_with fail
  refine hC.mono ?_
  rintro e w2 ⟨rfl, hb2⟩
  go_wp2_with fail
  go_ret
  exact ⟨rfl, bel.trans (hb2.mono (by simp))⟩
/-- What is wrong with a record, as far as the k-th look and those behind it tell. -/
def tailErr (x : Rp) : Nat → Int
  | 0 => recErr x
  | 1 => if depErr x ≠ 0 then depErr x else batchErr x.2.2.2
  | 2 => batchErr x.2.2.2
  | _ => 0
set_option maxRecDepth 100000 in
set_option maxHeartbeats 3200000 in
theorem recCheck_any (x : Rc) (w : World) (h : RcR w x) : Calls Try.prog 55 #[recV x] w fun e w' => e = .returned (.int .i64 (recErr (rp x))) ∧ Below w.heap.size w w' := by
  have hO := own_any x
  have hP := deps_any x
  have hQ := does_any x
  obtain ⟨⟨r, s⟩, q, dv, bv, D, Bt⟩ := x
  obtain ⟨dA, dn, dc, hd, _⟩ := h.d.form
  obtain ⟨bA, bn, bc, hb, _⟩ := h.b.form
  simp only at hd hb
  subst hd hb
  replace hO := Lib.hid hO
  replace hP := Lib.hid hP
  replace hQ := Lib.hid hQ
  obtain ⟨H1, l1, h1, y⟩ := (St.start w).box #[.int .i64 r, .int .i64 s, .int .i64 q, .slice dA dn dc, .slice bA bn bc] 32
  have en1 := (Env.refl w).alloc (.cells #[.int .i64 r, .int .i64 s, .int .i64 q, .slice dA dn dc, .slice bA bn bc] 32)
  have y0 := y 0 _ rfl
  have y1 := y 1 _ rfl
  have y2 := y 2 _ rfl
  have y3 := y 3 _ rfl
  have y4 := y 4 _ rfl
  clear y
  have hR : recErr ((r, s), q, D, Bt) = if ownErr ((r, s), q, D, Bt) ≠ 0 then ownErr ((r, s), q, D, Bt) else if depErr ((r, s), q, D, Bt) ≠ 0 then depErr ((r, s), q, D, Bt) else batchErr Bt := rfl
  have hr := h.d.rd
  have hb' := h.b.rd
  change Calls _ _ _ _ (fun e w' => e = .returned (.int .i64 (recErr ((r, s), q, D, Bt))) ∧ _)
  generalize hG : recErr ((r, s), q, D, Bt) = G at *
  have hG' : Hid (tailErr ((r, s), q, D, Bt) 0 = G) := Lib.hid hG
  clear hG hR
  go_enter Try.func55, Try.ntmps55
  obtain ⟨H2, l2, h2, z⟩ := h1.box #[.func (.func 87) #[] #[], .func (.func 88) #[] #[], .func (.func 89) #[] #[]] 125
  have hs1 : (w.alloc (.cells #[.int .i64 r, .int .i64 s, .int .i64 q, .slice dA dn dc, .slice bA bn bc] 32)).heap.size = w.heap.size + 1 := by simp
  have g0 := z 0 _ rfl
  have g1 := z 1 _ rfl
  have g2 := z 2 _ rfl
  rw [hs1] at g0 g1 g2
  have en2 := en1.alloc (.cells #[.func (.func 87) #[] #[], .func (.func 88) #[] #[], .func (.func 89) #[] #[]] 125)
  have hRd : ∀ wr, St H2 [] wr → RcR wr ((r, s), q, .slice dA dn dc, .slice bA bn bc, D, Bt) := fun wr hst => ⟨((hr.mono l1).mono l2).rw hst, ((hb'.mono l1).mono l2).rw hst, h.ok⟩
  clear z hs1 h1 en1
  go_wp2_with fail
  go_loopw [8] (fun s8 wr => ∃ k : Nat, k ≤ 3 ∧ s8 = .int .i64 (k : Int) ∧ St H2 [] wr ∧ Env w wr ∧ Hid (tailErr ((r, s), q, D, Bt) k = G)) (fun s8 _ => 3 - (intOf s8).toNat)
  case atStart => exact ⟨0, by omega, rfl, h2, en2, hG'⟩
  case round =>
    clear hG' h2 en2
    obtain ⟨k, hk, rfl, hst, hen, hg⟩ := hrel
    by_cases hlt : k < 3
    · have hk3 : k = 0 ∨ k = 1 ∨ k = 2 := by omega
      clear hk hlt
      rcases hk3 with rfl | rfl | rfl
      · have hck := hRd wr hst
        have c := hO.out wr hck
        have f0 := hst.cell g0
        have fl := World.block_lt_of_cell? _ _ f0
        have v0 := hst.cell (Hp.cell_le l2 y0)
        have v1 := hst.cell (Hp.cell_le l2 y1)
        have v2 := hst.cell (Hp.cell_le l2 y2)
        have v3 := hst.cell (Hp.cell_le l2 y3)
        have v4 := hst.cell (Hp.cell_le l2 y4)
        have vl := World.block_lt_of_cell? _ _ v0
        have hT : tailErr ((r, s), q, D, Bt) 0 = if ownErr ((r, s), q, D, Bt) ≠ 0 then ownErr ((r, s), q, D, Bt) else tailErr ((r, s), q, D, Bt) (0 + 1) := rfl
        rw [hT] at hg
        clear hT hck
        by_cases he : ownErr ((r, s), q, D, Bt) = 0
        · replace hg := hg.out
          rw [if_neg (by simpa using he)] at hg
          replace hg := Lib.hid hg
          change Calls _ _ _ _ (fun e w' => e = .returned (.int .i64 (ownErr ((r, s), q, D, Bt))) ∧ _) at c
          rw [he] at c
          clear he
          go_wp2_with fail
          refine c.mono ?_
          rintro e w3 ⟨rfl, hb3⟩
          go_wp2_with fail
          go_roundw
          case rel => exact ⟨0 + 1, by omega, by go_num, hst.below hb3, hen.trans (bel_env hb3), hg⟩
          case measure => simp [intOf]
        · replace hg := hg.out
          rw [if_pos (by simpa using he)] at hg
          have hne : (ownErr ((r, s), q, D, Bt) != 0) = true := by simpa using he
          change Calls _ _ _ _ (fun e w' => e = .returned (.int .i64 (ownErr ((r, s), q, D, Bt))) ∧ _) at c
          clear he
          generalize ownErr ((r, s), q, D, Bt) = E at *
          subst hg
          go_wp2_with fail
          refine c.mono ?_
          rintro e w3 ⟨rfl, hb3⟩
          go_wp2_with fail
          go_ret
          exact ⟨rfl, (((hst.below hb3).weaken l2).weaken l1).toBelow (hen.trans (bel_env hb3))⟩
      · have hck := hRd wr hst
        have c := hP.out wr hck
        have f0 := hst.cell g1
        have fl := World.block_lt_of_cell? _ _ f0
        have v0 := hst.cell (Hp.cell_le l2 y0)
        have v1 := hst.cell (Hp.cell_le l2 y1)
        have v2 := hst.cell (Hp.cell_le l2 y2)
        have v3 := hst.cell (Hp.cell_le l2 y3)
        have v4 := hst.cell (Hp.cell_le l2 y4)
        have vl := World.block_lt_of_cell? _ _ v0
        have hT : tailErr ((r, s), q, D, Bt) 1 = if depErr ((r, s), q, D, Bt) ≠ 0 then depErr ((r, s), q, D, Bt) else tailErr ((r, s), q, D, Bt) (1 + 1) := rfl
        rw [hT] at hg
        clear hT hck
        by_cases he : depErr ((r, s), q, D, Bt) = 0
        · replace hg := hg.out
          rw [if_neg (by simpa using he)] at hg
          replace hg := Lib.hid hg
          change Calls _ _ _ _ (fun e w' => e = .returned (.int .i64 (depErr ((r, s), q, D, Bt))) ∧ _) at c
          rw [he] at c
          clear he
          go_wp2_with fail
          refine c.mono ?_
          rintro e w3 ⟨rfl, hb3⟩
          go_wp2_with fail
          go_roundw
          case rel => exact ⟨1 + 1, by omega, by go_num, hst.below hb3, hen.trans (bel_env hb3), hg⟩
          case measure => simp [intOf]
        · replace hg := hg.out
          rw [if_pos (by simpa using he)] at hg
          have hne : (depErr ((r, s), q, D, Bt) != 0) = true := by simpa using he
          change Calls _ _ _ _ (fun e w' => e = .returned (.int .i64 (depErr ((r, s), q, D, Bt))) ∧ _) at c
          clear he
          generalize depErr ((r, s), q, D, Bt) = E at *
          subst hg
          go_wp2_with fail
          refine c.mono ?_
          rintro e w3 ⟨rfl, hb3⟩
          go_wp2_with fail
          go_ret
          exact ⟨rfl, (((hst.below hb3).weaken l2).weaken l1).toBelow (hen.trans (bel_env hb3))⟩
      · have hck := hRd wr hst
        have c := hQ.out wr hck
        have f0 := hst.cell g2
        have fl := World.block_lt_of_cell? _ _ f0
        have v0 := hst.cell (Hp.cell_le l2 y0)
        have v1 := hst.cell (Hp.cell_le l2 y1)
        have v2 := hst.cell (Hp.cell_le l2 y2)
        have v3 := hst.cell (Hp.cell_le l2 y3)
        have v4 := hst.cell (Hp.cell_le l2 y4)
        have vl := World.block_lt_of_cell? _ _ v0
        have hT : tailErr ((r, s), q, D, Bt) 2 = if batchErr Bt ≠ 0 then batchErr Bt else tailErr ((r, s), q, D, Bt) (2 + 1) := by show batchErr Bt = _; by_cases h : batchErr Bt = 0 <;> simp [h, tailErr]
        rw [hT] at hg
        clear hT hck
        by_cases he : batchErr Bt = 0
        · replace hg := hg.out
          rw [if_neg (by simpa using he)] at hg
          replace hg := Lib.hid hg
          change Calls _ _ _ _ (fun e w' => e = .returned (.int .i64 (batchErr Bt)) ∧ _) at c
          rw [he] at c
          clear he
          go_wp2_with fail
          refine c.mono ?_
          rintro e w3 ⟨rfl, hb3⟩
          go_wp2_with fail
          go_roundw
          case rel => exact ⟨2 + 1, by omega, by go_num, hst.below hb3, hen.trans (bel_env hb3), hg⟩
          case measure => simp [intOf]
        · replace hg := hg.out
          rw [if_pos (by simpa using he)] at hg
          have hne : (batchErr Bt != 0) = true := by simpa using he
          change Calls _ _ _ _ (fun e w' => e = .returned (.int .i64 (batchErr Bt)) ∧ _) at c
          clear he
          generalize batchErr Bt = E at *
          subst hg
          go_wp2_with fail
          refine c.mono ?_
          rintro e w3 ⟨rfl, hb3⟩
          go_wp2_with fail
          go_ret
          exact ⟨rfl, (((hst.below hb3).weaken l2).weaken l1).toBelow (hen.trans (bel_env hb3))⟩
    · obtain rfl : k = 3 := by omega
      have hG2 : G = 0 := hg.out.symm
      subst hG2
      clear hg
      go_wp2_with fail
      go_ret
      exact ⟨rfl, ((hst.weaken l2).weaken l1).toBelow hen⟩
end Go.Proofs.Ytelmhcbdpimaaaa
