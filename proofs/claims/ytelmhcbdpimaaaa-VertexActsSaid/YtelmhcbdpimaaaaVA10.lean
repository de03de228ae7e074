/- Joined texts: Conf. -/
import Derived.Test.YtelmhcbdpimaaaaVA3
import Derived.Test.YtelmhcbdpimaaaaVA4
/- Conflicts of commands and batches. -/
set_option linter.unusedVariables false
set_option linter.unusedSimpArgs false
namespace Go.Proofs.Ytelmhcbdpimaaaa
open Go.RowKit Go.Cw Go.Fl
attribute [local go_sem ↓] eql_id neq_id
/-- A command writes. -/
def cmWr (c : Cm) : Bool := cmOk c && decide (c.1 ≠ 1)
/-- Two commands that may be conflict. -/
def cmCf (a b : Cm) : Bool := decide (a.2.1 = b.2.1) && (decide (a.1 ≠ 1) || decide (b.1 ≠ 1))
def cmConf (a b : Cm) : Bool := cmOk a && (cmOk b && cmCf a b)
/-- Two batches conflict. -/
def batConf (A B : List Cm) : Bool := A.any (fun x => B.any (fun y => cmConf x y))
set_option maxRecDepth 100000 in
set_option maxHeartbeats 1600000 in
theorem cmdWrites_any (c : Cm) (hc : CmW c) (w : World) : Calls Try.prog 104 #[cmV c] w fun e w' => e = .returned (.bool (cmWr c)) ∧ Below w.heap.size w w' := by
  have hC := fun w => check_any c hc w
  obtain ⟨R, hR⟩ : ∃ R, Hid (cmWr c = R) := ⟨_, Lib.hid rfl⟩
  rw [hR.out]
  have hR2 := hR.out
  unfold cmWr at hR2
  obtain ⟨k, s, n⟩ := c
  obtain ⟨H1, l1, h1, y⟩ := (St.start w).box #[.int .i64 k, .string s, .float .f64 n] 90
  have y0 := y 0 _ rfl
  have u0 := h1.cell y0
  have u1 := h1.cell (y 1 _ rfl)
  have u2 := h1.cell (y 2 _ rfl)
  have ul := World.block_lt_of_cell? _ _ u0
  have bel1 := boxBelow w (.cells #[.int .i64 k, .string s, .float .f64 n] 90)
  clear y hc
  by_cases ho : cmOk (k, s, n) = true
  · rw [ho] at hC hR2
    simp only [Bool.true_and] at hR2
    replace hC := Lib.hid hC
    clear ho hR
    by_cases hk : k = 1
    · obtain rfl : R = false := by rw [← hR2]; simp [hk]
      subst hk
      clear hR2
      go_enter Try.func104, Try.ntmps104
      go_wp2_with fail
      refine (hC.out _).mono ?_
      rintro e w2 ⟨rfl, hb2⟩
      have v0 := (h1.below hb2).cell y0
      have vl := World.block_lt_of_cell? _ _ v0
      clear u0 u1 u2 ul
      simp only [errB]
      go_wp2_with fail
      go_ret
      exact ⟨rfl, bel1.trans (hb2.mono bel1.size)⟩
    · obtain rfl : R = true := by rw [← hR2]; simp [hk]
      have hk1 : (k != 1) = true := by simpa using hk
      clear hR2 hk
      go_enter Try.func104, Try.ntmps104
      go_wp2_with fail
      refine (hC.out _).mono ?_
      rintro e w2 ⟨rfl, hb2⟩
      have v0 := (h1.below hb2).cell y0
      have vl := World.block_lt_of_cell? _ _ v0
      clear u0 u1 u2 ul
      simp only [errB]
      go_wp2_with fail
      go_ret
      exact ⟨rfl, bel1.trans (hb2.mono bel1.size)⟩
  · have ho' : cmOk (k, s, n) = false := by simpa using ho
    rw [ho'] at hC hR2
    simp only [Bool.false_and] at hR2
    subst hR2
    replace hC := Lib.hid hC
    clear ho ho' hR
    go_enter Try.func104, Try.ntmps104
    go_wp2_with fail
    refine (hC.out _).mono ?_
    rintro e w2 ⟨rfl, hb2⟩
    have v0 := (h1.below hb2).cell y0
    have vl := World.block_lt_of_cell? _ _ v0
    clear u0 u1 u2 ul
    simp only [errB]
    go_wp2_with fail
    go_ret
    exact ⟨rfl, bel1.trans (hb2.mono bel1.size)⟩
/-- Two boxes for commands. -/
theorem twoCm (a b : Cm) (w : World) : ∃ W, W = (w.alloc (.cells #[.int .i64 a.1, .string a.2.1, .float .f64 a.2.2] 90)).alloc (.cells #[.int .i64 b.1, .string b.2.1, .float .f64 b.2.2] 90) ∧ Below w.heap.size w W ∧
    ∃ H, St H [] W ∧ H.cell w.heap.size 0 = some (.int .i64 a.1) ∧ H.cell w.heap.size 1 = some (.string a.2.1) ∧ H.cell w.heap.size 2 = some (.float .f64 a.2.2) ∧ H.cell (w.heap.size + 1) 0 = some (.int .i64 b.1) ∧ H.cell (w.heap.size + 1) 1 = some (.string b.2.1) ∧ H.cell (w.heap.size + 1) 2 = some (.float .f64 b.2.2) := by
  obtain ⟨H1, l1, h1, y⟩ := (St.start w).box #[.int .i64 a.1, .string a.2.1, .float .f64 a.2.2] 90
  obtain ⟨H2, l2, h2, z⟩ := h1.box #[.int .i64 b.1, .string b.2.1, .float .f64 b.2.2] 90
  have e1 : (w.alloc (.cells #[.int .i64 a.1, .string a.2.1, .float .f64 a.2.2] 90)).heap.size = w.heap.size + 1 := by simp
  rw [e1] at z
  exact ⟨_, rfl, ((Below.refl _ _).alloc (Nat.le_refl _) _).alloc (by simp) _, H2, h2, Hp.cell_le l2 (y 0 _ rfl), Hp.cell_le l2 (y 1 _ rfl), Hp.cell_le l2 (y 2 _ rfl), z 0 _ rfl, z 1 _ rfl, z 2 _ rfl⟩
set_option maxRecDepth 100000 in
set_option maxHeartbeats 3200000 in
theorem cmdConf_any (a b : Cm) (ha : CmW a) (hb : CmW b) (w : World) : Calls Try.prog 120 #[cmV a, cmV b] w fun e w' => e = .returned (.bool (cmConf a b)) ∧ Below w.heap.size w w' := by
  have hCa := fun w => check_any a ha w
  have hCb := fun w => check_any b hb w
  have hWa := fun w => cmdWrites_any a ha w
  have hWb := fun w => cmdWrites_any b hb w
  obtain ⟨W, hW, bel, H, h1, y0, y1, y2, z0, z1, z2⟩ := twoCm a b w
  obtain ⟨R, hR⟩ : ∃ R, cmConf a b = R := ⟨_, rfl⟩
  rw [hR]
  unfold cmConf cmCf at hR
  obtain ⟨k, s, n⟩ := a
  obtain ⟨k', s', n'⟩ := b
  simp only at hR hW y0 y1 y2 z0 z1 z2
  subst hW
  clear ha hb
  have v0 := h1.cell y0
  have v1 := h1.cell y1
  have v2 := h1.cell y2
  have x0 := h1.cell z0
  have x1 := h1.cell z1
  have x2 := h1.cell z2
  have vl := World.block_lt_of_cell? _ _ v0
  have xl := World.block_lt_of_cell? _ _ x0
  by_cases ho : cmOk (k, s, n) = true
  · rw [ho, Bool.true_and] at hR
    unfold cmWr at hWa
    rw [ho] at hCa hWa
    replace hCa := Lib.hid hCa
    clear ho
    by_cases ho : cmOk (k', s', n') = true
    · rw [ho, Bool.true_and] at hR
      unfold cmWr at hWb
      rw [ho] at hCb hWb
      replace hCb := Lib.hid hCb
      clear ho
      simp only [Bool.true_and] at hWa hWb
      by_cases hs : s = s'
      · subst hs
        rw [decide_eq_true rfl, Bool.true_and] at hR
        by_cases hk : k = 1
        · rw [decide_eq_false (by simpa using hk)] at hR hWa
          rw [Bool.false_or] at hR
          rw [hR] at hWb
          replace hWa := Lib.hid hWa
          replace hWb := Lib.hid hWb
          clear hk hR
          go_enter Try.func120, Try.ntmps120
          go_wp2_with fail
          refine (hCa.out _).mono ?_
          rintro e w2 ⟨rfl, hb2⟩
          have h2 := h1.below hb2
          clear v0 v1 v2 x0 x1 x2 vl xl
          have v0 := h2.cell y0
          have v1 := h2.cell y1
          have v2 := h2.cell y2
          have x0 := h2.cell z0
          have x1 := h2.cell z1
          have x2 := h2.cell z2
          have vl := World.block_lt_of_cell? _ _ v0
          have xl := World.block_lt_of_cell? _ _ x0
          simp only [errB]
          go_wp2_with fail
          refine (hCb.out _).mono ?_
          rintro e w3 ⟨rfl, hb3⟩
          have h3 := h2.below hb3
          clear v0 v1 v2 x0 x1 x2 vl xl
          have v0 := h3.cell y0
          have v1 := h3.cell y1
          have v2 := h3.cell y2
          have x0 := h3.cell z0
          have x1 := h3.cell z1
          have x2 := h3.cell z2
          have vl := World.block_lt_of_cell? _ _ v0
          have xl := World.block_lt_of_cell? _ _ x0
          simp only [errB]
          go_wp2_with fail
          refine (hWa.out _).mono ?_
          rintro e w4 ⟨rfl, hb4⟩
          have h4 := h3.below hb4
          clear v0 v1 v2 x0 x1 x2 vl xl
          have v0 := h4.cell y0
          have v1 := h4.cell y1
          have v2 := h4.cell y2
          have x0 := h4.cell z0
          have x1 := h4.cell z1
          have x2 := h4.cell z2
          have vl := World.block_lt_of_cell? _ _ v0
          have xl := World.block_lt_of_cell? _ _ x0
          go_wp2_with fail
          refine (hWb.out _).mono ?_
          rintro e w5 ⟨rfl, hb5⟩
          go_wp2_with fail
          go_ret
          exact ⟨rfl, (((bel.trans (hb2.mono bel.size)).trans (hb3.mono (Nat.le_trans bel.size hb2.size))).trans (hb4.mono (Nat.le_trans bel.size (Nat.le_trans hb2.size hb3.size)))).trans (hb5.mono (Nat.le_trans bel.size (Nat.le_trans hb2.size (Nat.le_trans hb3.size hb4.size))))⟩
        · rw [decide_eq_true (by simpa using hk)] at hR hWa
          rw [Bool.true_or] at hR
          subst hR
          replace hWa := Lib.hid hWa
          clear hk hWb
          go_enter Try.func120, Try.ntmps120
          go_wp2_with fail
          refine (hCa.out _).mono ?_
          rintro e w2 ⟨rfl, hb2⟩
          have h2 := h1.below hb2
          clear v0 v1 v2 x0 x1 x2 vl xl
          have v0 := h2.cell y0
          have v1 := h2.cell y1
          have v2 := h2.cell y2
          have x0 := h2.cell z0
          have x1 := h2.cell z1
          have x2 := h2.cell z2
          have vl := World.block_lt_of_cell? _ _ v0
          have xl := World.block_lt_of_cell? _ _ x0
          simp only [errB]
          go_wp2_with fail
          refine (hCb.out _).mono ?_
          rintro e w3 ⟨rfl, hb3⟩
          have h3 := h2.below hb3
          clear v0 v1 v2 x0 x1 x2 vl xl
          have v0 := h3.cell y0
          have v1 := h3.cell y1
          have v2 := h3.cell y2
          have x0 := h3.cell z0
          have x1 := h3.cell z1
          have x2 := h3.cell z2
          have vl := World.block_lt_of_cell? _ _ v0
          have xl := World.block_lt_of_cell? _ _ x0
          simp only [errB]
          go_wp2_with fail
          refine (hWa.out _).mono ?_
          rintro e w4 ⟨rfl, hb4⟩
          go_wp2_with fail
          go_ret
          exact ⟨rfl, ((bel.trans (hb2.mono bel.size)).trans (hb3.mono (Nat.le_trans bel.size hb2.size))).trans (hb4.mono (Nat.le_trans bel.size (Nat.le_trans hb2.size hb3.size)))⟩
      · rw [decide_eq_false hs, Bool.false_and] at hR
        subst hR
        have hs2 : ¬ s.toList = s'.toList := fun h => hs (ba_ext h)
        clear hs hWa hWb
        go_enter Try.func120, Try.ntmps120
        go_wp2_with fail
        refine (hCa.out _).mono ?_
        rintro e w2 ⟨rfl, hb2⟩
        have h2 := h1.below hb2
        clear v0 v1 v2 x0 x1 x2 vl xl
        have v0 := h2.cell y0
        have v1 := h2.cell y1
        have v2 := h2.cell y2
        have x0 := h2.cell z0
        have x1 := h2.cell z1
        have x2 := h2.cell z2
        have vl := World.block_lt_of_cell? _ _ v0
        have xl := World.block_lt_of_cell? _ _ x0
        simp only [errB]
        go_wp2_with fail
        refine (hCb.out _).mono ?_
        rintro e w3 ⟨rfl, hb3⟩
        have h3 := h2.below hb3
        clear v0 v1 v2 x0 x1 x2 vl xl
        have v0 := h3.cell y0
        have v1 := h3.cell y1
        have v2 := h3.cell y2
        have x0 := h3.cell z0
        have x1 := h3.cell z1
        have x2 := h3.cell z2
        have vl := World.block_lt_of_cell? _ _ v0
        have xl := World.block_lt_of_cell? _ _ x0
        simp only [errB]
        go_wp2_with fail
        go_ret
        exact ⟨rfl, (bel.trans (hb2.mono bel.size)).trans (hb3.mono (Nat.le_trans bel.size hb2.size))⟩
    · have ho' : cmOk (k', s', n') = false := by simpa using ho
      rw [ho', Bool.false_and] at hR
      subst hR
      rw [ho'] at hCb
      replace hCb := Lib.hid hCb
      clear ho ho' hWa hWb
      go_enter Try.func120, Try.ntmps120
      go_wp2_with fail
      refine (hCa.out _).mono ?_
      rintro e w2 ⟨rfl, hb2⟩
      have h2 := h1.below hb2
      clear v0 v1 v2 x0 x1 x2 vl xl
      have v0 := h2.cell y0
      have v1 := h2.cell y1
      have v2 := h2.cell y2
      have x0 := h2.cell z0
      have x1 := h2.cell z1
      have x2 := h2.cell z2
      have vl := World.block_lt_of_cell? _ _ v0
      have xl := World.block_lt_of_cell? _ _ x0
      simp only [errB]
      go_wp2_with fail
      refine (hCb.out _).mono ?_
      rintro e w3 ⟨rfl, hb3⟩
      simp only [errB]
      go_wp2_with fail
      go_ret
      exact ⟨rfl, (bel.trans (hb2.mono bel.size)).trans (hb3.mono (Nat.le_trans bel.size hb2.size))⟩
  · have ho' : cmOk (k, s, n) = false := by simpa using ho
    rw [ho', Bool.false_and] at hR
    subst hR
    rw [ho'] at hCa
    replace hCa := Lib.hid hCa
    clear ho ho' hWa hWb hCb
    go_enter Try.func120, Try.ntmps120
    go_wp2_with fail
    refine (hCa.out _).mono ?_
    rintro e w2 ⟨rfl, hb2⟩
    simp only [errB]
    go_wp2_with fail
    go_ret
    exact ⟨rfl, bel.trans (hb2.mono bel.size)⟩
set_option maxRecDepth 100000 in
set_option maxHeartbeats 1600000 in
theorem refConf_any (a b : Cm) (w : World) : Calls Try.prog 125 #[cmV a, cmV b] w fun e w' => e = .returned (.bool (cmCf a b)) ∧ Below w.heap.size w w' := by
  obtain ⟨W, hW, bel, H, h1, y0, y1, y2, z0, z1, z2⟩ := twoCm a b w
  obtain ⟨R, hR⟩ : ∃ R, cmCf a b = R := ⟨_, rfl⟩
  rw [hR]
  unfold cmCf at hR
  obtain ⟨k, s, n⟩ := a
  obtain ⟨k', s', n'⟩ := b
  simp only at hR hW y0 y1 y2 z0 z1 z2
  subst hW
  have v0 := h1.cell y0
  have v1 := h1.cell y1
  have v2 := h1.cell y2
  have x0 := h1.cell z0
  have x1 := h1.cell z1
  have x2 := h1.cell z2
  have vl := World.block_lt_of_cell? _ _ v0
  have xl := World.block_lt_of_cell? _ _ x0
  by_cases hs : s = s'
  · subst hs
    rw [decide_eq_true rfl, Bool.true_and] at hR
    by_cases hk : k = 1
    · rw [decide_eq_false (by simpa using hk), Bool.false_or] at hR
      subst hk
      by_cases hk2 : k' = 1
      · rw [decide_eq_false (by simpa using hk2)] at hR
        subst hk2 hR
        go_enter Try.func125, Try.ntmps125
        go_wp2_with fail
        go_ret
        exact ⟨rfl, bel⟩
      · rw [decide_eq_true (by simpa using hk2)] at hR
        subst hR
        have hk3 : (k' != 1) = true := by simpa using hk2
        clear hk2
        go_enter Try.func125, Try.ntmps125
        go_wp2_with fail
        go_ret
        exact ⟨rfl, bel⟩
    · rw [decide_eq_true (by simpa using hk), Bool.true_or] at hR
      subst hR
      have hk3 : (k != 1) = true := by simpa using hk
      clear hk
      go_enter Try.func125, Try.ntmps125
      go_wp2_with fail
      go_ret
      exact ⟨rfl, bel⟩
  · rw [decide_eq_false hs, Bool.false_and] at hR
    subst hR
    have hs2 : ¬ s.toList = s'.toList := fun h => hs (ba_ext h)
    clear hs
    go_enter Try.func125, Try.ntmps125
    go_wp2_with fail
    go_ret
    exact ⟨rfl, bel⟩
end Go.Proofs.Ytelmhcbdpimaaaa
