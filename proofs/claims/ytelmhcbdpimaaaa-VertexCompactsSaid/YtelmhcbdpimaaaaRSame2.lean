/- record.Same. -/
import Derived.Test.YtelmhcbdpimaaaaRSame
import Derived.Test.YtelmhcbdpimaaaaPrem
set_option linter.unusedVariables false
set_option linter.unusedSimpArgs false
namespace Go.Proofs.Ytelmhcbdpimaaaa
open Go.RowKit Go.Cw Go.Fl
attribute [local go_sem ↓] eql_id neq_id
set_option maxRecDepth 100000 in
set_option maxHeartbeats 3200000 in
theorem recordSame_any (x y : Rc) (w : World) (hx : RcR w x) (hy : RcR w y) : Calls Try.prog 82 #[recV x, recV y] w fun e w' => e = .returned (.bool (recSame (rp x) (rp y))) ∧ Below w.heap.size w w' := by
  obtain ⟨W, hW, bel, H, hle, h1, a, b⟩ := twoRc x y w (St.start w)
  have hA := fun w' (h' : St H [] w') => equalIds_any x.2.2.1 y.2.2.1 x.2.2.2.2.1 y.2.2.2.2.1 w' ((hx.d.rd.mono hle).rw h') ((hy.d.rd.mono hle).rw h')
  have hB := fun w' (h' : St H [] w') => batSame_any x.2.2.2.1 y.2.2.2.1 x.2.2.2.2.2 y.2.2.2.2.2 w' ((hx.b.rd.mono hle).rw h') ((hy.b.rd.mono hle).rw h')
  obtain ⟨R, hR⟩ : ∃ R, recSame (rp x) (rp y) = R := ⟨_, rfl⟩
  rw [hR]
  unfold recSame at hR
  obtain ⟨d1, d2, d3, hdv, _⟩ := hx.d.form
  obtain ⟨b1, b2, b3, hbv, _⟩ := hx.b.form
  obtain ⟨e1, e2, e3, hev, _⟩ := hy.d.form
  obtain ⟨f1, f2, f3, hfv, _⟩ := hy.b.form
  obtain ⟨⟨r, s⟩, q, dv, bv, D, Bt⟩ := x
  obtain ⟨⟨r', s'⟩, q', dv', bv', D', Bt'⟩ := y
  try simp only at hdv hbv hev hfv hA hB hR hW
  subst hdv hbv hev hfv hW
  clear hx hy hle
  have u0 := h1.cell a.1
  have u1 := h1.cell a.2.1
  have u2 := h1.cell a.2.2.1
  have u3 := h1.cell a.2.2.2.1
  have u4 := h1.cell a.2.2.2.2
  have ul := World.block_lt_of_cell? _ _ u0
  try simp only at u0 u1 u2 u3 u4
  have v0 := h1.cell b.1
  have v1 := h1.cell b.2.1
  have v2 := h1.cell b.2.2.1
  have v3 := h1.cell b.2.2.2.1
  have v4 := h1.cell b.2.2.2.2
  have vl := World.block_lt_of_cell? _ _ v0
  try simp only at v0 v1 v2 v3 v4
  by_cases hi : ((r, s) : Id) = (r', s')
  · have hib := idEq_of hi
    try simp only at hib
    rw [decide_eq_true hi, Bool.true_and] at hR
    by_cases hq : q = q'
    · have hqb : (q == q') = true := by simpa using hq
      rw [decide_eq_true hq, Bool.true_and] at hR
      by_cases hd : D = D'
      · rw [decide_eq_true hd, Bool.true_and] at hR
        simp only [decide_eq_true hd] at hA
        rw [hR] at hB
        replace hA := Lib.hid hA
        replace hB := Lib.hid hB
        clear hi hq hd hR
        go_enter Try.func82, Try.ntmps82
        go_wp2_with fail
        refine (hA.out _ h1).mono ?_
        rintro e w2 ⟨rfl, hb2⟩
        have h2 := h1.below hb2
        clear u0 u1 u2 u3 u4 ul
        clear v0 v1 v2 v3 v4 vl
        have u0 := h2.cell a.1
        have u1 := h2.cell a.2.1
        have u2 := h2.cell a.2.2.1
        have u3 := h2.cell a.2.2.2.1
        have u4 := h2.cell a.2.2.2.2
        have ul := World.block_lt_of_cell? _ _ u0
        try simp only at u0 u1 u2 u3 u4
        have v0 := h2.cell b.1
        have v1 := h2.cell b.2.1
        have v2 := h2.cell b.2.2.1
        have v3 := h2.cell b.2.2.2.1
        have v4 := h2.cell b.2.2.2.2
        have vl := World.block_lt_of_cell? _ _ v0
        try simp only at v0 v1 v2 v3 v4
        go_wp2_with fail
        refine (hB.out _ h2).mono ?_
        rintro e w3 ⟨rfl, hb3⟩
        go_wp2_with fail
        go_ret
        exact ⟨rfl, (bel.trans (hb2.mono bel.size)).trans (hb3.mono (Nat.le_trans bel.size hb2.size))⟩
      · rw [decide_eq_false hd, Bool.false_and] at hR
        subst hR
        simp only [decide_eq_false hd] at hA
        replace hA := Lib.hid hA
        clear hi hq hd hB
        go_enter Try.func82, Try.ntmps82
        go_wp2_with fail
        refine (hA.out _ h1).mono ?_
        rintro e w2 ⟨rfl, hb2⟩
        go_wp2_with fail
        go_ret
        exact ⟨rfl, bel.trans (hb2.mono bel.size)⟩
    · have hqb : (q == q') = false := by simpa using hq
      rw [decide_eq_false hq, Bool.false_and, Bool.false_and] at hR
      subst hR
      clear hi hq hA hB
      go_enter Try.func82, Try.ntmps82
      go_wp2_with fail
      go_ret
      exact ⟨rfl, bel⟩
  · have hib := idEq_not hi
    try simp only at hib
    rw [decide_eq_false hi, Bool.false_and, Bool.false_and, Bool.false_and] at hR
    subst hR
    clear hi hA hB
    go_enter Try.func82, Try.ntmps82
    go_wp2_with fail
    go_ret
    exact ⟨rfl, bel⟩
end Go.Proofs.Ytelmhcbdpimaaaa
