/- Joined texts: Prem, RSame2, Vert3, Vert4. -/
import Derived.Test.YtelmhcbdpimaaaaVA7
import Derived.Test.YtelmhcbdpimaaaaVA9
import Derived.Test.YtelmhcbdpimaaaaVA11
/- The premise: two records. -/
set_option linter.unusedVariables false
set_option linter.unusedSimpArgs false
namespace Go.Proofs.Ytelmhcbdpimaaaa
open Go.RowKit Go.Cw Go.Fl
attribute [local go_sem ↓] eql_id neq_id
def linkR (x y : Rp) : Bool := decide (y.1 ∈ x.2.2.1) || decide (x.1 ∈ y.2.2.1)
def lackR (x y : Rp) : Bool := batConf x.2.2.2 y.2.2.2 && !linkR x y
/-- A record's cells at p, for good. -/
def RcAt (H : Hp) (p : Nat) (x : Rc) : Prop := H.cell p 0 = some (.int .i64 x.1.1) ∧ H.cell p 1 = some (.int .i64 x.1.2) ∧ H.cell p 2 = some (.int .i64 x.2.1) ∧ H.cell p 3 = some x.2.2.1 ∧ H.cell p 4 = some x.2.2.2.1
abbrev rcA (x : Rc) : Array Value := #[.int .i64 x.1.1, .int .i64 x.1.2, .int .i64 x.2.1, x.2.2.1, x.2.2.2.1]
theorem RcAt.mono {H H' : Hp} {p : Nat} {x : Rc} (h : RcAt H p x) (hl : Hp.le H H') : RcAt H' p x := ⟨Hp.cell_le hl h.1, Hp.cell_le hl h.2.1, Hp.cell_le hl h.2.2.1, Hp.cell_le hl h.2.2.2.1, Hp.cell_le hl h.2.2.2.2⟩
theorem St.rcBox {H : Hp} {l : List HA} {w : World} (h : St H l w) (x : Rc) : ∃ H', Hp.le H H' ∧ St H' l (w.alloc (.cells (rcA x) 32)) ∧ RcAt H' w.heap.size x := by
  obtain ⟨H1, l1, h1, y⟩ := h.box (rcA x) 32
  exact ⟨H1, l1, h1, y 0 _ rfl, y 1 _ rfl, y 2 _ rfl, y 3 _ rfl, y 4 _ rfl⟩
/-- Two boxes for records. -/
theorem twoRc {H : Hp} {l : List HA} (x y : Rc) (w : World) (h : St H l w) : ∃ W, W = (w.alloc (.cells (rcA x) 32)).alloc (.cells (rcA y) 32) ∧ Below w.heap.size w W ∧
    ∃ H', Hp.le H H' ∧ St H' l W ∧ RcAt H' w.heap.size x ∧ RcAt H' (w.heap.size + 1) y := by
  obtain ⟨H1, l1, h1, a⟩ := St.rcBox h x
  obtain ⟨H2, l2, h2, b⟩ := St.rcBox h1 y
  have e1 : (w.alloc (.cells (rcA x) 32)).heap.size = w.heap.size + 1 := by simp
  rw [e1] at b
  exact ⟨_, rfl, ((Below.refl _ _).alloc (Nat.le_refl _) _).alloc (by simp) _, H2, Hp.le_trans l1 l2, h2, a.mono l2, b⟩
set_option maxRecDepth 100000 in
set_option maxHeartbeats 3200000 in
theorem linked_any (x y : Rc) (w : World) (hx : RcR w x) (hy : RcR w y) : Calls Try.prog 72 #[recV x, recV y] w fun e w' => e = .returned (.bool (linkR (rp x) (rp y))) ∧ Below w.heap.size w w' := by
  obtain ⟨W, hW, bel, H, hle, h1, a, b⟩ := twoRc x y w (St.start w)
  have hA := fun w' (h' : St H [] w') => identHas_any x.2.2.1 x.2.2.2.2.1 y.1 w' ((hx.d.rd.mono hle).rw h')
  have hB := fun w' (h' : St H [] w') => identHas_any y.2.2.1 y.2.2.2.2.1 x.1 w' ((hy.d.rd.mono hle).rw h')
  obtain ⟨R, hR⟩ : ∃ R, linkR (rp x) (rp y) = R := ⟨_, rfl⟩
  rw [hR]
  unfold linkR at hR
  obtain ⟨d1, d2, d3, hdv, _⟩ := hx.d.form
  obtain ⟨b1, b2, b3, hbv, _⟩ := hx.b.form
  obtain ⟨e1, e2, e3, hev, _⟩ := hy.d.form
  obtain ⟨f1, f2, f3, hfv, _⟩ := hy.b.form
  obtain ⟨⟨r, s⟩, q, dv, bv, D, Bt⟩ := x
  obtain ⟨⟨r', s'⟩, q', dv', bv', D', Bt'⟩ := y
  simp only at hdv hbv hev hfv hA hB hR hW
  subst hdv hbv hev hfv hW
  clear hx hy hle
  have u0 := h1.cell a.1
  have u1 := h1.cell a.2.1
  have u2 := h1.cell a.2.2.1
  have u3 := h1.cell a.2.2.2.1
  have u4 := h1.cell a.2.2.2.2
  have ul := World.block_lt_of_cell? _ _ u0
  simp only at u0 u1 u2 u3 u4
  have v0 := h1.cell b.1
  have v1 := h1.cell b.2.1
  have v2 := h1.cell b.2.2.1
  have v3 := h1.cell b.2.2.2.1
  have v4 := h1.cell b.2.2.2.2
  have vl := World.block_lt_of_cell? _ _ v0
  simp only at v0 v1 v2 v3 v4
  by_cases hm : ((r', s') : Id) ∈ D
  · rw [decide_eq_true hm, Bool.true_or] at hR
    subst hR
    simp only [decide_eq_true hm] at hA
    replace hA := Lib.hid hA
    clear hm hB
    go_enter Try.func72, Try.ntmps72
    go_wp2_with fail
    refine (hA.out _ h1).mono ?_
    rintro e w2 ⟨rfl, hb2⟩
    have h2 := h1.below hb2
    clear u0 u1 u2 u3 u4 ul
    clear v0 v1 v2 v3 v4 vl
    have u0 := h2.cell a.1
    have u1 := h2.cell a.2.1
    have u2 := h2.cell a.2.2.1
    have u3 := h2.cell a.2.2.2.1
    have u4 := h2.cell a.2.2.2.2
    have ul := World.block_lt_of_cell? _ _ u0
    simp only at u0 u1 u2 u3 u4
    have v0 := h2.cell b.1
    have v1 := h2.cell b.2.1
    have v2 := h2.cell b.2.2.1
    have v3 := h2.cell b.2.2.2.1
    have v4 := h2.cell b.2.2.2.2
    have vl := World.block_lt_of_cell? _ _ v0
    simp only at v0 v1 v2 v3 v4
    go_wp2_with fail
    go_ret
    exact ⟨rfl, bel.trans (hb2.mono bel.size)⟩
  · rw [decide_eq_false hm, Bool.false_or] at hR
    simp only [decide_eq_false hm] at hA
    simp only [hR] at hB
    replace hA := Lib.hid hA
    replace hB := Lib.hid hB
    clear hm hR
    go_enter Try.func72, Try.ntmps72
    go_wp2_with fail
    refine (hA.out _ h1).mono ?_
    rintro e w2 ⟨rfl, hb2⟩
    have h2 := h1.below hb2
    clear u0 u1 u2 u3 u4 ul
    clear v0 v1 v2 v3 v4 vl
    have u0 := h2.cell a.1
    have u1 := h2.cell a.2.1
    have u2 := h2.cell a.2.2.1
    have u3 := h2.cell a.2.2.2.1
    have u4 := h2.cell a.2.2.2.2
    have ul := World.block_lt_of_cell? _ _ u0
    simp only at u0 u1 u2 u3 u4
    have v0 := h2.cell b.1
    have v1 := h2.cell b.2.1
    have v2 := h2.cell b.2.2.1
    have v3 := h2.cell b.2.2.2.1
    have v4 := h2.cell b.2.2.2.2
    have vl := World.block_lt_of_cell? _ _ v0
    simp only at v0 v1 v2 v3 v4
    go_wp2_with fail
    refine (hB.out _ h2).mono ?_
    rintro e w3 ⟨rfl, hb3⟩
    go_wp2_with fail
    go_ret
    exact ⟨rfl, (bel.trans (hb2.mono bel.size)).trans (hb3.mono (Nat.le_trans bel.size hb2.size))⟩
set_option maxRecDepth 100000 in
set_option maxHeartbeats 3200000 in
theorem refEdge_any (x y : Rc) (w : World) (hx : RcR w x) (hy : RcR w y) : Calls Try.prog 26 #[recV x, recV y] w fun e w' => e = .returned (.bool (linkR (rp x) (rp y))) ∧ Below w.heap.size w w' := by
  obtain ⟨W, hW, bel, H, hle, h1, a, b⟩ := twoRc x y w (St.start w)
  have hA := fun w' (h' : St H [] w') => hasIds_any x.2.2.1 x.2.2.2.2.1 y.1 w' ((hx.d.rd.mono hle).rw h')
  have hB := fun w' (h' : St H [] w') => hasIds_any y.2.2.1 y.2.2.2.2.1 x.1 w' ((hy.d.rd.mono hle).rw h')
  obtain ⟨R, hR⟩ : ∃ R, linkR (rp x) (rp y) = R := ⟨_, rfl⟩
  rw [hR]
  unfold linkR at hR
  obtain ⟨d1, d2, d3, hdv, _⟩ := hx.d.form
  obtain ⟨b1, b2, b3, hbv, _⟩ := hx.b.form
  obtain ⟨e1, e2, e3, hev, _⟩ := hy.d.form
  obtain ⟨f1, f2, f3, hfv, _⟩ := hy.b.form
  obtain ⟨⟨r, s⟩, q, dv, bv, D, Bt⟩ := x
  obtain ⟨⟨r', s'⟩, q', dv', bv', D', Bt'⟩ := y
  simp only at hdv hbv hev hfv hA hB hR hW
  subst hdv hbv hev hfv hW
  clear hx hy hle
  have u0 := h1.cell a.1
  have u1 := h1.cell a.2.1
  have u2 := h1.cell a.2.2.1
  have u3 := h1.cell a.2.2.2.1
  have u4 := h1.cell a.2.2.2.2
  have ul := World.block_lt_of_cell? _ _ u0
  simp only at u0 u1 u2 u3 u4
  have v0 := h1.cell b.1
  have v1 := h1.cell b.2.1
  have v2 := h1.cell b.2.2.1
  have v3 := h1.cell b.2.2.2.1
  have v4 := h1.cell b.2.2.2.2
  have vl := World.block_lt_of_cell? _ _ v0
  simp only at v0 v1 v2 v3 v4
  by_cases hm : ((r', s') : Id) ∈ D
  · rw [decide_eq_true hm, Bool.true_or] at hR
    subst hR
    simp only [decide_eq_true hm] at hA
    replace hA := Lib.hid hA
    clear hm hB
    go_enter Try.func26, Try.ntmps26
    go_wp2_with fail
    refine (hA.out _ h1).mono ?_
    rintro e w2 ⟨rfl, hb2⟩
    have h2 := h1.below hb2
    clear u0 u1 u2 u3 u4 ul
    clear v0 v1 v2 v3 v4 vl
    have u0 := h2.cell a.1
    have u1 := h2.cell a.2.1
    have u2 := h2.cell a.2.2.1
    have u3 := h2.cell a.2.2.2.1
    have u4 := h2.cell a.2.2.2.2
    have ul := World.block_lt_of_cell? _ _ u0
    simp only at u0 u1 u2 u3 u4
    have v0 := h2.cell b.1
    have v1 := h2.cell b.2.1
    have v2 := h2.cell b.2.2.1
    have v3 := h2.cell b.2.2.2.1
    have v4 := h2.cell b.2.2.2.2
    have vl := World.block_lt_of_cell? _ _ v0
    simp only at v0 v1 v2 v3 v4
    go_wp2_with fail
    go_ret
    exact ⟨rfl, bel.trans (hb2.mono bel.size)⟩
  · rw [decide_eq_false hm, Bool.false_or] at hR
    simp only [decide_eq_false hm] at hA
    simp only [hR] at hB
    replace hA := Lib.hid hA
    replace hB := Lib.hid hB
    clear hm hR
    go_enter Try.func26, Try.ntmps26
    go_wp2_with fail
    refine (hA.out _ h1).mono ?_
    rintro e w2 ⟨rfl, hb2⟩
    have h2 := h1.below hb2
    clear u0 u1 u2 u3 u4 ul
    clear v0 v1 v2 v3 v4 vl
    have u0 := h2.cell a.1
    have u1 := h2.cell a.2.1
    have u2 := h2.cell a.2.2.1
    have u3 := h2.cell a.2.2.2.1
    have u4 := h2.cell a.2.2.2.2
    have ul := World.block_lt_of_cell? _ _ u0
    simp only at u0 u1 u2 u3 u4
    have v0 := h2.cell b.1
    have v1 := h2.cell b.2.1
    have v2 := h2.cell b.2.2.1
    have v3 := h2.cell b.2.2.2.1
    have v4 := h2.cell b.2.2.2.2
    have vl := World.block_lt_of_cell? _ _ v0
    simp only at v0 v1 v2 v3 v4
    go_wp2_with fail
    refine (hB.out _ h2).mono ?_
    rintro e w3 ⟨rfl, hb3⟩
    go_wp2_with fail
    go_ret
    exact ⟨rfl, (bel.trans (hb2.mono bel.size)).trans (hb3.mono (Nat.le_trans bel.size hb2.size))⟩
set_option maxRecDepth 100000 in
set_option maxHeartbeats 3200000 in
theorem lacks_any (x y : Rc) (w : World) (hx : RcR w x) (hy : RcR w y) : Calls Try.prog 57 #[recV x, recV y] w fun e w' => e = .returned (.bool (lackR (rp x) (rp y))) ∧ Below w.heap.size w w' := by
  obtain ⟨W, hW, bel, H, hle, h1, a, b⟩ := twoRc x y w (St.start w)
  have hA := fun w' (h' : St H [] w') => batConf_any x.2.2.2.1 y.2.2.2.1 x.2.2.2.2.2 y.2.2.2.2.2 hx.ok hy.ok w' ((hx.b.rd.mono hle).rw h') ((hy.b.rd.mono hle).rw h')
  have hB := fun w' (h' : St H [] w') => linked_any x y w' ⟨(hx.d.rd.mono hle).rw h', (hx.b.rd.mono hle).rw h', hx.ok⟩ ⟨(hy.d.rd.mono hle).rw h', (hy.b.rd.mono hle).rw h', hy.ok⟩
  obtain ⟨R, hR⟩ : ∃ R, lackR (rp x) (rp y) = R := ⟨_, rfl⟩
  rw [hR]
  unfold lackR at hR
  obtain ⟨d1, d2, d3, hdv, _⟩ := hx.d.form
  obtain ⟨b1, b2, b3, hbv, _⟩ := hx.b.form
  obtain ⟨e1, e2, e3, hev, _⟩ := hy.d.form
  obtain ⟨f1, f2, f3, hfv, _⟩ := hy.b.form
  obtain ⟨⟨r, s⟩, q, dv, bv, D, Bt⟩ := x
  obtain ⟨⟨r', s'⟩, q', dv', bv', D', Bt'⟩ := y
  simp only at hdv hbv hev hfv hA hB hR hW
  subst hdv hbv hev hfv hW
  clear hx hy hle
  have u0 := h1.cell a.1
  have u1 := h1.cell a.2.1
  have u2 := h1.cell a.2.2.1
  have u3 := h1.cell a.2.2.2.1
  have u4 := h1.cell a.2.2.2.2
  have ul := World.block_lt_of_cell? _ _ u0
  simp only at u0 u1 u2 u3 u4
  have v0 := h1.cell b.1
  have v1 := h1.cell b.2.1
  have v2 := h1.cell b.2.2.1
  have v3 := h1.cell b.2.2.2.1
  have v4 := h1.cell b.2.2.2.2
  have vl := World.block_lt_of_cell? _ _ v0
  simp only at v0 v1 v2 v3 v4
  cases hm : batConf Bt Bt' with
  | false =>
    rw [hm, Bool.false_and] at hR
    subst hR
    rw [hm] at hA
    replace hA := Lib.hid hA
    clear hm hB
    go_enter Try.func57, Try.ntmps57
    go_wp2_with fail
    refine (hA.out _ h1).mono ?_
    rintro e w2 ⟨rfl, hb2⟩
    have h2 := h1.below hb2
    clear u0 u1 u2 u3 u4 ul
    clear v0 v1 v2 v3 v4 vl
    have u0 := h2.cell a.1
    have u1 := h2.cell a.2.1
    have u2 := h2.cell a.2.2.1
    have u3 := h2.cell a.2.2.2.1
    have u4 := h2.cell a.2.2.2.2
    have ul := World.block_lt_of_cell? _ _ u0
    simp only at u0 u1 u2 u3 u4
    have v0 := h2.cell b.1
    have v1 := h2.cell b.2.1
    have v2 := h2.cell b.2.2.1
    have v3 := h2.cell b.2.2.2.1
    have v4 := h2.cell b.2.2.2.2
    have vl := World.block_lt_of_cell? _ _ v0
    simp only at v0 v1 v2 v3 v4
    go_wp2_with fail
    go_ret
    exact ⟨rfl, bel.trans (hb2.mono bel.size)⟩
  | true =>
    rw [hm, Bool.true_and] at hR
    rw [hm] at hA
    obtain ⟨R', hR'⟩ : ∃ R', linkR (rp ((r, s), q, .slice d1 d2 d3, .slice b1 b2 b3, D, Bt)) (rp ((r', s'), q', .slice e1 e2 e3, .slice f1 f2 f3, D', Bt')) = R' := ⟨_, rfl⟩
    rw [hR'] at hR
    simp only [hR'] at hB
    replace hA := Lib.hid hA
    replace hB := Lib.hid hB
    replace hR := Lib.hid hR
    clear hm hR'
    go_enter Try.func57, Try.ntmps57
    go_wp2_with fail
    refine (hA.out _ h1).mono ?_
    rintro e w2 ⟨rfl, hb2⟩
    have h2 := h1.below hb2
    clear u0 u1 u2 u3 u4 ul
    clear v0 v1 v2 v3 v4 vl
    have u0 := h2.cell a.1
    have u1 := h2.cell a.2.1
    have u2 := h2.cell a.2.2.1
    have u3 := h2.cell a.2.2.2.1
    have u4 := h2.cell a.2.2.2.2
    have ul := World.block_lt_of_cell? _ _ u0
    simp only at u0 u1 u2 u3 u4
    have v0 := h2.cell b.1
    have v1 := h2.cell b.2.1
    have v2 := h2.cell b.2.2.1
    have v3 := h2.cell b.2.2.2.1
    have v4 := h2.cell b.2.2.2.2
    have vl := World.block_lt_of_cell? _ _ v0
    simp only at v0 v1 v2 v3 v4
    go_wp2_with fail
    refine (hB.out _ h2).mono ?_
    rintro e w3 ⟨rfl, hb3⟩
    go_wp2_with fail
    go_ret
    exact ⟨rb hR.out, (bel.trans (hb2.mono bel.size)).trans (hb3.mono (Nat.le_trans bel.size hb2.size))⟩
set_option maxRecDepth 100000 in
set_option maxHeartbeats 3200000 in
theorem refLacks_any (x y : Rc) (w : World) (hx : RcR w x) (hy : RcR w y) : Calls Try.prog 59 #[recV x, recV y] w fun e w' => e = .returned (.bool (lackR (rp x) (rp y))) ∧ Below w.heap.size w w' := by
  obtain ⟨W, hW, bel, H, hle, h1, a, b⟩ := twoRc x y w (St.start w)
  have hA := fun w' (h' : St H [] w') => refBatConf_any x.2.2.2.1 y.2.2.2.1 x.2.2.2.2.2 y.2.2.2.2.2 hx.ok hy.ok w' ((hx.b.rd.mono hle).rw h') ((hy.b.rd.mono hle).rw h')
  have hB := fun w' (h' : St H [] w') => refEdge_any x y w' ⟨(hx.d.rd.mono hle).rw h', (hx.b.rd.mono hle).rw h', hx.ok⟩ ⟨(hy.d.rd.mono hle).rw h', (hy.b.rd.mono hle).rw h', hy.ok⟩
  obtain ⟨R, hR⟩ : ∃ R, lackR (rp x) (rp y) = R := ⟨_, rfl⟩
  rw [hR]
  unfold lackR at hR
  obtain ⟨d1, d2, d3, hdv, _⟩ := hx.d.form
  obtain ⟨b1, b2, b3, hbv, _⟩ := hx.b.form
  obtain ⟨e1, e2, e3, hev, _⟩ := hy.d.form
  obtain ⟨f1, f2, f3, hfv, _⟩ := hy.b.form
  obtain ⟨⟨r, s⟩, q, dv, bv, D, Bt⟩ := x
  obtain ⟨⟨r', s'⟩, q', dv', bv', D', Bt'⟩ := y
  simp only at hdv hbv hev hfv hA hB hR hW
  subst hdv hbv hev hfv hW
  clear hx hy hle
  have u0 := h1.cell a.1
  have u1 := h1.cell a.2.1
  have u2 := h1.cell a.2.2.1
  have u3 := h1.cell a.2.2.2.1
  have u4 := h1.cell a.2.2.2.2
  have ul := World.block_lt_of_cell? _ _ u0
  simp only at u0 u1 u2 u3 u4
  have v0 := h1.cell b.1
  have v1 := h1.cell b.2.1
  have v2 := h1.cell b.2.2.1
  have v3 := h1.cell b.2.2.2.1
  have v4 := h1.cell b.2.2.2.2
  have vl := World.block_lt_of_cell? _ _ v0
  simp only at v0 v1 v2 v3 v4
  cases hm : batConf Bt Bt' with
  | false =>
    rw [hm, Bool.false_and] at hR
    subst hR
    rw [hm] at hA
    replace hA := Lib.hid hA
    clear hm hB
    go_enter Try.func59, Try.ntmps59
    go_wp2_with fail
    refine (hA.out _ h1).mono ?_
    rintro e w2 ⟨rfl, hb2⟩
    have h2 := h1.below hb2
    clear u0 u1 u2 u3 u4 ul
    clear v0 v1 v2 v3 v4 vl
    have u0 := h2.cell a.1
    have u1 := h2.cell a.2.1
    have u2 := h2.cell a.2.2.1
    have u3 := h2.cell a.2.2.2.1
    have u4 := h2.cell a.2.2.2.2
    have ul := World.block_lt_of_cell? _ _ u0
    simp only at u0 u1 u2 u3 u4
    have v0 := h2.cell b.1
    have v1 := h2.cell b.2.1
    have v2 := h2.cell b.2.2.1
    have v3 := h2.cell b.2.2.2.1
    have v4 := h2.cell b.2.2.2.2
    have vl := World.block_lt_of_cell? _ _ v0
    simp only at v0 v1 v2 v3 v4
    go_wp2_with fail
    go_ret
    exact ⟨rfl, bel.trans (hb2.mono bel.size)⟩
  | true =>
    rw [hm, Bool.true_and] at hR
    rw [hm] at hA
    obtain ⟨R', hR'⟩ : ∃ R', linkR (rp ((r, s), q, .slice d1 d2 d3, .slice b1 b2 b3, D, Bt)) (rp ((r', s'), q', .slice e1 e2 e3, .slice f1 f2 f3, D', Bt')) = R' := ⟨_, rfl⟩
    rw [hR'] at hR
    simp only [hR'] at hB
    replace hA := Lib.hid hA
    replace hB := Lib.hid hB
    replace hR := Lib.hid hR
    clear hm hR'
    go_enter Try.func59, Try.ntmps59
    go_wp2_with fail
    refine (hA.out _ h1).mono ?_
    rintro e w2 ⟨rfl, hb2⟩
    have h2 := h1.below hb2
    clear u0 u1 u2 u3 u4 ul
    clear v0 v1 v2 v3 v4 vl
    have u0 := h2.cell a.1
    have u1 := h2.cell a.2.1
    have u2 := h2.cell a.2.2.1
    have u3 := h2.cell a.2.2.2.1
    have u4 := h2.cell a.2.2.2.2
    have ul := World.block_lt_of_cell? _ _ u0
    simp only at u0 u1 u2 u3 u4
    have v0 := h2.cell b.1
    have v1 := h2.cell b.2.1
    have v2 := h2.cell b.2.2.1
    have v3 := h2.cell b.2.2.2.1
    have v4 := h2.cell b.2.2.2.2
    have vl := World.block_lt_of_cell? _ _ v0
    simp only at v0 v1 v2 v3 v4
    go_wp2_with fail
    refine (hB.out _ h2).mono ?_
    rintro e w3 ⟨rfl, hb3⟩
    go_wp2_with fail
    go_ret
    exact ⟨rb hR.out, (bel.trans (hb2.mono bel.size)).trans (hb3.mono (Nat.le_trans bel.size hb2.size))⟩
end Go.Proofs.Ytelmhcbdpimaaaa

/- record.Same. -/
set_option linter.unusedVariables false
set_option linter.unusedSimpArgs false
namespace Go.Proofs.Ytelmhcbdpimaaaa
open Go.RowKit Go.Cw Go.Fl
attribute [local go_sem ↓] eql_id neq_id
set_option maxRecDepth 100000 in
set_option maxHeartbeats 3200000 in
theorem recordSame_any (x y : Rc) (w : World) (hx : RcR w x) (hy : RcR w y) : Calls Try.prog 82 #[recV x, recV y] w fun e w' => e = .returned (.bool (recSame (rp x) (rp y))) ∧ Below w.heap.size w w' := by
  obtain ⟨W, hW, bel, H, hle, h1, a, b⟩ := twoRc x y w (St.start w)
  have hA := fun w' (h' : St H [] w') => equalIds_any x.2.2.1 y.2.2.1 x.2.2.2.2.1 y.2.2.2.2.1 w' ((hx.d.rd.mono hle).rw h') ((hy.d.rd.mono hle).rw h')
  have hB := fun w' (h' : St H [] w') => batSame_any x.2.2.2.1 y.2.2.2.1 x.2.2.2.2.2 y.2.2.2.2.2 w' ((hx.b.rd.mono hle).rw h') ((hy.b.rd.mono hle).rw h')
  obtain ⟨R, hR⟩ : ∃ R, recSame (rp x) (rp y) = R := ⟨_, rfl⟩
  rw [hR]
  unfold recSame at hR
  obtain ⟨d1, d2, d3, hdv, _⟩ := hx.d.form
  obtain ⟨b1, b2, b3, hbv, _⟩ := hx.b.form
  obtain ⟨e1, e2, e3, hev, _⟩ := hy.d.form
  obtain ⟨f1, f2, f3, hfv, _⟩ := hy.b.form
  obtain ⟨⟨r, s⟩, q, dv, bv, D, Bt⟩ := x
  obtain ⟨⟨r', s'⟩, q', dv', bv', D', Bt'⟩ := y
  try simp only at hdv hbv hev hfv hA hB hR hW
  subst hdv hbv hev hfv hW
  clear hx hy hle
  have u0 := h1.cell a.1
  have u1 := h1.cell a.2.1
  have u2 := h1.cell a.2.2.1
  have u3 := h1.cell a.2.2.2.1
  have u4 := h1.cell a.2.2.2.2
  have ul := World.block_lt_of_cell? _ _ u0
  try simp only at u0 u1 u2 u3 u4
  have v0 := h1.cell b.1
  have v1 := h1.cell b.2.1
  have v2 := h1.cell b.2.2.1
  have v3 := h1.cell b.2.2.2.1
  have v4 := h1.cell b.2.2.2.2
  have vl := World.block_lt_of_cell? _ _ v0
  try simp only at v0 v1 v2 v3 v4
  by_cases hi : ((r, s) : Id) = (r', s')
  · have hib := idEq_of hi
    try simp only at hib
    rw [decide_eq_true hi, Bool.true_and] at hR
    by_cases hq : q = q'
    · have hqb : (q == q') = true := by simpa using hq
      rw [decide_eq_true hq, Bool.true_and] at hR
      by_cases hd : D = D'
      · rw [decide_eq_true hd, Bool.true_and] at hR
        simp only [decide_eq_true hd] at hA
        rw [hR] at hB
        replace hA := Lib.hid hA
        replace hB := Lib.hid hB
        clear hi hq hd hR
        go_enter Try.func82, Try.ntmps82
        go_wp2_with fail
        refine (hA.out _ h1).mono ?_
        rintro e w2 ⟨rfl, hb2⟩
        have h2 := h1.below hb2
        clear u0 u1 u2 u3 u4 ul
        clear v0 v1 v2 v3 v4 vl
        have u0 := h2.cell a.1
        have u1 := h2.cell a.2.1
        have u2 := h2.cell a.2.2.1
        have u3 := h2.cell a.2.2.2.1
        have u4 := h2.cell a.2.2.2.2
        have ul := World.block_lt_of_cell? _ _ u0
        try simp only at u0 u1 u2 u3 u4
        have v0 := h2.cell b.1
        have v1 := h2.cell b.2.1
        have v2 := h2.cell b.2.2.1
        have v3 := h2.cell b.2.2.2.1
        have v4 := h2.cell b.2.2.2.2
        have vl := World.block_lt_of_cell? _ _ v0
        try simp only at v0 v1 v2 v3 v4
        go_wp2_with fail
        refine (hB.out _ h2).mono ?_
        rintro e w3 ⟨rfl, hb3⟩
        go_wp2_with fail
        go_ret
        exact ⟨rfl, (bel.trans (hb2.mono bel.size)).trans (hb3.mono (Nat.le_trans bel.size hb2.size))⟩
      · rw [decide_eq_false hd, Bool.false_and] at hR
        subst hR
        simp only [decide_eq_false hd] at hA
        replace hA := Lib.hid hA
        clear hi hq hd hB
        go_enter Try.func82, Try.ntmps82
        go_wp2_with fail
        refine (hA.out _ h1).mono ?_
        rintro e w2 ⟨rfl, hb2⟩
        go_wp2_with fail
        go_ret
        exact ⟨rfl, bel.trans (hb2.mono bel.size)⟩
    · have hqb : (q == q') = false := by simpa using hq
      rw [decide_eq_false hq, Bool.false_and, Bool.false_and] at hR
      subst hR
      clear hi hq hA hB
      go_enter Try.func82, Try.ntmps82
      go_wp2_with fail
      go_ret
      exact ⟨rfl, bel⟩
  · have hib := idEq_not hi
    try simp only at hib
    rw [decide_eq_false hi, Bool.false_and, Bool.false_and, Bool.false_and] at hR
    subst hR
    clear hi hA hB
    go_enter Try.func82, Try.ntmps82
    go_wp2_with fail
    go_ret
    exact ⟨rfl, bel⟩
end Go.Proofs.Ytelmhcbdpimaaaa

/- Records that are kept: Record. -/
set_option linter.unusedVariables false
set_option linter.unusedSimpArgs false
namespace Go.Proofs.Ytelmhcbdpimaaaa
open Go.RowKit Go.Cw Go.Fl
attribute [local go_sem ↓] eql_id neq_id
/-- What Record tells. -/
def VRec (H : Hp) (p : Nat) (room : Int) (K : List Kp) (M : List Id) (low : List Nat) (fr : List HA) (a : Id) (w : World) (e : Ending) (w' : World) : Prop :=
  ∃ (H' : Hp) (y : Rc), Hp.le H H' ∧ St H' (VsA p room K M low :: fr) w' ∧ Env w w' ∧ e = .returned (.tuple #[recV y, .bool (decide (a ∈ kids K))]) ∧ RcD H' y ∧ rp y = rp (lookKp K a).1.1
theorem lookKp_b {H : Hp} {K : List Kp} (h : KpOk H K) (a : Id) : (lookKp K a).1.1.2.2.2.2.1.length ≤ 16 ∧ (lookKp K a).1.1.2.2.2.2.2.length ≤ 8 := by
  cases hb : (lookKp K a).2 with
  | true => exact h.b _ (lookKp_mem hb).1
  | false => rw [lookKp_no hb]; simp
set_option maxRecDepth 100000 in
set_option maxHeartbeats 3200000 in
theorem vsRecord_any (p : Nat) (room : Int) (K : List Kp) (M : List Id) (low : List Nat) (a : Id) (H : Hp) (fr : List HA) (w : World) (h : St H (VsA p room K M low :: fr) w) (hK : KpOk H K) :
    Calls Try.prog 52 #[vsP p, idV a] w (VRec H p room K M low fr a w) := by
  have hld := lookKp_d hK a
  have hlb := lookKp_b hK a
  obtain ⟨d1, d2, d3, b1, b2, b3, hdv, hbv⟩ := kp_form hld
  have hlk := look_at K a
  have hin := lookKp_iff K a
  have hno := fun (hf : (lookKp K a).2 = false) => lookKp_no hf
  obtain ⟨Y, hY⟩ : ∃ Y, (lookKp K a).1.1 = Y := ⟨_, rfl⟩
  obtain ⟨B, hB⟩ : ∃ B, (decide (a ∈ kids K)) = B := ⟨_, rfl⟩
  have hfin : ∀ (H' : Hp) (y : Rc) (w' : World), Hp.le H H' → St H' (VsA p room K M low :: fr) w' → Env w w' → RcD H' y → rp y = rp Y → VRec H p room K M low fr a w (.returned (.tuple #[recV y, .bool B])) w' := fun H' y w' h1 h2 h3 h4 h5 => ⟨H', y, h1, h2, h3, by rw [hB], h4, by rw [h5, hY]⟩
  rw [hB] at hin
  generalize VRec H p room K M low fr a w = Q at *
  replace hno := fun hf => congrArg (fun q : Kp => rp q.1) (hno hf)
  obtain ⟨r, s⟩ := a
  obtain ⟨H1, l1, h1, y⟩ := h.box #[.int .i64 r, .int .i64 s] 28
  have y0 := y 0 _ rfl
  have y1 := y 1 _ rfl
  clear y h
  have h2 := h1.blk #[.int .i64 0, .int .i64 0, .int .i64 0, .slice none 0 0, .slice none 0 0] 32
  have e1 : (w.alloc (.cells #[.int .i64 r, .int .i64 s] 28)).heap.size = w.heap.size + 1 := by simp
  rw [e1] at h2
  have en2 := ((Env.refl w).alloc (.cells #[.int .i64 r, .int .i64 s] 28)).alloc (.cells #[.int .i64 0, .int .i64 0, .int .i64 0, .slice none 0 0, .slice none 0 0] 32)
  clear h1 e1 hB
  generalize lookKp K (r, s) = z at *
  obtain ⟨⟨⟨⟨x0, x1⟩, xq, xd, xb, xD, xB⟩, xo⟩, xk⟩ := z
  try simp only at hdv hbv hlk hin hno hY hlb hld
  subst hdv hbv hY hin
  obtain ⟨g, f, h3⟩ := vsOpen h2.swap
  clear h2
  have kk : ∀ w', St H1 (Blk p (vsC room g f low) 120 :: Mp kpC g (entsK K) :: FrI f M :: Blk (w.heap.size + 1) #[.int .i64 0, .int .i64 0, .int .i64 0, .slice none 0 0, .slice none 0 0] 32 :: fr) w' → (fun w' : World => w'.cell? ⟨p, 1, none⟩ = some (.map (some g)) ∧ w'.cell? ⟨w.heap.size, 0, none⟩ = some (.int .i64 r) ∧ w'.cell? ⟨w.heap.size, 1, none⟩ = some (.int .i64 s) ∧ (Instr.lookup 116 (.map (some g)) (.agg #[.int .i64 r, .int .i64 s]) true).run Try.prog w' = .ok (.tuple #[.agg #[.int .i64 x0, .int .i64 x1, .int .i64 xq, .slice d1 d2 d3, .slice b1 b2 b3, .bool xo], .bool xk]) w') w' := fun w' h' => ⟨h'.blk_cell 1, h'.cell y0, h'.cell y1, by
    have := h'.swap.mp_get true (t := 116) Try.underlying116 (zero_kp _) (r, s)
    rw [hlk] at this
    exact this⟩
  have hD := h3.drew
  have cl := h3.blk_lt
  replace hlk := Lib.hid hlk
  clear hK
  go_enter Try.func52, Try.ntmps52
  go_wp2_with fail
  generalize (w.alloc (.cells #[.int .i64 r, .int .i64 s] 28)).alloc (.cells #[.int .i64 0, .int .i64 0, .int .i64 0, .slice none 0 0, .slice none 0 0] 32) = W2 at *
  generalize w.heap.size + 1 = gr at *
  generalize w.heap.size = gb at *
  generalize hgk : W2.heap.size = gk at *
  refine wp_region_held_drew (S := (fun w' : World => w'.cell? ⟨p, 1, none⟩ = some (.map (some g)) ∧ w'.cell? ⟨gb, 0, none⟩ = some (.int .i64 r) ∧ w'.cell? ⟨gb, 1, none⟩ = some (.int .i64 s) ∧ (Instr.lookup 116 (.map (some g)) (.agg #[.int .i64 r, .int .i64 s]) true).run Try.prog w' = .ok (.tuple #[.agg #[.int .i64 x0, .int .i64 x1, .int .i64 xq, .slice d1 d2 d3, .slice b1 b2 b3, .bool xo], .bool xk]) w')) (by kernel_rfl) (kk _ hD) (fun hHeld => ?_)
  refine wpAnyH_take (i := 0) (oi := { dst := some 12, op := Go.Op.move (Go.Operand.tmp 0), type := 67, pos := "vertex.go:87", after := #[], guard := none }) (v := ?_) rfl (by kernel_rfl) (by kernel_rfl) (by kernel_rfl) (fun _ _ _ h => h) (Or.inl ⟨by rfl, ?_⟩) (by assumption) ?_
  rotate_left
  · (intro w hSw; (try dsimp only at hSw); go_simp; (try (with_reducible rfl)))
  try simp only [Act.put, List.setIfInBounds_toArray, List.set_cons_zero, List.set_cons_succ]
  refine wpAnyH_take (i := 1) (oi := { dst := some 13, op := Go.Op.nilCheck (Go.Operand.tmp 12), type := 0, pos := "vertex.go:87", after := #[{ on := 0, ground := Go.Ground.data }], guard := none }) (v := ?_) rfl (by kernel_rfl) (by kernel_rfl) (by kernel_rfl) (fun _ _ _ h => h) (Or.inl ⟨by rfl, ?_⟩) (by assumption) ?_
  rotate_left
  · (intro w hSw; (try dsimp only at hSw); go_simp; (try (with_reducible rfl)))
  try simp only [Act.put, List.setIfInBounds_toArray, List.set_cons_zero, List.set_cons_succ]
  refine wpAnyH_take (i := 2) (oi := { dst := some 14, op := Go.Op.fieldAddr 120 (Go.Operand.tmp 13) 1, type := 0, pos := "vertex.go:87", after := #[{ on := 1, ground := Go.Ground.data }], guard := none }) (v := ?_) rfl (by kernel_rfl) (by kernel_rfl) (by kernel_rfl) (fun _ _ _ h => h) (Or.inl ⟨by rfl, ?_⟩) (by assumption) ?_
  rotate_left
  · (intro w hSw; (try dsimp only at hSw); go_simp; (try (with_reducible rfl)))
  try simp only [Act.put, List.setIfInBounds_toArray, List.set_cons_zero, List.set_cons_succ]
  refine wpAnyH_take (i := 3) (oi := { dst := some 15, op := Go.Op.load 116 (Go.Operand.tmp 14), type := 116, pos := "vertex.go:87", after := #[{ on := 2, ground := Go.Ground.data }], guard := none }) (v := ?_) rfl (by kernel_rfl) (by kernel_rfl) (by kernel_rfl) (fun _ _ _ h => h) (Or.inl ⟨by rfl, ?_⟩) (by assumption) ?_
  rotate_left
  · (intro w hSw; (try dsimp only at hSw); go_simp; (try (with_reducible rfl)))
  try simp only [Act.put, List.setIfInBounds_toArray, List.set_cons_zero, List.set_cons_succ]
  refine wpAnyH_take (i := 4) (oi := { dst := some 16, op := Go.Op.load 28 (Go.Operand.tmp 3), type := 28, pos := "vertex.go:87", after := #[], guard := none }) (v := ?_) rfl (by kernel_rfl) (by kernel_rfl) (by kernel_rfl) (fun _ _ _ h => h) (Or.inl ⟨by rfl, ?_⟩) (by assumption) ?_
  rotate_left
  · (intro w hSw; (try dsimp only at hSw); go_simp; (try (with_reducible rfl)))
  try simp only [Act.put, List.setIfInBounds_toArray, List.set_cons_zero, List.set_cons_succ]
  refine wpAnyH_take (i := 5) (oi := { dst := some 17, op := Go.Op.lookup 116 (Go.Operand.tmp 15) (Go.Operand.tmp 16) true, type := 123, pos := "vertex.go:87", after := #[{ on := 3, ground := Go.Ground.data }, { on := 4, ground := Go.Ground.data }], guard := none }) (v := ?_) rfl (by kernel_rfl) (by kernel_rfl) (by kernel_rfl) (fun _ _ _ h => h) (Or.inl ⟨by rfl, ?_⟩) (by assumption) ?_
  rotate_left
  · (intro w hSw; (try dsimp only at hSw); go_simp; (try (with_reducible rfl)))
  try simp only [Act.put, List.setIfInBounds_toArray, List.set_cons_zero, List.set_cons_succ]
  refine wpAnyH_take (i := 6) (oi := { dst := some 11, op := Go.Op.move (Go.Operand.tmp 17), type := 123, pos := "vertex.go:87", after := #[{ on := 5, ground := Go.Ground.data }], guard := none }) (v := ?_) rfl (by kernel_rfl) (by kernel_rfl) (by kernel_rfl) (fun _ _ _ h => h) (Or.inl ⟨by rfl, ?_⟩) (by assumption) ?_
  rotate_left
  · (intro w hSw; (try dsimp only at hSw); go_simp; (try (with_reducible rfl)))
  try simp only [Act.put, List.setIfInBounds_toArray, List.set_cons_zero, List.set_cons_succ]
  refine wpAnyH_take (i := 7) (oi := { dst := some 18, op := Go.Op.extract (Go.Operand.tmp 11) 0, type := 122, pos := "vertex.go:87", after := #[{ on := 6, ground := Go.Ground.data }], guard := none }) (v := ?_) rfl (by kernel_rfl) (by kernel_rfl) (by kernel_rfl) (fun _ _ _ h => h) (Or.inl ⟨by rfl, ?_⟩) (by assumption) ?_
  rotate_left
  · (intro w hSw; (try dsimp only at hSw); go_simp; (try (with_reducible rfl)))
  try simp only [Act.put, List.setIfInBounds_toArray, List.set_cons_zero, List.set_cons_succ]
  refine wpAnyH_take (i := 8) (oi := { dst := some 19, op := Go.Op.extract (Go.Operand.tmp 11) 1, type := 4, pos := "vertex.go:87", after := #[{ on := 6, ground := Go.Ground.data }, { on := 10, ground := Go.Ground.gcOnly Go.Departure.lateStores }], guard := none }) (v := ?_) rfl (by kernel_rfl) (by kernel_rfl) (by kernel_rfl) (fun _ _ _ h => h) (Or.inl ⟨by rfl, ?_⟩) (by assumption) ?_
  rotate_left
  · (intro w hSw; (try dsimp only at hSw); go_simp; (try (with_reducible rfl)))
  try simp only [Act.put, List.setIfInBounds_toArray, List.set_cons_zero, List.set_cons_succ]
  refine wpAnyH_ready (rs := [9]) (by kernel_rfl) (by simp) ?_
  refine AllReadyH.cons (o := { dst := some 6, op := Go.Op.alloc 122, type := 0, pos := "vertex.go:87", after := #[], guard := none }) rfl (fun K hK => ?_) AllReadyH.nil
  go_simp
  refine hK.out _ _ (kk _ (hD.alloc _)) (fun hHeld2 => ?_)
  clear hK K hHeld
  try simp only [Act.put, List.setIfInBounds_toArray, List.set_cons_zero, List.set_cons_succ]
  refine wpAnyH_ready (rs := [10]) (by kernel_rfl) (by simp) ?_
  refine AllReadyH.cons (o := { dst := none, op := Go.Op.store 122 (Go.Operand.tmp 6) (Go.Operand.tmp 18), type := 0, pos := "vertex.go:87", after := #[{ on := 9, ground := Go.Ground.data }, { on := 7, ground := Go.Ground.data }, { on := 0, ground := Go.Ground.phase }, { on := 1, ground := Go.Ground.phase }, { on := 2, ground := Go.Ground.phase }, { on := 3, ground := Go.Ground.phase }, { on := 4, ground := Go.Ground.phase }, { on := 5, ground := Go.Ground.phase }, { on := 6, ground := Go.Ground.phase }, { on := 7, ground := Go.Ground.phase }, { on := 8, ground := Go.Ground.textOnly Go.Departure.lateStores }, { on := 9, ground := Go.Ground.phase }], guard := none }) rfl (fun K hK => ?_) AllReadyH.nil
  go_simp
  refine hK.out _ _ (kk _ ((h3.alloc _).drew)) (fun hHeld3 => ?_)
  clear hK K hHeld2
  try simp only [Act.put, List.setIfInBounds_toArray, List.set_cons_zero, List.set_cons_succ]
  refine wpAnyH_take (i := 11) (oi := { dst := some 7, op := Go.Op.assign (Go.Operand.tmp 19), type := 4, pos := "vertex.go:87", after := #[{ on := 8, ground := Go.Ground.data }, { on := 10, ground := Go.Ground.chain }, { on := 0, ground := Go.Ground.phase }, { on := 1, ground := Go.Ground.phase }, { on := 2, ground := Go.Ground.phase }, { on := 3, ground := Go.Ground.phase }, { on := 4, ground := Go.Ground.phase }, { on := 5, ground := Go.Ground.phase }, { on := 6, ground := Go.Ground.phase }, { on := 7, ground := Go.Ground.phase }, { on := 8, ground := Go.Ground.phase }, { on := 9, ground := Go.Ground.phase }, { on := 10, ground := Go.Ground.phase }], guard := none }) (v := ?_) rfl (by kernel_rfl) (by kernel_rfl) (by kernel_rfl) (fun _ _ _ h => h) (Or.inl ⟨by rfl, ?_⟩) (by assumption) ?_
  rotate_left
  · (intro w hSw; (try dsimp only at hSw); go_simp; (try (with_reducible rfl)))
  try simp only [Act.put, List.setIfInBounds_toArray, List.set_cons_zero, List.set_cons_succ]
  refine wpAnyH_done (by kernel_rfl) ?_ _
  obtain ⟨H3, l3, h4, kc⟩ := h3.box #[.int .i64 x0, .int .i64 x1, .int .i64 xq, .slice d1 d2 d3, .slice b1 b2 b3, .bool xo] 122
  have en3 := (en2.alloc (.cells #[.int .i64 x0, .int .i64 x1, .int .i64 xq, .slice d1 d2 d3, .slice b1 b2 b3, .bool xo] 122)).drew
  rw [hgk] at kc
  have m0 := kc 0 _ rfl
  have m1 := kc 1 _ rfl
  have m2 := kc 2 _ rfl
  have m3 := kc 3 _ rfl
  have m4 := kc 4 _ rfl
  have hE := h4.drew
  clear hHeld3 kk hD h4 h3 cl kc en2 hlk
  generalize (W2.alloc (.cells #[.int .i64 x0, .int .i64 x1, .int .i64 xq, .slice d1 d2 d3, .slice b1 b2 b3, .bool xo] 122)).drew = W3 at *
  have hF := hE.pick 3 (by simp)
  have z0 := hF.blk_cell 0
  have z1 := hF.blk_cell 1
  have z2 := hF.blk_cell 2
  have z3 := hF.blk_cell 3
  have z4 := hF.blk_cell 4
  have zf0 := hF.blk_free 0
  have zf1 := hF.blk_free 1
  have zf2 := hF.blk_free 2
  have zf3 := hF.blk_free 3
  have zf4 := hF.blk_free 4
  have zl := hF.blk_lt
  cases xk with
  | false =>
    replace hno := Lib.hid (hno rfl)
    have p7 := ((((hF.blk_set 0 (.int .i64 0)).blk_set 1 (.int .i64 0)).blk_set 2 (.int .i64 0)).blk_set 3 (.slice none 0 0)).blk_set 4 (.slice none 0 0)
    have en7 := (((((en3.setCell ⟨gr, 0, none⟩ (.int .i64 0)).setCell ⟨gr, 1, none⟩ (.int .i64 0)).setCell ⟨gr, 2, none⟩ (.int .i64 0)).setCell ⟨gr, 3, none⟩ (.slice none 0 0)).setCell ⟨gr, 4, none⟩ (.slice none 0 0))
    go_wp2_with fail
    generalize ((((W3.setCell ⟨gr, 0, none⟩ (.int .i64 0)).setCell ⟨gr, 1, none⟩ (.int .i64 0)).setCell ⟨gr, 2, none⟩ (.int .i64 0)).setCell ⟨gr, 3, none⟩ (.slice none 0 0)).setCell ⟨gr, 4, none⟩ (.slice none 0 0) = W9 at *
    have r0 : W9.cell? ⟨gr, 0, none⟩ = some (.int .i64 0) := p7.blk_cell 0
    have r1 : W9.cell? ⟨gr, 1, none⟩ = some (.int .i64 0) := p7.blk_cell 1
    have r2 : W9.cell? ⟨gr, 2, none⟩ = some (.int .i64 0) := p7.blk_cell 2
    have r3 : W9.cell? ⟨gr, 3, none⟩ = some (.slice none 0 0) := p7.blk_cell 3
    have r4 : W9.cell? ⟨gr, 4, none⟩ = some (.slice none 0 0) := p7.blk_cell 4
    have rl := p7.blk_lt
    (try simp only [Exit.inBlock, Exit.then])
    refine bodyPost_ret ((results_cell_tmp rfl _ _ _).trans (?hres : _ = Result.ok (Value.tuple #[recZ, .bool false]) W9)) rfl ?_
    case hres => go_simp
    exact hfin H3 zeroRc _ (Hp.le_trans l1 l3) (vsShut p7.drop) en7 ⟨Rd.nil _ _, Rd.nil _ _, fun c hc => by simp at hc⟩ hno.out.symm
  | true =>
    have c0 := hE.cell m0
    have c1 := hE.cell m1
    have c2 := hE.cell m2
    have c3 := hE.cell m3
    have c4 := hE.cell m4
    have cl := World.block_lt_of_cell? _ _ c0
    have hCp := Lib.hid (recCopy_any ((x0, x1), xq, .slice d1 d2 d3, .slice b1 b2 b3, xD, xB) _ ((hld.mono (Hp.le_trans l1 l3)).rw hE) (by simp only; omega) (by simp only; omega))
    go_wp2_with fail
    refine hCp.out.mono ?_
    rintro e w6 he
    obtain ⟨⟨dv', bv'⟩, rfl, h6, en6⟩ := ResE.lift hE he
    obtain ⟨f1, f2, f3, rfl, _⟩ := h6.row_form
    obtain ⟨g1, g2, g3, rfl, _⟩ := h6.swap.row_form
    obtain ⟨H4, l4, h7, hd⟩ := h6.row_keep
    obtain ⟨H5, l5, h8, hb⟩ := h7.row_keep
    clear hF z0 z1 z2 z3 z4 zf0 zf1 zf2 zf3 zf4 zl c0 c1 c2 c3 c4 cl h6 h7 hE hCp
    have hF := h8.pick 3 (by simp)
    have z0 := hF.blk_cell 0
    have z1 := hF.blk_cell 1
    have z2 := hF.blk_cell 2
    have z3 := hF.blk_cell 3
    have z4 := hF.blk_cell 4
    have zf0 := hF.blk_free 0
    have zf1 := hF.blk_free 1
    have zf2 := hF.blk_free 2
    have zf3 := hF.blk_free 3
    have zf4 := hF.blk_free 4
    have zl := hF.blk_lt
    have p7 := ((((hF.blk_set 0 (.int .i64 x0)).blk_set 1 (.int .i64 x1)).blk_set 2 (.int .i64 xq)).blk_set 3 (.slice f1 f2 f3)).blk_set 4 (.slice g1 g2 g3)
    have en7 := ((((((en3.trans en6).setCell ⟨gr, 0, none⟩ (.int .i64 x0)).setCell ⟨gr, 1, none⟩ (.int .i64 x1)).setCell ⟨gr, 2, none⟩ (.int .i64 xq)).setCell ⟨gr, 3, none⟩ (.slice f1 f2 f3)).setCell ⟨gr, 4, none⟩ (.slice g1 g2 g3))
    go_wp2_with fail
    generalize ((((w6.setCell ⟨gr, 0, none⟩ (.int .i64 x0)).setCell ⟨gr, 1, none⟩ (.int .i64 x1)).setCell ⟨gr, 2, none⟩ (.int .i64 xq)).setCell ⟨gr, 3, none⟩ (.slice f1 f2 f3)).setCell ⟨gr, 4, none⟩ (.slice g1 g2 g3) = W9 at *
    have r0 : W9.cell? ⟨gr, 0, none⟩ = some (.int .i64 x0) := p7.blk_cell 0
    have r1 : W9.cell? ⟨gr, 1, none⟩ = some (.int .i64 x1) := p7.blk_cell 1
    have r2 : W9.cell? ⟨gr, 2, none⟩ = some (.int .i64 xq) := p7.blk_cell 2
    have r3 : W9.cell? ⟨gr, 3, none⟩ = some (.slice f1 f2 f3) := p7.blk_cell 3
    have r4 : W9.cell? ⟨gr, 4, none⟩ = some (.slice g1 g2 g3) := p7.blk_cell 4
    have rl := p7.blk_lt
    (try simp only [Exit.inBlock, Exit.then])
    refine bodyPost_ret ((results_cell_tmp rfl _ _ _).trans (?hres : _ = Result.ok (Value.tuple #[Value.agg #[.int .i64 x0, .int .i64 x1, .int .i64 xq, .slice f1 f2 f3, .slice g1 g2 g3], .bool true]) W9)) rfl ?_
    case hres => go_simp
    exact hfin H5 ((x0, x1), xq, .slice f1 f2 f3, .slice g1 g2 g3, xD, xB) _ (Hp.le_trans (Hp.le_trans l1 l3) (Hp.le_trans l4 l5)) (vsShut p7.drop) en7 ⟨hd.mono l5, hb, hld.ok⟩ rfl
end Go.Proofs.Ytelmhcbdpimaaaa

/- Records that are kept: Done. -/
set_option linter.unusedVariables false
set_option linter.unusedSimpArgs false
namespace Go.Proofs.Ytelmhcbdpimaaaa
open Go.RowKit Go.Cw Go.Fl
attribute [local go_sem ↓] eql_id neq_id
/-- An id is done. -/
def doneK (a : Id) (K : List Kp) : List Kp := K.map (fun x => if x.1.1 = a then (x.1, true) else x)
theorem doneK_kids (a : Id) (K : List Kp) : kids (doneK a K) = kids K := by
  unfold doneK kids
  rw [List.map_map]
  refine List.map_congr_left (fun x _ => ?_)
  simp only [Function.comp]
  by_cases h : x.1.1 = a
  · rw [if_pos h]
  · rw [if_neg h]
theorem doneK_ok {H : Hp} {K : List Kp} (h : KpOk H K) (a : Id) : KpOk H (doneK a K) := by
  refine ⟨?_, ?_, by unfold doneK; rw [List.length_map]; exact h.n⟩
  · intro y hy
    obtain ⟨x, hx, rfl⟩ := List.mem_map.1 hy
    by_cases hc : x.1.1 = a
    · rw [if_pos hc]; exact h.d x hx
    · rw [if_neg hc]; exact h.d x hx
  · intro y hy
    obtain ⟨x, hx, rfl⟩ := List.mem_map.1 hy
    by_cases hc : x.1.1 = a
    · rw [if_pos hc]; exact h.b x hx
    · rw [if_neg hc]; exact h.b x hx
theorem kids_one {K : List Kp} (hn : (kids K).Nodup) {x y : Kp} (hx : x ∈ K) (hy : y ∈ K) (h : x.1.1 = y.1.1) : x = y := by
  obtain ⟨i, hi, rfl⟩ := List.getElem_of_mem hx
  obtain ⟨j, hj, rfl⟩ := List.getElem_of_mem hy
  have : i = j := (List.getElem_inj (h₀ := by simpa [kids] using hi) (h₁ := by simpa [kids] using hj) hn).1 (by simpa [kids] using h)
  subst this
  rfl
theorem entsK_done {K : List Kp} (hn : (kids K).Nodup) {a : Id} (h : (lookKp K a).2 = true) : mput a ((lookKp K a).1.1, true) (entsK K) = entsK (doneK a K) := by
  obtain ⟨hm, he⟩ := lookKp_mem h
  have hin : a ∈ kids K := List.mem_map.2 ⟨_, hm, he⟩
  unfold mput
  rw [entsK_keys, if_pos hin]
  unfold entsK doneK
  rw [List.map_map, List.map_map]
  refine List.map_congr_left (fun x hx => ?_)
  simp only [Function.comp]
  by_cases hc : x.1.1 = a
  · rw [if_pos hc, if_pos hc]
    have := kids_one hn hx hm (hc.trans he.symm)
    rw [← this, hc]
  · rw [if_neg hc, if_neg hc]
theorem stK_one {K : List Kp} {M : List Id} {a : Id} : stK K M a = 1 ↔ (lookKp K a).2 = true ∧ (lookKp K a).1.2 = false := by
  unfold stK
  cases (lookKp K a).2 <;> cases (lookKp K a).1.2 <;> by_cases hm : a ∈ M <;> simp [hm]
theorem vsDone_no (p : Nat) (room : Int) (K : List Kp) (M : List Id) (low : List Nat) (a : Id) (H : Hp) (fr : List HA) (w : World) (h : St H (VsA p room K M low :: fr) w) (hK : KpOk H K) (hs : stK K M a ≠ 1) :
    Calls Try.prog 42 #[vsP p, idV a] w fun e w' => e = .returned (.bool false) ∧ Below w.heap.size w w' := by
  obtain ⟨H1, l1, h1, y⟩ := h.box #[.int .i64 a.1, .int .i64 a.2] 28
  have bel := boxBelow w (.cells #[.int .i64 a.1, .int .i64 a.2] 28)
  have hS := vsStatus_any p room K M low a H1 fr _ h1 (hK.mono l1)
  replace hS := Lib.hid hS
  obtain ⟨r, s⟩ := a
  have y0 := h1.cell (y 0 _ rfl)
  have y1 := h1.cell (y 1 _ rfl)
  have yl := World.block_lt_of_cell? _ _ y0
  generalize stK K M (r, s) = R at *
  clear y
  go_enter Try.func42, Try.ntmps42
  go_wp2_with fail
  refine hS.out.mono ?_
  rintro e w2 ⟨rfl, hb2⟩
  go_wp2_with fail
  go_ret
  exact ⟨rfl, bel.trans (hb2.mono bel.size)⟩
set_option maxRecDepth 100000 in
set_option maxHeartbeats 3200000 in
theorem vsDone_yes (p : Nat) (room : Int) (K : List Kp) (M : List Id) (low : List Nat) (a : Id) (H : Hp) (fr : List HA) (w : World) (h : St H (VsA p room K M low :: fr) w) (hK : KpOk H K) (hs : stK K M a = 1) :
    Calls Try.prog 42 #[vsP p, idV a] w (Res H fr w (.bool (mayM a M)) [VsA p room (doneK a K) (markL a M) low]) := by
  have hn := vs_nodup h
  obtain ⟨hk2, hkf⟩ := stK_one.1 hs
  have hld := lookKp_d hK a
  have hput := entsK_done hn hk2
  obtain ⟨d1, d2, d3, b1, b2, b3, hdv, hbv⟩ := kp_form hld
  have hlk := look_at0 K a
  obtain ⟨H1, l1, h1, y⟩ := h.box #[.int .i64 a.1, .int .i64 a.2] 28
  have en1 := (Env.refl w).alloc (.cells #[.int .i64 a.1, .int .i64 a.2] 28)
  have hS := vsStatus_any p room K M low a H1 fr _ h1 (hK.mono l1)
  rw [hs] at hS
  replace hS := Lib.hid hS
  have hMk := fun g (w' : World) H' (h' : St H' (FrI g M :: fr) w') => frMark g M a H' fr w' h'
  have hfin : ∀ (w' : World) (H' : Hp), Hp.le H H' → St H' (VsA p room (doneK a K) (markL a M) low :: fr) w' → Env w w' → Res H fr w (.bool (mayM a M)) [VsA p room (doneK a K) (markL a M) low] (.returned (.bool (mayM a M))) w' := fun w' H' hl h2 h3 => ⟨rfl, h2.weaken hl, h3⟩
  generalize Res H fr w (.bool (mayM a M)) [VsA p room (doneK a K) (markL a M) low] = Q at *
  obtain ⟨r, s⟩ := a
  have y0 := y 0 _ rfl
  have y1 := y 1 _ rfl
  have v0 := h1.cell y0
  have v1 := h1.cell y1
  have vl := World.block_lt_of_cell? _ _ v0
  generalize doneK (r, s) K = K' at *
  generalize lookKp K (r, s) = z at *
  obtain ⟨⟨⟨⟨x0, x1⟩, xq, xd, xb, xD, xB⟩, xo⟩, xk⟩ := z
  try simp only at hdv hbv hlk hput hkf hk2
  subst hdv hbv hkf hk2
  replace hput := Lib.hid hput
  replace hlk := Lib.hid hlk
  replace hMk := Lib.hid hMk
  clear y h hn hs hK hld
  go_enter Try.func42, Try.ntmps42
  go_wp2_with fail
  generalize w.alloc (.cells #[.int .i64 r, .int .i64 s] 28) = W1 at *
  generalize w.heap.size = gb at *
  refine hS.out.mono ?_
  rintro e w2 ⟨rfl, hb2⟩
  have h2 := h1.below hb2
  have en2 := en1.trans (bel_env hb2)
  clear v0 v1 vl hS hb2 h1 en1
  obtain ⟨g, f, h3⟩ := vsOpen h2
  clear h2
  have kk : ∀ w', St H1 (Blk p (vsC room g f low) 120 :: Mp kpC g (entsK K) :: FrI f M :: fr) w' → (fun w' : World => w'.cell? ⟨p, 1, none⟩ = some (.map (some g)) ∧ w'.cell? ⟨gb, 0, none⟩ = some (.int .i64 r) ∧ w'.cell? ⟨gb, 1, none⟩ = some (.int .i64 s) ∧ (Instr.lookup 116 (.map (some g)) (.agg #[.int .i64 r, .int .i64 s]) false).run Try.prog w' = .ok (.agg #[.int .i64 x0, .int .i64 x1, .int .i64 xq, .slice d1 d2 d3, .slice b1 b2 b3, .bool false]) w') w' := fun w' h' => ⟨h'.blk_cell 1, h'.cell y0, h'.cell y1, by
    have := h'.swap.mp_get false (t := 116) Try.underlying116 (zero_kp _) (r, s)
    rw [hlk.out] at this
    exact this⟩
  have hD := h3.drew
  have cl := h3.blk_lt
  go_wp2_with fail
  generalize hgk : w2.heap.size = gk at *
  refine wp_region_held_drew (S := (fun w' : World => w'.cell? ⟨p, 1, none⟩ = some (.map (some g)) ∧ w'.cell? ⟨gb, 0, none⟩ = some (.int .i64 r) ∧ w'.cell? ⟨gb, 1, none⟩ = some (.int .i64 s) ∧ (Instr.lookup 116 (.map (some g)) (.agg #[.int .i64 r, .int .i64 s]) false).run Try.prog w' = .ok (.agg #[.int .i64 x0, .int .i64 x1, .int .i64 xq, .slice d1 d2 d3, .slice b1 b2 b3, .bool false]) w')) (by kernel_rfl) (kk _ hD) (fun hHeld => ?_)
  refine wpAnyH_take (i := 0) (oi := { dst := some 10, op := Go.Op.move (Go.Operand.tmp 0), type := 67, pos := "vertex.go:99", after := #[], guard := none }) (v := ?_) rfl (by kernel_rfl) (by kernel_rfl) (by kernel_rfl) (fun _ _ _ h => h) (Or.inl ⟨by rfl, ?_⟩) (by assumption) ?_
  rotate_left
  · (intro w hSw; (try dsimp only at hSw); go_simp; (try (with_reducible rfl)))
  try simp only [Act.put, List.setIfInBounds_toArray, List.set_cons_zero, List.set_cons_succ]
  refine wpAnyH_take (i := 1) (oi := { dst := some 11, op := Go.Op.nilCheck (Go.Operand.tmp 10), type := 0, pos := "vertex.go:99", after := #[{ on := 0, ground := Go.Ground.data }], guard := none }) (v := ?_) rfl (by kernel_rfl) (by kernel_rfl) (by kernel_rfl) (fun _ _ _ h => h) (Or.inl ⟨by rfl, ?_⟩) (by assumption) ?_
  rotate_left
  · (intro w hSw; (try dsimp only at hSw); go_simp; (try (with_reducible rfl)))
  try simp only [Act.put, List.setIfInBounds_toArray, List.set_cons_zero, List.set_cons_succ]
  refine wpAnyH_take (i := 2) (oi := { dst := some 12, op := Go.Op.fieldAddr 120 (Go.Operand.tmp 11) 1, type := 0, pos := "vertex.go:99", after := #[{ on := 1, ground := Go.Ground.data }], guard := none }) (v := ?_) rfl (by kernel_rfl) (by kernel_rfl) (by kernel_rfl) (fun _ _ _ h => h) (Or.inl ⟨by rfl, ?_⟩) (by assumption) ?_
  rotate_left
  · (intro w hSw; (try dsimp only at hSw); go_simp; (try (with_reducible rfl)))
  try simp only [Act.put, List.setIfInBounds_toArray, List.set_cons_zero, List.set_cons_succ]
  refine wpAnyH_take (i := 3) (oi := { dst := some 13, op := Go.Op.load 116 (Go.Operand.tmp 12), type := 116, pos := "vertex.go:99", after := #[{ on := 2, ground := Go.Ground.data }], guard := none }) (v := ?_) rfl (by kernel_rfl) (by kernel_rfl) (by kernel_rfl) (fun _ _ _ h => h) (Or.inl ⟨by rfl, ?_⟩) (by assumption) ?_
  rotate_left
  · (intro w hSw; (try dsimp only at hSw); go_simp; (try (with_reducible rfl)))
  try simp only [Act.put, List.setIfInBounds_toArray, List.set_cons_zero, List.set_cons_succ]
  refine wpAnyH_take (i := 4) (oi := { dst := some 14, op := Go.Op.load 28 (Go.Operand.tmp 3), type := 28, pos := "vertex.go:99", after := #[], guard := none }) (v := ?_) rfl (by kernel_rfl) (by kernel_rfl) (by kernel_rfl) (fun _ _ _ h => h) (Or.inl ⟨by rfl, ?_⟩) (by assumption) ?_
  rotate_left
  · (intro w hSw; (try dsimp only at hSw); go_simp; (try (with_reducible rfl)))
  try simp only [Act.put, List.setIfInBounds_toArray, List.set_cons_zero, List.set_cons_succ]
  refine wpAnyH_take (i := 5) (oi := { dst := some 15, op := Go.Op.lookup 116 (Go.Operand.tmp 13) (Go.Operand.tmp 14) false, type := 122, pos := "vertex.go:99", after := #[{ on := 3, ground := Go.Ground.data }, { on := 4, ground := Go.Ground.data }], guard := none }) (v := ?_) rfl (by kernel_rfl) (by kernel_rfl) (by kernel_rfl) (fun _ _ _ h => h) (Or.inl ⟨by rfl, ?_⟩) (by assumption) ?_
  rotate_left
  · (intro w hSw; (try dsimp only at hSw); go_simp; (try (with_reducible rfl)))
  try simp only [Act.put, List.setIfInBounds_toArray, List.set_cons_zero, List.set_cons_succ]
  refine wpAnyH_ready (rs := [6]) (by kernel_rfl) (by simp) ?_
  refine AllReadyH.cons (o := { dst := some 5, op := Go.Op.alloc 122, type := 0, pos := "vertex.go:99", after := #[], guard := none }) rfl (fun K hK => ?_) AllReadyH.nil
  go_simp
  refine hK.out _ _ (kk _ (hD.alloc _)) (fun hHeld2 => ?_)
  clear hK K hHeld
  try simp only [Act.put, List.setIfInBounds_toArray, List.set_cons_zero, List.set_cons_succ]
  refine wpAnyH_ready (rs := [7]) (by kernel_rfl) (by simp) ?_
  refine AllReadyH.cons (o := { dst := none, op := Go.Op.store 122 (Go.Operand.tmp 5) (Go.Operand.tmp 15), type := 0, pos := "vertex.go:99", after := #[{ on := 6, ground := Go.Ground.data }, { on := 5, ground := Go.Ground.data }, { on := 0, ground := Go.Ground.phase }, { on := 1, ground := Go.Ground.phase }, { on := 2, ground := Go.Ground.phase }, { on := 3, ground := Go.Ground.phase }, { on := 4, ground := Go.Ground.phase }, { on := 5, ground := Go.Ground.phase }, { on := 6, ground := Go.Ground.phase }], guard := none }) rfl (fun K hK => ?_) AllReadyH.nil
  go_simp
  refine hK.out _ _ (kk _ ((h3.alloc _).drew)) (fun hHeld3 => ?_)
  clear hK K hHeld2
  try simp only [Act.put, List.setIfInBounds_toArray, List.set_cons_zero, List.set_cons_succ]
  refine wpAnyH_done (by kernel_rfl) ?_ _
  have h4 := h3.blk #[.int .i64 x0, .int .i64 x1, .int .i64 xq, .slice d1 d2 d3, .slice b1 b2 b3, .bool false] 122
  have en3 := (en2.alloc (.cells #[.int .i64 x0, .int .i64 x1, .int .i64 xq, .slice d1 d2 d3, .slice b1 b2 b3, .bool false] 122)).drew
  rw [hgk] at h4
  have hE := h4.drew
  clear hHeld3 kk hD h4 h3 cl en2 hlk
  generalize (w2.alloc (.cells #[.int .i64 x0, .int .i64 x1, .int .i64 xq, .slice d1 d2 d3, .slice b1 b2 b3, .bool false] 122)).drew = W3 at *
  have u5 := hE.blk_cell 5
  have uf5 := hE.blk_free 5
  have ul := hE.blk_lt
  have hF : St H1 (Blk gk #[.int .i64 x0, .int .i64 x1, .int .i64 xq, .slice d1 d2 d3, .slice b1 b2 b3, .bool true] 122 :: Blk p (vsC room g f low) 120 :: Mp kpC g (entsK K) :: FrI f M :: fr) (W3.setCell ⟨gk, 5, none⟩ (.bool true)) := hE.blk_set 5 (.bool true)
  have en4 := en3.setCell ⟨gk, 5, none⟩ (.bool true)
  obtain ⟨H2, l2, h5, kc⟩ := St.blk_for_good hF
  go_wp2_with fail
  generalize W3.setCell ⟨gk, 5, none⟩ (.bool true) = W5 at *
  clear hF hE u5 uf5 ul en3
  replace y0 := Hp.cell_le l2 y0
  replace y1 := Hp.cell_le l2 y1
  have m0 := kc 0
  have m1 := kc 1
  have m2 := kc 2
  have m3 := kc 3
  have m4 := kc 4
  have m5 := kc 5
  clear kc
  have kk : ∀ (l' : List HA) (w' : World), St H2 (Blk p (vsC room g f low) 120 :: l') w' → (fun w' : World => w'.cell? ⟨p, 1, none⟩ = some (.map (some g)) ∧ w'.cell? ⟨gb, 0, none⟩ = some (.int .i64 r) ∧ w'.cell? ⟨gb, 1, none⟩ = some (.int .i64 s) ∧ w'.cell? ⟨gk, 0, none⟩ = some (.int .i64 x0) ∧ w'.cell? ⟨gk, 1, none⟩ = some (.int .i64 x1) ∧ w'.cell? ⟨gk, 2, none⟩ = some (.int .i64 xq) ∧ w'.cell? ⟨gk, 3, none⟩ = some (.slice d1 d2 d3) ∧ w'.cell? ⟨gk, 4, none⟩ = some (.slice b1 b2 b3) ∧ w'.cell? ⟨gk, 5, none⟩ = some (.bool true)) w' := fun l' w' h => ⟨h.blk_cell 1, h.cell y0, h.cell y1, h.cell m0, h.cell m1, h.cell m2, h.cell m3, h.cell m4, h.cell m5⟩
  have hD := h5.drew
  have cl := h5.blk_lt
  obtain ⟨w6, hmu, h6, en6⟩ := hD.swap.mp_put (t := 116) Try.underlying116 (r, s) (((x0, x1), xq, .slice d1 d2 d3, .slice b1 b2 b3, xD, xB), true)
  change (Instr.mapUpdate 116 (.map (some g)) (.agg #[.int .i64 r, .int .i64 s]) (.agg #[.int .i64 x0, .int .i64 x1, .int .i64 xq, .slice d1 d2 d3, .slice b1 b2 b3, .bool true])).run Try.prog W5.drew = .ok () w6 at hmu
  rw [hput.out] at h6
  refine wp_region_held_drew (S := (fun w' : World => w'.cell? ⟨p, 1, none⟩ = some (.map (some g)) ∧ w'.cell? ⟨gb, 0, none⟩ = some (.int .i64 r) ∧ w'.cell? ⟨gb, 1, none⟩ = some (.int .i64 s) ∧ w'.cell? ⟨gk, 0, none⟩ = some (.int .i64 x0) ∧ w'.cell? ⟨gk, 1, none⟩ = some (.int .i64 x1) ∧ w'.cell? ⟨gk, 2, none⟩ = some (.int .i64 xq) ∧ w'.cell? ⟨gk, 3, none⟩ = some (.slice d1 d2 d3) ∧ w'.cell? ⟨gk, 4, none⟩ = some (.slice b1 b2 b3) ∧ w'.cell? ⟨gk, 5, none⟩ = some (.bool true))) (by kernel_rfl) (kk _ _ hD) (fun hHeld => ?_)
  refine wpAnyH_take (i := 0) (oi := { dst := some 17, op := Go.Op.move (Go.Operand.tmp 0), type := 67, pos := "vertex.go:101", after := #[], guard := none }) (v := ?_) rfl (by kernel_rfl) (by kernel_rfl) (by kernel_rfl) (fun _ _ _ h => h) (Or.inl ⟨by rfl, ?_⟩) (by assumption) ?_
  rotate_left
  · (intro w hSw; (try dsimp only at hSw); go_simp; (try (with_reducible rfl)))
  try simp only [Act.put, List.setIfInBounds_toArray, List.set_cons_zero, List.set_cons_succ]
  refine wpAnyH_take (i := 1) (oi := { dst := some 18, op := Go.Op.nilCheck (Go.Operand.tmp 17), type := 0, pos := "vertex.go:101", after := #[{ on := 0, ground := Go.Ground.data }], guard := none }) (v := ?_) rfl (by kernel_rfl) (by kernel_rfl) (by kernel_rfl) (fun _ _ _ h => h) (Or.inl ⟨by rfl, ?_⟩) (by assumption) ?_
  rotate_left
  · (intro w hSw; (try dsimp only at hSw); go_simp; (try (with_reducible rfl)))
  try simp only [Act.put, List.setIfInBounds_toArray, List.set_cons_zero, List.set_cons_succ]
  refine wpAnyH_take (i := 2) (oi := { dst := some 19, op := Go.Op.fieldAddr 120 (Go.Operand.tmp 18) 1, type := 0, pos := "vertex.go:101", after := #[{ on := 1, ground := Go.Ground.data }], guard := none }) (v := ?_) rfl (by kernel_rfl) (by kernel_rfl) (by kernel_rfl) (fun _ _ _ h => h) (Or.inl ⟨by rfl, ?_⟩) (by assumption) ?_
  rotate_left
  · (intro w hSw; (try dsimp only at hSw); go_simp; (try (with_reducible rfl)))
  try simp only [Act.put, List.setIfInBounds_toArray, List.set_cons_zero, List.set_cons_succ]
  refine wpAnyH_take (i := 3) (oi := { dst := some 20, op := Go.Op.load 116 (Go.Operand.tmp 19), type := 116, pos := "vertex.go:101", after := #[{ on := 2, ground := Go.Ground.data }], guard := none }) (v := ?_) rfl (by kernel_rfl) (by kernel_rfl) (by kernel_rfl) (fun _ _ _ h => h) (Or.inl ⟨by rfl, ?_⟩) (by assumption) ?_
  rotate_left
  · (intro w hSw; (try dsimp only at hSw); go_simp; (try (with_reducible rfl)))
  try simp only [Act.put, List.setIfInBounds_toArray, List.set_cons_zero, List.set_cons_succ]
  refine wpAnyH_take (i := 4) (oi := { dst := some 21, op := Go.Op.load 28 (Go.Operand.tmp 3), type := 28, pos := "vertex.go:101", after := #[], guard := none }) (v := ?_) rfl (by kernel_rfl) (by kernel_rfl) (by kernel_rfl) (fun _ _ _ h => h) (Or.inl ⟨by rfl, ?_⟩) (by assumption) ?_
  rotate_left
  · (intro w hSw; (try dsimp only at hSw); go_simp; (try (with_reducible rfl)))
  try simp only [Act.put, List.setIfInBounds_toArray, List.set_cons_zero, List.set_cons_succ]
  refine wpAnyH_take (i := 5) (oi := { dst := some 22, op := Go.Op.load 122 (Go.Operand.tmp 5), type := 122, pos := "vertex.go:101", after := #[], guard := none }) (v := ?_) rfl (by kernel_rfl) (by kernel_rfl) (by kernel_rfl) (fun _ _ _ h => h) (Or.inl ⟨by rfl, ?_⟩) (by assumption) ?_
  rotate_left
  · (intro w hSw; (try dsimp only at hSw); go_simp; (try (with_reducible rfl)))
  try simp only [Act.put, List.setIfInBounds_toArray, List.set_cons_zero, List.set_cons_succ]
  refine wpAnyH_ready (rs := [6]) (by kernel_rfl) (by simp) ?_
  refine AllReadyH.cons (o := { dst := none, op := Go.Op.mapUpdate 116 (Go.Operand.tmp 20) (Go.Operand.tmp 21) (Go.Operand.tmp 22), type := 0, pos := "vertex.go:101", after := #[{ on := 3, ground := Go.Ground.data }, { on := 4, ground := Go.Ground.data }, { on := 5, ground := Go.Ground.data }, { on := 0, ground := Go.Ground.phase }, { on := 1, ground := Go.Ground.phase }, { on := 2, ground := Go.Ground.phase }, { on := 3, ground := Go.Ground.phase }, { on := 4, ground := Go.Ground.phase }, { on := 5, ground := Go.Ground.phase }], guard := none }) rfl (fun K hK => ?_) AllReadyH.nil
  go_simp
  refine hK.out _ _ (kk _ _ h6.swap) (fun hHeld2 => ?_)
  clear hK K hHeld
  try simp only [Act.put, List.setIfInBounds_toArray, List.set_cons_zero, List.set_cons_succ]
  refine wpAnyH_done (by kernel_rfl) ?_ _
  clear kk hHeld2 hD cl h5 hmu
  have h7 := h6.swap
  have c2 : w6.cell? ⟨p, 2, none⟩ = some (frP f) := h7.blk_cell 2
  have cl := h7.blk_lt
  have v0 := h7.cell y0
  have v1 := h7.cell y1
  have vl := World.block_lt_of_cell? _ _ v0
  have en7 := (en4.trans ((Env.refl W5).drew)).trans en6
  have kk2 : ∀ (l' : List HA) (w' : World), St H2 (Blk p (vsC room g f low) 120 :: l') w' → (fun w' : World => w'.cell? ⟨p, 2, none⟩ = some (frP f) ∧ w'.cell? ⟨gb, 0, none⟩ = some (.int .i64 r) ∧ w'.cell? ⟨gb, 1, none⟩ = some (.int .i64 s)) w' := fun l' w' h => ⟨h.blk_cell 2, h.cell y0, h.cell y1⟩
  have hD := h7.drew
  have hP := frMark f M (r, s) H2 (Blk p (vsC room g f low) 120 :: Mp kpC g (entsK K') :: fr) _ (hD.pick 2 (by simp))
  replace hP := Lib.hid hP
  go_wp2_with fail
  refine wp_region_held_drew (S := fun w' : World => w'.cell? ⟨p, 2, none⟩ = some (frP f) ∧ w'.cell? ⟨gb, 0, none⟩ = some (.int .i64 r) ∧ w'.cell? ⟨gb, 1, none⟩ = some (.int .i64 s)) (by kernel_rfl) (kk2 _ _ hD) (fun hHeld => ?_)
  refine wpAnyH_take (i := 0) (oi := { dst := some 23, op := Go.Op.move (Go.Operand.tmp 0), type := 67, pos := "vertex.go:102", after := #[], guard := none }) (v := ?_) rfl (by kernel_rfl) (by kernel_rfl) (by kernel_rfl) (fun _ _ _ h => h) (Or.inl ⟨by rfl, ?_⟩) (by assumption) ?_
  rotate_left
  · (intro w hSw; (try dsimp only at hSw); go_simp; (try (with_reducible rfl)))
  try simp only [Act.put, List.setIfInBounds_toArray, List.set_cons_zero, List.set_cons_succ]
  refine wpAnyH_take (i := 1) (oi := { dst := some 24, op := Go.Op.nilCheck (Go.Operand.tmp 23), type := 0, pos := "vertex.go:102", after := #[{ on := 0, ground := Go.Ground.data }], guard := none }) (v := ?_) rfl (by kernel_rfl) (by kernel_rfl) (by kernel_rfl) (fun _ _ _ h => h) (Or.inl ⟨by rfl, ?_⟩) (by assumption) ?_
  rotate_left
  · (intro w hSw; (try dsimp only at hSw); go_simp; (try (with_reducible rfl)))
  try simp only [Act.put, List.setIfInBounds_toArray, List.set_cons_zero, List.set_cons_succ]
  refine wpAnyH_take (i := 2) (oi := { dst := some 25, op := Go.Op.fieldAddr 120 (Go.Operand.tmp 24) 2, type := 0, pos := "vertex.go:102", after := #[{ on := 1, ground := Go.Ground.data }], guard := none }) (v := ?_) rfl (by kernel_rfl) (by kernel_rfl) (by kernel_rfl) (fun _ _ _ h => h) (Or.inl ⟨by rfl, ?_⟩) (by assumption) ?_
  rotate_left
  · (intro w hSw; (try dsimp only at hSw); go_simp; (try (with_reducible rfl)))
  try simp only [Act.put, List.setIfInBounds_toArray, List.set_cons_zero, List.set_cons_succ]
  refine wpAnyH_take (i := 3) (oi := { dst := some 26, op := Go.Op.load 117 (Go.Operand.tmp 25), type := 117, pos := "vertex.go:102", after := #[{ on := 2, ground := Go.Ground.data }], guard := none }) (v := ?_) rfl (by kernel_rfl) (by kernel_rfl) (by kernel_rfl) (fun _ _ _ h => h) (Or.inl ⟨by rfl, ?_⟩) (by assumption) ?_
  rotate_left
  · (intro w hSw; (try dsimp only at hSw); go_simp; (try (with_reducible rfl)))
  try simp only [Act.put, List.setIfInBounds_toArray, List.set_cons_zero, List.set_cons_succ]
  refine wpAnyH_take (i := 4) (oi := { dst := some 27, op := Go.Op.load 28 (Go.Operand.tmp 3), type := 28, pos := "vertex.go:102", after := #[], guard := none }) (v := ?_) rfl (by kernel_rfl) (by kernel_rfl) (by kernel_rfl) (fun _ _ _ h => h) (Or.inl ⟨by rfl, ?_⟩) (by assumption) ?_
  rotate_left
  · (intro w hSw; (try dsimp only at hSw); go_simp; (try (with_reducible rfl)))
  try simp only [Act.put, List.setIfInBounds_toArray, List.set_cons_zero, List.set_cons_succ]
  refine wpAnyH_ready (rs := [5]) (by kernel_rfl) (by simp) ?_
  refine AllReadyH.cons (o := { dst := some 28, op := Go.Op.call { callee := Go.Callee.value (Go.Operand.func 83), args := #[Go.Operand.tmp 26, Go.Operand.tmp 27], argTypes := #[117, 28] }, type := 4, pos := "vertex.go:102", after := #[{ on := 3, ground := Go.Ground.data }, { on := 4, ground := Go.Ground.data }], guard := none }) rfl (fun K hK => ?_) AllReadyH.nil
  go_simp
  refine hP.out.mono ?_
  rintro e w8 ⟨rfl, h8, en8⟩
  refine hK.out _ _ (kk2 _ _ h8.swap) (fun hHeld2 => ?_)
  clear hK K hHeld
  try simp only [Act.put, List.setIfInBounds_toArray, List.set_cons_zero, List.set_cons_succ]
  refine wpAnyH_take (i := 6) (oi := { dst := some 4, op := Go.Op.assign (Go.Operand.tmp 28), type := 4, pos := "vertex.go:102", after := #[{ on := 5, ground := Go.Ground.data }, { on := 5, ground := Go.Ground.chain }, { on := 0, ground := Go.Ground.phase }, { on := 1, ground := Go.Ground.phase }, { on := 2, ground := Go.Ground.phase }, { on := 3, ground := Go.Ground.phase }, { on := 4, ground := Go.Ground.phase }, { on := 5, ground := Go.Ground.phase }], guard := none }) (v := ?_) rfl (by kernel_rfl) (by kernel_rfl) (by kernel_rfl) (fun _ _ _ h => h) (Or.inl ⟨by rfl, ?_⟩) (by assumption) ?_
  rotate_left
  · (intro w hSw; (try dsimp only at hSw); go_simp; (try (with_reducible rfl)))
  try simp only [Act.put, List.setIfInBounds_toArray, List.set_cons_zero, List.set_cons_succ]
  refine wpAnyH_done (by kernel_rfl) ?_ _
  have hz := hfin w8 H2 (Hp.le_trans l1 l2) (vsShut (h8.swap.perm (List.Perm.cons _ (List.Perm.swap _ _ _)))) ((en7.trans ((Env.refl w6).drew)).trans en8)
  replace hz := Lib.hid hz
  go_wp2_with fail
  exact hz.out
end Go.Proofs.Ytelmhcbdpimaaaa
