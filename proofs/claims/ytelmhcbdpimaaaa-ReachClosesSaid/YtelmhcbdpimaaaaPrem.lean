/- The premise: two records. -/
import Derived.Test.YtelmhcbdpimaaaaConf2
import Derived.Test.YtelmhcbdpimaaaaFew
set_option linter.unusedVariables false
set_option linter.unusedSimpArgs false
namespace Go.Proofs.Ytelmhcbdpimaaaa
open Go.RowKit Go.Cw Go.Fl
attribute [local go_sem ↓] eql_id neq_id
def linkR (x y : Rp) : Bool := decide (y.1 ∈ x.2.2.1) || decide (x.1 ∈ y.2.2.1)
def lackR (x y : Rp) : Bool := batConf x.2.2.2 y.2.2.2 && !linkR x y
/-- A record's cells at p, for good. -/
def RcAt (H : Hp) (p : Nat) (x : Rc) : Prop := H.cell p 0 = some (.int .i64 x.1.1) ∧ H.cell p 1 = some (.int .i64 x.1.2) ∧ H.cell p 2 = some (.int .i64 x.2.1) ∧ H.cell p 3 = some x.2.2.1 ∧ H.cell p 4 = some x.2.2.2.1
abbrev rcA (x : Rc) : Array Value := #[.int .i64 x.1.1, .int .i64 x.1.2, .int .i64 x.2.1, x.2.2.1, x.2.2.2.1]
theorem RcAt.mono {H H' : Hp} {p : Nat} {x : Rc} (h : RcAt H p x) (hl : Hp.le H H') : RcAt H' p x := ⟨Hp.cell_le hl h.1, Hp.cell_le hl h.2.1, Hp.cell_le hl h.2.2.1, Hp.cell_le hl h.2.2.2.1, Hp.cell_le hl h.2.2.2.2⟩
theorem St.rcBox {H : Hp} {l : List HA} {w : World} (h : St H l w) (x : Rc) : ∃ H', Hp.le H H' ∧ St H' l (w.alloc (.cells (rcA x) 32)) ∧ RcAt H' w.heap.size x := by
  obtain ⟨H1, l1, h1, y⟩ := h.box (rcA x) 32
  exact ⟨H1, l1, h1, y 0 _ rfl, y 1 _ rfl, y 2 _ rfl, y 3 _ rfl, y 4 _ rfl⟩
/-- Two boxes for records. -/
theorem twoRc {H : Hp} {l : List HA} (x y : Rc) (w : World) (h : St H l w) : ∃ W, W = (w.alloc (.cells (rcA x) 32)).alloc (.cells (rcA y) 32) ∧ Below w.heap.size w W ∧
    ∃ H', Hp.le H H' ∧ St H' l W ∧ RcAt H' w.heap.size x ∧ RcAt H' (w.heap.size + 1) y := by
  obtain ⟨H1, l1, h1, a⟩ := St.rcBox h x
  obtain ⟨H2, l2, h2, b⟩ := St.rcBox h1 y
  have e1 : (w.alloc (.cells (rcA x) 32)).heap.size = w.heap.size + 1 := by simp
  rw [e1] at b
  exact ⟨_, rfl, ((Below.refl _ _).alloc (Nat.le_refl _) _).alloc (by simp) _, H2, Hp.le_trans l1 l2, h2, a.mono l2, b⟩
set_option maxRecDepth 100000 in
set_option maxHeartbeats 3200000 in
theorem linked_any (x y : Rc) (w : World) (hx : RcR w x) (hy : RcR w y) : Calls Try.prog 72 #[recV x, recV y] w fun e w' => e = .returned (.bool (linkR (rp x) (rp y))) ∧ Below w.heap.size w w' := by
  obtain ⟨W, hW, bel, H, hle, h1, a, b⟩ := twoRc x y w (St.start w)
  have hA := fun w' (h' : St H [] w') => identHas_any x.2.2.1 x.2.2.2.2.1 y.1 w' ((hx.d.rd.mono hle).rw h')
  have hB := fun w' (h' : St H [] w') => identHas_any y.2.2.1 y.2.2.2.2.1 x.1 w' ((hy.d.rd.mono hle).rw h')
  obtain ⟨R, hR⟩ : ∃ R, linkR (rp x) (rp y) = R := ⟨_, rfl⟩
  rw [hR]
  unfold linkR at hR
  obtain ⟨d1, d2, d3, hdv, _⟩ := hx.d.form
  obtain ⟨b1, b2, b3, hbv, _⟩ := hx.b.form
  obtain ⟨e1, e2, e3, hev, _⟩ := hy.d.form
  obtain ⟨f1, f2, f3, hfv, _⟩ := hy.b.form
  obtain ⟨⟨r, s⟩, q, dv, bv, D, Bt⟩ := x
  obtain ⟨⟨r', s'⟩, q', dv', bv', D', Bt'⟩ := y
  simp only at hdv hbv hev hfv hA hB hR hW
  subst hdv hbv hev hfv hW
  clear hx hy hle
  have u0 := h1.cell a.1
  have u1 := h1.cell a.2.1
  have u2 := h1.cell a.2.2.1
  have u3 := h1.cell a.2.2.2.1
  have u4 := h1.cell a.2.2.2.2
  have ul := World.block_lt_of_cell? _ _ u0
  simp only at u0 u1 u2 u3 u4
  have v0 := h1.cell b.1
  have v1 := h1.cell b.2.1
  have v2 := h1.cell b.2.2.1
  have v3 := h1.cell b.2.2.2.1
  have v4 := h1.cell b.2.2.2.2
  have vl := World.block_lt_of_cell? _ _ v0
  simp only at v0 v1 v2 v3 v4
  by_cases hm : ((r', s') : Id) ∈ D
  · rw [decide_eq_true hm, Bool.true_or] at hR
    subst hR
    simp only [decide_eq_true hm] at hA
    replace hA := Lib.hid hA
    clear hm hB
    go_enter Try.func72, Try.ntmps72
    go_wp2_with fail
    refine (hA.out _ h1).mono ?_
    rintro e w2 ⟨rfl, hb2⟩
    have h2 := h1.below hb2
    clear u0 u1 u2 u3 u4 ul
    clear v0 v1 v2 v3 v4 vl
    have u0 := h2.cell a.1
    have u1 := h2.cell a.2.1
    have u2 := h2.cell a.2.2.1
    have u3 := h2.cell a.2.2.2.1
    have u4 := h2.cell a.2.2.2.2
    have ul := World.block_lt_of_cell? _ _ u0
    simp only at u0 u1 u2 u3 u4
    have v0 := h2.cell b.1
    have v1 := h2.cell b.2.1
    have v2 := h2.cell b.2.2.1
    have v3 := h2.cell b.2.2.2.1
    have v4 := h2.cell b.2.2.2.2
    have vl := World.block_lt_of_cell? _ _ v0
    simp only at v0 v1 v2 v3 v4
    go_wp2_with fail
    go_ret
    exact ⟨rfl, bel.trans (hb2.mono bel.size)⟩
  · rw [decide_eq_false hm, Bool.false_or] at hR
    simp only [decide_eq_false hm] at hA
    simp only [hR] at hB
    replace hA := Lib.hid hA
    replace hB := Lib.hid hB
    clear hm hR
    go_enter Try.func72, Try.ntmps72
    go_wp2_with fail
    refine (hA.out _ h1).mono ?_
    rintro e w2 ⟨rfl, hb2⟩
    have h2 := h1.below hb2
    clear u0 u1 u2 u3 u4 ul
    clear v0 v1 v2 v3 v4 vl
    have u0 := h2.cell a.1
    have u1 := h2.cell a.2.1
    have u2 := h2.cell a.2.2.1
    have u3 := h2.cell a.2.2.2.1
    have u4 := h2.cell a.2.2.2.2
    have ul := World.block_lt_of_cell? _ _ u0
    simp only at u0 u1 u2 u3 u4
    have v0 := h2.cell b.1
    have v1 := h2.cell b.2.1
    have v2 := h2.cell b.2.2.1
    have v3 := h2.cell b.2.2.2.1
    have v4 := h2.cell b.2.2.2.2
    have vl := World.block_lt_of_cell? _ _ v0
    simp only at v0 v1 v2 v3 v4
    go_wp2_with fail
    refine (hB.out _ h2).mono ?_
    rintro e w3 ⟨rfl, hb3⟩
    go_wp2_with fail
    go_ret
    exact ⟨rfl, (bel.trans (hb2.mono bel.size)).trans (hb3.mono (Nat.le_trans bel.size hb2.size))⟩
set_option maxRecDepth 100000 in
set_option maxHeartbeats 3200000 in
theorem refEdge_any (x y : Rc) (w : World) (hx : RcR w x) (hy : RcR w y) : Calls Try.prog 26 #[recV x, recV y] w fun e w' => e = .returned (.bool (linkR (rp x) (rp y))) ∧ Below w.heap.size w w' := by
  obtain ⟨W, hW, bel, H, hle, h1, a, b⟩ := twoRc x y w (St.start w)
  have hA := fun w' (h' : St H [] w') => hasIds_any x.2.2.1 x.2.2.2.2.1 y.1 w' ((hx.d.rd.mono hle).rw h')
  have hB := fun w' (h' : St H [] w') => hasIds_any y.2.2.1 y.2.2.2.2.1 x.1 w' ((hy.d.rd.mono hle).rw h')
  obtain ⟨R, hR⟩ : ∃ R, linkR (rp x) (rp y) = R := ⟨_, rfl⟩
  rw [hR]
  unfold linkR at hR
  obtain ⟨d1, d2, d3, hdv, _⟩ := hx.d.form
  obtain ⟨b1, b2, b3, hbv, _⟩ := hx.b.form
  obtain ⟨e1, e2, e3, hev, _⟩ := hy.d.form
  obtain ⟨f1, f2, f3, hfv, _⟩ := hy.b.form
  obtain ⟨⟨r, s⟩, q, dv, bv, D, Bt⟩ := x
  obtain ⟨⟨r', s'⟩, q', dv', bv', D', Bt'⟩ := y
  simp only at hdv hbv hev hfv hA hB hR hW
  subst hdv hbv hev hfv hW
  clear hx hy hle
  have u0 := h1.cell a.1
  have u1 := h1.cell a.2.1
  have u2 := h1.cell a.2.2.1
  have u3 := h1.cell a.2.2.2.1
  have u4 := h1.cell a.2.2.2.2
  have ul := World.block_lt_of_cell? _ _ u0
  simp only at u0 u1 u2 u3 u4
  have v0 := h1.cell b.1
  have v1 := h1.cell b.2.1
  have v2 := h1.cell b.2.2.1
  have v3 := h1.cell b.2.2.2.1
  have v4 := h1.cell b.2.2.2.2
  have vl := World.block_lt_of_cell? _ _ v0
  simp only at v0 v1 v2 v3 v4
  by_cases hm : ((r', s') : Id) ∈ D
  · rw [decide_eq_true hm, Bool.true_or] at hR
    subst hR
    simp only [decide_eq_true hm] at hA
    replace hA := Lib.hid hA
    clear hm hB
    go_enter Try.func26, Try.ntmps26
    go_wp2_with fail
    refine (hA.out _ h1).mono ?_
    rintro e w2 ⟨rfl, hb2⟩
    have h2 := h1.below hb2
    clear u0 u1 u2 u3 u4 ul
    clear v0 v1 v2 v3 v4 vl
    have u0 := h2.cell a.1
    have u1 := h2.cell a.2.1
    have u2 := h2.cell a.2.2.1
    have u3 := h2.cell a.2.2.2.1
    have u4 := h2.cell a.2.2.2.2
    have ul := World.block_lt_of_cell? _ _ u0
    simp only at u0 u1 u2 u3 u4
    have v0 := h2.cell b.1
    have v1 := h2.cell b.2.1
    have v2 := h2.cell b.2.2.1
    have v3 := h2.cell b.2.2.2.1
    have v4 := h2.cell b.2.2.2.2
    have vl := World.block_lt_of_cell? _ _ v0
    simp only at v0 v1 v2 v3 v4
    go_wp2_with fail
    go_ret
    exact ⟨rfl, bel.trans (hb2.mono bel.size)⟩
  · rw [decide_eq_false hm, Bool.false_or] at hR
    simp only [decide_eq_false hm] at hA
    simp only [hR] at hB
    replace hA := Lib.hid hA
    replace hB := Lib.hid hB
    clear hm hR
    go_enter Try.func26, Try.ntmps26
    go_wp2_with fail
    refine (hA.out _ h1).mono ?_
    rintro e w2 ⟨rfl, hb2⟩
    have h2 := h1.below hb2
    clear u0 u1 u2 u3 u4 ul
    clear v0 v1 v2 v3 v4 vl
    have u0 := h2.cell a.1
    have u1 := h2.cell a.2.1
    have u2 := h2.cell a.2.2.1
    have u3 := h2.cell a.2.2.2.1
    have u4 := h2.cell a.2.2.2.2
    have ul := World.block_lt_of_cell? _ _ u0
    simp only at u0 u1 u2 u3 u4
    have v0 := h2.cell b.1
    have v1 := h2.cell b.2.1
    have v2 := h2.cell b.2.2.1
    have v3 := h2.cell b.2.2.2.1
    have v4 := h2.cell b.2.2.2.2
    have vl := World.block_lt_of_cell? _ _ v0
    simp only at v0 v1 v2 v3 v4
    go_wp2_with fail
    refine (hB.out _ h2).mono ?_
    rintro e w3 ⟨rfl, hb3⟩
    go_wp2_with fail
    go_ret
    exact ⟨rfl, (bel.trans (hb2.mono bel.size)).trans (hb3.mono (Nat.le_trans bel.size hb2.size))⟩
set_option maxRecDepth 100000 in
set_option maxHeartbeats 3200000 in
theorem lacks_any (x y : Rc) (w : World) (hx : RcR w x) (hy : RcR w y) : Calls Try.prog 57 #[recV x, recV y] w fun e w' => e = .returned (.bool (lackR (rp x) (rp y))) ∧ Below w.heap.size w w' := by
  obtain ⟨W, hW, bel, H, hle, h1, a, b⟩ := twoRc x y w (St.start w)
  have hA := fun w' (h' : St H [] w') => batConf_any x.2.2.2.1 y.2.2.2.1 x.2.2.2.2.2 y.2.2.2.2.2 hx.ok hy.ok w' ((hx.b.rd.mono hle).rw h') ((hy.b.rd.mono hle).rw h')
  have hB := fun w' (h' : St H [] w') => linked_any x y w' ⟨(hx.d.rd.mono hle).rw h', (hx.b.rd.mono hle).rw h', hx.ok⟩ ⟨(hy.d.rd.mono hle).rw h', (hy.b.rd.mono hle).rw h', hy.ok⟩
  obtain ⟨R, hR⟩ : ∃ R, lackR (rp x) (rp y) = R := ⟨_, rfl⟩
  rw [hR]
  unfold lackR at hR
  obtain ⟨d1, d2, d3, hdv, _⟩ := hx.d.form
  obtain ⟨b1, b2, b3, hbv, _⟩ := hx.b.form
  obtain ⟨e1, e2, e3, hev, _⟩ := hy.d.form
  obtain ⟨f1, f2, f3, hfv, _⟩ := hy.b.form
  obtain ⟨⟨r, s⟩, q, dv, bv, D, Bt⟩ := x
  obtain ⟨⟨r', s'⟩, q', dv', bv', D', Bt'⟩ := y
  simp only at hdv hbv hev hfv hA hB hR hW
  subst hdv hbv hev hfv hW
  clear hx hy hle
  have u0 := h1.cell a.1
  have u1 := h1.cell a.2.1
  have u2 := h1.cell a.2.2.1
  have u3 := h1.cell a.2.2.2.1
  have u4 := h1.cell a.2.2.2.2
  have ul := World.block_lt_of_cell? _ _ u0
  simp only at u0 u1 u2 u3 u4
  have v0 := h1.cell b.1
  have v1 := h1.cell b.2.1
  have v2 := h1.cell b.2.2.1
  have v3 := h1.cell b.2.2.2.1
  have v4 := h1.cell b.2.2.2.2
  have vl := World.block_lt_of_cell? _ _ v0
  simp only at v0 v1 v2 v3 v4
  cases hm : batConf Bt Bt' with
  | false =>
    rw [hm, Bool.false_and] at hR
    subst hR
    rw [hm] at hA
    replace hA := Lib.hid hA
    clear hm hB
    go_enter Try.func57, Try.ntmps57
    go_wp2_with fail
    refine (hA.out _ h1).mono ?_
    rintro e w2 ⟨rfl, hb2⟩
    have h2 := h1.below hb2
    clear u0 u1 u2 u3 u4 ul
    clear v0 v1 v2 v3 v4 vl
    have u0 := h2.cell a.1
    have u1 := h2.cell a.2.1
    have u2 := h2.cell a.2.2.1
    have u3 := h2.cell a.2.2.2.1
    have u4 := h2.cell a.2.2.2.2
    have ul := World.block_lt_of_cell? _ _ u0
    simp only at u0 u1 u2 u3 u4
    have v0 := h2.cell b.1
    have v1 := h2.cell b.2.1
    have v2 := h2.cell b.2.2.1
    have v3 := h2.cell b.2.2.2.1
    have v4 := h2.cell b.2.2.2.2
    have vl := World.block_lt_of_cell? _ _ v0
    simp only at v0 v1 v2 v3 v4
    go_wp2_with fail
    go_ret
    exact ⟨rfl, bel.trans (hb2.mono bel.size)⟩
  | true =>
    rw [hm, Bool.true_and] at hR
    rw [hm] at hA
    obtain ⟨R', hR'⟩ : ∃ R', linkR (rp ((r, s), q, .slice d1 d2 d3, .slice b1 b2 b3, D, Bt)) (rp ((r', s'), q', .slice e1 e2 e3, .slice f1 f2 f3, D', Bt')) = R' := ⟨_, rfl⟩
    rw [hR'] at hR
    simp only [hR'] at hB
    replace hA := Lib.hid hA
    replace hB := Lib.hid hB
    replace hR := Lib.hid hR
    clear hm hR'
    go_enter Try.func57, Try.ntmps57
    go_wp2_with fail
    refine (hA.out _ h1).mono ?_
    rintro e w2 ⟨rfl, hb2⟩
    have h2 := h1.below hb2
    clear u0 u1 u2 u3 u4 ul
    clear v0 v1 v2 v3 v4 vl
    have u0 := h2.cell a.1
    have u1 := h2.cell a.2.1
    have u2 := h2.cell a.2.2.1
    have u3 := h2.cell a.2.2.2.1
    have u4 := h2.cell a.2.2.2.2
    have ul := World.block_lt_of_cell? _ _ u0
    simp only at u0 u1 u2 u3 u4
    have v0 := h2.cell b.1
    have v1 := h2.cell b.2.1
    have v2 := h2.cell b.2.2.1
    have v3 := h2.cell b.2.2.2.1
    have v4 := h2.cell b.2.2.2.2
    have vl := World.block_lt_of_cell? _ _ v0
    simp only at v0 v1 v2 v3 v4
    go_wp2_with fail
    refine (hB.out _ h2).mono ?_
    rintro e w3 ⟨rfl, hb3⟩
    go_wp2_with fail
    go_ret
    exact ⟨rb hR.out, (bel.trans (hb2.mono bel.size)).trans (hb3.mono (Nat.le_trans bel.size hb2.size))⟩
set_option maxRecDepth 100000 in
set_option maxHeartbeats 3200000 in
theorem refLacks_any (x y : Rc) (w : World) (hx : RcR w x) (hy : RcR w y) : Calls Try.prog 59 #[recV x, recV y] w fun e w' => e = .returned (.bool (lackR (rp x) (rp y))) ∧ Below w.heap.size w w' := by
  obtain ⟨W, hW, bel, H, hle, h1, a, b⟩ := twoRc x y w (St.start w)
  have hA := fun w' (h' : St H [] w') => refBatConf_any x.2.2.2.1 y.2.2.2.1 x.2.2.2.2.2 y.2.2.2.2.2 hx.ok hy.ok w' ((hx.b.rd.mono hle).rw h') ((hy.b.rd.mono hle).rw h')
  have hB := fun w' (h' : St H [] w') => refEdge_any x y w' ⟨(hx.d.rd.mono hle).rw h', (hx.b.rd.mono hle).rw h', hx.ok⟩ ⟨(hy.d.rd.mono hle).rw h', (hy.b.rd.mono hle).rw h', hy.ok⟩
  obtain ⟨R, hR⟩ : ∃ R, lackR (rp x) (rp y) = R := ⟨_, rfl⟩
  rw [hR]
  unfold lackR at hR
  obtain ⟨d1, d2, d3, hdv, _⟩ := hx.d.form
  obtain ⟨b1, b2, b3, hbv, _⟩ := hx.b.form
  obtain ⟨e1, e2, e3, hev, _⟩ := hy.d.form
  obtain ⟨f1, f2, f3, hfv, _⟩ := hy.b.form
  obtain ⟨⟨r, s⟩, q, dv, bv, D, Bt⟩ := x
  obtain ⟨⟨r', s'⟩, q', dv', bv', D', Bt'⟩ := y
  simp only at hdv hbv hev hfv hA hB hR hW
  subst hdv hbv hev hfv hW
  clear hx hy hle
  have u0 := h1.cell a.1
  have u1 := h1.cell a.2.1
  have u2 := h1.cell a.2.2.1
  have u3 := h1.cell a.2.2.2.1
  have u4 := h1.cell a.2.2.2.2
  have ul := World.block_lt_of_cell? _ _ u0
  simp only at u0 u1 u2 u3 u4
  have v0 := h1.cell b.1
  have v1 := h1.cell b.2.1
  have v2 := h1.cell b.2.2.1
  have v3 := h1.cell b.2.2.2.1
  have v4 := h1.cell b.2.2.2.2
  have vl := World.block_lt_of_cell? _ _ v0
  simp only at v0 v1 v2 v3 v4
  cases hm : batConf Bt Bt' with
  | false =>
    rw [hm, Bool.false_and] at hR
    subst hR
    rw [hm] at hA
    replace hA := Lib.hid hA
    clear hm hB
    go_enter Try.func59, Try.ntmps59
    go_wp2_with fail
    refine (hA.out _ h1).mono ?_
    rintro e w2 ⟨rfl, hb2⟩
    have h2 := h1.below hb2
    clear u0 u1 u2 u3 u4 ul
    clear v0 v1 v2 v3 v4 vl
    have u0 := h2.cell a.1
    have u1 := h2.cell a.2.1
    have u2 := h2.cell a.2.2.1
    have u3 := h2.cell a.2.2.2.1
    have u4 := h2.cell a.2.2.2.2
    have ul := World.block_lt_of_cell? _ _ u0
    simp only at u0 u1 u2 u3 u4
    have v0 := h2.cell b.1
    have v1 := h2.cell b.2.1
    have v2 := h2.cell b.2.2.1
    have v3 := h2.cell b.2.2.2.1
    have v4 := h2.cell b.2.2.2.2
    have vl := World.block_lt_of_cell? _ _ v0
    simp only at v0 v1 v2 v3 v4
    go_wp2_with fail
    go_ret
    exact ⟨rfl, bel.trans (hb2.mono bel.size)⟩
  | true =>
    rw [hm, Bool.true_and] at hR
    rw [hm] at hA
    obtain ⟨R', hR'⟩ : ∃ R', linkR (rp ((r, s), q, .slice d1 d2 d3, .slice b1 b2 b3, D, Bt)) (rp ((r', s'), q', .slice e1 e2 e3, .slice f1 f2 f3, D', Bt')) = R' := ⟨_, rfl⟩
    rw [hR'] at hR
    simp only [hR'] at hB
    replace hA := Lib.hid hA
    replace hB := Lib.hid hB
    replace hR := Lib.hid hR
    clear hm hR'
    go_enter Try.func59, Try.ntmps59
    go_wp2_with fail
    refine (hA.out _ h1).mono ?_
    rintro e w2 ⟨rfl, hb2⟩
    have h2 := h1.below hb2
    clear u0 u1 u2 u3 u4 ul
    clear v0 v1 v2 v3 v4 vl
    have u0 := h2.cell a.1
    have u1 := h2.cell a.2.1
    have u2 := h2.cell a.2.2.1
    have u3 := h2.cell a.2.2.2.1
    have u4 := h2.cell a.2.2.2.2
    have ul := World.block_lt_of_cell? _ _ u0
    simp only at u0 u1 u2 u3 u4
    have v0 := h2.cell b.1
    have v1 := h2.cell b.2.1
    have v2 := h2.cell b.2.2.1
    have v3 := h2.cell b.2.2.2.1
    have v4 := h2.cell b.2.2.2.2
    have vl := World.block_lt_of_cell? _ _ v0
    simp only at v0 v1 v2 v3 v4
    go_wp2_with fail
    refine (hB.out _ h2).mono ?_
    rintro e w3 ⟨rfl, hb3⟩
    go_wp2_with fail
    go_ret
    exact ⟨rb hR.out, (bel.trans (hb2.mono bel.size)).trans (hb3.mono (Nat.le_trans bel.size hb2.size))⟩
end Go.Proofs.Ytelmhcbdpimaaaa
