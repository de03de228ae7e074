/- Joined texts: Prem, Rnd. -/
import Derived.Laws.Bits64
import Derived.Test.YtohgcghobidfpaaGG4
import Derived.Test.YtohgcghobidfpaaGG11
import Derived.Test.YtohgcghobidfpaaGG17
/- The premise: two records. -/
set_option linter.unusedVariables false
set_option linter.unusedSimpArgs false
namespace Go.Proofs.Ytohgcghobidfpaa
open Go.RowKit Go.Cw Go.Fl
attribute [local go_sem ↓] eql_id neq_id
def linkR (x y : Rp) : Bool := decide (y.1 ∈ x.2.2.1) || decide (x.1 ∈ y.2.2.1)
def lackR (x y : Rp) : Bool := batConf x.2.2.2 y.2.2.2 && !linkR x y
/-- A record's cells at p, for good. -/
def RcAt (H : Hp) (p : Nat) (x : Rc) : Prop := H.cell p 0 = some (.int .i64 x.1.1) ∧ H.cell p 1 = some (.int .i64 x.1.2) ∧ H.cell p 2 = some (.int .i64 x.2.1) ∧ H.cell p 3 = some x.2.2.1 ∧ H.cell p 4 = some x.2.2.2.1
abbrev rcA (x : Rc) : Array Value := #[.int .i64 x.1.1, .int .i64 x.1.2, .int .i64 x.2.1, x.2.2.1, x.2.2.2.1]
theorem RcAt.mono {H H' : Hp} {p : Nat} {x : Rc} (h : RcAt H p x) (hl : Hp.le H H') : RcAt H' p x := ⟨Hp.cell_le hl h.1, Hp.cell_le hl h.2.1, Hp.cell_le hl h.2.2.1, Hp.cell_le hl h.2.2.2.1, Hp.cell_le hl h.2.2.2.2⟩
theorem St.rcBox {H : Hp} {l : List HA} {w : World} (h : St H l w) (x : Rc) : ∃ H', Hp.le H H' ∧ St H' l (w.alloc (.cells (rcA x) 33)) ∧ RcAt H' w.heap.size x := by
  obtain ⟨H1, l1, h1, y⟩ := h.box (rcA x) 33
  exact ⟨H1, l1, h1, y 0 _ rfl, y 1 _ rfl, y 2 _ rfl, y 3 _ rfl, y 4 _ rfl⟩
/-- Two boxes for records. -/
theorem twoRc {H : Hp} {l : List HA} (x y : Rc) (w : World) (h : St H l w) : ∃ W, W = (w.alloc (.cells (rcA x) 33)).alloc (.cells (rcA y) 33) ∧ Below w.heap.size w W ∧
    ∃ H', Hp.le H H' ∧ St H' l W ∧ RcAt H' w.heap.size x ∧ RcAt H' (w.heap.size + 1) y := by
  obtain ⟨H1, l1, h1, a⟩ := St.rcBox h x
  obtain ⟨H2, l2, h2, b⟩ := St.rcBox h1 y
  have e1 : (w.alloc (.cells (rcA x) 33)).heap.size = w.heap.size + 1 := by simp
  rw [e1] at b
  exact ⟨_, rfl, ((Below.refl _ _).alloc (Nat.le_refl _) _).alloc (by simp) _, H2, Hp.le_trans l1 l2, h2, a.mono l2, b⟩
set_option maxRecDepth 100000 in
set_option maxHeartbeats 3200000 in
theorem linked_any (x y : Rc) (w : World) (hx : RcR w x) (hy : RcR w y) : Calls Try.prog 52 #[recV x, recV y] w fun e w' => e = .returned (.bool (linkR (rp x) (rp y))) ∧ Below w.heap.size w w' := by
  obtain ⟨W, hW, bel, H, hle, h1, a, b⟩ := twoRc x y w (St.start w)
  have hA := fun w' (h' : St H [] w') => identHas_any x.2.2.1 x.2.2.2.2.1 y.1 w' ((hx.d.rd.mono hle).rw h')
  have hB := fun w' (h' : St H [] w') => identHas_any y.2.2.1 y.2.2.2.2.1 x.1 w' ((hy.d.rd.mono hle).rw h')
  obtain ⟨R, hR⟩ : ∃ R, linkR (rp x) (rp y) = R := ⟨_, rfl⟩
  rw [hR]
  unfold linkR at hR
  obtain ⟨d1, d2, d3, hdv, _⟩ := hx.d.form
  obtain ⟨b1, b2, b3, hbv, _⟩ := hx.b.form
  obtain ⟨e1, e2, e3, hev, _⟩ := hy.d.form
  obtain ⟨f1, f2, f3, hfv, _⟩ := hy.b.form
  obtain ⟨⟨r, s⟩, q, dv, bv, D, Bt⟩ := x
  obtain ⟨⟨r', s'⟩, q', dv', bv', D', Bt'⟩ := y
  simp only at hdv hbv hev hfv hA hB hR hW
  subst hdv hbv hev hfv hW
  clear hx hy hle
  have u0 := h1.cell a.1
  have u1 := h1.cell a.2.1
  have u2 := h1.cell a.2.2.1
  have u3 := h1.cell a.2.2.2.1
  have u4 := h1.cell a.2.2.2.2
  have ul := World.block_lt_of_cell? _ _ u0
  simp only at u0 u1 u2 u3 u4
  have v0 := h1.cell b.1
  have v1 := h1.cell b.2.1
  have v2 := h1.cell b.2.2.1
  have v3 := h1.cell b.2.2.2.1
  have v4 := h1.cell b.2.2.2.2
  have vl := World.block_lt_of_cell? _ _ v0
  simp only at v0 v1 v2 v3 v4
  by_cases hm : ((r', s') : Id) ∈ D
  · rw [decide_eq_true hm, Bool.true_or] at hR
    subst hR
    simp only [decide_eq_true hm] at hA
    replace hA := Lib.hid hA
    clear hm hB
    go_enter Try.func52, Try.ntmps52
    go_wp2_with fail
    refine (hA.out _ h1).mono ?_
    rintro e w2 ⟨rfl, hb2⟩
    have h2 := h1.below hb2
    clear u0 u1 u2 u3 u4 ul
    clear v0 v1 v2 v3 v4 vl
    have u0 := h2.cell a.1
    have u1 := h2.cell a.2.1
    have u2 := h2.cell a.2.2.1
    have u3 := h2.cell a.2.2.2.1
    have u4 := h2.cell a.2.2.2.2
    have ul := World.block_lt_of_cell? _ _ u0
    simp only at u0 u1 u2 u3 u4
    have v0 := h2.cell b.1
    have v1 := h2.cell b.2.1
    have v2 := h2.cell b.2.2.1
    have v3 := h2.cell b.2.2.2.1
    have v4 := h2.cell b.2.2.2.2
    have vl := World.block_lt_of_cell? _ _ v0
    simp only at v0 v1 v2 v3 v4
    go_wp2_with fail
    go_ret
    exact ⟨rfl, bel.trans (hb2.mono bel.size)⟩
  · rw [decide_eq_false hm, Bool.false_or] at hR
    simp only [decide_eq_false hm] at hA
    simp only [hR] at hB
    replace hA := Lib.hid hA
    replace hB := Lib.hid hB
    clear hm hR
    go_enter Try.func52, Try.ntmps52
    go_wp2_with fail
    refine (hA.out _ h1).mono ?_
    rintro e w2 ⟨rfl, hb2⟩
    have h2 := h1.below hb2
    clear u0 u1 u2 u3 u4 ul
    clear v0 v1 v2 v3 v4 vl
    have u0 := h2.cell a.1
    have u1 := h2.cell a.2.1
    have u2 := h2.cell a.2.2.1
    have u3 := h2.cell a.2.2.2.1
    have u4 := h2.cell a.2.2.2.2
    have ul := World.block_lt_of_cell? _ _ u0
    simp only at u0 u1 u2 u3 u4
    have v0 := h2.cell b.1
    have v1 := h2.cell b.2.1
    have v2 := h2.cell b.2.2.1
    have v3 := h2.cell b.2.2.2.1
    have v4 := h2.cell b.2.2.2.2
    have vl := World.block_lt_of_cell? _ _ v0
    simp only at v0 v1 v2 v3 v4
    go_wp2_with fail
    refine (hB.out _ h2).mono ?_
    rintro e w3 ⟨rfl, hb3⟩
    go_wp2_with fail
    go_ret
    exact ⟨rfl, (bel.trans (hb2.mono bel.size)).trans (hb3.mono (Nat.le_trans bel.size hb2.size))⟩
set_option maxRecDepth 100000 in
set_option maxHeartbeats 3200000 in
theorem refEdge_any (x y : Rc) (w : World) (hx : RcR w x) (hy : RcR w y) : Calls Try.prog 41 #[recV x, recV y] w fun e w' => e = .returned (.bool (linkR (rp x) (rp y))) ∧ Below w.heap.size w w' := by
  obtain ⟨W, hW, bel, H, hle, h1, a, b⟩ := twoRc x y w (St.start w)
  have hA := fun w' (h' : St H [] w') => hasIds_any x.2.2.1 x.2.2.2.2.1 y.1 w' ((hx.d.rd.mono hle).rw h')
  have hB := fun w' (h' : St H [] w') => hasIds_any y.2.2.1 y.2.2.2.2.1 x.1 w' ((hy.d.rd.mono hle).rw h')
  obtain ⟨R, hR⟩ : ∃ R, linkR (rp x) (rp y) = R := ⟨_, rfl⟩
  rw [hR]
  unfold linkR at hR
  obtain ⟨d1, d2, d3, hdv, _⟩ := hx.d.form
  obtain ⟨b1, b2, b3, hbv, _⟩ := hx.b.form
  obtain ⟨e1, e2, e3, hev, _⟩ := hy.d.form
  obtain ⟨f1, f2, f3, hfv, _⟩ := hy.b.form
  obtain ⟨⟨r, s⟩, q, dv, bv, D, Bt⟩ := x
  obtain ⟨⟨r', s'⟩, q', dv', bv', D', Bt'⟩ := y
  simp only at hdv hbv hev hfv hA hB hR hW
  subst hdv hbv hev hfv hW
  clear hx hy hle
  have u0 := h1.cell a.1
  have u1 := h1.cell a.2.1
  have u2 := h1.cell a.2.2.1
  have u3 := h1.cell a.2.2.2.1
  have u4 := h1.cell a.2.2.2.2
  have ul := World.block_lt_of_cell? _ _ u0
  simp only at u0 u1 u2 u3 u4
  have v0 := h1.cell b.1
  have v1 := h1.cell b.2.1
  have v2 := h1.cell b.2.2.1
  have v3 := h1.cell b.2.2.2.1
  have v4 := h1.cell b.2.2.2.2
  have vl := World.block_lt_of_cell? _ _ v0
  simp only at v0 v1 v2 v3 v4
  by_cases hm : ((r', s') : Id) ∈ D
  · rw [decide_eq_true hm, Bool.true_or] at hR
    subst hR
    simp only [decide_eq_true hm] at hA
    replace hA := Lib.hid hA
    clear hm hB
    go_enter Try.func41, Try.ntmps41
    go_wp2_with fail
    refine (hA.out _ h1).mono ?_
    rintro e w2 ⟨rfl, hb2⟩
    have h2 := h1.below hb2
    clear u0 u1 u2 u3 u4 ul
    clear v0 v1 v2 v3 v4 vl
    have u0 := h2.cell a.1
    have u1 := h2.cell a.2.1
    have u2 := h2.cell a.2.2.1
    have u3 := h2.cell a.2.2.2.1
    have u4 := h2.cell a.2.2.2.2
    have ul := World.block_lt_of_cell? _ _ u0
    simp only at u0 u1 u2 u3 u4
    have v0 := h2.cell b.1
    have v1 := h2.cell b.2.1
    have v2 := h2.cell b.2.2.1
    have v3 := h2.cell b.2.2.2.1
    have v4 := h2.cell b.2.2.2.2
    have vl := World.block_lt_of_cell? _ _ v0
    simp only at v0 v1 v2 v3 v4
    go_wp2_with fail
    go_ret
    exact ⟨rfl, bel.trans (hb2.mono bel.size)⟩
  · rw [decide_eq_false hm, Bool.false_or] at hR
    simp only [decide_eq_false hm] at hA
    simp only [hR] at hB
    replace hA := Lib.hid hA
    replace hB := Lib.hid hB
    clear hm hR
    go_enter Try.func41, Try.ntmps41
    go_wp2_with fail
    refine (hA.out _ h1).mono ?_
    rintro e w2 ⟨rfl, hb2⟩
    have h2 := h1.below hb2
    clear u0 u1 u2 u3 u4 ul
    clear v0 v1 v2 v3 v4 vl
    have u0 := h2.cell a.1
    have u1 := h2.cell a.2.1
    have u2 := h2.cell a.2.2.1
    have u3 := h2.cell a.2.2.2.1
    have u4 := h2.cell a.2.2.2.2
    have ul := World.block_lt_of_cell? _ _ u0
    simp only at u0 u1 u2 u3 u4
    have v0 := h2.cell b.1
    have v1 := h2.cell b.2.1
    have v2 := h2.cell b.2.2.1
    have v3 := h2.cell b.2.2.2.1
    have v4 := h2.cell b.2.2.2.2
    have vl := World.block_lt_of_cell? _ _ v0
    simp only at v0 v1 v2 v3 v4
    go_wp2_with fail
    refine (hB.out _ h2).mono ?_
    rintro e w3 ⟨rfl, hb3⟩
    go_wp2_with fail
    go_ret
    exact ⟨rfl, (bel.trans (hb2.mono bel.size)).trans (hb3.mono (Nat.le_trans bel.size hb2.size))⟩
set_option maxRecDepth 100000 in
set_option maxHeartbeats 3200000 in
theorem lacks_any (x y : Rc) (w : World) (hx : RcR w x) (hy : RcR w y) : Calls Try.prog 33 #[recV x, recV y] w fun e w' => e = .returned (.bool (lackR (rp x) (rp y))) ∧ Below w.heap.size w w' := by
  obtain ⟨W, hW, bel, H, hle, h1, a, b⟩ := twoRc x y w (St.start w)
  have hA := fun w' (h' : St H [] w') => batConf_any x.2.2.2.1 y.2.2.2.1 x.2.2.2.2.2 y.2.2.2.2.2 hx.ok hy.ok w' ((hx.b.rd.mono hle).rw h') ((hy.b.rd.mono hle).rw h')
  have hB := fun w' (h' : St H [] w') => linked_any x y w' ⟨(hx.d.rd.mono hle).rw h', (hx.b.rd.mono hle).rw h', hx.ok⟩ ⟨(hy.d.rd.mono hle).rw h', (hy.b.rd.mono hle).rw h', hy.ok⟩
  obtain ⟨R, hR⟩ : ∃ R, lackR (rp x) (rp y) = R := ⟨_, rfl⟩
  rw [hR]
  unfold lackR at hR
  obtain ⟨d1, d2, d3, hdv, _⟩ := hx.d.form
  obtain ⟨b1, b2, b3, hbv, _⟩ := hx.b.form
  obtain ⟨e1, e2, e3, hev, _⟩ := hy.d.form
  obtain ⟨f1, f2, f3, hfv, _⟩ := hy.b.form
  obtain ⟨⟨r, s⟩, q, dv, bv, D, Bt⟩ := x
  obtain ⟨⟨r', s'⟩, q', dv', bv', D', Bt'⟩ := y
  simp only at hdv hbv hev hfv hA hB hR hW
  subst hdv hbv hev hfv hW
  clear hx hy hle
  have u0 := h1.cell a.1
  have u1 := h1.cell a.2.1
  have u2 := h1.cell a.2.2.1
  have u3 := h1.cell a.2.2.2.1
  have u4 := h1.cell a.2.2.2.2
  have ul := World.block_lt_of_cell? _ _ u0
  simp only at u0 u1 u2 u3 u4
  have v0 := h1.cell b.1
  have v1 := h1.cell b.2.1
  have v2 := h1.cell b.2.2.1
  have v3 := h1.cell b.2.2.2.1
  have v4 := h1.cell b.2.2.2.2
  have vl := World.block_lt_of_cell? _ _ v0
  simp only at v0 v1 v2 v3 v4
  cases hm : batConf Bt Bt' with
  | false =>
    rw [hm, Bool.false_and] at hR
    subst hR
    rw [hm] at hA
    replace hA := Lib.hid hA
    clear hm hB
    go_enter Try.func33, Try.ntmps33
    go_wp2_with fail
    refine (hA.out _ h1).mono ?_
    rintro e w2 ⟨rfl, hb2⟩
    have h2 := h1.below hb2
    clear u0 u1 u2 u3 u4 ul
    clear v0 v1 v2 v3 v4 vl
    have u0 := h2.cell a.1
    have u1 := h2.cell a.2.1
    have u2 := h2.cell a.2.2.1
    have u3 := h2.cell a.2.2.2.1
    have u4 := h2.cell a.2.2.2.2
    have ul := World.block_lt_of_cell? _ _ u0
    simp only at u0 u1 u2 u3 u4
    have v0 := h2.cell b.1
    have v1 := h2.cell b.2.1
    have v2 := h2.cell b.2.2.1
    have v3 := h2.cell b.2.2.2.1
    have v4 := h2.cell b.2.2.2.2
    have vl := World.block_lt_of_cell? _ _ v0
    simp only at v0 v1 v2 v3 v4
    go_wp2_with fail
    go_ret
    exact ⟨rfl, bel.trans (hb2.mono bel.size)⟩
  | true =>
    rw [hm, Bool.true_and] at hR
    rw [hm] at hA
    obtain ⟨R', hR'⟩ : ∃ R', linkR (rp ((r, s), q, .slice d1 d2 d3, .slice b1 b2 b3, D, Bt)) (rp ((r', s'), q', .slice e1 e2 e3, .slice f1 f2 f3, D', Bt')) = R' := ⟨_, rfl⟩
    rw [hR'] at hR
    simp only [hR'] at hB
    replace hA := Lib.hid hA
    replace hB := Lib.hid hB
    replace hR := Lib.hid hR
    clear hm hR'
    go_enter Try.func33, Try.ntmps33
    go_wp2_with fail
    refine (hA.out _ h1).mono ?_
    rintro e w2 ⟨rfl, hb2⟩
    have h2 := h1.below hb2
    clear u0 u1 u2 u3 u4 ul
    clear v0 v1 v2 v3 v4 vl
    have u0 := h2.cell a.1
    have u1 := h2.cell a.2.1
    have u2 := h2.cell a.2.2.1
    have u3 := h2.cell a.2.2.2.1
    have u4 := h2.cell a.2.2.2.2
    have ul := World.block_lt_of_cell? _ _ u0
    simp only at u0 u1 u2 u3 u4
    have v0 := h2.cell b.1
    have v1 := h2.cell b.2.1
    have v2 := h2.cell b.2.2.1
    have v3 := h2.cell b.2.2.2.1
    have v4 := h2.cell b.2.2.2.2
    have vl := World.block_lt_of_cell? _ _ v0
    simp only at v0 v1 v2 v3 v4
    go_wp2_with fail
    refine (hB.out _ h2).mono ?_
    rintro e w3 ⟨rfl, hb3⟩
    go_wp2_with fail
    go_ret
    exact ⟨rb hR.out, (bel.trans (hb2.mono bel.size)).trans (hb3.mono (Nat.le_trans bel.size hb2.size))⟩
set_option maxRecDepth 100000 in
set_option maxHeartbeats 3200000 in
theorem refLacks_any (x y : Rc) (w : World) (hx : RcR w x) (hy : RcR w y) : Calls Try.prog 24 #[recV x, recV y] w fun e w' => e = .returned (.bool (lackR (rp x) (rp y))) ∧ Below w.heap.size w w' := by
  obtain ⟨W, hW, bel, H, hle, h1, a, b⟩ := twoRc x y w (St.start w)
  have hA := fun w' (h' : St H [] w') => refBatConf_any x.2.2.2.1 y.2.2.2.1 x.2.2.2.2.2 y.2.2.2.2.2 hx.ok hy.ok w' ((hx.b.rd.mono hle).rw h') ((hy.b.rd.mono hle).rw h')
  have hB := fun w' (h' : St H [] w') => refEdge_any x y w' ⟨(hx.d.rd.mono hle).rw h', (hx.b.rd.mono hle).rw h', hx.ok⟩ ⟨(hy.d.rd.mono hle).rw h', (hy.b.rd.mono hle).rw h', hy.ok⟩
  obtain ⟨R, hR⟩ : ∃ R, lackR (rp x) (rp y) = R := ⟨_, rfl⟩
  rw [hR]
  unfold lackR at hR
  obtain ⟨d1, d2, d3, hdv, _⟩ := hx.d.form
  obtain ⟨b1, b2, b3, hbv, _⟩ := hx.b.form
  obtain ⟨e1, e2, e3, hev, _⟩ := hy.d.form
  obtain ⟨f1, f2, f3, hfv, _⟩ := hy.b.form
  obtain ⟨⟨r, s⟩, q, dv, bv, D, Bt⟩ := x
  obtain ⟨⟨r', s'⟩, q', dv', bv', D', Bt'⟩ := y
  simp only at hdv hbv hev hfv hA hB hR hW
  subst hdv hbv hev hfv hW
  clear hx hy hle
  have u0 := h1.cell a.1
  have u1 := h1.cell a.2.1
  have u2 := h1.cell a.2.2.1
  have u3 := h1.cell a.2.2.2.1
  have u4 := h1.cell a.2.2.2.2
  have ul := World.block_lt_of_cell? _ _ u0
  simp only at u0 u1 u2 u3 u4
  have v0 := h1.cell b.1
  have v1 := h1.cell b.2.1
  have v2 := h1.cell b.2.2.1
  have v3 := h1.cell b.2.2.2.1
  have v4 := h1.cell b.2.2.2.2
  have vl := World.block_lt_of_cell? _ _ v0
  simp only at v0 v1 v2 v3 v4
  cases hm : batConf Bt Bt' with
  | false =>
    rw [hm, Bool.false_and] at hR
    subst hR
    rw [hm] at hA
    replace hA := Lib.hid hA
    clear hm hB
    go_enter Try.func24, Try.ntmps24
    go_wp2_with fail
    refine (hA.out _ h1).mono ?_
    rintro e w2 ⟨rfl, hb2⟩
    have h2 := h1.below hb2
    clear u0 u1 u2 u3 u4 ul
    clear v0 v1 v2 v3 v4 vl
    have u0 := h2.cell a.1
    have u1 := h2.cell a.2.1
    have u2 := h2.cell a.2.2.1
    have u3 := h2.cell a.2.2.2.1
    have u4 := h2.cell a.2.2.2.2
    have ul := World.block_lt_of_cell? _ _ u0
    simp only at u0 u1 u2 u3 u4
    have v0 := h2.cell b.1
    have v1 := h2.cell b.2.1
    have v2 := h2.cell b.2.2.1
    have v3 := h2.cell b.2.2.2.1
    have v4 := h2.cell b.2.2.2.2
    have vl := World.block_lt_of_cell? _ _ v0
    simp only at v0 v1 v2 v3 v4
    go_wp2_with fail
    go_ret
    exact ⟨rfl, bel.trans (hb2.mono bel.size)⟩
  | true =>
    rw [hm, Bool.true_and] at hR
    rw [hm] at hA
    obtain ⟨R', hR'⟩ : ∃ R', linkR (rp ((r, s), q, .slice d1 d2 d3, .slice b1 b2 b3, D, Bt)) (rp ((r', s'), q', .slice e1 e2 e3, .slice f1 f2 f3, D', Bt')) = R' := ⟨_, rfl⟩
    rw [hR'] at hR
    simp only [hR'] at hB
    replace hA := Lib.hid hA
    replace hB := Lib.hid hB
    replace hR := Lib.hid hR
    clear hm hR'
    go_enter Try.func24, Try.ntmps24
    go_wp2_with fail
    refine (hA.out _ h1).mono ?_
    rintro e w2 ⟨rfl, hb2⟩
    have h2 := h1.below hb2
    clear u0 u1 u2 u3 u4 ul
    clear v0 v1 v2 v3 v4 vl
    have u0 := h2.cell a.1
    have u1 := h2.cell a.2.1
    have u2 := h2.cell a.2.2.1
    have u3 := h2.cell a.2.2.2.1
    have u4 := h2.cell a.2.2.2.2
    have ul := World.block_lt_of_cell? _ _ u0
    simp only at u0 u1 u2 u3 u4
    have v0 := h2.cell b.1
    have v1 := h2.cell b.2.1
    have v2 := h2.cell b.2.2.1
    have v3 := h2.cell b.2.2.2.1
    have v4 := h2.cell b.2.2.2.2
    have vl := World.block_lt_of_cell? _ _ v0
    simp only at v0 v1 v2 v3 v4
    go_wp2_with fail
    refine (hB.out _ h2).mono ?_
    rintro e w3 ⟨rfl, hb3⟩
    go_wp2_with fail
    go_ret
    exact ⟨rb hR.out, (bel.trans (hb2.mono bel.size)).trans (hb3.mono (Nat.le_trans bel.size hb2.size))⟩
end Go.Proofs.Ytohgcghobidfpaa

/- The generator's random numbers. -/
set_option linter.unusedVariables false
set_option linter.unusedSimpArgs false
namespace Go.Proofs.Ytohgcghobidfpaa
open Go.RowKit Go.Cw Go.Fl
attribute [local go_sem] run_store_float
/-- The state's next. -/
def advI (s : Int) : Int := IntKind.u64.wrap (s + 11400714819323198485)
def rz1 (s : Int) : Int := IntKind.u64.wrap (bits .xor .u64 (advI s) (advI s / 1073741824) * 13787848793156543929)
def rz2 (s : Int) : Int := IntKind.u64.wrap (bits .xor .u64 (rz1 s) (rz1 s / 134217728) * 10723151780598845931)
def rz3 (s : Int) : Int := bits .xor .u64 (rz2 s) (rz2 s / 2147483648)
/-- The number that is told. -/
def rnd (s n : Int) : Int := wrap64 ((rz3 s).tmod n)
theorem wrap_nat (x : Int) : ∃ m : Nat, IntKind.u64.wrap x = (m : Int) ∧ m < 18446744073709551616 := by
  have h : IntKind.u64.wrap x = x % 18446744073709551616 := by simp [IntKind.wrap, IntKind.signed, IntKind.bits]
  refine ⟨(x % 18446744073709551616).toNat, ?_, ?_⟩
  · rw [h]; have := Int.emod_nonneg x (b := 18446744073709551616) (by omega); omega
  · have := Int.emod_lt_of_pos x (b := 18446744073709551616) (by omega)
    have := Int.emod_nonneg x (b := 18446744073709551616) (by omega)
    omega
theorem rz3_nn (s : Int) : 0 ≤ rz3 s := by
  obtain ⟨m, hm, hlt⟩ := wrap_nat (bits .xor .u64 (rz1 s) (rz1 s / 134217728) * 10723151780598845931)
  unfold rz3 rz2
  rw [hm]
  have := xorShift_u64 m 2147483648 hlt
  have e : ((m : Int) / ((2147483648 : Nat) : Int)) = (m : Int) / 2147483648 := rfl
  rw [e] at this
  rw [this]
  omega
theorem rnd_range (s n : Int) (h1 : 1 ≤ n) (h2 : n ≤ 1000000) : 0 ≤ rnd s n ∧ rnd s n < n := by
  have h := rz3_nn s
  have e : (rz3 s).tmod n = rz3 s % n := Int.tmod_eq_emod_of_nonneg h
  have a := Int.emod_nonneg (rz3 s) (b := n) (by omega)
  have b := Int.emod_lt_of_pos (rz3 s) (b := n) (by omega)
  unfold rnd
  rw [e]
  have : wrap64 (rz3 s % n) = rz3 s % n := by unfold wrap64; omega
  rw [this]
  exact ⟨a, b⟩
/-- A state at g. -/
def RnA (g : Nat) (s : Int) : HA := Blk g #[.int .u64 s] 22
abbrev rnF (g : Nat) : Value := .func (.func 27) #[] #[.pointer (some ⟨g, 0, none⟩)]
set_option maxRecDepth 100000 in
set_option maxHeartbeats 3200000 in
theorem rnd1_any (g : Nat) (s : Int) (n : Int) (hn1 : 1 ≤ n) (hn2 : n ≤ 1000000) (H : Hp) (fr : List HA) (w : World) (h : St H (RnA g s :: fr) w) :
    Calls Try.prog 27 #[.int .i64 n, .pointer (some ⟨g, 0, none⟩)] w (Res H fr w (.int .i64 (rnd s n)) [RnA g (advI s)]) := by
  have c0 : w.cell? ⟨g, 0, none⟩ = some (.int .u64 s) := St.blk_cell h 0
  have cf := St.blk_free h 0
  have cl := St.blk_lt h
  have hz : Hid (St H (RnA g (advI s) :: fr) (w.setCell ⟨g, 0, none⟩ (.int .u64 (advI s)))) := Lib.hid (St.blk_set h 0 (.int .u64 (advI s)))
  have en := (Env.refl w).setCell ⟨g, 0, none⟩ (.int .u64 (advI s))
  have hn0 : ¬ n = 0 := by omega
  go_enter Try.func27, Try.ntmps27
  go_wp2_with fail
  go_ret
  exact ⟨rfl, hz.out, en⟩
set_option maxRecDepth 100000 in
set_option maxHeartbeats 3200000 in
theorem random_any (s : Int) (H : Hp) (fr : List HA) (w : World) (h : St H fr w) :
    Calls Try.prog 11 #[.int .u64 s] w fun e w' => ∃ g, Res H fr w (rnF g) [RnA g (bits .xor .u64 s 11400714819323198485)] e w' := by
  have hmf : ∀ (fn : Fn) (first cap : Array Value) (w : World), (Instr.makeFunc fn first cap).run Try.prog w = .ok (.func fn first cap) w := fun _ _ _ _ => rfl
  have h1 := h.blk #[.int .u64 (bits .xor .u64 s 11400714819323198485)] 22
  have en := (Env.refl w).alloc (.cells #[.int .u64 (bits .xor .u64 s 11400714819323198485)] 22)
  go_enter Try.func11, Try.ntmps11
  go_wp2_with fail
  go_ret
  exact ⟨_, rfl, h1, en⟩
/-- Half a small number. -/
def halfF (k : Int) : Nat := (FloatKind.f64.format.div (floatOfInt .f64 k) 4611686018427387904).getD 0
theorem half_ok : ∀ k : Int, 0 ≤ k → k < 9 → FloatKind.f64.format.div (floatOfInt .f64 k) 4611686018427387904 = some (halfF k) ∧ halfF k < 18446744073709551616 := by
  intro k h0 h9
  have : k = 0 ∨ k = 1 ∨ k = 2 ∨ k = 3 ∨ k = 4 ∨ k = 5 ∨ k = 6 ∨ k = 7 ∨ k = 8 := by omega
  rcases this with rfl | rfl | rfl | rfl | rfl | rfl | rfl | rfl | rfl <;> decide +kernel
theorem results_cellG {fn : Func} {p : Tmp} {ty : TypeId} (h : fn.results = #[.cell p ty]) (tmps : Array Value) (P : Program) (w : World) :
    (results fn tmps).run P w = ((asAddr (tmps.getD p undef)).run P w).andThen fun a w₁ => (loadVar ty a).run P w₁ := by
  simp only [results, h]
  simp [Sem.run_bind, Result.andThen]
def oneK (s : Int) : Int := 1 + rnd s 4
def oneB (s : Int) : Bool := decide (oneK s = 2) || decide (oneK s = 4)
def oneF (s : Int) : Nat := if oneB s then halfF (rnd (advI (advI s)) 9) else 0
def oneS (s : Int) : Int := if oneB s then advI (advI (advI s)) else advI (advI s)
/-- What one tells. -/
def OneR (g : Nat) (s : Int) (H : Hp) (fr : List HA) (w : World) (e : Ending) (w' : World) : Prop := ∃ key, Res H fr w (.agg #[.int .i64 (oneK s), .string key, .float .f64 (oneF s)]) [RnA g (oneS s)] e w'
set_option maxRecDepth 100000 in
set_option maxHeartbeats 8000000 in
theorem one_any (g : Nat) (s : Int) (n : Int) (hn1 : 1 ≤ n) (hn2 : n ≤ 9) (H : Hp) (fr : List HA) (w : World) (h : St H (RnA g s :: fr) w) :
    Calls Try.prog 14 #[rnF g, .int .i64 n] w (OneR g s H fr w) := by
  have h0 := St.blk h #[.int .i64 0, .string ⟨#[]⟩, .float .f64 0] 47
  have en0 := (Env.refl w).alloc (.cells #[.int .i64 0, .string ⟨#[]⟩, .float .f64 0] 47)
  have r1 := rnd1_any g s 4 (by omega) (by omega) H _ _ h0.swap
  have b1 := rnd_range s 4 (by omega) (by omega)
  have hfin : ∀ (key : ByteArray) (w' : World) (K S' : Int) (F : Nat), K = oneK s → F = oneF s → S' = oneS s → St H (RnA g S' :: fr) w' → Env w w' → OneR g s H fr w (.returned (.agg #[.int .i64 K, .string key, .float .f64 F])) w' := fun key w' K S' F h0 h1 h2 h3 h4 => ⟨key, by rw [h0, h1], by rw [h2] at h3; exact h3, h4⟩
  generalize OneR g s H fr w = Q at *
  obtain ⟨k1, hk1⟩ : ∃ k1, rnd s 4 = k1 := ⟨_, rfl⟩
  rw [hk1] at r1 b1
  have hKK : oneK s = 1 + k1 := by unfold oneK; rw [hk1]
  have hw1 : IntKind.i64.wrap (1 + k1) = 1 + k1 := by rw [IntKind.wrap_i64]; omega
  obtain ⟨K, hK⟩ : ∃ K, 1 + k1 = K := ⟨_, rfl⟩
  rw [hK] at hKK hw1
  have hB : oneB s = (decide (K = 2) || decide (K = 4)) := by unfold oneB; rw [hKK]
  replace r1 := Lib.hid r1
  replace hfin := Lib.hid hfin
  generalize hgr : w.heap.size = gr at *
  replace hKK := Lib.hid hKK
  replace hB := Lib.hid hB
  clear hk1 h
  go_enter Try.func14, Try.ntmps14
  go_wp2_with fail
  refine r1.out.mono ?_
  rintro e w1 ⟨rfl, h1, en1⟩
  have r2 := Lib.hid (rnd1_any g (advI s) n (by omega) (by omega) H _ _ h1)
  have b2 := rnd_range (advI s) n (by omega) (by omega)
  go_wp2_with fail
  refine r2.out.mono ?_
  rintro e w2 ⟨rfl, h2, en2⟩
  generalize rnd (advI s) n = k2 at *
  have hw2 : IntKind.i64.wrap (97 + k2) = 97 + k2 := by rw [IntKind.wrap_i64]; omega
  have h3 := St.blk h2 #[.int .i64 K, .string (Utf8.encode (97 + k2)), .float .f64 0] 47
  have en3 := ((en0.trans en1).trans en2).alloc (.cells #[.int .i64 K, .string (Utf8.encode (97 + k2)), .float .f64 0] 47)
  obtain ⟨k3, hk3⟩ : ∃ k3, rnd (advI (advI s)) 9 = k3 := ⟨_, rfl⟩
  have r3 := rnd1_any g (advI (advI s)) 9 (by omega) (by omega) H _ _ h3.swap
  have b3 := rnd_range (advI (advI s)) 9 (by omega) (by omega)
  rw [hk3] at r3 b3
  obtain ⟨hd0, hd2⟩ := half_ok k3 b3.1 b3.2
  have hdv := @run_fdiv Try.prog 45 _ _ _ hd0
  replace r3 := Lib.hid r3
  by_cases hk : K = 2 ∨ K = 4
  · have hbt : oneB s = true := by rw [hB.out]; rcases hk with rfl | rfl <;> rfl
    have hF : Hid (halfF k3 = oneF s) := Lib.hid (by unfold oneF; rw [hbt, if_pos rfl, hk3])
    have hS : Hid (advI (advI (advI s)) = oneS s) := Lib.hid (by unfold oneS; rw [hbt, if_pos rfl])
    rcases hk with hk | hk
    · subst hk
      go_wp2_with fail
      refine r3.out.mono ?_
      rintro e w4 ⟨rfl, h4, en4⟩
      generalize hg5 : w2.heap.size = g5 at *
      have h5 : St H (Blk g5 _ _ :: RnA g (advI (advI (advI s))) :: _ :: fr) w4 := h4.swap
      have c0 := St.blk_cell h5 0
      have c1 := St.blk_cell h5 1
      have c2 := St.blk_cell h5 2
      have cf := St.blk_free h5 2
      have cl := St.blk_lt h5
      have h6 := St.blk_set h5 2 (.float .f64 (halfF k3))
      have en6 := (en3.trans en4).setCell ⟨g5, 2, none⟩ (.float .f64 (halfF k3))
      generalize hFF : halfF k3 = FF at *
      go_upto_region 4 with (fail)
      generalize w4.setCell ⟨g5, 2, none⟩ (.float .f64 FF) = W6 at *
      clear c0 c1 c2 cf cl h4 h5 en3 en4
      have h7 := h6.pick 2 (by simp)
      have z0 := St.blk_cell h6 0
      have z1 := St.blk_cell h6 1
      have z2 := St.blk_cell h6 2
      have zl := St.blk_lt h6
      have q0 := St.blk_cell h7 0
      have q1 := St.blk_cell h7 1
      have q2 := St.blk_cell h7 2
      have qf0 := St.blk_free h7 0
      have qf1 := St.blk_free h7 1
      have qf2 := St.blk_free h7 2
      have ql := St.blk_lt h7
      have h8 := ((St.blk_set h7 0 (.int .i64 2)).blk_set 1 (.string (Utf8.encode (97 + k2)))).blk_set 2 (.float .f64 FF)
      have en8 := ((en6.setCell ⟨gr, 0, none⟩ (.int .i64 2)).setCell ⟨gr, 1, none⟩ (.string (Utf8.encode (97 + k2)))).setCell ⟨gr, 2, none⟩ (.float .f64 FF)
      go_wp2_with fail
      generalize ((W6.setCell ⟨gr, 0, none⟩ (.int .i64 2)).setCell ⟨gr, 1, none⟩ (.string (Utf8.encode (97 + k2)))).setCell ⟨gr, 2, none⟩ (.float .f64 FF) = W9 at *
      have r0 : W9.cell? ⟨gr, 0, none⟩ = some (.int .i64 2) := h8.blk_cell 0
      have r1' : W9.cell? ⟨gr, 1, none⟩ = some (.string (Utf8.encode (97 + k2))) := h8.blk_cell 1
      have r2' : W9.cell? ⟨gr, 2, none⟩ = some (.float .f64 FF) := h8.blk_cell 2
      have rl := h8.blk_lt
      (try simp only [Exit.inBlock, Exit.then])
      refine bodyPost_ret ((results_cellG rfl _ _ _).trans (?hres : _ = Result.ok (Value.agg #[.int .i64 2, .string (Utf8.encode (97 + k2)), .float .f64 FF]) W9)) rfl ?_
      case hres => go_simp
      exact hfin.out (Utf8.encode (97 + k2)) W9 2 _ FF hKK.out.symm hF.out hS.out (h8.drop.drop) en8
    · subst hk
      go_wp2_with fail
      refine r3.out.mono ?_
      rintro e w4 ⟨rfl, h4, en4⟩
      generalize hg5 : w2.heap.size = g5 at *
      have h5 : St H (Blk g5 _ _ :: RnA g (advI (advI (advI s))) :: _ :: fr) w4 := h4.swap
      have c0 := St.blk_cell h5 0
      have c1 := St.blk_cell h5 1
      have c2 := St.blk_cell h5 2
      have cf := St.blk_free h5 2
      have cl := St.blk_lt h5
      have h6 := St.blk_set h5 2 (.float .f64 (halfF k3))
      have en6 := (en3.trans en4).setCell ⟨g5, 2, none⟩ (.float .f64 (halfF k3))
      generalize hFF : halfF k3 = FF at *
      go_upto_region 4 with (fail)
      generalize w4.setCell ⟨g5, 2, none⟩ (.float .f64 FF) = W6 at *
      clear c0 c1 c2 cf cl h4 h5 en3 en4
      have h7 := h6.pick 2 (by simp)
      have z0 := St.blk_cell h6 0
      have z1 := St.blk_cell h6 1
      have z2 := St.blk_cell h6 2
      have zl := St.blk_lt h6
      have q0 := St.blk_cell h7 0
      have q1 := St.blk_cell h7 1
      have q2 := St.blk_cell h7 2
      have qf0 := St.blk_free h7 0
      have qf1 := St.blk_free h7 1
      have qf2 := St.blk_free h7 2
      have ql := St.blk_lt h7
      have h8 := ((St.blk_set h7 0 (.int .i64 4)).blk_set 1 (.string (Utf8.encode (97 + k2)))).blk_set 2 (.float .f64 FF)
      have en8 := ((en6.setCell ⟨gr, 0, none⟩ (.int .i64 4)).setCell ⟨gr, 1, none⟩ (.string (Utf8.encode (97 + k2)))).setCell ⟨gr, 2, none⟩ (.float .f64 FF)
      go_wp2_with fail
      generalize ((W6.setCell ⟨gr, 0, none⟩ (.int .i64 4)).setCell ⟨gr, 1, none⟩ (.string (Utf8.encode (97 + k2)))).setCell ⟨gr, 2, none⟩ (.float .f64 FF) = W9 at *
      have r0 : W9.cell? ⟨gr, 0, none⟩ = some (.int .i64 4) := h8.blk_cell 0
      have r1' : W9.cell? ⟨gr, 1, none⟩ = some (.string (Utf8.encode (97 + k2))) := h8.blk_cell 1
      have r2' : W9.cell? ⟨gr, 2, none⟩ = some (.float .f64 FF) := h8.blk_cell 2
      have rl := h8.blk_lt
      (try simp only [Exit.inBlock, Exit.then])
      refine bodyPost_ret ((results_cellG rfl _ _ _).trans (?hres : _ = Result.ok (Value.agg #[.int .i64 4, .string (Utf8.encode (97 + k2)), .float .f64 FF]) W9)) rfl ?_
      case hres => go_simp
      exact hfin.out (Utf8.encode (97 + k2)) W9 4 _ FF hKK.out.symm hF.out hS.out (h8.drop.drop) en8
  · have hk2 : ¬ K = 2 := fun e => hk (.inl e)
    have hk4 : ¬ K = 4 := fun e => hk (.inr e)
    have hbt : oneB s = false := by rw [hB.out, decide_eq_false hk2, decide_eq_false hk4]; rfl
    have hF : Hid ((0 : Nat) = oneF s) := Lib.hid (by unfold oneF; rw [hbt]; rfl)
    have hS : Hid (advI (advI s) = oneS s) := Lib.hid (by unfold oneS; rw [hbt]; rfl)
    have hb2 : (K == 2) = false := by simpa using hk2
    have hb4 : (K == 4) = false := by simpa using hk4
    clear hk
    generalize hg5 : w2.heap.size = g5 at *
    have h6 : St H (Blk g5 #[.int .i64 K, .string (Utf8.encode (97 + k2)), .float .f64 0] 47 :: RnA g (advI (advI s)) :: Blk gr #[.int .i64 0, .string ⟨#[]⟩, .float .f64 0] 47 :: fr) _ := h3
    have c0 := St.blk_cell h6 0
    have cl := St.blk_lt h6
    go_upto_region 4 with (fail)
    generalize w2.alloc (.cells #[.int .i64 K, .string (Utf8.encode (97 + k2)), .float .f64 0] 47) = W6 at *
    have en6 := en3
    clear c0 cl h3 en3 r3
    have h7 := h6.pick 2 (by simp)
    have z0 := St.blk_cell h6 0
    have z1 := St.blk_cell h6 1
    have z2 := St.blk_cell h6 2
    have zl := St.blk_lt h6
    have q0 := St.blk_cell h7 0
    have q1 := St.blk_cell h7 1
    have q2 := St.blk_cell h7 2
    have qf0 := St.blk_free h7 0
    have qf1 := St.blk_free h7 1
    have qf2 := St.blk_free h7 2
    have ql := St.blk_lt h7
    have h8 := ((St.blk_set h7 0 (.int .i64 K)).blk_set 1 (.string (Utf8.encode (97 + k2)))).blk_set 2 (.float .f64 0)
    have en8 := ((en6.setCell ⟨gr, 0, none⟩ (.int .i64 K)).setCell ⟨gr, 1, none⟩ (.string (Utf8.encode (97 + k2)))).setCell ⟨gr, 2, none⟩ (.float .f64 0)
    go_wp2_with fail
    generalize ((W6.setCell ⟨gr, 0, none⟩ (.int .i64 K)).setCell ⟨gr, 1, none⟩ (.string (Utf8.encode (97 + k2)))).setCell ⟨gr, 2, none⟩ (.float .f64 0) = W9 at *
    have r0 : W9.cell? ⟨gr, 0, none⟩ = some (.int .i64 K) := h8.blk_cell 0
    have r1' : W9.cell? ⟨gr, 1, none⟩ = some (.string (Utf8.encode (97 + k2))) := h8.blk_cell 1
    have r2' : W9.cell? ⟨gr, 2, none⟩ = some (.float .f64 0) := h8.blk_cell 2
    have rl := h8.blk_lt
    (try simp only [Exit.inBlock, Exit.then])
    refine bodyPost_ret ((results_cellG rfl _ _ _).trans (?hres : _ = Result.ok (Value.agg #[.int .i64 K, .string (Utf8.encode (97 + k2)), .float .f64 0]) W9)) rfl ?_
    case hres => go_simp
    exact hfin.out (Utf8.encode (97 + k2)) W9 K _ 0 hKK.out.symm hF.out hS.out (h8.drop.drop) en8
end Go.Proofs.Ytohgcghobidfpaa
