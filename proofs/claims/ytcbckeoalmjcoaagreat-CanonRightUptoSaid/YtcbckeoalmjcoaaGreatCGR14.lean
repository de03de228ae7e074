/- Joined texts: Conf, Conf2, Prem. -/
import Derived.Test.YtcbckeoalmjcoaaGreatCGR6
import Derived.Test.YtcbckeoalmjcoaaGreatCGR7
import Derived.Test.YtcbckeoalmjcoaaGreatCGR9
import Derived.Test.YtcbckeoalmjcoaaGreatCGR11
/- Conflicts of commands and batches. -/
set_option linter.unusedVariables false
set_option linter.unusedSimpArgs false
namespace Go.Proofs.YtcbckeoalmjcoaaGreat
open Go.RowKit Go.Cw Go.Fl
attribute [local go_sem ↓] eql_id neq_id
/-- A command writes. -/
def cmWr (c : Cm) : Bool := cmOk c && decide (c.1 ≠ 1)
/-- Two commands that may be conflict. -/
def cmCf (a b : Cm) : Bool := decide (a.2.1 = b.2.1) && (decide (a.1 ≠ 1) || decide (b.1 ≠ 1))
def cmConf (a b : Cm) : Bool := cmOk a && (cmOk b && cmCf a b)
/-- Two batches conflict. -/
def batConf (A B : List Cm) : Bool := A.any (fun x => B.any (fun y => cmConf x y))
/-- Two boxes for commands. -/
theorem twoCm (a b : Cm) (w : World) : ∃ W, W = (w.alloc (.cells #[.int .i64 a.1, .string a.2.1, .float .f64 a.2.2] 114)).alloc (.cells #[.int .i64 b.1, .string b.2.1, .float .f64 b.2.2] 114) ∧ Below w.heap.size w W ∧
    ∃ H, St H [] W ∧ H.cell w.heap.size 0 = some (.int .i64 a.1) ∧ H.cell w.heap.size 1 = some (.string a.2.1) ∧ H.cell w.heap.size 2 = some (.float .f64 a.2.2) ∧ H.cell (w.heap.size + 1) 0 = some (.int .i64 b.1) ∧ H.cell (w.heap.size + 1) 1 = some (.string b.2.1) ∧ H.cell (w.heap.size + 1) 2 = some (.float .f64 b.2.2) := by
  obtain ⟨H1, l1, h1, y⟩ := (St.start w).box #[.int .i64 a.1, .string a.2.1, .float .f64 a.2.2] 114
  obtain ⟨H2, l2, h2, z⟩ := h1.box #[.int .i64 b.1, .string b.2.1, .float .f64 b.2.2] 114
  have e1 : (w.alloc (.cells #[.int .i64 a.1, .string a.2.1, .float .f64 a.2.2] 114)).heap.size = w.heap.size + 1 := by simp
  rw [e1] at z
  exact ⟨_, rfl, ((Below.refl _ _).alloc (Nat.le_refl _) _).alloc (by simp) _, H2, h2, Hp.cell_le l2 (y 0 _ rfl), Hp.cell_le l2 (y 1 _ rfl), Hp.cell_le l2 (y 2 _ rfl), z 0 _ rfl, z 1 _ rfl, z 2 _ rfl⟩
end Go.Proofs.YtcbckeoalmjcoaaGreat

/- Conflicts of batches. -/
set_option linter.unusedVariables false
set_option linter.unusedSimpArgs false
namespace Go.Proofs.YtcbckeoalmjcoaaGreat
open Go.RowKit Go.Cw Go.Fl
attribute [local go_sem ↓] eql_id neq_id
/-- A command's cells at p. -/
def CmAt (w : World) (p : Nat) (x : Cm) : Prop := w.cell? ⟨p, 0, none⟩ = some (.int .i64 x.1) ∧ w.cell? ⟨p, 1, none⟩ = some (.string x.2.1) ∧ w.cell? ⟨p, 2, none⟩ = some (.float .f64 x.2.2)
theorem CmAt.below {w w' : World} {p : Nat} {x : Cm} {B : Nat} (h : CmAt w p x) (hb : Below B w w') (hp : p < B) : CmAt w' p x :=
  ⟨(hb.cell (p := ⟨p, 0, none⟩) hp).trans h.1, (hb.cell (p := ⟨p, 1, none⟩) hp).trans h.2.1, (hb.cell (p := ⟨p, 2, none⟩) hp).trans h.2.2⟩
theorem CmAt.box (w : World) (x : Cm) : CmAt (w.alloc (.cells #[.int .i64 x.1, .string x.2.1, .float .f64 x.2.2] 114)) w.heap.size x := by
  obtain ⟨H1, l1, h1, y⟩ := (St.start w).box #[.int .i64 x.1, .string x.2.1, .float .f64 x.2.2] 114
  exact ⟨h1.cell (y 0 _ rfl), h1.cell (y 1 _ rfl), h1.cell (y 2 _ rfl)⟩
/-- The reference's inner loop. -/
theorem batConf_step (A B : List Cm) (k : Nat) (h : k < A.length) : batConf (A.drop k) B = (B.any (fun y => cmConf A[k] y) || batConf (A.drop (k + 1)) B) := by
  unfold batConf
  rw [List.drop_eq_getElem_cons h, List.any_cons]
end Go.Proofs.YtcbckeoalmjcoaaGreat

/- The premise: two records. -/
set_option linter.unusedVariables false
set_option linter.unusedSimpArgs false
namespace Go.Proofs.YtcbckeoalmjcoaaGreat
open Go.RowKit Go.Cw Go.Fl
attribute [local go_sem ↓] eql_id neq_id
def linkR (x y : Rp) : Bool := decide (y.1 ∈ x.2.2.1) || decide (x.1 ∈ y.2.2.1)
def lackR (x y : Rp) : Bool := batConf x.2.2.2 y.2.2.2 && !linkR x y
/-- A record's cells at p, for good. -/
def RcAt (H : Hp) (p : Nat) (x : Rc) : Prop := H.cell p 0 = some (.int .i64 x.1.1) ∧ H.cell p 1 = some (.int .i64 x.1.2) ∧ H.cell p 2 = some (.int .i64 x.2.1) ∧ H.cell p 3 = some x.2.2.1 ∧ H.cell p 4 = some x.2.2.2.1
abbrev rcA (x : Rc) : Array Value := #[.int .i64 x.1.1, .int .i64 x.1.2, .int .i64 x.2.1, x.2.2.1, x.2.2.2.1]
theorem RcAt.mono {H H' : Hp} {p : Nat} {x : Rc} (h : RcAt H p x) (hl : Hp.le H H') : RcAt H' p x := ⟨Hp.cell_le hl h.1, Hp.cell_le hl h.2.1, Hp.cell_le hl h.2.2.1, Hp.cell_le hl h.2.2.2.1, Hp.cell_le hl h.2.2.2.2⟩
theorem St.rcBox {H : Hp} {l : List HA} {w : World} (h : St H l w) (x : Rc) : ∃ H', Hp.le H H' ∧ St H' l (w.alloc (.cells (rcA x) 53)) ∧ RcAt H' w.heap.size x := by
  obtain ⟨H1, l1, h1, y⟩ := h.box (rcA x) 53
  exact ⟨H1, l1, h1, y 0 _ rfl, y 1 _ rfl, y 2 _ rfl, y 3 _ rfl, y 4 _ rfl⟩
/-- Two boxes for records. -/
theorem twoRc {H : Hp} {l : List HA} (x y : Rc) (w : World) (h : St H l w) : ∃ W, W = (w.alloc (.cells (rcA x) 53)).alloc (.cells (rcA y) 53) ∧ Below w.heap.size w W ∧
    ∃ H', Hp.le H H' ∧ St H' l W ∧ RcAt H' w.heap.size x ∧ RcAt H' (w.heap.size + 1) y := by
  obtain ⟨H1, l1, h1, a⟩ := St.rcBox h x
  obtain ⟨H2, l2, h2, b⟩ := St.rcBox h1 y
  have e1 : (w.alloc (.cells (rcA x) 53)).heap.size = w.heap.size + 1 := by simp
  rw [e1] at b
  exact ⟨_, rfl, ((Below.refl _ _).alloc (Nat.le_refl _) _).alloc (by simp) _, H2, Hp.le_trans l1 l2, h2, a.mono l2, b⟩
end Go.Proofs.YtcbckeoalmjcoaaGreat
