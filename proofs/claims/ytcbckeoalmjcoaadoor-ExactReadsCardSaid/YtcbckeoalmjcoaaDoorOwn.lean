/- What a call owns and what it may only read, as assertions over blocks of memory: plain lemmas, of no program. -/
import Derived.WalkKit
import Derived.WalkSpells
import Derived.WalkLawsBesides
import Derived.Deep.Draws
import Derived.Deep.AppendLies
import Derived.Deep.LoopGhost
import Derived.Deep.QuietTactic
import Derived.Deep.DeepCutAuto
import Derived.Deep.CutBlock
import Derived.BigQuiet
import Derived.Below
import Derived.Lib.Hide
import Derived.KernelRfl
set_option linter.unusedVariables false
set_option linter.unusedSimpArgs false
namespace Go.Cw
open Go.RowKit

/-! ### 1. Worlds -/
/-- The outside is as it was; no block is gone. -/
structure Env (w w' : World) : Prop where
  os : w'.os = w.os
  tape : w'.tape = w.tape
  output : w'.output = w.output
  size : w.heap.size ≤ w'.heap.size
theorem Env.refl (w : World) : Env w w := ⟨rfl, rfl, rfl, Nat.le_refl _⟩
theorem Env.trans {a b c : World} (h : Env a b) (k : Env b c) : Env a c := ⟨k.os.trans h.os, k.tape.trans h.tape, k.output.trans h.output, Nat.le_trans h.size k.size⟩
theorem Env.alloc {a w : World} (h : Env a w) (o : Obj) : Env a (w.alloc o) := ⟨h.os, h.tape, h.output, Nat.le_trans h.size (by simp)⟩
theorem Env.drew {a w : World} (h : Env a w) : Env a w.drew := ⟨h.os, h.tape, h.output, h.size⟩
theorem Env.drewN {a w : World} (h : Env a w) (n : Nat) : Env a (w.drewN n) := ⟨h.os, h.tape, h.output, h.size⟩
theorem Env.setCell {a w : World} (h : Env a w) (p : Addr) (u : Value) : Env a (w.setCell p u) := ⟨h.os, h.tape, h.output, Nat.le_trans h.size (by simp)⟩
theorem bel_drewN {B : Nat} {a w : World} (h : Below B a w) (n : Nat) : Below B a (w.drewN n) := ⟨h.os, h.tape, h.output, h.size, h.block⟩
theorem bel_env {a w : World} (h : Below a.heap.size a w) : Env a w := ⟨h.os, h.tape, h.output, h.size⟩

/-- Blocks whose contents are known for good. -/
abbrev Hp := Nat → Option Obj
def Hp.le (H H' : Hp) : Prop := ∀ k o, H k = some o → H' k = some o
theorem Hp.le_refl (H : Hp) : Hp.le H H := fun _ _ h => h
theorem Hp.le_trans {A B C : Hp} (h : Hp.le A B) (k : Hp.le B C) : Hp.le A C := fun i o hi => k i o (h i o hi)
def Hp.put (H : Hp) (g : Nat) (o : Obj) : Hp := fun k => if k = g then some o else H k
theorem Hp.put_same (H : Hp) (g : Nat) (o : Obj) : H.put g o g = some o := by simp [Hp.put]
theorem Hp.le_put {H : Hp} {g : Nat} {o : Obj} (h : H g = none) : Hp.le H (H.put g o) := fun k u hk => by
  unfold Hp.put
  split
  · rename_i e; rw [e, h] at hk; cases hk
  · exact hk
/-- A cell of a block that is known for good. -/
def Hp.cell (H : Hp) (b o : Nat) : Option Value := match H b with
  | some (.cells c _ _) => c[o]?
  | _ => none
theorem Hp.cell_le {H H' : Hp} (h : Hp.le H H') {b o : Nat} {u : Value} (hc : H.cell b o = some u) : H'.cell b o = some u := by
  unfold Hp.cell at *
  cases hb : H b with
  | none => rw [hb] at hc; simp at hc
  | some x => rw [h b x hb]; rw [hb] at hc; exact hc

theorem max_int (ats : Array TypeId) (ty : TypeId) (k k' : IntKind) (x y : Int) : Builtin.max_ ats ty #[.int k x, .int k' y] = pure (.int k (max x y)) := by
  simp only [Builtin.max_, List.foldlM_cons, List.foldlM_nil, Builtin.max2, gt_iff_lt]
  have : (if x < y then y else x) = max x y := by split <;> omega
  rw [this]
  rfl
theorem min_int (ats : Array TypeId) (ty : TypeId) (k k' : IntKind) (x y : Int) : Builtin.min_ ats ty #[.int k x, .int k' y] = pure (.int k (min x y)) := by
  simp only [Builtin.min_, List.foldlM_cons, List.foldlM_nil, Builtin.min2]
  have : (if y < x then y else x) = min x y := by split <;> omega
  rw [this]
  rfl

/-! ### 2. Assertions -/
/-- What holds of a world, with the blocks that it is about. -/
structure HA where
  at_ : World → (Nat → Prop) → Prop
  move : ∀ {w w' : World} {S : Nat → Prop}, at_ w S → (∀ k, S k → w'.heap[k]? = w.heap[k]?) → at_ w' S
  lt : ∀ {w : World} {S : Nat → Prop}, at_ w S → ∀ k, S k → k < w.heap.size

def SepF : List HA → World → (Nat → Prop) → Prop
  | [], _, S => ∀ k, ¬ S k
  | A :: l, w, S => ∃ S1 S2, A.at_ w S1 ∧ SepF l w S2 ∧ (∀ k, S1 k → ¬ S2 k) ∧ (∀ k, S k ↔ (S1 k ∨ S2 k))

theorem SepF.move : ∀ {l : List HA} {w w' : World} {S : Nat → Prop}, SepF l w S → (∀ k, S k → w'.heap[k]? = w.heap[k]?) → SepF l w' S
  | [], _, _, _, h, _ => h
  | _ :: _, _, _, _, ⟨S1, S2, h1, h2, hd, hs⟩, hm => ⟨S1, S2, HA.move _ h1 (fun k hk => hm k ((hs k).2 (.inl hk))), SepF.move h2 (fun k hk => hm k ((hs k).2 (.inr hk))), hd, hs⟩
theorem SepF.lt : ∀ {l : List HA} {w : World} {S : Nat → Prop}, SepF l w S → ∀ k, S k → k < w.heap.size
  | [], _, _, h, k, hk => absurd hk (h k)
  | _ :: _, _, _, ⟨_, _, h1, h2, _, hs⟩, k, hk => by
    rcases (hs k).1 hk with hk | hk
    · exact HA.lt _ h1 k hk
    · exact SepF.lt h2 k hk
theorem SepF.swap {A B : HA} {l : List HA} {w : World} {S : Nat → Prop} (h : SepF (A :: B :: l) w S) : SepF (B :: A :: l) w S := by
  obtain ⟨SA, S2, hA, ⟨SB, Sl, hB, hl, hd1, hs1⟩, hd, hs⟩ := h
  refine ⟨SB, fun k => SA k ∨ Sl k, hB, ⟨SA, Sl, hA, hl, fun k hk hl' => hd k hk ((hs1 k).2 (.inr hl')), fun k => Iff.rfl⟩, ?_, ?_⟩
  · intro k hk h'
    rcases h' with h' | h'
    · exact hd k h' ((hs1 k).2 (.inl hk))
    · exact hd1 k hk h'
  · intro k
    rw [hs k, hs1 k]
    constructor
    · rintro (h | h | h)
      · exact .inr (.inl h)
      · exact .inl h
      · exact .inr (.inr h)
    · rintro (h | h | h)
      · exact .inr (.inl h)
      · exact .inl h
      · exact .inr (.inr h)
theorem SepF.cons {A : HA} {l l' : List HA} (h : ∀ (w : World) (S : Nat → Prop), SepF l w S → SepF l' w S) (w : World) (S : Nat → Prop) : SepF (A :: l) w S → SepF (A :: l') w S
  | ⟨S1, S2, h1, h2, hd, hs⟩ => ⟨S1, S2, h1, h _ _ h2, hd, hs⟩
theorem SepF.perm {l l' : List HA} (h : l.Perm l') : ∀ (w : World) (S : Nat → Prop), SepF l w S → SepF l' w S := by
  induction h with
  | nil => exact fun _ _ h => h
  | cons _ _ ih => exact SepF.cons ih
  | swap _ _ _ => exact fun _ _ h => h.swap
  | trans _ _ ih1 ih2 => exact fun w S h => ih2 w S (ih1 w S h)

/-- The blocks of H hold what H says; what is asserted lies in blocks of its own. -/
structure St (H : Hp) (l : List HA) (w : World) : Prop where
  imm : ∀ k o, H k = some o → w.heap[k]? = some o
  sep : ∃ S, SepF l w S ∧ ∀ k, S k → H k = none
section
variable {H H' : Hp} {l l' : List HA} {w w' : World} {A B : HA}
theorem St.perm (h : St H l w) (hp : l.Perm l') : St H l' w := by
  obtain ⟨S, hs, hn⟩ := h.sep
  exact ⟨h.imm, S, hs.perm hp _ _, hn⟩
theorem St.swap (h : St H (A :: B :: l) w) : St H (B :: A :: l) w := h.perm (List.Perm.swap _ _ _)
/-- Assertion number i comes first. -/
theorem pick_perm : ∀ (l : List HA) (i : Nat) (hi : i < l.length), l.Perm (l[i] :: l.eraseIdx i)
  | _ :: _, 0, _ => List.Perm.refl _
  | A :: l, i + 1, hi => (List.Perm.cons A (pick_perm l i (by simpa using hi))).trans (List.Perm.swap _ _ _)
theorem St.pick (h : St H l w) (i : Nat) (hi : i < l.length) : St H (l[i] :: l.eraseIdx i) w := h.perm (pick_perm l i hi)
theorem St.weaken (h : St H' l w) (hl : Hp.le H H') : St H l w := by
  obtain ⟨S, hs, hn⟩ := h.sep
  refine ⟨fun k o hk => h.imm k o (hl k o hk), S, hs, fun k hk => ?_⟩
  cases hh : H k with
  | none => rfl
  | some o => have := hl k o hh; rw [hn k hk] at this; cases this
theorem St.drop (h : St H (A :: l) w) : St H l w := by
  obtain ⟨S, ⟨S1, S2, h1, h2, hd, hs⟩, hn⟩ := h.sep
  exact ⟨h.imm, S2, h2, fun k hk => hn k ((hs k).2 (.inr hk))⟩
/-- Another world with the same blocks. -/
theorem St.move (h : St H l w) (hm : ∀ k, k < w.heap.size → w'.heap[k]? = w.heap[k]?) : St H l w' := by
  obtain ⟨S, hs, hn⟩ := h.sep
  refine ⟨fun k o hk => ?_, S, hs.move (fun k hk => hm k (hs.lt k hk)), hn⟩
  have h1 := h.imm k o hk
  rw [hm k (Array.getElem?_eq_some_iff.1 h1).1]
  exact h1
theorem St.alloc (h : St H l w) (o : Obj) : St H l (w.alloc o) := h.move (fun k hk => Below.heap_alloc w o k hk)
theorem St.drew (h : St H l w) : St H l w.drew := h.move (fun _ _ => rfl)
theorem St.drewN (h : St H l w) (n : Nat) : St H l (w.drewN n) := h.move (fun _ _ => rfl)
/-- What a call that only makes memory leaves. -/
theorem St.below (h : St H l w) (hb : Below w.heap.size w w') : St H l w' := h.move (fun k hk => hb.block k hk)
theorem St.lt (h : St H l w) {k : Nat} {o : Obj} (hk : H k = some o) : k < w.heap.size := (Array.getElem?_eq_some_iff.1 (h.imm k o hk)).1
theorem St.none_new (h : St H l w) {k : Nat} (hk : w.heap.size ≤ k) : H k = none := by
  cases hh : H k with
  | none => rfl
  | some o => have := h.lt hh; omega
/-- A new block whose contents will stay. -/
theorem St.keep (h : St H l w) (o : Obj) : St (H.put w.heap.size o) l (w.alloc o) := by
  obtain ⟨S, hs, hn⟩ := h.sep
  refine ⟨fun k u hk => ?_, S, hs.move (fun k hk => Below.heap_alloc w o k (hs.lt k hk)), fun k hk => ?_⟩
  · unfold Hp.put at hk
    split at hk
    · rename_i e
      cases hk
      subst e
      exact heap_alloc_new w o
    · have := h.lt hk
      rw [Below.heap_alloc w o k this]
      exact h.imm k u hk
  · unfold Hp.put
    rw [if_neg (by have := hs.lt k hk; omega)]
    exact hn k hk
theorem St.keep_le (h : St H l w) (o : Obj) : Hp.le H (H.put w.heap.size o) := Hp.le_put (h.none_new (Nat.le_refl _))
/-- A cell of a block that is known for good. -/
theorem St.cell (h : St H l w) {b o : Nat} {u : Value} (hc : H.cell b o = some u) : w.cell? ⟨b, o, none⟩ = some u := by
  unfold Hp.cell at hc
  cases hb : H b with
  | none => rw [hb] at hc; simp at hc
  | some x =>
    rw [hb] at hc
    unfold World.cell?
    rw [h.imm b x hb]
    cases x <;> simp at hc ⊢
    exact hc
/-- The first assertion is turned into another one, in a world that has turned in its blocks alone. -/
theorem St.turn (h : St H (A :: l) w) (hz : w.heap.size ≤ w'.heap.size)
    (ht : ∀ S, A.at_ w S → ∃ S', B.at_ w' S' ∧ (∀ k, S' k → S k ∨ w.heap.size ≤ k) ∧ ∀ k, k < w.heap.size → ¬ S k → w'.heap[k]? = w.heap[k]?) : St H (B :: l) w' := by
  obtain ⟨S, ⟨S1, S2, h1, h2, hd, hs⟩, hn⟩ := h.sep
  obtain ⟨S', hB, hS', hk'⟩ := ht S1 h1
  have hlt2 := SepF.lt h2
  refine ⟨fun k o hk => ?_, fun k => S' k ∨ S2 k, ⟨S', S2, hB, SepF.move h2 (fun k hk => hk' k (hlt2 k hk) (fun h' => hd k h' hk)), ?_, fun k => Iff.rfl⟩, ?_⟩
  · have hlt := h.lt hk
    rw [hk' k hlt (fun h' => by have := hn k ((hs k).2 (.inl h')); rw [this] at hk; cases hk)]
    exact h.imm k o hk
  · intro k hk h2'
    rcases hS' k hk with h' | h'
    · exact hd k h' h2'
    · have := hlt2 k h2'
      omega
  · rintro k (hk | hk)
    · rcases hS' k hk with h' | h'
      · exact hn k ((hs k).2 (.inl h'))
      · exact h.none_new h'
    · exact hn k ((hs k).2 (.inr hk))
/-- An assertion is weakened. -/
theorem St.imp (h : St H (A :: l) w) (ht : ∀ S, A.at_ w S → B.at_ w S) : St H (B :: l) w :=
  h.turn (Nat.le_refl _) (fun S hS => ⟨S, ht S hS, fun _ hk => .inl hk, fun _ _ _ => rfl⟩)
/-- A new assertion, of new blocks. -/
theorem St.new (h : St H l w) (hz : w.heap.size ≤ w'.heap.size) (S : Nat → Prop) (hB : B.at_ w' S) (hS : ∀ k, S k → w.heap.size ≤ k) (hk : ∀ k, k < w.heap.size → w'.heap[k]? = w.heap[k]?) : St H (B :: l) w' := by
  have h' := h.move hk
  obtain ⟨S2, hs, hn⟩ := h.sep
  have hlt := SepF.lt hs
  refine ⟨h'.imm, fun k => S k ∨ S2 k, ⟨S, S2, hB, SepF.move hs (fun k hk' => hk k (hlt k hk')), fun k h1 h2 => by have := hS k h1; have := hlt k h2; omega, fun k => Iff.rfl⟩, ?_⟩
  rintro k (hk' | hk')
  · exact h.none_new (hS k hk')
  · exact hn k hk'
/-- What the first assertion says. -/
theorem St.get {φ : Prop} (h : St H (A :: l) w) (ht : ∀ S, A.at_ w S → φ) : φ := by
  obtain ⟨S, ⟨S1, S2, h1, h2, hd, hs⟩, hn⟩ := h.sep
  exact ht S1 h1
end

/-- What a call leaves: the value, what is asserted now. -/
structure Res (H : Hp) (fr : List HA) (w : World) (v : Value) (l : List HA) (e : Ending) (w' : World) : Prop where
  val : e = .returned v
  st : St H (l ++ fr) w'
  env : Env w w'
/-- The same, for some x. -/
def ResE {α : Type} (H : Hp) (fr : List HA) (w : World) (v : α → Value) (l : α → List HA) (e : Ending) (w' : World) : Prop := ∃ x, Res H fr w (v x) (l x) e w'
/-- All that is there, for good. -/
def snap (w : World) : Hp := fun k => w.heap[k]?
theorem St.start (w : World) : St (snap w) [] w := ⟨fun _ _ h => h, fun _ => False, fun _ h => h, fun _ h => h.elim⟩
theorem St.toBelow {w w' : World} {l : List HA} (h : St (snap w) l w') (he : Env w w') : Below w.heap.size w w' :=
  ⟨he.os, he.tape, he.output, he.size, fun k hk => by
    have h1 : snap w k = some w.heap[k] := Array.getElem?_eq_getElem hk
    rw [h.imm k _ h1, Array.getElem?_eq_getElem hk]⟩
theorem snap_cell (w : World) (b o : Nat) : (snap w).cell b o = w.cell? ⟨b, o, none⟩ := by
  unfold Hp.cell snap World.cell?
  cases w.heap[b]? with
  | none => rfl
  | some x => cases x <;> rfl

/-! ### 3. Assertions made of others -/
/-- One block of cells. -/
def Blk (g : Nat) (cs : Array Value) (t : TypeId) : HA where
  at_ := fun w S => w.heap[g]? = some (.cells cs t (0, 0)) ∧ ∀ k, S k ↔ k = g
  move := fun h hm => ⟨(hm g ((h.2 g).2 rfl)).trans h.1, h.2⟩
  lt := fun h k hk => by
    have := (h.2 k).1 hk
    subst this
    exact (Array.getElem?_eq_some_iff.1 h.1).1
/-- There is an x. -/
def Ex {α : Type} (f : α → HA) : HA where
  at_ := fun w S => ∃ x, (f x).at_ w S
  move := fun ⟨x, h⟩ hm => ⟨x, (f x).move h hm⟩
  lt := fun ⟨x, h⟩ => (f x).lt h
/-- And p. -/
def Pu (p : Prop) (A : HA) : HA where
  at_ := fun w S => p ∧ A.at_ w S
  move := fun ⟨hp, h⟩ hm => ⟨hp, A.move h hm⟩
  lt := fun ⟨_, h⟩ => A.lt h
/-- Nothing. -/
def Emp : HA where
  at_ := fun _ S => ∀ k, ¬ S k
  move := fun h _ => h
  lt := fun h k hk => absurd hk (h k)
/-- Both, apart. -/
def Star (A B : HA) : HA where
  at_ := fun w S => ∃ S1 S2, A.at_ w S1 ∧ B.at_ w S2 ∧ (∀ k, S1 k → ¬ S2 k) ∧ (∀ k, S k ↔ (S1 k ∨ S2 k))
  move := fun ⟨S1, S2, h1, h2, hd, hs⟩ hm => ⟨S1, S2, A.move h1 (fun k hk => hm k ((hs k).2 (.inl hk))), B.move h2 (fun k hk => hm k ((hs k).2 (.inr hk))), hd, hs⟩
  lt := fun ⟨S1, S2, h1, h2, hd, hs⟩ k hk => by
    rcases (hs k).1 hk with hk | hk
    · exact A.lt h1 k hk
    · exact B.lt h2 k hk
section
variable {H : Hp} {l : List HA} {w w' : World} {A B : HA}
theorem St.openEx {α : Type} {f : α → HA} (h : St H (Ex f :: l) w) : ∃ x, St H (f x :: l) w := by
  obtain ⟨S, ⟨S1, S2, ⟨x, h1⟩, h2, hd, hs⟩, hn⟩ := h.sep
  exact ⟨x, h.imm, S, ⟨S1, S2, h1, h2, hd, hs⟩, hn⟩
theorem St.shutEx {α : Type} {f : α → HA} (x : α) (h : St H (f x :: l) w) : St H (Ex f :: l) w := h.imp (fun _ hS => ⟨x, hS⟩)
theorem St.cast {A B : HA} (h : St H (A :: l) w) (e : A = B) : St H (B :: l) w := e ▸ h
theorem St.openPu {p : Prop} (h : St H (Pu p A :: l) w) : p ∧ St H (A :: l) w := ⟨h.get (fun _ hS => hS.1), h.imp (fun _ hS => hS.2)⟩
theorem St.shutPu {p : Prop} (hp : p) (h : St H (A :: l) w) : St H (Pu p A :: l) w := h.imp (fun _ hS => ⟨hp, hS⟩)
theorem St.openStar (h : St H (Star A B :: l) w) : St H (A :: B :: l) w := by
  obtain ⟨S, ⟨S1, S2, ⟨SA, SB, hA, hB, hd1, hs1⟩, h2, hd, hs⟩, hn⟩ := h.sep
  refine ⟨h.imm, S, ⟨SA, fun k => SB k ∨ S2 k, hA, ⟨SB, S2, hB, h2, fun k hk => hd k ((hs1 k).2 (.inr hk)), fun _ => Iff.rfl⟩, ?_, ?_⟩, hn⟩
  · rintro k hk (h' | h')
    · exact hd1 k hk h'
    · exact hd k ((hs1 k).2 (.inl hk)) h'
  · intro k
    rw [hs k, hs1 k, or_assoc]
theorem St.shutStar (h : St H (A :: B :: l) w) : St H (Star A B :: l) w := by
  obtain ⟨S, ⟨SA, S', hA, ⟨SB, S2, hB, h2, hd1, hs1⟩, hd, hs⟩, hn⟩ := h.sep
  refine ⟨h.imm, S, ⟨fun k => SA k ∨ SB k, S2, ⟨SA, SB, hA, hB, fun k hk h' => hd k hk ((hs1 k).2 (.inl h')), fun _ => Iff.rfl⟩, h2, ?_, ?_⟩, hn⟩
  · rintro k (hk | hk) h'
    · exact hd k hk ((hs1 k).2 (.inr h'))
    · exact hd1 k hk h'
  · intro k
    rw [hs k, hs1 k, or_assoc]
theorem St.emp (h : St H l w) : St H (Emp :: l) w := h.new (Nat.le_refl _) (fun _ => False) (fun _ hk => hk) (fun _ hk => hk.elim) (fun _ _ => rfl)

theorem St.blk (h : St H l w) (cs : Array Value) (t : TypeId) : St H (Blk w.heap.size cs t :: l) (w.alloc (.cells cs t)) :=
  h.new (by simp) (fun k => k = w.heap.size) ⟨heap_alloc_new w _, fun _ => Iff.rfl⟩ (fun k hk => by omega) (fun k hk => Below.heap_alloc w _ k hk)
variable {g : Nat} {cs : Array Value} {t : TypeId}
theorem St.blk_heap (h : St H (Blk g cs t :: l) w) : w.heap[g]? = some (.cells cs t (0, 0)) := h.get (fun _ hS => hS.1)
theorem St.blk_lt (h : St H (Blk g cs t :: l) w) : g < w.heap.size := (Array.getElem?_eq_some_iff.1 h.blk_heap).1
theorem St.blk_cell (h : St H (Blk g cs t :: l) w) (i : Nat) : w.cell? ⟨g, i, none⟩ = cs[i]? := by simp [World.cell?, h.blk_heap]
theorem St.blk_free (h : St H (Blk g cs t :: l) w) (i : Nat) : w.frozen? ⟨g, i, none⟩ = false := by simp [World.frozen?, h.blk_heap]
theorem heap_set (w : World) (g i : Nat) (cs : Array Value) (t : TypeId) (u : Value) (h : w.heap[g]? = some (.cells cs t (0, 0))) :
    (w.setCell ⟨g, i, none⟩ u).heap[g]? = some (.cells (cs.setIfInBounds i u) t (0, 0)) := by
  simp [World.setCell, Array.getElem?_modify, h]
theorem St.blk_set (h : St H (Blk g cs t :: l) w) (i : Nat) (u : Value) : St H (Blk g (cs.setIfInBounds i u) t :: l) (w.setCell ⟨g, i, none⟩ u) := by
  refine h.turn (by simp) (fun S hS => ⟨S, ⟨heap_set w g i cs t u hS.1, hS.2⟩, fun k hk => .inl hk, fun k _ hk => ?_⟩)
  exact Below.heap_setCell w _ u k (fun e => hk ((hS.2 k).2 e))
/-- A block of one's own becomes one that stays. -/
theorem St.blk_keep (h : St H (Blk g cs t :: l) w) : St (H.put g (.cells cs t (0, 0))) l w ∧ H g = none := by
  have hb := h.blk_heap
  obtain ⟨S, ⟨S1, S2, h1, h2, hd, hs⟩, hn⟩ := h.sep
  have hg1 : S1 g := (h1.2 g).2 rfl
  have hgn : H g = none := hn g ((hs g).2 (.inl hg1))
  refine ⟨⟨fun k o hk => ?_, S2, h2, fun k hk => ?_⟩, hgn⟩
  · unfold Hp.put at hk
    split at hk
    · rename_i e
      cases hk
      rw [e]
      exact hb
    · exact h.imm k o hk
  · unfold Hp.put
    split
    · rename_i e
      rw [e] at hk
      exact absurd hk (hd g hg1)
    · exact hn k ((hs k).2 (.inr hk))
end
/-! ### 4. A row of the call's own: a slice's cells, in a block that nobody else writes or reads -/
def rowAt (e : TypeId) (sz : Nat) (v : Value) (cs : List Value) (w : World) (S : Nat → Prop) : Prop :=
  (v = .slice none 0 0 ∧ cs = [] ∧ ∀ k, ¬ S k) ∨
  ∃ g off n cap cur, v = .slice (some ⟨g, off, none⟩) n cap ∧ cs.length = n * sz ∧ n ≤ cap ∧ cap ≤ maxLen ∧ w.heap[g]? = some (.cells cur e (0, 0)) ∧ off + cap * sz ≤ cur.size ∧ (∀ j u, cs[j]? = some u → cur[off + j]? = some u) ∧ ∀ k, S k ↔ k = g
def Row (e : TypeId) (sz : Nat) (v : Value) (cs : List Value) : HA where
  at_ := rowAt e sz v cs
  move := by
    intro w w' S h hm
    rcases h with h | ⟨g, off, n, cap, cur, hv, hl, hc, hM, hh, hs, hj, hS⟩
    · exact .inl h
    · exact .inr ⟨g, off, n, cap, cur, hv, hl, hc, hM, (hm g ((hS g).2 rfl)).trans hh, hs, hj, hS⟩
  lt := by
    intro w S h k hk
    rcases h with ⟨_, _, h⟩ | ⟨g, off, n, cap, cur, hv, hl, hc, hM, hh, hs, hj, hS⟩
    · exact absurd hk (h k)
    · have := (hS k).1 hk
      subst this
      exact (Array.getElem?_eq_some_iff.1 hh).1
section
variable {H : Hp} {l : List HA} {w w' : World} {e : TypeId} {sz : Nat} {v : Value} {cs : List Value}
theorem St.row_nil (h : St H l w) (e : TypeId) (sz : Nat) : St H (Row e sz (.slice none 0 0) [] :: l) w :=
  h.new (Nat.le_refl _) (fun _ => False) (.inl ⟨rfl, rfl, fun _ h => h⟩) (fun _ h => h.elim) (fun _ _ => rfl)
/-- A whole new block as a row: what a literal, a make makes. -/
theorem St.row_lit (h : St H l w) (e : TypeId) (sz n : Nat) (cs : Array Value) (hl : cs.size = n * sz) (hM : n ≤ maxLen) :
    St H (Row e sz (.slice (some ⟨w.heap.size, 0, none⟩) n n) cs.toList :: l) (w.alloc (.cells cs e)) := by
  refine h.new (by simp) (fun k => k = w.heap.size) (.inr ⟨w.heap.size, 0, n, n, cs, rfl, by simpa using hl, Nat.le_refl _, hM, heap_alloc_new w _, by omega, fun j u hj => ?_, fun _ => Iff.rfl⟩) (fun k hk => by omega) (fun k hk => Below.heap_alloc w _ k hk)
  simpa using hj
/-- The shape of what is owned. -/
theorem St.row_form (h : St H (Row e sz v cs :: l) w) : ∃ A n c, v = .slice A n c ∧ cs.length = n * sz ∧ n ≤ c ∧ c ≤ maxLen := h.get (fun S hS => by
  rcases hS with ⟨rfl, rfl, _⟩ | ⟨g, off, n, cap, cur, rfl, hl, hc, hM, _⟩
  · exact ⟨none, 0, 0, rfl, by simp, Nat.le_refl _, by simp [maxLen]⟩
  · exact ⟨_, n, cap, rfl, hl, hc, hM⟩)
/-- Its cells. -/
theorem St.row_cell {A : Option Addr} {n c : Nat} (h : St H (Row e sz (.slice A n c) cs :: l) w) {j : Nat} {u : Value} (hj : cs[j]? = some u) :
    ∃ g off, A = some ⟨g, off, none⟩ ∧ w.cell? ⟨g, off + j, none⟩ = some u ∧ w.frozen? ⟨g, off + j, none⟩ = false := h.get (fun S hS => by
  rcases hS with ⟨_, rfl, _⟩ | ⟨g, off, n, cap, cur, hv, hl, hc, hM, hh, hs, hjj, hS⟩
  · simp at hj
  · cases hv
    exact ⟨g, off, rfl, by simp [World.cell?, hh, hjj j u hj], by simp [World.frozen?, hh]⟩)
/-- All its cells, the address once. -/
theorem St.row_cells {A : Option Addr} {n c : Nat} (h : St H (Row e sz (.slice A n c) cs :: l) w) (hn : 0 < n) (hsz : 0 < sz) :
    ∃ g off, A = some ⟨g, off, none⟩ ∧ g < w.heap.size ∧ (∀ j u, cs[j]? = some u → w.cell? ⟨g, off + j, none⟩ = some u) ∧ (∀ j, w.frozen? ⟨g, off + j, none⟩ = false) := h.get (fun S hS => by
  rcases hS with ⟨hv, rfl, _⟩ | ⟨g, off, n, cap, cur, hv, hl, hc, hM, hh, hs, hjj, hS⟩
  · cases hv; omega
  · cases hv
    exact ⟨g, off, rfl, (Array.getElem?_eq_some_iff.1 hh).1, fun j u hj => by simp [World.cell?, hh, hjj j u hj], fun j => by simp [World.frozen?, hh]⟩)
/-- A cell is written. -/
theorem St.row_set {g off n c : Nat} (h : St H (Row e sz (.slice (some ⟨g, off, none⟩) n c) cs :: l) w) (j : Nat) (hj : j < cs.length) (u : Value) :
    St H (Row e sz (.slice (some ⟨g, off, none⟩) n c) (cs.set j u) :: l) (w.setCell ⟨g, off + j, none⟩ u) := by
  refine h.turn (by simp) (fun S hS => ?_)
  rcases hS with ⟨hv, _⟩ | ⟨g', off', n', cap, cur, hv, hl, hc, hM, hh, hs, hjj, hS⟩
  · cases hv
  · cases hv
    refine ⟨S, .inr ⟨g, off, n, c, _, rfl, by simpa using hl, hc, hM, heap_set w g (off + j) cur e u hh, by simpa using hs, fun i x hi => ?_, hS⟩, fun k hk => .inl hk, fun k _ hk => Below.heap_setCell w _ u k (fun e => hk ((hS k).2 e))⟩
    have hcur : off + j < cur.size := by
      have hlt : j < n * sz := by omega
      have : n * sz ≤ c * sz := Nat.mul_le_mul_right _ hc
      omega
    rw [List.getElem?_set] at hi
    rw [Array.getElem?_setIfInBounds]
    by_cases hij : j = i
    · subst hij
      rw [if_pos rfl, if_pos hj] at hi
      rw [if_pos rfl, if_pos hcur]
      exact hi
    · rw [if_neg hij] at hi
      rw [if_neg (by omega)]
      exact hjj i x hi
/-- s[:k]: what lies behind is let go. -/
theorem St.row_take {A : Option Addr} {n c : Nat} (h : St H (Row e sz (.slice A n c) cs :: l) w) (k : Nat) (hk : k ≤ n) :
    St H (Row e sz (.slice A k c) (cs.take (k * sz)) :: l) w := h.imp (fun S hS => by
  rcases hS with ⟨hv, rfl, hS⟩ | ⟨g, off, n', cap, cur, hv, hl, hc, hM, hh, hs, hjj, hS⟩
  · cases hv
    obtain rfl : k = 0 := by omega
    exact .inl ⟨rfl, by simp, hS⟩
  · cases hv
    have : k * sz ≤ n * sz := Nat.mul_le_mul_right _ hk
    refine .inr ⟨g, off, k, c, cur, rfl, by simp; omega, by omega, hM, hh, hs, fun j u hj => ?_, hS⟩
    rw [List.getElem?_take] at hj
    split at hj
    · exact hjj j u hj
    · cases hj)
/-- s[:k:m] with m no more than the capacity. -/
theorem St.row_cap {A : Option Addr} {n c : Nat} (h : St H (Row e sz (.slice A n c) cs :: l) w) (k m : Nat) (hk : k ≤ n) (hkm : k ≤ m) (hm : m ≤ c) :
    St H (Row e sz (.slice A k m) (cs.take (k * sz)) :: l) w := by
  refine (h.row_take k hk).imp (fun S hS => ?_)
  rcases hS with ⟨hv, hcs, hS⟩ | ⟨g, off, n', cap, cur, hv, hl, hc, hM, hh, hs, hjj, hS⟩
  · cases hv
    obtain rfl : m = 0 := by omega
    exact .inl ⟨rfl, hcs, hS⟩
  · cases hv
    have : m * sz ≤ c * sz := Nat.mul_le_mul_right _ hm
    exact .inr ⟨g, off, k, m, cur, rfl, hl, hkm, by omega, hh, by omega, hjj, hS⟩
end

/-! ### 5. A row that is only read -/
def Rd (H : Hp) (sz : Nat) (v : Value) (cs : List Value) : Prop :=
  ∃ A n c, v = .slice A n c ∧ cs.length = n * sz ∧ n ≤ c ∧ c ≤ maxLen ∧ (0 < n → ∃ b off, A = some ⟨b, off, none⟩ ∧ ∀ j u, cs[j]? = some u → H.cell b (off + j) = some u)
theorem Rd.mono {H H' : Hp} {sz : Nat} {v : Value} {cs : List Value} (h : Rd H sz v cs) (hl : Hp.le H H') : Rd H' sz v cs := by
  obtain ⟨A, n, c, hv, h1, h2, h3, h4⟩ := h
  refine ⟨A, n, c, hv, h1, h2, h3, fun hn => ?_⟩
  obtain ⟨b, off, hA, hc⟩ := h4 hn
  exact ⟨b, off, hA, fun j u hj => Hp.cell_le hl (hc j u hj)⟩
theorem Rd.nil (H : Hp) (sz : Nat) : Rd H sz (.slice none 0 0) [] := ⟨none, 0, 0, rfl, by simp, Nat.le_refl _, by simp [maxLen], fun h => absurd h (by omega)⟩
section
variable {H : Hp} {l : List HA} {w w' : World} {e : TypeId} {sz : Nat} {v : Value} {cs : List Value}
/-- A row of one's own becomes one that is only read. -/
theorem St.row_keep (h : St H (Row e sz v cs :: l) w) : ∃ H', Hp.le H H' ∧ St H' l w ∧ Rd H' sz v cs := by
  obtain ⟨S, ⟨S1, S2, h1, h2, hd, hs⟩, hn⟩ := h.sep
  rcases h1 with ⟨rfl, rfl, _⟩ | ⟨g, off, n, cap, cur, rfl, hl, hc, hM, hh, hsz, hjj, hS⟩
  · exact ⟨H, Hp.le_refl H, h.drop, Rd.nil _ _⟩
  · have hb : St H (Blk g cur e :: l) w := ⟨h.imm, S, ⟨S1, S2, ⟨hh, hS⟩, h2, hd, hs⟩, hn⟩
    obtain ⟨hk, hg⟩ := hb.blk_keep
    refine ⟨_, Hp.le_put hg, hk, _, n, cap, rfl, hl, hc, hM, fun _ => ⟨g, off, rfl, fun j u hj => ?_⟩⟩
    simp only [Hp.cell, Hp.put_same]
    exact hjj j u hj
theorem Rd.form (h : Rd H sz v cs) : ∃ A n c, v = .slice A n c ∧ cs.length = n * sz ∧ n ≤ c ∧ c ≤ maxLen := by
  obtain ⟨A, n, c, hv, h1, h2, h3, h4⟩ := h
  exact ⟨A, n, c, hv, h1, h2, h3⟩
theorem Rd.cells {A : Option Addr} {n c : Nat} (h : Rd H sz (.slice A n c) cs) (hst : St H l w) (hn : 0 < n) : ∃ b off, A = some ⟨b, off, none⟩ ∧ ∀ j u, cs[j]? = some u → w.cell? ⟨b, off + j, none⟩ = some u := by
  obtain ⟨A', n', c', hv, h1, h2, h3, h4⟩ := h
  cases hv
  obtain ⟨b, off, hA, hc⟩ := h4 hn
  exact ⟨b, off, hA, fun j u hj => hst.cell (hc j u hj)⟩
theorem Rd.len {A : Option Addr} {n c : Nat} (h : Rd H sz (.slice A n c) cs) : cs.length = n * sz := by
  obtain ⟨A', n', c', hv, h1, h2, h3, h4⟩ := h
  cases hv
  exact h1
theorem Rd.bound {A : Option Addr} {n c : Nat} (h : Rd H sz (.slice A n c) cs) : n ≤ c ∧ c ≤ 9223372036854775807 := by
  obtain ⟨A', n', c', hv, h1, h2, h3, h4⟩ := h
  cases hv
  exact ⟨h2, by simpa [maxLen] using h3⟩
/-- s[a:b] of what is read. -/
theorem Rd.take {A : Option Addr} {n c : Nat} (h : Rd H sz (.slice A n c) cs) (k : Nat) (hk : k ≤ n) : Rd H sz (.slice A k c) (cs.take (k * sz)) := by
  obtain ⟨A', n', c', hv, h1, h2, h3, h4⟩ := h
  cases hv
  have : k * sz ≤ n * sz := Nat.mul_le_mul_right _ hk
  refine ⟨A, k, c, rfl, by simp; omega, by omega, h3, fun hn => ?_⟩
  obtain ⟨b, off, hA, hc⟩ := h4 (by omega)
  refine ⟨b, off, hA, fun j u hj => ?_⟩
  rw [List.getElem?_take] at hj
  split at hj
  · exact hc j u hj
  · cases hj
end

/-- What a slice reads as, now. -/
def Rw (w : World) (sz : Nat) (v : Value) (cs : List Value) : Prop :=
  ∃ A n c, v = .slice A n c ∧ cs.length = n * sz ∧ n ≤ c ∧ c ≤ maxLen ∧ (0 < n → ∃ b off, A = some ⟨b, off, none⟩ ∧ ∀ j u, cs[j]? = some u → w.cell? ⟨b, off + j, none⟩ = some u)
section
variable {H : Hp} {l : List HA} {w w' : World} {e : TypeId} {sz : Nat} {v : Value} {cs : List Value}
theorem Rw.nil (w : World) (sz : Nat) : Rw w sz (.slice none 0 0) [] := ⟨none, 0, 0, rfl, by simp, Nat.le_refl _, by simp [maxLen], fun h => absurd h (by omega)⟩
theorem Rw.below (h : Rw w sz v cs) (hb : Below w.heap.size w w') : Rw w' sz v cs := by
  obtain ⟨A, n, c, hv, h1, h2, h3, h4⟩ := h
  refine ⟨A, n, c, hv, h1, h2, h3, fun hn => ?_⟩
  obtain ⟨b, off, hA, hc⟩ := h4 hn
  exact ⟨b, off, hA, fun j u hj => (hb.cell (World.block_lt_of_cell? w _ (hc j u hj))).trans (hc j u hj)⟩
theorem Rw.drewN (h : Rw w sz v cs) (n : Nat) : Rw (w.drewN n) sz v cs := h
theorem Rw.alloc (h : Rw w sz v cs) (o : Obj) : Rw (w.alloc o) sz v cs := h.below ((Below.refl _ _).alloc (Nat.le_refl _) o)
theorem Rd.rw (h : Rd H sz v cs) (hst : St H l w) : Rw w sz v cs := by
  obtain ⟨A, n, c, hv, h1, h2, h3, h4⟩ := h
  refine ⟨A, n, c, hv, h1, h2, h3, fun hn => ?_⟩
  obtain ⟨b, off, hA, hc⟩ := h4 hn
  exact ⟨b, off, hA, fun j u hj => hst.cell (hc j u hj)⟩
theorem St.row_rw (h : St H (Row e sz v cs :: l) w) (hsz : 0 < sz) : Rw w sz v cs := by
  obtain ⟨A, n, c, rfl, h1, h2, h3⟩ := h.row_form
  refine ⟨A, n, c, rfl, h1, h2, h3, fun hn => ?_⟩
  obtain ⟨g, off, hA, _, hc, _⟩ := h.row_cells hn hsz
  exact ⟨g, off, hA, hc⟩
/-- s[a:]. -/
theorem Rw.from {b off n c : Nat} (h : Rw w sz (.slice (some ⟨b, off, none⟩) n c) cs) (k : Nat) (hk : k ≤ n) (A' : Addr) (c' : Nat) (hA : k < n → A' = ⟨b, off + k * sz, none⟩) (hc' : n - k ≤ c') (hM : c' ≤ 9223372036854775807) : Rw w sz (.slice (some A') (n - k) c') (cs.drop (k * sz)) := by
  obtain ⟨A, n', c0, hv, h1, h2, h3, h4⟩ := h
  cases hv
  refine ⟨_, _, _, rfl, ?_, hc', by simpa [maxLen] using hM, fun hn => ?_⟩
  · rw [List.length_drop, h1, Nat.sub_mul]
  · obtain ⟨b', off', hA', hc⟩ := h4 (by omega)
    cases hA'
    refine ⟨b, off + k * sz, by rw [hA (by omega)], fun j u hj => ?_⟩
    rw [List.getElem?_drop] at hj
    rw [Nat.add_assoc]
    exact hc _ u hj
/-- s[:b]. -/
theorem Rw.upto {A : Option Addr} {n c : Nat} (h : Rw w sz (.slice A n c) cs) (k : Nat) (hk : k ≤ n) : Rw w sz (.slice A k c) (cs.take (k * sz)) := by
  obtain ⟨A', n', c', hv, h1, h2, h3, h4⟩ := h
  cases hv
  have : k * sz ≤ n * sz := Nat.mul_le_mul_right _ hk
  refine ⟨A, k, c, rfl, by simp; omega, by omega, h3, fun hn => ?_⟩
  obtain ⟨b, off, hA, hc⟩ := h4 (by omega)
  refine ⟨b, off, hA, fun j u hj => ?_⟩
  rw [List.getElem?_take] at hj
  split at hj
  · exact hc j u hj
  · cases hj
theorem Rw.form (h : Rw w sz v cs) : ∃ A n c, v = .slice A n c ∧ cs.length = n * sz ∧ n ≤ c ∧ c ≤ 9223372036854775807 := by
  obtain ⟨A, n, c, hv, h1, h2, h3, h4⟩ := h
  exact ⟨A, n, c, hv, h1, h2, by simpa [maxLen] using h3⟩
theorem Rw.cells {A : Option Addr} {n c : Nat} (h : Rw w sz (.slice A n c) cs) (hn : 0 < n) : ∃ b off, A = some ⟨b, off, none⟩ ∧ ∀ j u, cs[j]? = some u → w.cell? ⟨b, off + j, none⟩ = some u := by
  obtain ⟨A', n', c', hv, h1, h2, h3, h4⟩ := h
  cases hv
  exact h4 hn
end
/-- A cell of the i-th of equally long pieces. -/
theorem flat_get {α : Type} (enc : α → List Value) (sz : Nat) (h : ∀ x, (enc x).length = sz) : ∀ (xs : List α) (i j : Nat) (hi : i < xs.length), j < sz → (xs.flatMap enc)[i * sz + j]? = (enc xs[i])[j]?
  | x :: xs, 0, j, _, hj => by simp [List.getElem?_append, h x, hj]
  | x :: xs, i + 1, j, hi, hj => by
    rw [List.flatMap_cons, List.getElem?_append_right (by rw [h x, Nat.add_mul]; omega), h x, show (i + 1) * sz + j - sz = i * sz + j by rw [Nat.add_mul]; omega]
    simpa using flat_get enc sz h xs i j (by simpa using hi) hj
theorem flat_len {α : Type} (enc : α → List Value) (sz : Nat) (h : ∀ x, (enc x).length = sz) (xs : List α) : (xs.flatMap enc).length = xs.length * sz := by
  induction xs with
  | nil => simp
  | cons x xs ih => rw [List.flatMap_cons, List.length_append, h x, ih, List.length_cons, Nat.add_mul]; omega
theorem Rw.rd {w : World} {sz : Nat} {v : Value} {cs : List Value} (h : Rw w sz v cs) : Rd (snap w) sz v cs := by
  obtain ⟨A, n, c, hv, h1, h2, h3, h4⟩ := h
  refine ⟨A, n, c, hv, h1, h2, h3, fun hn => ?_⟩
  obtain ⟨b, off, hA, hc⟩ := h4 hn
  exact ⟨b, off, hA, fun j u hj => (snap_cell _ _ _).trans (hc j u hj)⟩
theorem SepF.append : ∀ {l m : List HA} {w : World} {S T : Nat → Prop}, SepF l w S → SepF m w T → (∀ k, S k → ¬ T k) → SepF (l ++ m) w (fun k => S k ∨ T k)
  | [], _, _, S, T, h, h', _ => by
    have : (fun k => S k ∨ T k) = T := funext fun k => propext ⟨fun hk => hk.elim (fun h'' => absurd h'' (h k)) id, .inr⟩
    rw [this]
    exact h'
  | A :: l, m, w, S, T, ⟨S1, S2, h1, h2, hd, hs⟩, h', hdj => ⟨S1, fun k => S2 k ∨ T k, h1, SepF.append h2 h' (fun k hk => hdj k ((hs k).2 (.inr hk))),
      fun k hk hk' => hk'.elim (hd k hk) (hdj k ((hs k).2 (.inl hk))), fun k => by show (S k ∨ T k) ↔ (S1 k ∨ S2 k ∨ T k); rw [hs k, or_assoc]⟩
/-- What a call that leaves all that was there has made, beside what was asserted before. -/
theorem St.lift {H : Hp} {fr l : List HA} {w w' : World} (h : St H fr w) (h' : St (snap w) l w') (he : Env w w') : St H (l ++ fr) w' := by
  have hb := h'.toBelow he
  have hm := h.below hb
  obtain ⟨S, hs, hn⟩ := hm.sep
  obtain ⟨S', hs', hn'⟩ := h'.sep
  obtain ⟨S0, hs0, _⟩ := h.sep
  have hnew : ∀ k, S' k → w.heap.size ≤ k := fun k hk => by
    rcases Nat.lt_or_ge k w.heap.size with hlt | hge
    · have := hn' k hk
      simp only [snap, Array.getElem?_eq_getElem hlt] at this
      cases this
    · exact hge
  obtain ⟨T, hT, hTn⟩ : ∃ T, SepF fr w' T ∧ (∀ k, T k → H k = none ∧ k < w.heap.size) := by
    obtain ⟨S0, hs0, hn0⟩ := h.sep
    exact ⟨S0, hs0.move (fun k hk => hb.block k (hs0.lt k hk)), fun k hk => ⟨hn0 k hk, hs0.lt k hk⟩⟩
  refine ⟨hm.imm, _, SepF.append hs' hT (fun k hk hk' => by have := hnew k hk; have := (hTn k hk').2; omega), ?_⟩
  rintro k (hk | hk)
  · exact h.none_new (hnew k hk)
  · exact (hTn k hk).1
theorem Res.lift {H : Hp} {fr l : List HA} {w w' : World} {v : Value} {e : Ending} (h : St H fr w) (h' : Res (snap w) [] w v l e w') : Res H fr w v l e w' :=
  ⟨h'.val, h.lift (by simpa using h'.st) h'.env, h'.env⟩
theorem ResE.lift {α : Type} {H : Hp} {fr : List HA} {w w' : World} {v : α → Value} {l : α → List HA} {e : Ending} (h : St H fr w) (h' : ResE (snap w) [] w v l e w') : ResE H fr w v l e w' := by
  obtain ⟨x, hx⟩ := h'
  exact ⟨x, hx.lift h⟩

/-! ### 6. append -/
section
variable {P : Program} {H : Hp} {l : List HA} {w : World} {e : TypeId} {sz : Nat} {v : Value} {cs : List Value}
/-- What an operand of append brings: m elements' cells. -/
structure News (P : Program) (w : World) (sz : Nat) (x : Value) (m : Nat) (news : List Value) : Prop where
  len : news.length = m * sz
  lenOf : ∀ w', (Builtin.lenOf x).run P w' = .ok m w'
  first : ∀ n, (Builtin.firstCells sz m x).run P (w.drewN n) = .ok news.toArray (w.drewN n)
  one : ∀ u ∈ news, u.oneCell' = true
theorem News.slice {A : Option Addr} {m c : Nat} {news : List Value} (hl : news.length = m * sz) (hc : 0 < m → ∃ ad, A = some ad ∧ ∀ j u, news[j]? = some u → w.cell? (ad.add j) = some u) (h1 : ∀ u ∈ news, u.oneCell' = true) : News P w sz (.slice A m c) m news := by
  refine ⟨hl, fun w' => by simp [Builtin.lenOf], fun n => ?_, h1⟩
  rcases Nat.eq_zero_or_pos m with rfl | hm
  · obtain rfl : news = [] := List.eq_nil_of_length_eq_zero (by simpa using hl)
    cases A with
    | none => simp [Builtin.firstCells]
    | some ad => exact run_firstCells_some (P := P) (w.drewN n) sz 0 ad 0 c [] (by simp) (by simp)
  · obtain ⟨ad, rfl, hcc⟩ := hc hm
    exact run_firstCells_some (P := P) (w.drewN n) sz m ad m c news hl hcc
theorem add_lit (b o j : Nat) : (⟨b, o, none⟩ : Addr).add j = ⟨b, o + j, none⟩ := by unfold Addr.add; split <;> simp_all
theorem News.rw {A : Option Addr} {n c : Nat} (h : Rw w sz (.slice A n c) cs) (h1 : ∀ u ∈ cs, u.oneCell' = true) : News P w sz (.slice A n c) n cs := by
  obtain ⟨A', n', c', hv, hl, _, _, hc⟩ := h
  cases hv
  refine News.slice hl (fun hn => ?_) h1
  obtain ⟨b, off, rfl, hcc⟩ := hc hn
  exact ⟨_, rfl, fun j u hj => by rw [add_lit]; exact hcc j u hj⟩
theorem News.rd (h : Rd H sz v cs) (hst : St H l w) (h1 : ∀ u ∈ cs, u.oneCell' = true) : ∃ m, News P w sz v m cs := by
  obtain ⟨A, n, c, rfl, hl, _, _, hc⟩ := h
  refine ⟨n, News.slice hl (fun hn => ?_) h1⟩
  obtain ⟨b, off, rfl, hcc⟩ := hc hn
  exact ⟨_, rfl, fun j u hj => by rw [add_lit]; exact hst.cell (hcc j u hj)⟩
/-- The elements of a literal that has just been laid. -/
theorem News.new (w : World) (e : TypeId) (n : Nat) (cs : Array Value) (hl : cs.size = n * sz) (h1 : ∀ u ∈ cs.toList, u.oneCell' = true) : News P (w.alloc (.cells cs e)) sz (.slice (some ⟨w.heap.size, 0, none⟩) n n) n cs.toList :=
  News.slice (by simpa using hl) (fun _ => ⟨_, rfl, fun j u hj => by rw [add_lit, Nat.zero_add, World.cell?_alloc_new]; simpa using hj⟩) h1
theorem setCells_heap (b : Nat) : ∀ (vs : List Value) (o : Nat) (w : World) (cur : Array Value) (e : TypeId), w.heap[b]? = some (.cells cur e (0, 0)) → o + vs.length ≤ cur.size →
    ∃ cur', (w.setCells b o vs).heap[b]? = some (.cells cur' e (0, 0)) ∧ cur'.size = cur.size ∧ (∀ j, j < o → cur'[j]? = cur[j]?) ∧ (∀ j u, vs[j]? = some u → cur'[o + j]? = some u) ∧ ∀ k, k ≠ b → (w.setCells b o vs).heap[k]? = w.heap[k]?
  | [], o, w, cur, e, h, _ => ⟨cur, h, rfl, fun _ _ => rfl, fun j u hj => by simp at hj, fun _ _ => rfl⟩
  | x :: r, o, w, cur, e, h, hs => by
    simp only [List.length_cons] at hs
    obtain ⟨cur', h1, h2, h3, h4, h5⟩ := setCells_heap b r (o + 1) (w.setCell ⟨b, o, none⟩ x) (cur.setIfInBounds o x) e (heap_set w b o cur e x h) (by simp; omega)
    refine ⟨cur', h1, by simpa using h2, fun j hj => ?_, fun j u hj => ?_, fun k hk => (h5 k hk).trans (Below.heap_setCell w _ x k hk)⟩
    · rw [h3 j (by omega), Array.getElem?_setIfInBounds, if_neg (by omega)]
    · cases j with
      | zero =>
        simp at hj
        subst hj
        rw [Nat.add_zero, h3 o (by omega), Array.getElem?_setIfInBounds, if_pos rfl, if_pos (by omega)]
      | succ j =>
        have := h4 j u (by simpa using hj)
        rwa [show o + 1 + j = o + (j + 1) by omega] at this
theorem setCells_env (b : Nat) : ∀ (vs : List Value) (o : Nat) (w : World), Env w (w.setCells b o vs)
  | [], _, w => Env.refl w
  | x :: r, o, w => (Env.refl w |>.setCell ⟨b, o, none⟩ x).trans (setCells_env b r (o + 1) _)

/-- append(v, x...), v a row of one's own. -/
theorem St.append_run (h : St H (Row e sz v cs :: l) w) (t u ty : TypeId) (z : Value) (bytes : Nat) (ht : P.underlying t = some (.slice e)) (hu : (∃ d, P.underlying u = some (.slice d)) ∨ P.underlying u = some .string)
    (hinfo : (P.info? e).map (fun i => (i.zero, i.size, i.bytes)) = some (some z, sz, bytes)) (hz : z.cells.size = sz) (hsz : 0 < sz)
    {x : Value} {m : Nat} {news : List Value} (hx : News P w sz x m news) (hb : (cs.length + news.length) * bytes ≤ sz * 140737488355328) (hb0 : 0 < bytes) :
    ∃ v' w', (Builtin.append_ #[t, u] ty #[v, x]).run P w = .ok v' w' ∧ St H (Row e sz v' (cs ++ news) :: l) w' ∧ Env w w' := by
  obtain ⟨i, hi, hz0, hz1, hz2⟩ := info_parts hinfo
  subst hz1
  subst hz2
  obtain ⟨A, n, c, rfl, hl, hc, hM⟩ := h.row_form
  have hnm : (n + m) * i.bytes ≤ 140737488355328 := by
    have h1 : (cs.length + news.length) = i.size * (n + m) := by rw [hl, hx.len, ← Nat.add_mul, Nat.mul_comm]
    rw [h1, Nat.mul_assoc] at hb
    exact Nat.le_of_mul_le_mul_left hb hsz
  have hsmall : n + m ≤ 140737488355328 := Nat.le_trans (Nat.le_mul_of_pos_right _ hb0) hnm
  have hlo := hx.lenOf w
  by_cases hroom : n + m ≤ c
  · have hf := hx.first 0
    have hd0 : w.drewN 0 = w := rfl
    rw [hd0] at hf
    cases A with
    | none =>
      have h0 : cs = [] ∧ n = 0 ∧ c = 0 := h.get (fun S hS => by
        rcases hS with ⟨hv, hcs, _⟩ | ⟨g, off, n', cap, cur, hv, _⟩
        · cases hv; exact ⟨hcs, rfl, rfl⟩
        · cases hv)
      obtain ⟨rfl, rfl, rfl⟩ := h0
      obtain rfl : m = 0 := by omega
      have hnews : news = [] := List.eq_nil_of_length_eq_zero (by simpa using hx.len)
      refine ⟨.slice none 0 0, w, ?_, by simpa [hnews] using h, Env.refl w⟩
      rcases hu with ⟨d, hd⟩ | hd <;> simp [Builtin.append_, run_underlying ht, run_underlying hd, sizeOf, typeInfo, hi, hlo, hf]
    | some ad =>
      obtain ⟨S, ⟨S1, S2, h1, h2, hdj, hs⟩, hn⟩ := h.sep
      rcases h1 with ⟨hv, _⟩ | ⟨g, off, n', cap, cur, hv, hl', hc', hM', hh, hs', hjj, hS⟩
      · cases hv
      · cases hv
        have hmul : (n + m) * i.size ≤ c * i.size := Nat.mul_le_mul_right _ hroom
        rw [Nat.add_mul] at hmul
        have hnl : news.length = m * i.size := hx.len
        have hst := run_storeCells_cells (P := P) g (off + n * i.size) news 0 w
          (fun j hj => by
            simp only [Nat.add_zero, World.cell?, hh]
            rw [if_neg (by simp)]
            simp
            omega)
          (fun j hj => by simp [World.frozen?, hh]) hx.one
        simp only [Nat.add_zero] at hst
        obtain ⟨cur', hh', hsz', hlow, hnew, hfar⟩ := setCells_heap g news (off + n * i.size) w cur e hh (by omega)
        refine ⟨.slice (some ⟨g, off, none⟩) (n + m) c, w.setCells g (off + n * i.size) news, ?_, ?_, setCells_env _ _ _ _⟩
        · rcases hu with ⟨d, hd⟩ | hd <;> simp [Builtin.append_, run_underlying ht, run_underlying hd, sizeOf, typeInfo, hi, hlo, hroom, hf, Addr.add_lit, hst]
        · refine h.turn (setCells_env _ _ _ _).size (fun S hS => ?_)
          rcases hS with ⟨hv, _⟩ | ⟨g', off', n', cap', cur2, hv, _, _, _, hh2, _, _, hS⟩
          · cases hv
          · cases hv
            refine ⟨S, .inr ⟨g, off, n + m, c, cur', rfl, by rw [List.length_append, hl, hnl, Nat.add_mul], hroom, hM, hh', by omega, fun j u hj => ?_, hS⟩, fun k hk => .inl hk, fun k _ hk => hfar k (fun e => hk ((hS k).2 e))⟩
            rw [List.getElem?_append] at hj
            split at hj
            · rw [hlow (off + j) (by omega)]
              exact hjj j u hj
            · have := hnew (j - cs.length) u hj
              rwa [show off + n * i.size + (j - cs.length) = off + j by omega] at this
  · have hge := grownCap_ge w (n + m) c e
    have hcm : grownCap w (n + m) c e ≤ maxLen := grownCap_le_maxLen w (n + m) c e (by simp only [maxLen]; omega)
    have hf := hx.first 1
    have hfit := growslice_fits (bytes := i.bytes) (show c < n + m by omega) hnm
    have h63' : ¬ (9223372036854775807 < ((n : Int) + (m : Int))) := by omega
    have h48' : ¬ (281474976710656 < Builtin.nextslicecap (n + m) c * i.bytes) := by omega
    have hfo : (Builtin.firstCells i.size n (.slice A n c)).run P w.drew = .ok cs.toArray w.drew := by
      cases A with
      | none =>
        have h0 : cs = [] := h.get (fun S hS => by
          rcases hS with ⟨hv, hcs, _⟩ | ⟨g, off, n', cap, cur, hv, _⟩
          · exact hcs
          · cases hv)
        subst h0
        simp [Builtin.firstCells]
      | some ad =>
        refine run_firstCells_some (P := P) w.drew i.size n ad n c cs hl (fun j u hj => ?_)
        obtain ⟨g, off, hA, hcell, _⟩ := h.row_cell hj
        cases hA
        rw [add_lit]
        simpa using hcell
    have hd1 : w.drewN 1 = w.drew := rfl
    rw [hd1] at hf
    refine ⟨.slice (some ⟨w.heap.size, 0, none⟩) (n + m) (grownCap w (n + m) c e), w.drew.alloc (.cells (cs.toArray ++ news.toArray ++ Builtin.zeroCells z.cells (grownCap w (n + m) c e - (n + m))) e), ?_, ?_, (Env.refl w).drew.alloc _⟩
    · have hr' : ¬ (n + m ≤ c) := hroom
      rcases hu with ⟨d, hd⟩ | hd <;> simp [Builtin.append_, run_underlying ht, run_underlying hd, sizeOf, typeInfo, zeroValue, hi, hz0, hlo, hr', h63', h48', Question.forced, hf, hfo, newRow, grownCap] <;> (congr 2; apply Array.ext'; simp)
    · have hd := h.drop
      refine (hd.drew).new (by simp) (fun k => k = w.heap.size) (.inr ⟨w.heap.size, 0, n + m, grownCap w (n + m) c e, _, rfl, by rw [List.length_append, hl, hx.len, Nat.add_mul], hge, hcm, heap_alloc_new w.drew _, ?_, fun j u hj => ?_, fun _ => Iff.rfl⟩) (fun k hk => by simp; omega) (fun k hk => Below.heap_alloc _ _ k hk)
      · simp only [Array.size_append, List.size_toArray, size_zeroCells, hz, hl, hx.len, ← Nat.add_mul]
        rw [Nat.zero_add]
        exact Nat.mul_le_mul_right _ (by omega)
      · have hlt := (List.getElem?_eq_some_iff.1 hj).1
        rw [Nat.zero_add, Array.getElem?_append_left (by simpa using hlt)]
        simpa [List.getElem?_append] using hj
/-- append(v, x...) as an arm of the walk. -/
theorem wpList_append {P : Program} {ops : Array Oper} {rest : List Oper} {o : Oper} {a : Act} {Q : Exit → Act → World → Prop} (hg : o.guard = none) (s y : Operand) (t u : TypeId)
    (hop : o.op = Op.call { callee := Callee.builtin Builtin.append, args := #[s, y], argTypes := #[t, u] }) (ht : P.underlying t = some (.slice e)) (hu : (∃ d, P.underlying u = some (.slice d)) ∨ P.underlying u = some .string)
    (z : Value) (bytes : Nat) (hinfo : (P.info? e).map (fun i => (i.zero, i.size, i.bytes)) = some (some z, sz, bytes)) (hz : z.cells.size = sz) (hsz : 0 < sz) (hb0 : 0 < bytes)
    {x : Value} {m : Nat} {news : List Value} (hs : a.eval s = v) (hy : a.eval y = x)
    (h : St H (Row e sz v cs :: l) w) (hx : News P w sz x m news) (hb : (cs.length + news.length) * bytes ≤ sz * 140737488355328)
    (k : ∀ v' w', St H (Row e sz v' (cs ++ news) :: l) w' → Env w w' → wpList P ops Q rest (a.put o.dst v') w') : wpList P ops Q (o :: rest) a w := by
  refine wpList_plain hg fun K hK' => ?_
  obtain ⟨v', w', hrun, r1, r2⟩ := h.append_run t u o.type z bytes ht hu hinfo hz hsz hx hb hb0
  unfold Oper.wp
  simp [execOp, hop, resolve, invoke, builtin, hs, hy, hrun, Result.andThen]
  exact hK' _ _ (k v' w' r1 r2)
end
end Go.Cw
