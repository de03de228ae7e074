/- The law IdsetActs: walked. -/
import Derived.Test.YtelmhcbdpimaaaaIdsetLaw
import Derived.Deep.RegionHeld3
set_option linter.unusedVariables false
set_option linter.unusedSimpArgs false
namespace Go.Proofs.Ytelmhcbdpimaaaa
open Go.RowKit Go.Cw
attribute [local go_sem ↓] eql_id neq_id
abbrev SAct := Bool × Int × Int
def sac (x : SAct) : List Value := [.bool x.1, .int .i64 x.2.1, .int .i64 x.2.2]
def sacs (l : List SAct) : List Value := l.flatMap sac
theorem sacs_len (l : List SAct) : (sacs l).length = l.length * 3 := flat_len sac 3 (fun _ => rfl) l
theorem sacs_get (l : List SAct) (k : Nat) (h : k < l.length) : (sacs l)[k * 3]? = some (.bool l[k].1) ∧ (sacs l)[k * 3 + 1]? = some (.int .i64 l[k].2.1) ∧ (sacs l)[k * 3 + 2]? = some (.int .i64 l[k].2.2) := by
  have := fun i hi => flat_get sac 3 (fun _ => rfl) l k i h hi
  exact ⟨this 0 (by omega), this 1 (by omega), this 2 (by omega)⟩
theorem keepA {W w9 : World} {b o : Nat} {u : Value} (hb : Below W.heap.size W w9) (q : W.cell? ⟨b, o, none⟩ = some u) (ob : Obj) : (w9.alloc ob).cell? ⟨b, o, none⟩ = some u := by
  have hl := World.block_lt_of_cell? _ _ q
  have h1 : w9.cell? ⟨b, o, none⟩ = some u := (hb.cell (p := ⟨b, o, none⟩) hl).trans q
  have h2 := World.block_lt_of_cell? _ _ h1
  unfold World.cell? at *
  rw [heap_alloc_old w9 ob h2]
  exact h1
theorem keepB {W w9 : World} {b o : Nat} {u : Value} (hb : Below W.heap.size W w9) (q : W.cell? ⟨b, o, none⟩ = some u) : w9.cell? ⟨b, o, none⟩ = some u :=
  (hb.cell (p := ⟨b, o, none⟩) (World.block_lt_of_cell? _ _ q)).trans q
theorem cellNew (w : World) (cs : Array Value) (t : TypeId) (i : Nat) (u : Value) (h : cs[i]? = some u) : (w.drew.alloc (.cells cs t)).cell? ⟨w.heap.size, i, none⟩ = some u := by
  have := heap_alloc_new w.drew (.cells cs t)
  unfold World.cell?
  have h2 : (w.drew.alloc (.cells cs t)).heap[w.heap.size]? = some (.cells cs t) := this
  rw [h2]
  exact h
theorem frozenNew (w : World) (cs : Array Value) (t : TypeId) (i : Nat) : (w.drew.alloc (.cells cs t)).frozen? ⟨w.heap.size, i, none⟩ = false := by
  have := heap_alloc_new w.drew (.cells cs t)
  unfold World.frozen?
  have h2 : (w.drew.alloc (.cells cs t)).heap[w.heap.size]? = some (.cells cs t) := this
  rw [h2]
  simp
theorem boxKeep {H : Hp} {g : Nat} {cs : Array Value} {t : TypeId} {l : List HA} {w : World} (h : St H (Blk g cs t :: l) w) : ∃ H', Hp.le H H' ∧ St H' l w ∧ ∀ i u, cs[i]? = some u → H'.cell g i = some u := by
  obtain ⟨h1, h2⟩ := h.blk_keep
  exact ⟨_, Hp.le_put h2, h1, fun i u hu => by
    have := Hp.put_same H g (.cells cs t)
    simp [Hp.cell, this, hu]⟩
theorem cutL_mem (a b : Id) (l : List Id) : b ∈ cutL a l ↔ b ∈ l ∧ b ≠ a := by unfold cutL; rw [List.mem_filter]; simp
theorem cutL_rises (a : Id) (l : List Id) (h : Rises l) : Rises (cutL a l) := List.Pairwise.filter _ h
theorem addL_mem (x b : Id) (acc : List Id) : b ∈ addL x acc ↔ b = x ∨ b ∈ acc := by
  unfold addL
  split
  · rename_i h
    constructor
    · exact .inr
    · rintro (e | e)
      · rw [e]; exact h
      · exact e
  · simp only [List.mem_append, List.mem_singleton]
    exact or_comm
end Go.Proofs.Ytelmhcbdpimaaaa
