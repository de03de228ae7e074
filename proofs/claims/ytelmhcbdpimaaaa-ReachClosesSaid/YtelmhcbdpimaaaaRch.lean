/- What is reached: plain. -/
import Derived.Test.YtelmhcbdpimaaaaCompact
import Derived.Test.YtelmhcbdpimaaaaGraph
set_option linter.unusedVariables false
set_option linter.unusedSimpArgs false
namespace Go.Proofs.Ytelmhcbdpimaaaa
open Go.RowKit Go.Cw Go.Fl
/-- What some ids reach. -/
inductive Rch (deps : Id → List Id) (l : List Id) : Id → Prop
  | base {a : Id} : a ∈ l → Rch deps l a
  | step {a b : Id} : Rch deps l a → b ∈ deps a → Rch deps l b
theorem Rch.closed {deps : Id → List Id} {l : List Id} {P : Id → Prop} (h0 : ∀ a ∈ l, P a) (h1 : ∀ a, P a → ∀ b ∈ deps a, P b) {a : Id} (h : Rch deps l a) : P a := by
  induction h with
  | base h => exact h0 _ h
  | step _ hb ih => exact h1 _ ih _ hb
theorem Rch.mono {deps : Id → List Id} {l m : List Id} (h : ∀ a ∈ l, a ∈ m) {a : Id} (hr : Rch deps l a) : Rch deps m a := hr.closed (fun a ha => .base (h a ha)) (fun _ ha _ hb => .step ha hb)
theorem Rch.trans {deps : Id → List Id} {l m : List Id} (h : ∀ a ∈ l, Rch deps m a) {a : Id} (hr : Rch deps l a) : Rch deps m a := hr.closed h (fun _ ha _ hb => .step ha hb)
theorem Rch.congr {deps deps' : Id → List Id} {l l' : List Id} (hd : ∀ a, deps a = deps' a) (hl : ∀ a, a ∈ l ↔ a ∈ l') {a : Id} : Rch deps l a ↔ Rch deps' l' a :=
  ⟨fun h => h.closed (fun a ha => .base ((hl a).1 ha)) (fun a ha b hb => .step ha (by rw [← hd]; exact hb)), fun h => h.closed (fun a ha => .base ((hl a).2 ha)) (fun a ha b hb => .step ha (by rw [hd]; exact hb))⟩
/-- A walk: what has come, what is left. -/
structure Dfs (deps : Id → List Id) (l : List Id) (pre left : List Id) : Prop where
  nd : pre.Nodup
  rp : ∀ a ∈ pre, Rch deps l a
  rl : ∀ a ∈ left, Rch deps l a
  st : ∀ a ∈ l, a ∈ pre ∨ a ∈ left
  cl : ∀ a ∈ pre, ∀ b ∈ deps a, b ∈ pre ∨ b ∈ left
theorem Dfs.start (deps : Id → List Id) (l : List Id) : Dfs deps l [] l := ⟨List.nodup_nil, by simp, fun a h => .base h, fun a h => .inr h, by simp⟩
theorem Dfs.skip {deps : Id → List Id} {l pre left : List Id} {x : Id} (h : Dfs deps l pre (left ++ [x])) (hx : x ∈ pre) : Dfs deps l pre left := by
  refine ⟨h.nd, h.rp, fun a ha => h.rl a (List.mem_append.2 (.inl ha)), fun a ha => ?_, fun a ha b hb => ?_⟩
  · rcases h.st a ha with h1 | h1
    · exact .inl h1
    · rcases List.mem_append.1 h1 with h1 | h1
      · exact .inr h1
      · rw [List.mem_singleton] at h1; subst h1; exact .inl hx
  · rcases h.cl a ha b hb with h1 | h1
    · exact .inl h1
    · rcases List.mem_append.1 h1 with h1 | h1
      · exact .inr h1
      · rw [List.mem_singleton] at h1; subst h1; exact .inl hx
theorem Dfs.go {deps : Id → List Id} {l pre left : List Id} {x : Id} (h : Dfs deps l pre (left ++ [x])) (hx : x ∉ pre) : Dfs deps l (pre ++ [x]) (left ++ deps x) := by
  have hrx : Rch deps l x := h.rl x (by simp)
  refine ⟨?_, fun a ha => ?_, fun a ha => ?_, fun a ha => ?_, fun a ha b hb => ?_⟩
  · rw [List.nodup_append]
    refine ⟨h.nd, by simp, fun a ha b hb e => ?_⟩
    rw [List.mem_singleton] at hb
    subst e hb
    exact hx ha
  · rcases List.mem_append.1 ha with h1 | h1
    · exact h.rp a h1
    · rw [List.mem_singleton] at h1; subst h1; exact hrx
  · rcases List.mem_append.1 ha with h1 | h1
    · exact h.rl a (List.mem_append.2 (.inl h1))
    · exact .step hrx h1
  · rcases h.st a ha with h1 | h1
    · exact .inl (List.mem_append.2 (.inl h1))
    · rcases List.mem_append.1 h1 with h1 | h1
      · exact .inr (List.mem_append.2 (.inl h1))
      · exact .inl (List.mem_append.2 (.inr h1))
  · rcases List.mem_append.1 ha with h1 | h1
    · rcases h.cl a h1 b hb with h2 | h2
      · exact .inl (List.mem_append.2 (.inl h2))
      · rcases List.mem_append.1 h2 with h2 | h2
        · exact .inr (List.mem_append.2 (.inl h2))
        · exact .inl (List.mem_append.2 (.inr h2))
    · rw [List.mem_singleton] at h1
      subst h1
      exact .inr (List.mem_append.2 (.inr hb))
theorem Dfs.all {deps : Id → List Id} {l pre : List Id} (h : Dfs deps l pre []) (a : Id) : a ∈ pre ↔ Rch deps l a :=
  ⟨h.rp a, fun hr => hr.closed (fun a ha => (h.st a ha).resolve_right (by simp)) (fun a ha b hb => (h.cl a ha b hb).resolve_right (by simp))⟩
theorem sub_len16 : ∀ (L M : List Id), L.Nodup → (∀ a, a ∈ L → a ∈ M) → L.length ≤ M.length
  | [], _, _, _ => Nat.zero_le _
  | x :: r, M, hn, hs => by
    obtain ⟨h1, h2⟩ := List.nodup_cons.1 hn
    have hx := hs x (List.mem_cons_self ..)
    have := sub_len16 r (M.erase x) h2 (fun a ha => by
      have hne : a ≠ x := fun e => h1 (e ▸ ha)
      exact (List.mem_erase_of_ne hne).2 (hs a (List.mem_cons_of_mem _ ha)))
    rw [List.length_erase_of_mem hx] at this
    have hpos := List.length_pos_of_mem hx
    simp only [List.length_cons]
    omega
theorem Dfs.len {deps : Id → List Id} {l pre left U : List Id} (h : Dfs deps l pre left) (hU : ∀ a, Rch deps l a → a ∈ U) : pre.length ≤ U.length := sub_len16 _ _ h.nd (fun a ha => hU a (h.rp a ha))
/-- Deps of an id. -/
def dpsR (l : List Rp) (a : Id) : List Id := (lookR l a).2.2.1
theorem dpsR_none {l : List Rp} {a : Id} (h : a ∉ pids l) : dpsR l a = [] := by unfold dpsR; rw [lookR_none h]
theorem dpsR_mem {l : List Rp} {a b : Id} (h : b ∈ dpsR l a) : b ∈ l.flatMap (fun x => x.2.2.1) := by
  by_cases hp : a ∈ pids l
  · exact List.mem_flatMap.2 ⟨_, (lookR_mem hp).1, h⟩
  · rw [dpsR_none hp] at h; cases h
/-- All that may be reached. -/
def allU (l : List Rp) (f : List Id) : List Id := f ++ l.flatMap (fun x => x.2.2.1)
theorem rch_allU {l : List Rp} {f : List Id} {a : Id} (h : Rch (dpsR l) f a) : a ∈ allU l f := by
  cases h with
  | base h => exact List.mem_append.2 (.inl h)
  | step _ hb => exact List.mem_append.2 (.inr (dpsR_mem hb))
theorem allU_len (l : List Rp) (f : List Id) (h : ∀ x ∈ l, x.2.2.1.length ≤ 16) : (allU l f).length ≤ f.length + 16 * l.length := by
  unfold allU
  rw [List.length_append]
  have : (l.flatMap (fun x => x.2.2.1)).length ≤ 16 * l.length := by
    induction l with
    | nil => simp
    | cons x r ih =>
      rw [List.flatMap_cons, List.length_append, List.length_cons]
      have h1 := h x (List.mem_cons_self ..)
      have h2 := ih (fun y hy => h y (List.mem_cons_of_mem _ hy))
      omega
  omega
end Go.Proofs.Ytelmhcbdpimaaaa
