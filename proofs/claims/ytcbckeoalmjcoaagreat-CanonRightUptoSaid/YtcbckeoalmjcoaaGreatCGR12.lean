/- Joined texts: Rch, Scc, SortG. -/
import Derived.Test.YtcbckeoalmjcoaaGreatCGR4
import Derived.Test.YtcbckeoalmjcoaaGreatCGR5
import Derived.Test.YtcbckeoalmjcoaaGreatCGR11
/- What is reached: plain. -/
set_option linter.unusedVariables false
set_option linter.unusedSimpArgs false
namespace Go.Proofs.YtcbckeoalmjcoaaGreat
open Go.RowKit Go.Cw Go.Fl
/-- What some ids reach. -/
inductive Rch (deps : Id → List Id) (l : List Id) : Id → Prop
  | base {a : Id} : a ∈ l → Rch deps l a
  | step {a b : Id} : Rch deps l a → b ∈ deps a → Rch deps l b
theorem Rch.closed {deps : Id → List Id} {l : List Id} {P : Id → Prop} (h0 : ∀ a ∈ l, P a) (h1 : ∀ a, P a → ∀ b ∈ deps a, P b) {a : Id} (h : Rch deps l a) : P a := by
  induction h with
  | base h => exact h0 _ h
  | step _ hb ih => exact h1 _ ih _ hb
theorem Rch.mono {deps : Id → List Id} {l m : List Id} (h : ∀ a ∈ l, a ∈ m) {a : Id} (hr : Rch deps l a) : Rch deps m a := hr.closed (fun a ha => .base (h a ha)) (fun _ ha _ hb => .step ha hb)
theorem Rch.trans {deps : Id → List Id} {l m : List Id} (h : ∀ a ∈ l, Rch deps m a) {a : Id} (hr : Rch deps l a) : Rch deps m a := hr.closed h (fun _ ha _ hb => .step ha hb)
theorem Rch.congr {deps deps' : Id → List Id} {l l' : List Id} (hd : ∀ a, deps a = deps' a) (hl : ∀ a, a ∈ l ↔ a ∈ l') {a : Id} : Rch deps l a ↔ Rch deps' l' a :=
  ⟨fun h => h.closed (fun a ha => .base ((hl a).1 ha)) (fun a ha b hb => .step ha (by rw [← hd]; exact hb)), fun h => h.closed (fun a ha => .base ((hl a).2 ha)) (fun a ha b hb => .step ha (by rw [hd]; exact hb))⟩
/-- A walk: what has come, what is left. -/
structure Dfs (deps : Id → List Id) (l : List Id) (pre left : List Id) : Prop where
  nd : pre.Nodup
  rp : ∀ a ∈ pre, Rch deps l a
  rl : ∀ a ∈ left, Rch deps l a
  st : ∀ a ∈ l, a ∈ pre ∨ a ∈ left
  cl : ∀ a ∈ pre, ∀ b ∈ deps a, b ∈ pre ∨ b ∈ left
theorem Dfs.start (deps : Id → List Id) (l : List Id) : Dfs deps l [] l := ⟨List.nodup_nil, by simp, fun a h => .base h, fun a h => .inr h, by simp⟩
theorem Dfs.skip {deps : Id → List Id} {l pre left : List Id} {x : Id} (h : Dfs deps l pre (left ++ [x])) (hx : x ∈ pre) : Dfs deps l pre left := by
  refine ⟨h.nd, h.rp, fun a ha => h.rl a (List.mem_append.2 (.inl ha)), fun a ha => ?_, fun a ha b hb => ?_⟩
  · rcases h.st a ha with h1 | h1
    · exact .inl h1
    · rcases List.mem_append.1 h1 with h1 | h1
      · exact .inr h1
      · rw [List.mem_singleton] at h1; subst h1; exact .inl hx
  · rcases h.cl a ha b hb with h1 | h1
    · exact .inl h1
    · rcases List.mem_append.1 h1 with h1 | h1
      · exact .inr h1
      · rw [List.mem_singleton] at h1; subst h1; exact .inl hx
theorem Dfs.go {deps : Id → List Id} {l pre left : List Id} {x : Id} (h : Dfs deps l pre (left ++ [x])) (hx : x ∉ pre) : Dfs deps l (pre ++ [x]) (left ++ deps x) := by
  have hrx : Rch deps l x := h.rl x (by simp)
  refine ⟨?_, fun a ha => ?_, fun a ha => ?_, fun a ha => ?_, fun a ha b hb => ?_⟩
  · rw [List.nodup_append]
    refine ⟨h.nd, by simp, fun a ha b hb e => ?_⟩
    rw [List.mem_singleton] at hb
    subst e hb
    exact hx ha
  · rcases List.mem_append.1 ha with h1 | h1
    · exact h.rp a h1
    · rw [List.mem_singleton] at h1; subst h1; exact hrx
  · rcases List.mem_append.1 ha with h1 | h1
    · exact h.rl a (List.mem_append.2 (.inl h1))
    · exact .step hrx h1
  · rcases h.st a ha with h1 | h1
    · exact .inl (List.mem_append.2 (.inl h1))
    · rcases List.mem_append.1 h1 with h1 | h1
      · exact .inr (List.mem_append.2 (.inl h1))
      · exact .inl (List.mem_append.2 (.inr h1))
  · rcases List.mem_append.1 ha with h1 | h1
    · rcases h.cl a h1 b hb with h2 | h2
      · exact .inl (List.mem_append.2 (.inl h2))
      · rcases List.mem_append.1 h2 with h2 | h2
        · exact .inr (List.mem_append.2 (.inl h2))
        · exact .inl (List.mem_append.2 (.inr h2))
    · rw [List.mem_singleton] at h1
      subst h1
      exact .inr (List.mem_append.2 (.inr hb))
theorem Dfs.all {deps : Id → List Id} {l pre : List Id} (h : Dfs deps l pre []) (a : Id) : a ∈ pre ↔ Rch deps l a :=
  ⟨h.rp a, fun hr => hr.closed (fun a ha => (h.st a ha).resolve_right (by simp)) (fun a ha b hb => (h.cl a ha b hb).resolve_right (by simp))⟩
theorem sub_len16 : ∀ (L M : List Id), L.Nodup → (∀ a, a ∈ L → a ∈ M) → L.length ≤ M.length
  | [], _, _, _ => Nat.zero_le _
  | x :: r, M, hn, hs => by
    obtain ⟨h1, h2⟩ := List.nodup_cons.1 hn
    have hx := hs x (List.mem_cons_self ..)
    have := sub_len16 r (M.erase x) h2 (fun a ha => by
      have hne : a ≠ x := fun e => h1 (e ▸ ha)
      exact (List.mem_erase_of_ne hne).2 (hs a (List.mem_cons_of_mem _ ha)))
    rw [List.length_erase_of_mem hx] at this
    have hpos := List.length_pos_of_mem hx
    simp only [List.length_cons]
    omega
theorem Dfs.len {deps : Id → List Id} {l pre left U : List Id} (h : Dfs deps l pre left) (hU : ∀ a, Rch deps l a → a ∈ U) : pre.length ≤ U.length := sub_len16 _ _ h.nd (fun a ha => hU a (h.rp a ha))
/-- Deps of an id. -/
def dpsR (l : List Rp) (a : Id) : List Id := (lookR l a).2.2.1
theorem dpsR_none {l : List Rp} {a : Id} (h : a ∉ pids l) : dpsR l a = [] := by unfold dpsR; rw [lookR_none h]
theorem dpsR_mem {l : List Rp} {a b : Id} (h : b ∈ dpsR l a) : b ∈ l.flatMap (fun x => x.2.2.1) := by
  by_cases hp : a ∈ pids l
  · exact List.mem_flatMap.2 ⟨_, (lookR_mem hp).1, h⟩
  · rw [dpsR_none hp] at h; cases h
/-- All that may be reached. -/
def allU (l : List Rp) (f : List Id) : List Id := f ++ l.flatMap (fun x => x.2.2.1)
theorem rch_allU {l : List Rp} {f : List Id} {a : Id} (h : Rch (dpsR l) f a) : a ∈ allU l f := by
  cases h with
  | base h => exact List.mem_append.2 (.inl h)
  | step _ hb => exact List.mem_append.2 (.inr (dpsR_mem hb))
theorem allU_len (l : List Rp) (f : List Id) (h : ∀ x ∈ l, x.2.2.1.length ≤ 16) : (allU l f).length ≤ f.length + 16 * l.length := by
  unfold allU
  rw [List.length_append]
  have : (l.flatMap (fun x => x.2.2.1)).length ≤ 16 * l.length := by
    induction l with
    | nil => simp
    | cons x r ih =>
      rw [List.flatMap_cons, List.length_append, List.length_cons]
      have h1 := h x (List.mem_cons_self ..)
      have h2 := ih (fun y hy => h y (List.mem_cons_of_mem _ hy))
      omega
  omega
end Go.Proofs.YtcbckeoalmjcoaaGreat

/- There and back: two walks tell all components: plain laws. -/
set_option linter.unusedVariables false
set_option linter.unusedSimpArgs false
namespace Go.Proofs.YtcbckeoalmjcoaaGreat
open Go.RowKit Go.Cw Go.Fl
/-- Does one id reach another one? -/
abbrev Rr (nx : Id → List Id) (a b : Id) : Prop := Rch nx [a] b
theorem rr_refl (nx : Id → List Id) (a : Id) : Rr nx a a := .base (by simp)
theorem rr_trans {nx : Id → List Id} {a b c : Id} (h : Rr nx a b) (k : Rr nx b c) : Rr nx a c := Rch.trans (fun x hx => by rw [List.mem_singleton] at hx; subst hx; exact h) k
theorem rr_edge {nx : Id → List Id} {a b : Id} (h : b ∈ nx a) : Rr nx a b := .step (rr_refl nx a) h
/-- Two that reach each other. -/
def Mu (nx : Id → List Id) (a b : Id) : Prop := Rr nx a b ∧ Rr nx b a
theorem Mu.refl (nx : Id → List Id) (a : Id) : Mu nx a a := ⟨rr_refl nx a, rr_refl nx a⟩
theorem Mu.symm {nx : Id → List Id} {a b : Id} (h : Mu nx a b) : Mu nx b a := ⟨h.2, h.1⟩
theorem Mu.trans {nx : Id → List Id} {a b c : Id} (h : Mu nx a b) (k : Mu nx b c) : Mu nx a c := ⟨rr_trans h.1 k.1, rr_trans k.2 h.2⟩
/-- A walk: what is left; where it is, the top first: an id, and how many of its edges were gone; what came. -/
structure Wk where
  left : List Id
  st : List (Id × Nat)
  out : List Id
def Wk.ids (w : Wk) : List Id := w.st.map (·.1)
inductive Stp (nx : Id → List Id) : Wk → Wk → Prop
  | root {L : List Id} {b : Id} {O : List Id} : b ∈ L → Stp nx ⟨L, [], O⟩ ⟨cutL b L, [(b, 0)], O⟩
  | pop {L : List Id} {a : Id} {S : List (Id × Nat)} {O : List Id} : Stp nx ⟨L, (a, (nx a).length) :: S, O⟩ ⟨L, S, O ++ [a]⟩
  | skip {L : List Id} {a b : Id} {k : Nat} {S : List (Id × Nat)} {O : List Id} : (nx a)[k]? = some b → b ∉ L → Stp nx ⟨L, (a, k) :: S, O⟩ ⟨L, (a, k + 1) :: S, O⟩
  | push {L : List Id} {a b : Id} {k : Nat} {S : List (Id × Nat)} {O : List Id} : (nx a)[k]? = some b → b ∈ L → Stp nx ⟨L, (a, k) :: S, O⟩ ⟨cutL b L, (b, 0) :: (a, k + 1) :: S, O⟩
inductive Stps (nx : Id → List Id) : Wk → Wk → Prop
  | nil {w : Wk} : Stps nx w w
  | snoc {a b c : Wk} : Stps nx a b → Stp nx b c → Stps nx a c
theorem Stps.trans {nx : Id → List Id} {a b c : Wk} (h : Stps nx a b) (k : Stps nx b c) : Stps nx a c := by
  induction k with
  | nil => exact h
  | snoc _ s ih => exact .snoc ih s
theorem Stps.keep {nx : Id → List Id} {P : Wk → Prop} (hs : ∀ a b, P a → Stp nx a b → P b) {a b : Wk} (h : P a) (k : Stps nx a b) : P b := by
  induction k with
  | nil => exact h
  | snoc _ s ih => exact hs _ _ ih s
theorem cutL_in {a b : Id} {L : List Id} : a ∈ cutL b L ↔ a ∈ L ∧ a ≠ b := by simp [cutL]
theorem cutL_less {b : Id} {L : List Id} (h : b ∈ L) : (cutL b L).length < L.length := by
  unfold cutL
  induction L with
  | nil => cases h
  | cons x r ih =>
    rw [List.filter_cons]
    split
    · rename_i hx
      simp only [List.length_cons]
      have : b ∈ r := by
        rcases List.mem_cons.1 h with rfl | h
        · simp at hx
        · exact h
      have := ih this
      omega
    · have := List.length_filter_le (fun y => decide (y ≠ b)) r
      simp only [List.length_cons]
      omega
/-- What holds at every step. -/
structure Iv (nx : Id → List Id) (U : List Id) (w : Wk) : Prop where
  all : ∀ a, a ∈ U ↔ (a ∈ w.left ∨ a ∈ w.ids ∨ a ∈ w.out)
  dl : ∀ a ∈ w.left, a ∉ w.ids ∧ a ∉ w.out
  nd : (w.ids ++ w.out).Nodup
  c1 : ∀ a ∈ w.out, ∀ b ∈ nx a, b ∉ w.left
  c2 : ∀ p ∈ w.st, ∀ b ∈ (nx p.1).take p.2, b ∉ w.left
theorem Iv.of {nx : Id → List Id} {U L O : List Id} {S : List (Id × Nat)} (h1 : ∀ a, a ∈ U ↔ (a ∈ L ∨ a ∈ S.map (·.1) ∨ a ∈ O)) (h2 : ∀ a ∈ L, a ∉ S.map (·.1) ∧ a ∉ O) (h3 : (S.map (·.1) ++ O).Nodup)
    (h4 : ∀ a ∈ O, ∀ b ∈ nx a, b ∉ L) (h5 : ∀ p ∈ S, ∀ b ∈ (nx p.1).take p.2, b ∉ L) : Iv nx U ⟨L, S, O⟩ := ⟨h1, h2, h3, h4, h5⟩
theorem take_snoc {l : List Id} {k : Nat} {b c : Id} (h : l[k]? = some b) (hc : c ∈ l.take (k + 1)) : c ∈ l.take k ∨ c = b := by
  rw [List.take_add_one, h] at hc
  rcases List.mem_append.1 hc with h | h
  · exact .inl h
  · simp only [Option.toList_some, List.mem_singleton] at h; exact .inr h
theorem Iv.step {nx : Id → List Id} {U : List Id} {w w' : Wk} (h : Iv nx U w) (s : Stp nx w w') : Iv nx U w' := by
  cases s with
  | @root L b O hb =>
    obtain ⟨h1, h2, h3, h4, h5⟩ := h
    simp only [Wk.ids, List.map_nil, List.map_cons] at h1 h2 h3 h4 h5
    refine Iv.of (fun a => ?_) (fun a ha => ?_) ?_ (fun a ha c hc hl => h4 a ha c hc (cutL_in.1 hl).1) (fun p hp c hc => ?_)
    · rw [h1, cutL_in]
      simp only [List.map_cons, List.map_nil, List.mem_singleton, List.not_mem_nil, false_or]
      by_cases e : a = b
      · subst e; simp [hb]
      · simp [e]
    · rw [cutL_in] at ha
      exact ⟨by simpa using ha.2, (h2 a ha.1).2⟩
    · have := (h2 b hb).2
      simp only [List.nil_append] at h3
      simp only [List.map_cons, List.map_nil, List.singleton_append, List.nodup_cons]
      exact ⟨this, h3⟩
    · rw [List.mem_singleton] at hp
      subst hp
      simp at hc
  | @pop L a S O =>
    obtain ⟨h1, h2, h3, h4, h5⟩ := h
    simp only [Wk.ids, List.map_nil, List.map_cons] at h1 h2 h3 h4 h5
    refine Iv.of (fun x => ?_) (fun x hx => ?_) ?_ (fun x hx c hc => ?_) (fun p hp => h5 p (List.mem_cons_of_mem _ hp))
    · rw [h1]
      simp only [List.mem_cons, List.mem_append, List.not_mem_nil, or_false]
      constructor
      · rintro (h | (h | h) | h)
        · exact .inl h
        · exact .inr (.inr (.inr h))
        · exact .inr (.inl h)
        · exact .inr (.inr (.inl h))
      · rintro (h | h | h | h)
        · exact .inl h
        · exact .inr (.inl (.inr h))
        · exact .inr (.inr h)
        · exact .inr (.inl (.inl h))
    · obtain ⟨k1, k2⟩ := h2 x hx
      simp only [List.mem_cons, not_or, List.mem_append, List.not_mem_nil, or_false] at k1 ⊢
      exact ⟨k1.2, k2, k1.1⟩
    · refine (List.Perm.nodup_iff ?_).1 h3
      have := (List.perm_append_singleton a (S.map (·.1) ++ O)).symm
      simpa using this
    · rcases List.mem_append.1 hx with hx | hx
      · exact h4 x hx c hc
      · rw [List.mem_singleton] at hx
        subst hx
        exact h5 (x, (nx x).length) (List.mem_cons_self ..) c (by rw [List.take_length]; exact hc)
  | @skip L a b k S O hk hb =>
    obtain ⟨h1, h2, h3, h4, h5⟩ := h
    simp only [Wk.ids, List.map_nil, List.map_cons] at h1 h2 h3 h4 h5
    refine Iv.of h1 h2 h3 h4 (fun p hp c hc => ?_)
    rcases List.mem_cons.1 hp with rfl | hp
    · rcases take_snoc hk hc with hc | rfl
      · exact h5 _ (List.mem_cons_self ..) c hc
      · exact hb
    · exact h5 p (List.mem_cons_of_mem _ hp) c hc
  | @push L a b k S O hk hb =>
    obtain ⟨h1, h2, h3, h4, h5⟩ := h
    simp only [Wk.ids, List.map_nil, List.map_cons] at h1 h2 h3 h4 h5
    refine Iv.of (fun x => ?_) (fun x hx => ?_) ?_ (fun x hx c hc hl => h4 x hx c hc (cutL_in.1 hl).1) (fun p hp c hc hl => ?_)
    · rw [h1, cutL_in]
      simp only [List.map_cons, List.mem_cons]
      by_cases e : x = b
      · subst e; simp [hb]
      · simp [e]
    · rw [cutL_in] at hx
      obtain ⟨k1, k2⟩ := h2 x hx.1
      refine ⟨fun h => ?_, k2⟩
      rcases List.mem_cons.1 h with rfl | h
      · exact hx.2 rfl
      · exact k1 h
    · obtain ⟨k1, k2⟩ := h2 b hb
      rw [List.map_cons, List.cons_append, List.nodup_cons]
      refine ⟨fun h => ?_, h3⟩
      rcases List.mem_append.1 h with h | h
      · exact k1 h
      · exact k2 h
    · rw [cutL_in] at hl
      rcases List.mem_cons.1 hp with rfl | hp
      · simp at hc
      · rcases List.mem_cons.1 hp with rfl | hp
        · rcases take_snoc hk hc with hc | rfl
          · exact h5 _ (List.mem_cons_self ..) c hc hl.1
          · exact hl.2 rfl
        · exact h5 p (List.mem_cons_of_mem _ hp) c hc hl.1
/-- What holds beside, at every step of the first walk. -/
structure Jv (nx : Id → List Id) (U : List Id) (w : Wk) : Prop where
  iv : Iv nx U w
  ch : w.ids.Pairwise (fun h g => Rr nx g h)
  gr : ∀ g ∈ w.ids, ∃ A B, w.out = A ++ B ∧ (∀ x ∈ B, Rr nx g x) ∧ ∀ y ∈ A, g ∉ nx y
  jj : ∀ z, z ∈ w.out ∨ z ∈ w.ids → ∀ A r B, w.out = A ++ r :: B → Rr nx z r → ∃ m, Mu nx z m ∧ (m ∈ w.ids ∨ m ∈ r :: B)
theorem snoc_split {α : Type} {O A B : List α} {a r : α} (h : O ++ [a] = A ++ r :: B) : (A = O ∧ r = a ∧ B = []) ∨ ∃ B', B = B' ++ [a] ∧ O = A ++ r :: B' := by
  rcases List.eq_nil_or_concat B with rfl | ⟨B', x, rfl⟩
  · left
    have := List.append_inj' h rfl
    simp at this
    exact ⟨this.1.symm, this.2.symm, rfl⟩
  · right
    have h' : O ++ [a] = (A ++ r :: B') ++ [x] := by rw [h]; simp
    have := List.append_inj' h' rfl
    simp at this
    exact ⟨B', by simp [this.2], this.1⟩
theorem Jv.step {nx : Id → List Id} {U : List Id} (hU : ∀ a ∈ U, ∀ b ∈ nx a, b ∈ U) {w w' : Wk} (h : Jv nx U w) (s : Stp nx w w') : Jv nx U w' := by
  refine ⟨h.iv.step s, ?_, ?_, ?_⟩
  · cases s with
    | root hb => simp [Wk.ids]
    | pop => exact (List.pairwise_cons.1 h.ch).2
    | skip hk hb => exact h.ch
    | @push L a b k S O hk hb =>
      have hc := h.ch
      simp only [Wk.ids, List.map_cons] at hc ⊢
      refine List.pairwise_cons.2 ⟨fun g hg => ?_, hc⟩
      have e1 : Rr nx a b := rr_edge (List.mem_of_getElem? hk)
      rcases List.mem_cons.1 hg with rfl | hg
      · exact e1
      · exact rr_trans ((List.pairwise_cons.1 hc).1 g hg) e1
  · cases s with
    | @root L b O hb =>
      intro g hg
      simp only [Wk.ids, List.map_cons, List.map_nil, List.mem_singleton] at hg
      subst hg
      exact ⟨O, [], by simp, by simp, fun y hy hn => h.iv.c1 y hy g hn hb⟩
    | @pop L a S O =>
      intro g hg
      obtain ⟨A, B, h1, h2, h3⟩ := h.gr g (List.mem_cons_of_mem _ hg)
      simp only at h1
      refine ⟨A, B ++ [a], by simp only; rw [h1, List.append_assoc], fun x hx => ?_, h3⟩
      rcases List.mem_append.1 hx with hx | hx
      · exact h2 x hx
      · rw [List.mem_singleton] at hx
        subst hx
        exact (List.pairwise_cons.1 h.ch).1 g hg
    | skip hk hb => exact h.gr
    | @push L a b k S O hk hb =>
      intro g hg
      simp only [Wk.ids, List.map_cons] at hg
      rcases List.mem_cons.1 hg with rfl | hg
      · exact ⟨O, [], by simp, by simp, fun y hy hn => h.iv.c1 y hy g hn hb⟩
      · exact h.gr g hg
  · cases s with
    | @root L b O hb =>
      intro z hz A r B hO hr
      simp only [Wk.ids, List.map_cons, List.map_nil, List.mem_singleton] at hz ⊢
      rcases hz with hz | rfl
      · obtain ⟨m, h1, h2⟩ := h.jj z (.inl hz) A r B hO hr
        exact ⟨m, h1, .inr (by simpa [Wk.ids] using h2)⟩
      · exact ⟨z, .refl _ _, .inl rfl⟩
    | skip hk hb => exact h.jj
    | @push L a b k S O hk hb =>
      intro z hz A r B hO hr
      simp only [Wk.ids, List.map_cons, List.mem_cons] at hz ⊢
      by_cases e : z = b
      · exact ⟨z, .refl _ _, .inl (.inl e)⟩
      · have hz' : z ∈ O ∨ z ∈ Wk.ids ⟨L, (a, k) :: S, O⟩ := by
          rcases hz with hz | hz | hz
          · exact .inl hz
          · exact absurd hz e
          · exact .inr (by simpa [Wk.ids] using hz)
        obtain ⟨m, h1, h2⟩ := h.jj z hz' A r B hO hr
        refine ⟨m, h1, ?_⟩
        rcases h2 with h2 | h2
        · exact .inl (.inr (by simpa [Wk.ids] using h2))
        · exact .inr (List.mem_cons.1 h2)
    | @pop L a S O =>
      intro z hz A r B hO hr
      simp only [Wk.ids] at hz hO ⊢
      have hz' : z ∈ O ∨ z ∈ Wk.ids ⟨L, (a, (nx a).length) :: S, O⟩ := by
        rcases hz with hz | hz
        · rcases List.mem_append.1 hz with hz | hz
          · exact .inl hz
          · exact .inr (by simp only [Wk.ids, List.map_cons]; rw [List.mem_singleton] at hz; exact hz ▸ List.mem_cons_self ..)
        · exact .inr (List.mem_cons_of_mem _ hz)
      rcases snoc_split hO with ⟨rfl, rfl, rfl⟩ | ⟨B', rfl, hO'⟩
      · rcases hz' with hz' | hz'
        · have hno : r ∉ A := fun hA => by
            have := h.iv.nd
            simp only [Wk.ids, List.map_cons, List.cons_append, List.nodup_cons, List.mem_append, not_or] at this
            exact this.1.2 hA
          obtain ⟨y, g, hy, hzy, hg, hgi⟩ : ∃ y g, y ∈ A ∧ Rr nx z y ∧ g ∈ nx y ∧ g ∈ Wk.ids ⟨L, (r, (nx r).length) :: S, A⟩ := by
            apply Classical.byContradiction
            intro hne
            apply hno
            have := Rch.closed (P := fun x => x ∈ A ∧ Rr nx z x) (deps := nx) (l := [z]) (fun x hx => by rw [List.mem_singleton] at hx; subst hx; exact ⟨hz', rr_refl _ _⟩) (fun x hx b hb => ?_) hr
            · exact this.1
            · refine ⟨?_, rr_trans hx.2 (rr_edge hb)⟩
              have hbU := hU x ((h.iv.all x).2 (.inr (.inr hx.1))) b hb
              rcases (h.iv.all b).1 hbU with k | k | k
              · exact absurd k (h.iv.c1 x hx.1 b hb)
              · exact absurd ⟨x, b, hx.1, hx.2, hb, k⟩ hne
              · exact k
          have hin : ∀ m, m ∈ Wk.ids ⟨L, (r, (nx r).length) :: S, A⟩ → m ∈ S.map (·.1) ∨ m ∈ [r] := fun m hm => by
            simp only [Wk.ids, List.map_cons] at hm
            rcases List.mem_cons.1 hm with rfl | hm
            · exact .inr (by simp)
            · exact .inl hm
          obtain ⟨P, Q, e1, e2, e3⟩ := h.gr g hgi
          simp only at e1
          have hyQ : y ∈ Q := by
            rw [e1] at hy
            rcases List.mem_append.1 hy with k | k
            · exact absurd hg (e3 y k)
            · exact k
          obtain ⟨Q1, Q2, rfl⟩ := List.append_of_mem hyQ
          obtain ⟨m, hm1, hm2⟩ := h.jj z (.inl hz') (P ++ Q1) y Q2 (by simp only; rw [e1, List.append_assoc]) hzy
          rcases hm2 with hm2 | hm2
          · exact ⟨m, hm1, hin m hm2⟩
          · have hgm := e2 m (by simp only [List.mem_append]; exact .inr hm2)
            exact ⟨g, ⟨rr_trans hzy (rr_edge hg), rr_trans hgm hm1.2⟩, hin g hgi⟩
        · simp only [Wk.ids, List.map_cons] at hz'
          rcases List.mem_cons.1 hz' with rfl | hz'
          · exact ⟨z, .refl _ _, .inr (by simp)⟩
          · exact ⟨z, .refl _ _, .inl hz'⟩
      · obtain ⟨m, h1, h2⟩ := h.jj z hz' A r B' hO' hr
        refine ⟨m, h1, ?_⟩
        rcases h2 with h2 | h2
        · simp only [Wk.ids, List.map_cons] at h2
          rcases List.mem_cons.1 h2 with rfl | h2
          · exact .inr (by simp)
          · exact .inl h2
        · exact .inr (by
            rcases List.mem_cons.1 h2 with rfl | h2
            · exact List.mem_cons_self ..
            · exact List.mem_cons_of_mem _ (List.mem_append.2 (.inl h2)))
theorem Jv.start (nx : Id → List Id) (U : List Id) : Jv nx U ⟨U, [], []⟩ := by
  refine ⟨⟨fun a => by simp [Wk.ids], by simp [Wk.ids], by simp [Wk.ids], by simp, by simp⟩, by simp [Wk.ids], by simp [Wk.ids], by simp [Wk.ids]⟩
/-- Behind the first walk: the last of a component stands behind all that it reaches. -/
structure Fin1 (nx : Id → List Id) (U O : List Id) : Prop where
  all : ∀ a, a ∈ U ↔ a ∈ O
  nd : O.Nodup
  kk : ∀ z ∈ O, ∀ A r B, O = A ++ r :: B → Rr nx z r → ∃ m, Mu nx z m ∧ m ∈ r :: B
theorem Jv.fin {nx : Id → List Id} {U O : List Id} (h : Jv nx U ⟨[], [], O⟩) : Fin1 nx U O :=
  ⟨fun a => by simpa [Wk.ids] using h.iv.all a, by simpa [Wk.ids] using h.iv.nd, fun z hz A r B hO hr => by simpa [Wk.ids] using h.jj z (.inl hz) A r B hO hr⟩
/-- What holds at every step of the second walk. -/
structure Kv (us : Id → List Id) (U : List Id) (a : Id) (w : Wk) : Prop where
  iv : Iv us U w
  rt : ∀ b, b ∈ w.ids ∨ b ∈ w.out → Rr (fun x => (us x).filter (fun y => decide (y ∈ U))) a b
theorem Kv.step {us : Id → List Id} {U : List Id} {a : Id} {w w' : Wk} (h : Kv us U a w) (hne : w.st ≠ []) (s : Stp us w w') : Kv us U a w' := by
  refine ⟨h.iv.step s, fun b hb => ?_⟩
  cases s with
  | root => exact absurd rfl hne
  | @pop L x S O =>
    refine h.rt b ?_
    simp only [Wk.ids, List.map_cons, List.mem_cons] at hb ⊢
    rcases hb with hb | hb
    · exact .inl (.inr hb)
    · rcases List.mem_append.1 hb with hb | hb
      · exact .inr hb
      · exact .inl (.inl (by simpa using hb))
  | skip hk hl => exact h.rt b hb
  | @push L x y k S O hk hl =>
    simp only [Wk.ids, List.map_cons, List.mem_cons] at hb
    by_cases e : b = y
    · subst e
      have hx := h.rt x (.inl (by simp [Wk.ids]))
      exact .step hx (List.mem_filter.2 ⟨List.mem_of_getElem? hk, decide_eq_true ((h.iv.all b).2 (.inl hl))⟩)
    · refine h.rt b ?_
      simp only [Wk.ids, List.map_cons, List.mem_cons]
      rcases hb with (hb | hb) | hb
      · exact absurd hb e
      · exact .inl hb
      · exact .inr hb
theorem Kv.start {us : Id → List Id} {U : List Id} {a : Id} (h : a ∈ U) : Kv us U a ⟨cutL a U, [(a, 0)], []⟩ :=
  ⟨Iv.step (w := ⟨U, [], []⟩) ⟨fun a => by simp [Wk.ids], by simp [Wk.ids], by simp [Wk.ids], by simp, by simp⟩ (.root h), fun b hb => by
    simp only [Wk.ids, List.map_cons, List.map_nil, List.mem_singleton, List.not_mem_nil, or_false] at hb
    subst hb
    exact rr_refl _ _⟩
theorem Kv.all {us : Id → List Id} {U L O : List Id} {a : Id} (h : Kv us U a ⟨L, [], O⟩) (ha : a ∈ O) (b : Id) : b ∈ O ↔ Rr (fun x => (us x).filter (fun y => decide (y ∈ U))) a b := by
  refine ⟨fun hb => h.rt b (.inr hb), fun hr => ?_⟩
  refine Rch.closed (P := fun x => x ∈ O) (fun x hx => by rw [List.mem_singleton] at hx; subst hx; exact ha) (fun x hx y hy => ?_) hr
  obtain ⟨h1, h2⟩ := List.mem_filter.1 hy
  have h3 := of_decide_eq_true h2
  rcases (h.iv.all y).1 h3 with k | k | k
  · exact absurd k (h.iv.c1 x hx y h1)
  · simp [Wk.ids] at k
  · exact k
/-- The second walk from the last one that is left tells just its component. -/
theorem fin2 {nx us : Id → List Id} {U O L L' A B C : List Id} {a : Id} (h1 : Fin1 nx U O) (hus : ∀ x y, x ∈ U → (y ∈ us x ∧ y ∈ U ↔ y ∈ U ∧ x ∈ nx y)) (hUn : ∀ x ∈ U, ∀ b ∈ nx x, b ∈ U)
    (hLU : ∀ x ∈ L, x ∈ U) (hL : ∀ x ∈ L, ∀ y, Mu nx x y → y ∈ L) (hO : O = A ++ a :: B) (hB : ∀ x ∈ B, x ∉ L) (ha : a ∈ L)
    (hk : Kv us L a ⟨L', [], C⟩) (haC : a ∈ C) (b : Id) : b ∈ C ↔ Mu nx a b := by
  rw [hk.all haC]
  constructor
  · intro hr
    have hbL : b ∈ L ∧ Rr nx b a := Rch.closed (P := fun x => x ∈ L ∧ Rr nx x a) (fun x hx => by rw [List.mem_singleton] at hx; subst hx; exact ⟨ha, rr_refl _ _⟩) (fun x hx y hy => by
      obtain ⟨k1, k2⟩ := List.mem_filter.1 hy
      have k3 := of_decide_eq_true k2
      have k4 := ((hus x y (hLU x hx.1)).1 ⟨k1, hLU y k3⟩).2
      exact ⟨k3, rr_trans (rr_edge k4) hx.2⟩) hr
    obtain ⟨m, k1, k2⟩ := h1.kk b ((h1.all b).1 (hLU b hbL.1)) A a B hO hbL.2
    rcases List.mem_cons.1 k2 with rfl | k2
    · exact k1.symm
    · exact absurd (hL b hbL.1 m k1) (hB m k2)
  · rintro ⟨k1, k2⟩
    -- walk from b to a along nx, back
    have hback : ∀ x, Rr nx b x → Rr nx x a → Rr (fun x => (us x).filter (fun y => decide (y ∈ L))) x b := by
      intro x hx
      induction hx with
      | base h => intro _; rw [List.mem_singleton] at h; subst h; exact rr_refl _ _
      | @step x y hbx hxy ih =>
        intro hya
        have hxa : Rr nx x a := rr_trans (rr_edge hxy) hya
        have hMx : Mu nx a x := ⟨rr_trans k1 hbx, hxa⟩
        have hMy : Mu nx a y := ⟨rr_trans hMx.1 (rr_edge hxy), hya⟩
        have hxL := hL a ha x hMx
        have hyL := hL a ha y hMy
        exact rr_trans (rr_edge (List.mem_filter.2 ⟨((hus y x (hLU y hyL)).2 ⟨hLU x hxL, hxy⟩).1, decide_eq_true hxL⟩)) (ih hxa)
    exact hback a k2 (rr_refl _ _)
end Go.Proofs.YtcbckeoalmjcoaaGreat

/- Ids in the order of their records: plain laws (a key: the record's number, then its id). -/
set_option linter.unusedVariables false
set_option linter.unusedSimpArgs false
namespace Go.Proofs.YtcbckeoalmjcoaaGreat
open Go.RowKit Go.Cw
abbrev Ky := Int × Id
def kLt (p q : Ky) : Bool := decide (p.1 < q.1) || (decide (p.1 = q.1) && idLt p.2 q.2)
theorem kLt_iff (p q : Ky) : kLt p q = true ↔ p.1 < q.1 ∨ p.1 = q.1 ∧ (p.2.1 < q.2.1 ∨ p.2.1 = q.2.1 ∧ p.2.2 < q.2.2) := by
  unfold kLt
  simp only [Bool.or_eq_true, Bool.and_eq_true, decide_eq_true_eq, idLt_iff]
theorem kLt_no (p q : Ky) : kLt p q = false ↔ ¬ (p.1 < q.1 ∨ p.1 = q.1 ∧ (p.2.1 < q.2.1 ∨ p.2.1 = q.2.1 ∧ p.2.2 < q.2.2)) := by
  rw [← kLt_iff, Bool.not_eq_true]
theorem kLt_total {p q : Ky} (h1 : kLt p q = false) (h2 : kLt q p = false) : p = q := by
  rw [kLt_no] at h1 h2
  exact Prod.ext (by omega) (Prod.ext (by omega) (by omega))
/-- A list of keys that rises. -/
def KRises (l : List Ky) : Prop := l.Pairwise (fun a b => kLt a b = true)
theorem krises_nodup {l : List Ky} (h : KRises l) : l.Nodup := h.imp (fun {a b} hab e => by subst e; rw [kLt_iff] at hab; omega)
/-- Two rising lists with the same members are one. -/
theorem krises_eq : ∀ {l m : List Ky}, KRises l → KRises m → (∀ a, a ∈ l ↔ a ∈ m) → l = m
  | [], [], _, _, _ => rfl
  | [], b :: m, _, _, h => by have := (h b).2 (List.mem_cons_self ..); simp at this
  | a :: l, [], _, _, h => by have := (h a).1 (List.mem_cons_self ..); simp at this
  | a :: l, b :: m, hl, hm, h => by
    obtain ⟨l1, l2⟩ := List.pairwise_cons.1 hl
    obtain ⟨m1, m2⟩ := List.pairwise_cons.1 hm
    have hab : a = b := by
      rcases List.mem_cons.1 ((h a).1 (List.mem_cons_self ..)) with e | e
      · exact e
      · rcases List.mem_cons.1 ((h b).2 (List.mem_cons_self ..)) with e2 | e2
        · exact e2.symm
        · have h1 := m1 a e
          have h2 := l1 b e2
          rw [kLt_iff] at h1 h2
          omega
    subst hab
    rw [krises_eq l2 m2 (fun x => ⟨fun hx => ?_, fun hx => ?_⟩)]
    · rcases List.mem_cons.1 ((h x).1 (List.mem_cons_of_mem _ hx)) with e | e
      · exact absurd hx (by rw [e]; exact (List.nodup_cons.1 (krises_nodup hl)).1)
      · exact e
    · rcases List.mem_cons.1 ((h x).2 (List.mem_cons_of_mem _ hx)) with e | e
      · exact absurd hx (by rw [e]; exact (List.nodup_cons.1 (krises_nodup hm)).1)
      · exact e
/-- A rising list with one more key. -/
def kIns (x : Ky) : List Ky → List Ky
  | [] => [x]
  | y :: r => if kLt x y then x :: y :: r else y :: kIns x r
theorem kIns_mem (x a : Ky) : ∀ l : List Ky, a ∈ kIns x l ↔ a = x ∨ a ∈ l
  | [] => by simp [kIns]
  | y :: r => by
    unfold kIns
    split
    · simp
    · rw [List.mem_cons, kIns_mem x a r, List.mem_cons]
      exact ⟨fun h => by rcases h with h | h | h <;> simp [h], fun h => by rcases h with h | h | h <;> simp [h]⟩
theorem kIns_rises (x : Ky) : ∀ l : List Ky, KRises l → x ∉ l → KRises (kIns x l)
  | [], _, _ => by simp [kIns, KRises]
  | y :: r, h, hn => by
    obtain ⟨h1, h2⟩ := List.pairwise_cons.1 h
    unfold kIns
    split
    · rename_i hlt
      refine List.pairwise_cons.2 ⟨fun z hz => ?_, h⟩
      rcases List.mem_cons.1 hz with e | e
      · rw [e]; exact hlt
      · have := h1 z e
        rw [kLt_iff] at *
        omega
    · rename_i hlt
      refine List.pairwise_cons.2 ⟨fun z hz => ?_, kIns_rises x r h2 (fun hx => hn (List.mem_cons_of_mem _ hx))⟩
      rcases (kIns_mem x z r).1 hz with e | e
      · rw [e]
        cases hy : kLt y x with
        | true => rfl
        | false => exact absurd (kLt_total hy (by simpa using hlt)) (fun e => hn (by rw [e]; exact List.mem_cons_self ..))
      · exact h1 z e
/-- The order of the keys of a list. -/
def cmpS {S : List Ky} (x y : {p : Ky // p ∈ S}) : Int := if kLt x.1 y.1 then -1 else if kLt y.1 x.1 then 1 else 0
theorem ltOf_S {S : List Ky} (x y : {p : Ky // p ∈ S}) : ltOf cmpS x y = kLt x.1 y.1 := by
  unfold ltOf cmpS
  cases h1 : kLt x.1 y.1 with
  | true => simp
  | false => cases h2 : kLt y.1 x.1 <;> simp
theorem swo_S {S : List Ky} : Go.Sort.SWO (ltOf (cmpS (S := S))) where
  irrefl x := by rw [ltOf_S, kLt_no]; omega
  trans x y z h1 h2 := by rw [ltOf_S, kLt_iff] at *; omega
  ntrans x y z h1 h2 := by rw [ltOf_S, kLt_no] at *; omega
theorem total_S {S : List Ky} (x y : {p : Ky // p ∈ S}) (h1 : ltOf cmpS x y = false) (h2 : ltOf cmpS y x = false) : x = y := by
  rw [ltOf_S] at *
  exact Subtype.ext (kLt_total h1 h2)
def kSort {S : List Ky} (l : List {p : Ky // p ∈ S}) : List {p : Ky // p ∈ S} := l.mergeSort fun x y => !(ltOf cmpS) y x
theorem kSort_rises {S : List Ky} {l : List {p : Ky // p ∈ S}} (h : l.Nodup) : KRises ((kSort l).map Subtype.val) := by
  have hs : (kSort l).Pairwise (fun a b => (!(ltOf cmpS) b a) = true) := by
    unfold kSort
    refine List.pairwise_mergeSort (fun a b c h1 h2 => ?_) (fun a b => ?_) l
    · rw [ltOf_S] at *
      simp only [Bool.not_eq_true', kLt_no] at *
      omega
    · rw [ltOf_S, ltOf_S]
      simp only [Bool.or_eq_true, Bool.not_eq_true', kLt_no]
      omega
  have hn : (kSort l).Nodup := (List.mergeSort_perm l _).nodup_iff.2 h
  unfold KRises
  rw [List.pairwise_map]
  refine (hs.and hn).imp (fun {a b} hab => ?_)
  obtain ⟨h1, h2⟩ := hab
  rw [ltOf_S] at h1
  simp only [Bool.not_eq_true'] at h1
  cases hab : kLt a.1 b.1 with
  | true => rfl
  | false => exact absurd (Subtype.ext (kLt_total hab h1)) h2
theorem kSort_mem {S : List Ky} (l : List {p : Ky // p ∈ S}) (a : Ky) : a ∈ (kSort l).map Subtype.val ↔ a ∈ l.map Subtype.val := by
  unfold kSort
  exact ((List.mergeSort_perm l _).map Subtype.val).mem_iff
end Go.Proofs.YtcbckeoalmjcoaaGreat
