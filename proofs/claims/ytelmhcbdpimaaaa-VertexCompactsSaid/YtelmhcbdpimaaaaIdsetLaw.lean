/- The laws of sets of ids: walked. -/
import Derived.Test.YtelmhcbdpimaaaaSorted
set_option linter.unusedVariables false
set_option linter.unusedSimpArgs false
namespace Go.Proofs.Ytelmhcbdpimaaaa
open Go.RowKit Go.Cw
attribute [local go_sem ↓] eql_id neq_id
/-- Are two sets one? -/
def sameSet (L M : List Id) : Bool := decide (L.length = M.length) && L.all (fun a => decide (a ∈ M))
theorem foldl_add (l : List Id) : ∀ acc : List Id, (∀ b, b ∈ l.foldl (fun L a => addL a L) acc ↔ b ∈ l ∨ b ∈ acc) ∧ (l.foldl (fun L a => addL a L) acc).length ≤ acc.length + l.length := by
  induction l with
  | nil => intro acc; exact ⟨by simp, by simp⟩
  | cons x r ih =>
    intro acc
    obtain ⟨h2, h3⟩ := ih (addL x acc)
    have hm : ∀ b, b ∈ addL x acc ↔ b = x ∨ b ∈ acc := fun b => by
      unfold addL
      split
      · rename_i h
        constructor
        · exact .inr
        · rintro (e | e)
          · rw [e]; exact h
          · exact e
      · simp only [List.mem_append, List.mem_singleton]
        exact or_comm
    have hl : (addL x acc).length ≤ acc.length + 1 := by
      unfold addL
      split
      · omega
      · simp
    refine ⟨fun b => ?_, ?_⟩
    · rw [List.foldl_cons, h2, hm, List.mem_cons]
      constructor
      · rintro (e | e | e)
        · exact .inl (.inr e)
        · exact .inl (.inl e)
        · exact .inr e
      · rintro ((e | e) | e)
        · exact .inr (.inl e)
        · exact .inl e
        · exact .inr (.inr e)
    · simp only [List.foldl_cons, List.length_cons]
      omega
theorem dedup_mem (l : List Id) (b : Id) : b ∈ dedup l ↔ b ∈ l := by
  have := (foldl_add l []).1 b
  simpa [dedup] using this
theorem dedup_len (l : List Id) : (dedup l).length ≤ l.length := by
  have := (foldl_add l []).2
  simpa [dedup] using this
theorem sub_len : ∀ (L M : List Id), L.Nodup → (∀ a, a ∈ L → a ∈ M) → L.length ≤ M.length
  | [], _, _, _ => Nat.zero_le _
  | x :: r, M, hn, hs => by
    obtain ⟨h1, h2⟩ := List.nodup_cons.1 hn
    have hx := hs x (List.mem_cons_self ..)
    have := sub_len r (M.erase x) h2 (fun a ha => by
      have hne : a ≠ x := fun e => h1 (e ▸ ha)
      exact (List.mem_erase_of_ne hne).2 (hs a (List.mem_cons_of_mem _ ha)))
    rw [List.length_erase_of_mem hx] at this
    have hpos := List.length_pos_of_mem hx
    simp only [List.length_cons]
    omega
theorem sameSet_iff {L M : List Id} (hL : L.Nodup) (hM : M.Nodup) : sameSet L M = true ↔ ∀ a, a ∈ L ↔ a ∈ M := by
  unfold sameSet
  rw [Bool.and_eq_true, decide_eq_true_eq, List.all_eq_true]
  constructor
  · rintro ⟨h1, h2⟩ a
    refine ⟨fun h => of_decide_eq_true (h2 a h), fun h => ?_⟩
    by_cases hn : a ∈ L
    · exact hn
    · have := sub_len (a :: L) M (List.nodup_cons.2 ⟨hn, hL⟩) (fun b hb => by
        rcases List.mem_cons.1 hb with e | e
        · rw [e]; exact h
        · exact of_decide_eq_true (h2 b e))
      simp only [List.length_cons] at this
      omega
  · intro h
    have h1 := sub_len L M hL (fun a ha => (h a).1 ha)
    have h2 := sub_len M L hM (fun a ha => (h a).2 ha)
    exact ⟨by omega, fun a ha => decide_eq_true ((h a).1 ha)⟩
/-- A list without some ids. -/
def cutAll (l bs : List Id) : List Id := bs.foldl (fun acc x => cutL x acc) l
theorem cutAll_snoc (l bs : List Id) (k : Nat) (h : k < bs.length) : cutAll l (bs.take (k + 1)) = cutL bs[k] (cutAll l (bs.take k)) := by
  unfold cutAll
  rw [List.take_succ_eq_append_getElem h, List.foldl_append]
  rfl
theorem cutAll_facts (bs : List Id) : ∀ l, Rises l → Rises (cutAll l bs) ∧ (∀ a, a ∈ cutAll l bs ↔ a ∈ l ∧ a ∉ bs) ∧ (cutAll l bs).length ≤ l.length := by
  induction bs with
  | nil => intro l h; exact ⟨h, by simp [cutAll], Nat.le_refl _⟩
  | cons x r ih =>
    intro l h
    have h0 : Rises (cutL x l) := List.Pairwise.filter _ h
    obtain ⟨h1, h2, h3⟩ := ih (cutL x l) h0
    refine ⟨h1, fun a => ?_, ?_⟩
    · show a ∈ cutAll (cutL x l) r ↔ _
      rw [h2]
      unfold cutL
      rw [List.mem_filter]
      simp only [decide_eq_true_eq, List.mem_cons, not_or]
      constructor
      · rintro ⟨⟨e1, e2⟩, e3⟩; exact ⟨e1, e2, e3⟩
      · rintro ⟨e1, e2, e3⟩; exact ⟨⟨e1, e2⟩, e3⟩
    · have : (cutL x l).length ≤ l.length := List.length_filter_le ..
      show (cutAll (cutL x l) r).length ≤ _
      omega
end Go.Proofs.Ytelmhcbdpimaaaa
