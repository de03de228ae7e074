/- Joined texts: Edges6, Few. -/
import Derived.Test.YtohgcghobidfpaaGG16
/- Graphs: the reference. -/
set_option linter.unusedVariables false
set_option linter.unusedSimpArgs false
namespace Go.Proofs.Ytohgcghobidfpaa
open Go.RowKit Go.Cw Go.Fl
attribute [local go_sem ↓] eql_id neq_id
theorem findAt_pos (a : Id) : ∀ (l : List Id) (k : Int), 0 ≤ k → (0 ≤ findAt a l k ↔ a ∈ l)
  | [], k, _ => by simp [findAt]
  | x :: r, k, hk => by
    unfold findAt
    by_cases h : x = a
    · rw [if_pos h]; simp [h, hk]
    · rw [if_neg h, findAt_pos a r (k + 1) (by omega)]
      simp only [List.mem_cons]
      exact ⟨.inr, fun h2 => h2.resolve_left (fun e => h e.symm)⟩
theorem recs_take (l : List Rc) (k : Nat) : (recs l).take (k * 5) = recs (l.take k) := by
  unfold recs
  induction l generalizing k with
  | nil => simp
  | cons x r ih =>
    cases k with
    | zero => simp
    | succ k =>
      rw [List.take_succ_cons, List.flatMap_cons, List.flatMap_cons, ← ih k, List.take_append]
      have h5 : (recc x).length = 5 := rfl
      rw [h5, List.take_of_length_le (by rw [h5]; omega), show (k + 1) * 5 - 5 = k * 5 by omega]
end Go.Proofs.Ytohgcghobidfpaa

/- Graphs: Few, small facts. -/
set_option linter.unusedVariables false
set_option linter.unusedSimpArgs false
namespace Go.Proofs.Ytohgcghobidfpaa
open Go.RowKit Go.Cw Go.Fl
attribute [local go_sem ↓] eql_id neq_id
def fewR (l : List Rc) : Bool := l.all (fun x => decide (x.2.2.2.2.1.length ≤ 20) && decide (x.2.2.2.2.2.length ≤ 20))
theorem fewR_step (l : List Rc) (k : Nat) (h : k < l.length) : fewR (l.drop k) = (decide (l[k].2.2.2.2.1.length ≤ 20) && decide (l[k].2.2.2.2.2.length ≤ 20) && fewR (l.drop (k + 1))) := by
  unfold fewR
  rw [List.drop_eq_getElem_cons h, List.all_cons]
/-- A list that rises and has one id alone. -/
theorem rises_one {R : List Id} {a : Id} (hr : Rises R) (h : ∀ b, b ∈ R ↔ b = a) : R = [a] := rises_eq hr (List.pairwise_singleton _ _) (fun b => by rw [h]; simp)
theorem gErr_zero : ∀ (l : List Rp) (seen : List Id), gErr seen l = 0 → ∀ x ∈ l, recErr x = 0
  | [], _, _, x, hx => by simp at hx
  | y :: r, seen, h, x, hx => by
    unfold gErr at h
    by_cases h1 : recErr y = 0
    · rw [if_neg (by simpa using h1)] at h
      by_cases h2 : y.1 ∈ seen
      · rw [if_pos h2] at h; omega
      · rw [if_neg h2] at h
        rcases List.mem_cons.1 hx with rfl | hx
        · exact h1
        · exact gErr_zero r _ h x hx
    · rw [if_pos (by simpa using h1)] at h
      exact absurd h h1
theorem edgesOf_take (l : List Rc) (k : Nat) (h : k < l.length) : edgesOf (l.take (k + 1)) = edgesOf (l.take k) + l[k].2.2.2.2.1.length := by
  rw [List.take_add_one, List.getElem?_eq_getElem h]
  exact edgesOf_snoc _ _
end Go.Proofs.Ytohgcghobidfpaa
