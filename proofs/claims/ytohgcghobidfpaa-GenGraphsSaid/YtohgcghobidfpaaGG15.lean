/- Joined texts: Edges2, Edges3. -/
import Derived.Test.YtohgcghobidfpaaGG14
/- Graphs: New. -/
set_option linter.unusedVariables false
set_option linter.unusedSimpArgs false
namespace Go.Proofs.Ytohgcghobidfpaa
open Go.RowKit Go.Cw Go.Fl
attribute [local go_sem ↓] eql_id neq_id
/-- What is wrong first with records. -/
def gErr (seen : List Id) : List Rp → Int
  | [] => 0
  | x :: r => if recErr x ≠ 0 then recErr x else if x.1 ∈ seen then 16 else gErr (seen ++ [x.1]) r
theorem recErr_len (x : Rp) (h : recErr x = 0) : x.2.2.1.length ≤ 16 ∧ x.2.2.2.length ≤ 8 := by
  unfold recErr at h
  by_cases h1 : ownErr x = 0
  · rw [if_neg (by simpa using h1)] at h
    by_cases h2 : depErr x = 0
    · rw [if_neg (by simpa using h2)] at h
      refine ⟨?_, ?_⟩
      · unfold depErr at h2
        rcases Nat.lt_or_ge 16 x.2.2.1.length with h3 | h3
        · rw [if_pos h3] at h2; omega
        · exact h3
      · unfold batchErr at h
        rcases Nat.lt_or_ge 8 x.2.2.2.length with h3 | h3
        · rw [if_pos h3] at h; omega
        · exact h3
    · rw [if_pos (by simpa using h2)] at h
      exact absurd h h2
  · rw [if_pos (by simpa using h1)] at h
    exact absurd h h1
theorem gErr_step (l : List Rc) (k : Nat) (h : k < l.length) (seen : List Id) : gErr seen ((l.drop k).map rp) = if recErr (rp l[k]) ≠ 0 then recErr (rp l[k]) else if l[k].1 ∈ seen then 16 else gErr (seen ++ [l[k].1]) ((l.drop (k + 1)).map rp) := by
  rw [List.drop_eq_getElem_cons h, List.map_cons, gErr]
theorem entsR_put (L : List Rc) (x : Rc) (h : x.1 ∉ rids L) : mput x.1 x (entsR L) = entsR (L ++ [x]) := by
  unfold mput
  rw [if_neg (by rw [entsR_keys]; exact h)]
  simp [entsR]
theorem edgesOf_snoc (L : List Rc) (x : Rc) : edgesOf (L ++ [x]) = edgesOf L + x.2.2.2.2.1.length := by simp [edgesOf]
theorem edgesOf_le (L : List Rc) (h : ∀ x ∈ L, x.2.2.2.2.1.length ≤ 16) : edgesOf L ≤ 16 * L.length := by
  induction L with
  | nil => simp [edgesOf]
  | cons x r ih =>
    have h1 := ih (fun y hy => h y (List.mem_cons_of_mem _ hy))
    have h2 := h x (by simp)
    simp only [edgesOf, List.map_cons, List.sum_cons, List.length_cons] at *
    omega
end Go.Proofs.Ytohgcghobidfpaa

/- Graphs: what records bring. -/
set_option linter.unusedVariables false
set_option linter.unusedSimpArgs false
namespace Go.Proofs.Ytohgcghobidfpaa
open Go.RowKit Go.Cw Go.Fl
attribute [local go_sem ↓] eql_id neq_id
theorem entsR_split {L : List Rc} {pre post : List (Id × Rc)} {p : Id × Rc} (h : entsR L = pre ++ p :: post) : ∃ A x B, L = A ++ x :: B ∧ p = (x.1, x) ∧ pre = entsR A ∧ post = entsR B := by
  unfold entsR at h
  obtain ⟨A, q, rfl, hA, hq⟩ := List.map_eq_append_iff.1 h
  obtain ⟨x, B, rfl, hx, hB⟩ := List.map_eq_cons_iff.1 hq
  exact ⟨A, x, B, rfl, hx.symm, hA.symm, hB.symm⟩
theorem wpList_rnext {H : Hp} {fr : List HA} {w : World} {g r : Nat} {L left : List Rc} {ops : Array Oper} {rest : List Oper} {o : Oper} {a : Act} {Q : Exit → Act → World → Prop}
    (hst : St H (Rg recC g r (entsR L) (entsR left) :: fr) w) (hg : o.guard = none) (it : Operand) (hop : o.op = Op.next it false) (hit : a.eval it = .pointer (some ⟨r, 0, none⟩))
    (hDone : left = [] → wpList Try.prog ops Q rest (a.put o.dst (.tuple #[.bool false])) w)
    (hMore : ∀ (pre post : List Rc) (x : Rc) (w' : World), left = pre ++ x :: post → St H (Rg recC g r (entsR L) (entsR (pre ++ post)) :: fr) w' → Env w w' → (Instr.entry (.pointer (some ⟨r, 0, none⟩))).run Try.prog w' = .ok (.tuple #[idV x.1, recV x]) w' →
      wpList Try.prog ops Q rest (a.put o.dst (.tuple #[.bool true, idV x.1, recV x])) w') : wpList Try.prog ops Q (o :: rest) a w := by
  refine wpList_mnext hst hg it hop hit (fun h => hDone (by cases left with | nil => rfl | cons x l => simp [entsR] at h)) ?_
  intro pre post p w' hl h' en hen
  obtain ⟨A, x, B, rfl, rfl, rfl, rfl⟩ := entsR_split hl
  refine hMore A B x w' rfl ?_ en hen
  unfold entsR at *
  rw [List.map_append]
  exact h'
theorem rgr_left {H : Hp} {fr : List HA} {w : World} {g r : Nat} {L left : List Rc} (h : St H (Rg recC g r (entsR L) (entsR left) :: fr) w) : w.rangeLeft g r = left.length := h.get (fun S hS => by
  obtain ⟨⟨hne, es, clock, since, seen, c0, h1, h2, h3, h4, h5, h6, h7, h8⟩, hS⟩ := hS
  have := congrArg List.length h8
  simp only [List.length_map, entsR_len] at this
  simp only [World.rangeLeft, h1, h4]
  simpa using this)
theorem flat_le (f : Rc → List Id) (L : List Rc) (h : ∀ x ∈ L, (f x).length ≤ 16) : (L.flatMap f).length ≤ 16 * L.length := by
  induction L with
  | nil => simp
  | cons x r ih =>
    have h1 := ih (fun y hy => h y (List.mem_cons_of_mem _ hy))
    have h2 := h x (by simp)
    rw [List.flatMap_cons, List.length_append, List.length_cons]
    omega
end Go.Proofs.Ytohgcghobidfpaa
