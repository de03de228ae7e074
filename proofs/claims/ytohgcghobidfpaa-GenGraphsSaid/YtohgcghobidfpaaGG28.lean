/- Joined texts: Reach4, Reach5. -/
import Derived.Test.YtohgcghobidfpaaGG23
import Derived.Test.YtohgcghobidfpaaGG27
/- What some ids reach: Path, Whole. -/
set_option linter.unusedVariables false
set_option linter.unusedSimpArgs false
namespace Go.Proofs.Ytohgcghobidfpaa
open Go.RowKit Go.Cw Go.Fl
attribute [local go_sem ↓] eql_id neq_id
attribute [local go_sem] Oper.semAt_some
attribute [local go_sem] wide_fn wide_fnR wide_dp wide_dpR wide_rd wide_rdR
def PathE (g : Nat) (b : Id) (pre : List Id) : HA := Pu (b ∉ pre) (Blk g #[.bool false] 4)
def PathX (g : Nat) (b : Id) (c : Go.Code) (pre : List Id) : HA := Pu (c = .exit 0 ∧ b ∈ pre) (Blk g #[.bool true] 4)
/-- What a question about what is reached tells. -/
def AskR (B : Bool) (G : HA) (H : Hp) (fr : List HA) (w : World) (e : Ending) (w' : World) : Prop := ∃ H', e = .returned (.bool B) ∧ Hp.le H H' ∧ St H' (G :: fr) w' ∧ Env w w'
theorem results_cell1 {fn : Func} {p : Tmp} {ty : TypeId} (h : fn.results = #[.cell p ty]) (tmps : Array Value) (P : Program) (w : World) :
    (results fn tmps).run P w = ((asAddr (tmps.getD p undef)).run P w).andThen fun a w₁ => (loadVar ty a).run P w₁ := by
  simp only [results, h]
  simp [Sem.run_bind, Result.andThen]
theorem dedup_mem16 (l : List Id) (b : Id) : b ∈ dedup l ↔ b ∈ l := by
  have : ∀ (l acc : List Id), b ∈ l.foldl (fun L a => addL a L) acc ↔ b ∈ acc ∨ b ∈ l := by
    intro l
    induction l with
    | nil => simp
    | cons x r ih =>
      intro acc
      rw [List.foldl_cons, ih]
      unfold addL
      by_cases h : x ∈ acc
      · rw [if_pos h]
        simp only [List.mem_cons]
        constructor
        · rintro (h1 | h1)
          · exact .inl h1
          · exact .inr (.inr h1)
        · rintro (h1 | rfl | h1)
          · exact .inl h1
          · exact .inl h
          · exact .inr h1
      · rw [if_neg h]
        simp only [List.mem_append, List.mem_cons, List.not_mem_nil, or_false, or_assoc]
  simpa [dedup] using this l []
end Go.Proofs.Ytohgcghobidfpaa

/- What some ids reach: open, Closed. -/
set_option linter.unusedVariables false
set_option linter.unusedSimpArgs false
namespace Go.Proofs.Ytohgcghobidfpaa
open Go.RowKit Go.Cw Go.Fl
attribute [local go_sem ↓] eql_id neq_id
/-- Users of an id, and what is missing. -/
def usrF (L : List Rc) (a : Id) : List Id := sortL (usr a L)
def misF (L : List Rc) : List Id := sortL (mis (rids L) L)
theorem usrF_mem (L : List Rc) (a b : Id) : b ∈ usrF L a ↔ ∃ x ∈ L, x.1 = b ∧ a ∈ x.2.2.2.2.1 := by
  unfold usrF usr
  rw [sortL_mem]
  simp only [List.mem_map, List.mem_filter, decide_eq_true_eq]
  constructor
  · rintro ⟨x, ⟨h1, h2⟩, h3⟩; exact ⟨x, h1, h3, h2⟩
  · rintro ⟨x, h1, h3, h2⟩; exact ⟨x, ⟨h1, h2⟩, h3⟩
theorem misF_mem (L : List Rc) (b : Id) : b ∈ misF L ↔ b ∉ rids L ∧ ∃ x ∈ L, b ∈ x.2.2.2.2.1 := by
  unfold misF mis
  rw [sortL_mem]
  simp only [List.mem_flatMap, List.mem_filter, decide_eq_true_eq]
  constructor
  · rintro ⟨x, h1, h2, h3⟩; exact ⟨h3, x, h1, h2⟩
  · rintro ⟨h3, x, h1, h2⟩; exact ⟨x, h1, h2, h3⟩
theorem told_users {L : List Rc} {a : Id} {R : List Id} (hr : Rises R) (hm : ∀ b, b ∈ R ↔ ∃ x ∈ L, b ∈ (if a ∈ x.2.2.2.2.1 then [x.1] else [])) : R = usrF L a :=
  rises_eq hr (sortL_rises _) (fun b => by
    rw [hm, usrF_mem]
    constructor
    · rintro ⟨x, h1, h2⟩
      by_cases h : a ∈ x.2.2.2.2.1
      · rw [if_pos h, List.mem_singleton] at h2; exact ⟨x, h1, h2.symm, h⟩
      · rw [if_neg h] at h2; cases h2
    · rintro ⟨x, h1, rfl, h2⟩; exact ⟨x, h1, by rw [if_pos h2]; simp⟩)
theorem told_missing {L : List Rc} {R : List Id} (hr : Rises R) (hm : ∀ b, b ∈ R ↔ ∃ x ∈ L, b ∈ x.2.2.2.2.1.filter (fun d => decide (d ∉ rids L))) : R = misF L :=
  rises_eq hr (sortL_rises _) (fun b => by
    rw [hm, misF_mem]
    simp only [List.mem_filter, decide_eq_true_eq]
    constructor
    · rintro ⟨x, h1, h2, h3⟩; exact ⟨h3, x, h1, h2⟩
    · rintro ⟨h3, x, h1, h2⟩; exact ⟨x, h1, h2, h3⟩)
theorem usrF_len (L : List Rc) (a : Id) : (usrF L a).length ≤ L.length := Nat.le_trans (sortL_len _) (usr_len a L)
/-- What is open. -/
def Opn (L : List Rc) (a : Id) : Prop := Rch (usrF L) (misF L) a
theorem opn_mem {L : List Rc} {a : Id} (h : Opn L a) : a ∈ misF L ++ rids L := by
  cases h with
  | base h => exact List.mem_append.2 (.inl h)
  | step _ hb =>
    obtain ⟨x, hx, rfl, _⟩ := (usrF_mem _ _ _).1 hb
    exact List.mem_append.2 (.inr (List.mem_map.2 ⟨x, hx, rfl⟩))
theorem Dfs.go' {deps : Id → List Id} {l pre left : List Id} {x : Id} (h : Dfs deps l pre (left ++ [x])) (hx : x ∉ pre) : Dfs deps l (addL x pre) (left ++ deps x) := by rw [addL_new hx]; exact h.go hx
end Go.Proofs.Ytohgcghobidfpaa
