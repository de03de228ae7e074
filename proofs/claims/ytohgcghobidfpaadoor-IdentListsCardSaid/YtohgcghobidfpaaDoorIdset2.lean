/- Sets of ids: what one has and another one has not; sameness. -/
import Derived.Test.YtohgcghobidfpaaDoorIdset
set_option linter.unusedVariables false
set_option linter.unusedSimpArgs false
namespace Go.Proofs.YtohgcghobidfpaaDoor
open Go.RowKit Go.Cw
attribute [local go_sem ↓] eql_id neq_id
theorem ents_split {L : List Id} {pre post : List (Id × Unit)} {p : Id × Unit} (h : ents L = pre ++ p :: post) : ∃ A B, L = A ++ p.1 :: B ∧ pre = ents A ∧ post = ents B := by
  unfold ents at h
  obtain ⟨A, q, rfl, hA, hq⟩ := List.map_eq_append_iff.1 h
  obtain ⟨x, B, rfl, hx, hB⟩ := List.map_eq_cons_iff.1 hq
  exact ⟨A, B, by rw [← hx], hA.symm, hB.symm⟩
theorem wpList_snext {H : Hp} {fr : List HA} {w : World} {g r : Nat} {L left : List Id} {ops : Array Oper} {rest : List Oper} {o : Oper} {a : Act} {Q : Exit → Act → World → Prop}
    (hst : St H (Rg setC g r (ents L) (ents left) :: fr) w) (hg : o.guard = none) (it : Operand) (hop : o.op = Op.next it false) (hit : a.eval it = .pointer (some ⟨r, 0, none⟩))
    (hDone : left = [] → wpList Tryd.prog ops Q rest (a.put o.dst (.tuple #[.bool false])) w)
    (hMore : ∀ (pre post : List Id) (x : Id) (w' : World), left = pre ++ x :: post → St H (Rg setC g r (ents L) (ents (pre ++ post)) :: fr) w' → Env w w' → (Instr.entry (.pointer (some ⟨r, 0, none⟩))).run Tryd.prog w' = .ok (.tuple #[.agg #[.int .i64 x.1, .int .i64 x.2], .bool true]) w' →
      wpList Tryd.prog ops Q rest (a.put o.dst (.tuple #[.bool true, .agg #[.int .i64 x.1, .int .i64 x.2], .bool true])) w') : wpList Tryd.prog ops Q (o :: rest) a w := by
  refine wpList_mnext hst hg it hop hit (fun h => hDone (by cases left with | nil => rfl | cons x l => simp [ents] at h)) ?_
  intro pre post p w' hl h' en hen
  obtain ⟨A, B, rfl, rfl, rfl⟩ := ents_split hl
  refine hMore A B p.1 w' rfl ?_ en hen
  unfold ents at *
  rw [List.map_append]
  exact h'
theorem rg_left {H : Hp} {fr : List HA} {w : World} {g r : Nat} {L left : List Id} (h : St H (Rg setC g r (ents L) (ents left) :: fr) w) : w.rangeLeft g r = left.length := h.get (fun S hS => by
  obtain ⟨⟨hne, es, clock, since, seen, c0, h1, h2, h3, h4, h5, h6, h7, h8⟩, hS⟩ := hS
  have := congrArg List.length h8
  simp only [List.length_map, ents_len] at this
  simp only [World.rangeLeft, h1, h4]
  simpa using this)
/-- A list that rises. -/
def Rises (l : List Id) : Prop := l.Pairwise (fun a b => idLt a b = true)
theorem idSort_rises {l : List Id} (h : l.Nodup) : Rises (idSort l) := by
  have hs : (idSort l).Pairwise (fun a b => (!(ltOf cmpId) b a) = true) := by
    unfold idSort
    refine List.pairwise_mergeSort (fun a b c h1 h2 => ?_) (fun a b => ?_) l
    · rw [ltOf_id] at *
      simp only [Bool.not_eq_true', idLt_no] at *
      omega
    · rw [ltOf_id, ltOf_id]
      simp only [Bool.or_eq_true, Bool.not_eq_true', idLt_no]
      omega
  have hn : (idSort l).Nodup := (List.mergeSort_perm l _).nodup_iff.2 h
  refine (hs.and hn).imp (fun {a b} hab => ?_)
  obtain ⟨h1, h2⟩ := hab
  rw [ltOf_id] at h1
  simp only [Bool.not_eq_true', idLt_no] at h1
  rw [idLt_iff]
  have : ¬ (a.1 = b.1 ∧ a.2 = b.2) := fun e => h2 (Prod.ext e.1 e.2)
  omega
theorem rises_nodup {l : List Id} (h : Rises l) : l.Nodup := h.imp (fun {a b} hab e => by subst e; rw [idLt_iff] at hab; omega)
/-- Two rising lists with the same members are one. -/
theorem rises_eq : ∀ {l m : List Id}, Rises l → Rises m → (∀ a, a ∈ l ↔ a ∈ m) → l = m
  | [], [], _, _, _ => rfl
  | [], b :: m, _, _, h => by have := (h b).2 (List.mem_cons_self ..); simp at this
  | a :: l, [], _, _, h => by have := (h a).1 (List.mem_cons_self ..); simp at this
  | a :: l, b :: m, hl, hm, h => by
    obtain ⟨l1, l2⟩ := List.pairwise_cons.1 hl
    obtain ⟨m1, m2⟩ := List.pairwise_cons.1 hm
    have hab : a = b := by
      rcases List.mem_cons.1 ((h a).1 (List.mem_cons_self ..)) with e | e
      · exact e
      · rcases List.mem_cons.1 ((h b).2 (List.mem_cons_self ..)) with e' | e'
        · exact e'.symm
        · have x1 := l1 b e'
          have x2 := m1 a e
          rw [idLt_iff] at x1 x2
          omega
    subst hab
    have : l = m := rises_eq l2 m2 (fun x => by
      have := h x
      simp only [List.mem_cons] at this
      constructor
      · intro hx
        rcases this.1 (.inr hx) with e | e
        · subst e
          have := l1 _ hx
          rw [idLt_iff] at this
          omega
        · exact e
      · intro hx
        rcases this.2 (.inr hx) with e | e
        · subst e
          have := m1 _ hx
          rw [idLt_iff] at this
          omega
        · exact e)
    rw [this]
end Go.Proofs.YtohgcghobidfpaaDoor
