/- Joined texts: Idset2, Sorted. -/
import Derived.Test.YtohgcghobidfpaaGG6
/- Sets of ids: what one has and another one has not; sameness. -/
set_option linter.unusedVariables false
set_option linter.unusedSimpArgs false
namespace Go.Proofs.Ytohgcghobidfpaa
open Go.RowKit Go.Cw
attribute [local go_sem ↓] eql_id neq_id
theorem ents_split {L : List Id} {pre post : List (Id × Unit)} {p : Id × Unit} (h : ents L = pre ++ p :: post) : ∃ A B, L = A ++ p.1 :: B ∧ pre = ents A ∧ post = ents B := by
  unfold ents at h
  obtain ⟨A, q, rfl, hA, hq⟩ := List.map_eq_append_iff.1 h
  obtain ⟨x, B, rfl, hx, hB⟩ := List.map_eq_cons_iff.1 hq
  exact ⟨A, B, by rw [← hx], hA.symm, hB.symm⟩
theorem wpList_snext {H : Hp} {fr : List HA} {w : World} {g r : Nat} {L left : List Id} {ops : Array Oper} {rest : List Oper} {o : Oper} {a : Act} {Q : Exit → Act → World → Prop}
    (hst : St H (Rg setC g r (ents L) (ents left) :: fr) w) (hg : o.guard = none) (it : Operand) (hop : o.op = Op.next it false) (hit : a.eval it = .pointer (some ⟨r, 0, none⟩))
    (hDone : left = [] → wpList Try.prog ops Q rest (a.put o.dst (.tuple #[.bool false])) w)
    (hMore : ∀ (pre post : List Id) (x : Id) (w' : World), left = pre ++ x :: post → St H (Rg setC g r (ents L) (ents (pre ++ post)) :: fr) w' → Env w w' → (Instr.entry (.pointer (some ⟨r, 0, none⟩))).run Try.prog w' = .ok (.tuple #[.agg #[.int .i64 x.1, .int .i64 x.2], .bool true]) w' →
      wpList Try.prog ops Q rest (a.put o.dst (.tuple #[.bool true, .agg #[.int .i64 x.1, .int .i64 x.2], .bool true])) w') : wpList Try.prog ops Q (o :: rest) a w := by
  refine wpList_mnext hst hg it hop hit (fun h => hDone (by cases left with | nil => rfl | cons x l => simp [ents] at h)) ?_
  intro pre post p w' hl h' en hen
  obtain ⟨A, B, rfl, rfl, rfl⟩ := ents_split hl
  refine hMore A B p.1 w' rfl ?_ en hen
  unfold ents at *
  rw [List.map_append]
  exact h'
theorem rg_left {H : Hp} {fr : List HA} {w : World} {g r : Nat} {L left : List Id} (h : St H (Rg setC g r (ents L) (ents left) :: fr) w) : w.rangeLeft g r = left.length := h.get (fun S hS => by
  obtain ⟨⟨hne, es, clock, since, seen, c0, h1, h2, h3, h4, h5, h6, h7, h8⟩, hS⟩ := hS
  have := congrArg List.length h8
  simp only [List.length_map, ents_len] at this
  simp only [World.rangeLeft, h1, h4]
  simpa using this)
/-- A list that rises. -/
def Rises (l : List Id) : Prop := l.Pairwise (fun a b => idLt a b = true)
theorem idSort_rises {l : List Id} (h : l.Nodup) : Rises (idSort l) := by
  have hs : (idSort l).Pairwise (fun a b => (!(ltOf cmpId) b a) = true) := by
    unfold idSort
    refine List.pairwise_mergeSort (fun a b c h1 h2 => ?_) (fun a b => ?_) l
    · rw [ltOf_id] at *
      simp only [Bool.not_eq_true', idLt_no] at *
      omega
    · rw [ltOf_id, ltOf_id]
      simp only [Bool.or_eq_true, Bool.not_eq_true', idLt_no]
      omega
  have hn : (idSort l).Nodup := (List.mergeSort_perm l _).nodup_iff.2 h
  refine (hs.and hn).imp (fun {a b} hab => ?_)
  obtain ⟨h1, h2⟩ := hab
  rw [ltOf_id] at h1
  simp only [Bool.not_eq_true', idLt_no] at h1
  rw [idLt_iff]
  have : ¬ (a.1 = b.1 ∧ a.2 = b.2) := fun e => h2 (Prod.ext e.1 e.2)
  omega
theorem rises_nodup {l : List Id} (h : Rises l) : l.Nodup := h.imp (fun {a b} hab e => by subst e; rw [idLt_iff] at hab; omega)
/-- Two rising lists with the same members are one. -/
theorem rises_eq : ∀ {l m : List Id}, Rises l → Rises m → (∀ a, a ∈ l ↔ a ∈ m) → l = m
  | [], [], _, _, _ => rfl
  | [], b :: m, _, _, h => by have := (h b).2 (List.mem_cons_self ..); simp at this
  | a :: l, [], _, _, h => by have := (h a).1 (List.mem_cons_self ..); simp at this
  | a :: l, b :: m, hl, hm, h => by
    obtain ⟨l1, l2⟩ := List.pairwise_cons.1 hl
    obtain ⟨m1, m2⟩ := List.pairwise_cons.1 hm
    have hab : a = b := by
      rcases List.mem_cons.1 ((h a).1 (List.mem_cons_self ..)) with e | e
      · exact e
      · rcases List.mem_cons.1 ((h b).2 (List.mem_cons_self ..)) with e' | e'
        · exact e'.symm
        · have x1 := l1 b e'
          have x2 := m1 a e
          rw [idLt_iff] at x1 x2
          omega
    subst hab
    have : l = m := rises_eq l2 m2 (fun x => by
      have := h x
      simp only [List.mem_cons] at this
      constructor
      · intro hx
        rcases this.1 (.inr hx) with e | e
        · subst e
          have := l1 _ hx
          rw [idLt_iff] at this
          omega
        · exact e
      · intro hx
        rcases this.2 (.inr hx) with e | e
        · subst e
          have := m1 _ hx
          rw [idLt_iff] at this
          omega
        · exact e)
    rw [this]
end Go.Proofs.Ytohgcghobidfpaa

/- The reference's Put, Sorted, and the law's cut: what they make of ids. -/
set_option linter.unusedVariables false
set_option linter.unusedSimpArgs false
namespace Go.Proofs.Ytohgcghobidfpaa
open Go.RowKit Go.Cw
attribute [local go_sem ↓] eql_id neq_id
/-- A rising list with one more id. -/
def putL (a : Id) (l : List Id) : List Id := if a ∈ l then l else ins a l
def sortL (l : List Id) : List Id := l.foldl (fun acc a => putL a acc) []
theorem ins_mem (a b : Id) (l : List Id) : b ∈ ins a l ↔ b = a ∨ b ∈ l := by
  induction l with
  | nil => simp [ins]
  | cons x r ih =>
    unfold ins
    split
    · simp
    · simp only [List.mem_cons, ih]
      constructor
      · rintro (h | h | h)
        · exact .inr (.inl h)
        · exact .inl h
        · exact .inr (.inr h)
      · rintro (h | h | h)
        · exact .inr (.inl h)
        · exact .inl h
        · exact .inr (.inr h)
theorem ins_rises (a : Id) : ∀ (l : List Id), Rises l → a ∉ l → Rises (ins a l)
  | [], _, _ => by simp [ins, Rises]
  | x :: r, h, hn => by
    obtain ⟨h1, h2⟩ := List.pairwise_cons.1 h
    have hax : a ≠ x := fun e => hn (by simp [e])
    have har : a ∉ r := fun e => hn (List.mem_cons_of_mem _ e)
    unfold ins
    split
    · rename_i hlt
      refine List.pairwise_cons.2 ⟨fun b hb => ?_, h⟩
      rcases List.mem_cons.1 hb with e | e
      · rw [e]; exact hlt
      · have := h1 b e
        rw [idLt_iff] at *
        omega
    · rename_i hlt
      refine List.pairwise_cons.2 ⟨fun b hb => ?_, ins_rises a r h2 har⟩
      rcases (ins_mem a b r).1 hb with e | e
      · subst e
        have hne : ¬ (b.1 = x.1 ∧ b.2 = x.2) := fun e => hax (Prod.ext e.1 e.2)
        have hl : idLt b x = false := Bool.eq_false_iff.2 hlt
        rw [idLt_no] at hl
        rw [idLt_iff]
        omega
      · exact h1 b e
theorem putL_mem (a b : Id) (l : List Id) : b ∈ putL a l ↔ b = a ∨ b ∈ l := by
  unfold putL
  split
  · rename_i h
    constructor
    · exact .inr
    · rintro (e | e)
      · rw [e]; exact h
      · exact e
  · exact ins_mem a b l
theorem putL_rises (a : Id) (l : List Id) (h : Rises l) : Rises (putL a l) := by
  unfold putL
  split
  · exact h
  · rename_i hn; exact ins_rises a l h hn
theorem putL_len (a : Id) (l : List Id) : (putL a l).length ≤ l.length + 1 := by
  unfold putL
  split
  · omega
  · rw [ins_len]; exact Nat.le_refl _
theorem foldl_put (l : List Id) : ∀ acc, Rises acc → Rises (l.foldl (fun acc a => putL a acc) acc) ∧ (∀ b, b ∈ l.foldl (fun acc a => putL a acc) acc ↔ b ∈ l ∨ b ∈ acc) ∧ (l.foldl (fun acc a => putL a acc) acc).length ≤ acc.length + l.length := by
  induction l with
  | nil => intro acc h; exact ⟨h, by simp, by simp⟩
  | cons x r ih =>
    intro acc h
    obtain ⟨h1, h2, h3⟩ := ih (putL x acc) (putL_rises x acc h)
    refine ⟨h1, fun b => ?_, ?_⟩
    · rw [List.foldl_cons, h2, putL_mem, List.mem_cons]
      constructor
      · rintro (e | e | e)
        · exact .inl (.inr e)
        · exact .inl (.inl e)
        · exact .inr e
      · rintro ((e | e) | e)
        · exact .inr (.inl e)
        · exact .inl e
        · exact .inr (.inr e)
    · have := putL_len x acc
      simp only [List.foldl_cons, List.length_cons]
      omega
theorem sortL_rises (l : List Id) : Rises (sortL l) := (foldl_put l [] List.Pairwise.nil).1
theorem sortL_mem (l : List Id) (b : Id) : b ∈ sortL l ↔ b ∈ l := by
  have := (foldl_put l [] List.Pairwise.nil).2.1 b
  simpa [sortL] using this
theorem sortL_len (l : List Id) : (sortL l).length ≤ l.length := by
  have := (foldl_put l [] List.Pairwise.nil).2.2
  simpa [sortL] using this
theorem sortL_snoc (l : List Id) (k : Nat) (h : k < l.length) : sortL (l.take (k + 1)) = putL l[k] (sortL (l.take k)) := by
  unfold sortL
  rw [List.take_succ_eq_append_getElem h, List.foldl_append]
  rfl
set_option maxRecDepth 100000 in
theorem put_has (u : Value) (l : List Id) (id : Id) (w : World) (hx : Rw w 2 u (idl l)) (hin : id ∈ l) :
    Calls Try.prog 26 #[u, idV id] w fun e w' => e = .returned u ∧ Below w.heap.size w w' := by
  obtain ⟨H', hle, h2, hy⟩ := (St.start w).box #[.int .i64 id.1, .int .i64 id.2] 30
  have x0 := h2.cell (hy 0 _ rfl)
  have x1 := h2.cell (hy 1 _ rfl)
  have xl := World.block_lt_of_cell? _ _ x0
  have en := (Env.refl w).alloc (.cells #[.int .i64 id.1, .int .i64 id.2] 30)
  have hd : decide (id ∈ l) = true := decide_eq_true hin
  obtain ⟨A, n, c, rfl, _, _, _⟩ := hx.form
  go_enter Try.func26, Try.ntmps26
  go_wp2_with fail
  refine (hasIds_any _ l id _ (hx.alloc _)).mono ?_
  rintro e w1 ⟨rfl, hb1⟩
  rw [hd]
  go_wp2_with fail
  go_ret
  exact ⟨rfl, ((h2.below hb1).weaken hle).toBelow (en.trans (bel_env hb1))⟩
/-- Put, of a list that one owns. -/
theorem put_own (v : Value) (l : List Id) (id : Id) (H : Hp) (fr : List HA) (w : World) (h : St H (Row 30 2 v (idl l) :: fr) w) (hlen : (l.length + 1) * 16 ≤ 140737488355328) :
    Calls Try.prog 26 #[v, idV id] w fun e w' => ∃ v', e = .returned v' ∧ St H (Row 30 2 v' (idl (putL id l)) :: fr) w' ∧ Env w w' := by
  by_cases hin : id ∈ l
  · refine (put_has v l id w (h.row_rw (by omega)) hin).mono ?_
    rintro e w' ⟨rfl, hb⟩
    exact ⟨v, rfl, by unfold putL; rw [if_pos hin]; exact h.below hb, bel_env hb⟩
  · refine (put_new v l id w (h.row_rw (by omega)) hin hlen).mono ?_
    rintro e w' he
    obtain ⟨v', rfl, h', en'⟩ := ResE.lift h he
    exact ⟨v', rfl, by unfold putL; rw [if_neg hin]; exact h'.swap.drop, en'⟩
set_option maxRecDepth 100000 in
set_option maxHeartbeats 800000 in
theorem refSorted_any (u : Value) (l : List Id) (w : World) (hx : Rw w 2 u (idl l)) (hlen : (l.length + 1) * 16 ≤ 140737488355328) :
    Calls Try.prog 42 #[u] w (ResE (snap w) [] w (fun v => v) (fun v => [Row 30 2 v (idl (sortL l))])) := by
  obtain ⟨A, n, c, rfl, hl, hn, hc⟩ := hx.form
  rw [idl_len] at hl
  obtain rfl : n = l.length := by omega
  clear hl
  have h1 := (St.start w).row_lit 30 2 0 #[] rfl (by decide)
  have en1 := (Env.refl w).alloc (.cells #[] 30)
  have hrd := hx.rd
  go_enter Try.func42, Try.ntmps42
  go_wp2_with fail
  go_loopw [3, 4] (fun lv i wr => ∃ k : Nat, k ≤ l.length ∧ i = .int .i64 k ∧ St (snap w) [Row 30 2 lv (idl (sortL (l.take k)))] wr ∧ Env w wr) (fun _ i _ => l.length - (intOf i).toNat)
  case atStart => exact ⟨0, Nat.zero_le _, rfl, h1, en1⟩
  case round =>
    obtain ⟨k, hk, rfl, hst, hen⟩ := hrel
    by_cases hlt : k < l.length
    · obtain ⟨x, HX⟩ : ∃ x, Hid (x = l[k]) := ⟨_, Lib.hid rfl⟩
      have HN : Hid (putL x (sortL (l.take k)) = sortL (l.take (k + 1))) := Lib.hid (by rw [HX.out, sortL_snoc l k hlt])
      have hsl : (sortL (l.take k)).length ≤ k := by
        have := sortL_len (l.take k)
        rw [List.length_take] at this
        omega
      obtain ⟨qb, qoff, qA, qc⟩ := (hrd.rw hst).cells (by omega)
      cases qA
      have q1 := qc _ _ (idl_fst l k hlt)
      have q2 := qc _ _ (idl_snd l k hlt)
      rw [← Nat.add_assoc] at q2
      rw [← HX.out] at q1 q2
      have ql := World.block_lt_of_cell? _ _ q1
      clear qc
      go_wp2_with fail
      refine (put_own _ _ x _ _ _ hst (by omega)).mono ?_
      rintro e w3 ⟨v', rfl, h3, en3⟩
      rw [HN.out] at h3
      go_wp2_with fail
      go_roundw
      case rel => exact ⟨k + 1, by omega, by go_num, h3, hen.trans en3⟩
      case measure => simp [intOf]; omega
    · obtain rfl : k = l.length := by omega
      rw [List.take_length] at hst
      go_wp2_with fail
      go_ret
      exact ⟨_, rfl, hst, hen⟩
theorem cutL_snoc (id : Id) (l : List Id) (k : Nat) (h : k < l.length) : cutL id (l.take (k + 1)) = if l[k] = id then cutL id (l.take k) else cutL id (l.take k) ++ [l[k]] := by
  unfold cutL
  rw [List.take_succ_eq_append_getElem h, List.filter_append]
  by_cases hx : l[k] = id <;> simp [hx]
end Go.Proofs.Ytohgcghobidfpaa
