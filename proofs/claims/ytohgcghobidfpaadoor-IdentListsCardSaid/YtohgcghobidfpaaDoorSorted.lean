/- The reference's Put, Sorted, and the law's cut: what they make of ids. -/
import Derived.Test.YtohgcghobidfpaaDoorIdset2
set_option linter.unusedVariables false
set_option linter.unusedSimpArgs false
namespace Go.Proofs.YtohgcghobidfpaaDoor
open Go.RowKit Go.Cw
attribute [local go_sem ↓] eql_id neq_id
/-- A rising list with one more id. -/
def putL (a : Id) (l : List Id) : List Id := if a ∈ l then l else ins a l
def sortL (l : List Id) : List Id := l.foldl (fun acc a => putL a acc) []
theorem ins_mem (a b : Id) (l : List Id) : b ∈ ins a l ↔ b = a ∨ b ∈ l := by
  induction l with
  | nil => simp [ins]
  | cons x r ih =>
    unfold ins
    split
    · simp
    · simp only [List.mem_cons, ih]
      constructor
      · rintro (h | h | h)
        · exact .inr (.inl h)
        · exact .inl h
        · exact .inr (.inr h)
      · rintro (h | h | h)
        · exact .inr (.inl h)
        · exact .inl h
        · exact .inr (.inr h)
theorem ins_rises (a : Id) : ∀ (l : List Id), Rises l → a ∉ l → Rises (ins a l)
  | [], _, _ => by simp [ins, Rises]
  | x :: r, h, hn => by
    obtain ⟨h1, h2⟩ := List.pairwise_cons.1 h
    have hax : a ≠ x := fun e => hn (by simp [e])
    have har : a ∉ r := fun e => hn (List.mem_cons_of_mem _ e)
    unfold ins
    split
    · rename_i hlt
      refine List.pairwise_cons.2 ⟨fun b hb => ?_, h⟩
      rcases List.mem_cons.1 hb with e | e
      · rw [e]; exact hlt
      · have := h1 b e
        rw [idLt_iff] at *
        omega
    · rename_i hlt
      refine List.pairwise_cons.2 ⟨fun b hb => ?_, ins_rises a r h2 har⟩
      rcases (ins_mem a b r).1 hb with e | e
      · subst e
        have hne : ¬ (b.1 = x.1 ∧ b.2 = x.2) := fun e => hax (Prod.ext e.1 e.2)
        have hl : idLt b x = false := Bool.eq_false_iff.2 hlt
        rw [idLt_no] at hl
        rw [idLt_iff]
        omega
      · exact h1 b e
theorem putL_mem (a b : Id) (l : List Id) : b ∈ putL a l ↔ b = a ∨ b ∈ l := by
  unfold putL
  split
  · rename_i h
    constructor
    · exact .inr
    · rintro (e | e)
      · rw [e]; exact h
      · exact e
  · exact ins_mem a b l
theorem putL_rises (a : Id) (l : List Id) (h : Rises l) : Rises (putL a l) := by
  unfold putL
  split
  · exact h
  · rename_i hn; exact ins_rises a l h hn
theorem putL_len (a : Id) (l : List Id) : (putL a l).length ≤ l.length + 1 := by
  unfold putL
  split
  · omega
  · rw [ins_len]; exact Nat.le_refl _
theorem foldl_put (l : List Id) : ∀ acc, Rises acc → Rises (l.foldl (fun acc a => putL a acc) acc) ∧ (∀ b, b ∈ l.foldl (fun acc a => putL a acc) acc ↔ b ∈ l ∨ b ∈ acc) ∧ (l.foldl (fun acc a => putL a acc) acc).length ≤ acc.length + l.length := by
  induction l with
  | nil => intro acc h; exact ⟨h, by simp, by simp⟩
  | cons x r ih =>
    intro acc h
    obtain ⟨h1, h2, h3⟩ := ih (putL x acc) (putL_rises x acc h)
    refine ⟨h1, fun b => ?_, ?_⟩
    · rw [List.foldl_cons, h2, putL_mem, List.mem_cons]
      constructor
      · rintro (e | e | e)
        · exact .inl (.inr e)
        · exact .inl (.inl e)
        · exact .inr e
      · rintro ((e | e) | e)
        · exact .inr (.inl e)
        · exact .inl e
        · exact .inr (.inr e)
    · have := putL_len x acc
      simp only [List.foldl_cons, List.length_cons]
      omega
theorem sortL_rises (l : List Id) : Rises (sortL l) := (foldl_put l [] List.Pairwise.nil).1
theorem sortL_mem (l : List Id) (b : Id) : b ∈ sortL l ↔ b ∈ l := by
  have := (foldl_put l [] List.Pairwise.nil).2.1 b
  simpa [sortL] using this
theorem sortL_len (l : List Id) : (sortL l).length ≤ l.length := by
  have := (foldl_put l [] List.Pairwise.nil).2.2
  simpa [sortL] using this
theorem sortL_snoc (l : List Id) (k : Nat) (h : k < l.length) : sortL (l.take (k + 1)) = putL l[k] (sortL (l.take k)) := by
  unfold sortL
  rw [List.take_succ_eq_append_getElem h, List.foldl_append]
  rfl
set_option maxRecDepth 100000 in
theorem put_has (u : Value) (l : List Id) (id : Id) (w : World) (hx : Rw w 2 u (idl l)) (hin : id ∈ l) :
    Calls Tryd.prog 66 #[u, idV id] w fun e w' => e = .returned u ∧ Below w.heap.size w w' := by
  obtain ⟨H', hle, h2, hy⟩ := (St.start w).box #[.int .i64 id.1, .int .i64 id.2] 23
  have x0 := h2.cell (hy 0 _ rfl)
  have x1 := h2.cell (hy 1 _ rfl)
  have xl := World.block_lt_of_cell? _ _ x0
  have en := (Env.refl w).alloc (.cells #[.int .i64 id.1, .int .i64 id.2] 23)
  have hd : decide (id ∈ l) = true := decide_eq_true hin
  obtain ⟨A, n, c, rfl, _, _, _⟩ := hx.form
  go_enter Tryd.func66, Tryd.ntmps66
  go_wp2_with fail
  refine (hasIds_any _ l id _ (hx.alloc _)).mono ?_
  rintro e w1 ⟨rfl, hb1⟩
  rw [hd]
  go_wp2_with fail
  go_ret
  exact ⟨rfl, ((h2.below hb1).weaken hle).toBelow (en.trans (bel_env hb1))⟩
/-- Put, of a list that one owns. -/
theorem put_own (v : Value) (l : List Id) (id : Id) (H : Hp) (fr : List HA) (w : World) (h : St H (Row 23 2 v (idl l) :: fr) w) (hlen : (l.length + 1) * 16 ≤ 140737488355328) :
    Calls Tryd.prog 66 #[v, idV id] w fun e w' => ∃ v', e = .returned v' ∧ St H (Row 23 2 v' (idl (putL id l)) :: fr) w' ∧ Env w w' := by
  by_cases hin : id ∈ l
  · refine (put_has v l id w (h.row_rw (by omega)) hin).mono ?_
    rintro e w' ⟨rfl, hb⟩
    exact ⟨v, rfl, by unfold putL; rw [if_pos hin]; exact h.below hb, bel_env hb⟩
  · refine (put_new v l id w (h.row_rw (by omega)) hin hlen).mono ?_
    rintro e w' he
    obtain ⟨v', rfl, h', en'⟩ := ResE.lift h he
    exact ⟨v', rfl, by unfold putL; rw [if_neg hin]; exact h'.swap.drop, en'⟩
set_option maxRecDepth 100000 in
set_option maxHeartbeats 800000 in
theorem refSorted_any (u : Value) (l : List Id) (w : World) (hx : Rw w 2 u (idl l)) (hlen : (l.length + 1) * 16 ≤ 140737488355328) :
    Calls Tryd.prog 34 #[u] w (ResE (snap w) [] w (fun v => v) (fun v => [Row 23 2 v (idl (sortL l))])) := by
  obtain ⟨A, n, c, rfl, hl, hn, hc⟩ := hx.form
  rw [idl_len] at hl
  obtain rfl : n = l.length := by omega
  clear hl
  have h1 := (St.start w).row_lit 23 2 0 #[] rfl (by decide)
  have en1 := (Env.refl w).alloc (.cells #[] 23)
  have hrd := hx.rd
  go_enter Tryd.func34, Tryd.ntmps34
  go_wp2_with fail
  go_loopw [3, 4] (fun lv i wr => ∃ k : Nat, k ≤ l.length ∧ i = .int .i64 k ∧ St (snap w) [Row 23 2 lv (idl (sortL (l.take k)))] wr ∧ Env w wr) (fun _ i _ => l.length - (intOf i).toNat)
  case atStart => exact ⟨0, Nat.zero_le _, rfl, h1, en1⟩
  case round =>
    obtain ⟨k, hk, rfl, hst, hen⟩ := hrel
    by_cases hlt : k < l.length
    · obtain ⟨x, HX⟩ : ∃ x, Hid (x = l[k]) := ⟨_, Lib.hid rfl⟩
      have HN : Hid (putL x (sortL (l.take k)) = sortL (l.take (k + 1))) := Lib.hid (by rw [HX.out, sortL_snoc l k hlt])
      have hsl : (sortL (l.take k)).length ≤ k := by
        have := sortL_len (l.take k)
        rw [List.length_take] at this
        omega
      obtain ⟨qb, qoff, qA, qc⟩ := (hrd.rw hst).cells (by omega)
      cases qA
      have q1 := qc _ _ (idl_fst l k hlt)
      have q2 := qc _ _ (idl_snd l k hlt)
      rw [← Nat.add_assoc] at q2
      rw [← HX.out] at q1 q2
      have ql := World.block_lt_of_cell? _ _ q1
      clear qc
      go_wp2_with fail
      refine (put_own _ _ x _ _ _ hst (by omega)).mono ?_
      rintro e w3 ⟨v', rfl, h3, en3⟩
      rw [HN.out] at h3
      go_wp2_with fail
      go_roundw
      case rel => exact ⟨k + 1, by omega, by go_num, h3, hen.trans en3⟩
      case measure => simp [intOf]; omega
    · obtain rfl : k = l.length := by omega
      rw [List.take_length] at hst
      go_wp2_with fail
      go_ret
      exact ⟨_, rfl, hst, hen⟩
theorem cutL_snoc (id : Id) (l : List Id) (k : Nat) (h : k < l.length) : cutL id (l.take (k + 1)) = if l[k] = id then cutL id (l.take k) else cutL id (l.take k) ++ [l[k]] := by
  unfold cutL
  rw [List.take_succ_eq_append_getElem h, List.filter_append]
  by_cases hx : l[k] = id <;> simp [hx]
end Go.Proofs.YtohgcghobidfpaaDoor
