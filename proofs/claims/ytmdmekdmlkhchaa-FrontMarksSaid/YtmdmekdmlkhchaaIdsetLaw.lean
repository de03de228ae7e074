/- The laws of sets of ids: walked. -/
import Derived.Test.YtmdmekdmlkhchaaSorted
set_option linter.unusedVariables false
set_option linter.unusedSimpArgs false
namespace Go.Proofs.Ytmdmekdmlkhchaa
open Go.RowKit Go.Cw
attribute [local go_sem ↓] eql_id neq_id
theorem minus_nil (p : Nat) (L : List Id) (H : Hp) (fr : List HA) (w : World) (h : St H (SetA p L :: fr) w) (hL : L.length * 32 ≤ 140737488355328) :
    Calls Try.prog 54 #[setP p, .pointer none] w fun e w' => ∃ v R, e = .returned v ∧ St H (Row 42 2 v (idl R) :: SetA p L :: fr) w' ∧ Env w w' ∧ Rises R ∧ ∀ a, a ∈ R ↔ a ∈ L := by
  refine (minus_gen p L (.pointer none) (fun _ => false) H fr w h hL (fun l w' a _ => has_nil a w')).mono ?_
  rintro e w' ⟨v, R, rfl, h', en, hr, hm⟩
  exact ⟨v, R, rfl, h', en, hr, fun a => by rw [hm]; simp⟩
theorem minus_two (p q : Nat) (L M : List Id) (H : Hp) (fr : List HA) (w : World) (h : St H (SetA p L :: SetA q M :: fr) w) (hL : L.length * 32 ≤ 140737488355328) :
    Calls Try.prog 54 #[setP p, setP q] w fun e w' => ∃ v R, e = .returned v ∧ St H (Row 42 2 v (idl R) :: SetA p L :: SetA q M :: fr) w' ∧ Env w w' ∧ Rises R ∧ ∀ a, a ∈ R ↔ (a ∈ L ∧ a ∉ M) := by
  refine (minus_gen p L (setP q) (fun a => decide (a ∈ M)) H _ w h hL (fun l w' a h' => has_any q M a H (l ++ fr) w' (h'.perm List.perm_middle))).mono ?_
  rintro e w' ⟨v, R, rfl, h', en, hr, hm⟩
  exact ⟨v, R, rfl, h', en, hr, fun a => by rw [hm]; simp⟩
set_option maxRecDepth 100000 in
theorem minus_none (ov : Value) (w : World) : Calls Try.prog 54 #[.pointer none, ov] w fun e w' => e = .returned (.slice none 0 0) ∧ w = w' := by
  go_enter Try.func54, Try.ntmps54
  go_wp2_with fail
  go_ret
  exact ⟨rfl, rfl⟩
set_option maxRecDepth 100000 in
theorem list_none (w : World) : Calls Try.prog 52 #[.pointer none] w fun e w' => e = .returned (.slice none 0 0) ∧ w = w' := by
  go_enter Try.func52, Try.ntmps52
  go_wp2_with fail
  refine (minus_none _ _).mono ?_
  rintro e w1 ⟨rfl, h1⟩
  go_wp2_with fail
  go_ret
  exact ⟨rfl, h1⟩
set_option maxRecDepth 100000 in
theorem list_any (p : Nat) (L : List Id) (H : Hp) (fr : List HA) (w : World) (h : St H (SetA p L :: fr) w) (hL : L.length * 32 ≤ 140737488355328) :
    Calls Try.prog 52 #[setP p] w fun e w' => ∃ v R, e = .returned v ∧ St H (Row 42 2 v (idl R) :: SetA p L :: fr) w' ∧ Env w w' ∧ Rises R ∧ ∀ a, a ∈ R ↔ a ∈ L := by
  go_enter Try.func52, Try.ntmps52
  go_wp2_with fail
  refine (minus_nil p L H fr w h hL).mono ?_
  rintro e w1 ⟨v, R, rfl, h1, en1, hr, hm⟩
  go_wp2_with fail
  go_ret
  exact ⟨v, R, rfl, h1, en1, hr, hm⟩
/-- Are two sets one? -/
def sameSet (L M : List Id) : Bool := decide (L.length = M.length) && L.all (fun a => decide (a ∈ M))
set_option maxRecDepth 100000 in
set_option maxHeartbeats 800000 in
theorem same_two (p q : Nat) (L M : List Id) (H : Hp) (fr : List HA) (w : World) (h : St H (SetA p L :: SetA q M :: fr) w) (hL : L.length * 32 ≤ 140737488355328) :
    Calls Try.prog 55 #[setP p, setP q] w (Res H fr w (.bool (sameSet L M)) [SetA p L, SetA q M]) := by
  by_cases hl : L.length = M.length
  · have h1 : ((L.length : Int) != M.length) = false := bne_eq_false_iff_eq.2 (by omega)
    go_enter Try.func55, Try.ntmps55
    go_wp2_with fail
    refine (len_any p L H _ _ h).mono ?_
    rintro e w1 ⟨rfl, rfl⟩
    go_wp2_with fail
    refine (len_any q M H _ _ h.swap).mono ?_
    rintro e w1 ⟨rfl, rfl⟩
    go_wp2_with fail
    refine (minus_two p q L M H fr w h hL).mono ?_
    rintro e w1 ⟨v, R, rfl, h2, en2, hr, hm⟩
    obtain ⟨A, n, c, rfl, hf, _, _⟩ := h2.row_form
    rw [idl_len] at hf
    obtain rfl : n = R.length := by omega
    have hN : Hid (((R.length : Int) == 0) = sameSet L M) := Lib.hid (by
      unfold sameSet
      rw [decide_eq_true hl, Bool.true_and]
      cases R with
      | nil =>
        symm
        show L.all _ = true
        rw [List.all_eq_true]
        intro a ha
        refine decide_eq_true ?_
        by_cases h : a ∈ M
        · exact h
        · have := (hm a).2 ⟨ha, h⟩
          simp at this
      | cons x R =>
        obtain ⟨h3, h4⟩ := (hm x).1 (List.mem_cons_self ..)
        have : L.all (fun a => decide (a ∈ M)) = false := by
          rw [List.all_eq_false]
          exact ⟨x, h3, by simp [h4]⟩
        rw [this]
        exact beq_eq_false_iff_ne.2 (by simp; omega))
    go_wp2_with fail
    go_ret
    exact ⟨congrArg (fun x => Ending.returned (Value.bool x)) hN.out, h2.drop, en2⟩
  · have h1 : ((L.length : Int) != M.length) = true := bne_iff_ne.2 (by omega)
    have hN : Hid (sameSet L M = false) := Lib.hid (by unfold sameSet; rw [decide_eq_false hl]; rfl)
    go_enter Try.func55, Try.ntmps55
    go_wp2_with fail
    refine (len_any p L H _ _ h).mono ?_
    rintro e w1 ⟨rfl, rfl⟩
    go_wp2_with fail
    refine (len_any q M H _ _ h.swap).mono ?_
    rintro e w1 ⟨rfl, rfl⟩
    go_wp2_with fail
    go_ret
    exact ⟨congrArg (fun x => Ending.returned (Value.bool x)) hN.out.symm, h, Env.refl _⟩
set_option maxRecDepth 100000 in
set_option maxHeartbeats 800000 in
theorem same_none (q : Nat) (M : List Id) (H : Hp) (fr : List HA) (w : World) (h : St H (SetA q M :: fr) w) :
    Calls Try.prog 55 #[.pointer none, setP q] w fun e w' => e = .returned (.bool (decide (M.length = 0))) ∧ w = w' := by
  by_cases hl : M.length = 0
  · have h1 : ((0 : Int) != M.length) = false := bne_eq_false_iff_eq.2 (by omega)
    have hN : Hid (decide (M.length = 0) = true) := Lib.hid (decide_eq_true hl)
    clear hl
    go_enter Try.func55, Try.ntmps55
    go_wp2_with fail
    refine (len_nil _).mono ?_
    rintro e w1 ⟨rfl, rfl⟩
    go_wp2_with fail
    refine (len_any q M H _ _ h).mono ?_
    rintro e w1 ⟨rfl, rfl⟩
    go_wp2_with fail
    refine (minus_none _ _).mono ?_
    rintro e w1 ⟨rfl, rfl⟩
    go_wp2_with fail
    go_ret
    exact ⟨congrArg (fun x => Ending.returned (Value.bool x)) hN.out.symm, rfl⟩
  · have h1 : ((0 : Int) != M.length) = true := bne_iff_ne.2 (by omega)
    have hN : Hid (decide (M.length = 0) = false) := Lib.hid (decide_eq_false hl)
    clear hl
    go_enter Try.func55, Try.ntmps55
    go_wp2_with fail
    refine (len_nil _).mono ?_
    rintro e w1 ⟨rfl, rfl⟩
    go_wp2_with fail
    refine (len_any q M H _ _ h).mono ?_
    rintro e w1 ⟨rfl, rfl⟩
    go_wp2_with fail
    go_ret
    exact ⟨congrArg (fun x => Ending.returned (Value.bool x)) hN.out.symm, rfl⟩
theorem foldl_add (l : List Id) : ∀ acc : List Id, (∀ b, b ∈ l.foldl (fun L a => addL a L) acc ↔ b ∈ l ∨ b ∈ acc) ∧ (l.foldl (fun L a => addL a L) acc).length ≤ acc.length + l.length := by
  induction l with
  | nil => intro acc; exact ⟨by simp, by simp⟩
  | cons x r ih =>
    intro acc
    obtain ⟨h2, h3⟩ := ih (addL x acc)
    have hm : ∀ b, b ∈ addL x acc ↔ b = x ∨ b ∈ acc := fun b => by
      unfold addL
      split
      · rename_i h
        constructor
        · exact .inr
        · rintro (e | e)
          · rw [e]; exact h
          · exact e
      · simp only [List.mem_append, List.mem_singleton]
        exact or_comm
    have hl : (addL x acc).length ≤ acc.length + 1 := by
      unfold addL
      split
      · omega
      · simp
    refine ⟨fun b => ?_, ?_⟩
    · rw [List.foldl_cons, h2, hm, List.mem_cons]
      constructor
      · rintro (e | e | e)
        · exact .inl (.inr e)
        · exact .inl (.inl e)
        · exact .inr e
      · rintro ((e | e) | e)
        · exact .inr (.inl e)
        · exact .inl e
        · exact .inr (.inr e)
    · simp only [List.foldl_cons, List.length_cons]
      omega
theorem dedup_mem (l : List Id) (b : Id) : b ∈ dedup l ↔ b ∈ l := by
  have := (foldl_add l []).1 b
  simpa [dedup] using this
theorem dedup_len (l : List Id) : (dedup l).length ≤ l.length := by
  have := (foldl_add l []).2
  simpa [dedup] using this
theorem sub_len : ∀ (L M : List Id), L.Nodup → (∀ a, a ∈ L → a ∈ M) → L.length ≤ M.length
  | [], _, _, _ => Nat.zero_le _
  | x :: r, M, hn, hs => by
    obtain ⟨h1, h2⟩ := List.nodup_cons.1 hn
    have hx := hs x (List.mem_cons_self ..)
    have := sub_len r (M.erase x) h2 (fun a ha => by
      have hne : a ≠ x := fun e => h1 (e ▸ ha)
      exact (List.mem_erase_of_ne hne).2 (hs a (List.mem_cons_of_mem _ ha)))
    rw [List.length_erase_of_mem hx] at this
    have hpos := List.length_pos_of_mem hx
    simp only [List.length_cons]
    omega
theorem sameSet_iff {L M : List Id} (hL : L.Nodup) (hM : M.Nodup) : sameSet L M = true ↔ ∀ a, a ∈ L ↔ a ∈ M := by
  unfold sameSet
  rw [Bool.and_eq_true, decide_eq_true_eq, List.all_eq_true]
  constructor
  · rintro ⟨h1, h2⟩ a
    refine ⟨fun h => of_decide_eq_true (h2 a h), fun h => ?_⟩
    by_cases hn : a ∈ L
    · exact hn
    · have := sub_len (a :: L) M (List.nodup_cons.2 ⟨hn, hL⟩) (fun b hb => by
        rcases List.mem_cons.1 hb with e | e
        · rw [e]; exact h
        · exact of_decide_eq_true (h2 b e))
      simp only [List.length_cons] at this
      omega
  · intro h
    have h1 := sub_len L M hL (fun a ha => (h a).1 ha)
    have h2 := sub_len M L hM (fun a ha => (h a).2 ha)
    exact ⟨by omega, fun a ha => decide_eq_true ((h a).1 ha)⟩
/-- A list without some ids. -/
def cutAll (l bs : List Id) : List Id := bs.foldl (fun acc x => cutL x acc) l
theorem cutAll_snoc (l bs : List Id) (k : Nat) (h : k < bs.length) : cutAll l (bs.take (k + 1)) = cutL bs[k] (cutAll l (bs.take k)) := by
  unfold cutAll
  rw [List.take_succ_eq_append_getElem h, List.foldl_append]
  rfl
theorem cutAll_facts (bs : List Id) : ∀ l, Rises l → Rises (cutAll l bs) ∧ (∀ a, a ∈ cutAll l bs ↔ a ∈ l ∧ a ∉ bs) ∧ (cutAll l bs).length ≤ l.length := by
  induction bs with
  | nil => intro l h; exact ⟨h, by simp [cutAll], Nat.le_refl _⟩
  | cons x r ih =>
    intro l h
    have h0 : Rises (cutL x l) := List.Pairwise.filter _ h
    obtain ⟨h1, h2, h3⟩ := ih (cutL x l) h0
    refine ⟨h1, fun a => ?_, ?_⟩
    · show a ∈ cutAll (cutL x l) r ↔ _
      rw [h2]
      unfold cutL
      rw [List.mem_filter]
      simp only [decide_eq_true_eq, List.mem_cons, not_or]
      constructor
      · rintro ⟨⟨e1, e2⟩, e3⟩; exact ⟨e1, e2, e3⟩
      · rintro ⟨e1, e2, e3⟩; exact ⟨⟨e1, e2⟩, e3⟩
    · have : (cutL x l).length ≤ l.length := List.length_filter_le ..
      show (cutAll (cutL x l) r).length ≤ _
      omega
set_option maxRecDepth 100000 in
set_option maxHeartbeats 1600000 in
theorem works04 (H : Hp) (fr : List HA) (w : World) (h : St H fr w) : Calls Try.prog 46 #[] w (Res H fr w (.bool true) []) := by
  have h1 := h.row_lit 42 2 3 #[.int .i64 1, .int .i64 2, .int .i64 1, .int .i64 1, .int .i64 1, .int .i64 2] rfl (by decide)
  have en1 := (Env.refl w).alloc (.cells #[.int .i64 1, .int .i64 2, .int .i64 1, .int .i64 1, .int .i64 1, .int .i64 2] 42)
  have hD : dedup [(1, 2), (1, 1), (1, 2)] = [(1, 2), (1, 1)] := by decide +kernel
  have hrise : Rises [((1 : Int), (1 : Int)), (1, 2)] := by
    refine List.Pairwise.cons ?_ (List.Pairwise.cons (by simp) List.Pairwise.nil)
    intro b hb
    simp only [List.mem_singleton] at hb
    subst hb
    decide +kernel
  go_enter Try.func46, Try.ntmps46
  go_wp2_with fail
  refine (setNew_any _ [(1, 2), (1, 1), (1, 2)] _ (h1.row_rw (by omega))).mono ?_
  rintro e w2 he
  obtain ⟨p, rfl, h2, en2⟩ := ResE.lift h1 he
  rw [hD] at h2
  have en2' := en1.trans en2
  go_wp2_with fail
  refine (len_any p _ H _ _ h2).mono ?_
  rintro e w2' ⟨rfl, rfl⟩
  go_wp2_with fail
  refine (list_any p _ H _ _ h2 (by decide)).mono ?_
  rintro e w3 ⟨v3, R3, rfl, h3, en3, hr3, hm3⟩
  obtain rfl : R3 = [(1, 1), (1, 2)] := rises_eq hr3 hrise (fun a => by rw [hm3]; simp [or_comm])
  obtain ⟨A3, n3, c3, rfl, hf3, _, _⟩ := h3.row_form
  obtain rfl : n3 = 2 := by
    have : (idl [((1 : Int), (1 : Int)), (1, 2)]).length = 4 := rfl
    omega
  go_wp2_with fail
  refine (list_any p _ H _ _ h3.drop (by decide)).mono ?_
  rintro e w4 ⟨v4, R4, rfl, h4, en4, hr4, hm4⟩
  obtain rfl : R4 = [(1, 1), (1, 2)] := rises_eq hr4 hrise (fun a => by rw [hm4]; simp [or_comm])
  obtain ⟨A4, n4, c4, rfl, hf4, _, _⟩ := h4.row_form
  obtain rfl : n4 = 2 := by
    have : (idl [((1 : Int), (1 : Int)), (1, 2)]).length = 4 := rfl
    omega
  obtain ⟨b4, o4, rfl, hb4, hc4, _⟩ := h4.row_cells (by omega) (by omega)
  have q1 : w4.cell? ⟨b4, o4, none⟩ = some (.int .i64 1) := hc4 0 _ rfl
  have q2 : w4.cell? ⟨b4, o4 + 1, none⟩ = some (.int .i64 1) := hc4 1 _ rfl
  have hid : idEq 1 1 1 1 = true := rfl
  clear hc4
  go_wp2_with fail
  refine (has_any p [(1, 2), (1, 1)] (1, 2) H _ _ h4.drop).mono ?_
  rintro e w5 ⟨rfl, hb5⟩
  rw [show decide (((1 : Int), (2 : Int)) ∈ [((1 : Int), (2 : Int)), (1, 1)]) = true from by decide +kernel]
  go_wp2_with fail
  go_ret
  exact ⟨rfl, (h4.below hb5).drop.drop.drop, ((en2'.trans en3).trans en4).trans (bel_env hb5)⟩
end Go.Proofs.Ytmdmekdmlkhchaa
