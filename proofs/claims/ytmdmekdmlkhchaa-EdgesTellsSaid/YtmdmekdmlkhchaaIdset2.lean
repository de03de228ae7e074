/- Sets of ids: what one has and another one has not; sameness. -/
import Derived.Test.YtmdmekdmlkhchaaIdset
set_option linter.unusedVariables false
set_option linter.unusedSimpArgs false
namespace Go.Proofs.Ytmdmekdmlkhchaa
open Go.RowKit Go.Cw
attribute [local go_sem ↓] eql_id neq_id
theorem ents_split {L : List Id} {pre post : List (Id × Unit)} {p : Id × Unit} (h : ents L = pre ++ p :: post) : ∃ A B, L = A ++ p.1 :: B ∧ pre = ents A ∧ post = ents B := by
  unfold ents at h
  obtain ⟨A, q, rfl, hA, hq⟩ := List.map_eq_append_iff.1 h
  obtain ⟨x, B, rfl, hx, hB⟩ := List.map_eq_cons_iff.1 hq
  exact ⟨A, B, by rw [← hx], hA.symm, hB.symm⟩
theorem wpList_snext {H : Hp} {fr : List HA} {w : World} {g r : Nat} {L left : List Id} {ops : Array Oper} {rest : List Oper} {o : Oper} {a : Act} {Q : Exit → Act → World → Prop}
    (hst : St H (Rg setC g r (ents L) (ents left) :: fr) w) (hg : o.guard = none) (it : Operand) (hop : o.op = Op.next it false) (hit : a.eval it = .pointer (some ⟨r, 0, none⟩))
    (hDone : left = [] → wpList Try.prog ops Q rest (a.put o.dst (.tuple #[.bool false])) w)
    (hMore : ∀ (pre post : List Id) (x : Id) (w' : World), left = pre ++ x :: post → St H (Rg setC g r (ents L) (ents (pre ++ post)) :: fr) w' → Env w w' → (Instr.entry (.pointer (some ⟨r, 0, none⟩))).run Try.prog w' = .ok (.tuple #[.agg #[.int .i64 x.1, .int .i64 x.2], .bool true]) w' →
      wpList Try.prog ops Q rest (a.put o.dst (.tuple #[.bool true, .agg #[.int .i64 x.1, .int .i64 x.2], .bool true])) w') : wpList Try.prog ops Q (o :: rest) a w := by
  refine wpList_mnext hst hg it hop hit (fun h => hDone (by cases left with | nil => rfl | cons x l => simp [ents] at h)) ?_
  intro pre post p w' hl h' en hen
  obtain ⟨A, B, rfl, rfl, rfl⟩ := ents_split hl
  refine hMore A B p.1 w' rfl ?_ en hen
  unfold ents at *
  rw [List.map_append]
  exact h'
theorem rg_left {H : Hp} {fr : List HA} {w : World} {g r : Nat} {L left : List Id} (h : St H (Rg setC g r (ents L) (ents left) :: fr) w) : w.rangeLeft g r = left.length := h.get (fun S hS => by
  obtain ⟨⟨hne, es, clock, since, seen, c0, h1, h2, h3, h4, h5, h6, h7, h8⟩, hS⟩ := hS
  have := congrArg List.length h8
  simp only [List.length_map, ents_len] at this
  simp only [World.rangeLeft, h1, h4]
  simpa using this)
/-- A list that rises. -/
def Rises (l : List Id) : Prop := l.Pairwise (fun a b => idLt a b = true)
theorem idSort_rises {l : List Id} (h : l.Nodup) : Rises (idSort l) := by
  have hs : (idSort l).Pairwise (fun a b => (!(ltOf cmpId) b a) = true) := by
    unfold idSort
    refine List.pairwise_mergeSort (fun a b c h1 h2 => ?_) (fun a b => ?_) l
    · rw [ltOf_id] at *
      simp only [Bool.not_eq_true', idLt_no] at *
      omega
    · rw [ltOf_id, ltOf_id]
      simp only [Bool.or_eq_true, Bool.not_eq_true', idLt_no]
      omega
  have hn : (idSort l).Nodup := (List.mergeSort_perm l _).nodup_iff.2 h
  refine (hs.and hn).imp (fun {a b} hab => ?_)
  obtain ⟨h1, h2⟩ := hab
  rw [ltOf_id] at h1
  simp only [Bool.not_eq_true', idLt_no] at h1
  rw [idLt_iff]
  have : ¬ (a.1 = b.1 ∧ a.2 = b.2) := fun e => h2 (Prod.ext e.1 e.2)
  omega
theorem rises_nodup {l : List Id} (h : Rises l) : l.Nodup := h.imp (fun {a b} hab e => by subst e; rw [idLt_iff] at hab; omega)
/-- Two rising lists with the same members are one. -/
theorem rises_eq : ∀ {l m : List Id}, Rises l → Rises m → (∀ a, a ∈ l ↔ a ∈ m) → l = m
  | [], [], _, _, _ => rfl
  | [], b :: m, _, _, h => by have := (h b).2 (List.mem_cons_self ..); simp at this
  | a :: l, [], _, _, h => by have := (h a).1 (List.mem_cons_self ..); simp at this
  | a :: l, b :: m, hl, hm, h => by
    obtain ⟨l1, l2⟩ := List.pairwise_cons.1 hl
    obtain ⟨m1, m2⟩ := List.pairwise_cons.1 hm
    have hab : a = b := by
      rcases List.mem_cons.1 ((h a).1 (List.mem_cons_self ..)) with e | e
      · exact e
      · rcases List.mem_cons.1 ((h b).2 (List.mem_cons_self ..)) with e' | e'
        · exact e'.symm
        · have x1 := l1 b e'
          have x2 := m1 a e
          rw [idLt_iff] at x1 x2
          omega
    subst hab
    have : l = m := rises_eq l2 m2 (fun x => by
      have := h x
      simp only [List.mem_cons] at this
      constructor
      · intro hx
        rcases this.1 (.inr hx) with e | e
        · subst e
          have := l1 _ hx
          rw [idLt_iff] at this
          omega
        · exact e
      · intro hx
        rcases this.2 (.inr hx) with e | e
        · subst e
          have := m1 _ hx
          rw [idLt_iff] at this
          omega
        · exact e)
    rw [this]
set_option maxRecDepth 100000 in
set_option maxHeartbeats 1600000 in
theorem minus_gen (p : Nat) (L : List Id) (ov : Value) (has : Id → Bool) (H : Hp) (fr : List HA) (w : World) (h : St H (SetA p L :: fr) w) (hL : L.length * 32 ≤ 140737488355328)
    (hO : ∀ (l : List HA) (w' : World) (a : Id), St H (l ++ fr) w' → Calls Try.prog 59 #[ov, .agg #[.int .i64 a.1, .int .i64 a.2]] w' fun e w'' => e = .returned (.bool (has a)) ∧ Below w'.heap.size w' w'') :
    Calls Try.prog 54 #[setP p, ov] w fun e w' => ∃ v R, e = .returned v ∧ St H (Row 42 2 v (idl R) :: SetA p L :: fr) w' ∧ Env w w' ∧ Rises R ∧ ∀ a, a ∈ R ↔ (a ∈ L ∧ has a = false) := by
  have hnd := set_nodup h
  obtain ⟨g, h1⟩ := setOpen h
  have hc : w.cell? ⟨p, 0, none⟩ = some (.map (some g)) := h1.blk_cell 0
  have hl := h1.blk_lt
  go_enter Try.func54, Try.ntmps54
  go_wp2_with (at_range; refine wpList_mrange h1.swap rfl (.tmp 12) rfl Try.underlying150 rfl ?_; intro w2 h2 en2)
  go_frame
  have h3 := (h2.row_nil 42 2)
  generalize w.heap.size = r at *
  go_loopw [5] (fun lv wr => ∃ (out left : List Id), St H (Row 42 2 lv (idl out) :: Rg setC g r (ents L) (ents left) :: Blk p #[.map (some g)] 152 :: fr) wr ∧ Env w wr ∧ Hid ((out ++ left.filter (fun a => !has a)).Perm (L.filter (fun a => !has a)))) (fun _ wr => wr.rangeLeft g r)
  case atStart => exact ⟨[], L, h3, en2, Lib.hid (List.Perm.refl _)⟩
  case round =>
    obtain ⟨out, left, hst, hen, HP⟩ := hrel
    go_wp2_with (at_next; refine wpList_snext hst.swap rfl (.tmp 13) rfl rfl ?_ ?_)
    · intro hl0
      subst hl0
      have hperm : out.Perm (L.filter (fun a => !has a)) := by simpa using HP.out
      have hno : out.Nodup := hperm.nodup_iff.2 (hnd.filter _)
      have hlo : out.length ≤ L.length := by rw [hperm.length_eq]; exact List.length_filter_le ..
      go_wp2_with fail
      refine (identSorted_nodup _ out _ (hst.row_rw (by omega)) hno (by omega)).mono ?_
      rintro e w6 he
      obtain ⟨v, rfl, h6, en6⟩ := ResE.lift hst he
      go_wp2_with fail
      go_ret
      have a1 : St H (Row 42 2 v (idl (idSort out)) :: Rg setC g r (ents L) (ents []) :: Blk p #[.map (some g)] 152 :: fr) w6 := h6.swap.drop
      have a2 := a1.swap.rg_end
      have a3 : St H (Blk p #[.map (some g)] 152 :: Mp setC g (ents L) :: Row 42 2 v (idl (idSort out)) :: fr) w6 := a2.pick 2 (by simp)
      refine ⟨v, idSort out, rfl, (setShut a3).swap, hen.trans en6, idSort_rises hno, fun a => ?_⟩
      rw [show (a ∈ idSort out ↔ a ∈ out) from (List.mergeSort_perm out _).mem_iff, hperm.mem_iff, List.mem_filter]
      simp
    · intro pre post xa xb w5 hleft h5 en5 hent
      obtain ⟨H', hle, h6, hy⟩ := h5.box #[.int .i64 xa, .int .i64 xb] 42
      have hy0 := hy 0 _ rfl
      have hy1 := hy 1 _ rfl
      have en6 := (hen.trans en5).alloc (.cells #[.int .i64 xa, .int .i64 xb] 42)
      have hms := Lib.hid (rg_left hst.swap)
      clear hy
      cases hh : has (xa, xb) with
      | true =>
        have HN : Hid ((out ++ (pre ++ post).filter (fun a => !has a)).Perm (L.filter (fun a => !has a))) := Lib.hid (by
          have := HP.out
          rw [hleft, List.filter_append, List.filter_cons, hh] at this
          simpa [List.filter_append] using this)
        go_wp2_with fail
        generalize w5.heap.size = gb at *
        generalize (w5.alloc (.cells #[.int .i64 xa, .int .i64 xb] 42)) = W at *
        refine (hO [_, _, _] _ (xa, xb) (h6.weaken hle)).mono ?_
        rintro e w7 ⟨rfl, hb7⟩
        rw [hh]
        have h7 := (h6.below hb7).weaken hle
        go_wp2_with fail
        go_roundw
        case rel => exact ⟨out, pre ++ post, h7.swap, en6.trans (bel_env hb7), HN⟩
        case measure => rw [rg_left h7, hms.out, hleft]; simp
      | false =>
        have HN : Hid (((out ++ [(xa, xb)]) ++ (pre ++ post).filter (fun a => !has a)).Perm (L.filter (fun a => !has a))) := Lib.hid (by
          refine List.Perm.trans ?_ HP.out
          rw [hleft, List.filter_append, List.filter_append, List.filter_cons, hh]
          simp only [Bool.not_false, if_true, List.append_assoc, List.singleton_append]
          refine List.Perm.append_left out ?_
          exact (List.perm_middle).symm)
        have hol : (out ++ [(xa, xb)]).length ≤ L.length := by
          have h1 := HN.out.length_eq
          have h2 : (L.filter (fun a => !has a)).length ≤ L.length := List.length_filter_le ..
          rw [List.length_append] at h1
          omega
        rw [List.length_append] at hol
        go_wp2_with fail
        generalize w5.heap.size = gb at *
        generalize (w5.alloc (.cells #[.int .i64 xa, .int .i64 xb] 42)) = W at *
        refine (hO [_, _, _] _ (xa, xb) (h6.weaken hle)).mono ?_
        rintro e w7 ⟨rfl, hb7⟩
        rw [hh]
        have h7 := h6.below hb7
        have x0 := h7.cell hy0
        have x1 := h7.cell hy1
        have xl := World.block_lt_of_cell? _ _ x0
        have h8 := h7.swap
        go_wp2_with (at_builtin; refine wpList_append rfl (.tmp 22) (.tmp 24) 47 47 rfl Try.underlying47 (.inl ⟨_, Try.underlying47⟩) (.agg #[.int .i64 0, .int .i64 0]) 16 info_id rfl (by decide) (by decide) rfl rfl (h8.alloc _) (News.new w7 _ 1 #[.int .i64 xa, .int .i64 xb] rfl (by simp [Value.oneCell'])) ?apB1 ?apK1)
        try case apB1 => first | omega | (simp; omega) | (simp [idl_len]; omega) | skip
        intro v' w9 h9 en9
        go_wp2_with fail
        go_roundw
        case rel => exact ⟨out ++ [(xa, xb)], pre ++ post, by simpa [idl, idc] using h9.weaken hle, ((en6.trans (bel_env hb7)).alloc _).trans en9, HN⟩
        case measure => rw [rg_left h9.swap, hms.out, hleft]; simp
end Go.Proofs.Ytmdmekdmlkhchaa
