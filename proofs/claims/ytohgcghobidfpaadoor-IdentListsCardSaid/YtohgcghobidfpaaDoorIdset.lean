/- Sets of ids: contracts of the package idset. -/
import Derived.Test.YtohgcghobidfpaaDoorIdent
import Derived.Test.YtohgcghobidfpaaDoorMaps
import Derived.Test.YtohgcghobidfpaaDoorFloat
set_option linter.unusedVariables false
set_option linter.unusedSimpArgs false
namespace Go.Proofs.YtohgcghobidfpaaDoor
open Go.RowKit Go.Cw
attribute [local go_sem ↓] eql_id neq_id

theorem equal_id (a b c d : Int) (w : World) : (Op.equal 23 (.agg #[.int .i64 a, .int .i64 b]) (.agg #[.int .i64 c, .int .i64 d])).run Tryd.prog w = .ok (idEq a b c d) w := by
  have h := eql_id a b c d w
  have h2 : (binOp .eql 23 (.agg #[.int .i64 a, .int .i64 b]) (.agg #[.int .i64 c, .int .i64 d])).run Tryd.prog w = ((Op.equal 23 (.agg #[.int .i64 a, .int .i64 b]) (.agg #[.int .i64 c, .int .i64 d])).run Tryd.prog w).andThen fun b w' => .ok (.bool b) w' := run_eql_struct ..
  rw [h2] at h
  cases hr : (Op.equal 23 (.agg #[.int .i64 a, .int .i64 b]) (.agg #[.int .i64 c, .int .i64 d])).run Tryd.prog w <;> rw [hr] at h <;> simp [Result.andThen] at h
  obtain ⟨rfl, rfl⟩ := h
  rfl
theorem asking_id (a : Id) (w : World) : ∀ (es : List MapEntry) (i : Nat), (∀ e ∈ es, ∃ b : Id, e.key = idV b) →
    ((Instr.findAsking 23 (idV a) es i).run Tryd.prog w = .ok none w ∧ ∀ e ∈ es, e.key ≠ idV a) ∨
    ∃ j e, (Instr.findAsking 23 (idV a) es i).run Tryd.prog w = .ok (some (i + j, e.val)) w ∧ es[j]? = some e ∧ e.key = idV a
  | [], i, _ => .inl ⟨rfl, fun _ h => by simp at h⟩
  | e :: es, i, h => by
    obtain ⟨b, hb⟩ := h e (List.mem_cons_self ..)
    have hq := equal_id a.1 a.2 b.1 b.2 w
    by_cases hab : a = b
    · subst hab
      refine .inr ⟨0, e, ?_, rfl, hb⟩
      rw [(idEq_iff (a := a) (b := a)).2 rfl] at hq
      simp [Instr.findAsking, hb, idV, hq, Result.andThen]
    · have hne : idEq a.1 a.2 b.1 b.2 = false := by
        cases hh : idEq a.1 a.2 b.1 b.2 with
        | false => rfl
        | true => exact absurd (idEq_iff.1 hh) hab
      rw [hne] at hq
      have hk : e.key ≠ idV a := by
        rw [hb]
        intro he
        simp only [idV, Value.agg.injEq] at he
        have h1 := congrArg Array.toList he
        simp at h1
        exact hab (Prod.ext h1.1.symm h1.2.symm)
      have hstep : (Instr.findAsking 23 (idV a) (e :: es) i).run Tryd.prog w = (Instr.findAsking 23 (idV a) es (i + 1)).run Tryd.prog w := by
        simp [Instr.findAsking, hb, idV, hq, Result.andThen]
      rw [hstep]
      rcases asking_id a w es (i + 1) (fun x hx => h x (List.mem_cons_of_mem _ hx)) with ⟨h1, h2⟩ | ⟨j, x, h1, h2, h3⟩
      · exact .inl ⟨h1, fun x hx => by
          rcases List.mem_cons.1 hx with rfl | hx
          · exact hk
          · exact h2 x hx⟩
      · exact .inr ⟨j + 1, x, by rw [h1, show i + 1 + j = i + (j + 1) by omega], h2, h3⟩
set_option maxRecDepth 100000 in
theorem find_id (a : Id) (w : World) (es : List MapEntry) : (Instr.findKey 23 (idV a) es).run Tryd.prog w = (Instr.findAsking 23 (idV a) es 0).run Tryd.prog w := by
  have hS : Tryd.prog.underlying 23 = some (.struct (Tryd.prog.fieldsOf 23)) := by kernel_rfl
  cases es with
  | nil => simp [Instr.findKey, run_underlying hS, Instr.findNow, Instr.findAsking, Result.andThen]
  | cons e es =>
    have : Instr.sameNow (.struct (Tryd.prog.fieldsOf 23)) (idV a) e.key = none := by unfold Instr.sameNow; rfl
    simp [Instr.findKey, run_underlying hS, Instr.findNow, this, Result.andThen]
set_option maxRecDepth 100000 in
theorem kinds_id : Kinds Tryd.prog 23 (fun v => ∃ a : Id, v = idV a) where
  check := by
    rintro w em v ⟨a, rfl⟩
    kernel_rfl
  find := by
    rintro w x ⟨a, rfl⟩ es hes
    rw [find_id]
    rcases asking_id a w es 0 hes with h | ⟨j, e, h1, h2, h3⟩
    · exact .inl h
    · exact .inr ⟨j, e, by rw [h1, Nat.zero_add], h2, h3⟩
  stays := by
    rintro w v ⟨a, rfl⟩
    simp [Instr.keyThatStays, Instr.sameBits, idV]
/-- The codes of a map from ids to truths that are all true. -/
def setC : Go.Cw.Code Tryd.prog 23 Id Unit where
  kv := idV
  vv := fun _ => .bool true
  inj := by
    intro a b h
    simp only [idV, Value.agg.injEq] at h
    have h1 := congrArg Array.toList h
    simp at h1
    exact Prod.ext h1.1 h1.2
  kinds := kinds_id
/-- The entries of a set. -/
def ents (L : List Id) : List (Id × Unit) := L.map (fun a => (a, ()))
theorem ents_keys (L : List Id) : (ents L).map (·.1) = L := by unfold ents; rw [List.map_map]; exact List.map_id' L
theorem ents_len (L : List Id) : (ents L).length = L.length := by simp [ents]
theorem ents_look (L : List Id) (a : Id) : setC.at_ (.bool false) false (mlook a (ents L)) = .bool (decide (a ∈ L)) := by
  by_cases h : a ∈ L
  · have : ∀ (M : List Id), a ∈ M → mlook a (ents M) = some () := by
      intro M
      induction M with
      | nil => intro h; simp at h
      | cons b M ih =>
        intro h
        show (if b = a then some () else mlook a (ents M)) = some ()
        by_cases hb : b = a
        · rw [if_pos hb]
        · rw [if_neg hb]
          exact ih (by rcases List.mem_cons.1 h with e | e; exact absurd e.symm hb; exact e)
    rw [this L h, decide_eq_true h]
    rfl
  · rw [lookup_none (by rw [ents_keys]; exact h), decide_eq_false h]
    rfl
/-- A set with one more id. -/
def addL (a : Id) (L : List Id) : List Id := if a ∈ L then L else L ++ [a]
theorem ents_put (L : List Id) (a : Id) : mput a () (ents L) = ents (addL a L) := by
  unfold mput addL
  rw [ents_keys]
  split
  · unfold ents
    rw [List.map_map]
    refine List.map_congr_left (fun b _ => ?_)
    show (if b = a then (a, ()) else (b, ())) = (b, ())
    split
    · rename_i h; rw [h]
    · rfl
  · simp [ents]
/-- A set without an id. -/
def cutL (a : Id) (L : List Id) : List Id := L.filter (fun b => decide (b ≠ a))
theorem ents_del (L : List Id) (a : Id) : mdel a (ents L) = ents (cutL a L) := by
  unfold mdel cutL ents
  rw [List.filter_map]
  rfl
abbrev setP (p : Nat) : Value := .pointer (some ⟨p, 0, none⟩)
theorem zero_bool (w : World) : (zeroValue 4).run Tryd.prog w = .ok (.bool false) w := by kernel_rfl
theorem boxBelow (w : World) (o : Obj) : Below w.heap.size w (w.alloc o) := (Below.refl _ _).alloc (Nat.le_refl _) _
/-- The set of a list's ids. -/
def dedup (l : List Id) : List Id := l.foldl (fun L a => addL a L) []
theorem dedup_snoc (l : List Id) (k : Nat) (h : k < l.length) : dedup (l.take (k + 1)) = addL l[k] (dedup (l.take k)) := by
  unfold dedup
  rw [List.take_succ_eq_append_getElem h, List.foldl_append]
  rfl
end Go.Proofs.YtohgcghobidfpaaDoor
