/- The law WaitsActs: walked. -/
import Derived.Test.YtmdmekdmlkhchaaWaitsLaw
set_option linter.unusedVariables false
set_option linter.unusedSimpArgs false
namespace Go.Proofs.Ytmdmekdmlkhchaa
open Go.RowKit Go.Cw
attribute [local go_sem ↓] eql_id neq_id
abbrev WAct := Bool × Id × Id
def wac (x : WAct) : List Value := [.bool x.1, .int .i64 x.2.1.1, .int .i64 x.2.1.2, .int .i64 x.2.2.1, .int .i64 x.2.2.2]
def wacs (l : List WAct) : List Value := l.flatMap wac
theorem wacs_len (l : List WAct) : (wacs l).length = l.length * 5 := flat_len wac 5 (fun _ => rfl) l
theorem wacs_get (l : List WAct) (k : Nat) (h : k < l.length) : (wacs l)[k * 5]? = some (.bool l[k].1) ∧ (wacs l)[k * 5 + 1]? = some (.int .i64 l[k].2.1.1) ∧ (wacs l)[k * 5 + 2]? = some (.int .i64 l[k].2.1.2) ∧ (wacs l)[k * 5 + 3]? = some (.int .i64 l[k].2.2.1) ∧ (wacs l)[k * 5 + 4]? = some (.int .i64 l[k].2.2.2) := by
  have := fun i hi => flat_get wac 5 (fun _ => rfl) l k i h hi
  exact ⟨this 0 (by omega), this 1 (by omega), this 2 (by omega), this 3 (by omega), this 4 (by omega)⟩
/-- The last one that an id has. -/
def lastL (a : Id) (l : List (Id × Id)) : Id := ((l.filter (fun q => decide (q.1 = a))).map (·.2)).getLastD (0, 0)
theorem lastL_snoc (a : Id) (l : List (Id × Id)) (q : Id × Id) : lastL a (l ++ [q]) = if q.1 = a then q.2 else lastL a l := by
  unfold lastL
  by_cases h : q.1 = a
  · rw [if_pos h, List.filter_append, List.map_append]
    simp [h]
  · rw [if_neg h, List.filter_append]
    simp [h]
theorem lastL_eq (a : Id) : ∀ (l : List (Id × Id)), (l.map (·.1)).Nodup → lastL a l = onL a l
  | [], _ => rfl
  | x :: r, h => by
    rw [List.map_cons, List.nodup_cons] at h
    have ih := lastL_eq a r h.2
    unfold lastL onL at *
    by_cases e : x.1 = a
    · have hf : r.filter (fun q => decide (q.1 = a)) = [] := List.filter_eq_nil_iff.2 (fun q hq hd => h.1 (List.mem_map.2 ⟨q, hq, (of_decide_eq_true hd).trans e.symm⟩))
      rw [List.filter_cons, if_pos (decide_eq_true e), hf, mlook, if_pos e]
      rfl
    · rw [List.filter_cons, if_neg (by simp [e]), mlook, if_neg e]
      exact ih
/-- Does an id wait? -/
def memK (a : Id) (l : List (Id × Id)) : Bool := decide (a ∈ l.map (·.1))
theorem memK_yes {a : Id} {l : List (Id × Id)} {q : Id × Id} (h : q.1 = a) : memK a (l ++ [q]) = true := decide_eq_true (by rw [List.map_append, List.mem_append]; right; simp [h])
theorem memK_no {a : Id} {l : List (Id × Id)} {q : Id × Id} (h : ¬ q.1 = a) : memK a (l ++ [q]) = memK a l := decide_eq_decide.2 (by
  rw [List.map_append, List.mem_append]
  constructor
  · rintro (h1 | h1)
    · exact h1
    · simp at h1
      exact absurd h1.symm h
  · exact .inl)
theorem take_snoc {α : Type} (l : List α) (k : Nat) (h : k < l.length) : l.take (k + 1) = l.take k ++ [l[k]] := List.take_succ_eq_append_getElem h
theorem News.idAt {H : Hp} {l : List HA} {w : World} (hst : St H l w) (g : Nat) (a : Id) (h0 : H.cell g 0 = some (.int .i64 a.1)) (h1 : H.cell g 1 = some (.int .i64 a.2)) : News Try.prog w 2 (.slice (some ⟨g, 0, none⟩) 1 1) 1 [.int .i64 a.1, .int .i64 a.2] :=
  News.slice rfl (fun _ => ⟨_, rfl, fun j u hj => by
    rw [add_lit]
    match j with
    | 0 => simp at hj; subst hj; exact hst.cell h0
    | 1 => simp at hj; subst hj; exact hst.cell h1
    | j + 2 => simp at hj⟩) (by simp [Value.oneCell'])
theorem idl_snoc (l : List Id) (a : Id) : idl (l ++ [a]) = idl l ++ [.int .i64 a.1, .int .i64 a.2] := by simp [idl, idc]
abbrev idB (a : Id) : Obj := .cells #[.int .i64 a.1, .int .i64 a.2] 42
/-- append of one id, run. -/
theorem app1 {H : Hp} {fr : List HA} {w : World} {v : Value} {L : List Id} (h : St H (Row 42 2 v (idl L) :: fr) w) (g : Nat) (a : Id) {H' : Hp} (h' : St H' (Row 42 2 v (idl L) :: fr) w) (h0 : H'.cell g 0 = some (.int .i64 a.1)) (h1 : H'.cell g 1 = some (.int .i64 a.2)) (hL : L.length * 16 + 16 ≤ 140737488355328) :
    ∃ v' w', (Builtin.append_ #[47, 47] 47 #[v, .slice (some ⟨g, 0, none⟩) 1 1]).run Try.prog w = .ok v' w' ∧ St H' (Row 42 2 v' (idl (L ++ [a])) :: fr) w' ∧ Env w w' := by
  obtain ⟨v', w', hr, h2, en⟩ := h'.append_run 47 47 47 (.agg #[.int .i64 0, .int .i64 0]) 16 Try.underlying47 (.inl ⟨_, Try.underlying47⟩) info_id rfl (by decide) (News.idAt h' g a h0 h1) (by rw [idl_len]; simp; omega) (by decide)
  exact ⟨v', w', hr, by rw [idl_snoc]; exact h2, en⟩
/-- Two appends of one id each, in the order of the text; the literals' blocks are laid in some order. -/
theorem app2 {H : Hp} {fr : List HA} {w : World} {u v : Value} {L M : List Id} (h : St H (Row 42 2 u (idl L) :: Row 42 2 v (idl M) :: fr) w) (a b : Id) (hL : L.length * 16 + 16 ≤ 140737488355328) (hM : M.length * 16 + 16 ≤ 140737488355328) :
    (∃ u' w1 v' w2, (Builtin.append_ #[47, 47] 47 #[u, .slice (some ⟨w.heap.size, 0, none⟩) 1 1]).run Try.prog (w.alloc (idB a)) = .ok u' w1 ∧ St H (Row 42 2 u' (idl (L ++ [a])) :: Row 42 2 v (idl M) :: fr) w1 ∧
      (Builtin.append_ #[47, 47] 47 #[v, .slice (some ⟨w1.heap.size, 0, none⟩) 1 1]).run Try.prog (w1.alloc (idB b)) = .ok v' w2 ∧ St H (Row 42 2 u' (idl (L ++ [a])) :: Row 42 2 v' (idl (M ++ [b])) :: fr) w2 ∧ Env w w2) ∧
    (∃ u' w1 v' w2, (Builtin.append_ #[47, 47] 47 #[u, .slice (some ⟨w.heap.size, 0, none⟩) 1 1]).run Try.prog ((w.alloc (idB a)).alloc (idB b)) = .ok u' w1 ∧ St H (Row 42 2 u' (idl (L ++ [a])) :: Row 42 2 v (idl M) :: fr) w1 ∧
      (Builtin.append_ #[47, 47] 47 #[v, .slice (some ⟨w.heap.size + 1, 0, none⟩) 1 1]).run Try.prog w1 = .ok v' w2 ∧ St H (Row 42 2 u' (idl (L ++ [a])) :: Row 42 2 v' (idl (M ++ [b])) :: fr) w2 ∧ Env w w2) ∧
    (∃ u' w1 v' w2, (Builtin.append_ #[47, 47] 47 #[u, .slice (some ⟨w.heap.size + 1, 0, none⟩) 1 1]).run Try.prog ((w.alloc (idB b)).alloc (idB a)) = .ok u' w1 ∧ St H (Row 42 2 u' (idl (L ++ [a])) :: Row 42 2 v (idl M) :: fr) w1 ∧
      (Builtin.append_ #[47, 47] 47 #[v, .slice (some ⟨w.heap.size, 0, none⟩) 1 1]).run Try.prog w1 = .ok v' w2 ∧ St H (Row 42 2 u' (idl (L ++ [a])) :: Row 42 2 v' (idl (M ++ [b])) :: fr) w2 ∧ Env w w2) := by
  refine ⟨?_, ?_, ?_⟩
  · obtain ⟨Ha, la, h1, ya⟩ := h.box #[.int .i64 a.1, .int .i64 a.2] 42
    obtain ⟨u', w1, r1, h2, e1⟩ := app1 h1 w.heap.size a h1 (ya 0 _ rfl) (ya 1 _ rfl) hL
    obtain ⟨Hb, lb, h3, yb⟩ := h2.swap.box #[.int .i64 b.1, .int .i64 b.2] 42
    obtain ⟨v', w2, r2, h4, e2⟩ := app1 h3 w1.heap.size b h3 (yb 0 _ rfl) (yb 1 _ rfl) hM
    exact ⟨u', w1, v', w2, r1, h2.weaken la, r2, (h4.swap.weaken lb).weaken la, ((((Env.refl w).alloc _).trans e1).alloc _).trans e2⟩
  · obtain ⟨Ha, la, h1, ya⟩ := h.box #[.int .i64 a.1, .int .i64 a.2] 42
    obtain ⟨Hb, lb, h3, yb⟩ := h1.box #[.int .i64 b.1, .int .i64 b.2] 42
    have hs : (w.alloc (.cells #[.int .i64 a.1, .int .i64 a.2] 42)).heap.size = w.heap.size + 1 := by simp
    rw [hs] at yb
    obtain ⟨u', w1, r1, h2, e1⟩ := app1 h3 w.heap.size a h3 (Hp.cell_le lb (ya 0 _ rfl)) (Hp.cell_le lb (ya 1 _ rfl)) hL
    obtain ⟨v', w2, r2, h4, e2⟩ := app1 h2.swap (w.heap.size + 1) b h2.swap (yb 0 _ rfl) (yb 1 _ rfl) hM
    exact ⟨u', w1, v', w2, r1, (h2.weaken lb).weaken la, r2, (h4.swap.weaken lb).weaken la, ((((Env.refl w).alloc _).alloc _).trans e1).trans e2⟩
  · obtain ⟨Hb, lb, h1, yb⟩ := h.box #[.int .i64 b.1, .int .i64 b.2] 42
    obtain ⟨Ha, la, h3, ya⟩ := h1.box #[.int .i64 a.1, .int .i64 a.2] 42
    have hs : (w.alloc (.cells #[.int .i64 b.1, .int .i64 b.2] 42)).heap.size = w.heap.size + 1 := by simp
    rw [hs] at ya
    obtain ⟨u', w1, r1, h2, e1⟩ := app1 h3 (w.heap.size + 1) a h3 (ya 0 _ rfl) (ya 1 _ rfl) hL
    obtain ⟨v', w2, r2, h4, e2⟩ := app1 h2.swap w.heap.size b h2.swap (Hp.cell_le la (yb 0 _ rfl)) (Hp.cell_le la (yb 1 _ rfl)) hM
    exact ⟨u', w1, v', w2, r1, (h2.weaken la).weaken lb, r2, (h4.swap.weaken la).weaken lb, ((((Env.refl w).alloc _).alloc _).trans e1).trans e2⟩
end Go.Proofs.Ytmdmekdmlkhchaa
