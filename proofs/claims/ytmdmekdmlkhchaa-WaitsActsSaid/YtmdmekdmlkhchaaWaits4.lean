/- Who waits for whom: plain lemmas of the lists that a Waits holds. -/
import Derived.Test.YtmdmekdmlkhchaaWaits3
set_option linter.unusedVariables false
set_option linter.unusedSimpArgs false
namespace Go.Proofs.Ytmdmekdmlkhchaa
open Go.RowKit Go.Cw
/-- Those that wait for b. -/
def wokenL (b : Id) (Q : List (Id × Id)) : List Id := (Q.filter (fun q => decide (q.2 = b))).map (·.1)
/-- What stays when those that wait for b are woken. -/
def leftL (b : Id) (Q : List (Id × Id)) : List (Id × Id) := Q.filter (fun q => decide (q.2 ≠ b))
/-- What stays without some ids. -/
def delsL (R : List Id) (Q : List (Id × Id)) : List (Id × Id) := Q.filter (fun q => decide (q.1 ∉ R))
theorem delsL_nil (Q : List (Id × Id)) : delsL [] Q = Q := List.filter_eq_self.2 (fun q _ => by simp)
theorem delsL_snoc (R : List Id) (Q : List (Id × Id)) (k : Nat) (h : k < R.length) : mdel R[k] (delsL (R.take k) Q) = delsL (R.take (k + 1)) Q := by
  unfold mdel delsL
  rw [List.filter_filter]
  refine List.filter_congr (fun q _ => ?_)
  rw [List.take_succ_eq_append_getElem h]
  simp only [List.mem_append, List.mem_singleton, not_or, ← Bool.decide_and]
  exact decide_eq_decide.2 and_comm
theorem wokenL_mem {b : Id} {Q : List (Id × Id)} {a : Id} : a ∈ wokenL b Q ↔ (a, b) ∈ Q := by
  unfold wokenL
  simp only [List.mem_map, List.mem_filter, decide_eq_true_eq]
  constructor
  · rintro ⟨⟨x, y⟩, ⟨h1, h2⟩, h3⟩
    simp only at h2 h3
    subst h2; subst h3; exact h1
  · intro h
    exact ⟨(a, b), ⟨h, rfl⟩, rfl⟩
theorem nodup_fst {Q : List (Id × Id)} (h : (Q.map (·.1)).Nodup) : ∀ {a b c : Id}, (a, b) ∈ Q → (a, c) ∈ Q → b = c := by
  induction Q with
  | nil => intro a b c h1; simp at h1
  | cons x r ih =>
    rw [List.map_cons, List.nodup_cons] at h
    intro a b c h1 h2
    rcases List.mem_cons.1 h1 with e1 | h1 <;> rcases List.mem_cons.1 h2 with e2 | h2
    · exact (Prod.mk.inj (e1.trans e2.symm)).2
    · exact absurd (List.mem_map.2 ⟨(a, c), h2, (congrArg Prod.fst e1 : a = x.1)⟩) h.1
    · exact absurd (List.mem_map.2 ⟨(a, b), h1, (congrArg Prod.fst e2 : a = x.1)⟩) h.1
    · exact ih h.2 h1 h2
theorem delsL_woken (b : Id) (Q : List (Id × Id)) (h : (Q.map (·.1)).Nodup) : delsL (wokenL b Q) Q = leftL b Q := by
  unfold delsL leftL
  refine List.filter_congr (fun q hq => decide_eq_decide.2 (not_congr ?_))
  rw [wokenL_mem]
  constructor
  · intro h1
    exact nodup_fst h (a := q.1) hq h1
  · intro h1
    subst h1
    exact hq
/-- What is kept of those that wait for each. -/
def WI (on : List (Id × Id)) (WL : List (Id × Value × List Id)) : Prop :=
  (∀ x ∈ WL, x.2.2 = wokenL x.1 on ∧ x.2.2 ≠ []) ∧ ∀ q ∈ on, q.2 ∈ WL.map (·.1)
theorem WI.none {on : List (Id × Id)} {WL : List (Id × Value × List Id)} (h : WI on WL) {b : Id} (hb : b ∉ WL.map (·.1)) : wokenL b on = [] := by
  cases hw : wokenL b on with
  | nil => rfl
  | cons a r =>
    have : a ∈ wokenL b on := by rw [hw]; exact List.mem_cons_self ..
    exact absurd (h.2 _ (wokenL_mem.1 this)) hb
theorem wokenL_snoc (b : Id) (Q : List (Id × Id)) (q : Id × Id) : wokenL b (Q ++ [q]) = if q.2 = b then wokenL b Q ++ [q.1] else wokenL b Q := by
  unfold wokenL
  by_cases h : q.2 = b <;> simp [h]
theorem leftL_snoc (b : Id) (Q : List (Id × Id)) (q : Id × Id) : leftL b (Q ++ [q]) = if q.2 = b then leftL b Q else leftL b Q ++ [q] := by
  unfold leftL
  by_cases h : q.2 = b <;> simp [h]
theorem WI.keys {on : List (Id × Id)} {WL : List (Id × Value × List Id)} (h : WI on WL) (b : Id) : b ∈ WL.map (·.1) ↔ b ∈ on.map (·.2) := by
  constructor
  · intro hb
    obtain ⟨x, hx, rfl⟩ := List.mem_map.1 hb
    obtain ⟨h1, h2⟩ := h.1 x hx
    cases hR : x.2.2 with
    | nil => exact absurd hR h2
    | cons a r =>
      have : a ∈ wokenL x.1 on := by rw [← h1, hR]; exact List.mem_cons_self ..
      exact List.mem_map.2 ⟨(a, x.1), wokenL_mem.1 this, rfl⟩
  · intro hb
    obtain ⟨q, hq, rfl⟩ := List.mem_map.1 hb
    exact h.2 q hq
theorem WI.park_in {on : List (Id × Id)} {pre post : List (Id × Value × List Id)} {a b : Id} {v v' : Value} {R : List Id} (hn : ((pre ++ (b, v, R) :: post).map (·.1)).Nodup) (h : WI on (pre ++ (b, v, R) :: post)) :
    WI (on ++ [(a, b)]) (pre ++ (b, v', R ++ [a]) :: post) := by
  have hR := (h.1 (b, v, R) (by simp)).1
  simp only at hR
  have hne : ∀ x, x ∈ pre ∨ x ∈ post → b ≠ x.1 := by
    intro x hx e
    rw [List.map_append, List.map_cons, List.nodup_append, List.nodup_cons] at hn
    rcases hx with hx | hx
    · exact hn.2.2 _ (List.mem_map.2 ⟨x, hx, rfl⟩) _ (List.mem_cons_self ..) e.symm
    · exact hn.2.1.1 (List.mem_map.2 ⟨x, hx, e.symm⟩)
  refine ⟨fun x hx => ?_, fun q hq => ?_⟩
  · rw [wokenL_snoc]
    rcases List.mem_append.1 hx with hx | hx
    · rw [if_neg (hne x (.inl hx))]
      exact h.1 x (List.mem_append.2 (.inl hx))
    · rcases List.mem_cons.1 hx with rfl | hx
      · simp only [if_pos]
        exact ⟨by rw [hR], by simp⟩
      · rw [if_neg (hne x (.inr hx))]
        exact h.1 x (List.mem_append.2 (.inr (List.mem_cons_of_mem _ hx)))
  · rcases List.mem_append.1 hq with hq | hq
    · have := h.2 q hq
      simpa using this
    · rw [List.mem_singleton] at hq
      subst hq
      simp
theorem WI.park_new {on : List (Id × Id)} {WL : List (Id × Value × List Id)} {a b : Id} {v' : Value} (hb : b ∉ WL.map (·.1)) (h : WI on WL) : WI (on ++ [(a, b)]) (WL ++ [(b, v', [a])]) := by
  refine ⟨fun x hx => ?_, fun q hq => ?_⟩
  · rw [wokenL_snoc]
    rcases List.mem_append.1 hx with hx | hx
    · rw [if_neg (fun e => hb (List.mem_map.2 ⟨x, hx, e.symm⟩))]
      exact h.1 x hx
    · rw [List.mem_singleton] at hx
      subst hx
      simp only [if_pos]
      exact ⟨by rw [h.none hb]; rfl, by simp⟩
  · rw [List.map_append]
    rcases List.mem_append.1 hq with hq | hq
    · exact List.mem_append.2 (.inl (h.2 q hq))
    · rw [List.mem_singleton] at hq
      subst hq
      simp
theorem leftL_mem {b : Id} {Q : List (Id × Id)} {q : Id × Id} : q ∈ leftL b Q ↔ q ∈ Q ∧ q.2 ≠ b := by
  unfold leftL
  simp [List.mem_filter]
theorem wokenL_left {b c : Id} (Q : List (Id × Id)) (h : c ≠ b) : wokenL c (leftL b Q) = wokenL c Q := by
  unfold wokenL leftL
  rw [List.filter_filter]
  congr 1
  refine List.filter_congr (fun q _ => ?_)
  by_cases h1 : q.2 = c
  · simp [h1, h]
  · simp [h1]
theorem WI.wake_in {on : List (Id × Id)} {pre post : List (Id × Value × List Id)} {b : Id} {v : Value} {R : List Id} (hn : ((pre ++ (b, v, R) :: post).map (·.1)).Nodup) (h : WI on (pre ++ (b, v, R) :: post)) : WI (leftL b on) (pre ++ post) := by
  have hne : ∀ x, x ∈ pre ++ post → x.1 ≠ b := by
    intro x hx e
    rw [List.map_append, List.map_cons, List.nodup_append, List.nodup_cons] at hn
    rcases List.mem_append.1 hx with hx | hx
    · exact hn.2.2 _ (List.mem_map.2 ⟨x, hx, rfl⟩) _ (List.mem_cons_self ..) e
    · exact hn.2.1.1 (List.mem_map.2 ⟨x, hx, e⟩)
  refine ⟨fun x hx => ?_, fun q hq => ?_⟩
  · rw [wokenL_left _ (hne x hx)]
    refine h.1 x ?_
    rcases List.mem_append.1 hx with hx | hx
    · exact List.mem_append.2 (.inl hx)
    · exact List.mem_append.2 (.inr (List.mem_cons_of_mem _ hx))
  · obtain ⟨h1, h2⟩ := leftL_mem.1 hq
    have h3 := h.2 q h1
    rw [List.map_append, List.map_cons] at h3
    rw [List.map_append]
    rcases List.mem_append.1 h3 with h3 | h3
    · exact List.mem_append.2 (.inl h3)
    · rcases List.mem_cons.1 h3 with h3 | h3
      · exact absurd h3 h2
      · exact List.mem_append.2 (.inr h3)
theorem leftL_none {b : Id} {Q : List (Id × Id)} (h : wokenL b Q = []) : leftL b Q = Q := List.filter_eq_self.2 (fun q hq => decide_eq_true (fun e => by
  have : q.1 ∈ wokenL b Q := wokenL_mem.2 (e ▸ hq)
  rw [h] at this
  simp at this))
theorem mlook_split {ν : Type} (pre post : List (Id × ν)) (b : Id) (v : ν) (h : b ∉ pre.map (·.1)) : mlook b (pre ++ (b, v) :: post) = some v := by
  induction pre with
  | nil => simp [mlook]
  | cons x r ih =>
    rw [List.map_cons, List.mem_cons, not_or] at h
    rw [List.cons_append, mlook, if_neg (fun e => h.1 e.symm)]
    exact ih h.2
theorem mput_split {ν : Type} (pre post : List (Id × ν)) (b : Id) (v v' : ν) (h : b ∉ pre.map (·.1)) (h' : b ∉ post.map (·.1)) : mput b v' (pre ++ (b, v) :: post) = pre ++ (b, v') :: post := by
  unfold mput
  rw [if_pos (by simp)]
  rw [List.map_append, List.map_cons, if_pos rfl]
  congr 1
  · refine (List.map_congr_left (fun q hq => ?_)).trans (List.map_id' pre)
    rw [if_neg (fun e => h (List.mem_map.2 ⟨q, hq, e⟩))]
  · congr 1
    refine (List.map_congr_left (fun q hq => ?_)).trans (List.map_id' post)
    rw [if_neg (fun e => h' (List.mem_map.2 ⟨q, hq, e⟩))]
theorem mput_new {ν : Type} (l : List (Id × ν)) (b : Id) (v' : ν) (h : b ∉ l.map (·.1)) : mput b v' l = l ++ [(b, v')] := by
  unfold mput
  rw [if_neg h]
theorem mens_in {ν : Type} (l : List (Id × ν)) (b : Id) (z : ν) (h : b ∈ l.map (·.1)) : mens b z l = l := if_pos h
theorem mens_new {ν : Type} (l : List (Id × ν)) (b : Id) (z : ν) (h : b ∉ l.map (·.1)) : mens b z l = l ++ [(b, z)] := if_neg h
theorem mdel_split {ν : Type} (pre post : List (Id × ν)) (b : Id) (v : ν) (h : b ∉ pre.map (·.1)) (h' : b ∉ post.map (·.1)) : mdel b (pre ++ (b, v) :: post) = pre ++ post := by
  unfold mdel
  rw [List.filter_append, List.filter_cons, if_neg (by simp)]
  congr 1
  · exact List.filter_eq_self.2 (fun q hq => decide_eq_true (fun e => h (List.mem_map.2 ⟨q, hq, e⟩)))
  · exact List.filter_eq_self.2 (fun q hq => decide_eq_true (fun e => h' (List.mem_map.2 ⟨q, hq, e⟩)))
theorem mdel_none {ν : Type} (l : List (Id × ν)) (b : Id) (h : b ∉ l.map (·.1)) : mdel b l = l := List.filter_eq_self.2 (fun q hq => decide_eq_true (fun e => h (List.mem_map.2 ⟨q, hq, e⟩)))
theorem split_apart {ν : Type} {pre post : List (Id × ν)} {b : Id} {v : ν} (hn : ((pre ++ (b, v) :: post).map (·.1)).Nodup) : b ∉ pre.map (·.1) ∧ b ∉ post.map (·.1) := by
  rw [List.map_append, List.map_cons, List.nodup_append, List.nodup_cons] at hn
  exact ⟨fun h => hn.2.2 _ h _ (List.mem_cons_self ..) rfl, hn.2.1.1⟩
/-- Who waits for whom. -/
def WaI (p : Nat) (on : List (Id × Id)) : HA := Ex fun WL => Pu (WI on WL) (WaA p on WL)
theorem waI_open {H : Hp} {fr : List HA} {w : World} {p : Nat} {on : List (Id × Id)} (h : St H (WaI p on :: fr) w) : ∃ WL, WI on WL ∧ St H (WaA p on WL :: fr) w := by
  obtain ⟨WL, h1⟩ := h.openEx
  exact ⟨WL, h1.openPu⟩
theorem waI_shut {H : Hp} {fr : List HA} {w : World} {p : Nat} {on : List (Id × Id)} {WL : List (Id × Value × List Id)} (hw : WI on WL) (h : St H (WaA p on WL :: fr) w) : St H (WaI p on :: fr) w := St.shutEx WL (h.shutPu hw)
theorem waI_nodup {H : Hp} {fr : List HA} {w : World} {p : Nat} {on : List (Id × Id)} (h : St H (WaI p on :: fr) w) : (on.map (·.1)).Nodup := by
  obtain ⟨WL, hw, h1⟩ := waI_open h
  obtain ⟨g1, g2, h2⟩ := waOpen h1
  exact h2.swap.mp_nodup
end Go.Proofs.Ytmdmekdmlkhchaa
