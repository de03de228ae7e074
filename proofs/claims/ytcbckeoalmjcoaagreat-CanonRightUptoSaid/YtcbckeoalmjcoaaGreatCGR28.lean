/- Joined texts: Prem2, Prem3, Prem4. -/
import Derived.Test.YtcbckeoalmjcoaaGreatCGR11
import Derived.Test.YtcbckeoalmjcoaaGreatCGR14
import Derived.Test.YtcbckeoalmjcoaaGreatCGR16
/- The premise: Edge. -/
set_option linter.unusedVariables false
set_option linter.unusedSimpArgs false
namespace Go.Proofs.YtcbckeoalmjcoaaGreat
open Go.RowKit Go.Cw Go.Fl
attribute [local go_sem ↓] eql_id neq_id
/-- What a call that keeps a graph leaves. -/
def GKeep (H : Hp) (p : Nat) (L : List Rc) (fr : List HA) (w : World) (v : Value) (e : Ending) (w' : World) : Prop :=
  ∃ H', Hp.le H H' ∧ St H' (GrA p L :: fr) w' ∧ Env w w' ∧ e = .returned v
def edgeG (l : List Rp) (a b : Id) : Bool := decide (a ∈ pids l) && (decide (b ∈ pids l) && linkR (lookR l a) (lookR l b))
end Go.Proofs.YtcbckeoalmjcoaaGreat

/- The premise: Holds. -/
set_option linter.unusedVariables false
set_option linter.unusedSimpArgs false
namespace Go.Proofs.YtcbckeoalmjcoaaGreat
open Go.RowKit Go.Cw Go.Fl
attribute [local go_sem ↓] eql_id neq_id
def inn (x : Rp) (r : List Rp) (rest : Option (Id × Id)) : Option (Id × Id) := match r.find? (lackR x) with
  | some y => some (x.1, y.1)
  | none => rest
theorem inn_cons (x y : Rp) (r : List Rp) (rest : Option (Id × Id)) : inn x (y :: r) rest = if lackR x y then some (x.1, y.1) else inn x r rest := by
  unfold inn
  rw [List.find?_cons]
  cases lackR x y <;> rfl
/-- The first two that lack an edge. -/
def flk : List Rp → Option (Id × Id)
  | [] => none
  | x :: r => inn x r (flk r)
theorem flk_drop (S : List Rp) (k : Nat) (h : k < S.length) : flk (S.drop k) = inn S[k] (S.drop (k + 1)) (flk (S.drop (k + 1))) := by rw [List.drop_eq_getElem_cons h, flk]
theorem inn_drop (S : List Rp) (x : Rp) (m : Nat) (h : m < S.length) (rest : Option (Id × Id)) : inn x (S.drop m) rest = if lackR x S[m] then some (x.1, S[m].1) else inn x (S.drop (m + 1)) rest := by rw [List.drop_eq_getElem_cons h, inn_cons]
def holdsR (S : List Rp) : Id × Id × Bool := match flk S with
  | some p => (p.1, p.2, false)
  | none => ((0, 0), (0, 0), true)
/-- A graph's records in order. -/
def grS (L : List Rc) : List Rp := (sortL (rids L)).map (lookR (L.map rp))
def HoldRes (H : Hp) (p : Nat) (L : List Rc) (fr : List HA) (w : World) (e : Ending) (w' : World) : Prop :=
  ∃ (H' : Hp) (a b : Id) (ok : Bool), holdsR (grS L) = (a, b, ok) ∧ Hp.le H H' ∧ St H' (GrA p L :: fr) w' ∧ Env w w' ∧ e = .returned (.tuple #[idV a, idV b, .bool ok])
end Go.Proofs.YtcbckeoalmjcoaaGreat

/- The premise: the reference's Holds. -/
set_option linter.unusedVariables false
set_option linter.unusedSimpArgs false
namespace Go.Proofs.YtcbckeoalmjcoaaGreat
open Go.RowKit Go.Cw Go.Fl
attribute [local go_sem ↓] eql_id neq_id
theorem findAt_look (a : Id) : ∀ (l : List Rc) (k : Int), a ∈ rids l → ∃ i, ∃ h : i < l.length, findAt a (rids l) k = k + (i : Int) ∧ l[i].1 = a ∧ rp l[i] = lookR (l.map rp) a
  | [], _, h => by simp [rids] at h
  | x :: r, k, h => by
    by_cases hx : x.1 = a
    · exact ⟨0, by simp, by simp [findAt, hx], hx, by unfold lookR; rw [List.map_cons, List.find?_cons_of_pos (by simpa using hx)]; rfl⟩
    · have h2 : a ∈ rids r := by
        simp only [rids, List.map_cons, List.mem_cons] at h
        exact h.resolve_left (fun e => hx e.symm)
      obtain ⟨i, hi, he, hg, hl⟩ := findAt_look a r (k + 1) h2
      refine ⟨i + 1, by simpa using hi, ?_, by simpa using hg, ?_⟩
      · show (if x.1 = a then k else findAt a (rids r) (k + 1)) = _
        rw [if_neg hx, he]; omega
      · rw [List.getElem_cons_succ, hl]
        unfold lookR
        rw [List.map_cons, List.find?_cons_of_neg (by simpa using hx)]
def RefHoldRes (l : List Rc) (w : World) (e : Ending) (w' : World) : Prop := ∃ (a b : Id) (ok : Bool), holdsR (grS l) = (a, b, ok) ∧ e = .returned (.tuple #[idV a, idV b, .bool ok]) ∧ Below w.heap.size w w'
end Go.Proofs.YtcbckeoalmjcoaaGreat
