/- A bag of assertions, one for each member of a list. -/
import Derived.Test.YtmdmekdmlkhchaaMaps
set_option linter.unusedVariables false
set_option linter.unusedSimpArgs false
set_option linter.unusedSectionVars false
namespace Go.Cw
open Go.RowKit
/-- All that f asserts of the members of a list, apart. -/
def Bag {α : Type} (f : α → HA) : List α → HA
  | [] => Emp
  | x :: r => Star (f x) (Bag f r)
section
variable {α : Type} {f : α → HA} {H : Hp} {w : World}
theorem St.unemp {fr : List HA} (h : St H (Emp :: fr) w) : St H fr w := h.drop
theorem St.bag_out : ∀ (l : List α) (fr : List HA), St H (Bag f l :: fr) w → St H (l.map f ++ fr) w
  | [], fr, h => h.drop
  | x :: r, fr, h => by
    have h1 : St H (f x :: Bag f r :: fr) w := St.openStar h
    have h2 := St.bag_out r (f x :: fr) h1.swap
    exact h2.perm List.perm_middle
theorem St.bag_in : ∀ (l : List α) (fr : List HA), St H (l.map f ++ fr) w → St H (Bag f l :: fr) w
  | [], fr, h => h.emp
  | x :: r, fr, h => by
    have h1 : St H (r.map f ++ f x :: fr) w := h.perm List.perm_middle.symm
    have h2 := St.bag_in r (f x :: fr) h1
    exact St.shutStar h2.swap
theorem St.openMid {A B : HA} {l : List HA} (pre : List HA) (h : St H (pre ++ Star A B :: l) w) : St H (pre ++ A :: B :: l) w :=
  ((h.perm List.perm_middle).openStar).perm (List.perm_middle.trans (List.perm_middle.cons A)).symm
theorem St.shutMid {A B : HA} {l : List HA} (pre : List HA) (h : St H (pre ++ A :: B :: l) w) : St H (pre ++ Star A B :: l) w :=
  ((h.perm (List.perm_middle.trans (List.perm_middle.cons A))).shutStar).perm List.perm_middle.symm
/-- One member out of a bag. -/
theorem St.bag_take {pre post : List α} {x : α} {fr : List HA} (h : St H (Bag f (pre ++ x :: post) :: fr) w) : St H (f x :: Bag f (pre ++ post) :: fr) w := by
  have h1 := St.bag_out _ _ h
  have h2 : St H ((pre ++ post).map f ++ f x :: fr) w := h1.perm (by
    rw [List.map_append, List.map_cons, List.map_append]
    simp only [List.append_assoc, List.cons_append]
    refine List.Perm.append_left _ ?_
    exact List.perm_middle.symm)
  exact (St.bag_in _ _ h2).swap
/-- One member into a bag, at its place. -/
theorem St.bag_put {pre post : List α} {x : α} {fr : List HA} (h : St H (f x :: Bag f (pre ++ post) :: fr) w) : St H (Bag f (pre ++ x :: post) :: fr) w := by
  have h1 := St.bag_out _ _ h.swap
  refine St.bag_in _ _ (h1.perm ?_)
  rw [List.map_append, List.map_append, List.map_cons]
  simp only [List.append_assoc, List.cons_append]
  refine List.Perm.append_left _ ?_
  exact List.perm_middle
end
end Go.Cw
