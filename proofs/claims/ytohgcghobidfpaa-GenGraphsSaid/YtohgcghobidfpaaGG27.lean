/- Joined texts: Reach2, Reach3. -/
import Derived.Test.YtohgcghobidfpaaGG26
/- A range over what some ids reach: the statement's law; reach.each. -/
set_option linter.unusedVariables false
set_option linter.unusedSimpArgs false
namespace Go.Proofs.Ytohgcghobidfpaa
open Go.RowKit Go.Cw Go.Fl
attribute [local go_sem ↓] eql_id neq_id
attribute [local go_sem] Oper.semAt_some
attribute [local go_sem] wide_fn wide_fnR wide_dp wide_dpR wide_rd wide_rdR
/-- How a round's body may be left. -/
def LeftR (G : HA) (E : List Id → HA) (Ec : Code → List Id → HA) (H : Hp) (fr : List HA) (xs : List Id) (W : World) (e : Exit) (_ : Act) (W' : World) : Prop :=
  match e with
  | .normal => ∃ H', Hp.le H H' ∧ Env W W' ∧ St H' (G :: E xs :: fr) W'
  | .ret => ∃ H', Hp.le H H' ∧ Env W W' ∧ St H' (G :: Ec .ret xs :: fr) W'
  | .exit id => ∃ H', Hp.le H H' ∧ Env W W' ∧ St H' (G :: Ec (.exit id) xs :: fr) W'
  | _ => False
theorem each_shut {H : Hp} {G E A B : HA} {fr : List HA} {w : World} (h : St H (G :: E :: A :: B :: fr) w) : St H (G :: Star A (Star B E) :: fr) w := by
  have h2 : St H (B :: E :: A :: G :: fr) w := h.perm (by
    refine (List.perm_append_comm (l₁ := [G, E, A]) (l₂ := [B]) |>.append_right fr).trans ?_
    refine List.Perm.cons _ ?_
    refine (List.perm_append_comm (l₁ := [G]) (l₂ := [E, A]) |>.append_right fr))
  exact h2.shutStar.swap.shutStar.swap
theorem each_open {H : Hp} {G E A B : HA} {fr : List HA} {w : World} (h : St H (G :: Star A (Star B E) :: fr) w) : St H (G :: E :: A :: B :: fr) w := by
  have h2 : St H (B :: E :: A :: G :: fr) w := h.swap.openStar.swap.openStar
  exact h2.perm (by
    refine (List.perm_append_comm (l₁ := [B, E, A]) (l₂ := [G]) |>.append_right fr).trans ?_
    refine List.Perm.cons _ ?_
    refine (List.perm_append_comm (l₁ := [B]) (l₂ := [E, A]) |>.append_right fr))
end Go.Proofs.Ytohgcghobidfpaa

/- What some ids reach: reach.each, From. -/
set_option linter.unusedVariables false
set_option linter.unusedSimpArgs false
namespace Go.Proofs.Ytohgcghobidfpaa
open Go.RowKit Go.Cw Go.Fl
attribute [local go_sem ↓] eql_id neq_id
attribute [local go_sem] Oper.semAt_some
attribute [local go_sem] wide_fn wide_fnR wide_dp wide_dpR wide_rd wide_rdR
/-- What From tells. -/
def FromG (deps : Id → List Id) (src : List Id) (G : HA) (H : Hp) (fr : List HA) (w : World) (e : Ending) (w' : World) : Prop :=
  ∃ v R H', e = .returned v ∧ Hp.le H H' ∧ St H' (Row 30 2 v (idl R) :: G :: fr) w' ∧ Env w w' ∧ Rises R ∧ ∀ a, a ∈ R ↔ Rch deps src a
def CollE (g : Nat) (pre : List Id) : HA := Ex fun v => Star (Blk g #[v] 31) (Row 30 2 v (idl pre))
theorem collOpen {H : Hp} {fr : List HA} {w : World} {g : Nat} {pre : List Id} (h : St H (CollE g pre :: fr) w) : ∃ A m c, St H (Blk g #[.slice A m c] 31 :: Row 30 2 (.slice A m c) (idl pre) :: fr) w := by
  obtain ⟨v, h1⟩ := h.openEx
  have h2 := h1.openStar
  obtain ⟨A, m, c, rfl, _⟩ := h2.swap.row_form
  exact ⟨A, m, c, h2⟩
theorem collShut {H : Hp} {fr : List HA} {w : World} {g : Nat} {pre : List Id} {v : Value} (h : St H (Blk g #[v] 31 :: Row 30 2 v (idl pre) :: fr) w) : St H (CollE g pre :: fr) w := St.shutEx v h.shutStar
end Go.Proofs.Ytohgcghobidfpaa
