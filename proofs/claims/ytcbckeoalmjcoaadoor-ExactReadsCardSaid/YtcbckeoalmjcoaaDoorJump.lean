/- A scope in which the run jumps back to one label, with a measure that is carried along. -/
import Derived.Test.YtcbckeoalmjcoaaDoorOwn
import Derived.ScopeJumps
set_option linter.unusedVariables false
namespace Go.Cw
theorem wp_jumps {P : Program} {a : Act} {w : World} {Q : Exit → Act → World → Prop} {c rest : _root_.Go.Code} (l : Nat) (J : Nat → Act → World → Prop) (hf : findLabel c l = some rest)
    (first : (∀ n a w, J n a w → rest.wp P (Exit.jump l (fun a' w' => ∃ m, J m a' w') Q) a w) → c.wp P (Exit.jump l (fun a' w' => ∃ m, J m a' w') Q) a w)
    (pass : ∀ n a w, J n a w → rest.wp P (Exit.jump l (fun a' w' => ∃ m, m < n ∧ J m a' w') Q) a w) : (Code.scope c).wp P Q a w := by
  classical
  have hmono : ∀ n a w, J n a w → rest.wp P (Exit.jump l (fun a' w' => ∃ m, J m a' w') Q) a w := fun n a w h => Code.wp_mono (fun e a' w' hq => by
    cases e with
    | goto l' => exact ⟨hq.1, hq.2.elim fun m hm => ⟨m, hm.2⟩⟩
    | _ => exact hq) (pass n a w h)
  have least : ∀ a w, (∃ n, J n a w) → ∃ n, J n a w ∧ ∀ m, J m a w → n ≤ m := fun a w ⟨n, h⟩ => by
    induction n using Nat.strongRecOn with
    | _ n ih =>
      by_cases hm : ∃ m, m < n ∧ J m a w
      · obtain ⟨m, h1, h2⟩ := hm
        exact ih m h1 h2
      · exact ⟨n, h, fun m h2 => Nat.le_of_not_lt (fun h3 => hm ⟨m, h3, h2⟩)⟩
  refine wp_scope_jumps l (fun a' w' => ∃ m, J m a' w') (fun a' w' => if h : ∃ n, J n a' w' then (least a' w' h).choose else 0) hf (first hmono) ?_
  intro a w h
  obtain ⟨h1, h2⟩ := (least a w h).choose_spec
  refine Code.wp_mono (fun e a' w' hq => ?_) (pass _ a w h1)
  cases e with
  | goto l' =>
    obtain ⟨e1, m, hm, hJ⟩ := hq
    refine ⟨e1, ⟨m, hJ⟩, ?_⟩
    have h3 : ∃ n, J n a' w' := ⟨m, hJ⟩
    have h4 := (least a' w' h3).choose_spec.2 m hJ
    simp only [dif_pos h, dif_pos h3]
    omega
  | _ => exact hq
/-- The same where the label's rest begins with nothing. -/
theorem wp_jumps_skip {P : Program} {a : Act} {w : World} {Q : Exit → Act → World → Prop} {c rest : _root_.Go.Code} (l : Nat) (J : Nat → Act → World → Prop) (hf : findLabel c l = some (Code.skip.seq rest))
    (first : (∀ n a w, J n a w → rest.wp P (Exit.jump l (fun a' w' => ∃ m, J m a' w') Q) a w) → c.wp P (Exit.jump l (fun a' w' => ∃ m, J m a' w') Q) a w)
    (pass : ∀ n a w, J n a w → rest.wp P (Exit.jump l (fun a' w' => ∃ m, m < n ∧ J m a' w') Q) a w) : (Code.scope c).wp P Q a w :=
  wp_jumps l J hf (fun _ => first (fun n a w h => Code.wp_mono (fun e a' w' hq => by
    cases e with
    | goto l' => exact ⟨hq.1, hq.2.elim fun m hm => ⟨m, hm.2⟩⟩
    | _ => exact hq) (pass n a w h))) (fun n a w h => wp_seq (wp_skip (pass n a w h)))
end Go.Cw
