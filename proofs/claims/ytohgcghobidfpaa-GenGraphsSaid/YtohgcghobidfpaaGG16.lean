/- Joined texts: Edges4, Edges5. -/
import Derived.Test.YtohgcghobidfpaaGG15
/- Graphs: Ids, Missing, Users. -/
set_option linter.unusedVariables false
set_option linter.unusedSimpArgs false
namespace Go.Proofs.Ytohgcghobidfpaa
open Go.RowKit Go.Cw Go.Fl
attribute [local go_sem ↓] eql_id neq_id
theorem Row.rwOf {H : Hp} {fr : List HA} {w : World} {v : Value} {l : List Id} (h : St H (Row 30 2 v (idl l) :: fr) w) : Rw w 2 v (idl l) := h.row_rw (by omega)
theorem filt_step (K : List Id) (D : List Id) (k : Nat) (h : k < D.length) : (D.take (k + 1)).filter (fun d => decide (d ∉ K)) = (D.take k).filter (fun d => decide (d ∉ K)) ++ (if D[k] ∈ K then [] else [D[k]]) := by
  rw [List.take_add_one, List.getElem?_eq_getElem h, List.filter_append]
  by_cases hk : D[k] ∈ K <;> simp [hk]
end Go.Proofs.Ytohgcghobidfpaa

/- Graphs: Record. -/
set_option linter.unusedVariables false
set_option linter.unusedSimpArgs false
namespace Go.Proofs.Ytohgcghobidfpaa
open Go.RowKit Go.Cw Go.Fl
attribute [local go_sem ↓] eql_id neq_id
abbrev recZ : Value := .agg #[.int .i64 0, .int .i64 0, .int .i64 0, .slice none 0 0, .slice none 0 0]
end Go.Proofs.Ytohgcghobidfpaa
