/-
  No cell of these rows narrows 'for every input' (looked for: loops, veiled, ifaces, maps, wideKeys, modest, calm, conditions, laid).
  DERIVED. THE GIVEN ROWS OF THIS SEAT. 7 by the template 'for every input the law returns true; each argument reads behind the call as it read before'; 0 by the template 'total and deterministic' (their statements: YtelmhcbdpimaaaaTotals.lean).
  GIVEN WITH THE SEED: the statements are not yours to turn. If you find one false, say at which input.
  Laid BY PROGRAM, IN A SANDBOX (cutbox-rows.mjs): the forced cells as the released guide's own fill.sh prints them over the translation ce31dd798c6272a2… (all of the seat's roots in one cut). By AI agents, Wed Nov 11 2026. No macro, syntax, notation, axiom, sorry.
-/
import Derived.Test.YtelmhcbdpimaaaaChecked
import GoSem.Claim
import GoSem.ClaimJoined
import GoSem.ClaimMapViews
import Derived.JoinedTies
import Derived.KernelRfl
namespace Go.Proofs.Ytelmhcbdpimaaaa
/- THE CELL 'sum', in the pinned program and in every row, IS THE sha256 OF THE DUMP (.gsa) THAT YtelmhcbdpimaaaaProg.lean LOADS. Nothing in Lean hashes anything: it is a label: what it is worth is what the hold of that sum in a sandbox is worth. -/
noncomputable def Try.pinned : Pinned := { name := "ytelmhcbdpimaaaa", sum := "ce31dd798c6272a2d6d9e388ede8d27d3e0dfba4ae72c1b4c06c0c0b9bb48616", checked := Try.checked }
namespace Rows
def none {H : Type} : Left H := { results := [], args := [] }

/-- 'cortegelaw20.PremiseMends': WHATEVER THE INPUT: true; the input reads as it did. -/
def premiseMendsSpec : ChangeSpec := { name := "premiseMends", fn := fun _ => fun
  | [d] => { results := [.lit (.bool true)], args := [d] }
  | _ => none }
def premiseMendsRow : OpenClaim := { program := "ytelmhcbdpimaaaa", sum := "ce31dd798c6272a2d6d9e388ede8d27d3e0dfba4ae72c1b4c06c0c0b9bb48616", func := "cortege/cortegelaw20.PremiseMends", spec := "premiseMends", inPlace := ["math.Float64frombits", "math.Float64bits"], unfollowed := true, recurses := true, plainKeys := false, apart := false }
def PremiseMendsSaid : Prop := premiseMendsRow.holds Try.pinned (OpenSpec.ofChange premiseMendsSpec)

/-- ITS FALSE NEIGHBOUR: 'it returns false'. Refute it at one input. -/
def premiseMendsWrong : ChangeSpec := { name := "premiseMends", fn := fun _ => fun
  | [d] => { results := [.lit (.bool false)], args := [d] }
  | _ => none }
def PremiseMendsWrongFalsely : Prop := premiseMendsRow.holds Try.pinned (OpenSpec.ofChange premiseMendsWrong)

/-- 'cortegelaw32.GenGraphs': WHATEVER THE INPUT: true; the input reads as it did. -/
def genGraphsSpec : ChangeSpec := { name := "genGraphs", fn := fun _ => fun
  | [d1, d2, d3] => { results := [.lit (.bool true)], args := [d1, d2, d3] }
  | _ => none }
def genGraphsRow : OpenClaim := { program := "ytelmhcbdpimaaaa", sum := "ce31dd798c6272a2d6d9e388ede8d27d3e0dfba4ae72c1b4c06c0c0b9bb48616", func := "cortege/cortegelaw32.GenGraphs", spec := "genGraphs", inPlace := ["math.Float64frombits", "math.Float64bits"], unfollowed := true, recurses := true, plainKeys := false, apart := false }
def GenGraphsSaid : Prop := genGraphsRow.holds Try.pinned (OpenSpec.ofChange genGraphsSpec)

/-- ITS FALSE NEIGHBOUR: 'it returns false'. Refute it at one input. -/
def genGraphsWrong : ChangeSpec := { name := "genGraphs", fn := fun _ => fun
  | [d1, d2, d3] => { results := [.lit (.bool false)], args := [d1, d2, d3] }
  | _ => none }
def GenGraphsWrongFalsely : Prop := genGraphsRow.holds Try.pinned (OpenSpec.ofChange genGraphsWrong)

/-- 'cortegelaw20.PremiseTells': WHATEVER THE INPUT: true; the input reads as it did. -/
def premiseTellsSpec : ChangeSpec := { name := "premiseTells", fn := fun _ => fun
  | [d1, d2, d3] => { results := [.lit (.bool true)], args := [d1, d2, d3] }
  | _ => none }
def premiseTellsRow : OpenClaim := { program := "ytelmhcbdpimaaaa", sum := "ce31dd798c6272a2d6d9e388ede8d27d3e0dfba4ae72c1b4c06c0c0b9bb48616", func := "cortege/cortegelaw20.PremiseTells", spec := "premiseTells", inPlace := ["math.Float64frombits", "math.Float64bits"], unfollowed := true, recurses := true, plainKeys := false, apart := false }
def PremiseTellsSaid : Prop := premiseTellsRow.holds Try.pinned (OpenSpec.ofChange premiseTellsSpec)

/-- ITS FALSE NEIGHBOUR: 'it returns false'. Refute it at one input. -/
def premiseTellsWrong : ChangeSpec := { name := "premiseTells", fn := fun _ => fun
  | [d1, d2, d3] => { results := [.lit (.bool false)], args := [d1, d2, d3] }
  | _ => none }
def PremiseTellsWrongFalsely : Prop := premiseTellsRow.holds Try.pinned (OpenSpec.ofChange premiseTellsWrong)

/-- 'cortegelaw16.ReachCloses': WHATEVER THE INPUT: true; the input reads as it did. -/
def reachClosesSpec : ChangeSpec := { name := "reachCloses", fn := fun _ => fun
  | [d1, d2] => { results := [.lit (.bool true)], args := [d1, d2] }
  | _ => none }
def reachClosesRow : OpenClaim := { program := "ytelmhcbdpimaaaa", sum := "ce31dd798c6272a2d6d9e388ede8d27d3e0dfba4ae72c1b4c06c0c0b9bb48616", func := "cortege/cortegelaw16.ReachCloses", spec := "reachCloses", inPlace := ["math.Float64frombits", "math.Float64bits"], unfollowed := true, recurses := true, plainKeys := false, apart := false }
def ReachClosesSaid : Prop := reachClosesRow.holds Try.pinned (OpenSpec.ofChange reachClosesSpec)

/-- ITS FALSE NEIGHBOUR: 'it returns false'. Refute it at one input. -/
def reachClosesWrong : ChangeSpec := { name := "reachCloses", fn := fun _ => fun
  | [d1, d2] => { results := [.lit (.bool false)], args := [d1, d2] }
  | _ => none }
def ReachClosesWrongFalsely : Prop := reachClosesRow.holds Try.pinned (OpenSpec.ofChange reachClosesWrong)

/-- 'cortegelaw16.ReachTells': WHATEVER THE INPUT: true; the input reads as it did. -/
def reachTellsSpec : ChangeSpec := { name := "reachTells", fn := fun _ => fun
  | [d1, d2, d3] => { results := [.lit (.bool true)], args := [d1, d2, d3] }
  | _ => none }
def reachTellsRow : OpenClaim := { program := "ytelmhcbdpimaaaa", sum := "ce31dd798c6272a2d6d9e388ede8d27d3e0dfba4ae72c1b4c06c0c0b9bb48616", func := "cortege/cortegelaw16.ReachTells", spec := "reachTells", inPlace := ["math.Float64frombits", "math.Float64bits"], unfollowed := true, recurses := true, plainKeys := false, apart := false }
def ReachTellsSaid : Prop := reachTellsRow.holds Try.pinned (OpenSpec.ofChange reachTellsSpec)

/-- ITS FALSE NEIGHBOUR: 'it returns false'. Refute it at one input. -/
def reachTellsWrong : ChangeSpec := { name := "reachTells", fn := fun _ => fun
  | [d1, d2, d3] => { results := [.lit (.bool false)], args := [d1, d2, d3] }
  | _ => none }
def ReachTellsWrongFalsely : Prop := reachTellsRow.holds Try.pinned (OpenSpec.ofChange reachTellsWrong)

/-- 'cortegelaw21.VertexCompacts': WHATEVER THE INPUT: true; the input reads as it did. -/
def vertexCompactsSpec : ChangeSpec := { name := "vertexCompacts", fn := fun _ => fun
  | [d1, d2] => { results := [.lit (.bool true)], args := [d1, d2] }
  | _ => none }
def vertexCompactsRow : OpenClaim := { program := "ytelmhcbdpimaaaa", sum := "ce31dd798c6272a2d6d9e388ede8d27d3e0dfba4ae72c1b4c06c0c0b9bb48616", func := "cortege/cortegelaw21.VertexCompacts", spec := "vertexCompacts", inPlace := ["math.Float64frombits", "math.Float64bits"], unfollowed := true, recurses := true, plainKeys := false, apart := false }
def VertexCompactsSaid : Prop := vertexCompactsRow.holds Try.pinned (OpenSpec.ofChange vertexCompactsSpec)

/-- ITS FALSE NEIGHBOUR: 'it returns false'. Refute it at one input. -/
def vertexCompactsWrong : ChangeSpec := { name := "vertexCompacts", fn := fun _ => fun
  | [d1, d2] => { results := [.lit (.bool false)], args := [d1, d2] }
  | _ => none }
def VertexCompactsWrongFalsely : Prop := vertexCompactsRow.holds Try.pinned (OpenSpec.ofChange vertexCompactsWrong)

/-- 'cortegelaw21.VertexActs': WHATEVER THE INPUT: true; the input reads as it did. -/
def vertexActsSpec : ChangeSpec := { name := "vertexActs", fn := fun _ => fun
  | [d1, d2] => { results := [.lit (.bool true)], args := [d1, d2] }
  | _ => none }
def vertexActsRow : OpenClaim := { program := "ytelmhcbdpimaaaa", sum := "ce31dd798c6272a2d6d9e388ede8d27d3e0dfba4ae72c1b4c06c0c0b9bb48616", func := "cortege/cortegelaw21.VertexActs", spec := "vertexActs", inPlace := ["math.Float64frombits", "math.Float64bits"], unfollowed := true, recurses := true, plainKeys := false, apart := false }
def VertexActsSaid : Prop := vertexActsRow.holds Try.pinned (OpenSpec.ofChange vertexActsSpec)

/-- ITS FALSE NEIGHBOUR: 'it returns false'. Refute it at one input. -/
def vertexActsWrong : ChangeSpec := { name := "vertexActs", fn := fun _ => fun
  | [d1, d2] => { results := [.lit (.bool false)], args := [d1, d2] }
  | _ => none }
def VertexActsWrongFalsely : Prop := vertexActsRow.holds Try.pinned (OpenSpec.ofChange vertexActsWrong)

/- THE SECOND FORM. 'bulk': how many values and letters a reading holds, each counted each time it is reached (what is shared counts as often as it is met; a slice's spare places count too). A statement '..UptoSaid' is the law's where the arguments, and the package variables that the reading takes, are together of bulk at most 1048576: NARROWER than '..Said'. Prove '..Said' where nothing that the law and all that it calls make is longer than what came in: it says more and counts as full. Else prove '..UptoSaid'. A law counts once. -/
mutual
def uptoBulk {H : Type} : DataW H → Nat
  | .lit (.string bytes) => bytes.length + 1
  | .lit _ => 1
  | .nil => 1
  | .ptr d => uptoBulk d + 1
  | .slice elems spare => uptoBulkAll elems + uptoBulkAll spare + 1
  | .agg parts => uptoBulkAll parts + 1
  | .iface _ d => uptoBulk d + 1
  | .map entries => uptoBulkEntries entries + 1
  | .held _ => 1
def uptoBulkAll {H : Type} : List (DataW H) → Nat
  | [] => 0
  | d :: r => uptoBulk d + uptoBulkAll r
def uptoBulkEntries {H : Type} : List (Lit × DataW H) → Nat
  | [] => 0
  | x :: r => uptoBulkEntry x + uptoBulkEntries r
def uptoBulkEntry {H : Type} : Lit × DataW H → Nat
  | (.string bytes, d) => bytes.length + uptoBulk d + 1
  | (_, d) => uptoBulk d + 1
 end
def uptoSmall : (H : Type) → List (DataW H) → Bool := fun _ ds => decide (uptoBulkAll ds ≤ 1048576)
def OpenSpec.upto (s : _root_.Go.ChangeSpec) : _root_.Go.OpenSpec := { _root_.Go.OpenSpec.ofChange s with cond := some uptoSmall }

/-- 'cortegelaw20.PremiseMends', WHERE WHAT IT READS IS OF BULK AT MOST 1048576: true; the input reads as it did. -/
def premiseMendsUptoRow : OpenClaim := { program := "ytelmhcbdpimaaaa", sum := "ce31dd798c6272a2d6d9e388ede8d27d3e0dfba4ae72c1b4c06c0c0b9bb48616", func := "cortege/cortegelaw20.PremiseMends", spec := "premiseMends", inPlace := ["math.Float64frombits", "math.Float64bits"], unfollowed := true, recurses := true, plainKeys := false, apart := false, narrowed := true }
def PremiseMendsUptoSaid : Prop := premiseMendsUptoRow.holds Try.pinned (OpenSpec.upto premiseMendsSpec)

/-- 'cortegelaw32.GenGraphs', WHERE WHAT IT READS IS OF BULK AT MOST 1048576: true; the input reads as it did. -/
def genGraphsUptoRow : OpenClaim := { program := "ytelmhcbdpimaaaa", sum := "ce31dd798c6272a2d6d9e388ede8d27d3e0dfba4ae72c1b4c06c0c0b9bb48616", func := "cortege/cortegelaw32.GenGraphs", spec := "genGraphs", inPlace := ["math.Float64frombits", "math.Float64bits"], unfollowed := true, recurses := true, plainKeys := false, apart := false, narrowed := true }
def GenGraphsUptoSaid : Prop := genGraphsUptoRow.holds Try.pinned (OpenSpec.upto genGraphsSpec)

/-- 'cortegelaw20.PremiseTells', WHERE WHAT IT READS IS OF BULK AT MOST 1048576: true; the input reads as it did. -/
def premiseTellsUptoRow : OpenClaim := { program := "ytelmhcbdpimaaaa", sum := "ce31dd798c6272a2d6d9e388ede8d27d3e0dfba4ae72c1b4c06c0c0b9bb48616", func := "cortege/cortegelaw20.PremiseTells", spec := "premiseTells", inPlace := ["math.Float64frombits", "math.Float64bits"], unfollowed := true, recurses := true, plainKeys := false, apart := false, narrowed := true }
def PremiseTellsUptoSaid : Prop := premiseTellsUptoRow.holds Try.pinned (OpenSpec.upto premiseTellsSpec)

/-- 'cortegelaw16.ReachCloses', WHERE WHAT IT READS IS OF BULK AT MOST 1048576: true; the input reads as it did. -/
def reachClosesUptoRow : OpenClaim := { program := "ytelmhcbdpimaaaa", sum := "ce31dd798c6272a2d6d9e388ede8d27d3e0dfba4ae72c1b4c06c0c0b9bb48616", func := "cortege/cortegelaw16.ReachCloses", spec := "reachCloses", inPlace := ["math.Float64frombits", "math.Float64bits"], unfollowed := true, recurses := true, plainKeys := false, apart := false, narrowed := true }
def ReachClosesUptoSaid : Prop := reachClosesUptoRow.holds Try.pinned (OpenSpec.upto reachClosesSpec)

/-- 'cortegelaw16.ReachTells', WHERE WHAT IT READS IS OF BULK AT MOST 1048576: true; the input reads as it did. -/
def reachTellsUptoRow : OpenClaim := { program := "ytelmhcbdpimaaaa", sum := "ce31dd798c6272a2d6d9e388ede8d27d3e0dfba4ae72c1b4c06c0c0b9bb48616", func := "cortege/cortegelaw16.ReachTells", spec := "reachTells", inPlace := ["math.Float64frombits", "math.Float64bits"], unfollowed := true, recurses := true, plainKeys := false, apart := false, narrowed := true }
def ReachTellsUptoSaid : Prop := reachTellsUptoRow.holds Try.pinned (OpenSpec.upto reachTellsSpec)

/-- 'cortegelaw21.VertexCompacts', WHERE WHAT IT READS IS OF BULK AT MOST 1048576: true; the input reads as it did. -/
def vertexCompactsUptoRow : OpenClaim := { program := "ytelmhcbdpimaaaa", sum := "ce31dd798c6272a2d6d9e388ede8d27d3e0dfba4ae72c1b4c06c0c0b9bb48616", func := "cortege/cortegelaw21.VertexCompacts", spec := "vertexCompacts", inPlace := ["math.Float64frombits", "math.Float64bits"], unfollowed := true, recurses := true, plainKeys := false, apart := false, narrowed := true }
def VertexCompactsUptoSaid : Prop := vertexCompactsUptoRow.holds Try.pinned (OpenSpec.upto vertexCompactsSpec)

/-- 'cortegelaw21.VertexActs', WHERE WHAT IT READS IS OF BULK AT MOST 1048576: true; the input reads as it did. -/
def vertexActsUptoRow : OpenClaim := { program := "ytelmhcbdpimaaaa", sum := "ce31dd798c6272a2d6d9e388ede8d27d3e0dfba4ae72c1b4c06c0c0b9bb48616", func := "cortege/cortegelaw21.VertexActs", spec := "vertexActs", inPlace := ["math.Float64frombits", "math.Float64bits"], unfollowed := true, recurses := true, plainKeys := false, apart := false, narrowed := true }
def VertexActsUptoSaid : Prop := vertexActsUptoRow.holds Try.pinned (OpenSpec.upto vertexActsSpec)

end Rows
end Go.Proofs.Ytelmhcbdpimaaaa
