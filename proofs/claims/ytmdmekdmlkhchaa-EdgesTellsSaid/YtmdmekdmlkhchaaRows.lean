/-
  No cell of these rows narrows 'for every input' (looked for: loops, veiled, ifaces, maps, wideKeys, modest, calm, conditions, laid).
  DERIVED. THE GIVEN ROWS OF THIS SEAT. 11 by the template 'for every input the law returns true; each argument reads behind the call as it read before'; 0 by the template 'total and deterministic' (their statements: YtmdmekdmlkhchaaTotals.lean).
  GIVEN WITH THE SEED: the statements are not yours to turn. If you find one false, say at which input.
  Laid BY PROGRAM, IN A SANDBOX (cutbox-rows.mjs): the forced cells as the released guide's own fill.sh prints them over the translation 30d97121f4b0e495… (all of the seat's roots in one cut). By AI agents, Wed Nov 11 2026. No macro, syntax, notation, axiom, sorry.
-/
import Derived.Test.YtmdmekdmlkhchaaChecked
import GoSem.Claim
import GoSem.ClaimJoined
import GoSem.ClaimMapViews
import Derived.JoinedTies
import Derived.KernelRfl
namespace Go.Proofs.Ytmdmekdmlkhchaa
/- THE CELL 'sum', in the pinned program and in every row, IS THE sha256 OF THE DUMP (.gsa) THAT YtmdmekdmlkhchaaProg.lean LOADS. Nothing in Lean hashes anything: it is a label: what it is worth is what the hold of that sum in a sandbox is worth. -/
noncomputable def Try.pinned : Pinned := { name := "ytmdmekdmlkhchaa", sum := "30d97121f4b0e495ce94df50fe1caa096ffab1e23828b30bc60692dd0501888f", checked := Try.checked }
namespace Rows
def none {H : Type} : Left H := { results := [], args := [] }

/-- 'cortegelaw23.FramesActs': WHATEVER THE INPUT: true; the input reads as it did. -/
def framesActsSpec : ChangeSpec := { name := "framesActs", fn := fun _ => fun
  | [d] => { results := [.lit (.bool true)], args := [d] }
  | _ => none }
def framesActsRow : OpenClaim := { program := "ytmdmekdmlkhchaa", sum := "30d97121f4b0e495ce94df50fe1caa096ffab1e23828b30bc60692dd0501888f", func := "cortege/cortegelaw23.FramesActs", spec := "framesActs", plainKeys := false, apart := false }
def FramesActsSaid : Prop := framesActsRow.holds Try.pinned (OpenSpec.ofChange framesActsSpec)

/-- ITS FALSE NEIGHBOUR: 'it returns false'. Refute it at one input. -/
def framesActsWrong : ChangeSpec := { name := "framesActs", fn := fun _ => fun
  | [d] => { results := [.lit (.bool false)], args := [d] }
  | _ => none }
def FramesActsWrongFalsely : Prop := framesActsRow.holds Try.pinned (OpenSpec.ofChange framesActsWrong)

/-- 'cortegelaw32.GenChains': WHATEVER THE INPUT: true; the input reads as it did. -/
def genChainsSpec : ChangeSpec := { name := "genChains", fn := fun _ => fun
  | [d1, d2] => { results := [.lit (.bool true)], args := [d1, d2] }
  | _ => none }
def genChainsRow : OpenClaim := { program := "ytmdmekdmlkhchaa", sum := "30d97121f4b0e495ce94df50fe1caa096ffab1e23828b30bc60692dd0501888f", func := "cortege/cortegelaw32.GenChains", spec := "genChains", inPlace := ["math.Float64frombits", "math.Float64bits"], plainKeys := false, apart := false }
def GenChainsSaid : Prop := genChainsRow.holds Try.pinned (OpenSpec.ofChange genChainsSpec)

/-- ITS FALSE NEIGHBOUR: 'it returns false'. Refute it at one input. -/
def genChainsWrong : ChangeSpec := { name := "genChains", fn := fun _ => fun
  | [d1, d2] => { results := [.lit (.bool false)], args := [d1, d2] }
  | _ => none }
def GenChainsWrongFalsely : Prop := genChainsRow.holds Try.pinned (OpenSpec.ofChange genChainsWrong)

/-- 'cortegelaw43.NetActs': WHATEVER THE INPUT: true; the input reads as it did. -/
def netActsSpec : ChangeSpec := { name := "netActs", fn := fun _ => fun
  | [d1, d2] => { results := [.lit (.bool true)], args := [d1, d2] }
  | _ => none }
def netActsRow : OpenClaim := { program := "ytmdmekdmlkhchaa", sum := "30d97121f4b0e495ce94df50fe1caa096ffab1e23828b30bc60692dd0501888f", func := "cortege/cortegelaw43.NetActs", spec := "netActs", plainKeys := false, apart := false }
def NetActsSaid : Prop := netActsRow.holds Try.pinned (OpenSpec.ofChange netActsSpec)

/-- ITS FALSE NEIGHBOUR: 'it returns false'. Refute it at one input. -/
def netActsWrong : ChangeSpec := { name := "netActs", fn := fun _ => fun
  | [d1, d2] => { results := [.lit (.bool false)], args := [d1, d2] }
  | _ => none }
def NetActsWrongFalsely : Prop := netActsRow.holds Try.pinned (OpenSpec.ofChange netActsWrong)

/-- 'cortegelaw42.JournalLoads': WHATEVER THE INPUT: true; the input reads as it did. -/
def journalLoadsSpec : ChangeSpec := { name := "journalLoads", fn := fun _ => fun
  | [d1, d2, d3] => { results := [.lit (.bool true)], args := [d1, d2, d3] }
  | _ => none }
def journalLoadsRow : OpenClaim := { program := "ytmdmekdmlkhchaa", sum := "30d97121f4b0e495ce94df50fe1caa096ffab1e23828b30bc60692dd0501888f", func := "cortege/cortegelaw42.JournalLoads", spec := "journalLoads", unfollowed := true, recurses := true, plainKeys := false, apart := false }
def JournalLoadsSaid : Prop := journalLoadsRow.holds Try.pinned (OpenSpec.ofChange journalLoadsSpec)

/-- ITS FALSE NEIGHBOUR: 'it returns false'. Refute it at one input. -/
def journalLoadsWrong : ChangeSpec := { name := "journalLoads", fn := fun _ => fun
  | [d1, d2, d3] => { results := [.lit (.bool false)], args := [d1, d2, d3] }
  | _ => none }
def JournalLoadsWrongFalsely : Prop := journalLoadsRow.holds Try.pinned (OpenSpec.ofChange journalLoadsWrong)

/-- 'cortegelaw42.JournalEntries': WHATEVER THE INPUT: true; the input reads as it did. -/
def journalEntriesSpec : ChangeSpec := { name := "journalEntries", fn := fun _ => fun
  | [d1, d2] => { results := [.lit (.bool true)], args := [d1, d2] }
  | _ => none }
def journalEntriesRow : OpenClaim := { program := "ytmdmekdmlkhchaa", sum := "30d97121f4b0e495ce94df50fe1caa096ffab1e23828b30bc60692dd0501888f", func := "cortege/cortegelaw42.JournalEntries", spec := "journalEntries", unfollowed := true, recurses := true, plainKeys := false, apart := false }
def JournalEntriesSaid : Prop := journalEntriesRow.holds Try.pinned (OpenSpec.ofChange journalEntriesSpec)

/-- ITS FALSE NEIGHBOUR: 'it returns false'. Refute it at one input. -/
def journalEntriesWrong : ChangeSpec := { name := "journalEntries", fn := fun _ => fun
  | [d1, d2] => { results := [.lit (.bool false)], args := [d1, d2] }
  | _ => none }
def JournalEntriesWrongFalsely : Prop := journalEntriesRow.holds Try.pinned (OpenSpec.ofChange journalEntriesWrong)

/-- 'cortegelaw04.IdsetMinus': WHATEVER THE INPUT: true; the input reads as it did. -/
def idsetMinusSpec : ChangeSpec := { name := "idsetMinus", fn := fun _ => fun
  | [d1, d2] => { results := [.lit (.bool true)], args := [d1, d2] }
  | _ => none }
def idsetMinusRow : OpenClaim := { program := "ytmdmekdmlkhchaa", sum := "30d97121f4b0e495ce94df50fe1caa096ffab1e23828b30bc60692dd0501888f", func := "cortege/cortegelaw04.IdsetMinus", spec := "idsetMinus", unfollowed := true, recurses := true, plainKeys := false, apart := false }
def IdsetMinusSaid : Prop := idsetMinusRow.holds Try.pinned (OpenSpec.ofChange idsetMinusSpec)

/-- ITS FALSE NEIGHBOUR: 'it returns false'. Refute it at one input. -/
def idsetMinusWrong : ChangeSpec := { name := "idsetMinus", fn := fun _ => fun
  | [d1, d2] => { results := [.lit (.bool false)], args := [d1, d2] }
  | _ => none }
def IdsetMinusWrongFalsely : Prop := idsetMinusRow.holds Try.pinned (OpenSpec.ofChange idsetMinusWrong)

/-- 'cortegelaw04.IdsetActs': WHATEVER THE INPUT: true; the input reads as it did. -/
def idsetActsSpec : ChangeSpec := { name := "idsetActs", fn := fun _ => fun
  | [d1, d2] => { results := [.lit (.bool true)], args := [d1, d2] }
  | _ => none }
def idsetActsRow : OpenClaim := { program := "ytmdmekdmlkhchaa", sum := "30d97121f4b0e495ce94df50fe1caa096ffab1e23828b30bc60692dd0501888f", func := "cortege/cortegelaw04.IdsetActs", spec := "idsetActs", unfollowed := true, recurses := true, plainKeys := false, apart := false }
def IdsetActsSaid : Prop := idsetActsRow.holds Try.pinned (OpenSpec.ofChange idsetActsSpec)

/-- ITS FALSE NEIGHBOUR: 'it returns false'. Refute it at one input. -/
def idsetActsWrong : ChangeSpec := { name := "idsetActs", fn := fun _ => fun
  | [d1, d2] => { results := [.lit (.bool false)], args := [d1, d2] }
  | _ => none }
def IdsetActsWrongFalsely : Prop := idsetActsRow.holds Try.pinned (OpenSpec.ofChange idsetActsWrong)

/-- 'cortegelaw22.WaitsActs': WHATEVER THE INPUT: true; the input reads as it did. -/
def waitsActsSpec : ChangeSpec := { name := "waitsActs", fn := fun _ => fun
  | [d] => { results := [.lit (.bool true)], args := [d] }
  | _ => none }
def waitsActsRow : OpenClaim := { program := "ytmdmekdmlkhchaa", sum := "30d97121f4b0e495ce94df50fe1caa096ffab1e23828b30bc60692dd0501888f", func := "cortege/cortegelaw22.WaitsActs", spec := "waitsActs", unfollowed := true, recurses := true, plainKeys := false, apart := false }
def WaitsActsSaid : Prop := waitsActsRow.holds Try.pinned (OpenSpec.ofChange waitsActsSpec)

/-- ITS FALSE NEIGHBOUR: 'it returns false'. Refute it at one input. -/
def waitsActsWrong : ChangeSpec := { name := "waitsActs", fn := fun _ => fun
  | [d] => { results := [.lit (.bool false)], args := [d] }
  | _ => none }
def WaitsActsWrongFalsely : Prop := waitsActsRow.holds Try.pinned (OpenSpec.ofChange waitsActsWrong)

/-- 'cortegelaw05.FrontOrder': WHATEVER THE INPUT: true; the input reads as it did. -/
def frontOrderSpec : ChangeSpec := { name := "frontOrder", fn := fun _ => fun
  | [d1, d2] => { results := [.lit (.bool true)], args := [d1, d2] }
  | _ => none }
def frontOrderRow : OpenClaim := { program := "ytmdmekdmlkhchaa", sum := "30d97121f4b0e495ce94df50fe1caa096ffab1e23828b30bc60692dd0501888f", func := "cortege/cortegelaw05.FrontOrder", spec := "frontOrder", unfollowed := true, recurses := true, plainKeys := false, apart := false }
def FrontOrderSaid : Prop := frontOrderRow.holds Try.pinned (OpenSpec.ofChange frontOrderSpec)

/-- ITS FALSE NEIGHBOUR: 'it returns false'. Refute it at one input. -/
def frontOrderWrong : ChangeSpec := { name := "frontOrder", fn := fun _ => fun
  | [d1, d2] => { results := [.lit (.bool false)], args := [d1, d2] }
  | _ => none }
def FrontOrderWrongFalsely : Prop := frontOrderRow.holds Try.pinned (OpenSpec.ofChange frontOrderWrong)

/-- 'cortegelaw05.FrontMarks': WHATEVER THE INPUT: true; the input reads as it did. -/
def frontMarksSpec : ChangeSpec := { name := "frontMarks", fn := fun _ => fun
  | [d1, d2, d3] => { results := [.lit (.bool true)], args := [d1, d2, d3] }
  | _ => none }
def frontMarksRow : OpenClaim := { program := "ytmdmekdmlkhchaa", sum := "30d97121f4b0e495ce94df50fe1caa096ffab1e23828b30bc60692dd0501888f", func := "cortege/cortegelaw05.FrontMarks", spec := "frontMarks", unfollowed := true, recurses := true, plainKeys := false, apart := false }
def FrontMarksSaid : Prop := frontMarksRow.holds Try.pinned (OpenSpec.ofChange frontMarksSpec)

/-- ITS FALSE NEIGHBOUR: 'it returns false'. Refute it at one input. -/
def frontMarksWrong : ChangeSpec := { name := "frontMarks", fn := fun _ => fun
  | [d1, d2, d3] => { results := [.lit (.bool false)], args := [d1, d2, d3] }
  | _ => none }
def FrontMarksWrongFalsely : Prop := frontMarksRow.holds Try.pinned (OpenSpec.ofChange frontMarksWrong)

/-- 'cortegelaw15.EdgesTells': WHATEVER THE INPUT: true; the input reads as it did. -/
def edgesTellsSpec : ChangeSpec := { name := "edgesTells", fn := fun _ => fun
  | [d1, d2] => { results := [.lit (.bool true)], args := [d1, d2] }
  | _ => none }
def edgesTellsRow : OpenClaim := { program := "ytmdmekdmlkhchaa", sum := "30d97121f4b0e495ce94df50fe1caa096ffab1e23828b30bc60692dd0501888f", func := "cortege/cortegelaw15.EdgesTells", spec := "edgesTells", inPlace := ["math.Float64frombits", "math.Float64bits"], unfollowed := true, recurses := true, plainKeys := false, apart := false }
def EdgesTellsSaid : Prop := edgesTellsRow.holds Try.pinned (OpenSpec.ofChange edgesTellsSpec)

/-- ITS FALSE NEIGHBOUR: 'it returns false'. Refute it at one input. -/
def edgesTellsWrong : ChangeSpec := { name := "edgesTells", fn := fun _ => fun
  | [d1, d2] => { results := [.lit (.bool false)], args := [d1, d2] }
  | _ => none }
def EdgesTellsWrongFalsely : Prop := edgesTellsRow.holds Try.pinned (OpenSpec.ofChange edgesTellsWrong)

/- THE SECOND FORM. 'bulk': how many values and letters a reading holds, each counted each time it is reached (what is shared counts as often as it is met; a slice's spare places count too). A statement '..UptoSaid' is the law's where the arguments, and the package variables that the reading takes, are together of bulk at most 1048576: NARROWER than '..Said'. Prove '..Said' where nothing that the law and all that it calls make is longer than what came in: it says more and counts as full. Else prove '..UptoSaid'. A law counts once. -/
mutual
def uptoBulk {H : Type} : DataW H → Nat
  | .lit (.string bytes) => bytes.length + 1
  | .lit _ => 1
  | .nil => 1
  | .ptr d => uptoBulk d + 1
  | .slice elems spare => uptoBulkAll elems + uptoBulkAll spare + 1
  | .agg parts => uptoBulkAll parts + 1
  | .iface _ d => uptoBulk d + 1
  | .map entries => uptoBulkEntries entries + 1
  | .held _ => 1
def uptoBulkAll {H : Type} : List (DataW H) → Nat
  | [] => 0
  | d :: r => uptoBulk d + uptoBulkAll r
def uptoBulkEntries {H : Type} : List (Lit × DataW H) → Nat
  | [] => 0
  | x :: r => uptoBulkEntry x + uptoBulkEntries r
def uptoBulkEntry {H : Type} : Lit × DataW H → Nat
  | (.string bytes, d) => bytes.length + uptoBulk d + 1
  | (_, d) => uptoBulk d + 1
 end
def uptoSmall : (H : Type) → List (DataW H) → Bool := fun _ ds => decide (uptoBulkAll ds ≤ 1048576)
def OpenSpec.upto (s : _root_.Go.ChangeSpec) : _root_.Go.OpenSpec := { _root_.Go.OpenSpec.ofChange s with cond := some uptoSmall }

/-- 'cortegelaw23.FramesActs', WHERE WHAT IT READS IS OF BULK AT MOST 1048576: true; the input reads as it did. -/
def framesActsUptoRow : OpenClaim := { program := "ytmdmekdmlkhchaa", sum := "30d97121f4b0e495ce94df50fe1caa096ffab1e23828b30bc60692dd0501888f", func := "cortege/cortegelaw23.FramesActs", spec := "framesActs", plainKeys := false, apart := false, narrowed := true }
def FramesActsUptoSaid : Prop := framesActsUptoRow.holds Try.pinned (OpenSpec.upto framesActsSpec)

/-- 'cortegelaw32.GenChains', WHERE WHAT IT READS IS OF BULK AT MOST 1048576: true; the input reads as it did. -/
def genChainsUptoRow : OpenClaim := { program := "ytmdmekdmlkhchaa", sum := "30d97121f4b0e495ce94df50fe1caa096ffab1e23828b30bc60692dd0501888f", func := "cortege/cortegelaw32.GenChains", spec := "genChains", inPlace := ["math.Float64frombits", "math.Float64bits"], plainKeys := false, apart := false, narrowed := true }
def GenChainsUptoSaid : Prop := genChainsUptoRow.holds Try.pinned (OpenSpec.upto genChainsSpec)

/-- 'cortegelaw43.NetActs', WHERE WHAT IT READS IS OF BULK AT MOST 1048576: true; the input reads as it did. -/
def netActsUptoRow : OpenClaim := { program := "ytmdmekdmlkhchaa", sum := "30d97121f4b0e495ce94df50fe1caa096ffab1e23828b30bc60692dd0501888f", func := "cortege/cortegelaw43.NetActs", spec := "netActs", plainKeys := false, apart := false, narrowed := true }
def NetActsUptoSaid : Prop := netActsUptoRow.holds Try.pinned (OpenSpec.upto netActsSpec)

/-- 'cortegelaw42.JournalLoads', WHERE WHAT IT READS IS OF BULK AT MOST 1048576: true; the input reads as it did. -/
def journalLoadsUptoRow : OpenClaim := { program := "ytmdmekdmlkhchaa", sum := "30d97121f4b0e495ce94df50fe1caa096ffab1e23828b30bc60692dd0501888f", func := "cortege/cortegelaw42.JournalLoads", spec := "journalLoads", unfollowed := true, recurses := true, plainKeys := false, apart := false, narrowed := true }
def JournalLoadsUptoSaid : Prop := journalLoadsUptoRow.holds Try.pinned (OpenSpec.upto journalLoadsSpec)

/-- 'cortegelaw42.JournalEntries', WHERE WHAT IT READS IS OF BULK AT MOST 1048576: true; the input reads as it did. -/
def journalEntriesUptoRow : OpenClaim := { program := "ytmdmekdmlkhchaa", sum := "30d97121f4b0e495ce94df50fe1caa096ffab1e23828b30bc60692dd0501888f", func := "cortege/cortegelaw42.JournalEntries", spec := "journalEntries", unfollowed := true, recurses := true, plainKeys := false, apart := false, narrowed := true }
def JournalEntriesUptoSaid : Prop := journalEntriesUptoRow.holds Try.pinned (OpenSpec.upto journalEntriesSpec)

/-- 'cortegelaw04.IdsetMinus', WHERE WHAT IT READS IS OF BULK AT MOST 1048576: true; the input reads as it did. -/
def idsetMinusUptoRow : OpenClaim := { program := "ytmdmekdmlkhchaa", sum := "30d97121f4b0e495ce94df50fe1caa096ffab1e23828b30bc60692dd0501888f", func := "cortege/cortegelaw04.IdsetMinus", spec := "idsetMinus", unfollowed := true, recurses := true, plainKeys := false, apart := false, narrowed := true }
def IdsetMinusUptoSaid : Prop := idsetMinusUptoRow.holds Try.pinned (OpenSpec.upto idsetMinusSpec)

/-- 'cortegelaw04.IdsetActs', WHERE WHAT IT READS IS OF BULK AT MOST 1048576: true; the input reads as it did. -/
def idsetActsUptoRow : OpenClaim := { program := "ytmdmekdmlkhchaa", sum := "30d97121f4b0e495ce94df50fe1caa096ffab1e23828b30bc60692dd0501888f", func := "cortege/cortegelaw04.IdsetActs", spec := "idsetActs", unfollowed := true, recurses := true, plainKeys := false, apart := false, narrowed := true }
def IdsetActsUptoSaid : Prop := idsetActsUptoRow.holds Try.pinned (OpenSpec.upto idsetActsSpec)

/-- 'cortegelaw22.WaitsActs', WHERE WHAT IT READS IS OF BULK AT MOST 1048576: true; the input reads as it did. -/
def waitsActsUptoRow : OpenClaim := { program := "ytmdmekdmlkhchaa", sum := "30d97121f4b0e495ce94df50fe1caa096ffab1e23828b30bc60692dd0501888f", func := "cortege/cortegelaw22.WaitsActs", spec := "waitsActs", unfollowed := true, recurses := true, plainKeys := false, apart := false, narrowed := true }
def WaitsActsUptoSaid : Prop := waitsActsUptoRow.holds Try.pinned (OpenSpec.upto waitsActsSpec)

/-- 'cortegelaw05.FrontOrder', WHERE WHAT IT READS IS OF BULK AT MOST 1048576: true; the input reads as it did. -/
def frontOrderUptoRow : OpenClaim := { program := "ytmdmekdmlkhchaa", sum := "30d97121f4b0e495ce94df50fe1caa096ffab1e23828b30bc60692dd0501888f", func := "cortege/cortegelaw05.FrontOrder", spec := "frontOrder", unfollowed := true, recurses := true, plainKeys := false, apart := false, narrowed := true }
def FrontOrderUptoSaid : Prop := frontOrderUptoRow.holds Try.pinned (OpenSpec.upto frontOrderSpec)

/-- 'cortegelaw05.FrontMarks', WHERE WHAT IT READS IS OF BULK AT MOST 1048576: true; the input reads as it did. -/
def frontMarksUptoRow : OpenClaim := { program := "ytmdmekdmlkhchaa", sum := "30d97121f4b0e495ce94df50fe1caa096ffab1e23828b30bc60692dd0501888f", func := "cortege/cortegelaw05.FrontMarks", spec := "frontMarks", unfollowed := true, recurses := true, plainKeys := false, apart := false, narrowed := true }
def FrontMarksUptoSaid : Prop := frontMarksUptoRow.holds Try.pinned (OpenSpec.upto frontMarksSpec)

/-- 'cortegelaw15.EdgesTells', WHERE WHAT IT READS IS OF BULK AT MOST 1048576: true; the input reads as it did. -/
def edgesTellsUptoRow : OpenClaim := { program := "ytmdmekdmlkhchaa", sum := "30d97121f4b0e495ce94df50fe1caa096ffab1e23828b30bc60692dd0501888f", func := "cortege/cortegelaw15.EdgesTells", spec := "edgesTells", inPlace := ["math.Float64frombits", "math.Float64bits"], unfollowed := true, recurses := true, plainKeys := false, apart := false, narrowed := true }
def EdgesTellsUptoSaid : Prop := edgesTellsUptoRow.holds Try.pinned (OpenSpec.upto edgesTellsSpec)

end Rows
end Go.Proofs.Ytmdmekdmlkhchaa
