/-
  No cell of these rows narrows 'for every input' (looked for: loops, veiled, ifaces, maps, wideKeys, modest, calm, conditions, laid).
  DERIVED. THE GIVEN ROWS OF THIS SEAT. 5 by the template 'for every input the law returns true; each argument reads behind the call as it read before'; 0 by the template 'total and deterministic' (their statements: YtcbckeoalmjcoaaGreatTotals.lean).
  GIVEN WITH THE SEED: the statements are not yours to turn. If you find one false, say at which input.
  Laid BY PROGRAM, IN A SANDBOX (cutbox-rows.mjs): the forced cells as the released guide's own fill.sh prints them over the translation 77fd3cff50d07b47… (all of the seat's roots in one cut). By AI agents, Wed Nov 11 2026. No macro, syntax, notation, axiom, sorry.
-/
import Derived.Test.YtcbckeoalmjcoaaGreatChecked
import GoSem.Claim
import GoSem.ClaimJoined
import GoSem.ClaimMapViews
import Derived.JoinedTies
import Derived.KernelRfl
namespace Go.Proofs.YtcbckeoalmjcoaaGreat
/- THE CELL 'sum', in the pinned program and in every row, IS THE sha256 OF THE DUMP (.gsa) THAT YtcbckeoalmjcoaaGreatProg.lean LOADS. Nothing in Lean hashes anything: it is a label: what it is worth is what the hold of that sum in a sandbox is worth. -/
noncomputable def Tryz.pinned : Pinned := { name := "ytcbckeoalmjcoaagreat", sum := "77fd3cff50d07b4763d7cf1ce8fe27d7a82148cec6bf8901527b1aa9825511b6", checked := Tryz.checked }
namespace Rows
def none {H : Type} : Left H := { results := [], args := [] }

/-- 'cortegelaw17.CompsTells': WHATEVER THE INPUT: true; the input reads as it did. -/
def compsTellsSpec : ChangeSpec := { name := "compsTells", fn := fun _ => fun
  | [d] => { results := [.lit (.bool true)], args := [d] }
  | _ => none }
def compsTellsRow : OpenClaim := { program := "ytcbckeoalmjcoaagreat", sum := "77fd3cff50d07b4763d7cf1ce8fe27d7a82148cec6bf8901527b1aa9825511b6", func := "cortege/cortegelaw17.CompsTells", spec := "compsTells", inPlace := ["math.Float64frombits", "math.Float64bits"], unfollowed := true, recurses := true, plainKeys := false, apart := false }
def CompsTellsSaid : Prop := compsTellsRow.holds Tryz.pinned (OpenSpec.ofChange compsTellsSpec)

/-- ITS FALSE NEIGHBOUR: 'it returns false'. Refute it at one input. -/
def compsTellsWrong : ChangeSpec := { name := "compsTells", fn := fun _ => fun
  | [d] => { results := [.lit (.bool false)], args := [d] }
  | _ => none }
def CompsTellsWrongFalsely : Prop := compsTellsRow.holds Tryz.pinned (OpenSpec.ofChange compsTellsWrong)

/-- 'cortegelaw17.CompsSorts': WHATEVER THE INPUT: true; the input reads as it did. -/
def compsSortsSpec : ChangeSpec := { name := "compsSorts", fn := fun _ => fun
  | [d1, d2, d3] => { results := [.lit (.bool true)], args := [d1, d2, d3] }
  | _ => none }
def compsSortsRow : OpenClaim := { program := "ytcbckeoalmjcoaagreat", sum := "77fd3cff50d07b4763d7cf1ce8fe27d7a82148cec6bf8901527b1aa9825511b6", func := "cortege/cortegelaw17.CompsSorts", spec := "compsSorts", inPlace := ["math.Float64frombits", "math.Float64bits"], unfollowed := true, recurses := true, plainKeys := false, apart := false }
def CompsSortsSaid : Prop := compsSortsRow.holds Tryz.pinned (OpenSpec.ofChange compsSortsSpec)

/-- ITS FALSE NEIGHBOUR: 'it returns false'. Refute it at one input. -/
def compsSortsWrong : ChangeSpec := { name := "compsSorts", fn := fun _ => fun
  | [d1, d2, d3] => { results := [.lit (.bool false)], args := [d1, d2, d3] }
  | _ => none }
def CompsSortsWrongFalsely : Prop := compsSortsRow.holds Tryz.pinned (OpenSpec.ofChange compsSortsWrong)

/-- 'cortegelaw17.CompsParts': WHATEVER THE INPUT: true; the input reads as it did. -/
def compsPartsSpec : ChangeSpec := { name := "compsParts", fn := fun _ => fun
  | [d] => { results := [.lit (.bool true)], args := [d] }
  | _ => none }
def compsPartsRow : OpenClaim := { program := "ytcbckeoalmjcoaagreat", sum := "77fd3cff50d07b4763d7cf1ce8fe27d7a82148cec6bf8901527b1aa9825511b6", func := "cortege/cortegelaw17.CompsParts", spec := "compsParts", inPlace := ["math.Float64frombits", "math.Float64bits"], unfollowed := true, recurses := true, plainKeys := false, apart := false }
def CompsPartsSaid : Prop := compsPartsRow.holds Tryz.pinned (OpenSpec.ofChange compsPartsSpec)

/-- ITS FALSE NEIGHBOUR: 'it returns false'. Refute it at one input. -/
def compsPartsWrong : ChangeSpec := { name := "compsParts", fn := fun _ => fun
  | [d] => { results := [.lit (.bool false)], args := [d] }
  | _ => none }
def CompsPartsWrongFalsely : Prop := compsPartsRow.holds Tryz.pinned (OpenSpec.ofChange compsPartsWrong)

/-- 'cortegelaw18.CanonRight': WHATEVER THE INPUT: true; the input reads as it did. -/
def canonRightSpec : ChangeSpec := { name := "canonRight", fn := fun _ => fun
  | [d1, d2] => { results := [.lit (.bool true)], args := [d1, d2] }
  | _ => none }
def canonRightRow : OpenClaim := { program := "ytcbckeoalmjcoaagreat", sum := "77fd3cff50d07b4763d7cf1ce8fe27d7a82148cec6bf8901527b1aa9825511b6", func := "cortege/cortegelaw18.CanonRight", spec := "canonRight", inPlace := ["math.Float64frombits", "math.Float64bits"], unfollowed := true, recurses := true, plainKeys := false, apart := false }
def CanonRightSaid : Prop := canonRightRow.holds Tryz.pinned (OpenSpec.ofChange canonRightSpec)

/-- ITS FALSE NEIGHBOUR: 'it returns false'. Refute it at one input. -/
def canonRightWrong : ChangeSpec := { name := "canonRight", fn := fun _ => fun
  | [d1, d2] => { results := [.lit (.bool false)], args := [d1, d2] }
  | _ => none }
def CanonRightWrongFalsely : Prop := canonRightRow.holds Tryz.pinned (OpenSpec.ofChange canonRightWrong)

/-- 'cortegelaw18.CanonOrders': WHATEVER THE INPUT: true; the input reads as it did. -/
def canonOrdersSpec : ChangeSpec := { name := "canonOrders", fn := fun _ => fun
  | [d] => { results := [.lit (.bool true)], args := [d] }
  | _ => none }
def canonOrdersRow : OpenClaim := { program := "ytcbckeoalmjcoaagreat", sum := "77fd3cff50d07b4763d7cf1ce8fe27d7a82148cec6bf8901527b1aa9825511b6", func := "cortege/cortegelaw18.CanonOrders", spec := "canonOrders", inPlace := ["math.Float64frombits", "math.Float64bits"], unfollowed := true, recurses := true, plainKeys := false, apart := false }
def CanonOrdersSaid : Prop := canonOrdersRow.holds Tryz.pinned (OpenSpec.ofChange canonOrdersSpec)

/-- ITS FALSE NEIGHBOUR: 'it returns false'. Refute it at one input. -/
def canonOrdersWrong : ChangeSpec := { name := "canonOrders", fn := fun _ => fun
  | [d] => { results := [.lit (.bool false)], args := [d] }
  | _ => none }
def CanonOrdersWrongFalsely : Prop := canonOrdersRow.holds Tryz.pinned (OpenSpec.ofChange canonOrdersWrong)

/- THE SECOND FORM. 'bulk': how many values and letters a reading holds, each counted each time it is reached (what is shared counts as often as it is met; a slice's spare places count too). A statement '..UptoSaid' is the law's where the arguments, and the package variables that the reading takes, are together of bulk at most 1048576: NARROWER than '..Said'. Prove '..Said' where nothing that the law and all that it calls make is longer than what came in: it says more and counts as full. Else prove '..UptoSaid'. A law counts once. -/
mutual
def uptoBulk {H : Type} : DataW H → Nat
  | .lit (.string bytes) => bytes.length + 1
  | .lit _ => 1
  | .nil => 1
  | .ptr d => uptoBulk d + 1
  | .slice elems spare => uptoBulkAll elems + uptoBulkAll spare + 1
  | .agg parts => uptoBulkAll parts + 1
  | .iface _ d => uptoBulk d + 1
  | .map entries => uptoBulkEntries entries + 1
  | .held _ => 1
def uptoBulkAll {H : Type} : List (DataW H) → Nat
  | [] => 0
  | d :: r => uptoBulk d + uptoBulkAll r
def uptoBulkEntries {H : Type} : List (Lit × DataW H) → Nat
  | [] => 0
  | x :: r => uptoBulkEntry x + uptoBulkEntries r
def uptoBulkEntry {H : Type} : Lit × DataW H → Nat
  | (.string bytes, d) => bytes.length + uptoBulk d + 1
  | (_, d) => uptoBulk d + 1
 end
def uptoSmall : (H : Type) → List (DataW H) → Bool := fun _ ds => decide (uptoBulkAll ds ≤ 1048576)
def OpenSpec.upto (s : _root_.Go.ChangeSpec) : _root_.Go.OpenSpec := { _root_.Go.OpenSpec.ofChange s with cond := some uptoSmall }

/-- 'cortegelaw17.CompsTells', WHERE WHAT IT READS IS OF BULK AT MOST 1048576: true; the input reads as it did. -/
def compsTellsUptoRow : OpenClaim := { program := "ytcbckeoalmjcoaagreat", sum := "77fd3cff50d07b4763d7cf1ce8fe27d7a82148cec6bf8901527b1aa9825511b6", func := "cortege/cortegelaw17.CompsTells", spec := "compsTells", inPlace := ["math.Float64frombits", "math.Float64bits"], unfollowed := true, recurses := true, plainKeys := false, apart := false, narrowed := true }
def CompsTellsUptoSaid : Prop := compsTellsUptoRow.holds Tryz.pinned (OpenSpec.upto compsTellsSpec)

/-- 'cortegelaw17.CompsSorts', WHERE WHAT IT READS IS OF BULK AT MOST 1048576: true; the input reads as it did. -/
def compsSortsUptoRow : OpenClaim := { program := "ytcbckeoalmjcoaagreat", sum := "77fd3cff50d07b4763d7cf1ce8fe27d7a82148cec6bf8901527b1aa9825511b6", func := "cortege/cortegelaw17.CompsSorts", spec := "compsSorts", inPlace := ["math.Float64frombits", "math.Float64bits"], unfollowed := true, recurses := true, plainKeys := false, apart := false, narrowed := true }
def CompsSortsUptoSaid : Prop := compsSortsUptoRow.holds Tryz.pinned (OpenSpec.upto compsSortsSpec)

/-- 'cortegelaw17.CompsParts', WHERE WHAT IT READS IS OF BULK AT MOST 1048576: true; the input reads as it did. -/
def compsPartsUptoRow : OpenClaim := { program := "ytcbckeoalmjcoaagreat", sum := "77fd3cff50d07b4763d7cf1ce8fe27d7a82148cec6bf8901527b1aa9825511b6", func := "cortege/cortegelaw17.CompsParts", spec := "compsParts", inPlace := ["math.Float64frombits", "math.Float64bits"], unfollowed := true, recurses := true, plainKeys := false, apart := false, narrowed := true }
def CompsPartsUptoSaid : Prop := compsPartsUptoRow.holds Tryz.pinned (OpenSpec.upto compsPartsSpec)

/-- 'cortegelaw18.CanonRight', WHERE WHAT IT READS IS OF BULK AT MOST 1048576: true; the input reads as it did. -/
def canonRightUptoRow : OpenClaim := { program := "ytcbckeoalmjcoaagreat", sum := "77fd3cff50d07b4763d7cf1ce8fe27d7a82148cec6bf8901527b1aa9825511b6", func := "cortege/cortegelaw18.CanonRight", spec := "canonRight", inPlace := ["math.Float64frombits", "math.Float64bits"], unfollowed := true, recurses := true, plainKeys := false, apart := false, narrowed := true }
def CanonRightUptoSaid : Prop := canonRightUptoRow.holds Tryz.pinned (OpenSpec.upto canonRightSpec)

/-- 'cortegelaw18.CanonOrders', WHERE WHAT IT READS IS OF BULK AT MOST 1048576: true; the input reads as it did. -/
def canonOrdersUptoRow : OpenClaim := { program := "ytcbckeoalmjcoaagreat", sum := "77fd3cff50d07b4763d7cf1ce8fe27d7a82148cec6bf8901527b1aa9825511b6", func := "cortege/cortegelaw18.CanonOrders", spec := "canonOrders", inPlace := ["math.Float64frombits", "math.Float64bits"], unfollowed := true, recurses := true, plainKeys := false, apart := false, narrowed := true }
def CanonOrdersUptoSaid : Prop := canonOrdersUptoRow.holds Tryz.pinned (OpenSpec.upto canonOrdersSpec)

end Rows
end Go.Proofs.YtcbckeoalmjcoaaGreat
