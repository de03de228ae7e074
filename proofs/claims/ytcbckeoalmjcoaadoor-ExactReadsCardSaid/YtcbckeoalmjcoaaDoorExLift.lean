/- Rows of a door seat: what the listed variables, and the start's shape, give the walks; one start that fits; arguments. -/
import Derived.Test.YtcbckeoalmjcoaaDoorNums
import Derived.Test.YtcbckeoalmjcoaaDoorLift
import Derived.Test.YtcbckeoalmjcoaaDoorRows
import Derived.Test.YtcbckeoalmjcoaaDoorCards
import Derived.Test.YtcbckeoalmjcoaaDoorTie
import Derived.ProofKit
import Derived.LaidMore
import Derived.OpenShut
import Derived.Stop.Joined
import Derived.Stop.LaidErr
import Derived.Lib.LaidTab
import Derived.Shelf.Vars
import Derived.SevenTiedAt
set_option linter.unusedVariables false
set_option linter.unusedSimpArgs false
namespace Go.Cw
open Go.RowKit Go.ChangeShapes Go.WideShapes Go.ChangeAt
/-- A law's row where the start's shape is wanted, too. -/
theorem returns_open {H : Type} {enc : TypeId × Value → H} {a : Assume} {C : Checked} {os : Os} {f : FuncId} {fn : Func} {s : ChangeSpec} {conds : List PathCond} {apart fresh handsOn again : Bool} {X : World → Array Value → Prop}
    (hX : ∀ (w w' : World) (args : Array Value), w.heap = w'.heap → X w args → X w' args)
    (own : ownKnob C.prog.godebug = none) (started : os.Started) (noInit : C.prog.inits.idxOf? f = none) (hfn : C.prog.funcs[f]? = some fn)
    (witness : ∃ (w : World) (tape : Tape) (i : Input), w.os = os ∧ (w.forCall tape i).Shaped C.prog ∧ i.vars = [] ∧ Input.okWide C.prog (w.forCall tape i) .any w.heap.size f i ∧
      ((s.pre enc C.prog fn conds apart (w.forCall tape i).memory i.args ∧ X (w.forCall tape i).memory i.args) ∧ sizedMet enc C.prog fn (OpenSpec.ofChange s) apart (w.forCall tape i).memory i.args) ∧ a.holds C.prog (lone (Frame.enter C.prog f i.args .normal) [] (w.forCall tape i)))
    (contract : ∀ (W : World) (base : Nat) (args : Array Value) (ds gs : List (DataW H)) (before : List MemPlace), W.ShapedOpen C.prog →
      (∀ (j : Nat) t v, fn.params[j]? = some t → args[j]? = some v → Value.okWide C.prog W .any base t v) →
      DataW.Whole enc C.prog fn.params.toList s.vars apart W args.toList ds gs before →
      (DataW.weightsEach C.prog (fn.params.toList ++ s.plain.varTypes C.prog) (ds ++ gs)).all (· ≤ reachBytes) = true → X W args →
      Calls C.prog f args W fun e W' => ∃ v, e = .returned v ∧ s.post enc C.prog fn apart fresh handsOn again W args v W') :
    ReturnsInHanded a C os f .any (fun w args => (s.pre enc C.prog fn conds apart w args ∧ X w args) ∧ sizedMet enc C.prog fn (OpenSpec.ofChange s) apart w args) (s.post enc C.prog fn apart fresh handsOn again) := by
  refine returnsInHanded_of_calls own started noInit witness ?_
  intro w tape i _ hsh _ hok hpre _
  obtain ⟨_, _, _, fn', hfn', _, _, _, _, hval⟩ := hok
  obtain rfl : fn' = fn := Option.some.inj (hfn'.symm.trans hfn)
  obtain ⟨⟨⟨ds, gs, before, hw, _⟩, hx⟩, hz⟩ := hpre
  refine (contract (w.forCall tape i) w.heap.size i.args ds gs before hsh hval (DataW.Whole.of_heap (w' := w.forCall tape i) (by rfl) hw) (hz.weights hw) (hX _ _ _ (by rfl) hx)).mono fun e W' ⟨v, he, hp⟩ => ?_
  subst he
  exact ChangeSpec.post_blind hp
theorem lists_exD {α β : Type} {R : α → List Value → Prop} (enc : β → List Value) (P : β → Prop) (hR : ∀ x d, R x d → ∃ b, d = enc b ∧ P b) : ∀ (xs : List α) (css : List (List Value)), css.length = xs.length → (∀ (i : Nat) (x : α) (d : List Value), xs[i]? = some x → css[i]? = some d → R x d) → ∃ ys : List β, ys.length = xs.length ∧ css.flatten = ys.flatMap enc ∧ ∀ y ∈ ys, P y
  | [], [], _, _ => ⟨[], rfl, rfl, by simp⟩
  | x :: xs, d :: css, hl, h => by
    obtain ⟨b, rfl, hb⟩ := hR x d (h 0 x d rfl rfl)
    obtain ⟨ys, h1, h2, h3⟩ := lists_exD enc P hR xs css (by simpa using hl) (fun i x' d' hx hd => h (i + 1) x' d' hx hd)
    exact ⟨b :: ys, by simp [h1], by simp [h2], fun y hy => (List.mem_cons.1 hy).elim (fun e => e ▸ hb) (h3 y)⟩
theorem rSlice_exD {α β : Type} {sz : Nat} {R : Rel α} {W : World} {xs : List α} {cs : List Value} (h : rSlice sz R W xs cs) (enc : β → List Value) (P : β → Prop) (hR : ∀ x d, R W x d → ∃ b, d = enc b ∧ P b) :
    ∃ (A : Option Addr) (c : Nat) (ys : List β), cs = [.slice A ys.length c] ∧ Rw W sz (.slice A ys.length c) (ys.flatMap enc) ∧ ∀ y ∈ ys, P y := by
  obtain ⟨A, c, css, rfl, hrw, hl, hel⟩ := h
  obtain ⟨ys, h1, h2, h3⟩ := lists_exD enc P hR xs css hl (fun i x d hx hd => (hel i x d hx hd).2)
  rw [h2] at hrw
  exact ⟨A, c, ys, by rw [h1], by rw [h1]; exact hrw, h3⟩
theorem agg_ofD {v : Value} {cs : List Value} (h : v.cells.toList = cs) (h2 : 2 ≤ cs.length) : v = .agg cs.toArray := by
  cases v with
  | agg a => simp only [Value.cells] at h; subst h; simp
  | _ => simp only [Value.cells] at h; subst h; simp at h2
end Go.Cw
namespace Go.Proofs.YtcbckeoalmjcoaaDoor
open Go.RowKit Go.Cw Go.ChangeShapes Go.WideShapes Go.ChangeAt
theorem own : ownKnob Tryd.prog.godebug = none := by kernel_rfl
theorem laidOut : laidOutB Tryd.prog = true := by kernel_rfl
theorem ld_int : Tryd.prog.cellsOf 3 = 1 := by kernel_rfl
theorem ld_id : Tryd.prog.cellsOf 23 = 2 := by kernel_rfl
theorem lp_int : Opens Tryd.prog 3 (rInt .i64) := opens_int Tryd.underlying3
abbrev rIdD : Rel (Int × Int × Unit) := rCons (rInt .i64) (rCons (rInt .i64) rNil)
set_option maxRecDepth 100000 in
theorem lo_id : Opens Tryd.prog 23 rIdD := opens_struct Tryd.underlying23 ld_id (opensF_cons rfl ld_int lp_int (opensF_cons rfl ld_int lp_int opensF_nil))
set_option maxRecDepth 100000 in
theorem lo_ids : Opens Tryd.prog 35 (rSlice 2 rIdD) := opens_slice Tryd.underlying35 ld_id (by decide) lo_id
theorem idR {W : World} {x : Int × Int × Unit} {d : List Value} (h : rIdD W x d) : d = idc (x.1, x.2.1) := by
  obtain ⟨_, _, rfl, ⟨rfl, _⟩, ⟨_, _, rfl, ⟨rfl, _⟩, rfl⟩⟩ := h
  rfl
theorem idsR {W : World} {xs : List (Int × Int × Unit)} {cs : List Value} (h : rSlice 2 rIdD W xs cs) : ∃ (A : Option Addr) (c : Nat) (l : List Id), cs = [.slice A l.length c] ∧ Rw W 2 (.slice A l.length c) (idl l) := by
  obtain ⟨A, c, ys, h1, h2, _⟩ := rSlice_exD h idc (fun _ => True) (fun x d hx => ⟨(x.1, x.2.1), idR hx, trivial⟩)
  exact ⟨A, c, ys, h1, h2⟩
theorem gER : Tryd.prog.globalNamed "strconv.ErrRange" = some 3 := by kernel_rfl
theorem gERt : (Tryd.prog.globals[3]?).map (·.type) = some 59 := by kernel_rfl
theorem gES : Tryd.prog.globalNamed "strconv.ErrSyntax" = some 2 := by kernel_rfl
theorem gESt : (Tryd.prog.globals[2]?).map (·.type) = some 59 := by kernel_rfl
theorem gPow : Tryd.prog.globalNamed "internal/strconv.uint64pow10" = some 4 := by kernel_rfl
theorem gPowt : (Tryd.prog.globals[4]?).map (·.type) = some 139 := by kernel_rfl
theorem ce_err : Tryd.prog.cellsOf 148 = 1 := by kernel_rfl
theorem ce_str : Tryd.prog.cellsOf 9 = 1 := by kernel_rfl
theorem ce_u64 : Tryd.prog.cellsOf 97 = 1 := by kernel_rfl
theorem ce_pow : Tryd.prog.cellsOf 139 = 20 := by kernel_rfl
theorem starE : "*" ++ "errors.errorString" = "*errors.errorString" := by decide
theorem rowE (u : TypeId) (h : Tryd.prog.typeName? 3 u = some "*errors.errorString") : u = 146 :=
  typeName_ptr_named (nm := "errors.errorString") (by rw [starE]; kernel_rfl) (by kernel_rfl) (by decide) u (by rw [starE]; exact h)
abbrev laidV : List (String × DataW Unit) := Rows.exactTextsRow.laid
/-- What the listed variables, and the start's shape, give. -/
theorem vs_of {W : World} (hs : W.ShapedOpen Tryd.prog) (h : laidMetH Tryd.prog laidV W) : Vx W := by
  rw [MakeChecks.laidMetH_plain _ _ _ (by kernel_rfl)] at h
  have h3 := h.tail.tail
  obtain ⟨a0, s0, hv0, -, -, -⟩ := laid_sentinel h3.tail gER gERt Tryd.underlying59 rowE Tryd.underlying146 Tryd.underlying148 rfl rfl Tryd.underlying9 ce_err ce_str
  obtain ⟨a1, s1, hv1, -, -, -⟩ := laid_sentinel h3.tail.tail gES gESt Tryd.underlying59 rowE Tryd.underlying146 Tryd.underlying148 rfl rfl Tryd.underlying9 ce_err ce_str
  exact ⟨Lib.tabIs_of_head gPow gPowt Tryd.underlying139 Tryd.underlying97 ce_u64 ce_pow h3, ⟨_, _, hv1⟩, ⟨_, _, hv0⟩,
    cell_of_shapedOpen_int (zero := #[.int .i64 0]) (t := 3) hs (of_decide_eq_true (by kernel_rfl)) (by kernel_rfl) rfl (by kernel_rfl) (by kernel_rfl) Tryd.underlying3⟩
/-- The door's own heap meets the condition. -/
theorem door_met (os : Os) (args : Array Value) : laidMetH Tryd.prog laidV ((World.doorLaid Tryd.prog 400 os).forCall (fun _ _ => 0) ⟨#[], args, []⟩).memory :=
  laidMetH_of_parts3 (fuel := 8) (laidMet_of_run' 8 (by kernel_rfl) (by kernel_rfl)) (by kernel_rfl) (by kernel_rfl)
end Go.Proofs.YtcbckeoalmjcoaaDoor
