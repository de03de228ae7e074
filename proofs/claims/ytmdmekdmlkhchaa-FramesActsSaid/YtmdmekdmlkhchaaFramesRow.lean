/- The row of the law FramesActs: for every input it returns true, and the input reads as it did. -/
import Derived.Test.YtmdmekdmlkhchaaRows
import Derived.Test.YtmdmekdmlkhchaaFramesLaw
import Derived.Test.YtmdmekdmlkhchaaLift
set_option linter.unusedVariables false
set_option linter.unusedSimpArgs false
namespace Go.Proofs.Ytmdmekdmlkhchaa.framesActs
open Go.ChangeShapes Go.WideShapes Go.ChangeAt Go.RowKit Go.Cw
open Go.ChangeMaps (open_string shut_string)
theorem own : ownKnob Try.prog.godebug = none := by kernel_rfl
theorem laidOut : laidOutB Try.prog = true := by kernel_rfl
theorem cellsAct : Try.prog.cellsOf 28 = 2 := by kernel_rfl
theorem cellsInt : Try.prog.cellsOf 3 = 1 := by kernel_rfl
set_option maxRecDepth 100000 in
theorem opensAct : Opens Try.prog 28 (rCons (rInt .i64) (rCons (rInt .i64) rNil)) :=
  opens_struct Try.underlying28 cellsAct (opensF_cons rfl cellsInt (opens_int Try.underlying3) (opensF_cons rfl cellsInt (opens_int Try.underlying3) opensF_nil))
set_option maxRecDepth 100000 in
theorem opensActs : Opens Try.prog 22 (rSlice 2 (rCons (rInt .i64) (rCons (rInt .i64) rNil))) := opens_slice Try.underlying22 cellsAct (by decide) opensAct

set_option maxRecDepth 100000 in
set_option maxHeartbeats 1600000 in
theorem lifted (os : Os) (started : os.Started) (H : Type) (enc : TypeId × Value → H) :
    ReturnsInHanded {} Try.checked os 3 .any (Rows.framesActsSpec.pre6 enc Try.prog Try.f3 Rows.framesActsRow.domain false) (Rows.framesActsSpec.post enc Try.prog Try.f3 false true false false) := by
  refine returnsInHanded_of_change_sized (C := Try.checked) own started (by kernel_rfl) Try.func3
    (ChangeSpec.witness6 (enc := enc) (C := Try.checked) false ⟨#[], #[.slice none 0 0], []⟩ 8 (by kernel_rfl) (by kernel_rfl) (by kernel_rfl) (by kernel_rfl)) ?_
  intro W base args ds gs before hval0 hW hcnd hsz0 _
  have hsz : (DataW.weightsEach Try.prog (Try.f3.params.toList ++ Rows.framesActsSpec.plain.varTypes Try.prog) (ds ++ gs)).all (· ≤ reachBytes) = true := hsz0
  have hval : ∀ (j : Nat) t v, Try.f3.params[j]? = some t → args[j]? = some v → Value.okWide Try.prog W .any base t v := hval0
  have hW' := hW
  obtain ⟨p, q, hA0, hV, rfl, hfz, hnd⟩ := hW
  have hA : DataW.TrodAll enc Try.prog W 0 (fun _ => true) true Try.f3.params.toList args.toList ds p := hA0
  rw [Try.params3] at hA hval hsz
  obtain ⟨v0, vs0, d0, ds0, p0, q0, hargs, rfl, rfl, h0, r0⟩ := trodAll_cons hA
  obtain ⟨rfl, rfl, rfl⟩ := trodAll_nil r0
  obtain rfl : args = #[v0] := by cases args; simp_all
  obtain ⟨rfl, rfl⟩ := trodVars_none hV
  have k0 := h0
  have lt0 : ∀ x ∈ p0, x.block < W.heap.size := by obtain ⟨m, hm⟩ := k0; exact DataW.trod_lt m _ _ _ hm
  have hv0 := hval 0 22 v0 rfl rfl
  obtain ⟨a0, len0, cap0, rfl⟩ := okWide_slice Try.underlying22 hv0
  obtain ⟨fuel0, hf0⟩ := h0
  obtain ⟨xs0, ho0⟩ := opensActs H enc W 0 _ _ _ _ _ hf0
  obtain ⟨A0, c0, he0, hr0⟩ := rSlice_flat ho0 (fun x => (x.1, x.2.1)) (fun a => [.int .i64 a.1, .int .i64 a.2]) (by rintro x d ⟨_, _, rfl, ⟨rfl, _⟩, _, _, rfl, ⟨rfl, _⟩, rfl⟩; rfl)
  simp only [Value.cells, List.cons.injEq, and_true] at he0
  cases he0
  clear hA0 hval0 hsz0 hsz
  refine (framesActs_any _ _ _ W hr0).mono fun e W' ⟨he, bel⟩ => ?_
  subst he
  exact ⟨_, rfl, _, _, _, [], _, [], hW', trodAll_mk1 (shut_bool Try.underlying4 _), (trodAll_cons_mk (Below.trod laidOut (by kernel_rfl) (of_decide_eq_true (by kernel_rfl)) k0 bel lt0) trodAll_mk0), rfl, bel.frame _, fun h => by cases h⟩
theorem over : Rows.framesActsRow.holds Try.pinned (OpenSpec.ofChange Rows.framesActsSpec) :=
  OpenClaim.holds_of_wide 3 Try.f3 rfl rfl rfl rfl rfl rfl rfl ⟨rfl, rfl, rfl, rfl, rfl⟩ rfl rfl rfl rfl rfl (by kernel_rfl) Try.func3 (by kernel_rfl)
    (of_decide_eq_true (by kernel_rfl)) (by unfold Func.isWrapper; first | (rw [if_pos (by decide +kernel)]; kernel_rfl) | (rw [if_neg (by decide +kernel)]; exact ⟨rfl, rfl⟩))
    (fun os started H enc _ => lifted os started H enc)
theorem proved : Rows.FramesActsSaid := over
#print axioms proved
end Go.Proofs.Ytmdmekdmlkhchaa.framesActs
namespace Go.Proofs.Ytmdmekdmlkhchaa
/-- The row, under a short name, for the claim. -/
theorem framesActs_holds : Rows.FramesActsSaid := framesActs.proved
end Go.Proofs.Ytmdmekdmlkhchaa
