/- The row of the law IdsetActs: for every input it returns true, and the input reads as it did. -/
import Derived.Test.YtmdmekdmlkhchaaRows
import Derived.Test.YtmdmekdmlkhchaaIdsetActs
import Derived.Test.YtmdmekdmlkhchaaLift
set_option linter.unusedVariables false
set_option linter.unusedSimpArgs false
namespace Go.Proofs.Ytmdmekdmlkhchaa.idsetActs
open Go.ChangeShapes Go.WideShapes Go.ChangeAt Go.RowKit Go.Cw
open Go.ChangeMaps (open_string shut_string)
theorem own : ownKnob Try.prog.godebug = none := by kernel_rfl
theorem laidOut : laidOutB Try.prog = true := by kernel_rfl
theorem cellsId : Try.prog.cellsOf 42 = 2 := by kernel_rfl
theorem cellsInt : Try.prog.cellsOf 3 = 1 := by kernel_rfl
set_option maxRecDepth 100000 in
theorem opensId : Opens Try.prog 42 (rCons (rInt .i64) (rCons (rInt .i64) rNil)) :=
  opens_struct Try.underlying42 cellsId (opensF_cons rfl cellsInt (opens_int Try.underlying3) (opensF_cons rfl cellsInt (opens_int Try.underlying3) opensF_nil))
set_option maxRecDepth 100000 in
theorem opensIds : Opens Try.prog 47 (rSlice 2 (rCons (rInt .i64) (rCons (rInt .i64) rNil))) := opens_slice Try.underlying47 cellsId (by decide) opensId
theorem cellsAct : Try.prog.cellsOf 96 = 3 := by kernel_rfl
theorem cellsBool : Try.prog.cellsOf 4 = 1 := by kernel_rfl
set_option maxRecDepth 100000 in
theorem opensAct : Opens Try.prog 96 (rCons rBool (rCons (rCons (rInt .i64) (rCons (rInt .i64) rNil)) rNil)) :=
  opens_struct Try.underlying96 cellsAct (opensF_cons rfl cellsBool (opens_bool Try.underlying4) (opensF_cons rfl cellsId opensId opensF_nil))
set_option maxRecDepth 100000 in
theorem opensActs : Opens Try.prog 94 (rSlice 3 (rCons rBool (rCons (rCons (rInt .i64) (rCons (rInt .i64) rNil)) rNil))) := opens_slice Try.underlying94 cellsAct (by decide) opensAct

set_option maxRecDepth 100000 in
set_option maxHeartbeats 1600000 in
theorem lifted (os : Os) (started : os.Started) (H : Type) (enc : TypeId × Value → H) :
    ReturnsInHanded {} Try.checked os 9 .any (Rows.idsetActsSpec.pre6 enc Try.prog Try.f9 Rows.idsetActsRow.domain false) (Rows.idsetActsSpec.post enc Try.prog Try.f9 false true false false) := by
  refine returnsInHanded_of_change_sized (C := Try.checked) own started (by kernel_rfl) Try.func9
    (ChangeSpec.witness6 (enc := enc) (C := Try.checked) false ⟨#[], #[.slice none 0 0, .slice none 0 0], []⟩ 8 (by kernel_rfl) (by kernel_rfl) (by kernel_rfl) (by kernel_rfl)) ?_
  intro W base args ds gs before hval0 hW hcnd hsz0 _
  have hsz : (DataW.weightsEach Try.prog (Try.f9.params.toList ++ Rows.idsetActsSpec.plain.varTypes Try.prog) (ds ++ gs)).all (· ≤ reachBytes) = true := hsz0
  have hval : ∀ (j : Nat) t v, Try.f9.params[j]? = some t → args[j]? = some v → Value.okWide Try.prog W .any base t v := hval0
  have hW' := hW
  obtain ⟨p, q, hA0, hV, rfl, hfz, hnd⟩ := hW
  have hA : DataW.TrodAll enc Try.prog W 0 (fun _ => true) true Try.f9.params.toList args.toList ds p := hA0
  rw [Try.params9] at hA hval hsz
  obtain ⟨v0, vs0, d0, ds0, p0, q0, hargs, rfl, rfl, h0, r0⟩ := trodAll_cons hA
  obtain ⟨v1, vs1, d1, ds1, p1, q1, rfl, rfl, rfl, h1, r1⟩ := trodAll_cons r0
  obtain ⟨rfl, rfl, rfl⟩ := trodAll_nil r1
  obtain rfl : args = #[v0, v1] := by cases args; simp_all
  obtain ⟨rfl, rfl⟩ := trodVars_none hV
  have k0 := h0
  have lt0 : ∀ x ∈ p0, x.block < W.heap.size := by obtain ⟨m, hm⟩ := k0; exact DataW.trod_lt m _ _ _ hm
  have hv0 := hval 0 47 v0 rfl rfl
  obtain ⟨a0, len0, cap0, rfl⟩ := okWide_slice Try.underlying47 hv0
  obtain ⟨fuel0, hf0⟩ := h0
  obtain ⟨xs0, ho0⟩ := opensIds H enc W 0 _ _ _ _ _ hf0
  obtain ⟨A0, c0, he0, hr0⟩ := rSlice_flat ho0 (fun x => (x.1, x.2.1)) (fun a => [.int .i64 a.1, .int .i64 a.2]) (by rintro x d ⟨_, _, rfl, ⟨rfl, _⟩, _, _, rfl, ⟨rfl, _⟩, rfl⟩; rfl)
  simp only [Value.cells, List.cons.injEq, and_true] at he0
  cases he0
  have k1 := h1
  have lt1 : ∀ x ∈ p1, x.block < W.heap.size := by obtain ⟨m, hm⟩ := k1; exact DataW.trod_lt m _ _ _ hm
  have hv1 := hval 1 94 v1 rfl rfl
  obtain ⟨a1, len1, cap1, rfl⟩ := okWide_slice Try.underlying94 hv1
  obtain ⟨fuel1, hf1⟩ := h1
  obtain ⟨xs1, ho1⟩ := opensActs H enc W 0 _ _ _ _ _ hf1
  obtain ⟨A1, c1, he1, hr1⟩ := rSlice_flat ho1 (fun x => (x.1, x.2.1.1, x.2.1.2.1)) (fun a => [.bool a.1, .int .i64 a.2.1, .int .i64 a.2.2]) (by rintro x d ⟨_, _, rfl, rfl, _, _, rfl, ⟨_, _, rfl, ⟨rfl, _⟩, _, _, rfl, ⟨rfl, _⟩, rfl⟩, rfl⟩; rfl)
  simp only [Value.cells, List.cons.injEq, and_true] at he1
  cases he1
  clear hA0 hval0 hsz0 hsz
  refine (idsetActs_any _ _ _ _ W hr0 hr1).mono fun e W' ⟨he, bel⟩ => ?_
  subst he
  exact ⟨_, rfl, _, _, _, [], _, [], hW', trodAll_mk1 (shut_bool Try.underlying4 _), (trodAll_cons_mk (Below.trod laidOut (by kernel_rfl) (of_decide_eq_true (by kernel_rfl)) k0 bel lt0) (trodAll_cons_mk (Below.trod laidOut (by kernel_rfl) (of_decide_eq_true (by kernel_rfl)) k1 bel lt1) trodAll_mk0)), rfl, bel.frame _, fun h => by cases h⟩
theorem over : Rows.idsetActsRow.holds Try.pinned (OpenSpec.ofChange Rows.idsetActsSpec) :=
  OpenClaim.holds_of_wide 9 Try.f9 rfl rfl rfl rfl rfl rfl rfl ⟨rfl, rfl, rfl, rfl, rfl⟩ rfl rfl rfl rfl rfl (by kernel_rfl) Try.func9 (by kernel_rfl)
    (of_decide_eq_true (by kernel_rfl)) (by unfold Func.isWrapper; first | (rw [if_pos (by decide +kernel)]; kernel_rfl) | (rw [if_neg (by decide +kernel)]; exact ⟨rfl, rfl⟩))
    (fun os started H enc _ => lifted os started H enc)
theorem proved : Rows.IdsetActsSaid := over
#print axioms proved
end Go.Proofs.Ytmdmekdmlkhchaa.idsetActs
namespace Go.Proofs.Ytmdmekdmlkhchaa
/-- The row, under a short name, for the claim. -/
theorem idsetActs_holds : Rows.IdsetActsSaid := idsetActs.proved
end Go.Proofs.Ytmdmekdmlkhchaa
