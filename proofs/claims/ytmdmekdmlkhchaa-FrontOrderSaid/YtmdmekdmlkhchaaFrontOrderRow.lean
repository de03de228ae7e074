/- The row of the law FrontOrder: for every input it returns true, and the input reads as it did. -/
import Derived.Test.YtmdmekdmlkhchaaRows
import Derived.Test.YtmdmekdmlkhchaaFrontLaw
import Derived.Test.YtmdmekdmlkhchaaLift
set_option linter.unusedVariables false
set_option linter.unusedSimpArgs false
namespace Go.Proofs.Ytmdmekdmlkhchaa.frontOrder
open Go.ChangeShapes Go.WideShapes Go.ChangeAt Go.RowKit Go.Cw
open Go.ChangeMaps (open_string shut_string)
theorem own : ownKnob Try.prog.godebug = none := by kernel_rfl
theorem laidOut : laidOutB Try.prog = true := by kernel_rfl
theorem cells_0 : Try.prog.cellsOf 3 = 1 := by kernel_rfl
set_option maxRecDepth 100000 in
theorem opens_0 : Opens Try.prog 3 (rInt .i64) := opens_int Try.underlying3
theorem cells_1 : Try.prog.cellsOf 42 = 2 := by kernel_rfl
set_option maxRecDepth 100000 in
theorem opens_1 : Opens Try.prog 42 (rCons (rInt .i64) (rCons (rInt .i64) rNil)) := opens_struct Try.underlying42 cells_1 (opensF_cons rfl cells_0 opens_0 (opensF_cons rfl cells_0 opens_0 opensF_nil))
theorem cells_2 : Try.prog.cellsOf 47 = 1 := by kernel_rfl
set_option maxRecDepth 100000 in
theorem opens_2 : Opens Try.prog 47 (rSlice 2 (rCons (rInt .i64) (rCons (rInt .i64) rNil))) := opens_slice Try.underlying47 cells_1 (by decide) opens_1
theorem cells_3 : Try.prog.cellsOf 5 = 1 := by kernel_rfl
set_option maxRecDepth 100000 in
theorem opens_3 : Opens Try.prog 5 (rInt .u8) := opens_int Try.underlying5
set_option maxRecDepth 100000 in
set_option maxHeartbeats 1600000 in
theorem lifted (os : Os) (started : os.Started) (H : Type) (enc : TypeId × Value → H) :
    ReturnsInHanded {} Try.checked os 11 .any (Rows.frontOrderSpec.pre6 enc Try.prog Try.f11 Rows.frontOrderRow.domain false) (Rows.frontOrderSpec.post enc Try.prog Try.f11 false true false false) := by
  refine returnsInHanded_of_change_sized (C := Try.checked) own started (by kernel_rfl) Try.func11
    (ChangeSpec.witness6 (enc := enc) (C := Try.checked) false ⟨#[], #[.slice none 0 0, .int .u8 0], []⟩ 8 (by kernel_rfl) (by kernel_rfl) (by kernel_rfl) (by kernel_rfl)) ?_
  intro W base args ds gs before hval0 hW hcnd hsz0 _
  have hsz : (DataW.weightsEach Try.prog (Try.f11.params.toList ++ Rows.frontOrderSpec.plain.varTypes Try.prog) (ds ++ gs)).all (· ≤ reachBytes) = true := hsz0
  have hval : ∀ (j : Nat) t v, Try.f11.params[j]? = some t → args[j]? = some v → Value.okWide Try.prog W .any base t v := hval0
  have hW' := hW
  obtain ⟨p, q, hA0, hV, rfl, hfz, hnd⟩ := hW
  have hA : DataW.TrodAll enc Try.prog W 0 (fun _ => true) true Try.f11.params.toList args.toList ds p := hA0
  rw [Try.params11] at hA hval hsz
  obtain ⟨v0, vs0, d0, ds0, p0, q0, hargs, rfl, rfl, h0, r0⟩ := trodAll_cons hA
  obtain ⟨v1, vs1, d1, ds1, p1, q1, rfl, rfl, rfl, h1, r1⟩ := trodAll_cons r0
  obtain ⟨rfl, rfl, rfl⟩ := trodAll_nil r1
  obtain rfl : args = #[v0, v1] := by cases args; simp_all
  obtain ⟨rfl, rfl⟩ := trodVars_none hV
  have k0 := h0
  have lt0 : ∀ x ∈ p0, x.block < W.heap.size := by obtain ⟨m, hm⟩ := k0; exact DataW.trod_lt m _ _ _ hm
  have hv0 := hval 0 47 v0 rfl rfl
  obtain ⟨a0, len0, cap0, rfl⟩ := okWide_slice Try.underlying47 hv0
  obtain ⟨fuel0, hf0⟩ := h0
  obtain ⟨xs0, ho0⟩ := opens_2 H enc W 0 _ _ _ _ _ hf0
  obtain ⟨A0, c0, he0, hr0⟩ := rSlice_flat ho0 (fun x => (x.1, x.2.1)) (fun a => [.int .i64 a.1, .int .i64 a.2]) (by rintro x d ⟨_, _, rfl, ⟨rfl, _⟩, ⟨_, _, rfl, ⟨rfl, _⟩, rfl⟩⟩; rfl)
  simp only [Value.cells, List.cons.injEq, and_true] at he0
  cases he0
  have k1 := h1
  have lt1 : ∀ x ∈ p1, x.block < W.heap.size := by obtain ⟨m, hm⟩ := k1; exact DataW.trod_lt m _ _ _ hm
  have hv1 := hval 1 5 v1 rfl rfl
  obtain ⟨m1, rfl⟩ := okWide_int Try.underlying5 hv1
  obtain ⟨fuel1, hf1⟩ := h1
  obtain ⟨x1, hx1, hw1⟩ := opens_3 H enc W 0 _ _ _ _ _ hf1
  simp only [Value.cells, List.cons.injEq, and_true, Value.int.injEq, true_and] at hx1
  subst hx1
  simp only [Lit.wf, Bool.and_eq_true, decide_eq_true_eq] at hw1
  obtain ⟨n1, rfl⟩ : ∃ n : Nat, m1 = n := ⟨m1.toNat, by have h := hw1.1; simp [IntKind.min, IntKind.signed] at h; omega⟩
  have hn1 : n1 < 256 := by have h := hw1.2; simp [IntKind.max, IntKind.bits, IntKind.signed] at h; omega
  clear hA0 hval0 hsz0 hsz
  refine (frontOrder_any _ _ n1 hn1 W hr0).mono fun e W' ⟨he, bel⟩ => ?_
  subst he
  exact ⟨_, rfl, _, _, _, [], _, [], hW', trodAll_mk1 (shut_bool Try.underlying4 _), (trodAll_cons_mk (Below.trod laidOut (by kernel_rfl) (of_decide_eq_true (by kernel_rfl)) k0 bel lt0) (trodAll_cons_mk (Below.trod laidOut (by kernel_rfl) (of_decide_eq_true (by kernel_rfl)) k1 bel lt1) trodAll_mk0)), rfl, bel.frame _, fun h => by cases h⟩
theorem over : Rows.frontOrderRow.holds Try.pinned (OpenSpec.ofChange Rows.frontOrderSpec) :=
  OpenClaim.holds_of_wide 11 Try.f11 rfl rfl rfl rfl rfl rfl rfl ⟨rfl, rfl, rfl, rfl, rfl⟩ rfl rfl rfl rfl rfl (by kernel_rfl) Try.func11 (by kernel_rfl)
    (of_decide_eq_true (by kernel_rfl)) (by unfold Func.isWrapper; first | (rw [if_pos (by decide +kernel)]; kernel_rfl) | (rw [if_neg (by decide +kernel)]; exact ⟨rfl, rfl⟩))
    (fun os started H enc _ => lifted os started H enc)
theorem proved : Rows.FrontOrderSaid := over
#print axioms proved
end Go.Proofs.Ytmdmekdmlkhchaa.frontOrder
namespace Go.Proofs.Ytmdmekdmlkhchaa
/-- The row, under a short name, for the claim. -/
theorem frontOrder_holds : Rows.FrontOrderSaid := frontOrder.proved
end Go.Proofs.Ytmdmekdmlkhchaa
