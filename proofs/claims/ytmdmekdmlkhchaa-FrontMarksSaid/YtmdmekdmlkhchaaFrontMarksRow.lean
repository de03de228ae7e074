/- The row of the law FrontMarks: for every input it returns true, and the input reads as it did. -/
import Derived.Test.YtmdmekdmlkhchaaRows
import Derived.Test.YtmdmekdmlkhchaaFrontMarks
import Derived.Test.YtmdmekdmlkhchaaLift
set_option linter.unusedVariables false
set_option linter.unusedSimpArgs false
namespace Go.Proofs.Ytmdmekdmlkhchaa.frontMarks
open Go.ChangeShapes Go.WideShapes Go.ChangeAt Go.RowKit Go.Cw
open Go.ChangeMaps (open_string shut_string)
theorem own : ownKnob Try.prog.godebug = none := by kernel_rfl
theorem laidOut : laidOutB Try.prog = true := by kernel_rfl
theorem cells_0 : Try.prog.cellsOf 3 = 1 := by kernel_rfl
set_option maxRecDepth 100000 in
theorem opens_0 : Opens Try.prog 3 (rInt .i64) := opens_int Try.underlying3
theorem cells_1 : Try.prog.cellsOf 42 = 2 := by kernel_rfl
set_option maxRecDepth 100000 in
theorem opens_1 : Opens Try.prog 42 (rCons (rInt .i64) (rCons (rInt .i64) rNil)) := opens_struct Try.underlying42 cells_1 (opensF_cons rfl cells_0 opens_0 (opensF_cons rfl cells_0 opens_0 opensF_nil))
theorem cells_2 : Try.prog.cellsOf 47 = 1 := by kernel_rfl
set_option maxRecDepth 100000 in
theorem opens_2 : Opens Try.prog 47 (rSlice 2 (rCons (rInt .i64) (rCons (rInt .i64) rNil))) := opens_slice Try.underlying47 cells_1 (by decide) opens_1
theorem cells_3 : Try.prog.cellsOf 5 = 1 := by kernel_rfl
set_option maxRecDepth 100000 in
theorem opens_3 : Opens Try.prog 5 (rInt .u8) := opens_int Try.underlying5
theorem agg_of {v : Value} {cs : List Value} (h : v.cells.toList = cs) (h2 : 2 ≤ cs.length) : v = .agg cs.toArray := by
  cases v with
  | agg a => simp only [Value.cells] at h; subst h; simp
  | _ => simp only [Value.cells] at h; subst h; simp at h2
set_option maxRecDepth 100000 in
set_option maxHeartbeats 1600000 in
theorem lifted (os : Os) (started : os.Started) (H : Type) (enc : TypeId × Value → H) :
    ReturnsInHanded {} Try.checked os 12 .any (Rows.frontMarksSpec.pre6 enc Try.prog Try.f12 Rows.frontMarksRow.domain false) (Rows.frontMarksSpec.post enc Try.prog Try.f12 false true false false) := by
  refine returnsInHanded_of_change_sized (C := Try.checked) own started (by kernel_rfl) Try.func12
    (ChangeSpec.witness6 (enc := enc) (C := Try.checked) false ⟨#[], #[.slice none 0 0, .int .u8 0, .agg #[.int .i64 0, .int .i64 0]], []⟩ 8 (by kernel_rfl) (by kernel_rfl) (by kernel_rfl) (by kernel_rfl)) ?_
  intro W base args ds gs before hval0 hW hcnd hsz0 _
  have hsz : (DataW.weightsEach Try.prog (Try.f12.params.toList ++ Rows.frontMarksSpec.plain.varTypes Try.prog) (ds ++ gs)).all (· ≤ reachBytes) = true := hsz0
  have hval : ∀ (j : Nat) t v, Try.f12.params[j]? = some t → args[j]? = some v → Value.okWide Try.prog W .any base t v := hval0
  have hW' := hW
  obtain ⟨p, q, hA0, hV, rfl, hfz, hnd⟩ := hW
  have hA : DataW.TrodAll enc Try.prog W 0 (fun _ => true) true Try.f12.params.toList args.toList ds p := hA0
  rw [Try.params12] at hA hval hsz
  obtain ⟨v0, vs0, d0, ds0, p0, q0, hargs, rfl, rfl, h0, r0⟩ := trodAll_cons hA
  obtain ⟨v1, vs1, d1, ds1, p1, q1, rfl, rfl, rfl, h1, r1⟩ := trodAll_cons r0
  obtain ⟨v2, vs2, d2, ds2, p2, q2, rfl, rfl, rfl, h2, r2⟩ := trodAll_cons r1
  obtain ⟨rfl, rfl, rfl⟩ := trodAll_nil r2
  obtain rfl : args = #[v0, v1, v2] := by cases args; simp_all
  obtain ⟨rfl, rfl⟩ := trodVars_none hV
  have k0 := h0
  have lt0 : ∀ x ∈ p0, x.block < W.heap.size := by obtain ⟨m, hm⟩ := k0; exact DataW.trod_lt m _ _ _ hm
  have hv0 := hval 0 47 v0 rfl rfl
  obtain ⟨a0, len0, cap0, rfl⟩ := okWide_slice Try.underlying47 hv0
  obtain ⟨fuel0, hf0⟩ := h0
  obtain ⟨xs0, ho0⟩ := opens_2 H enc W 0 _ _ _ _ _ hf0
  obtain ⟨A0, c0, he0, hr0⟩ := rSlice_flat ho0 (fun x => (x.1, x.2.1)) (fun a => [.int .i64 a.1, .int .i64 a.2]) (by rintro x d ⟨_, _, rfl, ⟨rfl, _⟩, ⟨_, _, rfl, ⟨rfl, _⟩, rfl⟩⟩; rfl)
  simp only [Value.cells, List.cons.injEq, and_true] at he0
  cases he0
  have k1 := h1
  have lt1 : ∀ x ∈ p1, x.block < W.heap.size := by obtain ⟨m, hm⟩ := k1; exact DataW.trod_lt m _ _ _ hm
  have hv1 := hval 1 5 v1 rfl rfl
  obtain ⟨m1, rfl⟩ := okWide_int Try.underlying5 hv1
  obtain ⟨fuel1, hf1⟩ := h1
  obtain ⟨x1, hx1, hw1⟩ := opens_3 H enc W 0 _ _ _ _ _ hf1
  simp only [Value.cells, List.cons.injEq, and_true, Value.int.injEq, true_and] at hx1
  subst hx1
  simp only [Lit.wf, Bool.and_eq_true, decide_eq_true_eq] at hw1
  obtain ⟨n1, rfl⟩ : ∃ n : Nat, m1 = n := ⟨m1.toNat, by have h := hw1.1; simp [IntKind.min, IntKind.signed] at h; omega⟩
  have hn1 : n1 < 256 := by have h := hw1.2; simp [IntKind.max, IntKind.bits, IntKind.signed] at h; omega
  have k2 := h2
  have lt2 : ∀ x ∈ p2, x.block < W.heap.size := by obtain ⟨m, hm⟩ := k2; exact DataW.trod_lt m _ _ _ hm
  have hv2 := hval 2 42 v2 rfl rfl
  obtain ⟨fuel2, hf2⟩ := h2
  obtain ⟨xs2, ho2⟩ := opens_1 H enc W 0 _ _ _ _ _ hf2
  obtain rfl : v2 = .agg #[.int .i64 xs2.1, .int .i64 xs2.2.1] := agg_of (by generalize v2.cells.toList = d at ho2; rcases ho2 with ⟨_, _, rfl, ⟨rfl, _⟩, ⟨_, _, rfl, ⟨rfl, _⟩, rfl⟩⟩; rfl) (by simp)
  clear hA0 hval0 hsz0 hsz
  refine (frontMarks_any _ _ n1 hn1 (xs2.1, xs2.2.1) W hr0).mono fun e W' ⟨he, bel⟩ => ?_
  subst he
  exact ⟨_, rfl, _, _, _, [], _, [], hW', trodAll_mk1 (shut_bool Try.underlying4 _), (trodAll_cons_mk (Below.trod laidOut (by kernel_rfl) (of_decide_eq_true (by kernel_rfl)) k0 bel lt0) (trodAll_cons_mk (Below.trod laidOut (by kernel_rfl) (of_decide_eq_true (by kernel_rfl)) k1 bel lt1) (trodAll_cons_mk (Below.trod laidOut (by kernel_rfl) (of_decide_eq_true (by kernel_rfl)) k2 bel lt2) trodAll_mk0))), rfl, bel.frame _, fun h => by cases h⟩
theorem over : Rows.frontMarksRow.holds Try.pinned (OpenSpec.ofChange Rows.frontMarksSpec) :=
  OpenClaim.holds_of_wide 12 Try.f12 rfl rfl rfl rfl rfl rfl rfl ⟨rfl, rfl, rfl, rfl, rfl⟩ rfl rfl rfl rfl rfl (by kernel_rfl) Try.func12 (by kernel_rfl)
    (of_decide_eq_true (by kernel_rfl)) (by unfold Func.isWrapper; first | (rw [if_pos (by decide +kernel)]; kernel_rfl) | (rw [if_neg (by decide +kernel)]; exact ⟨rfl, rfl⟩))
    (fun os started H enc _ => lifted os started H enc)
theorem proved : Rows.FrontMarksSaid := over
#print axioms proved
end Go.Proofs.Ytmdmekdmlkhchaa.frontMarks
namespace Go.Proofs.Ytmdmekdmlkhchaa
/-- The row, under a short name, for the claim. -/
theorem frontMarks_holds : Rows.FrontMarksSaid := frontMarks.proved
end Go.Proofs.Ytmdmekdmlkhchaa
