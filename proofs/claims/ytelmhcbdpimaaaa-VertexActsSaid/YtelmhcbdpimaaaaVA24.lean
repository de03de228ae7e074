/- Joined texts: VertActsRow. -/
import Derived.Test.YtelmhcbdpimaaaaRows
import Derived.Test.YtelmhcbdpimaaaaVA21
import Derived.Test.YtelmhcbdpimaaaaVA22
import Derived.Test.YtelmhcbdpimaaaaVA23
/- The row of the law VertexActs: for every input it returns true, and the input reads as it did. -/
set_option linter.unusedVariables false
set_option linter.unusedSimpArgs false
namespace Go.Proofs.Ytelmhcbdpimaaaa.vertexActs
open Go.ChangeShapes Go.WideShapes Go.ChangeAt Go.RowKit Go.Cw
open Go.ChangeMaps (open_string shut_string)
theorem own : ownKnob Try.prog.godebug = none := by kernel_rfl
theorem laidOut : laidOutB Try.prog = true := by kernel_rfl
abbrev rAct : Rel (Int × ((Int × Int × Unit) × Int × List (Int × Int × Unit) × List (Int × ByteArray × Nat × Unit) × Unit) × (Int × Int × Unit) × Unit) := rCons (rInt .i64) (rCons rRec (rCons rId rNil))
theorem lc_act : Try.prog.cellsOf 83 = 8 := by kernel_rfl
set_option maxRecDepth 100000 in
theorem lo_act : Opens Try.prog 83 rAct := opens_struct Try.underlying83 lc_act (opensF_cons rfl lc_int lo_int (opensF_cons rfl lc_rec lo_rec (opensF_cons rfl lc_id lo_id opensF_nil)))
set_option maxRecDepth 100000 in
theorem lo_acts : Opens Try.prog 77 (rSlice 8 rAct) := opens_slice Try.underlying77 lc_act (by decide) lo_act
theorem actsR {W : World} {xs : List (Int × ((Int × Int × Unit) × Int × List (Int × Int × Unit) × List (Int × ByteArray × Nat × Unit) × Unit) × (Int × Int × Unit) × Unit)} {cs : List Value} (h : rSlice 8 rAct W xs cs) : ∃ (A : Option Addr) (c : Nat) (l : List Ac), cs = [.slice A l.length c] ∧ Rw W 8 (.slice A l.length c) (accs l) ∧ ∀ y ∈ l, RcR W y.2.1 :=
  rSlice_exR h acc (fun y => RcR W y.2.1) (fun x d hx => by
    obtain ⟨_, _, rfl, ⟨rfl, _⟩, ⟨_, _, rfl, hr, ⟨_, _, rfl, hi, rfl⟩⟩⟩ := hx
    obtain ⟨b, rfl, hb⟩ := recR hr
    rw [idR hi]
    exact ⟨(x.1, b, (x.2.2.1.1, x.2.2.1.2.1)), by simp [acc], hb⟩)

set_option maxRecDepth 100000 in
set_option maxHeartbeats 1600000 in
theorem lifted (os : Os) (started : os.Started) (H : Type) (enc : TypeId × Value → H) :
    ReturnsInHanded {} Try.checked os 9 .any (Rows.vertexActsSpec.pre6 enc Try.prog Try.f9 Rows.vertexActsRow.domain false) (Rows.vertexActsSpec.post enc Try.prog Try.f9 false true false false) := by
  refine returnsInHanded_of_change_sized (C := Try.checked) own started (by kernel_rfl) Try.func9
    (ChangeSpec.witness6 (enc := enc) (C := Try.checked) false ⟨#[], #[.int .i64 0, .slice none 0 0], []⟩ 8 (by kernel_rfl) (by kernel_rfl) (by kernel_rfl) (by kernel_rfl)) ?_
  intro W base args ds gs before hval0 hW hcnd hsz0 _
  have hsz : (DataW.weightsEach Try.prog (Try.f9.params.toList ++ Rows.vertexActsSpec.plain.varTypes Try.prog) (ds ++ gs)).all (· ≤ reachBytes) = true := hsz0
  have hval : ∀ (j : Nat) t v, Try.f9.params[j]? = some t → args[j]? = some v → Value.okWide Try.prog W .any base t v := hval0
  have hW' := hW
  obtain ⟨p, q, hA0, hV, rfl, hfz, hnd⟩ := hW
  have hA : DataW.TrodAll enc Try.prog W 0 (fun _ => true) true Try.f9.params.toList args.toList ds p := hA0
  rw [Try.params9] at hA hval hsz
  obtain ⟨v0, vs0, d0, ds0, p0, q0, hargs, rfl, rfl, h0, r0⟩ := trodAll_cons hA
  obtain ⟨v1, vs1, d1, ds1, p1, q1, rfl, rfl, rfl, h1, r1⟩ := trodAll_cons r0
  obtain ⟨rfl, rfl, rfl⟩ := trodAll_nil r1
  obtain rfl : args = #[v0, v1] := by cases args; simp_all
  obtain ⟨rfl, rfl⟩ := trodVars_none hV
  have k0 := h0
  have lt0 : ∀ x ∈ p0, x.block < W.heap.size := by obtain ⟨m, hm⟩ := k0; exact DataW.trod_lt m _ _ _ hm
  have hv0 := hval 0 3 v0 rfl rfl
  obtain ⟨n0, rfl⟩ := okWide_int Try.underlying3 hv0
  have k1 := h1
  have lt1 : ∀ x ∈ p1, x.block < W.heap.size := by obtain ⟨m, hm⟩ := k1; exact DataW.trod_lt m _ _ _ hm
  have hv1 := hval 1 77 v1 rfl rfl
  obtain ⟨a1, len1, cap1, rfl⟩ := okWide_slice Try.underlying77 hv1
  obtain ⟨fuel1, hf1⟩ := h1
  obtain ⟨xs1, ho1⟩ := lo_acts H enc W 0 _ _ _ _ _ hf1
  obtain ⟨A1, c1, ys1, he1, hr1, hp1⟩ := actsR ho1
  simp only [Value.cells, List.cons.injEq, and_true] at he1
  cases he1
  clear hA0 hval0 hsz0 hsz
  refine (vertActs_any n0 _ ys1 W hr1 hp1).mono fun e W' ⟨he, bel⟩ => ?_
  subst he
  exact ⟨_, rfl, _, _, _, [], _, [], hW', trodAll_mk1 (shut_bool Try.underlying4 _), (trodAll_cons_mk (Below.trod laidOut (by kernel_rfl) (of_decide_eq_true (by kernel_rfl)) k0 bel lt0) (trodAll_cons_mk (Below.trod laidOut (by kernel_rfl) (of_decide_eq_true (by kernel_rfl)) k1 bel lt1) trodAll_mk0)), rfl, bel.frame _, fun h => by cases h⟩
theorem over : Rows.vertexActsRow.holds Try.pinned (OpenSpec.ofChange Rows.vertexActsSpec) :=
  OpenClaim.holds_of_wide 9 Try.f9 rfl rfl rfl rfl rfl rfl rfl ⟨rfl, rfl, rfl, rfl, rfl⟩ rfl rfl rfl rfl rfl (by kernel_rfl) Try.func9 (by kernel_rfl)
    (of_decide_eq_true (by kernel_rfl)) (by unfold Func.isWrapper; first | (rw [if_pos (by decide +kernel)]; kernel_rfl) | (rw [if_neg (by decide +kernel)]; exact ⟨rfl, rfl⟩))
    (fun os started H enc _ => lifted os started H enc)
theorem proved : Rows.VertexActsSaid := over
#print axioms proved
end Go.Proofs.Ytelmhcbdpimaaaa.vertexActs
namespace Go.Proofs.Ytelmhcbdpimaaaa
/-- The row, under a short name, for the claim. -/
theorem vertexActs_holds : Rows.VertexActsSaid := vertexActs.proved
end Go.Proofs.Ytelmhcbdpimaaaa
