/- The row of the law JournalEntries: for every input it returns true, and the input reads as it did. -/
import Derived.Test.YtmdmekdmlkhchaaRows
import Derived.Test.YtmdmekdmlkhchaaJournalEntries
import Derived.Test.YtmdmekdmlkhchaaLift
set_option linter.unusedVariables false
set_option linter.unusedSimpArgs false
namespace Go.Proofs.Ytmdmekdmlkhchaa.journalEntries
open Go.ChangeShapes Go.WideShapes Go.ChangeAt Go.RowKit Go.Cw Go.Jn
open Go.ChangeMaps (open_string shut_string)
theorem own : ownKnob Try.prog.godebug = none := by kernel_rfl
theorem laidOut : laidOutB Try.prog = true := by kernel_rfl
theorem cells_0 : Try.prog.cellsOf 3 = 1 := by kernel_rfl
set_option maxRecDepth 100000 in
theorem opens_0 : Opens Try.prog 3 (rInt .i64) := opens_int Try.underlying3
theorem cells_1 : Try.prog.cellsOf 5 = 1 := by kernel_rfl
set_option maxRecDepth 100000 in
theorem opens_1 : Opens Try.prog 5 (rInt .u8) := opens_int Try.underlying5
theorem cells_2 : Try.prog.cellsOf 57 = 1 := by kernel_rfl
set_option maxRecDepth 100000 in
theorem opens_2 : Opens Try.prog 57 (rSlice 1 (rInt .u8)) := opens_slice Try.underlying57 cells_1 (by decide) opens_1
theorem cells_3 : Try.prog.cellsOf 75 = 3 := by kernel_rfl
set_option maxRecDepth 100000 in
theorem opens_3 : Opens Try.prog 75 (rCons (rInt .i64) (rCons (rInt .i64) (rCons (rSlice 1 (rInt .u8)) rNil))) := opens_struct Try.underlying75 cells_3 (opensF_cons rfl cells_0 opens_0 (opensF_cons rfl cells_0 opens_0 (opensF_cons rfl cells_2 opens_2 opensF_nil)))
theorem cells_4 : Try.prog.cellsOf 71 = 1 := by kernel_rfl
set_option maxRecDepth 100000 in
theorem opens_4 : Opens Try.prog 71 (rSlice 3 (rCons (rInt .i64) (rCons (rInt .i64) (rCons (rSlice 1 (rInt .u8)) rNil)))) := opens_slice Try.underlying71 cells_3 (by decide) opens_3
theorem cells_5 : Try.prog.cellsOf 72 = 1 := by kernel_rfl
set_option maxRecDepth 100000 in
theorem opens_5 : Opens Try.prog 72 (rInt .u16) := opens_int Try.underlying72
theorem lists_ex {α β : Type} {R : α → List Value → Prop} (enc : β → List Value) (P : β → Prop) (hR : ∀ x d, R x d → ∃ b, d = enc b ∧ P b) : ∀ (xs : List α) (css : List (List Value)), css.length = xs.length → (∀ (i : Nat) (x : α) (d : List Value), xs[i]? = some x → css[i]? = some d → R x d) → ∃ ys : List β, ys.length = xs.length ∧ css.flatten = ys.flatMap enc ∧ ∀ y ∈ ys, P y
  | [], [], _, _ => ⟨[], rfl, rfl, by simp⟩
  | x :: xs, d :: css, hl, h => by
    obtain ⟨b, rfl, hb⟩ := hR x d (h 0 x d rfl rfl)
    obtain ⟨ys, h1, h2, h3⟩ := lists_ex enc P hR xs css (by simpa using hl) (fun i x' d' hx hd => h (i + 1) x' d' hx hd)
    exact ⟨b :: ys, by simp [h1], by simp [h2], fun y hy => (List.mem_cons.1 hy).elim (fun e => e ▸ hb) (h3 y)⟩
theorem rSlice_ex {α β : Type} {sz : Nat} {R : Rel α} {W : World} {xs : List α} {cs : List Value} (h : rSlice sz R W xs cs) (enc : β → List Value) (P : β → Prop) (hR : ∀ x d, R W x d → ∃ b, d = enc b ∧ P b) :
    ∃ (A : Option Addr) (c : Nat) (ys : List β), cs = [.slice A ys.length c] ∧ Rw W sz (.slice A ys.length c) (ys.flatMap enc) ∧ ∀ y ∈ ys, P y := by
  obtain ⟨A, c, css, rfl, hrw, hl, hel⟩ := h
  obtain ⟨ys, h1, h2, h3⟩ := lists_ex enc P hR xs css hl (fun i x d hx hd => (hel i x d hx hd).2)
  rw [h2] at hrw
  exact ⟨A, c, ys, by rw [h1], by rw [h1]; exact hrw, h3⟩
theorem u8s_flat (xs : List Int) : xs.flatMap (fun a => [Value.int .u8 a]) = u8s xs := by
  induction xs with
  | nil => rfl
  | cons x r ih => rw [List.flatMap_cons, ih]; rfl
theorem entR (W : World) : ∀ x d, (rCons (rInt .i64) (rCons (rInt .i64) (rCons (rSlice 1 (rInt .u8)) rNil)) : Rel _) W x d → ∃ b : JEnt, d = jec b ∧ (Rw W 1 b.2.2.1 (u8s b.2.2.2) ∧ Byt b.2.2.2) := by
  rintro x d ⟨_, _, rfl, ⟨rfl, _⟩, ⟨_, _, rfl, ⟨rfl, _⟩, ⟨_, _, rfl, hs, rfl⟩⟩⟩
  obtain ⟨A, c, ys, rfl, hr, hp⟩ := rSlice_ex hs (fun a => [.int .u8 a]) (fun a => 0 ≤ a ∧ a < 256) (by
    rintro x d ⟨rfl, hw⟩
    simp only [Lit.wf, Bool.and_eq_true, decide_eq_true_eq] at hw
    refine ⟨x, rfl, ?_, ?_⟩
    · have h := hw.1; simp [IntKind.min, IntKind.signed] at h; exact h
    · have h := hw.2; simp [IntKind.max, IntKind.bits, IntKind.signed] at h; omega)
  rw [u8s_flat] at hr
  exact ⟨(_, _, _, ys), rfl, hr, hp⟩
set_option maxRecDepth 100000 in
set_option maxHeartbeats 1600000 in
theorem lifted (os : Os) (started : os.Started) (H : Type) (enc : TypeId × Value → H) :
    ReturnsInHanded {} Try.checked os 7 .any (Rows.journalEntriesSpec.pre6 enc Try.prog Try.f7 Rows.journalEntriesRow.domain false) (Rows.journalEntriesSpec.post enc Try.prog Try.f7 false true false false) := by
  refine returnsInHanded_of_change_sized (C := Try.checked) own started (by kernel_rfl) Try.func7
    (ChangeSpec.witness6 (enc := enc) (C := Try.checked) false ⟨#[], #[.slice none 0 0, .int .u16 0], []⟩ 8 (by kernel_rfl) (by kernel_rfl) (by kernel_rfl) (by kernel_rfl)) ?_
  intro W base args ds gs before hval0 hW hcnd hsz0 _
  have hsz : (DataW.weightsEach Try.prog (Try.f7.params.toList ++ Rows.journalEntriesSpec.plain.varTypes Try.prog) (ds ++ gs)).all (· ≤ reachBytes) = true := hsz0
  have hval : ∀ (j : Nat) t v, Try.f7.params[j]? = some t → args[j]? = some v → Value.okWide Try.prog W .any base t v := hval0
  have hW' := hW
  obtain ⟨p, q, hA0, hV, rfl, hfz, hnd⟩ := hW
  have hA : DataW.TrodAll enc Try.prog W 0 (fun _ => true) true Try.f7.params.toList args.toList ds p := hA0
  rw [Try.params7] at hA hval hsz
  obtain ⟨v0, vs0, d0, ds0, p0, q0, hargs, rfl, rfl, h0, r0⟩ := trodAll_cons hA
  obtain ⟨v1, vs1, d1, ds1, p1, q1, rfl, rfl, rfl, h1, r1⟩ := trodAll_cons r0
  obtain ⟨rfl, rfl, rfl⟩ := trodAll_nil r1
  obtain rfl : args = #[v0, v1] := by cases args; simp_all
  obtain ⟨rfl, rfl⟩ := trodVars_none hV
  have k0 := h0
  have lt0 : ∀ x ∈ p0, x.block < W.heap.size := by obtain ⟨m, hm⟩ := k0; exact DataW.trod_lt m _ _ _ hm
  have hv0 := hval 0 71 v0 rfl rfl
  obtain ⟨a0, len0, cap0, rfl⟩ := okWide_slice Try.underlying71 hv0
  obtain ⟨fuel0, hf0⟩ := h0
  obtain ⟨xs0, ho0⟩ := opens_4 H enc W 0 _ _ _ _ _ hf0
  obtain ⟨A0, c0, ys0, he0, hr0, hp0⟩ := rSlice_ex ho0 jec (fun a => Rw W 1 a.2.2.1 (u8s a.2.2.2) ∧ Byt a.2.2.2) (entR W)
  simp only [Value.cells, List.cons.injEq, and_true] at he0
  cases he0
  have k1 := h1
  have lt1 : ∀ x ∈ p1, x.block < W.heap.size := by obtain ⟨m, hm⟩ := k1; exact DataW.trod_lt m _ _ _ hm
  have hv1 := hval 1 72 v1 rfl rfl
  obtain ⟨m1, rfl⟩ := okWide_int Try.underlying72 hv1
  obtain ⟨fuel1, hf1⟩ := h1
  obtain ⟨x1, hx1, hw1⟩ := opens_5 H enc W 0 _ _ _ _ _ hf1
  simp only [Value.cells, List.cons.injEq, and_true, Value.int.injEq, true_and] at hx1
  subst hx1
  simp only [Lit.wf, Bool.and_eq_true, decide_eq_true_eq] at hw1
  obtain ⟨n1, rfl⟩ : ∃ n : Nat, m1 = n := ⟨m1.toNat, by have h := hw1.1; simp [IntKind.min, IntKind.signed] at h; omega⟩
  have hn1 : n1 < 65536 := by have h := hw1.2; simp [IntKind.max, IntKind.bits, IntKind.signed] at h; omega
  clear hA0 hval0 hsz0 hsz
  refine (entries_any ys0 _ _ n1 hn1 W hr0 (fun a ha => (hp0 a ha).1) (fun a ha => (hp0 a ha).2)).mono fun e W' ⟨he, bel⟩ => ?_
  subst he
  exact ⟨_, rfl, _, _, _, [], _, [], hW', trodAll_mk1 (shut_bool Try.underlying4 _), (trodAll_cons_mk (Below.trod laidOut (by kernel_rfl) (of_decide_eq_true (by kernel_rfl)) k0 bel lt0) (trodAll_cons_mk (Below.trod laidOut (by kernel_rfl) (of_decide_eq_true (by kernel_rfl)) k1 bel lt1) trodAll_mk0)), rfl, bel.frame _, fun h => by cases h⟩
theorem over : Rows.journalEntriesRow.holds Try.pinned (OpenSpec.ofChange Rows.journalEntriesSpec) :=
  OpenClaim.holds_of_wide 7 Try.f7 rfl rfl rfl rfl rfl rfl rfl ⟨rfl, rfl, rfl, rfl, rfl⟩ rfl rfl rfl rfl rfl (by kernel_rfl) Try.func7 (by kernel_rfl)
    (of_decide_eq_true (by kernel_rfl)) (by unfold Func.isWrapper; first | (rw [if_pos (by decide +kernel)]; kernel_rfl) | (rw [if_neg (by decide +kernel)]; exact ⟨rfl, rfl⟩))
    (fun os started H enc _ => lifted os started H enc)
theorem proved : Rows.JournalEntriesSaid := over
#print axioms proved
end Go.Proofs.Ytmdmekdmlkhchaa.journalEntries
namespace Go.Proofs.Ytmdmekdmlkhchaa
/-- The row, under a short name, for the claim. -/
theorem journalEntries_holds : Rows.JournalEntriesSaid := journalEntries.proved
end Go.Proofs.Ytmdmekdmlkhchaa
