/- Joined texts: LiftR. -/
import Derived.Test.YtohgcghobidfpaaGG8
import Derived.Test.YtohgcghobidfpaaGG35
/- Arguments: ids, commands, records, and lists of them, from data to what their cells hold. -/
set_option linter.unusedVariables false
set_option linter.unusedSimpArgs false
namespace Go.Cw
open Go.RowKit
def rFlt : Rel Nat := fun _ x cs => cs = [.float .f64 x] ∧ x < 18446744073709551616
theorem opens_flt {P : Program} {t : TypeId} (ht : P.underlying t = some (.float .f64)) : Opens P t rFlt := fun _ _ _ _ _ _ n _ _ h => by
  cases n with
  | zero => simp [DataW.trod] at h
  | succ n =>
    unfold DataW.trod at h
    rw [ht] at h
    split at h
    all_goals simp_all
    rename_i k' b
    obtain ⟨⟨_, h2⟩, _⟩ := h
    subst b
    simp [Lit.wf] at h2
    exact ⟨k', rfl, by omega⟩
theorem lists_exR {α β : Type} {R : α → List Value → Prop} (enc : β → List Value) (P : β → Prop) (hR : ∀ x d, R x d → ∃ b, d = enc b ∧ P b) : ∀ (xs : List α) (css : List (List Value)), css.length = xs.length → (∀ (i : Nat) (x : α) (d : List Value), xs[i]? = some x → css[i]? = some d → R x d) → ∃ ys : List β, ys.length = xs.length ∧ css.flatten = ys.flatMap enc ∧ ∀ y ∈ ys, P y
  | [], [], _, _ => ⟨[], rfl, rfl, by simp⟩
  | x :: xs, d :: css, hl, h => by
    obtain ⟨b, rfl, hb⟩ := hR x d (h 0 x d rfl rfl)
    obtain ⟨ys, h1, h2, h3⟩ := lists_exR enc P hR xs css (by simpa using hl) (fun i x' d' hx hd => h (i + 1) x' d' hx hd)
    exact ⟨b :: ys, by simp [h1], by simp [h2], fun y hy => (List.mem_cons.1 hy).elim (fun e => e ▸ hb) (h3 y)⟩
/-- A list whose elements are told by a function, with a fact of each. -/
theorem rSlice_exR {α β : Type} {sz : Nat} {R : Rel α} {W : World} {xs : List α} {cs : List Value} (h : rSlice sz R W xs cs) (enc : β → List Value) (P : β → Prop) (hR : ∀ x d, R W x d → ∃ b, d = enc b ∧ P b) :
    ∃ (A : Option Addr) (c : Nat) (ys : List β), cs = [.slice A ys.length c] ∧ Rw W sz (.slice A ys.length c) (ys.flatMap enc) ∧ ∀ y ∈ ys, P y := by
  obtain ⟨A, c, css, rfl, hrw, hl, hel⟩ := h
  obtain ⟨ys, h1, h2, h3⟩ := lists_exR enc P hR xs css hl (fun i x d hx hd => (hel i x d hx hd).2)
  rw [h2] at hrw
  exact ⟨A, c, ys, by rw [h1], by rw [h1]; exact hrw, h3⟩
theorem agg_ofR {v : Value} {cs : List Value} (h : v.cells.toList = cs) (h2 : 2 ≤ cs.length) : v = .agg cs.toArray := by
  cases v with
  | agg a => simp only [Value.cells] at h; subst h; simp
  | _ => simp only [Value.cells] at h; subst h; simp at h2
end Go.Cw
namespace Go.Proofs.Ytohgcghobidfpaa
open Go.RowKit Go.Cw Go.Fl
theorem lc_int : Try.prog.cellsOf 3 = 1 := by kernel_rfl
theorem lc_str : Try.prog.cellsOf 9 = 1 := by kernel_rfl
theorem lc_flt : Try.prog.cellsOf 45 = 1 := by kernel_rfl
theorem lc_id : Try.prog.cellsOf 30 = 2 := by kernel_rfl
theorem lc_cm : Try.prog.cellsOf 47 = 3 := by kernel_rfl
theorem lc_ids : Try.prog.cellsOf 31 = 1 := by kernel_rfl
theorem lc_cms : Try.prog.cellsOf 27 = 1 := by kernel_rfl
theorem lc_rec : Try.prog.cellsOf 33 = 5 := by kernel_rfl
theorem lc_recs : Try.prog.cellsOf 23 = 1 := by kernel_rfl
theorem lo_int : Opens Try.prog 3 (rInt .i64) := opens_int Try.underlying3
theorem lo_str : Opens Try.prog 9 rStr := opens_str Try.underlying9
theorem lo_flt : Opens Try.prog 45 rFlt := opens_flt Try.underlying45
abbrev rId : Rel (Int × Int × Unit) := rCons (rInt .i64) (rCons (rInt .i64) rNil)
abbrev rCm : Rel (Int × ByteArray × Nat × Unit) := rCons (rInt .i64) (rCons rStr (rCons rFlt rNil))
abbrev rRec : Rel ((Int × Int × Unit) × Int × List (Int × Int × Unit) × List (Int × ByteArray × Nat × Unit) × Unit) := rCons rId (rCons (rInt .i64) (rCons (rSlice 2 rId) (rCons (rSlice 3 rCm) rNil)))
set_option maxRecDepth 100000 in
theorem lo_id : Opens Try.prog 30 rId := opens_struct Try.underlying30 lc_id (opensF_cons rfl lc_int lo_int (opensF_cons rfl lc_int lo_int opensF_nil))
set_option maxRecDepth 100000 in
theorem lo_cm : Opens Try.prog 47 rCm := opens_struct Try.underlying47 lc_cm (opensF_cons rfl lc_int lo_int (opensF_cons rfl lc_str lo_str (opensF_cons rfl lc_flt lo_flt opensF_nil)))
set_option maxRecDepth 100000 in
theorem lo_ids : Opens Try.prog 31 (rSlice 2 rId) := opens_slice Try.underlying31 lc_id (by decide) lo_id
set_option maxRecDepth 100000 in
theorem lo_cms : Opens Try.prog 27 (rSlice 3 rCm) := opens_slice Try.underlying27 lc_cm (by decide) lo_cm
set_option maxRecDepth 100000 in
theorem lo_rec : Opens Try.prog 33 rRec := opens_struct Try.underlying33 lc_rec (opensF_cons rfl lc_id lo_id (opensF_cons rfl lc_int lo_int (opensF_cons rfl lc_ids lo_ids (opensF_cons rfl lc_cms lo_cms opensF_nil))))
set_option maxRecDepth 100000 in
theorem lo_recs : Opens Try.prog 23 (rSlice 5 rRec) := opens_slice Try.underlying23 lc_rec (by decide) lo_rec
theorem idR {W : World} {x : Int × Int × Unit} {d : List Value} (h : rId W x d) : d = idc (x.1, x.2.1) := by
  obtain ⟨_, _, rfl, ⟨rfl, _⟩, ⟨_, _, rfl, ⟨rfl, _⟩, rfl⟩⟩ := h
  rfl
theorem idsR {W : World} {xs : List (Int × Int × Unit)} {cs : List Value} (h : rSlice 2 rId W xs cs) : ∃ (A : Option Addr) (c : Nat) (l : List Id), cs = [.slice A l.length c] ∧ Rw W 2 (.slice A l.length c) (idl l) := by
  obtain ⟨A, c, ys, h1, h2, _⟩ := rSlice_exR h idc (fun _ => True) (fun x d hx => ⟨(x.1, x.2.1), idR hx, trivial⟩)
  exact ⟨A, c, ys, h1, h2⟩
theorem cmsR {W : World} {xs : List (Int × ByteArray × Nat × Unit)} {cs : List Value} (h : rSlice 3 rCm W xs cs) : ∃ (A : Option Addr) (c : Nat) (l : List Cm), cs = [.slice A l.length c] ∧ Rw W 3 (.slice A l.length c) (cml l) ∧ ∀ y ∈ l, CmW y :=
  rSlice_exR h cmc CmW (fun x d hx => by
    obtain ⟨_, _, rfl, ⟨rfl, _⟩, ⟨_, _, rfl, ⟨rfl, hs⟩, ⟨_, _, rfl, ⟨rfl, hf⟩, rfl⟩⟩⟩ := hx
    exact ⟨(x.1, x.2.1, x.2.2.1), rfl, ⟨by simpa [maxLen] using hs, hf⟩⟩)
theorem recR {W : World} {x : (Int × Int × Unit) × Int × List (Int × Int × Unit) × List (Int × ByteArray × Nat × Unit) × Unit} {d : List Value} (h : rRec W x d) : ∃ b : Rc, d = recc b ∧ RcR W b := by
  obtain ⟨_, _, rfl, hi, ⟨_, _, rfl, ⟨rfl, _⟩, ⟨_, _, rfl, hd, ⟨_, _, rfl, hb, rfl⟩⟩⟩⟩ := h
  rw [idR hi]
  obtain ⟨A, c, D, rfl, h1⟩ := idsR hd
  obtain ⟨A', c', B, rfl, h2, h3⟩ := cmsR hb
  exact ⟨((_, _), _, _, _, D, B), rfl, ⟨h1, h2, h3⟩⟩
theorem recsR {W : World} {xs : List ((Int × Int × Unit) × Int × List (Int × Int × Unit) × List (Int × ByteArray × Nat × Unit) × Unit)} {cs : List Value} (h : rSlice 5 rRec W xs cs) : ∃ (A : Option Addr) (c : Nat) (l : List Rc), cs = [.slice A l.length c] ∧ Rw W 5 (.slice A l.length c) (recs l) ∧ ∀ y ∈ l, RcR W y :=
  rSlice_exR h recc (RcR W) (fun x d hx => recR hx)
end Go.Proofs.Ytohgcghobidfpaa
