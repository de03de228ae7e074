/- Joined texts: Lift, LiftR, LiftL. -/
import Derived.ProofKit
import Derived.OpenShut
import Derived.ShutString
import Derived.ChangeOld
import Derived.SizedLaws
import Derived.Deep.Slices
import Derived.Test.YtcbckeoalmjcoaaGreatCGR1
import Derived.Test.YtcbckeoalmjcoaaGreatCGR7
import Derived.Test.YtcbckeoalmjcoaaGreatCGR26
/- From an argument that can be read as data to what its cells hold: plain lemmas, of no program. -/
set_option linter.unusedVariables false
set_option linter.unusedSimpArgs false
namespace Go.Cw
open Go.RowKit

/-- What cells say, in a world. -/
abbrev Rel (α : Type) := World → α → List Value → Prop
/-- Cells of type t that can be read as data say something by R. -/
def Opens {α : Type} (P : Program) (t : TypeId) (R : Rel α) : Prop :=
  ∀ (H : Type) (enc : TypeId × Value → H) (W : World) (base : Nat) (spare : Nat → Bool) (held : Bool) (n : Nat) (cs : List Value) (x : DataW H × List MemPlace),
    DataW.trod enc P W base spare held n t cs = some x → ∃ a, R W a cs
def rInt (k : IntKind) : Rel Int := fun _ x cs => cs = [.int k x] ∧ (Lit.int k x).wf = true
def rBool : Rel Bool := fun _ x cs => cs = [.bool x]
def rStr : Rel ByteArray := fun _ s cs => cs = [.string s] ∧ s.size ≤ maxLen
def rNil : Rel Unit := fun _ _ cs => cs = []
def rCons {α β : Type} (R : Rel α) (S : Rel β) : Rel (α × β) := fun W x cs => ∃ c d, cs = c ++ d ∧ R W x.1 c ∧ S W x.2 d
def rSlice {α : Type} (sz : Nat) (R : Rel α) : Rel (List α) := fun W xs cs =>
  ∃ (A : Option Addr) (c : Nat) (css : List (List Value)), cs = [.slice A xs.length c] ∧ Rw W sz (.slice A xs.length c) css.flatten ∧ css.length = xs.length ∧ ∀ (i : Nat) (x : α) (d : List Value), xs[i]? = some x → css[i]? = some d → d.length = sz ∧ R W x d
theorem opens_int {P : Program} {t : TypeId} {k : IntKind} (ht : P.underlying t = some (.int k)) : Opens P t (rInt k) := fun _ _ _ _ _ _ _ _ _ h => by
  obtain ⟨x, rfl, _, hw⟩ := DataW.trod_int ht h
  exact ⟨x, rfl, hw⟩
theorem opens_bool {P : Program} {t : TypeId} (ht : P.underlying t = some .bool) : Opens P t rBool := fun _ _ _ _ _ _ _ _ _ h => by
  obtain ⟨x, rfl, _⟩ := DataW.trod_bool ht h
  exact ⟨x, rfl⟩
theorem opens_str {P : Program} {t : TypeId} (ht : P.underlying t = some .string) : Opens P t rStr := fun _ _ _ _ _ _ _ _ _ h => by
  obtain ⟨x, rfl, _, hs⟩ := DataW.trod_string ht h
  exact ⟨x, rfl, hs⟩
def OpensF {α : Type} (P : Program) (tot : Nat) (fs : List Field) (off : Nat) (R : Rel α) : Prop :=
  ∀ (H : Type) (enc : TypeId × Value → H) (W : World) (base : Nat) (spare : Nat → Bool) (held : Bool) (n : Nat) (cs : List Value) (xs : List (DataW H × List MemPlace)),
    cs.length = tot → (fs.mapM fun f => DataW.trod enc P W base spare held n f.type ((cs.drop f.offset).take (P.cellsOf f.type))) = some xs → ∃ a, R W a (cs.drop off)
theorem opensF_nil {P : Program} {tot : Nat} : OpensF P tot [] tot rNil := fun _ _ _ _ _ _ _ cs _ hl _ => ⟨(), by simp [rNil, hl]⟩
theorem opensF_cons {α β : Type} {P : Program} {tot off k : Nat} {f : Field} {fs : List Field} {R : Rel α} {S : Rel β} (ho : f.offset = off) (hk : P.cellsOf f.type = k) (h1 : Opens P f.type R) (h2 : OpensF P tot fs (off + k) S) :
    OpensF P tot (f :: fs) off (rCons R S) := by
  intro H enc W base spare held n cs xs hl h
  simp only [List.mapM_cons, Option.bind_eq_bind, Option.bind_eq_some_iff, Option.pure_def, Option.some.injEq] at h
  obtain ⟨y, hy, ys, hys, _⟩ := h
  obtain ⟨a, ha⟩ := h1 H enc W base spare held n _ y hy
  obtain ⟨b, hb⟩ := h2 H enc W base spare held n cs ys hl hys
  rw [ho, hk] at ha
  refine ⟨(a, b), _, _, ?_, ha, hb⟩
  rw [← List.drop_drop, List.take_append_drop]
theorem opens_struct {α : Type} {P : Program} {t : TypeId} {fs : Array Field} {tot : Nat} {R : Rel α} (ht : P.underlying t = some (.struct fs)) (hc : P.cellsOf t = tot) (h : OpensF P tot fs.toList 0 R) : Opens P t R := by
  intro H enc W base spare held n cs x hx
  cases n with
  | zero => simp [DataW.trod] at hx
  | succ n =>
    unfold DataW.trod at hx
    rw [ht] at hx
    simp only at hx
    split at hx
    · rename_i hl
      obtain ⟨ys, hys, _⟩ := Option.map_eq_some_iff.1 hx
      obtain ⟨a, ha⟩ := h H enc W base spare held n cs ys (by omega) hys
      exact ⟨a, by simpa using ha⟩
    · cases hx
theorem flatten_get (sz : Nat) : ∀ (css : List (List Value)), (∀ c ∈ css, c.length = sz) → ∀ i j, j < sz → css.flatten[i * sz + j]? = (css[i]?).bind (fun c => c[j]?)
  | [], _, i, j, _ => by simp
  | c :: css, h, 0, j, hj => by
    have := h c (by simp)
    simp [List.getElem?_append, this, hj]
  | c :: css, h, i + 1, j, hj => by
    have hc := h c (by simp)
    rw [List.flatten_cons, List.getElem?_append_right (by rw [hc, Nat.add_mul]; omega), hc, show (i + 1) * sz + j - sz = i * sz + j by rw [Nat.add_mul]; omega]
    simpa using flatten_get sz css (fun d hd => h d (by simp [hd])) i j hj
theorem flatten_len (sz : Nat) (css : List (List Value)) (h : ∀ c ∈ css, c.length = sz) : css.flatten.length = css.length * sz := by
  induction css with
  | nil => simp
  | cons c css ih => rw [List.flatten_cons, List.length_append, h c (by simp), ih (fun d hd => h d (by simp [hd])), List.length_cons, Nat.add_mul]; omega
theorem opens_slice {α : Type} {P : Program} {t e : TypeId} {sz : Nat} {R : Rel α} (ht : P.underlying t = some (.slice e)) (hc : P.cellsOf e = sz) (hsz : 0 < sz) (h : Opens P e R) : Opens P t (rSlice sz R) := by
  intro H enc W base spare held n cs x hx
  rcases Go.Deep.open_slice ht hx with ⟨rfl, _⟩ | ⟨a, len, cap, m, n', D, Pl, rfl, _, hlc, hm, hmm, _, hel⟩
  · exact ⟨[], none, 0, [], rfl, ⟨none, 0, 0, rfl, by simp, Nat.le_refl _, by simp [maxLen], fun h => absurd h (by omega)⟩, rfl, fun i x d hi => by simp at hi⟩
  · have hlm : len ≤ m := by rw [hmm]; split <;> omega
    have hch : ∀ i, i < len → ∃ p : α × List Value, W.cells? base (a.add (i * sz)) sz = some p.2 ∧ R W p.1 p.2 := fun i hi => by
      obtain ⟨cs', h1, h2⟩ := hel i (by omega)
      rw [hc] at h1
      obtain ⟨y, hy⟩ := h H enc W base spare held n' cs' _ h2
      exact ⟨(y, cs'), h1, hy⟩
    rcases Nat.eq_zero_or_pos len with rfl | hpos
    · exact ⟨[], some a, cap, [], rfl, ⟨some a, 0, cap, rfl, by simp, hlc, hm, fun h => absurd h (by omega)⟩, rfl, fun i x d hi => by simp at hi⟩
    · obtain ⟨p0, _, _⟩ := hch 0 hpos
      have : Inhabited (α × List Value) := ⟨p0⟩
      obtain ⟨f, hf⟩ := Go.Deep.choose_lt hch
      have hlen : ∀ i, i < len → (f i).2.length = sz := fun i hi => (World.cells?_some (hf i hi).1).2.1
      have hall : ∀ c ∈ (List.range len).map (fun i => (f i).2), c.length = sz := by
        intro c hc'
        obtain ⟨i, hi, rfl⟩ := List.mem_map.1 hc'
        exact hlen i (List.mem_range.1 hi)
      have hcell : ∀ i j u, i < len → j < sz → (f i).2[j]? = some u → W.cell? (a.add (i * sz + j)) = some u := fun i j u hi hj hu => by
        have h0 := (World.cells?_some (hf i hi).1).2.2 j hj
        rw [Go.Deep.add_add] at h0
        rw [h0, hu]
      have hspot : a.spot = none := by
        obtain ⟨u, hu⟩ : ∃ u, (f 0).2[0]? = some u := ⟨_, List.getElem?_eq_getElem (by rw [hlen 0 hpos]; exact hsz)⟩
        have h0 := World.cell?_spot (hcell 0 0 u hpos hsz hu)
        rw [Nat.zero_mul, Nat.add_zero] at h0
        unfold Addr.add at h0
        split at h0
        · assumption
        · cases hs : a.spot with
          | none => rfl
          | some s => simp_all
      obtain ⟨ab, ao, asz⟩ := a
      simp only at hspot
      subst hspot
      refine ⟨(List.range len).map (fun i => (f i).1), some ⟨ab, ao, none⟩, cap, (List.range len).map (fun i => (f i).2), by simp, ?_, by simp, ?_⟩
      · refine ⟨_, len, cap, by simp, by rw [flatten_len sz _ hall]; simp, hlc, hm, fun _ => ⟨ab, ao, rfl, fun j u hj => ?_⟩⟩
        have hjl := (List.getElem?_eq_some_iff.1 hj).1
        rw [flatten_len sz _ hall] at hjl
        simp only [List.length_map, List.length_range] at hjl
        have hdm := Nat.div_add_mod j sz
        have hq : j / sz < len := (Nat.div_lt_iff_lt_mul hsz).2 hjl
        have hr : j % sz < sz := Nat.mod_lt _ hsz
        have he : j / sz * sz + j % sz = j := by rw [Nat.mul_comm]; exact hdm
        rw [← he, flatten_get sz _ hall _ _ hr] at hj
        simp only [List.getElem?_map, List.getElem?_range hq, Option.map_some, Option.bind_some] at hj
        have := hcell _ _ u hq hr hj
        rwa [add_lit, he] at this
      · intro i x d hi hd
        have hlt : i < len := by have := (List.getElem?_eq_some_iff.1 hi).1; simpa using this
        simp only [List.getElem?_map, List.getElem?_range hlt, Option.map_some, Option.some.injEq] at hi hd
        subst hi
        subst hd
        exact ⟨hlen i hlt, (hf i hlt).2⟩
/-- The same in other words. -/
theorem Opens.imp {α β : Type} {P : Program} {t : TypeId} {R : Rel α} {S : Rel β} (h : Opens P t R) (f : α → β) (hf : ∀ W x cs, R W x cs → S W (f x) cs) : Opens P t S := fun H enc W base spare held n cs x hx => by
  obtain ⟨a, ha⟩ := h H enc W base spare held n cs x hx
  exact ⟨f a, hf _ _ _ ha⟩
/-- Elements whose cells are told by a function. -/
theorem rSlice_flat {α β : Type} {sz : Nat} {R : Rel α} {W : World} {xs : List α} {cs : List Value} (h : rSlice sz R W xs cs) (f : α → β) (enc : β → List Value) (hR : ∀ x d, R W x d → d = enc (f x)) :
    ∃ A c, cs = [.slice A (xs.map f).length c] ∧ Rw W sz (.slice A (xs.map f).length c) ((xs.map f).flatMap enc) := by
  obtain ⟨A, c, css, rfl, hrw, hl, hel⟩ := h
  refine ⟨A, c, by simp, ?_⟩
  have : css = (xs.map f).map enc := by
    apply List.ext_getElem?
    intro i
    rcases Nat.lt_or_ge i xs.length with hi | hi
    · have h1 : xs[i]? = some xs[i] := List.getElem?_eq_getElem hi
      have h2 : css[i]? = some css[i] := List.getElem?_eq_getElem (by omega)
      rw [h2, hR _ _ (hel i _ _ h1 h2).2]
      simp [h1]
    · rw [List.getElem?_eq_none (by omega), List.getElem?_eq_none (by simpa using hi)]
  rw [this] at hrw
  simpa [List.flatMap] using hrw
end Go.Cw

/- Arguments: ids, commands, records, and lists of them, from data to what their cells hold. -/
set_option linter.unusedVariables false
set_option linter.unusedSimpArgs false
namespace Go.Cw
open Go.RowKit
def rFlt : Rel Nat := fun _ x cs => cs = [.float .f64 x] ∧ x < 18446744073709551616
theorem opens_flt {P : Program} {t : TypeId} (ht : P.underlying t = some (.float .f64)) : Opens P t rFlt := fun _ _ _ _ _ _ n _ _ h => by
  cases n with
  | zero => simp [DataW.trod] at h
  | succ n =>
    unfold DataW.trod at h
    rw [ht] at h
    split at h
    all_goals simp_all
    rename_i k' b
    obtain ⟨⟨_, h2⟩, _⟩ := h
    subst b
    simp [Lit.wf] at h2
    exact ⟨k', rfl, by omega⟩
theorem lists_exR {α β : Type} {R : α → List Value → Prop} (enc : β → List Value) (P : β → Prop) (hR : ∀ x d, R x d → ∃ b, d = enc b ∧ P b) : ∀ (xs : List α) (css : List (List Value)), css.length = xs.length → (∀ (i : Nat) (x : α) (d : List Value), xs[i]? = some x → css[i]? = some d → R x d) → ∃ ys : List β, ys.length = xs.length ∧ css.flatten = ys.flatMap enc ∧ ∀ y ∈ ys, P y
  | [], [], _, _ => ⟨[], rfl, rfl, by simp⟩
  | x :: xs, d :: css, hl, h => by
    obtain ⟨b, rfl, hb⟩ := hR x d (h 0 x d rfl rfl)
    obtain ⟨ys, h1, h2, h3⟩ := lists_exR enc P hR xs css (by simpa using hl) (fun i x' d' hx hd => h (i + 1) x' d' hx hd)
    exact ⟨b :: ys, by simp [h1], by simp [h2], fun y hy => (List.mem_cons.1 hy).elim (fun e => e ▸ hb) (h3 y)⟩
/-- A list whose elements are told by a function, with a fact of each. -/
theorem rSlice_exR {α β : Type} {sz : Nat} {R : Rel α} {W : World} {xs : List α} {cs : List Value} (h : rSlice sz R W xs cs) (enc : β → List Value) (P : β → Prop) (hR : ∀ x d, R W x d → ∃ b, d = enc b ∧ P b) :
    ∃ (A : Option Addr) (c : Nat) (ys : List β), cs = [.slice A ys.length c] ∧ Rw W sz (.slice A ys.length c) (ys.flatMap enc) ∧ ∀ y ∈ ys, P y := by
  obtain ⟨A, c, css, rfl, hrw, hl, hel⟩ := h
  obtain ⟨ys, h1, h2, h3⟩ := lists_exR enc P hR xs css hl (fun i x d hx hd => (hel i x d hx hd).2)
  rw [h2] at hrw
  exact ⟨A, c, ys, by rw [h1], by rw [h1]; exact hrw, h3⟩
theorem agg_ofR {v : Value} {cs : List Value} (h : v.cells.toList = cs) (h2 : 2 ≤ cs.length) : v = .agg cs.toArray := by
  cases v with
  | agg a => simp only [Value.cells] at h; subst h; simp
  | _ => simp only [Value.cells] at h; subst h; simp at h2
end Go.Cw
namespace Go.Proofs.YtcbckeoalmjcoaaGreat
open Go.RowKit Go.Cw Go.Fl
theorem lc_int : Tryz.prog.cellsOf 3 = 1 := by kernel_rfl
theorem lc_str : Tryz.prog.cellsOf 9 = 1 := by kernel_rfl
theorem lc_flt : Tryz.prog.cellsOf 112 = 1 := by kernel_rfl
theorem lc_id : Tryz.prog.cellsOf 41 = 2 := by kernel_rfl
theorem lc_cm : Tryz.prog.cellsOf 114 = 3 := by kernel_rfl
theorem lc_ids : Tryz.prog.cellsOf 35 = 1 := by kernel_rfl
theorem lc_cms : Tryz.prog.cellsOf 51 = 1 := by kernel_rfl
theorem lc_rec : Tryz.prog.cellsOf 53 = 5 := by kernel_rfl
theorem lc_recs : Tryz.prog.cellsOf 22 = 1 := by kernel_rfl
theorem lo_int : Opens Tryz.prog 3 (rInt .i64) := opens_int Tryz.underlying3
theorem lo_str : Opens Tryz.prog 9 rStr := opens_str Tryz.underlying9
theorem lo_flt : Opens Tryz.prog 112 rFlt := opens_flt Tryz.underlying112
abbrev rId : Rel (Int × Int × Unit) := rCons (rInt .i64) (rCons (rInt .i64) rNil)
abbrev rCm : Rel (Int × ByteArray × Nat × Unit) := rCons (rInt .i64) (rCons rStr (rCons rFlt rNil))
abbrev rRec : Rel ((Int × Int × Unit) × Int × List (Int × Int × Unit) × List (Int × ByteArray × Nat × Unit) × Unit) := rCons rId (rCons (rInt .i64) (rCons (rSlice 2 rId) (rCons (rSlice 3 rCm) rNil)))
set_option maxRecDepth 100000 in
theorem lo_id : Opens Tryz.prog 41 rId := opens_struct Tryz.underlying41 lc_id (opensF_cons rfl lc_int lo_int (opensF_cons rfl lc_int lo_int opensF_nil))
set_option maxRecDepth 100000 in
theorem lo_cm : Opens Tryz.prog 114 rCm := opens_struct Tryz.underlying114 lc_cm (opensF_cons rfl lc_int lo_int (opensF_cons rfl lc_str lo_str (opensF_cons rfl lc_flt lo_flt opensF_nil)))
set_option maxRecDepth 100000 in
theorem lo_ids : Opens Tryz.prog 35 (rSlice 2 rId) := opens_slice Tryz.underlying35 lc_id (by decide) lo_id
set_option maxRecDepth 100000 in
theorem lo_cms : Opens Tryz.prog 51 (rSlice 3 rCm) := opens_slice Tryz.underlying51 lc_cm (by decide) lo_cm
set_option maxRecDepth 100000 in
theorem lo_rec : Opens Tryz.prog 53 rRec := opens_struct Tryz.underlying53 lc_rec (opensF_cons rfl lc_id lo_id (opensF_cons rfl lc_int lo_int (opensF_cons rfl lc_ids lo_ids (opensF_cons rfl lc_cms lo_cms opensF_nil))))
set_option maxRecDepth 100000 in
theorem lo_recs : Opens Tryz.prog 22 (rSlice 5 rRec) := opens_slice Tryz.underlying22 lc_rec (by decide) lo_rec
theorem idR {W : World} {x : Int × Int × Unit} {d : List Value} (h : rId W x d) : d = idc (x.1, x.2.1) := by
  obtain ⟨_, _, rfl, ⟨rfl, _⟩, ⟨_, _, rfl, ⟨rfl, _⟩, rfl⟩⟩ := h
  rfl
theorem idsR {W : World} {xs : List (Int × Int × Unit)} {cs : List Value} (h : rSlice 2 rId W xs cs) : ∃ (A : Option Addr) (c : Nat) (l : List Id), cs = [.slice A l.length c] ∧ Rw W 2 (.slice A l.length c) (idl l) := by
  obtain ⟨A, c, ys, h1, h2, _⟩ := rSlice_exR h idc (fun _ => True) (fun x d hx => ⟨(x.1, x.2.1), idR hx, trivial⟩)
  exact ⟨A, c, ys, h1, h2⟩
theorem cmsR {W : World} {xs : List (Int × ByteArray × Nat × Unit)} {cs : List Value} (h : rSlice 3 rCm W xs cs) : ∃ (A : Option Addr) (c : Nat) (l : List Cm), cs = [.slice A l.length c] ∧ Rw W 3 (.slice A l.length c) (cml l) ∧ ∀ y ∈ l, CmW y :=
  rSlice_exR h cmc CmW (fun x d hx => by
    obtain ⟨_, _, rfl, ⟨rfl, _⟩, ⟨_, _, rfl, ⟨rfl, hs⟩, ⟨_, _, rfl, ⟨rfl, hf⟩, rfl⟩⟩⟩ := hx
    exact ⟨(x.1, x.2.1, x.2.2.1), rfl, ⟨by simpa [maxLen] using hs, hf⟩⟩)
theorem recR {W : World} {x : (Int × Int × Unit) × Int × List (Int × Int × Unit) × List (Int × ByteArray × Nat × Unit) × Unit} {d : List Value} (h : rRec W x d) : ∃ b : Rc, d = recc b ∧ RcR W b := by
  obtain ⟨_, _, rfl, hi, ⟨_, _, rfl, ⟨rfl, _⟩, ⟨_, _, rfl, hd, ⟨_, _, rfl, hb, rfl⟩⟩⟩⟩ := h
  rw [idR hi]
  obtain ⟨A, c, D, rfl, h1⟩ := idsR hd
  obtain ⟨A', c', B, rfl, h2, h3⟩ := cmsR hb
  exact ⟨((_, _), _, _, _, D, B), rfl, ⟨h1, h2, h3⟩⟩
theorem recsR {W : World} {xs : List ((Int × Int × Unit) × Int × List (Int × Int × Unit) × List (Int × ByteArray × Nat × Unit) × Unit)} {cs : List Value} (h : rSlice 5 rRec W xs cs) : ∃ (A : Option Addr) (c : Nat) (l : List Rc), cs = [.slice A l.length c] ∧ Rw W 5 (.slice A l.length c) (recs l) ∧ ∀ y ∈ l, RcR W y :=
  rSlice_exR h recc (RcR W) (fun x d hx => recR hx)
end Go.Proofs.YtcbckeoalmjcoaaGreat

/- Arguments: lists of lists of ids. -/
set_option linter.unusedVariables false
set_option linter.unusedSimpArgs false
namespace Go.Proofs.YtcbckeoalmjcoaaGreat
open Go.ChangeShapes Go.WideShapes Go.ChangeAt Go.RowKit Go.Cw
theorem lo_idss : Opens Tryz.prog 31 (rSlice 1 (rSlice 2 rId)) := opens_slice Tryz.underlying31 lc_ids (by decide) lo_ids
theorem flat_one : ∀ X : List Lv, X.flatMap (fun x : Lv => [x.2]) = X.map (·.2)
  | [] => rfl
  | x :: r => by rw [List.flatMap_cons, List.map_cons, flat_one r]; rfl
theorem idssR {W : World} {xs : List (List (Int × Int × Unit))} {cs : List Value} (h : rSlice 1 (rSlice 2 rId) W xs cs) : ∃ (A : Option Addr) (c : Nat) (X : List Lv), cs = [.slice A X.length c] ∧ LvR W (.slice A X.length c) X := by
  obtain ⟨A, c, X, rfl, hr, hp⟩ := rSlice_exR h (fun x : Lv => [x.2]) (fun x => Rw W 2 x.2 (idl x.1)) (fun x d hx => by
    obtain ⟨A', c', l, rfl, h1⟩ := idsR hx
    exact ⟨(l, .slice A' l.length c'), rfl, h1⟩)
  have e : X.flatMap (fun x : Lv => [x.2]) = vals X := by
    unfold vals
    exact flat_one X
  rw [e] at hr
  exact ⟨A, c, X, rfl, hr, hp⟩
end Go.Proofs.YtcbckeoalmjcoaaGreat
