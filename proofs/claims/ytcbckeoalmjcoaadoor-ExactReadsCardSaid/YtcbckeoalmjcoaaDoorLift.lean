/- From an argument that can be read as data to what its cells hold: plain lemmas, of no program. -/
import Derived.Test.YtcbckeoalmjcoaaDoorOwn
import Derived.ProofKit
import Derived.OpenShut
import Derived.ShutString
import Derived.ChangeOld
import Derived.SizedLaws
import Derived.Deep.Slices
set_option linter.unusedVariables false
set_option linter.unusedSimpArgs false
namespace Go.Cw
open Go.RowKit

/-- What cells say, in a world. -/
abbrev Rel (α : Type) := World → α → List Value → Prop
/-- Cells of type t that can be read as data say something by R. -/
def Opens {α : Type} (P : Program) (t : TypeId) (R : Rel α) : Prop :=
  ∀ (H : Type) (enc : TypeId × Value → H) (W : World) (base : Nat) (spare : Nat → Bool) (held : Bool) (n : Nat) (cs : List Value) (x : DataW H × List MemPlace),
    DataW.trod enc P W base spare held n t cs = some x → ∃ a, R W a cs
def rInt (k : IntKind) : Rel Int := fun _ x cs => cs = [.int k x] ∧ (Lit.int k x).wf = true
def rBool : Rel Bool := fun _ x cs => cs = [.bool x]
def rStr : Rel ByteArray := fun _ s cs => cs = [.string s] ∧ s.size ≤ maxLen
def rNil : Rel Unit := fun _ _ cs => cs = []
def rCons {α β : Type} (R : Rel α) (S : Rel β) : Rel (α × β) := fun W x cs => ∃ c d, cs = c ++ d ∧ R W x.1 c ∧ S W x.2 d
def rSlice {α : Type} (sz : Nat) (R : Rel α) : Rel (List α) := fun W xs cs =>
  ∃ (A : Option Addr) (c : Nat) (css : List (List Value)), cs = [.slice A xs.length c] ∧ Rw W sz (.slice A xs.length c) css.flatten ∧ css.length = xs.length ∧ ∀ (i : Nat) (x : α) (d : List Value), xs[i]? = some x → css[i]? = some d → d.length = sz ∧ R W x d
theorem opens_int {P : Program} {t : TypeId} {k : IntKind} (ht : P.underlying t = some (.int k)) : Opens P t (rInt k) := fun _ _ _ _ _ _ _ _ _ h => by
  obtain ⟨x, rfl, _, hw⟩ := DataW.trod_int ht h
  exact ⟨x, rfl, hw⟩
theorem opens_bool {P : Program} {t : TypeId} (ht : P.underlying t = some .bool) : Opens P t rBool := fun _ _ _ _ _ _ _ _ _ h => by
  obtain ⟨x, rfl, _⟩ := DataW.trod_bool ht h
  exact ⟨x, rfl⟩
theorem opens_str {P : Program} {t : TypeId} (ht : P.underlying t = some .string) : Opens P t rStr := fun _ _ _ _ _ _ _ _ _ h => by
  obtain ⟨x, rfl, _, hs⟩ := DataW.trod_string ht h
  exact ⟨x, rfl, hs⟩
def OpensF {α : Type} (P : Program) (tot : Nat) (fs : List Field) (off : Nat) (R : Rel α) : Prop :=
  ∀ (H : Type) (enc : TypeId × Value → H) (W : World) (base : Nat) (spare : Nat → Bool) (held : Bool) (n : Nat) (cs : List Value) (xs : List (DataW H × List MemPlace)),
    cs.length = tot → (fs.mapM fun f => DataW.trod enc P W base spare held n f.type ((cs.drop f.offset).take (P.cellsOf f.type))) = some xs → ∃ a, R W a (cs.drop off)
theorem opensF_nil {P : Program} {tot : Nat} : OpensF P tot [] tot rNil := fun _ _ _ _ _ _ _ cs _ hl _ => ⟨(), by simp [rNil, hl]⟩
theorem opensF_cons {α β : Type} {P : Program} {tot off k : Nat} {f : Field} {fs : List Field} {R : Rel α} {S : Rel β} (ho : f.offset = off) (hk : P.cellsOf f.type = k) (h1 : Opens P f.type R) (h2 : OpensF P tot fs (off + k) S) :
    OpensF P tot (f :: fs) off (rCons R S) := by
  intro H enc W base spare held n cs xs hl h
  simp only [List.mapM_cons, Option.bind_eq_bind, Option.bind_eq_some_iff, Option.pure_def, Option.some.injEq] at h
  obtain ⟨y, hy, ys, hys, _⟩ := h
  obtain ⟨a, ha⟩ := h1 H enc W base spare held n _ y hy
  obtain ⟨b, hb⟩ := h2 H enc W base spare held n cs ys hl hys
  rw [ho, hk] at ha
  refine ⟨(a, b), _, _, ?_, ha, hb⟩
  rw [← List.drop_drop, List.take_append_drop]
theorem opens_struct {α : Type} {P : Program} {t : TypeId} {fs : Array Field} {tot : Nat} {R : Rel α} (ht : P.underlying t = some (.struct fs)) (hc : P.cellsOf t = tot) (h : OpensF P tot fs.toList 0 R) : Opens P t R := by
  intro H enc W base spare held n cs x hx
  cases n with
  | zero => simp [DataW.trod] at hx
  | succ n =>
    unfold DataW.trod at hx
    rw [ht] at hx
    simp only at hx
    split at hx
    · rename_i hl
      obtain ⟨ys, hys, _⟩ := Option.map_eq_some_iff.1 hx
      obtain ⟨a, ha⟩ := h H enc W base spare held n cs ys (by omega) hys
      exact ⟨a, by simpa using ha⟩
    · cases hx
theorem flatten_get (sz : Nat) : ∀ (css : List (List Value)), (∀ c ∈ css, c.length = sz) → ∀ i j, j < sz → css.flatten[i * sz + j]? = (css[i]?).bind (fun c => c[j]?)
  | [], _, i, j, _ => by simp
  | c :: css, h, 0, j, hj => by
    have := h c (by simp)
    simp [List.getElem?_append, this, hj]
  | c :: css, h, i + 1, j, hj => by
    have hc := h c (by simp)
    rw [List.flatten_cons, List.getElem?_append_right (by rw [hc, Nat.add_mul]; omega), hc, show (i + 1) * sz + j - sz = i * sz + j by rw [Nat.add_mul]; omega]
    simpa using flatten_get sz css (fun d hd => h d (by simp [hd])) i j hj
theorem flatten_len (sz : Nat) (css : List (List Value)) (h : ∀ c ∈ css, c.length = sz) : css.flatten.length = css.length * sz := by
  induction css with
  | nil => simp
  | cons c css ih => rw [List.flatten_cons, List.length_append, h c (by simp), ih (fun d hd => h d (by simp [hd])), List.length_cons, Nat.add_mul]; omega
theorem opens_slice {α : Type} {P : Program} {t e : TypeId} {sz : Nat} {R : Rel α} (ht : P.underlying t = some (.slice e)) (hc : P.cellsOf e = sz) (hsz : 0 < sz) (h : Opens P e R) : Opens P t (rSlice sz R) := by
  intro H enc W base spare held n cs x hx
  rcases Go.Deep.open_slice ht hx with ⟨rfl, _⟩ | ⟨a, len, cap, m, n', D, Pl, rfl, _, hlc, hm, hmm, _, hel⟩
  · exact ⟨[], none, 0, [], rfl, ⟨none, 0, 0, rfl, by simp, Nat.le_refl _, by simp [maxLen], fun h => absurd h (by omega)⟩, rfl, fun i x d hi => by simp at hi⟩
  · have hlm : len ≤ m := by rw [hmm]; split <;> omega
    have hch : ∀ i, i < len → ∃ p : α × List Value, W.cells? base (a.add (i * sz)) sz = some p.2 ∧ R W p.1 p.2 := fun i hi => by
      obtain ⟨cs', h1, h2⟩ := hel i (by omega)
      rw [hc] at h1
      obtain ⟨y, hy⟩ := h H enc W base spare held n' cs' _ h2
      exact ⟨(y, cs'), h1, hy⟩
    rcases Nat.eq_zero_or_pos len with rfl | hpos
    · exact ⟨[], some a, cap, [], rfl, ⟨some a, 0, cap, rfl, by simp, hlc, hm, fun h => absurd h (by omega)⟩, rfl, fun i x d hi => by simp at hi⟩
    · obtain ⟨p0, _, _⟩ := hch 0 hpos
      have : Inhabited (α × List Value) := ⟨p0⟩
      obtain ⟨f, hf⟩ := Go.Deep.choose_lt hch
      have hlen : ∀ i, i < len → (f i).2.length = sz := fun i hi => (World.cells?_some (hf i hi).1).2.1
      have hall : ∀ c ∈ (List.range len).map (fun i => (f i).2), c.length = sz := by
        intro c hc'
        obtain ⟨i, hi, rfl⟩ := List.mem_map.1 hc'
        exact hlen i (List.mem_range.1 hi)
      have hcell : ∀ i j u, i < len → j < sz → (f i).2[j]? = some u → W.cell? (a.add (i * sz + j)) = some u := fun i j u hi hj hu => by
        have h0 := (World.cells?_some (hf i hi).1).2.2 j hj
        rw [Go.Deep.add_add] at h0
        rw [h0, hu]
      have hspot : a.spot = none := by
        obtain ⟨u, hu⟩ : ∃ u, (f 0).2[0]? = some u := ⟨_, List.getElem?_eq_getElem (by rw [hlen 0 hpos]; exact hsz)⟩
        have h0 := World.cell?_spot (hcell 0 0 u hpos hsz hu)
        rw [Nat.zero_mul, Nat.add_zero] at h0
        unfold Addr.add at h0
        split at h0
        · assumption
        · cases hs : a.spot with
          | none => rfl
          | some s => simp_all
      obtain ⟨ab, ao, asz⟩ := a
      simp only at hspot
      subst hspot
      refine ⟨(List.range len).map (fun i => (f i).1), some ⟨ab, ao, none⟩, cap, (List.range len).map (fun i => (f i).2), by simp, ?_, by simp, ?_⟩
      · refine ⟨_, len, cap, by simp, by rw [flatten_len sz _ hall]; simp, hlc, hm, fun _ => ⟨ab, ao, rfl, fun j u hj => ?_⟩⟩
        have hjl := (List.getElem?_eq_some_iff.1 hj).1
        rw [flatten_len sz _ hall] at hjl
        simp only [List.length_map, List.length_range] at hjl
        have hdm := Nat.div_add_mod j sz
        have hq : j / sz < len := (Nat.div_lt_iff_lt_mul hsz).2 hjl
        have hr : j % sz < sz := Nat.mod_lt _ hsz
        have he : j / sz * sz + j % sz = j := by rw [Nat.mul_comm]; exact hdm
        rw [← he, flatten_get sz _ hall _ _ hr] at hj
        simp only [List.getElem?_map, List.getElem?_range hq, Option.map_some, Option.bind_some] at hj
        have := hcell _ _ u hq hr hj
        rwa [add_lit, he] at this
      · intro i x d hi hd
        have hlt : i < len := by have := (List.getElem?_eq_some_iff.1 hi).1; simpa using this
        simp only [List.getElem?_map, List.getElem?_range hlt, Option.map_some, Option.some.injEq] at hi hd
        subst hi
        subst hd
        exact ⟨hlen i hlt, (hf i hlt).2⟩
/-- The same in other words. -/
theorem Opens.imp {α β : Type} {P : Program} {t : TypeId} {R : Rel α} {S : Rel β} (h : Opens P t R) (f : α → β) (hf : ∀ W x cs, R W x cs → S W (f x) cs) : Opens P t S := fun H enc W base spare held n cs x hx => by
  obtain ⟨a, ha⟩ := h H enc W base spare held n cs x hx
  exact ⟨f a, hf _ _ _ ha⟩
/-- Elements whose cells are told by a function. -/
theorem rSlice_flat {α β : Type} {sz : Nat} {R : Rel α} {W : World} {xs : List α} {cs : List Value} (h : rSlice sz R W xs cs) (f : α → β) (enc : β → List Value) (hR : ∀ x d, R W x d → d = enc (f x)) :
    ∃ A c, cs = [.slice A (xs.map f).length c] ∧ Rw W sz (.slice A (xs.map f).length c) ((xs.map f).flatMap enc) := by
  obtain ⟨A, c, css, rfl, hrw, hl, hel⟩ := h
  refine ⟨A, c, by simp, ?_⟩
  have : css = (xs.map f).map enc := by
    apply List.ext_getElem?
    intro i
    rcases Nat.lt_or_ge i xs.length with hi | hi
    · have h1 : xs[i]? = some xs[i] := List.getElem?_eq_getElem hi
      have h2 : css[i]? = some css[i] := List.getElem?_eq_getElem (by omega)
      rw [h2, hR _ _ (hel i _ _ h1 h2).2]
      simp [h1]
    · rw [List.getElem?_eq_none (by omega), List.getElem?_eq_none (by simpa using hi)]
  rw [this] at hrw
  simpa [List.flatMap] using hrw
end Go.Cw
