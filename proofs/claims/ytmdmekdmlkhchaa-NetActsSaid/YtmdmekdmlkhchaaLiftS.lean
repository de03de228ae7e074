/- From an argument that can be read as data, and whose weights are small, to what its cells hold. -/
import Derived.Test.YtmdmekdmlkhchaaLift
set_option linter.unusedVariables false
set_option linter.unusedSimpArgs false
namespace Go.Cw
open Go.RowKit
/-- As 'Opens', the datum's weights being within reach. -/
def OpensS {α : Type} (P : Program) (t : TypeId) (R : Rel α) : Prop :=
  ∀ (H : Type) (enc : TypeId × Value → H) (W : World) (base : Nat) (spare : Nat → Bool) (held : Bool) (n : Nat) (cs : List Value) (x : DataW H × List MemPlace),
    DataW.trod enc P W base spare held n t cs = some x → (∀ m ∈ x.1.weights P t, m ≤ reachBytes) → ∃ a, R W a cs
theorem Opens.sized {α : Type} {P : Program} {t : TypeId} {R : Rel α} (h : Opens P t R) : OpensS P t R := fun H enc W base spare held n cs x hx _ => h H enc W base spare held n cs x hx
def OpensSF {α : Type} (P : Program) (tot : Nat) (fs : List Field) (off : Nat) (R : Rel α) : Prop :=
  ∀ (H : Type) (enc : TypeId × Value → H) (W : World) (base : Nat) (spare : Nat → Bool) (held : Bool) (n : Nat) (cs : List Value) (xs : List (DataW H × List MemPlace)),
    cs.length = tot → (fs.mapM fun f => DataW.trod enc P W base spare held n f.type ((cs.drop f.offset).take (P.cellsOf f.type))) = some xs →
    (∀ m ∈ DataW.weightsEach P (fs.map (·.type)) (xs.map (·.1)), m ≤ reachBytes) → ∃ a, R W a (cs.drop off)
theorem opensSF_nil {P : Program} {tot : Nat} : OpensSF P tot [] tot rNil := fun _ _ _ _ _ _ _ cs _ hl _ _ => ⟨(), by simp [rNil, hl]⟩
theorem opensSF_cons {α β : Type} {P : Program} {tot off k : Nat} {f : Field} {fs : List Field} {R : Rel α} {S : Rel β} (ho : f.offset = off) (hk : P.cellsOf f.type = k) (h1 : OpensS P f.type R) (h2 : OpensSF P tot fs (off + k) S) :
    OpensSF P tot (f :: fs) off (rCons R S) := by
  intro H enc W base spare held n cs xs hl h hw
  simp only [List.mapM_cons, Option.bind_eq_bind, Option.bind_eq_some_iff, Option.pure_def, Option.some.injEq] at h
  obtain ⟨y, hy, ys, hys, rfl⟩ := h
  simp only [List.map_cons, DataW.weightsEach, List.mem_append] at hw
  obtain ⟨a, ha⟩ := h1 H enc W base spare held n _ y hy (fun m hm => hw m (.inl hm))
  obtain ⟨b, hb⟩ := h2 H enc W base spare held n cs ys hl hys (fun m hm => hw m (.inr hm))
  rw [ho, hk] at ha
  refine ⟨(a, b), _, _, ?_, ha, hb⟩
  rw [← List.drop_drop, List.take_append_drop]
theorem opensS_struct {α : Type} {P : Program} {t : TypeId} {fs : Array Field} {tot : Nat} {R : Rel α} (ht : P.underlying t = some (.struct fs)) (hc : P.cellsOf t = tot) (h : OpensSF P tot fs.toList 0 R) : OpensS P t R := by
  intro H enc W base spare held n cs x hx hw
  cases n with
  | zero => simp [DataW.trod] at hx
  | succ n =>
    unfold DataW.trod at hx
    rw [ht] at hx
    simp only at hx
    split at hx
    · rename_i hl
      obtain ⟨ys, hys, rfl⟩ := Option.map_eq_some_iff.1 hx
      simp only [DataW.weights, ht] at hw
      obtain ⟨a, ha⟩ := h H enc W base spare held n cs ys (by omega) hys hw
      exact ⟨a, by simpa using ha⟩
    · cases hx
/-- A slice whose bytes are within reach. -/
def rSliceS {α : Type} (sz B : Nat) (R : Rel α) : Rel (List α) := fun W xs cs => rSlice sz R W xs cs ∧ xs.length * B ≤ reachBytes
theorem weightsAll_mem {H : Type} {P : Program} {e : TypeId} : ∀ {ds : List (DataW H)} {d : DataW H}, d ∈ ds → ∀ m ∈ d.weights P e, m ∈ DataW.weightsAll P e ds
  | d0 :: ds, d, h, m, hm => by
    simp only [DataW.weightsAll, List.mem_append]
    rcases List.mem_cons.1 h with rfl | h
    · exact .inl hm
    · exact .inr (weightsAll_mem h m hm)
theorem opensS_slice {α : Type} {P : Program} {t e : TypeId} {sz : Nat} {R : Rel α} (ht : P.underlying t = some (.slice e)) (hc : P.cellsOf e = sz) (hsz : 0 < sz) (h : OpensS P e R) : OpensS P t (rSliceS sz (P.bytesOf e) R) := by
  intro H enc W base spare held n cs x hx hw
  rcases Go.Deep.open_slice ht hx with ⟨rfl, _⟩ | ⟨a, len, cap, m, n', D, Pl, rfl, _, hlc, hm, hmm, rfl, hel⟩
  · exact ⟨[], ⟨none, 0, [], rfl, ⟨none, 0, 0, rfl, by simp, Nat.le_refl _, by simp [maxLen], fun h => absurd h (by omega)⟩, rfl, fun i x d hi => by simp at hi⟩, by simp⟩
  · have hlm : len ≤ m := by rw [hmm]; split <;> omega
    simp only [DataW.weights, ht, List.mem_cons, List.mem_append, List.length_map, List.length_range] at hw
    have hreach : len * P.bytesOf e ≤ reachBytes := Nat.le_trans (Nat.mul_le_mul_right _ (Nat.le_add_right _ _)) (hw _ (.inl rfl))
    have hch : ∀ i, i < len → ∃ p : α × List Value, W.cells? base (a.add (i * sz)) sz = some p.2 ∧ R W p.1 p.2 := fun i hi => by
      obtain ⟨cs', h1, h2⟩ := hel i (by omega)
      rw [hc] at h1
      obtain ⟨y, hy⟩ := h H enc W base spare held n' cs' _ h2 (fun m' hm' => hw m' (.inr (.inl (weightsAll_mem (List.mem_map.2 ⟨i, List.mem_range.2 hi, rfl⟩) m' hm'))))
      exact ⟨(y, cs'), h1, hy⟩
    rcases Nat.eq_zero_or_pos len with rfl | hpos
    · exact ⟨[], ⟨some a, cap, [], rfl, ⟨some a, 0, cap, rfl, by simp, hlc, hm, fun h => absurd h (by omega)⟩, rfl, fun i x d hi => by simp at hi⟩, by simp⟩
    · obtain ⟨p0, _, _⟩ := hch 0 hpos
      have : Inhabited (α × List Value) := ⟨p0⟩
      obtain ⟨f, hf⟩ := Go.Deep.choose_lt hch
      have hlen : ∀ i, i < len → (f i).2.length = sz := fun i hi => (World.cells?_some (hf i hi).1).2.1
      have hall : ∀ c ∈ (List.range len).map (fun i => (f i).2), c.length = sz := by
        intro c hc'
        obtain ⟨i, hi, rfl⟩ := List.mem_map.1 hc'
        exact hlen i (List.mem_range.1 hi)
      have hcell : ∀ i j u, i < len → j < sz → (f i).2[j]? = some u → W.cell? (a.add (i * sz + j)) = some u := fun i j u hi hj hu => by
        have h0 := (World.cells?_some (hf i hi).1).2.2 j hj
        rw [Go.Deep.add_add] at h0
        rw [h0, hu]
      have hspot : a.spot = none := by
        obtain ⟨u, hu⟩ : ∃ u, (f 0).2[0]? = some u := ⟨_, List.getElem?_eq_getElem (by rw [hlen 0 hpos]; exact hsz)⟩
        have h0 := World.cell?_spot (hcell 0 0 u hpos hsz hu)
        rw [Nat.zero_mul, Nat.add_zero] at h0
        unfold Addr.add at h0
        split at h0
        · assumption
        · cases hs : a.spot with
          | none => rfl
          | some s => simp_all
      obtain ⟨ab, ao, as⟩ := a
      simp only at hspot
      subst hspot
      refine ⟨(List.range len).map (fun i => (f i).1), ⟨some ⟨ab, ao, none⟩, cap, (List.range len).map (fun i => (f i).2), by simp, ?_, by simp, ?_⟩, by simpa using hreach⟩
      · refine ⟨_, len, cap, by simp, by rw [flatten_len sz _ hall]; simp, hlc, hm, fun _ => ⟨ab, ao, rfl, fun j u hj => ?_⟩⟩
        have hjl := (List.getElem?_eq_some_iff.1 hj).1
        rw [flatten_len sz _ hall] at hjl
        simp only [List.length_map, List.length_range] at hjl
        have hdm := Nat.div_add_mod j sz
        have hq : j / sz < len := (Nat.div_lt_iff_lt_mul hsz).2 hjl
        have hr : j % sz < sz := Nat.mod_lt _ hsz
        have he : j / sz * sz + j % sz = j := by rw [Nat.mul_comm]; exact hdm
        rw [← he, flatten_get sz _ hall _ _ hr] at hj
        simp only [List.getElem?_map, List.getElem?_range hq, Option.map_some, Option.bind_some] at hj
        have := hcell _ _ u hq hr hj
        rwa [add_lit, he] at this
      · intro i x d hi hd
        have hlt : i < len := by have := (List.getElem?_eq_some_iff.1 hi).1; simpa using this
        simp only [List.getElem?_map, List.getElem?_range hlt, Option.map_some, Option.some.injEq] at hi hd
        subst hi
        subst hd
        exact ⟨hlen i hlt, (hf i hlt).2⟩
end Go.Cw
