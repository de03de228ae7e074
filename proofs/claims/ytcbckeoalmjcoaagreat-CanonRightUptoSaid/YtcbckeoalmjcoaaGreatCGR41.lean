/- Joined texts: LiftB. -/
import Derived.Test.YtcbckeoalmjcoaaGreatRows
import Derived.Test.YtcbckeoalmjcoaaGreatCGR40
/- Arguments whose bulk is bounded: a list of lists of ids. -/
set_option linter.unusedVariables false
set_option linter.unusedSimpArgs false
namespace Go.Proofs.YtcbckeoalmjcoaaGreat
open Go.ChangeShapes Go.WideShapes Go.ChangeAt Go.RowKit Go.Cw
theorem bulk_one {H : Type} (d : DataW H) : 1 ≤ Rows.uptoBulk d := by
  cases d with
  | lit l => cases l <;> simp [Rows.uptoBulk]
  | nil => simp [Rows.uptoBulk]
  | ptr d => simp [Rows.uptoBulk]
  | slice elems spare => simp [Rows.uptoBulk]
  | agg parts => simp [Rows.uptoBulk]
  | iface t d => simp [Rows.uptoBulk]
  | map entries => simp [Rows.uptoBulk]
  | held h => simp [Rows.uptoBulk]
/-- As 'Opens', with a measure that the datum's bulk bounds. -/
def OpensB {α : Type} (P : Program) (t : TypeId) (R : Rel α) (f : α → Nat) : Prop :=
  ∀ (H : Type) (enc : TypeId × Value → H) (W : World) (base : Nat) (spare : Nat → Bool) (held : Bool) (n : Nat) (cs : List Value) (x : DataW H × List MemPlace),
    DataW.trod enc P W base spare held n t cs = some x → ∃ a, R W a cs ∧ f a ≤ Rows.uptoBulk x.1
theorem opens_bulk {α : Type} {P : Program} {t : TypeId} {R : Rel α} (h : Opens P t R) : OpensB P t R (fun _ => 1) := fun H enc W base spare held n cs x hx => by
  obtain ⟨a, ha⟩ := h H enc W base spare held n cs x hx
  exact ⟨a, ha, bulk_one _⟩
theorem sum_le_bulk {H α : Type} (f : α → Nat) (D : Nat → DataW H) (g : Nat → α) : ∀ (l : List Nat), (∀ i ∈ l, f (g i) ≤ Rows.uptoBulk (D i)) → ((l.map g).map f).sum ≤ Rows.uptoBulkAll (l.map D)
  | [], _ => by simp [Rows.uptoBulkAll]
  | i :: l, h => by
    simp only [List.map_cons, List.sum_cons, Rows.uptoBulkAll]
    have h1 := h i (by simp)
    have h2 := sum_le_bulk f D g l (fun j hj => h j (by simp [hj]))
    omega
theorem opensB_slice {α : Type} {P : Program} {t e : TypeId} {sz : Nat} {R : Rel α} {g : α → Nat} (ht : P.underlying t = some (.slice e)) (hc : P.cellsOf e = sz) (hsz : 0 < sz) (h : OpensB P e R g) : OpensB P t (rSlice sz R) (fun xs => (xs.map g).sum) := by
  intro H enc W base spare held n cs x hx
  rcases Go.Deep.open_slice ht hx with ⟨rfl, _⟩ | ⟨a, len, cap, m, n', D, Pl, rfl, _, hlc, hm, hmm, rfl, hel⟩
  · exact ⟨[], ⟨none, 0, [], rfl, ⟨none, 0, 0, rfl, by simp, Nat.le_refl _, by simp [maxLen], fun h => absurd h (by omega)⟩, rfl, fun i x d hi => by simp at hi⟩, by simp⟩
  · have hlm : len ≤ m := by rw [hmm]; split <;> omega
    have hch : ∀ i, i < len → ∃ p : α × List Value, W.cells? base (a.add (i * sz)) sz = some p.2 ∧ R W p.1 p.2 ∧ g p.1 ≤ Rows.uptoBulk (D i) := fun i hi => by
      obtain ⟨cs', h1, h2⟩ := hel i (by omega)
      rw [hc] at h1
      obtain ⟨y, hy, hb⟩ := h H enc W base spare held n' cs' _ h2
      exact ⟨(y, cs'), h1, hy, hb⟩
    rcases Nat.eq_zero_or_pos len with rfl | hpos
    · exact ⟨[], ⟨some a, cap, [], rfl, ⟨some a, 0, cap, rfl, by simp, hlc, hm, fun h => absurd h (by omega)⟩, rfl, fun i x d hi => by simp at hi⟩, by simp⟩
    · obtain ⟨p0, _, _⟩ := hch 0 hpos
      have : Inhabited (α × List Value) := ⟨p0⟩
      obtain ⟨f, hf⟩ := Go.Deep.choose_lt hch
      have hlen : ∀ i, i < len → (f i).2.length = sz := fun i hi => (World.cells?_some (hf i hi).1).2.1
      have hall : ∀ c ∈ (List.range len).map (fun i => (f i).2), c.length = sz := by
        intro c hc'
        obtain ⟨i, hi, rfl⟩ := List.mem_map.1 hc'
        exact hlen i (List.mem_range.1 hi)
      have hcell : ∀ i j u, i < len → j < sz → (f i).2[j]? = some u → W.cell? (a.add (i * sz + j)) = some u := fun i j u hi hj hu => by
        have h0 := (World.cells?_some (hf i hi).1).2.2 j hj
        rw [Go.Deep.add_add] at h0
        rw [h0, hu]
      have hspot : a.spot = none := by
        obtain ⟨u, hu⟩ : ∃ u, (f 0).2[0]? = some u := ⟨_, List.getElem?_eq_getElem (by rw [hlen 0 hpos]; exact hsz)⟩
        have h0 := World.cell?_spot (hcell 0 0 u hpos hsz hu)
        rw [Nat.zero_mul, Nat.add_zero] at h0
        unfold Addr.add at h0
        split at h0
        · assumption
        · cases hs : a.spot with
          | none => rfl
          | some s => simp_all
      obtain ⟨ab, ao, asp⟩ := a
      simp only at hspot
      subst hspot
      have hsum := sum_le_bulk g D (fun i => (f i).1) (List.range len) (fun i hi => (hf i (List.mem_range.1 hi)).2.2)
      refine ⟨(List.range len).map (fun i => (f i).1), ⟨some ⟨ab, ao, none⟩, cap, (List.range len).map (fun i => (f i).2), by simp, ?_, by simp, ?_⟩, ?_⟩
      · refine ⟨_, len, cap, by simp, by rw [flatten_len sz _ hall]; simp, hlc, hm, fun _ => ⟨ab, ao, rfl, fun j u hj => ?_⟩⟩
        have hjl := (List.getElem?_eq_some_iff.1 hj).1
        rw [flatten_len sz _ hall] at hjl
        simp only [List.length_map, List.length_range] at hjl
        have hdm := Nat.div_add_mod j sz
        have hq : j / sz < len := (Nat.div_lt_iff_lt_mul hsz).2 hjl
        have hr : j % sz < sz := Nat.mod_lt _ hsz
        have he : j / sz * sz + j % sz = j := by rw [Nat.mul_comm]; exact hdm
        rw [← he, flatten_get sz _ hall _ _ hr] at hj
        simp only [List.getElem?_map, List.getElem?_range hq, Option.map_some, Option.bind_some] at hj
        have := hcell _ _ u hq hr hj
        rwa [add_lit, he] at this
      · intro i x d hi hd
        have hlt : i < len := by have := (List.getElem?_eq_some_iff.1 hi).1; simpa using this
        simp only [List.getElem?_map, List.getElem?_range hlt, Option.map_some, Option.some.injEq] at hi hd
        subst hi
        subst hd
        exact ⟨hlen i hlt, (hf i hlt).2.1⟩
      · simp only [Rows.uptoBulk]
        omega
theorem lists_exT {α β : Type} {sz : Nat} {R : Rel α} {W : World} (enc : β → List Value) (P : β → Prop) (f : α → Nat) (g : β → Nat) (hR : ∀ x d, R W x d → ∃ b, d = enc b ∧ P b ∧ g b = f x) :
    ∀ (xs : List α) (css : List (List Value)), css.length = xs.length → (∀ (i : Nat) (x : α) (d : List Value), xs[i]? = some x → css[i]? = some d → R W x d) → ∃ ys : List β, ys.length = xs.length ∧ css.flatten = ys.flatMap enc ∧ (∀ y ∈ ys, P y) ∧ ys.map g = xs.map f
  | [], [], _, _ => ⟨[], rfl, rfl, by simp, rfl⟩
  | [], _ :: _, h, _ => by simp at h
  | _ :: _, [], h, _ => by simp at h
  | x :: xs, d :: css, h, hel => by
    obtain ⟨b, rfl, hb, hg⟩ := hR x d (hel 0 x d rfl rfl)
    obtain ⟨ys, h1, h2, h3, h4⟩ := lists_exT (sz := sz) enc P f g hR xs css (by simpa using h) (fun i x d hx hd => hel (i + 1) x d (by simpa using hx) (by simpa using hd))
    exact ⟨b :: ys, by simp [h1], by simp [h2], by simpa using ⟨hb, h3⟩, by simp [hg, h4]⟩
theorem lo_idsB : OpensB Tryz.prog 35 (rSlice 2 rId) (fun xs => (xs.map (fun _ => 1)).sum) := opensB_slice Tryz.underlying35 lc_id (by decide) (opens_bulk lo_id)
theorem lo_idssB : OpensB Tryz.prog 31 (rSlice 1 (rSlice 2 rId)) (fun xs => (xs.map (fun ys => (ys.map (fun _ => 1)).sum)).sum) := opensB_slice Tryz.underlying31 lc_ids (by decide) lo_idsB
theorem ones_len {α : Type} : ∀ l : List α, (l.map (fun _ => 1)).sum = l.length
  | [] => rfl
  | x :: l => by rw [List.map_cons, List.sum_cons, ones_len l, List.length_cons]; omega
theorem idsT {W : World} {xs : List (Int × Int × Unit)} {cs : List Value} (h : rSlice 2 rId W xs cs) : ∃ (A : Option Addr) (c : Nat) (l : List Id), cs = [.slice A l.length c] ∧ Rw W 2 (.slice A l.length c) (idl l) ∧ l.length = xs.length := by
  obtain ⟨A, c, css, rfl, hrw, hl, hel⟩ := h
  obtain ⟨ys, h1, h2, _, _⟩ := lists_exT (sz := 2) idc (fun _ => True) (fun _ => 0) (fun _ => 0) (fun x d hx => ⟨(x.1, x.2.1), idR hx, trivial, rfl⟩) xs css hl (fun i x d hx hd => (hel i x d hx hd).2)
  rw [h2] at hrw
  exact ⟨A, c, ys, by rw [h1], by rw [h1]; exact hrw, h1⟩
theorem idssT {W : World} {xs : List (List (Int × Int × Unit))} {cs : List Value} (h : rSlice 1 (rSlice 2 rId) W xs cs) : ∃ (A : Option Addr) (c : Nat) (X : List Lv), cs = [.slice A X.length c] ∧ LvR W (.slice A X.length c) X ∧ (lists X).flatten.length = (xs.map (fun ys => (ys.map (fun _ => 1)).sum)).sum := by
  obtain ⟨A, c, css, rfl, hrw, hl, hel⟩ := h
  obtain ⟨X, h1, h2, h3, h4⟩ := lists_exT (sz := 1) (fun x : Lv => [x.2]) (fun x => Rw W 2 x.2 (idl x.1)) (fun ys => (ys.map (fun _ => 1)).sum) (fun x : Lv => x.1.length) (fun x d hx => by
    obtain ⟨A', c', l, rfl, h1, h2⟩ := idsT hx
    exact ⟨(l, .slice A' l.length c'), rfl, h1, by rw [ones_len]; exact h2⟩) xs css hl (fun i x d hx hd => (hel i x d hx hd).2)
  rw [h2] at hrw
  have e : X.flatMap (fun x : Lv => [x.2]) = vals X := by
    unfold vals
    exact flat_one X
  rw [e] at hrw
  refine ⟨A, c, X, by rw [h1], ⟨by rw [h1]; exact hrw, h3⟩, ?_⟩
  rw [← h4, List.length_flatten]
  unfold lists
  rw [List.map_map]
  rfl
theorem bulk_two {H : Type} {d e : DataW H} (hk : Rows.uptoSmall H [d, e] = true) : Rows.uptoBulk e ≤ 1048576 := by
  have h : Rows.uptoBulkAll [d, e] ≤ 1048576 := of_decide_eq_true hk
  simp only [Rows.uptoBulkAll] at h
  omega
end Go.Proofs.YtcbckeoalmjcoaaGreat
