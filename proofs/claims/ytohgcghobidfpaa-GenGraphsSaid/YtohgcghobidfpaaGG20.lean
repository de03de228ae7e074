/- Joined texts: Graph, Prem2. -/
import Derived.Test.YtohgcghobidfpaaGG17
import Derived.Test.YtohgcghobidfpaaGG18
/- Graphs: a record that may be there. -/
set_option linter.unusedVariables false
set_option linter.unusedSimpArgs false
namespace Go.Proofs.Ytohgcghobidfpaa
open Go.RowKit Go.Cw Go.Fl
attribute [local go_sem ↓] eql_id neq_id
theorem findAt_at (a : Id) : ∀ (l : List Id) (k : Int), a ∈ l → ∃ i, i < l.length ∧ findAt a l k = k + (i : Int) ∧ l[i]? = some a
  | [], _, h => by simp at h
  | x :: r, k, h => by
    by_cases hx : x = a
    · exact ⟨0, by simp, by simp [findAt, hx], by simp [hx]⟩
    · obtain ⟨i, hi, he, hg⟩ := findAt_at a r (k + 1) ((List.mem_cons.1 h).resolve_left (fun e => hx e.symm))
      exact ⟨i + 1, by simp; omega, by rw [findAt, if_neg hx, he]; omega, by simpa using hg⟩
theorem rd_at {H : Hp} {sz : Nat} {cs : List Value} {A : Option Addr} {n c : Nat} (h : Rd H sz (.slice A n c) cs) (hn : 0 < n) : ∃ b off, A = some ⟨b, off, none⟩ ∧ ∀ j u, cs[j]? = some u → H.cell b (off + j) = some u := by
  obtain ⟨A', n', c', hv, h1, h2, h3, h4⟩ := h
  cases hv
  exact h4 hn
theorem cmdsSame_refl (l : List Cm) : cmdsSame l l = true := by
  unfold cmdsSame
  rw [decide_eq_true rfl, Bool.true_and, List.all_eq_true]
  rintro ⟨x, y⟩ h
  have : x = y := by
    revert h
    induction l with
    | nil => intro h; simp at h
    | cons z r ih =>
      intro h
      rw [List.zip_cons_cons, List.mem_cons] at h
      rcases h with h | h
      · cases h; rfl
      · exact ih h
  subst this
  simp [cmSame]
theorem recSame_refl (x : Rp) : recSame x x = true := by unfold recSame; simp [cmdsSame_refl]
theorem rids_rp (l : List Rc) : rids l = (l.map rp).map (fun z : Rp => z.1) := by rw [List.map_map]; rfl
theorem edgesOf_rp (l : List Rc) : edgesOf l = ((l.map rp).map (fun z : Rp => z.2.2.1.length)).sum := by rw [List.map_map]; rfl
theorem mem_rp {L l : List Rc} (h : L.map rp = l.map rp) (f : Rp → Prop) : (∃ x ∈ L, f (rp x)) ↔ ∃ x ∈ l, f (rp x) := by
  have e : ∀ M : List Rc, (∃ x ∈ M, f (rp x)) ↔ ∃ y ∈ M.map rp, f y := fun M => ⟨fun ⟨x, hx, hf⟩ => ⟨rp x, List.mem_map.2 ⟨x, hx, rfl⟩, hf⟩, fun ⟨y, hy, hf⟩ => by obtain ⟨x, hx, rfl⟩ := List.mem_map.1 hy; exact ⟨x, hx, hf⟩⟩
  rw [e, e, h]
theorem gr_at {L : List Rc} {i : Nat} {a : Id} (hn : (rids L).Nodup) (hi : (rids L)[i]? = some a) : ∃ hl : i < L.length, L[i].1 = a ∧ mlook a (entsR L) = some L[i] := by
  obtain ⟨hl, he⟩ := List.getElem?_eq_some_iff.1 hi
  have hl' : i < L.length := by simpa [rids] using hl
  have hLa : L[i].1 = a := by simpa [rids] using he
  obtain ⟨y, hy, hya, hlk⟩ := entsR_some L a (he ▸ List.getElem_mem hl)
  obtain ⟨j, hj, rfl⟩ := List.getElem_of_mem hy
  have : i = j := (List.getElem_inj (h₀ := hl) (h₁ := by simpa [rids] using hj) hn).1 (by simp [rids, hLa, hya])
  subst this
  exact ⟨hl', hLa, hlk⟩
abbrev zeroRp : Rp := ((0, 0), 0, [], [])
abbrev zeroRc : Rc := ((0, 0), 0, .slice none 0 0, .slice none 0 0, [], [])
/-- The record of an id; else the zero one. -/
def lookR (l : List Rp) (a : Id) : Rp := (l.find? (fun x => decide (x.1 = a))).getD zeroRp
def pids (l : List Rp) : List Id := l.map (fun x => x.1)
theorem pids_rp (l : List Rc) : pids (l.map rp) = rids l := by simp [pids, rids, List.map_map, Function.comp_def]
theorem lookR_mem {l : List Rp} {a : Id} (h : a ∈ pids l) : lookR l a ∈ l ∧ (lookR l a).1 = a := by
  unfold lookR
  cases hf : l.find? (fun x => decide (x.1 = a)) with
  | none =>
    obtain ⟨x, hx, hxa⟩ := List.mem_map.1 h
    have := List.find?_eq_none.1 hf x hx
    simp [hxa] at this
  | some x => exact ⟨List.mem_of_find?_eq_some hf, by simpa using List.find?_some hf⟩
theorem lookR_none {l : List Rp} {a : Id} (h : a ∉ pids l) : lookR l a = zeroRp := by
  unfold lookR
  rw [List.find?_eq_none.2 (fun x hx => by simp only [decide_eq_true_eq]; exact fun e => h (List.mem_map.2 ⟨x, hx, e⟩))]
  rfl
theorem lookR_ent : ∀ (L : List Rc) (a : Id), a ∈ rids L → ∃ x ∈ L, x.1 = a ∧ mlook a (entsR L) = some x ∧ rp x = lookR (L.map rp) a
  | [], _, h => by simp [rids] at h
  | x :: r, a, h => by
    by_cases hx : x.1 = a
    · exact ⟨x, by simp, hx, by show (if x.1 = a then _ else _) = _; rw [if_pos hx], by unfold lookR; rw [List.map_cons, List.find?_cons_of_pos (by simpa using hx)]; rfl⟩
    · have h2 : a ∈ rids r := by
        simp only [rids, List.map_cons, List.mem_cons] at h
        exact h.resolve_left (fun e => hx e.symm)
      obtain ⟨y, hy, hya, hl, hr⟩ := lookR_ent r a h2
      refine ⟨y, List.mem_cons_of_mem _ hy, hya, by show (if x.1 = a then _ else _) = _; rw [if_neg hx]; exact hl, ?_⟩
      rw [hr]
      unfold lookR
      rw [List.map_cons, List.find?_cons_of_neg (by simpa using hx)]
/-- What is known of a graph's records. -/
structure GrOk (H : Hp) (L : List Rc) : Prop where
  d : ∀ x ∈ L, RcD H x
  b : ∀ x ∈ L, x.2.2.2.2.1.length ≤ 16 ∧ x.2.2.2.2.2.length ≤ 8
  n : L.length ≤ 1000000
theorem GrOk.mono {H H' : Hp} {L : List Rc} (h : GrOk H L) (hl : Hp.le H H') : GrOk H' L := ⟨fun x hx => (h.d x hx).mono hl, h.b, h.n⟩
theorem lookR_len {H : Hp} {L : List Rc} (h : GrOk H L) (a : Id) : (lookR (L.map rp) a).2.2.1.length ≤ 16 ∧ (lookR (L.map rp) a).2.2.2.length ≤ 8 := by
  by_cases hm : a ∈ rids L
  · obtain ⟨x, hx, _, _, hr⟩ := lookR_ent L a hm
    rw [← hr]
    exact h.b x hx
  · rw [lookR_none (by rw [pids_rp]; exact hm)]
    simp
theorem info_rec : (Try.prog.info? 33).map (fun i => (i.zero, i.size, i.bytes)) = some (some (.agg #[.int .i64 0, .int .i64 0, .int .i64 0, .slice none 0 0, .slice none 0 0]), 5, 72) := by kernel_rfl
theorem results_cell2_tmp {fn : Func} {p q u : Tmp} {ty ty2 : TypeId} (h : fn.results = #[.cell p ty, .cell q ty2, .tmp u]) (tmps : Array Value) (P : Program) (w : World) :
    (results fn tmps).run P w =
      ((asAddr (tmps.getD p undef)).run P w).andThen fun a w₁ => ((loadVar ty a).run P w₁).andThen fun v w₂ => ((asAddr (tmps.getD q undef)).run P w₂).andThen fun b w₃ => ((loadVar ty2 b).run P w₃).andThen fun v2 w₄ => .ok (.tuple #[v, v2, tmps.getD u undef]) w₄ := by
  simp only [results, h]
  simp [Sem.run_bind, Result.andThen]
/-- A block of one's own becomes one that stays: its cells. -/
theorem St.blk_for_good {H : Hp} {l : List HA} {w : World} {g : Nat} {cs : Array Value} {t : TypeId} (h : St H (Blk g cs t :: l) w) : ∃ H', Hp.le H H' ∧ St H' l w ∧ ∀ i, H'.cell g i = cs[i]? := by
  obtain ⟨hk, hn⟩ := h.blk_keep
  exact ⟨_, Hp.le_put hn, hk, fun i => by simp [Hp.cell, Hp.put_same]⟩
theorem news_at {P : Program} {sz : Nat} (w : World) (e : TypeId) (n : Nat) (cs : Array Value) (hl : cs.size = n * sz) (h1 : ∀ u ∈ cs.toList, u.oneCell' = true) {g : Nat} (hg : w.heap.size = g) : News P (w.alloc (.cells cs e)) sz (.slice (some ⟨g, 0, none⟩) n n) n cs.toList := hg ▸ News.new w e n cs hl h1
theorem recs_append (l m : List Rc) : recs (l ++ m) = recs l ++ recs m := by simp [recs, List.flatMap_append]
theorem rec_one (x : Rc) {H : Hp} (h : RcD H x) : ∀ u ∈ recc x, u.oneCell' = true := by
  obtain ⟨d1, d2, d3, hd, _⟩ := h.d.form
  obtain ⟨b1, b2, b3, hb, _⟩ := h.b.form
  intro u hu
  simp only [recc, hd, hb, List.mem_cons, List.not_mem_nil, or_false] at hu
  rcases hu with rfl | rfl | rfl | rfl | rfl <;> simp [Value.oneCell']
/-- The ids that are told are those of the records, in order. -/
theorem told_pids {L : List Rc} {R : List Id} (hr : Rises R) (hm : ∀ a, a ∈ R ↔ ∃ x ∈ L, a ∈ [x.1]) : R = sortL (rids L) :=
  rises_eq hr (sortL_rises _) (fun a => by
    rw [hm, sortL_mem]
    simp [rids, eq_comm])
end Go.Proofs.Ytohgcghobidfpaa

/- The premise: Edge. -/
set_option linter.unusedVariables false
set_option linter.unusedSimpArgs false
namespace Go.Proofs.Ytohgcghobidfpaa
open Go.RowKit Go.Cw Go.Fl
attribute [local go_sem ↓] eql_id neq_id
def edgeG (l : List Rp) (a b : Id) : Bool := decide (a ∈ pids l) && (decide (b ∈ pids l) && linkR (lookR l a) (lookR l b))
end Go.Proofs.Ytohgcghobidfpaa
