/- Joined texts: CRefP. -/
import Derived.Test.YtcbckeoalmjcoaaGreatCGR18
import Derived.Test.YtcbckeoalmjcoaaGreatCGR28
import Derived.Test.YtcbckeoalmjcoaaGreatCGR30
/- Reference 17: the order of records, insertion. -/
set_option linter.unusedVariables false
set_option linter.unusedSimpArgs false
namespace Go.Proofs.YtcbckeoalmjcoaaGreat
open Go.RowKit Go.Cw Go.Fl
attribute [local go_sem ↓] eql_id neq_id
set_option maxRecDepth 100000 in
set_option maxHeartbeats 1600000 in
theorem refLess_any (x y : Rc) (w : World) : Calls Tryz.prog 48 #[recV x, recV y] w fun e w' => e = .returned (.bool (kLt (ky x) (ky y))) ∧ Below w.heap.size w w' := by
  obtain ⟨⟨r, s⟩, q, dv, bv, D, B⟩ := x
  obtain ⟨⟨r', s'⟩, q', dv', bv', D', B'⟩ := y
  have hC := Lib.hid (fun w' => less_any (r, s) (r', s') w')
  have h1 := ((St.start w).blk #[.int .i64 r, .int .i64 s, .int .i64 q, dv, bv] 53).blk #[.int .i64 r', .int .i64 s', .int .i64 q', dv', bv'] 53
  have g1 := below2 w (.cells #[.int .i64 r, .int .i64 s, .int .i64 q, dv, bv] 53) (.cells #[.int .i64 r', .int .i64 s', .int .i64 q', dv', bv'] 53)
  have hgs : (w.alloc (.cells #[.int .i64 r, .int .i64 s, .int .i64 q, dv, bv] 53)).heap.size = w.heap.size + 1 := by simp
  rw [hgs] at h1
  have y0 := h1.blk_cell 0
  have y1 := h1.blk_cell 1
  have y2 := h1.blk_cell 2
  have yl := h1.blk_lt
  have h2 := h1.swap
  have x0 := h2.blk_cell 0
  have x1 := h2.blk_cell 1
  have x2 := h2.blk_cell 2
  have xl := h2.blk_lt
  clear h1 h2 hgs
  have hfin : ∀ (b : Bool) (w' : World), kLt (q, (r, s)) (q', (r', s')) = b → Below w.heap.size w w' → Hid ((Ending.returned (Value.bool b)) = Ending.returned (Value.bool (kLt (ky ((r, s), q, dv, bv, D, B)) (ky ((r', s'), q', dv', bv', D', B')))) ∧ Below w.heap.size w w') := fun b w' h hg => Lib.hid ⟨by unfold ky; rw [h], hg⟩
  by_cases hq : q = q'
  · have hqb : (q != q') = false := by simp [hq]
    have hk : kLt (q, (r, s)) (q', (r', s')) = idLt (r, s) (r', s') := by unfold kLt; simp [hq]
    clear hq
    go_enter Tryz.func48, Tryz.ntmps48
    go_wp2_with fail
    refine (hC.out _).mono ?_
    rintro e w3 ⟨rfl, hg3⟩
    have hz := hfin _ _ hk (g1.trans (hg3.mono g1.size))
    go_wp2_with fail
    go_ret
    exact hz.out
  · have hqb : (q != q') = true := by simpa using hq
    have hk : kLt (q, (r, s)) (q', (r', s')) = decide (q < q') := by unfold kLt; simp [hq]
    clear hq
    go_enter Tryz.func48, Tryz.ntmps48
    have hz := hfin _ _ hk g1
    go_wp2_with fail
    go_ret
    exact hz.out
/-- An id put where its key wants it. -/
def insI (kf : Id → Ky) (x : Id) : List Id → List Id
  | [] => [x]
  | y :: r => if kLt (kf x) (kf y) then x :: y :: r else y :: insI kf x r
theorem insI_map (kf : Id → Ky) (x : Id) : ∀ l : List Id, (insI kf x l).map kf = kIns (kf x) (l.map kf)
  | [] => rfl
  | y :: r => by
    unfold insI
    rw [List.map_cons, kIns]
    split
    · rfl
    · rw [List.map_cons, insI_map kf x r]
theorem insI_mem (kf : Id → Ky) (x a : Id) : ∀ l : List Id, a ∈ insI kf x l ↔ a = x ∨ a ∈ l
  | [] => by simp [insI]
  | y :: r => by
    unfold insI
    split
    · simp
    · rw [List.mem_cons, insI_mem kf x a r, List.mem_cons]
      exact ⟨fun h => by rcases h with h | h | h <;> simp [h], fun h => by rcases h with h | h | h <;> simp [h]⟩
theorem insI_len (kf : Id → Ky) (x : Id) : ∀ l : List Id, (insI kf x l).length = l.length + 1
  | [] => rfl
  | y :: r => by
    unfold insI
    split
    · simp
    · rw [List.length_cons, insI_len kf x r, List.length_cons]
theorem insI_kr {kf : Id → Ky} (hk : ∀ a, (kf a).2 = a) {x : Id} {l : List Id} (h : KR kf l) (hn : x ∉ l) : KR kf (insI kf x l) := by
  unfold KR
  rw [insI_map]
  refine kIns_rises _ _ h (fun hm => hn ?_)
  obtain ⟨y, hy, he⟩ := List.mem_map.1 hm
  rwa [← kf_inj hk he]
/-- What is still to be put behind what was: done, or not. -/
def insR (kf : Id → Ky) (x : Id) (d : Bool) (l : List Id) : List Id := if d then l else insI kf x l
theorem insR_done (kf : Id → Ky) (x : Id) (l : List Id) (k : Nat) (h : k < l.length) : insR kf x true (l.drop k) = l[k] :: insR kf x true (l.drop (k + 1)) := by
  unfold insR
  rw [if_pos rfl, if_pos rfl, List.drop_eq_getElem_cons h]
theorem insR_less (kf : Id → Ky) (x : Id) (l : List Id) (k : Nat) (h : k < l.length) (hl : kLt (kf x) (kf l[k]) = true) : insR kf x false (l.drop k) = x :: l[k] :: insR kf x true (l.drop (k + 1)) := by
  unfold insR
  rw [if_neg (by decide), if_pos rfl, List.drop_eq_getElem_cons h, insI, if_pos hl]
theorem insR_not (kf : Id → Ky) (x : Id) (l : List Id) (k : Nat) (h : k < l.length) (hl : kLt (kf x) (kf l[k]) = false) : insR kf x false (l.drop k) = l[k] :: insR kf x false (l.drop (k + 1)) := by
  unfold insR
  rw [if_neg (by decide), if_neg (by decide), List.drop_eq_getElem_cons h, insI, if_neg (by rw [hl]; decide)]
theorem insR_end (kf : Id → Ky) (x : Id) (l : List Id) (d : Bool) : insR kf x d (l.drop l.length) = if d then [] else [x] := by
  unfold insR
  rw [List.drop_length]
  cases d <;> rfl
/-- Where a record stands. -/
theorem find_key (a : Id) (l : List Rc) (h : a ∈ rids l) : ∃ i, ∃ h : i < l.length, findAt a (rids l) 0 = (i : Int) ∧ ky l[i] = kfR (l.map rp) a := by
  obtain ⟨i, hi, h1, h2, h3⟩ := findAt_look a l 0 h
  refine ⟨i, hi, by rw [h1]; omega, ?_⟩
  unfold ky kfR
  rw [← h3, h2]
/-- Rounds of the reference's Sorted. -/
structure RsI (l : List Rp) (some out : List Id) (k : Nat) : Prop where
  kr : KR (kfR l) out
  mem : ∀ a, a ∈ out ↔ a ∈ some.take k ∧ a ∈ pids l
theorem RsI.skip {l : List Rp} {some out : List Id} {k : Nat} (hk : k < some.length) (h : RsI l some out k) (hs : some[k] ∉ pids l ∨ some[k] ∈ out) : RsI l some out (k + 1) := ⟨h.kr, fun a => by
  rw [h.mem, mem_take_succ hk]
  constructor
  · rintro ⟨h1, h2⟩; exact ⟨.inl h1, h2⟩
  · rintro ⟨h1 | rfl, h2⟩
    · exact ⟨h1, h2⟩
    · rcases hs with hs | hs
      · exact absurd h2 hs
      · exact (h.mem _).1 hs⟩
theorem RsI.put {l : List Rp} {some out : List Id} {k : Nat} (hk : k < some.length) (h : RsI l some out k) (h1 : some[k] ∈ pids l) (h2 : some[k] ∉ out) : RsI l some (insI (kfR l) some[k] out) (k + 1) := ⟨insI_kr (kfR_id l) h.kr h2, fun a => by
  rw [insI_mem, h.mem, mem_take_succ hk]
  constructor
  · rintro (rfl | ⟨h3, h4⟩)
    · exact ⟨.inr rfl, h1⟩
    · exact ⟨.inl h3, h4⟩
  · rintro ⟨h3 | rfl, h4⟩
    · exact .inr ⟨h3, h4⟩
    · exact .inl rfl⟩
theorem RsI.len {l : List Rp} {some out : List Id} {k : Nat} (h : RsI l some out k) : out.length ≤ some.length := by
  refine Nat.le_trans (sub_len16 out (some.take k) (kr_nodup h.kr) (fun a ha => ((h.mem a).1 ha).1)) ?_
  rw [List.length_take]
  omega
end Go.Proofs.YtcbckeoalmjcoaaGreat
