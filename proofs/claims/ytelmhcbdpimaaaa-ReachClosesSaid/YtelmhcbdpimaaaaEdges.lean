/- Graphs: what there is. -/
import Derived.Test.YtelmhcbdpimaaaaRec6
import Derived.Test.YtelmhcbdpimaaaaHas
import Derived.StillTailTactics
set_option linter.unusedVariables false
set_option linter.unusedSimpArgs false
namespace Go.Proofs.Ytelmhcbdpimaaaa
open Go.RowKit Go.Cw Go.Fl
attribute [local go_sem ↓] eql_id neq_id
/-- A record whose slices are only read, and what they have is such as Go has. -/
structure RcD (H : Hp) (x : Rc) : Prop where
  d : Rd H 2 x.2.2.1 (idl x.2.2.2.2.1)
  b : Rd H 3 x.2.2.2.1 (cml x.2.2.2.2.2)
  ok : ∀ c ∈ x.2.2.2.2.2, CmW c
theorem RcD.mono {H H' : Hp} {x : Rc} (h : RcD H x) (hl : Hp.le H H') : RcD H' x := ⟨h.d.mono hl, h.b.mono hl, h.ok⟩
theorem RcD.rw {H : Hp} {l : List HA} {w : World} {x : Rc} (h : RcD H x) (hst : St H l w) : RcR w x := ⟨h.d.rw hst, h.b.rw hst, h.ok⟩
/-- The codes of a map from ids to records. -/
def recC : Go.Cw.Code Try.prog 28 Id Rc where
  kv := idV
  vv := recV
  inj := setC.inj
  kinds := kinds_id
def entsR (L : List Rc) : List (Id × Rc) := L.map (fun x => (x.1, x))
theorem entsR_keys (L : List Rc) : (entsR L).map (·.1) = rids L := by unfold entsR rids; rw [List.map_map]; rfl
theorem entsR_len (L : List Rc) : (entsR L).length = L.length := by simp [entsR]
theorem zero_rec (w : World) : (zeroValue 32).run Try.prog w = .ok (.agg #[.int .i64 0, .int .i64 0, .int .i64 0, .slice none 0 0, .slice none 0 0]) w := by kernel_rfl
theorem entsR_none (L : List Rc) (a : Id) (h : a ∉ rids L) : mlook a (entsR L) = none := lookup_none (by rw [entsR_keys]; exact h)
theorem entsR_some : ∀ (L : List Rc) (a : Id), a ∈ rids L → ∃ x ∈ L, x.1 = a ∧ mlook a (entsR L) = some x
  | [], _, h => by simp [rids] at h
  | x :: r, a, h => by
    by_cases hx : x.1 = a
    · exact ⟨x, by simp, hx, by show (if x.1 = a then _ else _) = _; rw [if_pos hx]⟩
    · have h2 : a ∈ rids r := by
        simp only [rids, List.map_cons, List.mem_cons] at h
        exact h.resolve_left (fun e => hx e.symm)
      obtain ⟨y, hy, hya, hl⟩ := entsR_some r a h2
      exact ⟨y, List.mem_cons_of_mem _ hy, hya, by show (if x.1 = a then _ else _) = _; rw [if_neg hx]; exact hl⟩
/-- How many edges. -/
def edgesOf (L : List Rc) : Nat := (L.map (fun x => x.2.2.2.2.1.length)).sum
/-- A graph at p. -/
def GrA (p : Nat) (L : List Rc) : HA := Ex fun g => Star (Blk p #[.map (some g), .int .i64 (edgesOf L : Int)] 99) (Mp recC g (entsR L))
abbrev grP (p : Nat) : Value := .pointer (some ⟨p, 0, none⟩)
theorem grOpen {H : Hp} {fr : List HA} {w : World} {p : Nat} {L : List Rc} (h : St H (GrA p L :: fr) w) : ∃ g, St H (Blk p #[.map (some g), .int .i64 (edgesOf L : Int)] 99 :: Mp recC g (entsR L) :: fr) w := by
  obtain ⟨g, hg⟩ := h.openEx
  exact ⟨g, hg.openStar⟩
theorem grShut {H : Hp} {fr : List HA} {w : World} {p g : Nat} {L : List Rc} (h : St H (Blk p #[.map (some g), .int .i64 (edgesOf L : Int)] 99 :: Mp recC g (entsR L) :: fr) w) : St H (GrA p L :: fr) w := St.shutEx g h.shutStar
theorem gr_nodup {H : Hp} {fr : List HA} {w : World} {p : Nat} {L : List Rc} (h : St H (GrA p L :: fr) w) : (rids L).Nodup := by
  obtain ⟨g, hg⟩ := grOpen h
  have := hg.swap.mp_nodup
  rwa [entsR_keys] at this
set_option maxRecDepth 100000 in
set_option maxHeartbeats 1600000 in
theorem indexHas_any (g : Nat) (L : List Rc) (a : Id) (H : Hp) (fr : List HA) (w : World) (hL : ∀ x ∈ L, RcD H x) (h : St H (Mp recC g (entsR L) :: fr) w) :
    Calls Try.prog 61 #[.agg #[.map (some g)], idV a] w fun e w' => e = .returned (.bool (decide (a ∈ rids L))) ∧ Below w.heap.size w w' := by
  obtain ⟨c, hc⟩ : ∃ c : Rc, c = ((0, 0), 0, .slice none 0 0, .slice none 0 0, [], []) := ⟨_, rfl⟩
  obtain ⟨x, bb, hbb, ⟨d1, d2, d3, hdv⟩, ⟨b1, b2, b3, hbv⟩, hat⟩ : ∃ (x : Rc) (bb : Bool), Hid (bb = decide (a ∈ rids L)) ∧ (∃ A n c, x.2.2.1 = .slice A n c) ∧ (∃ A n c, x.2.2.2.1 = .slice A n c) ∧ Hid (recC.at_ (.agg #[.int .i64 0, .int .i64 0, .int .i64 0, .slice none 0 0, .slice none 0 0]) true (mlook a (entsR L)) = .tuple #[recV x, .bool bb]) := by
    by_cases hm : a ∈ rids L
    · obtain ⟨x, hxL, _, hl⟩ := entsR_some L a hm
      obtain ⟨d1, d2, d3, hd, _⟩ := (hL x hxL).d.form
      obtain ⟨b1, b2, b3, hb, _⟩ := (hL x hxL).b.form
      exact ⟨x, true, Lib.hid (by rw [decide_eq_true hm]), ⟨d1, d2, d3, hd⟩, ⟨b1, b2, b3, hb⟩, Lib.hid (by rw [hl]; rfl)⟩
    · exact ⟨c, false, Lib.hid (by rw [decide_eq_false hm]), ⟨none, 0, 0, by rw [hc]⟩, ⟨none, 0, 0, by rw [hc]⟩, Lib.hid (by rw [entsR_none L a hm, hc]; rfl)⟩
  clear hc c
  rw [← hbb.out]
  obtain ⟨r, s⟩ := a
  obtain ⟨⟨x0, x1⟩, x2, x3, x4, x5, x6⟩ := x
  simp only at hdv hbv
  subst hdv hbv
  have k1 := (St.start w).blk #[.map (some g)] 97
  have k2 := k1.blk #[.int .i64 r, .int .i64 s] 28
  have e1 : (w.alloc (.cells #[.map (some g)] 97)).heap.size = w.heap.size + 1 := by simp
  have e2 : ((w.alloc (.cells #[.map (some g)] 97)).alloc (.cells #[.int .i64 r, .int .i64 s] 28)).heap.size = w.heap.size + 1 + 1 := by simp
  rw [e1] at k2
  have hm := (h.alloc (.cells #[.map (some g)] 97)).alloc (.cells #[.int .i64 r, .int .i64 s] 28)
  have hlk := hm.mp_get true Try.underlying95 (zero_rec _) (r, s)
  rw [hat.out] at hlk
  change (Instr.lookup 95 (.map (some g)) (.agg #[.int .i64 r, .int .i64 s]) true).run Try.prog _ = .ok (.tuple #[.agg #[.int .i64 x0, .int .i64 x1, .int .i64 x2, .slice d1 d2 d3, .slice b1 b2 b3], .bool bb]) _ at hlk
  have en2 := ((Env.refl w).alloc (.cells #[.map (some g)] 97)).alloc (.cells #[.int .i64 r, .int .i64 s] 28)
  have c0 := k2.swap.blk_cell 0
  have i0 := k2.blk_cell 0
  have i1 := k2.blk_cell 1
  have cl := k2.swap.blk_lt
  have il := k2.blk_lt
  go_enter Try.func61, Try.ntmps61
  go_wp2_with fail
  go_ret
  exact ⟨rfl, (((Below.refl _ _).alloc (Nat.le_refl _) _).alloc (by simp) _).alloc (by simp; omega) _⟩
set_option maxRecDepth 100000 in
theorem grHas_nil (a : Id) (w : World) : Calls Try.prog 79 #[.pointer none, idV a] w fun e w' => e = .returned (.bool false) ∧ Below w.heap.size w w' := by
  have hb := boxBelow w (.cells #[.int .i64 a.1, .int .i64 a.2] 28)
  go_enter Try.func79, Try.ntmps79
  go_wp2_with fail
  go_quiet (fail)
  go_wp2_with fail
  go_ret
  exact ⟨rfl, bel_drewN hb _⟩
set_option maxRecDepth 100000 in
set_option maxHeartbeats 1600000 in
theorem grHas_any (p : Nat) (L : List Rc) (a : Id) (H : Hp) (fr : List HA) (w : World) (hL : ∀ x ∈ L, RcD H x) (h : St H (GrA p L :: fr) w) :
    Calls Try.prog 79 #[grP p, idV a] w fun e w' => e = .returned (.bool (decide (a ∈ rids L))) ∧ Below w.heap.size w w' := by
  obtain ⟨g, h1⟩ := grOpen h
  obtain ⟨H', hle, h2, hx⟩ := h1.box #[.int .i64 a.1, .int .i64 a.2] 28
  have y0 := hx 0 _ rfl
  have y1 := hx 1 _ rfl
  have hL' : ∀ x ∈ L, RcD H' x := fun x hm => (hL x hm).mono hle
  have hb := boxBelow w (.cells #[.int .i64 a.1, .int .i64 a.2] 28)
  have hI := fun w3 (h3 : St H' (Blk p #[.map (some g), .int .i64 (edgesOf L : Int)] 99 :: Mp recC g (entsR L) :: fr) w3) => indexHas_any g L a H' _ w3 hL' h3.swap
  replace hI := Lib.hid hI
  clear hL hL' h h1 hx
  go_enter Try.func79, Try.ntmps79
  go_wp2_with fail
  generalize w.alloc (.cells #[.int .i64 a.1, .int .i64 a.2] 28) = W at *
  have c0 : W.cell? ⟨p, 0, none⟩ = some (.map (some g)) := h2.blk_cell 0
  have cl := h2.blk_lt
  have i0 := h2.cell y0
  have i1 := h2.cell y1
  have il := World.block_lt_of_cell? _ _ i0
  go_still_tail 8, (by kernel_rfl)
  change wpList _ _ _ _ _ W.drew
  go_wp2_with fail
  refine (hI.out _ h2.drew).mono ?_
  rintro e w4 ⟨rfl, hb4⟩
  go_wp2_with fail
  go_ret
  exact ⟨rfl, hb.trans ((Below.refl _ _).drew.trans (hb4.mono hb.size))⟩
end Go.Proofs.Ytelmhcbdpimaaaa
