/- Joined texts: Has, Edges, Edges2. -/
import Derived.StillTailTactics
import Derived.Test.YtcbckeoalmjcoaaGreatCGR5
import Derived.Test.YtcbckeoalmjcoaaGreatCGR8
/- ident.Has. -/
set_option linter.unusedVariables false
set_option linter.unusedSimpArgs false
namespace Go.Proofs.YtcbckeoalmjcoaaGreat
open Go.RowKit Go.Cw
attribute [local go_sem ↓] eql_id neq_id
set_option maxRecDepth 100000 in
set_option maxHeartbeats 800000 in
theorem has1_any (x a : Id) (p : Nat) (w : World) (h0 : w.cell? ⟨p, 0, none⟩ = some (.int .i64 a.1)) (h1 : w.cell? ⟨p, 1, none⟩ = some (.int .i64 a.2)) :
    Calls Tryz.prog 82 #[idV x, .pointer (some ⟨p, 0, none⟩)] w fun e w' => e = .returned (.bool (idEq x.1 x.2 a.1 a.2)) ∧ Below w.heap.size w w' := by
  obtain ⟨r, s⟩ := x
  have bel := boxBelow w (.cells #[.int .i64 r, .int .i64 s] 41)
  have pl := World.block_lt_of_cell? _ _ h0
  go_enter Tryz.func82, Tryz.ntmps82
  go_wp2_with fail
  go_ret
  exact ⟨rfl, bel⟩
set_option maxRecDepth 100000 in
set_option maxHeartbeats 1600000 in
theorem index1_any (A : Option Addr) (n c : Nat) (l : List Id) (a : Id) (p : Nat) (w : World) (hx : Rw w 2 (.slice A n c) (idl l)) (h0 : w.cell? ⟨p, 0, none⟩ = some (.int .i64 a.1)) (h1 : w.cell? ⟨p, 1, none⟩ = some (.int .i64 a.2)) :
    Calls Tryz.prog 83 #[.slice A n c, .func (.func 82) #[] #[.pointer (some ⟨p, 0, none⟩)]] w fun e w' => ∃ z : Int, e = .returned (.int .i64 z) ∧ decide (0 ≤ z) = decide (a ∈ l) ∧ Below w.heap.size w w' := by
  obtain ⟨A', n', c', hv, hl, hn, hc⟩ := hx.form
  cases hv
  rw [idl_len] at hl
  obtain rfl : n = l.length := by omega
  clear hl
  have eg : ∀ args w, (callFunc 82 args).run Tryz.prog w = .ok (.enter 82 args) w := enters_of Tryz.func82 (by kernel_rfl) rfl
  have pl := World.block_lt_of_cell? _ _ h0
  obtain ⟨B, hB⟩ : ∃ B, Hid (B = decide (a ∈ l)) := ⟨_, Lib.hid rfl⟩
  rw [← hB.out]
  go_enter Tryz.func83, Tryz.ntmps83
  go_wp2_with fail
  go_loopw [5, 8] (fun s5 s8 wr => ∃ k : Nat, k ≤ l.length ∧ s8 = .int .i64 (k : Int) ∧ Below w.heap.size w wr ∧ Hid (a ∉ l.take k)) (fun _ s8 _ => l.length - (intOf s8).toNat)
  case atStart => exact ⟨0, by omega, by go_num, Below.refl _ _, Lib.hid (by simp)⟩
  case round =>
    obtain ⟨k, hk, rfl, hb, hno⟩ := hrel
    by_cases hlt : k < l.length
    · obtain ⟨b, off, hA, hcr⟩ := (hx.below hb).cells (by omega)
      cases hA
      have p1 := hcr _ _ (idl_fst l k hlt)
      have p2 := hcr _ _ (idl_snd l k hlt)
      rw [← Nat.add_assoc] at p2
      obtain ⟨x, HX⟩ : ∃ x, Hid (x = l[k]) := ⟨_, Lib.hid rfl⟩
      rw [← HX.out] at p1 p2
      have hmem := Lib.hid (List.take_add_one (l := l) (i := k))
      clear hcr
      have g0 := (hb.cell (p := ⟨p, 0, none⟩) pl).trans h0
      have g1 := (hb.cell (p := ⟨p, 1, none⟩) pl).trans h1
      have hcl := fun w0 (q0 : w0.cell? ⟨p, 0, none⟩ = some (.int .i64 a.1)) (q1 : w0.cell? ⟨p, 1, none⟩ = some (.int .i64 a.2)) => has1_any x a p w0 q0 q1
      by_cases hxa : x = a
      · have hne := idEq_of hxa
        simp only [hne] at hcl
        replace hcl := Lib.hid (hcl wr g0 g1)
        have hin : a ∈ l := by rw [← hxa, HX.out]; exact List.getElem_mem hlt
        have hBt : Hid (B = true) := Lib.hid (by rw [hB.out, decide_eq_true hin])
        clear hin
        replace hxa := Lib.hid hxa
        go_wp2_with fail
        refine (hcl.out).mono ?_
        rintro e w3 ⟨rfl, hb3⟩
        go_wp2_with fail
        go_ret
        exact ⟨(k : Int), rfl, by rw [hBt.out]; simp, hb.trans (hb3.mono hb.size)⟩
      · have hne := idEq_not hxa
        simp only [hne] at hcl
        replace hcl := Lib.hid (hcl wr g0 g1)
        replace hxa := Lib.hid hxa
        go_wp2_with fail
        refine (hcl.out).mono ?_
        rintro e w3 ⟨rfl, hb3⟩
        go_wp2_with fail
        go_roundw
        case rel => exact ⟨k + 1, by omega, by go_num, hb.trans (hb3.mono hb.size), Lib.hid (by
          rw [hmem.out, List.getElem?_eq_getElem hlt, ← HX.out]
          simp only [Option.toList, List.mem_append, List.mem_singleton, not_or]
          exact ⟨hno.out, fun h => hxa.out h.symm⟩)⟩
        case measure => simp [intOf]; omega
    · obtain rfl : k = l.length := by omega
      have hnot : a ∉ l := by have := hno.out; rwa [List.take_length] at this
      have hBt : Hid (B = false) := Lib.hid (by rw [hB.out, decide_eq_false hnot])
      clear hnot
      go_wp2_with fail
      go_ret
      exact ⟨-1, rfl, by rw [hBt.out]; rfl, hb⟩
set_option maxRecDepth 100000 in
set_option maxHeartbeats 800000 in
theorem contains1_any (A : Option Addr) (n c : Nat) (l : List Id) (a : Id) (p : Nat) (w : World) (hx : Rw w 2 (.slice A n c) (idl l)) (h0 : w.cell? ⟨p, 0, none⟩ = some (.int .i64 a.1)) (h1 : w.cell? ⟨p, 1, none⟩ = some (.int .i64 a.2)) :
    Calls Tryz.prog 58 #[.slice A n c, .func (.func 82) #[] #[.pointer (some ⟨p, 0, none⟩)]] w fun e w' => e = .returned (.bool (decide (a ∈ l))) ∧ Below w.heap.size w w' := by
  have hin := Lib.hid (index1_any A n c l a p w hx h0 h1)
  go_enter Tryz.func58, Tryz.ntmps58
  go_wp2_with fail
  refine hin.out.mono ?_
  rintro e w2 ⟨z, rfl, hz, hb2⟩
  replace hz := Lib.hid hz
  go_wp2_with fail
  go_ret
  exact ⟨rb hz.out, hb2⟩
set_option maxRecDepth 100000 in
set_option maxHeartbeats 800000 in
theorem identHas_any (u : Value) (l : List Id) (a : Id) (w : World) (hx : Rw w 2 u (idl l)) :
    Calls Tryz.prog 54 #[u, idV a] w fun e w' => e = .returned (.bool (decide (a ∈ l))) ∧ Below w.heap.size w w' := by
  obtain ⟨A, n, c, rfl, hl, hn, hc⟩ := hx.form
  obtain ⟨r, s⟩ := a
  have hmf : ∀ (fn : Fn) (first cap : Array Value) (w : World), (Instr.makeFunc fn first cap).run Tryz.prog w = .ok (.func fn first cap) w := fun _ _ _ _ => rfl
  obtain ⟨H1, l1, h1, y⟩ := (St.start w).box #[.int .i64 r, .int .i64 s] 41
  have en1 := (Env.refl w).alloc (.cells #[.int .i64 r, .int .i64 s] 41)
  have v0 := h1.cell (y 0 _ rfl)
  have v1 := h1.cell (y 1 _ rfl)
  have hin := contains1_any A n c l (r, s) w.heap.size _ (hx.alloc (.cells #[.int .i64 r, .int .i64 s] 41)) v0 v1
  have hbx := boxBelow w (.cells #[.int .i64 r, .int .i64 s] 41)
  replace hin := Lib.hid hin
  go_enter Tryz.func54, Tryz.ntmps54
  go_wp2_with fail
  refine hin.out.mono ?_
  rintro e w2 ⟨rfl, hb2⟩
  go_wp2_with fail
  go_ret
  exact ⟨rfl, hbx.trans (hb2.mono (by simp))⟩
end Go.Proofs.YtcbckeoalmjcoaaGreat

/- Graphs: what there is. -/
set_option linter.unusedVariables false
set_option linter.unusedSimpArgs false
namespace Go.Proofs.YtcbckeoalmjcoaaGreat
open Go.RowKit Go.Cw Go.Fl
attribute [local go_sem ↓] eql_id neq_id
/-- A record whose slices are only read, and what they have is such as Go has. -/
structure RcD (H : Hp) (x : Rc) : Prop where
  d : Rd H 2 x.2.2.1 (idl x.2.2.2.2.1)
  b : Rd H 3 x.2.2.2.1 (cml x.2.2.2.2.2)
  ok : ∀ c ∈ x.2.2.2.2.2, CmW c
theorem RcD.mono {H H' : Hp} {x : Rc} (h : RcD H x) (hl : Hp.le H H') : RcD H' x := ⟨h.d.mono hl, h.b.mono hl, h.ok⟩
theorem RcD.rw {H : Hp} {l : List HA} {w : World} {x : Rc} (h : RcD H x) (hst : St H l w) : RcR w x := ⟨h.d.rw hst, h.b.rw hst, h.ok⟩
/-- The codes of a map from ids to records. -/
def recC : Go.Cw.Code Tryz.prog 41 Id Rc where
  kv := idV
  vv := recV
  inj := setC.inj
  kinds := kinds_id
def entsR (L : List Rc) : List (Id × Rc) := L.map (fun x => (x.1, x))
theorem entsR_keys (L : List Rc) : (entsR L).map (·.1) = rids L := by unfold entsR rids; rw [List.map_map]; rfl
theorem entsR_len (L : List Rc) : (entsR L).length = L.length := by simp [entsR]
theorem zero_rec (w : World) : (zeroValue 53).run Tryz.prog w = .ok (.agg #[.int .i64 0, .int .i64 0, .int .i64 0, .slice none 0 0, .slice none 0 0]) w := by kernel_rfl
theorem entsR_none (L : List Rc) (a : Id) (h : a ∉ rids L) : mlook a (entsR L) = none := lookup_none (by rw [entsR_keys]; exact h)
theorem entsR_some : ∀ (L : List Rc) (a : Id), a ∈ rids L → ∃ x ∈ L, x.1 = a ∧ mlook a (entsR L) = some x
  | [], _, h => by simp [rids] at h
  | x :: r, a, h => by
    by_cases hx : x.1 = a
    · exact ⟨x, by simp, hx, by show (if x.1 = a then _ else _) = _; rw [if_pos hx]⟩
    · have h2 : a ∈ rids r := by
        simp only [rids, List.map_cons, List.mem_cons] at h
        exact h.resolve_left (fun e => hx e.symm)
      obtain ⟨y, hy, hya, hl⟩ := entsR_some r a h2
      exact ⟨y, List.mem_cons_of_mem _ hy, hya, by show (if x.1 = a then _ else _) = _; rw [if_neg hx]; exact hl⟩
/-- How many edges. -/
def edgesOf (L : List Rc) : Nat := (L.map (fun x => x.2.2.2.2.1.length)).sum
/-- A graph at p. -/
def GrA (p : Nat) (L : List Rc) : HA := Ex fun g => Star (Blk p #[.map (some g), .int .i64 (edgesOf L : Int)] 60) (Mp recC g (entsR L))
abbrev grP (p : Nat) : Value := .pointer (some ⟨p, 0, none⟩)
theorem grOpen {H : Hp} {fr : List HA} {w : World} {p : Nat} {L : List Rc} (h : St H (GrA p L :: fr) w) : ∃ g, St H (Blk p #[.map (some g), .int .i64 (edgesOf L : Int)] 60 :: Mp recC g (entsR L) :: fr) w := by
  obtain ⟨g, hg⟩ := h.openEx
  exact ⟨g, hg.openStar⟩
theorem grShut {H : Hp} {fr : List HA} {w : World} {p g : Nat} {L : List Rc} (h : St H (Blk p #[.map (some g), .int .i64 (edgesOf L : Int)] 60 :: Mp recC g (entsR L) :: fr) w) : St H (GrA p L :: fr) w := St.shutEx g h.shutStar
theorem gr_nodup {H : Hp} {fr : List HA} {w : World} {p : Nat} {L : List Rc} (h : St H (GrA p L :: fr) w) : (rids L).Nodup := by
  obtain ⟨g, hg⟩ := grOpen h
  have := hg.swap.mp_nodup
  rwa [entsR_keys] at this
set_option maxRecDepth 100000 in
set_option maxHeartbeats 1600000 in
theorem indexHas_any (g : Nat) (L : List Rc) (a : Id) (H : Hp) (fr : List HA) (w : World) (hL : ∀ x ∈ L, RcD H x) (h : St H (Mp recC g (entsR L) :: fr) w) :
    Calls Tryz.prog 35 #[.agg #[.map (some g)], idV a] w fun e w' => e = .returned (.bool (decide (a ∈ rids L))) ∧ Below w.heap.size w w' := by
  obtain ⟨c, hc⟩ : ∃ c : Rc, c = ((0, 0), 0, .slice none 0 0, .slice none 0 0, [], []) := ⟨_, rfl⟩
  obtain ⟨x, bb, hbb, ⟨d1, d2, d3, hdv⟩, ⟨b1, b2, b3, hbv⟩, hat⟩ : ∃ (x : Rc) (bb : Bool), Hid (bb = decide (a ∈ rids L)) ∧ (∃ A n c, x.2.2.1 = .slice A n c) ∧ (∃ A n c, x.2.2.2.1 = .slice A n c) ∧ Hid (recC.at_ (.agg #[.int .i64 0, .int .i64 0, .int .i64 0, .slice none 0 0, .slice none 0 0]) true (mlook a (entsR L)) = .tuple #[recV x, .bool bb]) := by
    by_cases hm : a ∈ rids L
    · obtain ⟨x, hxL, _, hl⟩ := entsR_some L a hm
      obtain ⟨d1, d2, d3, hd, _⟩ := (hL x hxL).d.form
      obtain ⟨b1, b2, b3, hb, _⟩ := (hL x hxL).b.form
      exact ⟨x, true, Lib.hid (by rw [decide_eq_true hm]), ⟨d1, d2, d3, hd⟩, ⟨b1, b2, b3, hb⟩, Lib.hid (by rw [hl]; rfl)⟩
    · exact ⟨c, false, Lib.hid (by rw [decide_eq_false hm]), ⟨none, 0, 0, by rw [hc]⟩, ⟨none, 0, 0, by rw [hc]⟩, Lib.hid (by rw [entsR_none L a hm, hc]; rfl)⟩
  clear hc c
  rw [← hbb.out]
  obtain ⟨r, s⟩ := a
  obtain ⟨⟨x0, x1⟩, x2, x3, x4, x5, x6⟩ := x
  simp only at hdv hbv
  subst hdv hbv
  have k1 := (St.start w).blk #[.map (some g)] 58
  have k2 := k1.blk #[.int .i64 r, .int .i64 s] 41
  have e1 : (w.alloc (.cells #[.map (some g)] 58)).heap.size = w.heap.size + 1 := by simp
  have e2 : ((w.alloc (.cells #[.map (some g)] 58)).alloc (.cells #[.int .i64 r, .int .i64 s] 41)).heap.size = w.heap.size + 1 + 1 := by simp
  rw [e1] at k2
  have hm := (h.alloc (.cells #[.map (some g)] 58)).alloc (.cells #[.int .i64 r, .int .i64 s] 41)
  have hlk := hm.mp_get true Tryz.underlying56 (zero_rec _) (r, s)
  rw [hat.out] at hlk
  change (Instr.lookup 56 (.map (some g)) (.agg #[.int .i64 r, .int .i64 s]) true).run Tryz.prog _ = .ok (.tuple #[.agg #[.int .i64 x0, .int .i64 x1, .int .i64 x2, .slice d1 d2 d3, .slice b1 b2 b3], .bool bb]) _ at hlk
  have en2 := ((Env.refl w).alloc (.cells #[.map (some g)] 58)).alloc (.cells #[.int .i64 r, .int .i64 s] 41)
  have c0 := k2.swap.blk_cell 0
  have i0 := k2.blk_cell 0
  have i1 := k2.blk_cell 1
  have cl := k2.swap.blk_lt
  have il := k2.blk_lt
  go_enter Tryz.func35, Tryz.ntmps35
  go_wp2_with fail
  go_ret
  exact ⟨rfl, (((Below.refl _ _).alloc (Nat.le_refl _) _).alloc (by simp) _).alloc (by simp; omega) _⟩
set_option maxRecDepth 100000 in
theorem grHas_nil (a : Id) (w : World) : Calls Tryz.prog 49 #[.pointer none, idV a] w fun e w' => e = .returned (.bool false) ∧ Below w.heap.size w w' := by
  have hb := boxBelow w (.cells #[.int .i64 a.1, .int .i64 a.2] 41)
  go_enter Tryz.func49, Tryz.ntmps49
  go_wp2_with fail
  go_quiet (fail)
  go_wp2_with fail
  go_ret
  exact ⟨rfl, bel_drewN hb _⟩
set_option maxRecDepth 100000 in
set_option maxHeartbeats 1600000 in
theorem grHas_any (p : Nat) (L : List Rc) (a : Id) (H : Hp) (fr : List HA) (w : World) (hL : ∀ x ∈ L, RcD H x) (h : St H (GrA p L :: fr) w) :
    Calls Tryz.prog 49 #[grP p, idV a] w fun e w' => e = .returned (.bool (decide (a ∈ rids L))) ∧ Below w.heap.size w w' := by
  obtain ⟨g, h1⟩ := grOpen h
  obtain ⟨H', hle, h2, hx⟩ := h1.box #[.int .i64 a.1, .int .i64 a.2] 41
  have y0 := hx 0 _ rfl
  have y1 := hx 1 _ rfl
  have hL' : ∀ x ∈ L, RcD H' x := fun x hm => (hL x hm).mono hle
  have hb := boxBelow w (.cells #[.int .i64 a.1, .int .i64 a.2] 41)
  have hI := fun w3 (h3 : St H' (Blk p #[.map (some g), .int .i64 (edgesOf L : Int)] 60 :: Mp recC g (entsR L) :: fr) w3) => indexHas_any g L a H' _ w3 hL' h3.swap
  replace hI := Lib.hid hI
  clear hL hL' h h1 hx
  go_enter Tryz.func49, Tryz.ntmps49
  go_wp2_with fail
  generalize w.alloc (.cells #[.int .i64 a.1, .int .i64 a.2] 41) = W at *
  have c0 : W.cell? ⟨p, 0, none⟩ = some (.map (some g)) := h2.blk_cell 0
  have cl := h2.blk_lt
  have i0 := h2.cell y0
  have i1 := h2.cell y1
  have il := World.block_lt_of_cell? _ _ i0
  go_still_tail 8, (by kernel_rfl)
  change wpList _ _ _ _ _ W.drew
  go_wp2_with fail
  refine (hI.out _ h2.drew).mono ?_
  rintro e w4 ⟨rfl, hb4⟩
  go_wp2_with fail
  go_ret
  exact ⟨rfl, hb.trans ((Below.refl _ _).drew.trans (hb4.mono hb.size))⟩
end Go.Proofs.YtcbckeoalmjcoaaGreat

/- Graphs: New. -/
set_option linter.unusedVariables false
set_option linter.unusedSimpArgs false
namespace Go.Proofs.YtcbckeoalmjcoaaGreat
open Go.RowKit Go.Cw Go.Fl
attribute [local go_sem ↓] eql_id neq_id
/-- What is wrong first with records. -/
def gErr (seen : List Id) : List Rp → Int
  | [] => 0
  | x :: r => if recErr x ≠ 0 then recErr x else if x.1 ∈ seen then 16 else gErr (seen ++ [x.1]) r
/-- What New tells of records. -/
def NewR (w : World) (l : List Rp) (e : Ending) (w' : World) : Prop :=
  (gErr [] l = 0 ∧ ∃ p L H, Hp.le (snap w) H ∧ St H [GrA p L] w' ∧ (∀ x ∈ L, RcD H x) ∧ L.map rp = l ∧ Env w w' ∧ e = .returned (.tuple #[grP p, .int .i64 0])) ∨
  (gErr [] l ≠ 0 ∧ e = .returned (.tuple #[.pointer none, .int .i64 (gErr [] l)]) ∧ Below w.heap.size w w')
theorem recErr_len (x : Rp) (h : recErr x = 0) : x.2.2.1.length ≤ 16 ∧ x.2.2.2.length ≤ 8 := by
  unfold recErr at h
  by_cases h1 : ownErr x = 0
  · rw [if_neg (by simpa using h1)] at h
    by_cases h2 : depErr x = 0
    · rw [if_neg (by simpa using h2)] at h
      refine ⟨?_, ?_⟩
      · unfold depErr at h2
        rcases Nat.lt_or_ge 16 x.2.2.1.length with h3 | h3
        · rw [if_pos h3] at h2; omega
        · exact h3
      · unfold batchErr at h
        rcases Nat.lt_or_ge 8 x.2.2.2.length with h3 | h3
        · rw [if_pos h3] at h; omega
        · exact h3
    · rw [if_pos (by simpa using h2)] at h
      exact absurd h h2
  · rw [if_pos (by simpa using h1)] at h
    exact absurd h h1
theorem gErr_step (l : List Rc) (k : Nat) (h : k < l.length) (seen : List Id) : gErr seen ((l.drop k).map rp) = if recErr (rp l[k]) ≠ 0 then recErr (rp l[k]) else if l[k].1 ∈ seen then 16 else gErr (seen ++ [l[k].1]) ((l.drop (k + 1)).map rp) := by
  rw [List.drop_eq_getElem_cons h, List.map_cons, gErr]
theorem entsR_put (L : List Rc) (x : Rc) (h : x.1 ∉ rids L) : mput x.1 x (entsR L) = entsR (L ++ [x]) := by
  unfold mput
  rw [if_neg (by rw [entsR_keys]; exact h)]
  simp [entsR]
theorem edgesOf_snoc (L : List Rc) (x : Rc) : edgesOf (L ++ [x]) = edgesOf L + x.2.2.2.2.1.length := by simp [edgesOf]
theorem edgesOf_le (L : List Rc) (h : ∀ x ∈ L, x.2.2.2.2.1.length ≤ 16) : edgesOf L ≤ 16 * L.length := by
  induction L with
  | nil => simp [edgesOf]
  | cons x r ih =>
    have h1 := ih (fun y hy => h y (List.mem_cons_of_mem _ hy))
    have h2 := h x (by simp)
    simp only [edgesOf, List.map_cons, List.sum_cons, List.length_cons] at *
    omega
set_option maxRecDepth 100000 in
set_option maxHeartbeats 6400000 in
theorem newGr_any (u : Value) (l : List Rc) (w : World) (hx : Rw w 5 u (recs l)) (hl : ∀ x ∈ l, RcR w x) (hlen : l.length ≤ 1000000) :
    Calls Tryz.prog 11 #[u] w (NewR w (l.map rp)) := by
  obtain ⟨A, n, c, rfl, hn, hnc, hc⟩ := hx.form
  rw [recs_len] at hn
  obtain rfl : n = l.length := by omega
  clear hn
  have hR := hx.rd
  have hl' : ∀ x ∈ l, RcD (snap w) x := fun x hm => ⟨(hl x hm).d.rd, (hl x hm).b.rd, (hl x hm).ok⟩
  obtain ⟨G, hG⟩ : ∃ G, Hid (gErr [] (l.map rp) = G) := ⟨_, Lib.hid rfl⟩
  have hstart := Lib.hid (show gErr [] ((l.drop 0).map rp) = G from hG.out)
  have m1 := run_makeMap (P := Tryz.prog) 56 w
  have e1 : (w.alloc (.map #[] 0)).heap.size = w.heap.size + 1 := by simp
  have h1 := ((St.start w).mp_made (C := recC)).blk #[.map (some w.heap.size), .int .i64 0] 60
  rw [e1] at h1
  have en1 := ((Env.refl w).alloc (.map #[] 0)).alloc (.cells #[.map (some w.heap.size), .int .i64 0] 60)
  clear e1 hl
  go_enter Tryz.func11, Tryz.ntmps11
  go_wp2_with fail
  generalize (w.alloc (.map #[] 0)).alloc (.cells #[.map (some w.heap.size), .int .i64 0] 60) = W at *
  generalize hp : w.heap.size + 1 = p at *
  generalize hg : w.heap.size = g at *
  go_loopw [14] (fun i wr => ∃ (k : Nat) (L : List Rc) (H : Hp), k ≤ l.length ∧ i = .int .i64 (k : Int) ∧ Hp.le (snap w) H ∧ St H (Blk p #[.map (some g), .int .i64 (edgesOf L : Int)] 60 :: Mp recC g (entsR L) :: []) wr ∧ Env w wr ∧ Hid (∀ x ∈ L, RcD H x ∧ x.2.2.2.2.1.length ≤ 16) ∧ Hid (L.map rp = (l.take k).map rp) ∧ Hid (gErr (rids L) ((l.drop k).map rp) = G)) (fun i _ => l.length - (intOf i).toNat)
  case atStart => exact ⟨0, [], snap w, by omega, by go_num, Hp.le_refl _, h1, en1, Lib.hid (by simp), Lib.hid (by simp), hstart⟩
  case round =>
    clear h1 en1 hstart m1
    obtain ⟨k, L, H, hk, rfl, hle, h1, en1, hL, hLm, hGk⟩ := hrel
    by_cases hlt : k < l.length
    · obtain ⟨b, off, hA, hcr⟩ := ((hR.mono hle).rw h1).cells (by omega)
      cases hA
      obtain ⟨p0, p1, p2, p3, p4⟩ := recs_get l k hlt
      replace p0 := hcr _ _ p0
      replace p1 := hcr _ _ p1
      replace p2 := hcr _ _ p2
      replace p3 := hcr _ _ p3
      replace p4 := hcr _ _ p4
      rw [← Nat.add_assoc] at p1 p2 p3 p4
      clear hcr
      have hst := gErr_step l k hlt (rids L)
      rw [hGk.out] at hst
      have hxk := hl' l[k] (List.getElem_mem hlt)
      have htk : (l.take (k + 1)).map rp = (l.take k).map rp ++ [rp l[k]] := by rw [List.take_add_one, List.getElem?_eq_getElem hlt, List.map_append]; rfl
      replace htk := Lib.hid htk
      generalize l[k] = x at *
      obtain ⟨⟨r, s⟩, q, dv, bv, D, Bt⟩ := x
      obtain ⟨d1, d2, d3, hdv, hd4, hd5, hd6⟩ := hxk.d.form
      obtain ⟨b1, b2, b3, hbv, _⟩ := hxk.b.form
      simp only at hdv hbv hd4 p0 p1 p2 p3 p4 hst
      subst hdv hbv
      rw [idl_len] at hd4
      obtain rfl : d2 = D.length := by omega
      have hxd := Lib.hid hxk
      clear hxk
      obtain ⟨H1, l1, h2, y⟩ := h1.box #[.int .i64 r, .int .i64 s, .int .i64 q, .slice d1 D.length d3, .slice b1 b2 b3] 53
      have en2 := en1.alloc (.cells #[.int .i64 r, .int .i64 s, .int .i64 q, .slice d1 D.length d3, .slice b1 b2 b3] 53)
      have y0 := y 0 _ rfl
      have y1 := y 1 _ rfl
      have y2 := y 2 _ rfl
      have y3 := y 3 _ rfl
      have y4 := y 4 _ rfl
      clear y
      have hxr := (hxd.out.mono (Hp.le_trans hle l1)).rw h2
      have hC := Lib.hid (recCheck_any ((r, s), q, .slice d1 D.length d3, .slice b1 b2 b3, D, Bt) _ hxr)
      have v0 := h2.cell y0
      have v1 := h2.cell y1
      have v2 := h2.cell y2
      have v3 := h2.cell y3
      have v4 := h2.cell y4
      have vl := World.block_lt_of_cell? _ _ v0
      have le1 := Hp.le_trans hle l1
      clear hxr
      by_cases hE : recErr (rp ((r, s), q, .slice d1 D.length d3, .slice b1 b2 b3, D, Bt)) = 0
      · rw [if_neg (by simpa using hE)] at hst
        rw [hE] at hC
        obtain ⟨lD, lB⟩ := recErr_len _ hE
        simp only at lD lB
        have lDh := Lib.hid lD
        have lBh := Lib.hid lB
        clear hE lD lB
        go_wp2_with fail
        generalize hW2 : wr.alloc (.cells #[.int .i64 r, .int .i64 s, .int .i64 q, .slice d1 D.length d3, .slice b1 b2 b3] 53) = W2 at *
        generalize wr.heap.size = gb at *
        refine (hC.out).mono ?_
        rintro e w3 ⟨rfl, hb3⟩
        have h3 := h2.below hb3
        have en3 := en2.trans (bel_env hb3)
        clear v0 v1 v2 v3 v4 vl hC p0 p1 p2 p3 p4 h2 en2
        have c0 : w3.cell? ⟨p, 0, none⟩ = some (.map (some g)) := h3.blk_cell 0
        have cl := h3.blk_lt
        have v0 := h3.cell y0
        have v1 := h3.cell y1
        have vl := World.block_lt_of_cell? _ _ v0
        have hI := fun w4 (h4 : St H1 (Blk p #[.map (some g), .int .i64 (edgesOf L : Int)] 60 :: Mp recC g (entsR L) :: []) w4) => indexHas_any g L (r, s) H1 _ w4 (fun z hz => ((hL.out z hz).1).mono l1) h4.swap
        by_cases hd : ((r, s) : Id) ∈ rids L
        · rw [if_pos hd] at hst
          simp only [decide_eq_true hd] at hI
          replace hI := Lib.hid hI
          replace hst := Lib.hid hst
          clear hd
          go_wp2_with fail
          go_still_tail 6, (by kernel_rfl)
          change wpList _ _ _ _ _ w3.drew
          go_wp2_with fail
          refine (hI.out _ h3.drew).mono ?_
          rintro e w4 ⟨rfl, hb4⟩
          go_wp2_with fail
          go_ret2
          exact .inr ⟨by rw [hG.out, hst.out]; decide, by rw [hG.out, hst.out]; rfl, ((h3.drew.below hb4).weaken le1).drop.drop.toBelow (en3.drew.trans (bel_env hb4))⟩
        · rw [if_neg hd] at hst
          simp only [decide_eq_false hd] at hI
          replace hI := Lib.hid hI
          replace hst := Lib.hid hst
          replace hd := Lib.hid hd
          go_wp2_with fail
          go_still_tail 6, (by kernel_rfl)
          change wpList _ _ _ _ _ w3.drew
          go_wp2_with fail
          refine (hI.out _ h3.drew).mono ?_
          rintro e w4 ⟨rfl, hb4⟩
          have h4 := h3.drew.below hb4
          have en4 := en3.drew.trans (bel_env hb4)
          clear hI h3 en3 hb4 hb3 c0 cl v0 v1 vl
          have h5 := h4.drew
          have en5 := en4.drew
          have kk : ∀ (Hx : Hp) (l' : List HA) (w' : World), Hp.le H1 Hx → w'.cell? ⟨p, 0, none⟩ = some (.map (some g)) → St Hx l' w' → (w'.cell? ⟨p, 0, none⟩ = some (.map (some g)) ∧ w'.cell? ⟨gb, 0, none⟩ = some (.int .i64 r) ∧ w'.cell? ⟨gb, 1, none⟩ = some (.int .i64 s) ∧ w'.cell? ⟨gb, 2, none⟩ = some (.int .i64 q) ∧ w'.cell? ⟨gb, 3, none⟩ = some (.slice d1 D.length d3) ∧ w'.cell? ⟨gb, 4, none⟩ = some (.slice b1 b2 b3)) := fun Hx l' w' hl hc h => ⟨hc, h.cell (Hp.cell_le hl y0), h.cell (Hp.cell_le hl y1), h.cell (Hp.cell_le hl y2), h.cell (Hp.cell_le hl y3), h.cell (Hp.cell_le hl y4)⟩
          have k5 := kk _ _ _ (Hp.le_refl _) (h5.blk_cell 0) h5
          have c0 : w4.cell? ⟨p, 0, none⟩ = some (.map (some g)) := h4.blk_cell 0
          have cl := h4.blk_lt
          have v0 := h4.cell y0
          have vl := World.block_lt_of_cell? _ _ v0
          have hCp := Lib.hid (recCopy_any ((r, s), q, .slice d1 D.length d3, .slice b1 b2 b3, D, Bt) _ ((hxd.out.mono le1).rw h5) (by have := lDh.out; simp only; omega) (by have := lBh.out; simp only; omega))
          clear h4 en4
          go_wp2_with fail
          go_region_held3 (fun w' => w'.cell? ⟨p, 0, none⟩ = some (.map (some g)) ∧ w'.cell? ⟨gb, 0, none⟩ = some (.int .i64 r) ∧ w'.cell? ⟨gb, 1, none⟩ = some (.int .i64 s) ∧ w'.cell? ⟨gb, 2, none⟩ = some (.int .i64 q) ∧ w'.cell? ⟨gb, 3, none⟩ = some (.slice d1 D.length d3) ∧ w'.cell? ⟨gb, 4, none⟩ = some (.slice b1 b2 b3))
            (first | exact k5 | exact k6 | exact k7)
            ((go_at_call 36; refine (hCp.out).mono ?_; rintro e w6 he; obtain ⟨⟨dv', bv'⟩, rfl, h6, en6⟩ := ResE.lift h5 he; have k6 := kk _ _ _ (Hp.le_refl _) ((h6.pick 2 (by simp)).blk_cell 0) h6; obtain ⟨H2, l2, h7, hrd⟩ := h6.row_keep; obtain ⟨H3, l3, h8, hrb⟩ := h7.row_keep; obtain ⟨w7, hmu, h9, en7⟩ := h8.swap.mp_put (t := 56) Tryz.underlying56 (r, s) ((r, s), q, dv', bv', D, Bt); change (Instr.mapUpdate 56 (.map (some g)) (.agg #[.int .i64 r, .int .i64 s]) (.agg #[.int .i64 r, .int .i64 s, .int .i64 q, dv', bv'])).run Tryz.prog w6 = .ok () w7 at hmu; have k7 := kk _ _ _ (Hp.le_trans l2 l3) (h9.swap.blk_cell 0) h9))
          obtain ⟨x', hx'⟩ : ∃ x' : Rc, x' = ((r, s), q, dv', bv', D, Bt) := ⟨_, rfl⟩
          have hxd' : Hid (RcD H3 x' ∧ x'.2.2.2.2.1.length ≤ 16) := Lib.hid (by subst hx'; exact ⟨⟨hrd.mono l3, hrb, hxd.out.ok⟩, lDh.out⟩)
          have hxi : x'.1 = (r, s) := by rw [hx']
          have hxp : rp x' = ((r, s), q, D, Bt) := by rw [hx']
          have hxl : x'.2.2.2.2.1.length = D.length := by rw [hx']
          have hput : mput (r, s) ((r, s), q, dv', bv', D, Bt) (entsR L) = entsR (L ++ [x']) := by rw [hx']; exact entsR_put L ((r, s), q, dv', bv', D, Bt) hd.out
          rw [hput] at h9
          replace hxi := Lib.hid hxi
          replace hxp := Lib.hid hxp
          replace hxl := Lib.hid hxl
          clear hput hx'
          have le3 := Hp.le_trans l2 l3
          have en8 := (en5.trans en6).trans en7
          have hm := h9.swap
          have g1 : w7.cell? ⟨p, 1, none⟩ = some (.int .i64 (edgesOf L : Int)) := hm.blk_cell 1
          have gf := hm.blk_free 1
          have gl := hm.blk_lt
          have v3 := h9.cell (Hp.cell_le le3 y3)
          have v3l := World.block_lt_of_cell? _ _ v3
          have hLk : L.length = k := by have := congrArg List.length hLm.out; simpa [Nat.min_eq_left hk] using this
          have hsum := edgesOf_le L (fun z hz => (hL.out z hz).2)
          have lD := lDh.out
          have hw : IntKind.i64.wrap ((edgesOf L : Int) + (D.length : Int)) = (edgesOf L : Int) + (D.length : Int) := by rw [IntKind.wrap_i64]; omega
          replace hsum := Lib.hid hsum
          replace hLk := Lib.hid hLk
          clear h9 h8 h7 h6 h5 en5 en6 en7 k5 k6 k7 kk hmu hCp c0 cl v0 vl lD
          go_wp2_with fail
          go_still_tail 10, (by kernel_rfl)
          change wpList _ _ _ _ _ w7.drew
          go_wp2_with fail
          have h10 := hm.drew.blk_set 1 (.int .i64 ((edgesOf L : Int) + (D.length : Int)))
          have h11 : St H3 (Blk p #[.map (some g), .int .i64 (edgesOf (L ++ [x']) : Int)] 60 :: Mp recC g (entsR (L ++ [x'])) :: []) (w7.drew.setCell ⟨p, 1, none⟩ (.int .i64 ((edgesOf L : Int) + (D.length : Int)))) := by
            rw [edgesOf_snoc, hxl.out, Int.natCast_add]
            exact h10
          go_roundw
          case rel => exact ⟨k + 1, L ++ [x'], H3, by omega, by go_num, Hp.le_trans le1 le3, h11, en8.drew.setCell _ _, Lib.hid (fun z hz => by
            rcases List.mem_append.1 hz with hz | hz
            · exact ⟨((hL.out z hz).1).mono (Hp.le_trans l1 le3), (hL.out z hz).2⟩
            · obtain rfl : z = x' := by simpa using hz
              exact hxd'.out), Lib.hid (by rw [htk.out, List.map_append, hLm.out, List.map_cons, hxp.out]; rfl), Lib.hid (by
              have : rids (L ++ [x']) = rids L ++ [(r, s)] := by simp only [rids, List.map_append, List.map_cons, List.map_nil, hxi.out]
              rw [this]; exact hst.out.symm)⟩
          case measure => simp [intOf]; omega
      · rw [if_pos (by simpa using hE)] at hst
        have hne : (recErr (rp ((r, s), q, .slice d1 D.length d3, .slice b1 b2 b3, D, Bt)) != 0) = true := by simpa using hE
        rw [← hst] at hC hne
        have hG0 : Hid (G ≠ 0) := Lib.hid (by simpa using hne)
        clear hE hst
        go_wp2_with fail
        refine (hC.out).mono ?_
        rintro e w3 ⟨rfl, hb3⟩
        go_wp2_with fail
        go_ret2
        exact .inr ⟨by rw [hG.out]; exact hG0.out, by rw [hG.out]; rfl, ((h2.below hb3).weaken le1).drop.drop.toBelow (en2.trans (bel_env hb3))⟩
    · obtain rfl : k = l.length := by omega
      rw [List.take_length] at hLm
      have hG0 : gErr [] (l.map rp) = 0 := by
        rw [hG.out, ← hGk.out, List.drop_length]; rfl
      go_wp2_with fail
      go_ret2
      exact .inl ⟨hG0, p, L, H, hle, grShut h1, fun x hx => (hL.out x hx).1, hLm.out, en1, rfl⟩
end Go.Proofs.YtcbckeoalmjcoaaGreat
