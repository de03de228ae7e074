/- Joined texts: Rec6, Edges. -/
import Derived.StillTailTactics
import Derived.Test.YtohgcghobidfpaaGG10
import Derived.Test.YtohgcghobidfpaaGG13
/- Records: the reference's Same, Find. -/
set_option linter.unusedVariables false
set_option linter.unusedSimpArgs false
namespace Go.Proofs.Ytohgcghobidfpaa
open Go.RowKit Go.Cw Go.Fl
attribute [local go_sem ↓] eql_id neq_id
def recSame (x y : Rp) : Bool := decide (x.1 = y.1) && decide (x.2.1 = y.2.1) && decide (x.2.2.1 = y.2.2.1) && cmdsSame x.2.2.2 y.2.2.2
set_option maxRecDepth 100000 in
set_option maxHeartbeats 3200000 in
theorem refRecSame_any (x y : Rc) (w : World) (hx : RcR w x) (hy : RcR w y) : Calls Try.prog 7 #[recV x, recV y] w fun e w' => e = .returned (.bool (recSame (rp x) (rp y))) ∧ Below w.heap.size w w' := by
  obtain ⟨⟨r, s⟩, q, dv, bv, D, Bt⟩ := x
  obtain ⟨⟨r', s'⟩, q', dv', bv', D', Bt'⟩ := y
  have hD := hx.d.rd
  have hB := hx.b.rd
  have hD' := hy.d.rd
  have hB' := hy.b.rd
  have ok := hx.ok
  have ok' := hy.ok
  simp only at hD hB hD' hB' ok ok'
  clear hx hy
  obtain ⟨H1, l1, h1, ya⟩ := (St.start w).box #[.int .i64 r, .int .i64 s, .int .i64 q, dv, bv] 33
  have y0 := ya 0 _ rfl
  have y1 := ya 1 _ rfl
  have y2 := ya 2 _ rfl
  have y3 := ya 3 _ rfl
  have y4 := ya 4 _ rfl
  clear ya
  have hs1 : (w.alloc (.cells #[.int .i64 r, .int .i64 s, .int .i64 q, dv, bv] 33)).heap.size = w.heap.size + 1 := by simp
  obtain ⟨H2, l2, h2, za⟩ := h1.box #[.int .i64 r', .int .i64 s', .int .i64 q', dv', bv'] 33
  rw [hs1] at za
  have z0 := za 0 _ rfl
  have z1 := za 1 _ rfl
  have z2 := za 2 _ rfl
  have z3 := za 3 _ rfl
  have z4 := za 4 _ rfl
  clear za hs1
  have en2 := ((Env.refl w).alloc (.cells #[.int .i64 r, .int .i64 s, .int .i64 q, dv, bv] 33)).alloc (.cells #[.int .i64 r', .int .i64 s', .int .i64 q', dv', bv'] 33)
  have v0 := h2.cell (Hp.cell_le l2 y0)
  have v1 := h2.cell (Hp.cell_le l2 y1)
  have v2 := h2.cell (Hp.cell_le l2 y2)
  have v3 := h2.cell (Hp.cell_le l2 y3)
  have v4 := h2.cell (Hp.cell_le l2 y4)
  have u0 := h2.cell z0
  have u1 := h2.cell z1
  have u2 := h2.cell z2
  have u3 := h2.cell z3
  have u4 := h2.cell z4
  have vl := World.block_lt_of_cell? _ _ v0
  have ul := World.block_lt_of_cell? _ _ u0
  have l12 := Hp.le_trans l1 l2
  have rD := (hD.mono l12).rw h2
  have rD' := (hD'.mono l12).rw h2
  change Calls _ _ _ _ (fun e w' => e = .returned (.bool (decide (((r, s) : Id) = (r', s')) && decide (q = q') && decide (D = D') && cmdsSame Bt Bt')) ∧ _)
  have fin : ∀ w', Below ((w.alloc (.cells #[.int .i64 r, .int .i64 s, .int .i64 q, dv, bv] 33)).alloc (.cells #[.int .i64 r', .int .i64 s', .int .i64 q', dv', bv'] 33)).heap.size ((w.alloc (.cells #[.int .i64 r, .int .i64 s, .int .i64 q, dv, bv] 33)).alloc (.cells #[.int .i64 r', .int .i64 s', .int .i64 q', dv', bv'] 33)) w' → Below w.heap.size w w' := fun w' hb => ((h2.below hb).weaken l12).toBelow (en2.trans (bel_env hb))
  have fin0 := fin _ (Below.refl _ _)
  by_cases hi : ((r, s) : Id) = (r', s')
  · have hie := idEq_of hi
    simp only at hie
    by_cases hq : q = q'
    · rw [decide_eq_true hi, decide_eq_true hq, Bool.true_and, Bool.true_and]
      clear hi
      subst hq
      have hS := sameIds_any dv dv' D D' _ rD rD'
      cases hd : decide (D = D') with
      | false =>
        rw [Bool.false_and]
        rw [hd] at hS
        replace hS := Lib.hid hS
        clear hd rD rD' hD hD' hB hB'
        go_enter Try.func7, Try.ntmps7
        go_wp2_with fail
        refine hS.out.mono ?_
        rintro e w3 ⟨rfl, hb3⟩
        go_wp2_with fail
        go_ret
        exact ⟨rfl, fin _ hb3⟩
      | true =>
        rw [Bool.true_and]
        rw [hd] at hS
        replace hS := Lib.hid hS
        have hC := fun w3 (hb3 : Below _ _ w3) => refCmds_any bv bv' Bt Bt' ok ok' w3 (((hB.mono l12).rw h2).below hb3) (((hB'.mono l12).rw h2).below hb3)
        replace hC := Lib.hid hC
        clear hd rD rD' hD hD' hB hB'
        go_enter Try.func7, Try.ntmps7
        go_wp2_with fail
        refine hS.out.mono ?_
        rintro e w3 ⟨rfl, hb3⟩
        have h3 := h2.below hb3
        clear v0 v1 v2 v3 v4 u0 u1 u2 u3 u4 vl ul
        have v4 := h3.cell (Hp.cell_le l2 y4)
        have u4 := h3.cell z4
        have vl := World.block_lt_of_cell? _ _ v4
        have ul := World.block_lt_of_cell? _ _ u4
        go_wp2_with fail
        refine (hC.out w3 hb3).mono ?_
        rintro e w4 ⟨rfl, hb4⟩
        go_wp2_with fail
        go_ret
        exact ⟨rfl, fin _ (hb3.trans (hb4.mono hb3.size))⟩
    · rw [decide_eq_false hq, Bool.and_false, Bool.false_and, Bool.false_and]
      have hq2 : (q == q') = false := beq_eq_false_iff_ne.2 hq
      clear hi rD rD' hD hD' hB hB'
      go_enter Try.func7, Try.ntmps7
      go_wp2_with fail
      go_ret
      exact ⟨rfl, fin0⟩
  · have hie := idEq_not hi
    simp only at hie
    rw [decide_eq_false hi, Bool.false_and, Bool.false_and, Bool.false_and]
    clear hi rD rD' hD hD' hB hB'
    go_enter Try.func7, Try.ntmps7
    go_wp2_with fail
    go_ret
    exact ⟨rfl, fin0⟩
/-- Where an id stands first. -/
def findAt (a : Id) : List Id → Int → Int
  | [], _ => -1
  | x :: r, k => if x = a then k else findAt a r (k + 1)
abbrev rids (l : List Rc) : List Id := l.map (·.1)
theorem findAt_step (a : Id) (l : List Rc) (k : Nat) (h : k < l.length) : findAt a ((rids l).drop k) k = if l[k].1 = a then (k : Int) else findAt a ((rids l).drop (k + 1)) ((k : Int) + 1) := by
  rw [List.drop_eq_getElem_cons (by simpa using h), findAt]
  simp
set_option maxRecDepth 100000 in
set_option maxHeartbeats 1600000 in
theorem find_any (u : Value) (l : List Rc) (a : Id) (w : World) (hx : Rw w 5 u (recs l)) :
    Calls Try.prog 20 #[u, idV a] w fun e w' => e = .returned (.int .i64 (findAt a (rids l) 0)) ∧ Below w.heap.size w w' := by
  obtain ⟨A, n, c, rfl, hl, hn, hc⟩ := hx.form
  rw [recs_len] at hl
  obtain rfl : n = l.length := by omega
  clear hl
  have hd := Lib.hid (show findAt a (rids l) 0 = findAt a ((rids l).drop 0) ((0 : Nat) : Int) by simp)
  obtain ⟨G, hG⟩ : ∃ G, Hid (G = findAt a (rids l) 0) := ⟨_, Lib.hid rfl⟩
  rw [← hG.out]
  rw [hG.out.symm] at hd
  obtain ⟨r, s⟩ := a
  have hx1 := hx.alloc (.cells #[.int .i64 r, .int .i64 s] 30)
  have hb1 := boxBelow w (.cells #[.int .i64 r, .int .i64 s] 30)
  obtain ⟨H1, l1, h1, y⟩ := (St.start w).box #[.int .i64 r, .int .i64 s] 30
  have y0 := y 0 _ rfl
  have y1 := y 1 _ rfl
  clear y hG hx
  have en1 := (Env.refl w).alloc (.cells #[.int .i64 r, .int .i64 s] 30)
  have hR := hx1.rd
  go_enter Try.func20, Try.ntmps20
  go_wp2_with fail
  generalize w.alloc (.cells #[.int .i64 r, .int .i64 s] 30) = W at *
  go_loopw [5] (fun i wr => ∃ k n : Nat, k ≤ l.length ∧ i = .int .i64 (k : Int) ∧ Hid (G = findAt (r, s) ((rids l).drop k) k) ∧ wr = W.drewN n) (fun i _ => l.length - (intOf i).toNat)
  case atStart => exact ⟨0, 0, by omega, by go_num, hd, rfl⟩
  case round =>
    obtain ⟨k, n, hk, rfl, hr, rfl⟩ := hrel
    by_cases hlt : k < l.length
    · obtain ⟨b, off, hA, hcr⟩ := hx1.cells (by omega)
      cases hA
      obtain ⟨p0, p1, -, -, -⟩ := recs_get l k hlt
      replace p0 := hcr _ _ p0
      replace p1 := hcr _ _ p1
      rw [← Nat.add_assoc] at p1
      clear hcr
      have hst := findAt_step (r, s) l k hlt
      rw [← hr.out] at hst
      have v0 := h1.cell y0
      have v1 := h1.cell y1
      have vl := World.block_lt_of_cell? _ _ v0
      have pl := World.block_lt_of_cell? _ _ p0
      generalize l[k].1 = x at *
      by_cases hxa : x = (r, s)
      · have hne := idEq_of hxa
        rw [if_pos hxa] at hst
        subst hst
        replace hxa := Lib.hid hxa
        simp only at hne
        go_wp2_with fail
        go_quiet (fail)
        go_wp2_with fail
        go_ret
        exact ⟨rfl, hb1.trans (bel_drewN (bel_drewN (Below.refl _ _) _) _)⟩
      · have hne := idEq_not hxa
        rw [if_neg hxa] at hst
        replace hst := Lib.hid hst
        replace hxa := Lib.hid hxa
        simp only at hne
        go_wp2_with fail
        go_quiet (fail)
        go_wp2_with fail
        go_roundw
        case rel => exact ⟨k + 1, _, by omega, by go_num, Lib.hid (by rw [hst.out]; rfl), rfl⟩
        case measure => simp [intOf]; omega
    · obtain rfl : k = l.length := by omega
      have hg : G = -1 := by rw [hr.out, List.drop_of_length_le (by simp)]; rfl
      subst hg
      go_wp2_with fail
      go_ret
      exact ⟨rfl, hb1.trans (bel_drewN (Below.refl _ _) _)⟩
end Go.Proofs.Ytohgcghobidfpaa

/- Graphs: what there is. -/
set_option linter.unusedVariables false
set_option linter.unusedSimpArgs false
namespace Go.Proofs.Ytohgcghobidfpaa
open Go.RowKit Go.Cw Go.Fl
attribute [local go_sem ↓] eql_id neq_id
/-- A record whose slices are only read, and what they have is such as Go has. -/
structure RcD (H : Hp) (x : Rc) : Prop where
  d : Rd H 2 x.2.2.1 (idl x.2.2.2.2.1)
  b : Rd H 3 x.2.2.2.1 (cml x.2.2.2.2.2)
  ok : ∀ c ∈ x.2.2.2.2.2, CmW c
theorem RcD.mono {H H' : Hp} {x : Rc} (h : RcD H x) (hl : Hp.le H H') : RcD H' x := ⟨h.d.mono hl, h.b.mono hl, h.ok⟩
theorem RcD.rw {H : Hp} {l : List HA} {w : World} {x : Rc} (h : RcD H x) (hst : St H l w) : RcR w x := ⟨h.d.rw hst, h.b.rw hst, h.ok⟩
/-- The codes of a map from ids to records. -/
def recC : Go.Cw.Code Try.prog 30 Id Rc where
  kv := idV
  vv := recV
  inj := setC.inj
  kinds := kinds_id
def entsR (L : List Rc) : List (Id × Rc) := L.map (fun x => (x.1, x))
theorem entsR_keys (L : List Rc) : (entsR L).map (·.1) = rids L := by unfold entsR rids; rw [List.map_map]; rfl
theorem entsR_len (L : List Rc) : (entsR L).length = L.length := by simp [entsR]
theorem zero_rec (w : World) : (zeroValue 33).run Try.prog w = .ok (.agg #[.int .i64 0, .int .i64 0, .int .i64 0, .slice none 0 0, .slice none 0 0]) w := by kernel_rfl
theorem entsR_none (L : List Rc) (a : Id) (h : a ∉ rids L) : mlook a (entsR L) = none := lookup_none (by rw [entsR_keys]; exact h)
theorem entsR_some : ∀ (L : List Rc) (a : Id), a ∈ rids L → ∃ x ∈ L, x.1 = a ∧ mlook a (entsR L) = some x
  | [], _, h => by simp [rids] at h
  | x :: r, a, h => by
    by_cases hx : x.1 = a
    · exact ⟨x, by simp, hx, by show (if x.1 = a then _ else _) = _; rw [if_pos hx]⟩
    · have h2 : a ∈ rids r := by
        simp only [rids, List.map_cons, List.mem_cons] at h
        exact h.resolve_left (fun e => hx e.symm)
      obtain ⟨y, hy, hya, hl⟩ := entsR_some r a h2
      exact ⟨y, List.mem_cons_of_mem _ hy, hya, by show (if x.1 = a then _ else _) = _; rw [if_neg hx]; exact hl⟩
/-- How many edges. -/
def edgesOf (L : List Rc) : Nat := (L.map (fun x => x.2.2.2.2.1.length)).sum
abbrev grP (p : Nat) : Value := .pointer (some ⟨p, 0, none⟩)
end Go.Proofs.Ytohgcghobidfpaa
