/- Joined texts: Rec, Rec2, Rec3. -/
import Derived.Deep.RegionHeld3
import Derived.Test.YtcbckeoalmjcoaaGreatCGR2
import Derived.Test.YtcbckeoalmjcoaaGreatCGR6
/- Records: whether one may be: the parts. -/
set_option linter.unusedVariables false
set_option linter.unusedSimpArgs false
namespace Go.Proofs.YtcbckeoalmjcoaaGreat
open Go.RowKit Go.Cw Go.Fl
def idErr (a : Id) : Int := if 0 ≤ a.1 ∧ a.1 < 8 then (if 1 ≤ a.2 ∧ a.2 ≤ 1048576 then 0 else 8) else 7
theorem idErr_cases (a : Id) : (a.1 < 0 ∧ idErr a = 7) ∨ (¬ a.1 < 0 ∧ 8 ≤ a.1 ∧ idErr a = 7) ∨ (¬ a.1 < 0 ∧ ¬ 8 ≤ a.1 ∧ a.2 < 1 ∧ idErr a = 8) ∨ (¬ a.1 < 0 ∧ ¬ 8 ≤ a.1 ∧ ¬ a.2 < 1 ∧ 1048576 < a.2 ∧ idErr a = 8) ∨ (¬ a.1 < 0 ∧ ¬ 8 ≤ a.1 ∧ ¬ a.2 < 1 ∧ ¬ 1048576 < a.2 ∧ idErr a = 0) := by
  unfold idErr
  by_cases h1 : a.1 < 0
  · exact .inl ⟨h1, by rw [if_neg (by omega)]⟩
  · by_cases h2 : 8 ≤ a.1
    · exact .inr (.inl ⟨h1, h2, by rw [if_neg (by omega)]⟩)
    · by_cases h3 : a.2 < 1
      · exact .inr (.inr (.inl ⟨h1, h2, h3, by rw [if_pos (by omega), if_neg (by omega)]⟩))
      · by_cases h4 : 1048576 < a.2
        · exact .inr (.inr (.inr (.inl ⟨h1, h2, h3, h4, by rw [if_pos (by omega), if_neg (by omega)]⟩)))
        · exact .inr (.inr (.inr (.inr ⟨h1, h2, h3, h4, by rw [if_pos (by omega), if_pos (by omega)]⟩)))
set_option maxRecDepth 100000 in
set_option maxHeartbeats 800000 in
theorem identCheck_any (a : Id) (w : World) : Calls Tryz.prog 86 #[idV a] w fun e w' => e = .returned (.int .i64 (idErr a)) ∧ Below w.heap.size w w' := by
  obtain ⟨r, s⟩ := a
  have bel := boxBelow w (.cells #[.int .i64 r, .int .i64 s] 41)
  rcases idErr_cases (r, s) with ⟨h1, h⟩ | ⟨h1, h2, h⟩ | ⟨h1, h2, h3, h⟩ | ⟨h1, h2, h3, h4, h⟩ | ⟨h1, h2, h3, h4, h⟩ <;> simp only at h1 <;> (try simp only at h2) <;> (try simp only at h3) <;> (try simp only at h4) <;> rw [h] <;> clear h
  all_goals
    go_enter Tryz.func86, Tryz.ntmps86
    go_wp2_with fail
    go_ret
    exact ⟨rfl, bel⟩
set_option maxRecDepth 100000 in
set_option maxHeartbeats 800000 in
theorem refId_any (a : Id) (w : World) : Calls Tryz.prog 63 #[idV a] w fun e w' => e = .returned (.int .i64 (idErr a)) ∧ Below w.heap.size w w' := by
  have hR := right_any a
  have hok : Hid (idErr a = if a.1 < 0 ∨ 8 ≤ a.1 then 7 else if idOk a then 0 else 8) := Lib.hid (by
    unfold idErr idOk
    by_cases h1 : a.1 < 0 ∨ 8 ≤ a.1
    · rw [if_neg (by omega), if_pos h1]
    · rw [if_pos (by omega), if_neg h1]
      by_cases h2 : 1 ≤ a.2 ∧ a.2 ≤ 1048576
      · rw [if_pos h2, decide_eq_true (by omega)]; rfl
      · rw [if_neg h2, decide_eq_false (by omega)]; rfl)
  obtain ⟨r, s⟩ := a
  have bel := boxBelow w (.cells #[.int .i64 r, .int .i64 s] 41)
  by_cases h1 : r < 0
  · rw [hok.out, if_pos (.inl h1)]
    clear hok
    replace hR := Lib.hid hR
    go_enter Tryz.func63, Tryz.ntmps63
    go_wp2_with fail
    go_ret
    exact ⟨rfl, bel⟩
  · by_cases h2 : 7 < r
    · rw [hok.out, if_pos (.inr (by simp only; omega))]
      clear hok
      replace hR := Lib.hid hR
      go_enter Tryz.func63, Tryz.ntmps63
      go_wp2_with fail
      go_ret
      exact ⟨rfl, bel⟩
    · rw [hok.out, if_neg (by simp only; omega)]
      clear hok
      cases hi : idOk (r, s) with
      | true =>
        rw [hi] at hR
        replace hR := Lib.hid hR
        clear hi
        go_enter Tryz.func63, Tryz.ntmps63
        go_wp2_with fail
        refine (hR.out _).mono ?_
        rintro e w2 ⟨rfl, hb2⟩
        go_wp2_with fail
        go_ret
        exact ⟨rfl, bel.trans (hb2.mono (by simp))⟩
      | false =>
        rw [hi] at hR
        replace hR := Lib.hid hR
        clear hi
        go_enter Tryz.func63, Tryz.ntmps63
        go_wp2_with fail
        refine (hR.out _).mono ?_
        rintro e w2 ⟨rfl, hb2⟩
        go_wp2_with fail
        go_ret
        exact ⟨rfl, bel.trans (hb2.mono (by simp))⟩
/-- A record: its id, its Seq, its Deps' and its Batch's slices, and what these have. -/
abbrev Rc := Id × Int × Value × Value × List Id × List Cm
abbrev recV (x : Rc) : Value := .agg #[.int .i64 x.1.1, .int .i64 x.1.2, .int .i64 x.2.1, x.2.2.1, x.2.2.2.1]
def recc (x : Rc) : List Value := [.int .i64 x.1.1, .int .i64 x.1.2, .int .i64 x.2.1, x.2.2.1, x.2.2.2.1]
def recs (l : List Rc) : List Value := l.flatMap recc
theorem recs_len (l : List Rc) : (recs l).length = l.length * 5 := flat_len recc 5 (fun _ => rfl) l
theorem recs_get (l : List Rc) (k : Nat) (h : k < l.length) : (recs l)[k * 5]? = some (.int .i64 l[k].1.1) ∧ (recs l)[k * 5 + 1]? = some (.int .i64 l[k].1.2) ∧ (recs l)[k * 5 + 2]? = some (.int .i64 l[k].2.1) ∧ (recs l)[k * 5 + 3]? = some l[k].2.2.1 ∧ (recs l)[k * 5 + 4]? = some l[k].2.2.2.1 := by
  have := fun i hi => flat_get recc 5 (fun _ => rfl) l k i h hi
  exact ⟨this 0 (by omega), this 1 (by omega), this 2 (by omega), this 3 (by omega), this 4 (by omega)⟩
/-- A record without its memory. -/
abbrev Rp := Id × Int × List Id × List Cm
abbrev rp (x : Rc) : Rp := (x.1, x.2.1, x.2.2.2.2.1, x.2.2.2.2.2)
def aheadOf : Option Id → Id → Bool
  | none, _ => true
  | some q, d => idLt q d
/-- What is wrong with Deps, behind one. -/
def depsErr (own : Id) : Option Id → List Id → Int
  | _, [] => 0
  | p, d :: r => if idErr d ≠ 0 then idErr d else if d = own then 6 else if aheadOf p d then depsErr own (some d) r else 11
def ownErr (x : Rp) : Int := if idErr x.1 ≠ 0 then idErr x.1 else if 1 ≤ x.2.1 ∧ x.2.1 ≤ 1073741824 then 0 else 9
def depErr (x : Rp) : Int := if 16 < x.2.2.1.length then 10 else depsErr x.1 none x.2.2.1
def recErr (x : Rp) : Int := if ownErr x ≠ 0 then ownErr x else if depErr x ≠ 0 then depErr x else batchErr x.2.2.2
/-- A record's slices may be read, and what they have is such as Go has. -/
structure RcR (w : World) (x : Rc) : Prop where
  d : Rw w 2 x.2.2.1 (idl x.2.2.2.2.1)
  b : Rw w 3 x.2.2.2.1 (cml x.2.2.2.2.2)
  ok : ∀ c ∈ x.2.2.2.2.2, CmW c
theorem RcR.below {w w' : World} {x : Rc} (h : RcR w x) (hb : Below w.heap.size w w') : RcR w' x := ⟨h.d.below hb, h.b.below hb, h.ok⟩
set_option maxRecDepth 100000 in
set_option maxHeartbeats 1600000 in
theorem own_any (x : Rc) (w : World) (h : RcR w x) : Calls Tryz.prog 66 #[recV x] w fun e w' => e = .returned (.int .i64 (ownErr (rp x))) ∧ Below w.heap.size w w' := by
  obtain ⟨⟨r, s⟩, q, dv, bv, D, Bt⟩ := x
  obtain ⟨dA, dn, dc, hd, _⟩ := h.d.form
  obtain ⟨bA, bn, bc, hb, _⟩ := h.b.form
  simp only at hd hb
  subst hd hb
  clear h
  have bel := boxBelow w (.cells #[.int .i64 r, .int .i64 s, .int .i64 q, .slice dA dn dc, .slice bA bn bc] 91)
  have hI := identCheck_any (r, s) (w.alloc (.cells #[.int .i64 r, .int .i64 s, .int .i64 q, .slice dA dn dc, .slice bA bn bc] 91))
  by_cases hi : idErr (r, s) = 0
  · have hR : ownErr ((r, s), q, D, Bt) = if 1 ≤ q ∧ q ≤ 1073741824 then 0 else 9 := by unfold ownErr; rw [if_neg (by simpa using hi)]
    rw [hR]
    rw [hi] at hI
    clear hR hi
    have hbx := (St.start w).blk #[.int .i64 r, .int .i64 s, .int .i64 q, .slice dA dn dc, .slice bA bn bc] 91
    by_cases h1 : q < 1
    · rw [if_neg (by omega)]
      go_enter Tryz.func66, Tryz.ntmps66
      go_wp2_with fail
      refine hI.mono ?_
      rintro e w2 ⟨rfl, hb2⟩
      have hc2 := (hbx.below hb2).blk_cell 2
      go_wp2_with fail
      go_ret
      exact ⟨rfl, bel.trans (hb2.mono (by simp))⟩
    · by_cases h2 : 1073741824 < q
      · rw [if_neg (by omega)]
        go_enter Tryz.func66, Tryz.ntmps66
        go_wp2_with fail
        refine hI.mono ?_
        rintro e w2 ⟨rfl, hb2⟩
        have hc2 := (hbx.below hb2).blk_cell 2
        go_wp2_with fail
        go_ret
        exact ⟨rfl, bel.trans (hb2.mono (by simp))⟩
      · rw [if_pos (by omega)]
        go_enter Tryz.func66, Tryz.ntmps66
        go_wp2_with fail
        refine hI.mono ?_
        rintro e w2 ⟨rfl, hb2⟩
        have hc2 := (hbx.below hb2).blk_cell 2
        go_wp2_with fail
        go_ret
        exact ⟨rfl, bel.trans (hb2.mono (by simp))⟩
  · have hR : ownErr ((r, s), q, D, Bt) = idErr (r, s) := by unfold ownErr; rw [if_pos (by simpa using hi)]
    rw [hR]
    have hne : (idErr (r, s) != 0) = true := by simpa using hi
    clear hR hi
    generalize idErr (r, s) = E at *
    go_enter Tryz.func66, Tryz.ntmps66
    go_wp2_with fail
    refine hI.mono ?_
    rintro e w2 ⟨rfl, hb2⟩
    go_wp2_with fail
    go_ret
    exact ⟨rfl, bel.trans (hb2.mono (by simp))⟩
end Go.Proofs.YtcbckeoalmjcoaaGreat

/- Records: what is wrong with Deps. -/
set_option linter.unusedVariables false
set_option linter.unusedSimpArgs false
namespace Go.Proofs.YtcbckeoalmjcoaaGreat
open Go.RowKit Go.Cw Go.Fl
attribute [local go_sem ↓] eql_id neq_id
theorem grow_below (w : World) (os : Array Obj) : Below w.heap.size w (Go.Sort.grow w os) := by
  refine ⟨rfl, rfl, rfl, by simp [Go.Sort.grow], fun k hk => ?_⟩
  simp [Go.Sort.grow, Array.getElem?_append, hk]
theorem cmp_below (a b : Id) (w : World) : Calls Tryz.prog 76 #[idV a, idV b] w fun e w' => e = .returned (.int .i64 (cmpId a b)) ∧ Below w.heap.size w w' :=
  (compare_any a b w).mono fun e w' ⟨h1, q, os, h2⟩ => ⟨h1, by rw [h2]; exact (bel_drewN (Below.refl _ _) q).trans (grow_below (w.drewN q) os)⟩
theorem cmpId_lt (a b : Id) : (idLt a b = true → cmpId a b < 0) ∧ (idLt a b = false → 0 ≤ cmpId a b) := by
  have h := ltOf_id a b
  unfold ltOf at h
  constructor
  · intro h1; rw [h1] at h; exact of_decide_eq_true h
  · intro h1; rw [h1] at h; have := of_decide_eq_false h; omega
theorem depsErr_step (own : Id) (p : Option Id) (D : List Id) (k : Nat) (h : k < D.length) : depsErr own p (D.drop k) = if idErr D[k] ≠ 0 then idErr D[k] else if D[k] = own then 6 else if aheadOf p D[k] then depsErr own (some D[k]) (D.drop (k + 1)) else 11 := by
  rw [List.drop_eq_getElem_cons h, depsErr]
/-- The one ahead. -/
def prevOf (D : List Id) (k : Nat) : Option Id := match k with
  | 0 => none
  | m + 1 => D[m]?
set_option maxRecDepth 100000 in
set_option maxHeartbeats 3200000 in
theorem deps_any (x : Rc) (w : World) (h : RcR w x) : Calls Tryz.prog 67 #[recV x] w fun e w' => e = .returned (.int .i64 (depErr (rp x))) ∧ Below w.heap.size w w' := by
  obtain ⟨⟨r, s⟩, q, dv, bv, D, Bt⟩ := x
  obtain ⟨dA, dn, dc, hd, hdl, hdn, hdc⟩ := h.d.form
  obtain ⟨bA, bn, bc, hb, _⟩ := h.b.form
  have hD := h.d.rd
  simp only at hd hb hD hdl
  subst hd hb
  rw [idl_len] at hdl
  obtain rfl : dn = D.length := by omega
  clear h hdl
  obtain ⟨H1, l1, h1, y⟩ := (St.start w).box #[.int .i64 r, .int .i64 s, .int .i64 q, .slice dA D.length dc, .slice bA bn bc] 91
  have en1 := (Env.refl w).alloc (.cells #[.int .i64 r, .int .i64 s, .int .i64 q, .slice dA D.length dc, .slice bA bn bc] 91)
  have y0 := y 0 _ rfl
  have y1 := y 1 _ rfl
  have y3 := y 3 _ rfl
  clear y
  by_cases h16 : 16 < D.length
  · have hR : depErr ((r, s), q, D, Bt) = 10 := if_pos h16
    rw [hR]
    have hI : (16 : Int) < (D.length : Int) := by omega
    clear hR
    go_enter Tryz.func67, Tryz.ntmps67
    go_wp2_with fail
    go_ret
    exact ⟨rfl, (h1.weaken l1).toBelow en1⟩
  · have hR : depErr ((r, s), q, D, Bt) = depsErr (r, s) none D := if_neg h16
    rw [hR]
    have hI : ¬ (16 : Int) < (D.length : Int) := by omega
    clear hR
    generalize hG : depsErr (r, s) none D = G at *
    replace hG := Lib.hid hG
    go_enter Tryz.func67, Tryz.ntmps67
    go_wp2_with fail
    go_loopw [15] (fun s15 wr => ∃ k : Nat, k ≤ D.length ∧ s15 = .int .i64 (k : Int) ∧ St H1 [] wr ∧ Env w wr ∧ Hid (depsErr (r, s) (prevOf D k) (D.drop k) = G)) (fun s15 _ => D.length - (intOf s15).toNat)
    case atStart => exact ⟨0, by omega, rfl, h1, en1, hG⟩
    case round =>
      clear hG h1 en1
      obtain ⟨k, hk, rfl, hst, hen, hg⟩ := hrel
      by_cases hlt : k < D.length
      · have hstep := depsErr_step (r, s) (prevOf D k) D k hlt
        rw [hg.out] at hstep
        obtain ⟨A0, n0, c0, hv0, hl0, hn0, hc0, hcells0⟩ := hD.mono l1
        cases hv0
        obtain ⟨b, off, rfl, hcells⟩ := hcells0 (by omega)
        have q0 := hst.cell (hcells _ _ (idl_fst D k hlt))
        have q1 := hst.cell (hcells _ _ (idl_snd D k hlt))
        replace hcells := Lib.hid hcells
        rw [← Nat.add_assoc] at q1
        have ql := World.block_lt_of_cell? _ _ q0
        obtain ⟨d, HX⟩ : ∃ x, Hid (x = D[k]) := ⟨_, Lib.hid rfl⟩
        rw [← HX.out] at q0 q1 hstep
        obtain ⟨d1, d2⟩ := d
        simp only at q0 q1
        clear hg hcells0 hc0 hl0
        obtain ⟨H2, l2, h2, z⟩ := hst.box #[.int .i64 d1, .int .i64 d2] 41
        have z0 := z 0 _ rfl
        have z1 := z 1 _ rfl
        have en2 := hen.alloc (.cells #[.int .i64 d1, .int .i64 d2] 41)
        clear z
        have hI := identCheck_any (d1, d2) (wr.alloc (.cells #[.int .i64 d1, .int .i64 d2] 41))
        by_cases hi : idErr (d1, d2) = 0
        · rw [if_neg (by simpa using hi)] at hstep
          rw [hi] at hI
          clear hi
          by_cases ho : (d1, d2) = ((r, s) : Id)
          · rw [if_pos ho] at hstep
            subst hstep
            have hq := idEq_of ho
            simp only at hq
            clear ho
            go_wp2_with fail
            refine hI.mono ?_
            rintro e w3 ⟨rfl, hb3⟩
            have h3 := h2.below hb3
            have x0 := h3.cell z0
            have x1 := h3.cell z1
            have v0 := h3.cell (Hp.cell_le l2 y0)
            have v1 := h3.cell (Hp.cell_le l2 y1)
            have xl := World.block_lt_of_cell? _ _ x0
            have vl := World.block_lt_of_cell? _ _ v0
            go_wp2_with fail
            go_ret
            exact ⟨rfl, (((h3.weaken l2).weaken l1)).toBelow (en2.trans (bel_env hb3))⟩
          · rw [if_neg ho] at hstep
            have hq := idEq_not ho
            simp only at hq
            clear ho
            cases k with
            | zero =>
              replace hstep : G = depsErr (r, s) (some (d1, d2)) (D.drop (0 + 1)) := hstep
              replace hstep := Lib.hid hstep
              simp only [Nat.zero_mul, Nat.add_zero] at q0 q1
              have hd0 : decide ((0 : Int) < ((0 : Nat) : Int)) = false := by decide
              go_wp2_with fail
              refine hI.mono ?_
              rintro e w3 ⟨rfl, hb3⟩
              have h3 := h2.below hb3
              have x0 := h3.cell z0
              have x1 := h3.cell z1
              have v0 := h3.cell (Hp.cell_le l2 y0)
              have v1 := h3.cell (Hp.cell_le l2 y1)
              have v3 := h3.cell (Hp.cell_le l2 y3)
              have xl := World.block_lt_of_cell? _ _ x0
              have vl := World.block_lt_of_cell? _ _ v0
              go_wp2_with fail
              go_quiet (fail)
              go_wp2_with fail
              go_roundw
              case rel => exact ⟨1, by omega, by go_num, (h3.weaken l2).drewN _, (en2.trans (bel_env hb3)).drewN _, Lib.hid (by rw [show prevOf D 1 = some (d1, d2) by unfold prevOf; rw [HX.out]; simp [hlt]]; exact hstep.out.symm)⟩
              case measure => simp [intOf]; omega
            | succ m =>
              have hpv : prevOf D (m + 1) = some D[m] := by unfold prevOf; simp [show m < D.length by omega]
              rw [hpv] at hstep
              have g0 := Hp.cell_le l2 (hcells.out _ _ (idl_fst D m (by omega)))
              have g1 := Hp.cell_le l2 (hcells.out _ _ (idl_snd D m (by omega)))
              rw [← Nat.add_assoc] at g1
              obtain ⟨pd, HY⟩ : ∃ x, Hid (x = D[m]) := ⟨_, Lib.hid rfl⟩
              rw [← HY.out] at g0 g1 hstep
              obtain ⟨p1', p2'⟩ := pd
              simp only at g0 g1
              clear hpv
              have hk1 : (0 : Int) < ((m : Int) + 1) := by omega
              have hm0 : (0 : Int) ≤ (m : Int) := by omega
              have hml : (m : Int) < (D.length : Int) := by omega
              have hw1 : IntKind.i64.wrap ((m : Int) + 1 - 1) = (m : Int) := by rw [IntKind.wrap_i64]; omega
              have hw2 : IntKind.i64.wrap (m : Int) = (m : Int) := by rw [IntKind.wrap_i64]; omega
              have hC := fun w => cmp_below (p1', p2') (d1, d2) w
              obtain ⟨hlt1, hlt2⟩ := cmpId_lt (p1', p2') (d1, d2)
              cases hah : idLt (p1', p2') (d1, d2) with
              | true =>
                have hneg := hlt1 hah
                replace hstep : G = depsErr (r, s) (some (d1, d2)) (D.drop (m + 1 + 1)) := by rw [hstep, show aheadOf (some (p1', p2')) (d1, d2) = idLt (p1', p2') (d1, d2) from rfl, hah]; rfl
                replace hstep := Lib.hid hstep
                clear hlt1 hlt2 hah
                generalize cmpId (p1', p2') (d1, d2) = C at *
                replace hC := Lib.hid hC
                go_wp2_with fail
                refine hI.mono ?_
                rintro e w3 ⟨rfl, hb3⟩
                have h3 := h2.below hb3
                have x0 := h3.cell z0
                have x1 := h3.cell z1
                have v0 := h3.cell (Hp.cell_le l2 y0)
                have v1 := h3.cell (Hp.cell_le l2 y1)
                have v3 := h3.cell (Hp.cell_le l2 y3)
                have p0 := h3.cell g0
                have p1 := h3.cell g1
                have pl := World.block_lt_of_cell? _ _ p0
                have xl := World.block_lt_of_cell? _ _ x0
                have vl := World.block_lt_of_cell? _ _ v0
                go_wp2_with fail
                go_still_tail 11, (by kernel_rfl)
                change wpList _ _ _ _ _ w3.drew
                go_wp2_with fail
                refine (hC.out _).mono ?_
                rintro e w4 ⟨rfl, hb4⟩
                have h4 := h3.drew.below hb4
                go_wp2_with fail
                go_roundw
                case rel => exact ⟨m + 1 + 1, by omega, by go_num, h4.weaken l2, (en2.trans (bel_env hb3)).drew.trans (bel_env hb4), Lib.hid (by rw [show prevOf D (m + 1 + 1) = some (d1, d2) by unfold prevOf; rw [HX.out]; simp [hlt]]; exact hstep.out.symm)⟩
                case measure => simp [intOf]; omega
              | false =>
                have hneg := hlt2 hah
                replace hstep : G = 11 := by rw [hstep, show aheadOf (some (p1', p2')) (d1, d2) = idLt (p1', p2') (d1, d2) from rfl, hah]; rfl
                clear hlt1 hlt2 hah
                generalize cmpId (p1', p2') (d1, d2) = C at *
                replace hC := Lib.hid hC
                subst hstep
                go_wp2_with fail
                refine hI.mono ?_
                rintro e w3 ⟨rfl, hb3⟩
                have h3 := h2.below hb3
                have x0 := h3.cell z0
                have x1 := h3.cell z1
                have v0 := h3.cell (Hp.cell_le l2 y0)
                have v1 := h3.cell (Hp.cell_le l2 y1)
                have v3 := h3.cell (Hp.cell_le l2 y3)
                have p0 := h3.cell g0
                have p1 := h3.cell g1
                have pl := World.block_lt_of_cell? _ _ p0
                have xl := World.block_lt_of_cell? _ _ x0
                have vl := World.block_lt_of_cell? _ _ v0
                go_wp2_with fail
                go_still_tail 11, (by kernel_rfl)
                change wpList _ _ _ _ _ w3.drew
                go_wp2_with fail
                refine (hC.out _).mono ?_
                rintro e w4 ⟨rfl, hb4⟩
                have h4 := h3.drew.below hb4
                go_wp2_with fail
                go_ret
                exact ⟨rfl, ((h4.weaken l2).weaken l1).toBelow ((en2.trans (bel_env hb3)).drew.trans (bel_env hb4))⟩
        · rw [if_pos (by simpa using hi)] at hstep
          have hne : (idErr (d1, d2) != 0) = true := by simpa using hi
          clear hi
          generalize idErr (d1, d2) = E at *
          subst hstep
          go_wp2_with fail
          refine hI.mono ?_
          rintro e w3 ⟨rfl, hb3⟩
          go_wp2_with fail
          go_ret
          exact ⟨rfl, (((h2.below hb3).weaken l2).weaken l1).toBelow (en2.trans (bel_env hb3))⟩
      · obtain rfl : k = D.length := by omega
        have hG2 : G = 0 := by rw [← hg.out, List.drop_length]; rfl
        subst hG2
        clear hg
        go_wp2_with fail
        go_ret
        exact ⟨rfl, (hst.weaken l1).toBelow hen⟩
end Go.Proofs.YtcbckeoalmjcoaaGreat

/- Records: what is wrong with one; the reference's answer. -/
set_option linter.unusedVariables false
set_option linter.unusedSimpArgs false
namespace Go.Proofs.YtcbckeoalmjcoaaGreat
open Go.RowKit Go.Cw Go.Fl
attribute [local go_sem ↓] eql_id neq_id
set_option maxRecDepth 100000 in
set_option maxHeartbeats 800000 in
theorem does_any (x : Rc) (w : World) (h : RcR w x) : Calls Tryz.prog 68 #[recV x] w fun e w' => e = .returned (.int .i64 (batchErr x.2.2.2.2.2)) ∧ Below w.heap.size w w' := by
  obtain ⟨⟨r, s⟩, q, dv, bv, D, Bt⟩ := x
  obtain ⟨dA, dn, dc, hd, _⟩ := h.d.form
  obtain ⟨bA, bn, bc, hb, _⟩ := h.b.form
  have hB := h.b
  have hok := h.ok
  simp only at hd hb hB hok
  subst hd hb
  clear h
  have bel := boxBelow w (.cells #[.int .i64 r, .int .i64 s, .int .i64 q, .slice dA dn dc, .slice bA bn bc] 91)
  have hC := batchCheck_any bA bn bc Bt hok _ (hB.below bel)
  go_enter Tryz.func68, Tryz.ntmps68
  go_wp2_with fail
  refine hC.mono ?_
  rintro e w2 ⟨rfl, hb2⟩
  go_wp2_with fail
  go_ret
  exact ⟨rfl, bel.trans (hb2.mono (by simp))⟩
/-- What is wrong with a record, as far as the k-th look and those behind it tell. -/
def tailErr (x : Rp) : Nat → Int
  | 0 => recErr x
  | 1 => if depErr x ≠ 0 then depErr x else batchErr x.2.2.2
  | 2 => batchErr x.2.2.2
  | _ => 0
set_option maxRecDepth 100000 in
set_option maxHeartbeats 3200000 in
theorem recCheck_any (x : Rc) (w : World) (h : RcR w x) : Calls Tryz.prog 34 #[recV x] w fun e w' => e = .returned (.int .i64 (recErr (rp x))) ∧ Below w.heap.size w w' := by
  have hO := own_any x
  have hP := deps_any x
  have hQ := does_any x
  obtain ⟨⟨r, s⟩, q, dv, bv, D, Bt⟩ := x
  obtain ⟨dA, dn, dc, hd, _⟩ := h.d.form
  obtain ⟨bA, bn, bc, hb, _⟩ := h.b.form
  simp only at hd hb
  subst hd hb
  replace hO := Lib.hid hO
  replace hP := Lib.hid hP
  replace hQ := Lib.hid hQ
  obtain ⟨H1, l1, h1, y⟩ := (St.start w).box #[.int .i64 r, .int .i64 s, .int .i64 q, .slice dA dn dc, .slice bA bn bc] 53
  have en1 := (Env.refl w).alloc (.cells #[.int .i64 r, .int .i64 s, .int .i64 q, .slice dA dn dc, .slice bA bn bc] 53)
  have y0 := y 0 _ rfl
  have y1 := y 1 _ rfl
  have y2 := y 2 _ rfl
  have y3 := y 3 _ rfl
  have y4 := y 4 _ rfl
  clear y
  have hR : recErr ((r, s), q, D, Bt) = if ownErr ((r, s), q, D, Bt) ≠ 0 then ownErr ((r, s), q, D, Bt) else if depErr ((r, s), q, D, Bt) ≠ 0 then depErr ((r, s), q, D, Bt) else batchErr Bt := rfl
  have hr := h.d.rd
  have hb' := h.b.rd
  change Calls _ _ _ _ (fun e w' => e = .returned (.int .i64 (recErr ((r, s), q, D, Bt))) ∧ _)
  generalize hG : recErr ((r, s), q, D, Bt) = G at *
  have hG' : Hid (tailErr ((r, s), q, D, Bt) 0 = G) := Lib.hid hG
  clear hG hR
  go_enter Tryz.func34, Tryz.ntmps34
  obtain ⟨H2, l2, h2, z⟩ := h1.box #[.func (.func 66) #[] #[], .func (.func 67) #[] #[], .func (.func 68) #[] #[]] 88
  have hs1 : (w.alloc (.cells #[.int .i64 r, .int .i64 s, .int .i64 q, .slice dA dn dc, .slice bA bn bc] 53)).heap.size = w.heap.size + 1 := by simp
  have g0 := z 0 _ rfl
  have g1 := z 1 _ rfl
  have g2 := z 2 _ rfl
  rw [hs1] at g0 g1 g2
  have en2 := en1.alloc (.cells #[.func (.func 66) #[] #[], .func (.func 67) #[] #[], .func (.func 68) #[] #[]] 88)
  have hRd : ∀ wr, St H2 [] wr → RcR wr ((r, s), q, .slice dA dn dc, .slice bA bn bc, D, Bt) := fun wr hst => ⟨((hr.mono l1).mono l2).rw hst, ((hb'.mono l1).mono l2).rw hst, h.ok⟩
  clear z hs1 h1 en1
  go_wp2_with fail
  go_loopw [8] (fun s8 wr => ∃ k : Nat, k ≤ 3 ∧ s8 = .int .i64 (k : Int) ∧ St H2 [] wr ∧ Env w wr ∧ Hid (tailErr ((r, s), q, D, Bt) k = G)) (fun s8 _ => 3 - (intOf s8).toNat)
  case atStart => exact ⟨0, by omega, rfl, h2, en2, hG'⟩
  case round =>
    clear hG' h2 en2
    obtain ⟨k, hk, rfl, hst, hen, hg⟩ := hrel
    by_cases hlt : k < 3
    · have hk3 : k = 0 ∨ k = 1 ∨ k = 2 := by omega
      clear hk hlt
      rcases hk3 with rfl | rfl | rfl
      · have hck := hRd wr hst
        have c := hO.out wr hck
        have f0 := hst.cell g0
        have fl := World.block_lt_of_cell? _ _ f0
        have v0 := hst.cell (Hp.cell_le l2 y0)
        have v1 := hst.cell (Hp.cell_le l2 y1)
        have v2 := hst.cell (Hp.cell_le l2 y2)
        have v3 := hst.cell (Hp.cell_le l2 y3)
        have v4 := hst.cell (Hp.cell_le l2 y4)
        have vl := World.block_lt_of_cell? _ _ v0
        have hT : tailErr ((r, s), q, D, Bt) 0 = if ownErr ((r, s), q, D, Bt) ≠ 0 then ownErr ((r, s), q, D, Bt) else tailErr ((r, s), q, D, Bt) (0 + 1) := rfl
        rw [hT] at hg
        clear hT hck
        by_cases he : ownErr ((r, s), q, D, Bt) = 0
        · replace hg := hg.out
          rw [if_neg (by simpa using he)] at hg
          replace hg := Lib.hid hg
          change Calls _ _ _ _ (fun e w' => e = .returned (.int .i64 (ownErr ((r, s), q, D, Bt))) ∧ _) at c
          rw [he] at c
          clear he
          go_wp2_with fail
          refine c.mono ?_
          rintro e w3 ⟨rfl, hb3⟩
          go_wp2_with fail
          go_roundw
          case rel => exact ⟨0 + 1, by omega, by go_num, hst.below hb3, hen.trans (bel_env hb3), hg⟩
          case measure => simp [intOf]
        · replace hg := hg.out
          rw [if_pos (by simpa using he)] at hg
          have hne : (ownErr ((r, s), q, D, Bt) != 0) = true := by simpa using he
          change Calls _ _ _ _ (fun e w' => e = .returned (.int .i64 (ownErr ((r, s), q, D, Bt))) ∧ _) at c
          clear he
          generalize ownErr ((r, s), q, D, Bt) = E at *
          subst hg
          go_wp2_with fail
          refine c.mono ?_
          rintro e w3 ⟨rfl, hb3⟩
          go_wp2_with fail
          go_ret
          exact ⟨rfl, (((hst.below hb3).weaken l2).weaken l1).toBelow (hen.trans (bel_env hb3))⟩
      · have hck := hRd wr hst
        have c := hP.out wr hck
        have f0 := hst.cell g1
        have fl := World.block_lt_of_cell? _ _ f0
        have v0 := hst.cell (Hp.cell_le l2 y0)
        have v1 := hst.cell (Hp.cell_le l2 y1)
        have v2 := hst.cell (Hp.cell_le l2 y2)
        have v3 := hst.cell (Hp.cell_le l2 y3)
        have v4 := hst.cell (Hp.cell_le l2 y4)
        have vl := World.block_lt_of_cell? _ _ v0
        have hT : tailErr ((r, s), q, D, Bt) 1 = if depErr ((r, s), q, D, Bt) ≠ 0 then depErr ((r, s), q, D, Bt) else tailErr ((r, s), q, D, Bt) (1 + 1) := rfl
        rw [hT] at hg
        clear hT hck
        by_cases he : depErr ((r, s), q, D, Bt) = 0
        · replace hg := hg.out
          rw [if_neg (by simpa using he)] at hg
          replace hg := Lib.hid hg
          change Calls _ _ _ _ (fun e w' => e = .returned (.int .i64 (depErr ((r, s), q, D, Bt))) ∧ _) at c
          rw [he] at c
          clear he
          go_wp2_with fail
          refine c.mono ?_
          rintro e w3 ⟨rfl, hb3⟩
          go_wp2_with fail
          go_roundw
          case rel => exact ⟨1 + 1, by omega, by go_num, hst.below hb3, hen.trans (bel_env hb3), hg⟩
          case measure => simp [intOf]
        · replace hg := hg.out
          rw [if_pos (by simpa using he)] at hg
          have hne : (depErr ((r, s), q, D, Bt) != 0) = true := by simpa using he
          change Calls _ _ _ _ (fun e w' => e = .returned (.int .i64 (depErr ((r, s), q, D, Bt))) ∧ _) at c
          clear he
          generalize depErr ((r, s), q, D, Bt) = E at *
          subst hg
          go_wp2_with fail
          refine c.mono ?_
          rintro e w3 ⟨rfl, hb3⟩
          go_wp2_with fail
          go_ret
          exact ⟨rfl, (((hst.below hb3).weaken l2).weaken l1).toBelow (hen.trans (bel_env hb3))⟩
      · have hck := hRd wr hst
        have c := hQ.out wr hck
        have f0 := hst.cell g2
        have fl := World.block_lt_of_cell? _ _ f0
        have v0 := hst.cell (Hp.cell_le l2 y0)
        have v1 := hst.cell (Hp.cell_le l2 y1)
        have v2 := hst.cell (Hp.cell_le l2 y2)
        have v3 := hst.cell (Hp.cell_le l2 y3)
        have v4 := hst.cell (Hp.cell_le l2 y4)
        have vl := World.block_lt_of_cell? _ _ v0
        have hT : tailErr ((r, s), q, D, Bt) 2 = if batchErr Bt ≠ 0 then batchErr Bt else tailErr ((r, s), q, D, Bt) (2 + 1) := by show batchErr Bt = _; by_cases h : batchErr Bt = 0 <;> simp [h, tailErr]
        rw [hT] at hg
        clear hT hck
        by_cases he : batchErr Bt = 0
        · replace hg := hg.out
          rw [if_neg (by simpa using he)] at hg
          replace hg := Lib.hid hg
          change Calls _ _ _ _ (fun e w' => e = .returned (.int .i64 (batchErr Bt)) ∧ _) at c
          rw [he] at c
          clear he
          go_wp2_with fail
          refine c.mono ?_
          rintro e w3 ⟨rfl, hb3⟩
          go_wp2_with fail
          go_roundw
          case rel => exact ⟨2 + 1, by omega, by go_num, hst.below hb3, hen.trans (bel_env hb3), hg⟩
          case measure => simp [intOf]
        · replace hg := hg.out
          rw [if_pos (by simpa using he)] at hg
          have hne : (batchErr Bt != 0) = true := by simpa using he
          change Calls _ _ _ _ (fun e w' => e = .returned (.int .i64 (batchErr Bt)) ∧ _) at c
          clear he
          generalize batchErr Bt = E at *
          subst hg
          go_wp2_with fail
          refine c.mono ?_
          rintro e w3 ⟨rfl, hb3⟩
          go_wp2_with fail
          go_ret
          exact ⟨rfl, (((hst.below hb3).weaken l2).weaken l1).toBelow (hen.trans (bel_env hb3))⟩
    · obtain rfl : k = 3 := by omega
      have hG2 : G = 0 := hg.out.symm
      subst hG2
      clear hg
      go_wp2_with fail
      go_ret
      exact ⟨rfl, ((hst.weaken l2).weaken l1).toBelow hen⟩
end Go.Proofs.YtcbckeoalmjcoaaGreat
