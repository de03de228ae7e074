/- Records: whether one may be: the parts. -/
import Derived.Test.YtelmhcbdpimaaaaBatch
import Derived.Test.YtelmhcbdpimaaaaIdent
import Derived.Test.YtelmhcbdpimaaaaSorted
import Derived.Deep.RegionHeld3
set_option linter.unusedVariables false
set_option linter.unusedSimpArgs false
namespace Go.Proofs.Ytelmhcbdpimaaaa
open Go.RowKit Go.Cw Go.Fl
def idErr (a : Id) : Int := if 0 ≤ a.1 ∧ a.1 < 8 then (if 1 ≤ a.2 ∧ a.2 ≤ 1048576 then 0 else 8) else 7
theorem idErr_cases (a : Id) : (a.1 < 0 ∧ idErr a = 7) ∨ (¬ a.1 < 0 ∧ 8 ≤ a.1 ∧ idErr a = 7) ∨ (¬ a.1 < 0 ∧ ¬ 8 ≤ a.1 ∧ a.2 < 1 ∧ idErr a = 8) ∨ (¬ a.1 < 0 ∧ ¬ 8 ≤ a.1 ∧ ¬ a.2 < 1 ∧ 1048576 < a.2 ∧ idErr a = 8) ∨ (¬ a.1 < 0 ∧ ¬ 8 ≤ a.1 ∧ ¬ a.2 < 1 ∧ ¬ 1048576 < a.2 ∧ idErr a = 0) := by
  unfold idErr
  by_cases h1 : a.1 < 0
  · exact .inl ⟨h1, by rw [if_neg (by omega)]⟩
  · by_cases h2 : 8 ≤ a.1
    · exact .inr (.inl ⟨h1, h2, by rw [if_neg (by omega)]⟩)
    · by_cases h3 : a.2 < 1
      · exact .inr (.inr (.inl ⟨h1, h2, h3, by rw [if_pos (by omega), if_neg (by omega)]⟩))
      · by_cases h4 : 1048576 < a.2
        · exact .inr (.inr (.inr (.inl ⟨h1, h2, h3, h4, by rw [if_pos (by omega), if_neg (by omega)]⟩)))
        · exact .inr (.inr (.inr (.inr ⟨h1, h2, h3, h4, by rw [if_pos (by omega), if_pos (by omega)]⟩)))
set_option maxRecDepth 100000 in
set_option maxHeartbeats 800000 in
theorem identCheck_any (a : Id) (w : World) : Calls Try.prog 114 #[idV a] w fun e w' => e = .returned (.int .i64 (idErr a)) ∧ Below w.heap.size w w' := by
  obtain ⟨r, s⟩ := a
  have bel := boxBelow w (.cells #[.int .i64 r, .int .i64 s] 28)
  rcases idErr_cases (r, s) with ⟨h1, h⟩ | ⟨h1, h2, h⟩ | ⟨h1, h2, h3, h⟩ | ⟨h1, h2, h3, h4, h⟩ | ⟨h1, h2, h3, h4, h⟩ <;> simp only at h1 <;> (try simp only at h2) <;> (try simp only at h3) <;> (try simp only at h4) <;> rw [h] <;> clear h
  all_goals
    go_enter Try.func114, Try.ntmps114
    go_wp2_with fail
    go_ret
    exact ⟨rfl, bel⟩
set_option maxRecDepth 100000 in
set_option maxHeartbeats 800000 in
theorem refId_any (a : Id) (w : World) : Calls Try.prog 101 #[idV a] w fun e w' => e = .returned (.int .i64 (idErr a)) ∧ Below w.heap.size w w' := by
  have hR := right_any a
  have hok : Hid (idErr a = if a.1 < 0 ∨ 8 ≤ a.1 then 7 else if idOk a then 0 else 8) := Lib.hid (by
    unfold idErr idOk
    by_cases h1 : a.1 < 0 ∨ 8 ≤ a.1
    · rw [if_neg (by omega), if_pos h1]
    · rw [if_pos (by omega), if_neg h1]
      by_cases h2 : 1 ≤ a.2 ∧ a.2 ≤ 1048576
      · rw [if_pos h2, decide_eq_true (by omega)]; rfl
      · rw [if_neg h2, decide_eq_false (by omega)]; rfl)
  obtain ⟨r, s⟩ := a
  have bel := boxBelow w (.cells #[.int .i64 r, .int .i64 s] 28)
  by_cases h1 : r < 0
  · rw [hok.out, if_pos (.inl h1)]
    clear hok
    replace hR := Lib.hid hR
    go_enter Try.func101, Try.ntmps101
    go_wp2_with fail
    go_ret
    exact ⟨rfl, bel⟩
  · by_cases h2 : 7 < r
    · rw [hok.out, if_pos (.inr (by simp only; omega))]
      clear hok
      replace hR := Lib.hid hR
      go_enter Try.func101, Try.ntmps101
      go_wp2_with fail
      go_ret
      exact ⟨rfl, bel⟩
    · rw [hok.out, if_neg (by simp only; omega)]
      clear hok
      cases hi : idOk (r, s) with
      | true =>
        rw [hi] at hR
        replace hR := Lib.hid hR
        clear hi
        go_enter Try.func101, Try.ntmps101
        go_wp2_with fail
        refine (hR.out _).mono ?_
        rintro e w2 ⟨rfl, hb2⟩
        go_wp2_with fail
        go_ret
        exact ⟨rfl, bel.trans (hb2.mono (by simp))⟩
      | false =>
        rw [hi] at hR
        replace hR := Lib.hid hR
        clear hi
        go_enter Try.func101, Try.ntmps101
        go_wp2_with fail
        refine (hR.out _).mono ?_
        rintro e w2 ⟨rfl, hb2⟩
        go_wp2_with fail
        go_ret
        exact ⟨rfl, bel.trans (hb2.mono (by simp))⟩
/-- A record: its id, its Seq, its Deps' and its Batch's slices, and what these have. -/
abbrev Rc := Id × Int × Value × Value × List Id × List Cm
abbrev recV (x : Rc) : Value := .agg #[.int .i64 x.1.1, .int .i64 x.1.2, .int .i64 x.2.1, x.2.2.1, x.2.2.2.1]
def recc (x : Rc) : List Value := [.int .i64 x.1.1, .int .i64 x.1.2, .int .i64 x.2.1, x.2.2.1, x.2.2.2.1]
def recs (l : List Rc) : List Value := l.flatMap recc
theorem recs_len (l : List Rc) : (recs l).length = l.length * 5 := flat_len recc 5 (fun _ => rfl) l
theorem recs_get (l : List Rc) (k : Nat) (h : k < l.length) : (recs l)[k * 5]? = some (.int .i64 l[k].1.1) ∧ (recs l)[k * 5 + 1]? = some (.int .i64 l[k].1.2) ∧ (recs l)[k * 5 + 2]? = some (.int .i64 l[k].2.1) ∧ (recs l)[k * 5 + 3]? = some l[k].2.2.1 ∧ (recs l)[k * 5 + 4]? = some l[k].2.2.2.1 := by
  have := fun i hi => flat_get recc 5 (fun _ => rfl) l k i h hi
  exact ⟨this 0 (by omega), this 1 (by omega), this 2 (by omega), this 3 (by omega), this 4 (by omega)⟩
/-- A record without its memory. -/
abbrev Rp := Id × Int × List Id × List Cm
abbrev rp (x : Rc) : Rp := (x.1, x.2.1, x.2.2.2.2.1, x.2.2.2.2.2)
def aheadOf : Option Id → Id → Bool
  | none, _ => true
  | some q, d => idLt q d
/-- What is wrong with Deps, behind one. -/
def depsErr (own : Id) : Option Id → List Id → Int
  | _, [] => 0
  | p, d :: r => if idErr d ≠ 0 then idErr d else if d = own then 6 else if aheadOf p d then depsErr own (some d) r else 11
def ownErr (x : Rp) : Int := if idErr x.1 ≠ 0 then idErr x.1 else if 1 ≤ x.2.1 ∧ x.2.1 ≤ 1073741824 then 0 else 9
def depErr (x : Rp) : Int := if 16 < x.2.2.1.length then 10 else depsErr x.1 none x.2.2.1
def recErr (x : Rp) : Int := if ownErr x ≠ 0 then ownErr x else if depErr x ≠ 0 then depErr x else batchErr x.2.2.2
/-- A record's slices may be read, and what they have is such as Go has. -/
structure RcR (w : World) (x : Rc) : Prop where
  d : Rw w 2 x.2.2.1 (idl x.2.2.2.2.1)
  b : Rw w 3 x.2.2.2.1 (cml x.2.2.2.2.2)
  ok : ∀ c ∈ x.2.2.2.2.2, CmW c
theorem RcR.below {w w' : World} {x : Rc} (h : RcR w x) (hb : Below w.heap.size w w') : RcR w' x := ⟨h.d.below hb, h.b.below hb, h.ok⟩
set_option maxRecDepth 100000 in
set_option maxHeartbeats 1600000 in
theorem own_any (x : Rc) (w : World) (h : RcR w x) : Calls Try.prog 87 #[recV x] w fun e w' => e = .returned (.int .i64 (ownErr (rp x))) ∧ Below w.heap.size w w' := by
  obtain ⟨⟨r, s⟩, q, dv, bv, D, Bt⟩ := x
  obtain ⟨dA, dn, dc, hd, _⟩ := h.d.form
  obtain ⟨bA, bn, bc, hb, _⟩ := h.b.form
  simp only at hd hb
  subst hd hb
  clear h
  have bel := boxBelow w (.cells #[.int .i64 r, .int .i64 s, .int .i64 q, .slice dA dn dc, .slice bA bn bc] 128)
  have hI := identCheck_any (r, s) (w.alloc (.cells #[.int .i64 r, .int .i64 s, .int .i64 q, .slice dA dn dc, .slice bA bn bc] 128))
  by_cases hi : idErr (r, s) = 0
  · have hR : ownErr ((r, s), q, D, Bt) = if 1 ≤ q ∧ q ≤ 1073741824 then 0 else 9 := by unfold ownErr; rw [if_neg (by simpa using hi)]
    rw [hR]
    rw [hi] at hI
    clear hR hi
    have hbx := (St.start w).blk #[.int .i64 r, .int .i64 s, .int .i64 q, .slice dA dn dc, .slice bA bn bc] 128
    by_cases h1 : q < 1
    · rw [if_neg (by omega)]
      go_enter Try.func87, Try.ntmps87
      go_wp2_with fail
      refine hI.mono ?_
      rintro e w2 ⟨rfl, hb2⟩
      have hc2 := (hbx.below hb2).blk_cell 2
      go_wp2_with fail
      go_ret
      exact ⟨rfl, bel.trans (hb2.mono (by simp))⟩
    · by_cases h2 : 1073741824 < q
      · rw [if_neg (by omega)]
        go_enter Try.func87, Try.ntmps87
        go_wp2_with fail
        refine hI.mono ?_
        rintro e w2 ⟨rfl, hb2⟩
        have hc2 := (hbx.below hb2).blk_cell 2
        go_wp2_with fail
        go_ret
        exact ⟨rfl, bel.trans (hb2.mono (by simp))⟩
      · rw [if_pos (by omega)]
        go_enter Try.func87, Try.ntmps87
        go_wp2_with fail
        refine hI.mono ?_
        rintro e w2 ⟨rfl, hb2⟩
        have hc2 := (hbx.below hb2).blk_cell 2
        go_wp2_with fail
        go_ret
        exact ⟨rfl, bel.trans (hb2.mono (by simp))⟩
  · have hR : ownErr ((r, s), q, D, Bt) = idErr (r, s) := by unfold ownErr; rw [if_pos (by simpa using hi)]
    rw [hR]
    have hne : (idErr (r, s) != 0) = true := by simpa using hi
    clear hR hi
    generalize idErr (r, s) = E at *
    go_enter Try.func87, Try.ntmps87
    go_wp2_with fail
    refine hI.mono ?_
    rintro e w2 ⟨rfl, hb2⟩
    go_wp2_with fail
    go_ret
    exact ⟨rfl, bel.trans (hb2.mono (by simp))⟩
end Go.Proofs.Ytelmhcbdpimaaaa
