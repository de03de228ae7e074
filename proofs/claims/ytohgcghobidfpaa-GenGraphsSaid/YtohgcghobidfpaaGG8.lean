/- Joined texts: Rec, Conf. -/
import Derived.Deep.RegionHeld3
import Derived.Test.YtohgcghobidfpaaGG5
import Derived.Test.YtohgcghobidfpaaGG7
/- Records: whether one may be: the parts. -/
set_option linter.unusedVariables false
set_option linter.unusedSimpArgs false
namespace Go.Proofs.Ytohgcghobidfpaa
open Go.RowKit Go.Cw Go.Fl
def idErr (a : Id) : Int := if 0 ≤ a.1 ∧ a.1 < 8 then (if 1 ≤ a.2 ∧ a.2 ≤ 1048576 then 0 else 8) else 7
theorem idErr_cases (a : Id) : (a.1 < 0 ∧ idErr a = 7) ∨ (¬ a.1 < 0 ∧ 8 ≤ a.1 ∧ idErr a = 7) ∨ (¬ a.1 < 0 ∧ ¬ 8 ≤ a.1 ∧ a.2 < 1 ∧ idErr a = 8) ∨ (¬ a.1 < 0 ∧ ¬ 8 ≤ a.1 ∧ ¬ a.2 < 1 ∧ 1048576 < a.2 ∧ idErr a = 8) ∨ (¬ a.1 < 0 ∧ ¬ 8 ≤ a.1 ∧ ¬ a.2 < 1 ∧ ¬ 1048576 < a.2 ∧ idErr a = 0) := by
  unfold idErr
  by_cases h1 : a.1 < 0
  · exact .inl ⟨h1, by rw [if_neg (by omega)]⟩
  · by_cases h2 : 8 ≤ a.1
    · exact .inr (.inl ⟨h1, h2, by rw [if_neg (by omega)]⟩)
    · by_cases h3 : a.2 < 1
      · exact .inr (.inr (.inl ⟨h1, h2, h3, by rw [if_pos (by omega), if_neg (by omega)]⟩))
      · by_cases h4 : 1048576 < a.2
        · exact .inr (.inr (.inr (.inl ⟨h1, h2, h3, h4, by rw [if_pos (by omega), if_neg (by omega)]⟩)))
        · exact .inr (.inr (.inr (.inr ⟨h1, h2, h3, h4, by rw [if_pos (by omega), if_pos (by omega)]⟩)))
set_option maxRecDepth 100000 in
set_option maxHeartbeats 800000 in
theorem identCheck_any (a : Id) (w : World) : Calls Try.prog 71 #[idV a] w fun e w' => e = .returned (.int .i64 (idErr a)) ∧ Below w.heap.size w w' := by
  obtain ⟨r, s⟩ := a
  have bel := boxBelow w (.cells #[.int .i64 r, .int .i64 s] 30)
  rcases idErr_cases (r, s) with ⟨h1, h⟩ | ⟨h1, h2, h⟩ | ⟨h1, h2, h3, h⟩ | ⟨h1, h2, h3, h4, h⟩ | ⟨h1, h2, h3, h4, h⟩ <;> simp only at h1 <;> (try simp only at h2) <;> (try simp only at h3) <;> (try simp only at h4) <;> rw [h] <;> clear h
  all_goals
    go_enter Try.func71, Try.ntmps71
    go_wp2_with fail
    go_ret
    exact ⟨rfl, bel⟩
set_option maxRecDepth 100000 in
set_option maxHeartbeats 800000 in
theorem refId_any (a : Id) (w : World) : Calls Try.prog 36 #[idV a] w fun e w' => e = .returned (.int .i64 (idErr a)) ∧ Below w.heap.size w w' := by
  have hR := right_any a
  have hok : Hid (idErr a = if a.1 < 0 ∨ 8 ≤ a.1 then 7 else if idOk a then 0 else 8) := Lib.hid (by
    unfold idErr idOk
    by_cases h1 : a.1 < 0 ∨ 8 ≤ a.1
    · rw [if_neg (by omega), if_pos h1]
    · rw [if_pos (by omega), if_neg h1]
      by_cases h2 : 1 ≤ a.2 ∧ a.2 ≤ 1048576
      · rw [if_pos h2, decide_eq_true (by omega)]; rfl
      · rw [if_neg h2, decide_eq_false (by omega)]; rfl)
  obtain ⟨r, s⟩ := a
  have bel := boxBelow w (.cells #[.int .i64 r, .int .i64 s] 30)
  by_cases h1 : r < 0
  · rw [hok.out, if_pos (.inl h1)]
    clear hok
    replace hR := Lib.hid hR
    go_enter Try.func36, Try.ntmps36
    go_wp2_with fail
    go_ret
    exact ⟨rfl, bel⟩
  · by_cases h2 : 7 < r
    · rw [hok.out, if_pos (.inr (by simp only; omega))]
      clear hok
      replace hR := Lib.hid hR
      go_enter Try.func36, Try.ntmps36
      go_wp2_with fail
      go_ret
      exact ⟨rfl, bel⟩
    · rw [hok.out, if_neg (by simp only; omega)]
      clear hok
      cases hi : idOk (r, s) with
      | true =>
        rw [hi] at hR
        replace hR := Lib.hid hR
        clear hi
        go_enter Try.func36, Try.ntmps36
        go_wp2_with fail
        refine (hR.out _).mono ?_
        rintro e w2 ⟨rfl, hb2⟩
        go_wp2_with fail
        go_ret
        exact ⟨rfl, bel.trans (hb2.mono (by simp))⟩
      | false =>
        rw [hi] at hR
        replace hR := Lib.hid hR
        clear hi
        go_enter Try.func36, Try.ntmps36
        go_wp2_with fail
        refine (hR.out _).mono ?_
        rintro e w2 ⟨rfl, hb2⟩
        go_wp2_with fail
        go_ret
        exact ⟨rfl, bel.trans (hb2.mono (by simp))⟩
/-- A record: its id, its Seq, its Deps' and its Batch's slices, and what these have. -/
abbrev Rc := Id × Int × Value × Value × List Id × List Cm
abbrev recV (x : Rc) : Value := .agg #[.int .i64 x.1.1, .int .i64 x.1.2, .int .i64 x.2.1, x.2.2.1, x.2.2.2.1]
def recc (x : Rc) : List Value := [.int .i64 x.1.1, .int .i64 x.1.2, .int .i64 x.2.1, x.2.2.1, x.2.2.2.1]
def recs (l : List Rc) : List Value := l.flatMap recc
theorem recs_len (l : List Rc) : (recs l).length = l.length * 5 := flat_len recc 5 (fun _ => rfl) l
theorem recs_get (l : List Rc) (k : Nat) (h : k < l.length) : (recs l)[k * 5]? = some (.int .i64 l[k].1.1) ∧ (recs l)[k * 5 + 1]? = some (.int .i64 l[k].1.2) ∧ (recs l)[k * 5 + 2]? = some (.int .i64 l[k].2.1) ∧ (recs l)[k * 5 + 3]? = some l[k].2.2.1 ∧ (recs l)[k * 5 + 4]? = some l[k].2.2.2.1 := by
  have := fun i hi => flat_get recc 5 (fun _ => rfl) l k i h hi
  exact ⟨this 0 (by omega), this 1 (by omega), this 2 (by omega), this 3 (by omega), this 4 (by omega)⟩
/-- A record without its memory. -/
abbrev Rp := Id × Int × List Id × List Cm
abbrev rp (x : Rc) : Rp := (x.1, x.2.1, x.2.2.2.2.1, x.2.2.2.2.2)
def aheadOf : Option Id → Id → Bool
  | none, _ => true
  | some q, d => idLt q d
/-- What is wrong with Deps, behind one. -/
def depsErr (own : Id) : Option Id → List Id → Int
  | _, [] => 0
  | p, d :: r => if idErr d ≠ 0 then idErr d else if d = own then 6 else if aheadOf p d then depsErr own (some d) r else 11
def ownErr (x : Rp) : Int := if idErr x.1 ≠ 0 then idErr x.1 else if 1 ≤ x.2.1 ∧ x.2.1 ≤ 1073741824 then 0 else 9
def depErr (x : Rp) : Int := if 16 < x.2.2.1.length then 10 else depsErr x.1 none x.2.2.1
def recErr (x : Rp) : Int := if ownErr x ≠ 0 then ownErr x else if depErr x ≠ 0 then depErr x else batchErr x.2.2.2
/-- A record's slices may be read, and what they have is such as Go has. -/
structure RcR (w : World) (x : Rc) : Prop where
  d : Rw w 2 x.2.2.1 (idl x.2.2.2.2.1)
  b : Rw w 3 x.2.2.2.1 (cml x.2.2.2.2.2)
  ok : ∀ c ∈ x.2.2.2.2.2, CmW c
theorem RcR.below {w w' : World} {x : Rc} (h : RcR w x) (hb : Below w.heap.size w w') : RcR w' x := ⟨h.d.below hb, h.b.below hb, h.ok⟩
set_option maxRecDepth 100000 in
set_option maxHeartbeats 1600000 in
theorem own_any (x : Rc) (w : World) (h : RcR w x) : Calls Try.prog 48 #[recV x] w fun e w' => e = .returned (.int .i64 (ownErr (rp x))) ∧ Below w.heap.size w w' := by
  obtain ⟨⟨r, s⟩, q, dv, bv, D, Bt⟩ := x
  obtain ⟨dA, dn, dc, hd, _⟩ := h.d.form
  obtain ⟨bA, bn, bc, hb, _⟩ := h.b.form
  simp only at hd hb
  subst hd hb
  clear h
  have bel := boxBelow w (.cells #[.int .i64 r, .int .i64 s, .int .i64 q, .slice dA dn dc, .slice bA bn bc] 76)
  have hI := identCheck_any (r, s) (w.alloc (.cells #[.int .i64 r, .int .i64 s, .int .i64 q, .slice dA dn dc, .slice bA bn bc] 76))
  by_cases hi : idErr (r, s) = 0
  · have hR : ownErr ((r, s), q, D, Bt) = if 1 ≤ q ∧ q ≤ 1073741824 then 0 else 9 := by unfold ownErr; rw [if_neg (by simpa using hi)]
    rw [hR]
    rw [hi] at hI
    clear hR hi
    have hbx := (St.start w).blk #[.int .i64 r, .int .i64 s, .int .i64 q, .slice dA dn dc, .slice bA bn bc] 76
    by_cases h1 : q < 1
    · rw [if_neg (by omega)]
      go_enter Try.func48, Try.ntmps48
      go_wp2_with fail
      refine hI.mono ?_
      rintro e w2 ⟨rfl, hb2⟩
      have hc2 := (hbx.below hb2).blk_cell 2
      go_wp2_with fail
      go_ret
      exact ⟨rfl, bel.trans (hb2.mono (by simp))⟩
    · by_cases h2 : 1073741824 < q
      · rw [if_neg (by omega)]
        go_enter Try.func48, Try.ntmps48
        go_wp2_with fail
        refine hI.mono ?_
        rintro e w2 ⟨rfl, hb2⟩
        have hc2 := (hbx.below hb2).blk_cell 2
        go_wp2_with fail
        go_ret
        exact ⟨rfl, bel.trans (hb2.mono (by simp))⟩
      · rw [if_pos (by omega)]
        go_enter Try.func48, Try.ntmps48
        go_wp2_with fail
        refine hI.mono ?_
        rintro e w2 ⟨rfl, hb2⟩
        have hc2 := (hbx.below hb2).blk_cell 2
        go_wp2_with fail
        go_ret
        exact ⟨rfl, bel.trans (hb2.mono (by simp))⟩
  · have hR : ownErr ((r, s), q, D, Bt) = idErr (r, s) := by unfold ownErr; rw [if_pos (by simpa using hi)]
    rw [hR]
    have hne : (idErr (r, s) != 0) = true := by simpa using hi
    clear hR hi
    generalize idErr (r, s) = E at *
    go_enter Try.func48, Try.ntmps48
    go_wp2_with fail
    refine hI.mono ?_
    rintro e w2 ⟨rfl, hb2⟩
    go_wp2_with fail
    go_ret
    exact ⟨rfl, bel.trans (hb2.mono (by simp))⟩
end Go.Proofs.Ytohgcghobidfpaa

/- Conflicts of commands and batches. -/
set_option linter.unusedVariables false
set_option linter.unusedSimpArgs false
namespace Go.Proofs.Ytohgcghobidfpaa
open Go.RowKit Go.Cw Go.Fl
attribute [local go_sem ↓] eql_id neq_id
/-- A command writes. -/
def cmWr (c : Cm) : Bool := cmOk c && decide (c.1 ≠ 1)
/-- Two commands that may be conflict. -/
def cmCf (a b : Cm) : Bool := decide (a.2.1 = b.2.1) && (decide (a.1 ≠ 1) || decide (b.1 ≠ 1))
def cmConf (a b : Cm) : Bool := cmOk a && (cmOk b && cmCf a b)
/-- Two batches conflict. -/
def batConf (A B : List Cm) : Bool := A.any (fun x => B.any (fun y => cmConf x y))
set_option maxRecDepth 100000 in
set_option maxHeartbeats 1600000 in
theorem cmdWrites_any (c : Cm) (hc : CmW c) (w : World) : Calls Try.prog 88 #[cmV c] w fun e w' => e = .returned (.bool (cmWr c)) ∧ Below w.heap.size w w' := by
  have hC := fun w => check_any c hc w
  obtain ⟨R, hR⟩ : ∃ R, Hid (cmWr c = R) := ⟨_, Lib.hid rfl⟩
  rw [hR.out]
  have hR2 := hR.out
  unfold cmWr at hR2
  obtain ⟨k, s, n⟩ := c
  obtain ⟨H1, l1, h1, y⟩ := (St.start w).box #[.int .i64 k, .string s, .float .f64 n] 47
  have y0 := y 0 _ rfl
  have u0 := h1.cell y0
  have u1 := h1.cell (y 1 _ rfl)
  have u2 := h1.cell (y 2 _ rfl)
  have ul := World.block_lt_of_cell? _ _ u0
  have bel1 := boxBelow w (.cells #[.int .i64 k, .string s, .float .f64 n] 47)
  clear y hc
  by_cases ho : cmOk (k, s, n) = true
  · rw [ho] at hC hR2
    simp only [Bool.true_and] at hR2
    replace hC := Lib.hid hC
    clear ho hR
    by_cases hk : k = 1
    · obtain rfl : R = false := by rw [← hR2]; simp [hk]
      subst hk
      clear hR2
      go_enter Try.func88, Try.ntmps88
      go_wp2_with fail
      refine (hC.out _).mono ?_
      rintro e w2 ⟨rfl, hb2⟩
      have v0 := (h1.below hb2).cell y0
      have vl := World.block_lt_of_cell? _ _ v0
      clear u0 u1 u2 ul
      simp only [errB]
      go_wp2_with fail
      go_ret
      exact ⟨rfl, bel1.trans (hb2.mono bel1.size)⟩
    · obtain rfl : R = true := by rw [← hR2]; simp [hk]
      have hk1 : (k != 1) = true := by simpa using hk
      clear hR2 hk
      go_enter Try.func88, Try.ntmps88
      go_wp2_with fail
      refine (hC.out _).mono ?_
      rintro e w2 ⟨rfl, hb2⟩
      have v0 := (h1.below hb2).cell y0
      have vl := World.block_lt_of_cell? _ _ v0
      clear u0 u1 u2 ul
      simp only [errB]
      go_wp2_with fail
      go_ret
      exact ⟨rfl, bel1.trans (hb2.mono bel1.size)⟩
  · have ho' : cmOk (k, s, n) = false := by simpa using ho
    rw [ho'] at hC hR2
    simp only [Bool.false_and] at hR2
    subst hR2
    replace hC := Lib.hid hC
    clear ho ho' hR
    go_enter Try.func88, Try.ntmps88
    go_wp2_with fail
    refine (hC.out _).mono ?_
    rintro e w2 ⟨rfl, hb2⟩
    have v0 := (h1.below hb2).cell y0
    have vl := World.block_lt_of_cell? _ _ v0
    clear u0 u1 u2 ul
    simp only [errB]
    go_wp2_with fail
    go_ret
    exact ⟨rfl, bel1.trans (hb2.mono bel1.size)⟩
/-- Two boxes for commands. -/
theorem twoCm (a b : Cm) (w : World) : ∃ W, W = (w.alloc (.cells #[.int .i64 a.1, .string a.2.1, .float .f64 a.2.2] 47)).alloc (.cells #[.int .i64 b.1, .string b.2.1, .float .f64 b.2.2] 47) ∧ Below w.heap.size w W ∧
    ∃ H, St H [] W ∧ H.cell w.heap.size 0 = some (.int .i64 a.1) ∧ H.cell w.heap.size 1 = some (.string a.2.1) ∧ H.cell w.heap.size 2 = some (.float .f64 a.2.2) ∧ H.cell (w.heap.size + 1) 0 = some (.int .i64 b.1) ∧ H.cell (w.heap.size + 1) 1 = some (.string b.2.1) ∧ H.cell (w.heap.size + 1) 2 = some (.float .f64 b.2.2) := by
  obtain ⟨H1, l1, h1, y⟩ := (St.start w).box #[.int .i64 a.1, .string a.2.1, .float .f64 a.2.2] 47
  obtain ⟨H2, l2, h2, z⟩ := h1.box #[.int .i64 b.1, .string b.2.1, .float .f64 b.2.2] 47
  have e1 : (w.alloc (.cells #[.int .i64 a.1, .string a.2.1, .float .f64 a.2.2] 47)).heap.size = w.heap.size + 1 := by simp
  rw [e1] at z
  exact ⟨_, rfl, ((Below.refl _ _).alloc (Nat.le_refl _) _).alloc (by simp) _, H2, h2, Hp.cell_le l2 (y 0 _ rfl), Hp.cell_le l2 (y 1 _ rfl), Hp.cell_le l2 (y 2 _ rfl), z 0 _ rfl, z 1 _ rfl, z 2 _ rfl⟩
set_option maxRecDepth 100000 in
set_option maxHeartbeats 3200000 in
theorem cmdConf_any (a b : Cm) (ha : CmW a) (hb : CmW b) (w : World) : Calls Try.prog 76 #[cmV a, cmV b] w fun e w' => e = .returned (.bool (cmConf a b)) ∧ Below w.heap.size w w' := by
  have hCa := fun w => check_any a ha w
  have hCb := fun w => check_any b hb w
  have hWa := fun w => cmdWrites_any a ha w
  have hWb := fun w => cmdWrites_any b hb w
  obtain ⟨W, hW, bel, H, h1, y0, y1, y2, z0, z1, z2⟩ := twoCm a b w
  obtain ⟨R, hR⟩ : ∃ R, cmConf a b = R := ⟨_, rfl⟩
  rw [hR]
  unfold cmConf cmCf at hR
  obtain ⟨k, s, n⟩ := a
  obtain ⟨k', s', n'⟩ := b
  simp only at hR hW y0 y1 y2 z0 z1 z2
  subst hW
  clear ha hb
  have v0 := h1.cell y0
  have v1 := h1.cell y1
  have v2 := h1.cell y2
  have x0 := h1.cell z0
  have x1 := h1.cell z1
  have x2 := h1.cell z2
  have vl := World.block_lt_of_cell? _ _ v0
  have xl := World.block_lt_of_cell? _ _ x0
  by_cases ho : cmOk (k, s, n) = true
  · rw [ho, Bool.true_and] at hR
    unfold cmWr at hWa
    rw [ho] at hCa hWa
    replace hCa := Lib.hid hCa
    clear ho
    by_cases ho : cmOk (k', s', n') = true
    · rw [ho, Bool.true_and] at hR
      unfold cmWr at hWb
      rw [ho] at hCb hWb
      replace hCb := Lib.hid hCb
      clear ho
      simp only [Bool.true_and] at hWa hWb
      by_cases hs : s = s'
      · subst hs
        rw [decide_eq_true rfl, Bool.true_and] at hR
        by_cases hk : k = 1
        · rw [decide_eq_false (by simpa using hk)] at hR hWa
          rw [Bool.false_or] at hR
          rw [hR] at hWb
          replace hWa := Lib.hid hWa
          replace hWb := Lib.hid hWb
          clear hk hR
          go_enter Try.func76, Try.ntmps76
          go_wp2_with fail
          refine (hCa.out _).mono ?_
          rintro e w2 ⟨rfl, hb2⟩
          have h2 := h1.below hb2
          clear v0 v1 v2 x0 x1 x2 vl xl
          have v0 := h2.cell y0
          have v1 := h2.cell y1
          have v2 := h2.cell y2
          have x0 := h2.cell z0
          have x1 := h2.cell z1
          have x2 := h2.cell z2
          have vl := World.block_lt_of_cell? _ _ v0
          have xl := World.block_lt_of_cell? _ _ x0
          simp only [errB]
          go_wp2_with fail
          refine (hCb.out _).mono ?_
          rintro e w3 ⟨rfl, hb3⟩
          have h3 := h2.below hb3
          clear v0 v1 v2 x0 x1 x2 vl xl
          have v0 := h3.cell y0
          have v1 := h3.cell y1
          have v2 := h3.cell y2
          have x0 := h3.cell z0
          have x1 := h3.cell z1
          have x2 := h3.cell z2
          have vl := World.block_lt_of_cell? _ _ v0
          have xl := World.block_lt_of_cell? _ _ x0
          simp only [errB]
          go_wp2_with fail
          refine (hWa.out _).mono ?_
          rintro e w4 ⟨rfl, hb4⟩
          have h4 := h3.below hb4
          clear v0 v1 v2 x0 x1 x2 vl xl
          have v0 := h4.cell y0
          have v1 := h4.cell y1
          have v2 := h4.cell y2
          have x0 := h4.cell z0
          have x1 := h4.cell z1
          have x2 := h4.cell z2
          have vl := World.block_lt_of_cell? _ _ v0
          have xl := World.block_lt_of_cell? _ _ x0
          go_wp2_with fail
          refine (hWb.out _).mono ?_
          rintro e w5 ⟨rfl, hb5⟩
          go_wp2_with fail
          go_ret
          exact ⟨rfl, (((bel.trans (hb2.mono bel.size)).trans (hb3.mono (Nat.le_trans bel.size hb2.size))).trans (hb4.mono (Nat.le_trans bel.size (Nat.le_trans hb2.size hb3.size)))).trans (hb5.mono (Nat.le_trans bel.size (Nat.le_trans hb2.size (Nat.le_trans hb3.size hb4.size))))⟩
        · rw [decide_eq_true (by simpa using hk)] at hR hWa
          rw [Bool.true_or] at hR
          subst hR
          replace hWa := Lib.hid hWa
          clear hk hWb
          go_enter Try.func76, Try.ntmps76
          go_wp2_with fail
          refine (hCa.out _).mono ?_
          rintro e w2 ⟨rfl, hb2⟩
          have h2 := h1.below hb2
          clear v0 v1 v2 x0 x1 x2 vl xl
          have v0 := h2.cell y0
          have v1 := h2.cell y1
          have v2 := h2.cell y2
          have x0 := h2.cell z0
          have x1 := h2.cell z1
          have x2 := h2.cell z2
          have vl := World.block_lt_of_cell? _ _ v0
          have xl := World.block_lt_of_cell? _ _ x0
          simp only [errB]
          go_wp2_with fail
          refine (hCb.out _).mono ?_
          rintro e w3 ⟨rfl, hb3⟩
          have h3 := h2.below hb3
          clear v0 v1 v2 x0 x1 x2 vl xl
          have v0 := h3.cell y0
          have v1 := h3.cell y1
          have v2 := h3.cell y2
          have x0 := h3.cell z0
          have x1 := h3.cell z1
          have x2 := h3.cell z2
          have vl := World.block_lt_of_cell? _ _ v0
          have xl := World.block_lt_of_cell? _ _ x0
          simp only [errB]
          go_wp2_with fail
          refine (hWa.out _).mono ?_
          rintro e w4 ⟨rfl, hb4⟩
          go_wp2_with fail
          go_ret
          exact ⟨rfl, ((bel.trans (hb2.mono bel.size)).trans (hb3.mono (Nat.le_trans bel.size hb2.size))).trans (hb4.mono (Nat.le_trans bel.size (Nat.le_trans hb2.size hb3.size)))⟩
      · rw [decide_eq_false hs, Bool.false_and] at hR
        subst hR
        have hs2 : ¬ s.toList = s'.toList := fun h => hs (ba_ext h)
        clear hs hWa hWb
        go_enter Try.func76, Try.ntmps76
        go_wp2_with fail
        refine (hCa.out _).mono ?_
        rintro e w2 ⟨rfl, hb2⟩
        have h2 := h1.below hb2
        clear v0 v1 v2 x0 x1 x2 vl xl
        have v0 := h2.cell y0
        have v1 := h2.cell y1
        have v2 := h2.cell y2
        have x0 := h2.cell z0
        have x1 := h2.cell z1
        have x2 := h2.cell z2
        have vl := World.block_lt_of_cell? _ _ v0
        have xl := World.block_lt_of_cell? _ _ x0
        simp only [errB]
        go_wp2_with fail
        refine (hCb.out _).mono ?_
        rintro e w3 ⟨rfl, hb3⟩
        have h3 := h2.below hb3
        clear v0 v1 v2 x0 x1 x2 vl xl
        have v0 := h3.cell y0
        have v1 := h3.cell y1
        have v2 := h3.cell y2
        have x0 := h3.cell z0
        have x1 := h3.cell z1
        have x2 := h3.cell z2
        have vl := World.block_lt_of_cell? _ _ v0
        have xl := World.block_lt_of_cell? _ _ x0
        simp only [errB]
        go_wp2_with fail
        go_ret
        exact ⟨rfl, (bel.trans (hb2.mono bel.size)).trans (hb3.mono (Nat.le_trans bel.size hb2.size))⟩
    · have ho' : cmOk (k', s', n') = false := by simpa using ho
      rw [ho', Bool.false_and] at hR
      subst hR
      rw [ho'] at hCb
      replace hCb := Lib.hid hCb
      clear ho ho' hWa hWb
      go_enter Try.func76, Try.ntmps76
      go_wp2_with fail
      refine (hCa.out _).mono ?_
      rintro e w2 ⟨rfl, hb2⟩
      have h2 := h1.below hb2
      clear v0 v1 v2 x0 x1 x2 vl xl
      have v0 := h2.cell y0
      have v1 := h2.cell y1
      have v2 := h2.cell y2
      have x0 := h2.cell z0
      have x1 := h2.cell z1
      have x2 := h2.cell z2
      have vl := World.block_lt_of_cell? _ _ v0
      have xl := World.block_lt_of_cell? _ _ x0
      simp only [errB]
      go_wp2_with fail
      refine (hCb.out _).mono ?_
      rintro e w3 ⟨rfl, hb3⟩
      simp only [errB]
      go_wp2_with fail
      go_ret
      exact ⟨rfl, (bel.trans (hb2.mono bel.size)).trans (hb3.mono (Nat.le_trans bel.size hb2.size))⟩
  · have ho' : cmOk (k, s, n) = false := by simpa using ho
    rw [ho', Bool.false_and] at hR
    subst hR
    rw [ho'] at hCa
    replace hCa := Lib.hid hCa
    clear ho ho' hWa hWb hCb
    go_enter Try.func76, Try.ntmps76
    go_wp2_with fail
    refine (hCa.out _).mono ?_
    rintro e w2 ⟨rfl, hb2⟩
    simp only [errB]
    go_wp2_with fail
    go_ret
    exact ⟨rfl, bel.trans (hb2.mono bel.size)⟩
set_option maxRecDepth 100000 in
set_option maxHeartbeats 1600000 in
theorem refConf_any (a b : Cm) (w : World) : Calls Try.prog 59 #[cmV a, cmV b] w fun e w' => e = .returned (.bool (cmCf a b)) ∧ Below w.heap.size w w' := by
  obtain ⟨W, hW, bel, H, h1, y0, y1, y2, z0, z1, z2⟩ := twoCm a b w
  obtain ⟨R, hR⟩ : ∃ R, cmCf a b = R := ⟨_, rfl⟩
  rw [hR]
  unfold cmCf at hR
  obtain ⟨k, s, n⟩ := a
  obtain ⟨k', s', n'⟩ := b
  simp only at hR hW y0 y1 y2 z0 z1 z2
  subst hW
  have v0 := h1.cell y0
  have v1 := h1.cell y1
  have v2 := h1.cell y2
  have x0 := h1.cell z0
  have x1 := h1.cell z1
  have x2 := h1.cell z2
  have vl := World.block_lt_of_cell? _ _ v0
  have xl := World.block_lt_of_cell? _ _ x0
  by_cases hs : s = s'
  · subst hs
    rw [decide_eq_true rfl, Bool.true_and] at hR
    by_cases hk : k = 1
    · rw [decide_eq_false (by simpa using hk), Bool.false_or] at hR
      subst hk
      by_cases hk2 : k' = 1
      · rw [decide_eq_false (by simpa using hk2)] at hR
        subst hk2 hR
        go_enter Try.func59, Try.ntmps59
        go_wp2_with fail
        go_ret
        exact ⟨rfl, bel⟩
      · rw [decide_eq_true (by simpa using hk2)] at hR
        subst hR
        have hk3 : (k' != 1) = true := by simpa using hk2
        clear hk2
        go_enter Try.func59, Try.ntmps59
        go_wp2_with fail
        go_ret
        exact ⟨rfl, bel⟩
    · rw [decide_eq_true (by simpa using hk), Bool.true_or] at hR
      subst hR
      have hk3 : (k != 1) = true := by simpa using hk
      clear hk
      go_enter Try.func59, Try.ntmps59
      go_wp2_with fail
      go_ret
      exact ⟨rfl, bel⟩
  · rw [decide_eq_false hs, Bool.false_and] at hR
    subst hR
    have hs2 : ¬ s.toList = s'.toList := fun h => hs (ba_ext h)
    clear hs
    go_enter Try.func59, Try.ntmps59
    go_wp2_with fail
    go_ret
    exact ⟨rfl, bel⟩
end Go.Proofs.Ytohgcghobidfpaa
