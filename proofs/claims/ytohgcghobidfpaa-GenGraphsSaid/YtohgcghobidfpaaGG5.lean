/- Joined texts: Batch, Ident. -/
import Derived.Shelf.SlSortCmp.WholeK
import Derived.Shelf.SlSortCmp.NoneTotal
import Derived.Ground.SlsfProg
import Derived.StillTailTactics
import Derived.Test.YtohgcghobidfpaaGG2
import Derived.Test.YtohgcghobidfpaaGG4
/- Batches: whether one may be; whether two are the same. -/
set_option linter.unusedVariables false
set_option linter.unusedSimpArgs false
namespace Go.Proofs.Ytohgcghobidfpaa
open Go.RowKit Go.Cw Go.Fl
attribute [local go_sem] run_store_float
def batchErr (l : List Cm) : Int := if 8 < l.length then 5 else errB (l.all cmOk) 12
theorem all_stepC {k : Nat} (l : List Cm) (h : k < l.length) : (l.drop k).all cmOk = (cmOk l[k] && (l.drop (k + 1)).all cmOk) := by
  rw [List.drop_eq_getElem_cons h, List.all_cons]
set_option maxRecDepth 100000 in
set_option maxHeartbeats 1600000 in
theorem batchCheck_any (A : Option Addr) (n c : Nat) (l : List Cm) (hw : ∀ x ∈ l, CmW x) (w : World) (hx : Rw w 3 (.slice A n c) (cml l)) :
    Calls Try.prog 72 #[.slice A n c] w fun e w' => e = .returned (.int .i64 (batchErr l)) ∧ Below w.heap.size w w' := by
  obtain ⟨A', n', c', hv, hl, hnc, hcM⟩ := hx.form
  cases hv
  rw [cml_len] at hl
  obtain rfl : n = l.length := by omega
  clear hl
  by_cases h8 : 8 < l.length
  · have hR : batchErr l = 5 := if_pos h8
    rw [hR]
    have h8I : (8 : Int) < (l.length : Int) := by omega
    clear hR
    go_enter Try.func72, Try.ntmps72
    go_wp2_with fail
    go_ret
    exact ⟨rfl, Below.refl _ _⟩
  · have hR : batchErr l = errB (l.all cmOk) 12 := if_neg h8
    rw [hR]
    have h8I : ¬ (8 : Int) < (l.length : Int) := by omega
    clear hR
    have hrd := hx.rd
    generalize hG : l.all cmOk = G at *
    replace hG := Lib.hid hG
    go_enter Try.func72, Try.ntmps72
    go_wp2_with fail
    go_loopw [11] (fun s11 wr => ∃ k : Nat, k ≤ l.length ∧ s11 = .int .i64 (k : Int) ∧ St (snap w) [] wr ∧ Env w wr ∧ Hid ((l.drop k).all cmOk = G)) (fun s11 _ => l.length - (intOf s11).toNat)
    case atStart => exact ⟨0, by omega, rfl, St.start w, Env.refl w, hG⟩
    case round =>
      obtain ⟨k, hk, rfl, hst, hen, hall⟩ := hrel
      clear hG
      by_cases hlt : k < l.length
      · obtain ⟨b, off, rfl, hcells⟩ := hrd.cells hst (by omega)
        have q0 := hcells _ _ (cml_get l k hlt).1
        have q1 := hcells _ _ (cml_get l k hlt).2.1
        have q2 := hcells _ _ (cml_get l k hlt).2.2
        rw [← Nat.add_assoc] at q1 q2
        have hc := hw _ (List.getElem_mem hlt)
        have hstep := all_stepC l hlt
        rw [hall.out] at hstep
        obtain ⟨x, HX⟩ : ∃ x, Hid (x = l[k]) := ⟨_, Lib.hid rfl⟩
        rw [← HX.out] at q0 q1 q2 hc hstep
        obtain ⟨kk, s, f⟩ := x
        simp only at q0 q1 q2
        have hst1 := hst.alloc (.cells #[.int .i64 kk, .string s, .float .f64 f] 47)
        have en1 := hen.alloc (.cells #[.int .i64 kk, .string s, .float .f64 f] 47)
        have hck := fun w => check_any (kk, s, f) hc w
        cases hok : cmOk (kk, s, f) with
        | true =>
          rw [hok] at hck hstep
          replace hck := Lib.hid hck
          replace hstep := Lib.hid hstep
          clear hcells hok
          go_wp2_with fail
          refine (hck.out _).mono ?_
          rintro e w2 ⟨rfl, hb2⟩
          rw [show errB true 12 = 0 from rfl]
          go_wp2_with fail
          go_roundw
          case rel => exact ⟨k + 1, by omega, by go_num, hst1.below hb2, en1.trans (bel_env hb2), Lib.hid (by have := hstep.out; rw [Bool.true_and] at this; exact this.symm)⟩
          case measure => simp [intOf]; omega
        | false =>
          rw [hok] at hck hstep
          replace hck := Lib.hid hck
          rw [Bool.false_and] at hstep
          subst hstep
          clear hcells hok
          go_wp2_with fail
          refine (hck.out _).mono ?_
          rintro e w2 ⟨rfl, hb2⟩
          rw [show errB false 12 = 12 from rfl]
          go_wp2_with fail
          go_ret
          exact ⟨rfl, (hst1.below hb2).toBelow (en1.trans (bel_env hb2))⟩
      · obtain rfl : k = l.length := by omega
        have hG2 := hall.out
        rw [List.drop_length] at hG2
        simp only [List.all_nil] at hG2
        subst hG2
        clear hall
        go_wp2_with fail
        go_ret
        exact ⟨rfl, hst.toBelow hen⟩
set_option maxRecDepth 100000 in
set_option maxHeartbeats 1600000 in
theorem refBatch_any (A : Option Addr) (n c : Nat) (l : List Cm) (hw : ∀ x ∈ l, CmW x) (w : World) (hx : Rw w 3 (.slice A n c) (cml l)) :
    Calls Try.prog 38 #[.slice A n c] w fun e w' => e = .returned (.int .i64 (batchErr l)) ∧ Below w.heap.size w w' := by
  obtain ⟨A', n', c', hv, hl, hnc, hcM⟩ := hx.form
  cases hv
  rw [cml_len] at hl
  obtain rfl : n = l.length := by omega
  clear hl
  by_cases h8 : 8 < l.length
  · have hR : batchErr l = 5 := if_pos h8
    rw [hR]
    have h8I : (8 : Int) < (l.length : Int) := by omega
    clear hR
    go_enter Try.func38, Try.ntmps38
    go_wp2_with fail
    go_ret
    exact ⟨rfl, Below.refl _ _⟩
  · have hR : batchErr l = errB (l.all cmOk) 12 := if_neg h8
    rw [hR]
    have h8I : ¬ (8 : Int) < (l.length : Int) := by omega
    clear hR
    have hrd := hx.rd
    generalize hG : l.all cmOk = G at *
    replace hG := Lib.hid hG
    go_enter Try.func38, Try.ntmps38
    go_wp2_with fail
    go_loopw [3] (fun s11 wr => ∃ k : Nat, k ≤ l.length ∧ s11 = .int .i64 (k : Int) ∧ St (snap w) [] wr ∧ Env w wr ∧ Hid ((l.drop k).all cmOk = G)) (fun s11 _ => l.length - (intOf s11).toNat)
    case atStart => exact ⟨0, by omega, rfl, St.start w, Env.refl w, hG⟩
    case round =>
      obtain ⟨k, hk, rfl, hst, hen, hall⟩ := hrel
      clear hG
      by_cases hlt : k < l.length
      · obtain ⟨b, off, rfl, hcells⟩ := hrd.cells hst (by omega)
        have q0 := hcells _ _ (cml_get l k hlt).1
        have q1 := hcells _ _ (cml_get l k hlt).2.1
        have q2 := hcells _ _ (cml_get l k hlt).2.2
        rw [← Nat.add_assoc] at q1 q2
        have hc := hw _ (List.getElem_mem hlt)
        have hstep := all_stepC l hlt
        rw [hall.out] at hstep
        obtain ⟨x, HX⟩ : ∃ x, Hid (x = l[k]) := ⟨_, Lib.hid rfl⟩
        rw [← HX.out] at q0 q1 q2 hc hstep
        obtain ⟨kk, s, f⟩ := x
        simp only at q0 q1 q2
        have hck := fun w => right6_any (kk, s, f) hc w
        cases hok : cmOk (kk, s, f) with
        | true =>
          rw [hok] at hck hstep
          replace hck := Lib.hid hck
          replace hstep := Lib.hid hstep
          clear hcells hok
          go_wp2_with fail
          refine (hck.out _).mono ?_
          rintro e w2 ⟨rfl, hb2⟩
          go_wp2_with fail
          go_roundw
          case rel => exact ⟨k + 1, by omega, by go_num, hst.below hb2, hen.trans (bel_env hb2), Lib.hid (by have := hstep.out; rw [Bool.true_and] at this; exact this.symm)⟩
          case measure => simp [intOf]; omega
        | false =>
          rw [hok] at hck hstep
          replace hck := Lib.hid hck
          rw [Bool.false_and] at hstep
          subst hstep
          clear hcells hok
          go_wp2_with fail
          refine (hck.out _).mono ?_
          rintro e w2 ⟨rfl, hb2⟩
          go_wp2_with fail
          go_ret
          exact ⟨rfl, (hst.below hb2).toBelow (hen.trans (bel_env hb2))⟩
      · obtain rfl : k = l.length := by omega
        have hG2 := hall.out
        rw [List.drop_length] at hG2
        simp only [List.all_nil] at hG2
        subst hG2
        clear hall
        go_wp2_with fail
        go_ret
        exact ⟨rfl, hst.toBelow hen⟩
def cmdsSame (a b : List Cm) : Bool := decide (a.length = b.length) && (a.zip b).all (fun p => cmSame p.1 p.2)
theorem zip_step (a b : List Cm) (k : Nat) (h : k < a.length) (h2 : k < b.length) : ((a.drop k).zip (b.drop k)).all (fun p => cmSame p.1 p.2) = (cmSame a[k] b[k] && ((a.drop (k + 1)).zip (b.drop (k + 1))).all (fun p => cmSame p.1 p.2)) := by
  rw [List.drop_eq_getElem_cons h, List.drop_eq_getElem_cons h2, List.zip_cons_cons, List.all_cons]
set_option maxRecDepth 100000 in
set_option maxHeartbeats 1600000 in
theorem refCmds_any (u v : Value) (xs ys : List Cm) (hwx : ∀ x ∈ xs, CmW x) (hwy : ∀ x ∈ ys, CmW x) (w : World) (hx : Rw w 3 u (cml xs)) (hy : Rw w 3 v (cml ys)) :
    Calls Try.prog 21 #[u, v] w fun e w' => e = .returned (.bool (cmdsSame xs ys)) ∧ Below w.heap.size w w' := by
  obtain ⟨A, n, c, rfl, hl, hnc, hcM⟩ := hx.form
  rw [cml_len] at hl
  obtain rfl : n = xs.length := by omega
  obtain ⟨A', n', c', rfl, hl', hnc', hcM'⟩ := hy.form
  rw [cml_len] at hl'
  obtain rfl : n' = ys.length := by omega
  clear hl hl'
  by_cases hlen : xs.length = ys.length
  · have bl : ((xs.length : Int) != (ys.length : Int)) = false := by rw [bne_eq_false_iff_eq]; omega
    have hR : cmdsSame xs ys = (xs.zip ys).all (fun p => cmSame p.1 p.2) := by unfold cmdsSame; rw [decide_eq_true hlen, Bool.true_and]
    rw [hR]
    clear hR
    have hrx := hx.rd
    have hry := hy.rd
    generalize hG : (xs.zip ys).all (fun p => cmSame p.1 p.2) = G at *
    replace hG := Lib.hid hG
    replace hlen := Lib.hid hlen
    go_enter Try.func21, Try.ntmps21
    go_wp2_with fail
    go_loopw [5] (fun s5 wr => ∃ k : Nat, k ≤ xs.length ∧ s5 = .int .i64 (k : Int) ∧ St (snap w) [] wr ∧ Env w wr ∧ Hid (((xs.drop k).zip (ys.drop k)).all (fun p => cmSame p.1 p.2) = G)) (fun s5 _ => xs.length - (intOf s5).toNat)
    case atStart => exact ⟨0, by omega, rfl, St.start w, Env.refl w, hG⟩
    case round =>
      obtain ⟨k, hk, rfl, hst, hen, hall⟩ := hrel
      clear hG
      by_cases hlt : k < xs.length
      · have hlt2 : k < ys.length := by rw [← hlen.out]; exact hlt
        obtain ⟨b, off, rfl, hcx⟩ := hrx.cells hst (by omega)
        obtain ⟨b', off', rfl, hcy⟩ := hry.cells hst (by omega)
        have q0 := hcx _ _ (cml_get xs k hlt).1
        have q1 := hcx _ _ (cml_get xs k hlt).2.1
        have q2 := hcx _ _ (cml_get xs k hlt).2.2
        have r0 := hcy _ _ (cml_get ys k hlt2).1
        have r1 := hcy _ _ (cml_get ys k hlt2).2.1
        have r2 := hcy _ _ (cml_get ys k hlt2).2.2
        rw [← Nat.add_assoc] at q1 q2 r1 r2
        have hwxk := hwx _ (List.getElem_mem hlt)
        have hwyk := hwy _ (List.getElem_mem hlt2)
        have hstep := zip_step xs ys k hlt hlt2
        rw [hall.out] at hstep
        obtain ⟨x, HX⟩ : ∃ x, Hid (x = xs[k]) := ⟨_, Lib.hid rfl⟩
        obtain ⟨y, HY⟩ : ∃ y, Hid (y = ys[k]) := ⟨_, Lib.hid rfl⟩
        rw [← HX.out] at q0 q1 q2 hwxk hstep
        rw [← HY.out] at r0 r1 r2 hwyk hstep
        obtain ⟨k1, s1, f1⟩ := x
        obtain ⟨k2, s2, f2⟩ := y
        simp only at q0 q1 q2 r0 r1 r2
        have hcs := fun w => cmSame_any (k1, s1, f1) (k2, s2, f2) hwxk hwyk w
        have hk0 : (0 : Int) ≤ (k : Int) := by omega
        have hkx : (k : Int) < (xs.length : Int) := by omega
        have hky : (k : Int) < (ys.length : Int) := by omega
        have hsd := hst.drew
        have en1 := hen.drew
        cases hok : cmSame (k1, s1, f1) (k2, s2, f2) with
        | true =>
          rw [hok, Bool.true_and] at hstep
          rw [hok] at hcs
          replace hcs := Lib.hid hcs
          replace hstep := Lib.hid hstep
          clear hcx hcy hok
          go_wp2_with fail
          go_still_tail 8, (by kernel_rfl)
          change wpList _ _ _ _ _ wr.drew
          go_wp2_with fail
          refine (hcs.out _).mono ?_
          rintro e w2 ⟨rfl, hb2⟩
          go_wp2_with fail
          go_roundw
          case rel => exact ⟨k + 1, by omega, by go_num, hsd.below hb2, en1.trans (bel_env hb2), Lib.hid hstep.out.symm⟩
          case measure => simp [intOf]; omega
        | false =>
          rw [hok, Bool.false_and] at hstep
          rw [hok] at hcs
          replace hcs := Lib.hid hcs
          subst hstep
          clear hcx hcy hok
          go_wp2_with fail
          go_still_tail 8, (by kernel_rfl)
          change wpList _ _ _ _ _ wr.drew
          go_wp2_with fail
          refine (hcs.out _).mono ?_
          rintro e w2 ⟨rfl, hb2⟩
          go_wp2_with fail
          go_ret
          exact ⟨rfl, (hsd.below hb2).toBelow (en1.trans (bel_env hb2))⟩
      · obtain rfl : k = xs.length := by omega
        have hG2 := hall.out
        rw [List.drop_length, List.zip_nil_left] at hG2
        simp only [List.all_nil] at hG2
        subst hG2
        clear hall
        go_wp2_with fail
        go_ret
        exact ⟨rfl, hst.toBelow hen⟩
  · have bl : ((xs.length : Int) != (ys.length : Int)) = true := by rw [bne_iff_ne]; omega
    have hR : cmdsSame xs ys = false := by unfold cmdsSame; rw [decide_eq_false hlen, Bool.false_and]
    rw [hR]
    clear hR
    replace hlen := Lib.hid hlen
    go_enter Try.func21, Try.ntmps21
    go_wp2_with fail
    go_ret
    exact ⟨rfl, Below.refl _ _⟩
end Go.Proofs.Ytohgcghobidfpaa

/- Ids compared and sorted by the program: contracts of ident.Compare and ident.Sorted. -/
set_option linter.unusedVariables false
set_option linter.unusedSimpArgs false
namespace Go.Proofs.Ytohgcghobidfpaa
open Go.RowKit Go.Cw Go.Sort Go.Shelf
attribute [local go_sem ↓] eql_id neq_id

def sortId_ren : Go.Shelf.Ren := ⟨fun | 6 => 28 | 15 => 45 | 14 => 44 | 28 => 68 | 29 => 69 | 20 => 60 | 21 => 61 | 22 => 62 | 23 => 63 | 24 => 64 | 25 => 65 | 26 => 66 | 27 => 67 | 46 => 82 | 47 => 83 | 48 => 84 | 49 => 85 | 50 => 86 | 57 => 93 | n => n, fun | 22 => 31 | 24 => 30 | 25 => 60 | 3 => 3 | 39 => 58 | 0 => 0 | 53 => 93 | 55 => 22 | 4 => 4 | 46 => 86 | 45 => 85 | 50 => 90 | 5 => 5 | 9 => 9 | 66 => 100 | 70 => 104 | 76 => 110 | 77 => 111 | n => n, fun | n => n⟩
theorem sortId : Go.Proofs.SlLaysF0.n6 Try.prog sortId_ren := {
  mixed := by kernel_rfl
  f6 := ⟨Try.f28.name, by decide, Try.func28.trans (congrArg some (by kernel_rfl))⟩
  f14 := ⟨Try.f44.name, by decide, Try.func44.trans (congrArg some (by kernel_rfl))⟩
  f15 := Try.func45.trans (congrArg some (by kernel_rfl))
  f20 := ⟨Try.f60.name, by decide, Try.func60.trans (congrArg some (by kernel_rfl))⟩
  f21 := ⟨Try.f61.name, by decide, Try.func61.trans (congrArg some (by kernel_rfl))⟩
  f22 := ⟨Try.f62.name, by decide, Try.func62.trans (congrArg some (by kernel_rfl))⟩
  f23 := ⟨Try.f63.name, by decide, Try.func63.trans (congrArg some (by kernel_rfl))⟩
  f24 := ⟨Try.f64.name, by decide, Try.func64.trans (congrArg some (by kernel_rfl))⟩
  f25 := ⟨Try.f65.name, by decide, Try.func65.trans (congrArg some (by kernel_rfl))⟩
  f26 := ⟨Try.f66.name, by decide, Try.func66.trans (congrArg some (by kernel_rfl))⟩
  f27 := ⟨Try.f67.name, by decide, Try.func67.trans (congrArg some (by kernel_rfl))⟩
  f28 := Try.func68.trans (congrArg some (by kernel_rfl))
  f29 := Try.func69.trans (congrArg some (by kernel_rfl))
  f46 := ⟨Try.f82.name, by decide, Try.func82.trans (congrArg some (by kernel_rfl))⟩
  f47 := Try.func83.trans (congrArg some (by kernel_rfl))
  f48 := Try.func84.trans (congrArg some (by kernel_rfl))
  f49 := ⟨Try.f85.name, by decide, Try.func85.trans (congrArg some (by kernel_rfl))⟩
  f50 := ⟨Try.f86.name, by decide, Try.func86.trans (congrArg some (by kernel_rfl))⟩
  f57 := ⟨Try.f93.name, by decide, Try.func93.trans (congrArg some (by kernel_rfl))⟩
  t0 := Try.underlying0
  a0 := Try.isAgg0
  z0 := Try.sizeOf0
  v0 := Try.zeroValue0
  t3 := Try.underlying3
  a3 := Try.isAgg3
  z3 := Try.sizeOf3
  v3 := Try.zeroValue3
  t4 := Try.underlying4
  a4 := Try.isAgg4
  z4 := Try.sizeOf4
  v4 := Try.zeroValue4
  t5 := Try.underlying5
  a5 := Try.isAgg5
  z5 := Try.sizeOf5
  v5 := Try.zeroValue5
  t9 := Try.underlying9
  a9 := Try.isAgg9
  z9 := Try.sizeOf9
  v9 := Try.zeroValue9
  t22 := Try.underlying31
  a22 := Try.isAgg31
  z22 := Try.sizeOf31
  v22 := Try.zeroValue31
  t25 := Try.underlying60
  a25 := Try.isAgg60
  z25 := Try.sizeOf60
  v25 := Try.zeroValue60
  t39 := Try.underlying58
  a39 := Try.isAgg58
  z39 := Try.sizeOf58
  v39 := Try.zeroValue58
  t45 := Try.underlying85
  a45 := Try.isAgg85
  z45 := Try.sizeOf85
  v45 := Try.zeroValue85
  t46 := Try.underlying86
  a46 := Try.isAgg86
  z46 := Try.sizeOf86
  v46 := Try.zeroValue86
  t50 := Try.underlying90
  a50 := Try.isAgg90
  z50 := Try.sizeOf90
  v50 := Try.zeroValue90
  t53 := Try.underlying93
  a53 := Try.isAgg93
  z53 := Try.sizeOf93
  v53 := Try.zeroValue93
  t55 := Try.underlying22
  a55 := Try.isAgg22
  z55 := Try.sizeOf22
  v55 := Try.zeroValue22
  t66 := Try.underlying100
  a66 := Try.isAgg100
  z66 := Try.sizeOf100
  v66 := Try.zeroValue100
  t70 := Try.underlying104
  a70 := Try.isAgg104
  z70 := Try.sizeOf104
  v70 := Try.zeroValue104
  t76 := Try.underlying110
  a76 := Try.isAgg110
  z76 := Try.sizeOf110
  v76 := Try.zeroValue110
  t77 := Try.underlying111
  a77 := Try.isAgg111
  z77 := Try.sizeOf111
  v77 := Try.zeroValue111 }

/-- How two numbers stand. -/
def cmpInt (x y : Int) : Int := if x < y then -1 else if y < x then 1 else 0
set_option maxRecDepth 100000 in
theorem isNaN_any (x : Int) (w : World) : Calls Try.prog 70 #[.int .i64 x] w fun e w' => e = .returned (.bool false) ∧ w = w' := by
  go_enter Try.func70, Try.ntmps70
  go_wp2
  go_ret
  exact ⟨by simp, rfl⟩
set_option maxRecDepth 100000 in
theorem cmpInt_any (x y : Int) (w : World) : Calls Try.prog 47 #[.int .i64 x, .int .i64 y] w fun e w' => e = .returned (.int .i64 (cmpInt x y)) ∧ w = w' := by
  go_enter Try.func47, Try.ntmps47
  go_wp2_with (go_at_call 70; refine (isNaN_any _ _).mono ?_; rintro e w' ⟨rfl, rfl⟩)
  all_goals (go_ret; refine ⟨?_, rfl⟩; unfold cmpInt; (repeat' split) <;> first | rfl | (exfalso; omega))
theorem cmpInt_still (x y : Int) (w : World) : Calls Try.prog 47 #[.int .i64 x, .int .i64 y] w fun e w' => e = .returned (.int .i64 (cmpInt x y)) ∧ w' = w := (cmpInt_any x y w).mono fun _ _ h => ⟨h.1, h.2.symm⟩
/-- The first number that is not zero. -/
def orInt (x y : Int) : Int := if x ≠ 0 then x else y
set_option maxRecDepth 100000 in
set_option maxHeartbeats 800000 in
theorem or_any (x y : Int) (b : Nat) (w : World) (h0 : w.cell? ⟨b, 0, none⟩ = some (.int .i64 x)) (h1 : w.cell? ⟨b, 1, none⟩ = some (.int .i64 y)) :
    Calls Try.prog 46 #[.slice (some ⟨b, 0, none⟩) 2 2] w fun e w' => e = .returned (.int .i64 (orInt x y)) ∧ ∃ q, w' = w.drewN q := by
  have bl := World.block_lt_of_cell? _ _ h0
  go_enter Try.func46, Try.ntmps46
  go_wp2_with fail
  go_loopw [8] (fun i wr => ∃ k : Nat, k ≤ 2 ∧ i = .int .i64 k ∧ Hid ((1 ≤ k → x = 0) ∧ (2 ≤ k → y = 0)) ∧ wr = w) (fun i _ => 2 - (intOf i).toNat)
  case atStart => exact ⟨0, by omega, rfl, Lib.hid ⟨by omega, by omega⟩, rfl⟩
  case round =>
    obtain ⟨k, hk, rfl, HI, rfl⟩ := hrel
    have hk3 : k = 0 ∨ k = 1 ∨ k = 2 := by omega
    rcases hk3 with rfl | rfl | rfl
    · by_cases hx : x = 0
      · have hx' : (x != 0) = false := bne_eq_false_iff_eq.2 hx
        have hx2 := Lib.hid hx
        clear hx
        go_wp2_with fail
        go_roundw
        case rel => exact ⟨1, by omega, by go_num, Lib.hid ⟨fun _ => hx2.out, by omega⟩, by first | rfl | trivial⟩
        case measure => simp [intOf]
      · have hx' : (x != 0) = true := bne_iff_ne.2 hx
        have hN : Hid (orInt x y = x) := Lib.hid (if_pos hx)
        go_wp2_with fail
        go_ret
        exact ⟨congrArg (fun x => Ending.returned (Value.int .i64 x)) hN.out.symm, 0, rfl⟩
    · have hx := HI.out.1 (by omega)
      by_cases hy : y = 0
      · have hy' : (y != 0) = false := bne_eq_false_iff_eq.2 hy
        have hx2 := Lib.hid (And.intro hx hy)
        clear hx hy
        go_wp2_with fail
        go_roundw
        case rel => exact ⟨2, by omega, by go_num, Lib.hid ⟨fun _ => hx2.out.1, fun _ => hx2.out.2⟩, by first | rfl | trivial⟩
        case measure => simp [intOf]
      · have hy' : (y != 0) = true := bne_iff_ne.2 hy
        have hN : Hid (orInt x y = y) := Lib.hid (if_neg (fun h => h hx))
        clear hx
        go_wp2_with fail
        go_ret
        exact ⟨congrArg (fun x => Ending.returned (Value.int .i64 x)) hN.out.symm, 0, rfl⟩
    · have hN : Hid (orInt x y = 0) := Lib.hid ((if_neg (fun h => h (HI.out.1 (by omega)))).trans (HI.out.2 (by omega)))
      go_wp2_with fail
      go_ret
      exact ⟨congrArg (fun x => Ending.returned (Value.int .i64 x)) hN.out.symm, 0, rfl⟩
def cmpId (a b : Id) : Int := orInt (cmpInt a.1 b.1) (cmpInt a.2 b.2)
theorem cmpId_eq (a b : Id) (h : idEq a.1 a.2 b.1 b.2 = true) : cmpId a b = 0 := by
  unfold idEq at h
  simp only [Bool.and_eq_true, beq_iff_eq] at h
  unfold cmpId orInt cmpInt
  simp [h.1, h.2]
set_option maxRecDepth 100000 in
set_option maxHeartbeats 800000 in
theorem compare_any (a b : Id) (w : World) :
    Calls Try.prog 29 #[idV a, idV b] w fun e w' => e = .returned (.int .i64 (cmpId a b)) ∧ ∃ q os', w' = grow (w.drewN q) os' := by
  by_cases hab : idEq a.1 a.2 b.1 b.2 = true
  · have hN := Lib.hid (cmpId_eq a b hab)
    go_enter Try.func29, Try.ntmps29
    go_wp2_with fail
    go_ret
    exact ⟨congrArg (fun x => Ending.returned (Value.int .i64 x)) hN.out.symm, 0, _, by rw [alloc_eq_grow, alloc_eq_grow, grow_grow]; rfl⟩
  · have hab := Bool.eq_false_iff.2 hab
    obtain ⟨W, hW⟩ : ∃ W, W = (w.alloc (.cells #[.int .i64 a.1, .int .i64 a.2] 30)).alloc (.cells #[.int .i64 b.1, .int .i64 b.2] 30) := ⟨_, rfl⟩
    have hg : W = grow w #[.cells #[.int .i64 a.1, .int .i64 a.2] 30, .cells #[.int .i64 b.1, .int .i64 b.2] 30] := by rw [hW, alloc_eq_grow, alloc_eq_grow, grow_grow]; rfl
    have hh0 : W.heap[w.heap.size]? = some (.cells #[.int .i64 a.1, .int .i64 a.2] 30) := by rw [hg]; simp [grow]
    have hh1 : W.heap[w.heap.size + 1]? = some (.cells #[.int .i64 b.1, .int .i64 b.2] 30) := by rw [hg]; simp [grow]
    have a0 : W.cell? ⟨w.heap.size, 0, none⟩ = some (.int .i64 a.1) := by simp [World.cell?, hh0]
    have a1 : W.cell? ⟨w.heap.size, 1, none⟩ = some (.int .i64 a.2) := by simp [World.cell?, hh0]
    have b0 : W.cell? ⟨w.heap.size + 1, 0, none⟩ = some (.int .i64 b.1) := by simp [World.cell?, hh1]
    have b1 : W.cell? ⟨w.heap.size + 1, 1, none⟩ = some (.int .i64 b.2) := by simp [World.cell?, hh1]
    have hsz : W.heap.size = w.heap.size + 2 := by rw [hg]; simp
    replace hg := Lib.hid hg
    clear hh0 hh1
    go_enter Try.func29, Try.ntmps29
    go_wp2_with fail
    rw [← hW]
    clear hW
    have hsz0 : w.heap.size < W.heap.size := by omega
    have hsz1 : w.heap.size + 1 < W.heap.size := by omega
    go_still_tail 10, (by kernel_rfl)
    still_call (cmpInt_still _ _ _)
    repeat still_step
    still_call (cmpInt_still _ _ _)
    refine wpStill_nil ?_
    change wpList _ _ _ _ _ (World.drew _)
    go_wp2_with fail
    have hv : (W.alloc (.cells #[.int .i64 (cmpInt a.1 b.1), .int .i64 (cmpInt a.2 b.2)] 3)).drew.heap[w.heap.size + 2]? = some (.cells #[.int .i64 (cmpInt a.1 b.1), .int .i64 (cmpInt a.2 b.2)] 3) := by
      rw [← hsz]
      exact heap_alloc_new W _
    refine (or_any (cmpInt a.1 b.1) (cmpInt a.2 b.2) _ _ (by simp [World.cell?, hv]) (by simp [World.cell?, hv])).mono ?_
    rintro e w3 ⟨rfl, q, rfl⟩
    go_wp2_with fail
    go_ret
    refine ⟨rfl, 1 + q, #[.cells #[.int .i64 a.1, .int .i64 a.2] 30, .cells #[.int .i64 b.1, .int .i64 b.2] 30] ++ #[.cells #[.int .i64 (cmpInt a.1 b.1), .int .i64 (cmpInt a.2 b.2)] 3], ?_⟩
    have hg := hg.out
    subst hg
    simp [grow, World.drewN, World.drew, World.alloc, Nat.add_assoc]
theorem cmpLays_id (blk off size : Nat) (w : World) : CmpLays Try.prog 29 #[] idc 2 cmpId blk off size w := fun _ _ _ _ x y => compare_any x y _
theorem ltOf_id (x y : Id) : ltOf cmpId x y = idLt x y := by
  unfold ltOf cmpId orInt cmpInt idLt
  by_cases h1 : x.1 = y.1
  · rw [if_pos h1]
    by_cases h2 : x.2 < y.2
    · simp [h1, h2]
    · by_cases h3 : y.2 < x.2 <;> simp [h1, h2, h3]
  · rw [if_neg h1]
    by_cases h2 : x.1 < y.1
    · simp [h2]
    · have h3 : y.1 < x.1 := by omega
      simp [h2, h3]
theorem idLt_iff (x y : Id) : idLt x y = true ↔ (x.1 < y.1 ∨ (x.1 = y.1 ∧ x.2 < y.2)) := by
  unfold idLt
  split
  · rename_i h; simp [h]
  · rename_i h; simp [h]
theorem idLt_no (x y : Id) : idLt x y = false ↔ ¬ (x.1 < y.1 ∨ (x.1 = y.1 ∧ x.2 < y.2)) := by rw [← idLt_iff]; simp
theorem swo_id : SWO (ltOf cmpId) where
  irrefl x := by rw [ltOf_id, idLt_no]; omega
  trans x y z h1 h2 := by rw [ltOf_id, idLt_iff] at *; omega
  ntrans x y z h1 h2 := by rw [ltOf_id, idLt_no] at *; omega
theorem total_id (x y : Id) (h1 : ltOf cmpId x y = false) (h2 : ltOf cmpId y x = false) : x = y := by
  rw [ltOf_id, idLt_no] at *
  exact Prod.ext (by omega) (by omega)
theorem flatK_eq {α : Type} [Inhabited α] (enc : α → List Value) (k : Nat) (h0 : 0 < k) (hk : ∀ x, (enc x).length = k) (l : List α) : flatK enc k l.toArray = (l.flatMap enc).toArray := by
  refine ext_get! (by simp [flat_len enc k hk]) (fun t ht => ?_)
  have ht' : t < l.length * k := by simpa using ht
  rw [get_flatK enc k _ t (by simpa using ht')]
  have hi : t / k < l.length := Nat.div_lt_of_lt_mul (by rw [Nat.mul_comm]; exact ht')
  have hr : t % k < k := Nat.mod_lt _ h0
  have := flat_get enc k hk l (t / k) (t % k) hi hr
  have e1 : t / k * k + t % k = t := Nat.div_add_mod' t k
  rw [e1] at this
  have e2 : l.toArray[t / k]! = l[t / k] := by simp [hi]
  rw [e2]
  simp only [List.getElem!_toArray, List.getElem!_eq_getElem?_getD, this]
theorem row_sort {H : Hp} {fr : List HA} {w : World} {e : TypeId} {g off n c : Nat} {l : List Id} (h : St H (Row e 2 (.slice (some ⟨g, off, none⟩) n c) (idl l) :: fr) w) (l' : List Id) (hl : l'.length = l.length) (m : Nat) (os : Array Obj) :
    St H (Row e 2 (.slice (some ⟨g, off, none⟩) n c) (idl l') :: fr) (sortWorldK idc 2 w g off m l'.toArray os) ∧ Env w (sortWorldK idc 2 w g off m l'.toArray os) := by
  have hsz : (sortWorldK idc 2 w g off m l'.toArray os).heap.size = w.heap.size + os.size := by simp [sortWorldK, putRowK, Sort.ahead]
  have hold : ∀ k, k < w.heap.size → (sortWorldK idc 2 w g off m l'.toArray os).heap[k]? = (w.heap.modify g (onCells (putCells id off (flatK idc 2 l'.toArray))))[k]? := fun k hk =>
    heap_grow_old _ os (by simpa [putRowK, Sort.ahead] using hk)
  refine ⟨h.turn (by omega) (fun S hS => ⟨S, ?_, fun k hk => .inl hk, fun k hk hn => ?_⟩), ⟨rfl, rfl, rfl, by omega⟩⟩
  · rcases hS with ⟨hv, _⟩ | ⟨g', off', n', cap, cur, hv, hlen, hc, hM, hh, hs, hj, hS⟩
    · cases hv
    · cases hv
      have hlt := (Array.getElem?_eq_some_iff.1 hh).1
      refine .inr ⟨g, off, n, c, putCells id off (flatK idc 2 l'.toArray) cur, rfl, by rw [idl_len] at hlen ⊢; omega, hc, hM, ?_, by unfold putCells; simpa using hs, fun j u hu => ?_, hS⟩
      · rw [hold g hlt, Array.getElem?_modify]
        simp [hh, onCells]
      · have hjl : j < (idl l').length := (List.getElem?_eq_some_iff.1 hu).1
        have hF : flatK idc 2 l'.toArray = (idl l').toArray := flatK_eq idc 2 (by omega) (fun _ => rfl) l'
        have hfs : (flatK idc 2 l'.toArray).size = (idl l').length := by rw [hF]; simp
        have hcs : off + j < cur.size := by
          rw [idl_len] at hlen hjl
          omega
        unfold putCells
        rw [Array.getElem?_mapIdx, Array.getElem?_eq_getElem hcs]
        simp only [Option.map_some]
        rw [if_pos ⟨Nat.le_add_right _ _, by omega⟩, hF]
        simp only [Nat.add_sub_cancel_left, id, List.getElem!_toArray, List.getElem!_eq_getElem?_getD, hu, Option.getD_some]
  · have hne : k ≠ g := fun e' => by
      rcases hS with ⟨hv, _⟩ | ⟨g', off', n', cap, cur, hv, hlen, hc, hM, hh, hs, hj, hS⟩
      · cases hv
      · cases hv
        exact hn ((hS k).2 e')
    rw [hold k hk, Array.getElem?_modify, if_neg (fun e' => hne e'.symm)]
/-- No two neighbours are one. -/
def Apart (l : List Id) : Prop := ∀ (k : Nat) (h : k + 1 < l.length), l[k + 1] ≠ l[k]
theorem apart_nodup {l : List Id} (h : l.Nodup) : Apart l := fun k hk he => (List.pairwise_iff_getElem.1 h k (k + 1) (by omega) hk (by omega)) he.symm
theorem idEq_no {a b : Id} (h : a ≠ b) : idEq a.1 a.2 b.1 b.2 = false := by
  unfold idEq
  rw [Bool.and_eq_false_iff]
  by_cases h1 : a.1 = b.1
  · right; exact beq_eq_false_iff_ne.2 (fun h2 => h (Prod.ext h1 h2))
  · left; exact beq_eq_false_iff_ne.2 h1
set_option maxRecDepth 100000 in
set_option maxHeartbeats 800000 in
theorem compact_apart (v : Value) (l : List Id) (w : World) (hx : Rw w 2 v (idl l)) (hap : Apart l) :
    Calls Try.prog 30 #[v] w fun e w' => e = .returned v ∧ Below w.heap.size w w' := by
  obtain ⟨A, n, c, rfl, hl, hn, hc⟩ := hx.form
  rw [idl_len] at hl
  obtain rfl : n = l.length := by omega
  clear hl
  rcases Nat.lt_or_ge l.length 2 with h2 | h2
  · have h2' : (l.length : Int) < 2 := by omega
    go_enter Try.func30, Try.ntmps30
    go_wp2_with fail
    go_ret
    exact ⟨rfl, Below.refl _ _⟩
  · have h2' : ¬ (l.length : Int) < 2 := by omega
    obtain ⟨b, off, rfl, hcx⟩ := hx.cells (by omega)
    go_enter Try.func30, Try.ntmps30
    go_wp2_with fail
    go_loopw [3] (fun i wr => ∃ k : Nat, 1 ≤ k ∧ k ≤ l.length ∧ i = .int .i64 k ∧ Below w.heap.size w wr) (fun i _ => l.length - (intOf i).toNat)
    case atStart => exact ⟨1, by omega, by omega, by go_num, Below.refl _ _⟩
    case round =>
      obtain ⟨k, hk1, hk, rfl, hb⟩ := hrel
      by_cases hlt : k < l.length
      · obtain ⟨m, rfl⟩ : ∃ m, k = m + 1 := ⟨k - 1, by omega⟩
        have hne := Lib.hid (idEq_no (hap m hlt))
        obtain ⟨b', off', hA, hcr⟩ := (hx.below hb).cells (by omega)
        cases hA
        have p1 := hcr _ _ (idl_fst l (m + 1) hlt)
        have p2 := hcr _ _ (idl_snd l (m + 1) hlt)
        have q1 := hcr _ _ (idl_fst l m (by omega))
        have q2 := hcr _ _ (idl_snd l m (by omega))
        rw [← Nat.add_assoc] at p2 q2
        obtain ⟨x, HX⟩ : ∃ x, Hid (x = l[m + 1]) := ⟨_, Lib.hid rfl⟩
        obtain ⟨y, HY⟩ : ∃ y, Hid (y = l[m]) := ⟨_, Lib.hid rfl⟩
        rw [← HX.out] at p1 p2
        rw [← HY.out] at q1 q2
        have hne' : idEq x.1 x.2 y.1 y.2 = false := by rw [HX.out, HY.out]; exact hne.out
        clear hcr hcx
        go_wp2_with fail
        go_quiet (fail)
        go_wp2_with fail
        go_roundw
        case rel => exact ⟨m + 1 + 1, by omega, by omega, by go_num, bel_drewN hb _⟩
        case measure => simp [intOf]; omega
      · go_wp2_with fail
        go_ret
        exact ⟨rfl, hb⟩
theorem below_self (w : World) (n : Nat) : Below w.heap.size w (w.drewN n) := bel_drewN (Below.refl _ _) n
/-- Ids in order. -/
def idSort (l : List Id) : List Id := l.mergeSort fun x y => !(ltOf cmpId) y x
theorem idSort_len (l : List Id) : (idSort l).length = l.length := by simp [idSort]
theorem holds_row {H : Hp} {fr : List HA} {w : World} {e : TypeId} {g off n c : Nat} {l : List Id} (h : St H (Row e 2 (.slice (some ⟨g, off, none⟩) n c) (idl l) :: fr) w) (hn : 0 < n) : HoldsK idc 2 w g off l.toArray ∧ g < w.heap.size := by
  obtain ⟨b, o, hA, hb, h1, h2⟩ := h.row_cells hn (by omega)
  cases hA
  refine ⟨fun j hj => ⟨?_, h2 j⟩, hb⟩
  rw [flatK_eq idc 2 (by omega) (fun _ => rfl) l] at hj ⊢
  have hj' : j < (idl l).length := by simpa [idl] using hj
  have := h1 j _ (List.getElem?_eq_getElem hj')
  rw [this]
  have e2 : (List.flatMap idc l).toArray[j]! = (idl l)[j] := by
    simp only [List.getElem!_toArray, List.getElem!_eq_getElem?_getD]
    rw [show List.flatMap idc l = idl l from rfl, List.getElem?_eq_getElem hj']
    rfl
  rw [e2]
  rfl
set_option maxRecDepth 100000 in
set_option maxHeartbeats 1600000 in
theorem identSorted_nodup (u : Value) (l : List Id) (w : World) (hx : Rw w 2 u (idl l)) (hnd : l.Nodup) (hlen : l.length * 16 ≤ 140737488355328) :
    Calls Try.prog 12 #[u] w (ResE (snap w) [] w (fun v => v) (fun v => [Row 30 2 v (idl (idSort l))])) := by
  obtain ⟨A, n, c, rfl, hl, hn, hc⟩ := hx.form
  rw [idl_len] at hl
  obtain rfl : n = l.length := by omega
  clear hl
  have eg : ∀ args w, (callFunc 29 args).run Try.prog w = .ok (.enter 29 args) w := enters_of Try.func29 (by kernel_rfl) rfl
  have h1 := (St.start w).row_lit 30 2 0 #[] rfl (by decide)
  go_enter Try.func12, Try.ntmps12
  go_wp2_with (at_builtin; refine wpList_append rfl (.tmp 4) (.tmp 5) 31 31 rfl Try.underlying31 (.inl ⟨_, Try.underlying31⟩) (.agg #[.int .i64 0, .int .i64 0]) 16 info_id rfl (by decide) (by decide) rfl rfl h1 (News.rw (hx.alloc _) (idl_one l)) ?apB ?apK)
  case apB => rw [idl_len]; omega
  intro v' w2 h2 en2
  obtain ⟨A', n', c', rfl, hl', hn', hc'⟩ := h2.row_form
  rw [idl_len] at hl'
  obtain rfl : n' = l.length := by omega
  have en2' := ((Env.refl w).alloc (.cells #[] 30)).trans en2
  rcases Nat.eq_zero_or_pos l.length with h0 | h0
  · have hl0 : l = [] := List.length_eq_zero_iff.1 h0
    subst hl0
    have hcon := AnyF.slices_SortFunc_none { sortId with } A' c' (.func (.func 29) #[] #[]) w2
    change Calls Try.prog 28 _ _ _ at hcon
    go_wp2_with fail
    refine hcon.mono ?_
    rintro e w3 ⟨rfl, rfl⟩
    go_wp2_with fail
    refine (compact_apart _ [] _ (h2.row_rw (by omega)) (fun k h => by simp at h)).mono ?_
    rintro e w4 ⟨rfl, hb4⟩
    go_wp2_with fail
    go_ret
    have e0 : idSort [] = [] := by simp [idSort]
    exact ⟨_, rfl, by rw [e0]; exact h2.below hb4, en2'.trans (bel_env hb4)⟩
  · obtain ⟨b, off, hA, _⟩ := h2.row_cells h0 (by omega)
    cases hA
    obtain ⟨hH, hlt⟩ := holds_row h2 h0
    have hcon := AnyQ.slices_SortFunc_total sortId 2 Try.isAgg30 Try.sizeOf30 idc (fun _ => rfl) (fun x v hv => by simp [idc] at hv; rcases hv with rfl | rfl <;> rfl) cmpId swo_id 29 #[] b off c' l.toArray w2 eg (cmpLays_id b off l.toArray.size w2) hH hlt (by simp; omega) total_id
    change Calls Try.prog 28 _ _ _ at hcon
    have hap : Apart (idSort l) := apart_nodup ((List.mergeSort_perm l _).nodup_iff.2 hnd)
    clear eg hH
    go_wp2_with fail
    refine hcon.mono ?_
    rintro e w3 ⟨rfl, m, os, rfl⟩
    have hs := row_sort h2 (idSort l) (idSort_len l) m os
    change St _ _ (sortWorldK idc 2 w2 b off m (l.toArray.toList.mergeSort fun x y => !(ltOf cmpId) y x).toArray os) ∧ Env w2 (sortWorldK idc 2 w2 b off m (l.toArray.toList.mergeSort fun x y => !(ltOf cmpId) y x).toArray os) at hs
    obtain ⟨h3, en3⟩ := hs
    generalize sortWorldK idc 2 w2 b off m (l.toArray.toList.mergeSort fun x y => !(ltOf cmpId) y x).toArray os = W at *
    go_wp2_with fail
    refine (compact_apart _ _ _ (h3.row_rw (by omega)) hap).mono ?_
    rintro e w4 ⟨rfl, hb4⟩
    go_wp2_with fail
    go_ret
    exact ⟨_, rfl, h3.below hb4, (en2'.trans en3).trans (bel_env hb4)⟩
end Go.Proofs.Ytohgcghobidfpaa
