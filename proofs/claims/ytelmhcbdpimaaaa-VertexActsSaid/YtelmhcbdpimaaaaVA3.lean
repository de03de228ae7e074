/- Joined texts: Batch, Ident, Maps. -/
import Derived.Shelf.SlSortCmp.WholeK
import Derived.Shelf.SlSortCmp.NoneTotal
import Derived.Ground.SlsfProg
import Derived.StillTailTactics
import Derived.Maps.RangeWalk
import Derived.Carry
import Derived.Test.YtelmhcbdpimaaaaVA1
import Derived.Test.YtelmhcbdpimaaaaVA2
/- Batches: whether one may be; whether two are the same. -/
set_option linter.unusedVariables false
set_option linter.unusedSimpArgs false
namespace Go.Proofs.Ytelmhcbdpimaaaa
open Go.RowKit Go.Cw Go.Fl
attribute [local go_sem] run_store_float
def batchErr (l : List Cm) : Int := if 8 < l.length then 5 else errB (l.all cmOk) 12
theorem all_stepC {k : Nat} (l : List Cm) (h : k < l.length) : (l.drop k).all cmOk = (cmOk l[k] && (l.drop (k + 1)).all cmOk) := by
  rw [List.drop_eq_getElem_cons h, List.all_cons]
set_option maxRecDepth 100000 in
set_option maxHeartbeats 1600000 in
theorem batchCheck_any (A : Option Addr) (n c : Nat) (l : List Cm) (hw : ∀ x ∈ l, CmW x) (w : World) (hx : Rw w 3 (.slice A n c) (cml l)) :
    Calls Try.prog 116 #[.slice A n c] w fun e w' => e = .returned (.int .i64 (batchErr l)) ∧ Below w.heap.size w w' := by
  obtain ⟨A', n', c', hv, hl, hnc, hcM⟩ := hx.form
  cases hv
  rw [cml_len] at hl
  obtain rfl : n = l.length := by omega
  clear hl
  by_cases h8 : 8 < l.length
  · have hR : batchErr l = 5 := if_pos h8
    rw [hR]
    have h8I : (8 : Int) < (l.length : Int) := by omega
    clear hR
    go_enter Try.func116, Try.ntmps116
    go_wp2_with fail
    go_ret
    exact ⟨rfl, Below.refl _ _⟩
  · have hR : batchErr l = errB (l.all cmOk) 12 := if_neg h8
    rw [hR]
    have h8I : ¬ (8 : Int) < (l.length : Int) := by omega
    clear hR
    have hrd := hx.rd
    generalize hG : l.all cmOk = G at *
    replace hG := Lib.hid hG
    go_enter Try.func116, Try.ntmps116
    go_wp2_with fail
    go_loopw [11] (fun s11 wr => ∃ k : Nat, k ≤ l.length ∧ s11 = .int .i64 (k : Int) ∧ St (snap w) [] wr ∧ Env w wr ∧ Hid ((l.drop k).all cmOk = G)) (fun s11 _ => l.length - (intOf s11).toNat)
    case atStart => exact ⟨0, by omega, rfl, St.start w, Env.refl w, hG⟩
    case round =>
      obtain ⟨k, hk, rfl, hst, hen, hall⟩ := hrel
      clear hG
      by_cases hlt : k < l.length
      · obtain ⟨b, off, rfl, hcells⟩ := hrd.cells hst (by omega)
        have q0 := hcells _ _ (cml_get l k hlt).1
        have q1 := hcells _ _ (cml_get l k hlt).2.1
        have q2 := hcells _ _ (cml_get l k hlt).2.2
        rw [← Nat.add_assoc] at q1 q2
        have hc := hw _ (List.getElem_mem hlt)
        have hstep := all_stepC l hlt
        rw [hall.out] at hstep
        obtain ⟨x, HX⟩ : ∃ x, Hid (x = l[k]) := ⟨_, Lib.hid rfl⟩
        rw [← HX.out] at q0 q1 q2 hc hstep
        obtain ⟨kk, s, f⟩ := x
        simp only at q0 q1 q2
        have hst1 := hst.alloc (.cells #[.int .i64 kk, .string s, .float .f64 f] 90)
        have en1 := hen.alloc (.cells #[.int .i64 kk, .string s, .float .f64 f] 90)
        have hck := fun w => check_any (kk, s, f) hc w
        cases hok : cmOk (kk, s, f) with
        | true =>
          rw [hok] at hck hstep
          replace hck := Lib.hid hck
          replace hstep := Lib.hid hstep
          clear hcells hok
          go_wp2_with fail
          refine (hck.out _).mono ?_
          rintro e w2 ⟨rfl, hb2⟩
          rw [show errB true 12 = 0 from rfl]
          go_wp2_with fail
          go_roundw
          case rel => exact ⟨k + 1, by omega, by go_num, hst1.below hb2, en1.trans (bel_env hb2), Lib.hid (by have := hstep.out; rw [Bool.true_and] at this; exact this.symm)⟩
          case measure => simp [intOf]; omega
        | false =>
          rw [hok] at hck hstep
          replace hck := Lib.hid hck
          rw [Bool.false_and] at hstep
          subst hstep
          clear hcells hok
          go_wp2_with fail
          refine (hck.out _).mono ?_
          rintro e w2 ⟨rfl, hb2⟩
          rw [show errB false 12 = 12 from rfl]
          go_wp2_with fail
          go_ret
          exact ⟨rfl, (hst1.below hb2).toBelow (en1.trans (bel_env hb2))⟩
      · obtain rfl : k = l.length := by omega
        have hG2 := hall.out
        rw [List.drop_length] at hG2
        simp only [List.all_nil] at hG2
        subst hG2
        clear hall
        go_wp2_with fail
        go_ret
        exact ⟨rfl, hst.toBelow hen⟩
set_option maxRecDepth 100000 in
set_option maxHeartbeats 1600000 in
theorem refBatch_any (A : Option Addr) (n c : Nat) (l : List Cm) (hw : ∀ x ∈ l, CmW x) (w : World) (hx : Rw w 3 (.slice A n c) (cml l)) :
    Calls Try.prog 102 #[.slice A n c] w fun e w' => e = .returned (.int .i64 (batchErr l)) ∧ Below w.heap.size w w' := by
  obtain ⟨A', n', c', hv, hl, hnc, hcM⟩ := hx.form
  cases hv
  rw [cml_len] at hl
  obtain rfl : n = l.length := by omega
  clear hl
  by_cases h8 : 8 < l.length
  · have hR : batchErr l = 5 := if_pos h8
    rw [hR]
    have h8I : (8 : Int) < (l.length : Int) := by omega
    clear hR
    go_enter Try.func102, Try.ntmps102
    go_wp2_with fail
    go_ret
    exact ⟨rfl, Below.refl _ _⟩
  · have hR : batchErr l = errB (l.all cmOk) 12 := if_neg h8
    rw [hR]
    have h8I : ¬ (8 : Int) < (l.length : Int) := by omega
    clear hR
    have hrd := hx.rd
    generalize hG : l.all cmOk = G at *
    replace hG := Lib.hid hG
    go_enter Try.func102, Try.ntmps102
    go_wp2_with fail
    go_loopw [3] (fun s11 wr => ∃ k : Nat, k ≤ l.length ∧ s11 = .int .i64 (k : Int) ∧ St (snap w) [] wr ∧ Env w wr ∧ Hid ((l.drop k).all cmOk = G)) (fun s11 _ => l.length - (intOf s11).toNat)
    case atStart => exact ⟨0, by omega, rfl, St.start w, Env.refl w, hG⟩
    case round =>
      obtain ⟨k, hk, rfl, hst, hen, hall⟩ := hrel
      clear hG
      by_cases hlt : k < l.length
      · obtain ⟨b, off, rfl, hcells⟩ := hrd.cells hst (by omega)
        have q0 := hcells _ _ (cml_get l k hlt).1
        have q1 := hcells _ _ (cml_get l k hlt).2.1
        have q2 := hcells _ _ (cml_get l k hlt).2.2
        rw [← Nat.add_assoc] at q1 q2
        have hc := hw _ (List.getElem_mem hlt)
        have hstep := all_stepC l hlt
        rw [hall.out] at hstep
        obtain ⟨x, HX⟩ : ∃ x, Hid (x = l[k]) := ⟨_, Lib.hid rfl⟩
        rw [← HX.out] at q0 q1 q2 hc hstep
        obtain ⟨kk, s, f⟩ := x
        simp only at q0 q1 q2
        have hck := fun w => right6_any (kk, s, f) hc w
        cases hok : cmOk (kk, s, f) with
        | true =>
          rw [hok] at hck hstep
          replace hck := Lib.hid hck
          replace hstep := Lib.hid hstep
          clear hcells hok
          go_wp2_with fail
          refine (hck.out _).mono ?_
          rintro e w2 ⟨rfl, hb2⟩
          go_wp2_with fail
          go_roundw
          case rel => exact ⟨k + 1, by omega, by go_num, hst.below hb2, hen.trans (bel_env hb2), Lib.hid (by have := hstep.out; rw [Bool.true_and] at this; exact this.symm)⟩
          case measure => simp [intOf]; omega
        | false =>
          rw [hok] at hck hstep
          replace hck := Lib.hid hck
          rw [Bool.false_and] at hstep
          subst hstep
          clear hcells hok
          go_wp2_with fail
          refine (hck.out _).mono ?_
          rintro e w2 ⟨rfl, hb2⟩
          go_wp2_with fail
          go_ret
          exact ⟨rfl, (hst.below hb2).toBelow (hen.trans (bel_env hb2))⟩
      · obtain rfl : k = l.length := by omega
        have hG2 := hall.out
        rw [List.drop_length] at hG2
        simp only [List.all_nil] at hG2
        subst hG2
        clear hall
        go_wp2_with fail
        go_ret
        exact ⟨rfl, hst.toBelow hen⟩
def cmdsSame (a b : List Cm) : Bool := decide (a.length = b.length) && (a.zip b).all (fun p => cmSame p.1 p.2)
theorem zip_step (a b : List Cm) (k : Nat) (h : k < a.length) (h2 : k < b.length) : ((a.drop k).zip (b.drop k)).all (fun p => cmSame p.1 p.2) = (cmSame a[k] b[k] && ((a.drop (k + 1)).zip (b.drop (k + 1))).all (fun p => cmSame p.1 p.2)) := by
  rw [List.drop_eq_getElem_cons h, List.drop_eq_getElem_cons h2, List.zip_cons_cons, List.all_cons]
set_option maxRecDepth 100000 in
set_option maxHeartbeats 1600000 in
theorem refCmds_any (u v : Value) (xs ys : List Cm) (hwx : ∀ x ∈ xs, CmW x) (hwy : ∀ x ∈ ys, CmW x) (w : World) (hx : Rw w 3 u (cml xs)) (hy : Rw w 3 v (cml ys)) :
    Calls Try.prog 60 #[u, v] w fun e w' => e = .returned (.bool (cmdsSame xs ys)) ∧ Below w.heap.size w w' := by
  obtain ⟨A, n, c, rfl, hl, hnc, hcM⟩ := hx.form
  rw [cml_len] at hl
  obtain rfl : n = xs.length := by omega
  obtain ⟨A', n', c', rfl, hl', hnc', hcM'⟩ := hy.form
  rw [cml_len] at hl'
  obtain rfl : n' = ys.length := by omega
  clear hl hl'
  by_cases hlen : xs.length = ys.length
  · have bl : ((xs.length : Int) != (ys.length : Int)) = false := by rw [bne_eq_false_iff_eq]; omega
    have hR : cmdsSame xs ys = (xs.zip ys).all (fun p => cmSame p.1 p.2) := by unfold cmdsSame; rw [decide_eq_true hlen, Bool.true_and]
    rw [hR]
    clear hR
    have hrx := hx.rd
    have hry := hy.rd
    generalize hG : (xs.zip ys).all (fun p => cmSame p.1 p.2) = G at *
    replace hG := Lib.hid hG
    replace hlen := Lib.hid hlen
    go_enter Try.func60, Try.ntmps60
    go_wp2_with fail
    go_loopw [5] (fun s5 wr => ∃ k : Nat, k ≤ xs.length ∧ s5 = .int .i64 (k : Int) ∧ St (snap w) [] wr ∧ Env w wr ∧ Hid (((xs.drop k).zip (ys.drop k)).all (fun p => cmSame p.1 p.2) = G)) (fun s5 _ => xs.length - (intOf s5).toNat)
    case atStart => exact ⟨0, by omega, rfl, St.start w, Env.refl w, hG⟩
    case round =>
      obtain ⟨k, hk, rfl, hst, hen, hall⟩ := hrel
      clear hG
      by_cases hlt : k < xs.length
      · have hlt2 : k < ys.length := by rw [← hlen.out]; exact hlt
        obtain ⟨b, off, rfl, hcx⟩ := hrx.cells hst (by omega)
        obtain ⟨b', off', rfl, hcy⟩ := hry.cells hst (by omega)
        have q0 := hcx _ _ (cml_get xs k hlt).1
        have q1 := hcx _ _ (cml_get xs k hlt).2.1
        have q2 := hcx _ _ (cml_get xs k hlt).2.2
        have r0 := hcy _ _ (cml_get ys k hlt2).1
        have r1 := hcy _ _ (cml_get ys k hlt2).2.1
        have r2 := hcy _ _ (cml_get ys k hlt2).2.2
        rw [← Nat.add_assoc] at q1 q2 r1 r2
        have hwxk := hwx _ (List.getElem_mem hlt)
        have hwyk := hwy _ (List.getElem_mem hlt2)
        have hstep := zip_step xs ys k hlt hlt2
        rw [hall.out] at hstep
        obtain ⟨x, HX⟩ : ∃ x, Hid (x = xs[k]) := ⟨_, Lib.hid rfl⟩
        obtain ⟨y, HY⟩ : ∃ y, Hid (y = ys[k]) := ⟨_, Lib.hid rfl⟩
        rw [← HX.out] at q0 q1 q2 hwxk hstep
        rw [← HY.out] at r0 r1 r2 hwyk hstep
        obtain ⟨k1, s1, f1⟩ := x
        obtain ⟨k2, s2, f2⟩ := y
        simp only at q0 q1 q2 r0 r1 r2
        have hcs := fun w => cmSame_any (k1, s1, f1) (k2, s2, f2) hwxk hwyk w
        have hk0 : (0 : Int) ≤ (k : Int) := by omega
        have hkx : (k : Int) < (xs.length : Int) := by omega
        have hky : (k : Int) < (ys.length : Int) := by omega
        have hsd := hst.drew
        have en1 := hen.drew
        cases hok : cmSame (k1, s1, f1) (k2, s2, f2) with
        | true =>
          rw [hok, Bool.true_and] at hstep
          rw [hok] at hcs
          replace hcs := Lib.hid hcs
          replace hstep := Lib.hid hstep
          clear hcx hcy hok
          go_wp2_with fail
          go_still_tail 8, (by kernel_rfl)
          change wpList _ _ _ _ _ wr.drew
          go_wp2_with fail
          refine (hcs.out _).mono ?_
          rintro e w2 ⟨rfl, hb2⟩
          go_wp2_with fail
          go_roundw
          case rel => exact ⟨k + 1, by omega, by go_num, hsd.below hb2, en1.trans (bel_env hb2), Lib.hid hstep.out.symm⟩
          case measure => simp [intOf]; omega
        | false =>
          rw [hok, Bool.false_and] at hstep
          rw [hok] at hcs
          replace hcs := Lib.hid hcs
          subst hstep
          clear hcx hcy hok
          go_wp2_with fail
          go_still_tail 8, (by kernel_rfl)
          change wpList _ _ _ _ _ wr.drew
          go_wp2_with fail
          refine (hcs.out _).mono ?_
          rintro e w2 ⟨rfl, hb2⟩
          go_wp2_with fail
          go_ret
          exact ⟨rfl, (hsd.below hb2).toBelow (en1.trans (bel_env hb2))⟩
      · obtain rfl : k = xs.length := by omega
        have hG2 := hall.out
        rw [List.drop_length, List.zip_nil_left] at hG2
        simp only [List.all_nil] at hG2
        subst hG2
        clear hall
        go_wp2_with fail
        go_ret
        exact ⟨rfl, hst.toBelow hen⟩
  · have bl : ((xs.length : Int) != (ys.length : Int)) = true := by rw [bne_iff_ne]; omega
    have hR : cmdsSame xs ys = false := by unfold cmdsSame; rw [decide_eq_false hlen, Bool.false_and]
    rw [hR]
    clear hR
    replace hlen := Lib.hid hlen
    go_enter Try.func60, Try.ntmps60
    go_wp2_with fail
    go_ret
    exact ⟨rfl, Below.refl _ _⟩
end Go.Proofs.Ytelmhcbdpimaaaa

/- Ids compared and sorted by the program: contracts of ident.Compare and ident.Sorted. -/
set_option linter.unusedVariables false
set_option linter.unusedSimpArgs false
namespace Go.Proofs.Ytelmhcbdpimaaaa
open Go.RowKit Go.Cw Go.Sort Go.Shelf
attribute [local go_sem ↓] eql_id neq_id

def sortId_ren : Go.Shelf.Ren := ⟨fun | 6 => 91 | 15 => 122 | 14 => 121 | 28 => 149 | 29 => 150 | 20 => 141 | 21 => 142 | 22 => 143 | 23 => 144 | 24 => 145 | 25 => 146 | 26 => 147 | 27 => 148 | 46 => 154 | 47 => 155 | 48 => 156 | 49 => 157 | 50 => 158 | 57 => 160 | n => n, fun | 22 => 29 | 24 => 28 | 25 => 131 | 3 => 3 | 39 => 135 | 0 => 0 | 53 => 169 | 55 => 40 | 4 => 4 | 46 => 162 | 45 => 161 | 50 => 166 | 5 => 5 | 9 => 9 | 66 => 174 | 70 => 178 | 76 => 181 | 77 => 182 | n => n, fun | n => n⟩
theorem sortId : Go.Proofs.SlLaysF0.n6 Try.prog sortId_ren := {
  mixed := by kernel_rfl
  f6 := ⟨Try.f91.name, by decide, Try.func91.trans (congrArg some (by kernel_rfl))⟩
  f14 := ⟨Try.f121.name, by decide, Try.func121.trans (congrArg some (by kernel_rfl))⟩
  f15 := Try.func122.trans (congrArg some (by kernel_rfl))
  f20 := ⟨Try.f141.name, by decide, Try.func141.trans (congrArg some (by kernel_rfl))⟩
  f21 := ⟨Try.f142.name, by decide, Try.func142.trans (congrArg some (by kernel_rfl))⟩
  f22 := ⟨Try.f143.name, by decide, Try.func143.trans (congrArg some (by kernel_rfl))⟩
  f23 := ⟨Try.f144.name, by decide, Try.func144.trans (congrArg some (by kernel_rfl))⟩
  f24 := ⟨Try.f145.name, by decide, Try.func145.trans (congrArg some (by kernel_rfl))⟩
  f25 := ⟨Try.f146.name, by decide, Try.func146.trans (congrArg some (by kernel_rfl))⟩
  f26 := ⟨Try.f147.name, by decide, Try.func147.trans (congrArg some (by kernel_rfl))⟩
  f27 := ⟨Try.f148.name, by decide, Try.func148.trans (congrArg some (by kernel_rfl))⟩
  f28 := Try.func149.trans (congrArg some (by kernel_rfl))
  f29 := Try.func150.trans (congrArg some (by kernel_rfl))
  f46 := ⟨Try.f154.name, by decide, Try.func154.trans (congrArg some (by kernel_rfl))⟩
  f47 := Try.func155.trans (congrArg some (by kernel_rfl))
  f48 := Try.func156.trans (congrArg some (by kernel_rfl))
  f49 := ⟨Try.f157.name, by decide, Try.func157.trans (congrArg some (by kernel_rfl))⟩
  f50 := ⟨Try.f158.name, by decide, Try.func158.trans (congrArg some (by kernel_rfl))⟩
  f57 := ⟨Try.f160.name, by decide, Try.func160.trans (congrArg some (by kernel_rfl))⟩
  t0 := Try.underlying0
  a0 := Try.isAgg0
  z0 := Try.sizeOf0
  v0 := Try.zeroValue0
  t3 := Try.underlying3
  a3 := Try.isAgg3
  z3 := Try.sizeOf3
  v3 := Try.zeroValue3
  t4 := Try.underlying4
  a4 := Try.isAgg4
  z4 := Try.sizeOf4
  v4 := Try.zeroValue4
  t5 := Try.underlying5
  a5 := Try.isAgg5
  z5 := Try.sizeOf5
  v5 := Try.zeroValue5
  t9 := Try.underlying9
  a9 := Try.isAgg9
  z9 := Try.sizeOf9
  v9 := Try.zeroValue9
  t22 := Try.underlying29
  a22 := Try.isAgg29
  z22 := Try.sizeOf29
  v22 := Try.zeroValue29
  t25 := Try.underlying131
  a25 := Try.isAgg131
  z25 := Try.sizeOf131
  v25 := Try.zeroValue131
  t39 := Try.underlying135
  a39 := Try.isAgg135
  z39 := Try.sizeOf135
  v39 := Try.zeroValue135
  t45 := Try.underlying161
  a45 := Try.isAgg161
  z45 := Try.sizeOf161
  v45 := Try.zeroValue161
  t46 := Try.underlying162
  a46 := Try.isAgg162
  z46 := Try.sizeOf162
  v46 := Try.zeroValue162
  t50 := Try.underlying166
  a50 := Try.isAgg166
  z50 := Try.sizeOf166
  v50 := Try.zeroValue166
  t53 := Try.underlying169
  a53 := Try.isAgg169
  z53 := Try.sizeOf169
  v53 := Try.zeroValue169
  t55 := Try.underlying40
  a55 := Try.isAgg40
  z55 := Try.sizeOf40
  v55 := Try.zeroValue40
  t66 := Try.underlying174
  a66 := Try.isAgg174
  z66 := Try.sizeOf174
  v66 := Try.zeroValue174
  t70 := Try.underlying178
  a70 := Try.isAgg178
  z70 := Try.sizeOf178
  v70 := Try.zeroValue178
  t76 := Try.underlying181
  a76 := Try.isAgg181
  z76 := Try.sizeOf181
  v76 := Try.zeroValue181
  t77 := Try.underlying182
  a77 := Try.isAgg182
  z77 := Try.sizeOf182
  v77 := Try.zeroValue182 }

/-- How two numbers stand. -/
def cmpInt (x y : Int) : Int := if x < y then -1 else if y < x then 1 else 0
set_option maxRecDepth 100000 in
theorem isNaN_any (x : Int) (w : World) : Calls Try.prog 151 #[.int .i64 x] w fun e w' => e = .returned (.bool false) ∧ w = w' := by
  go_enter Try.func151, Try.ntmps151
  go_wp2
  go_ret
  exact ⟨by simp, rfl⟩
set_option maxRecDepth 100000 in
theorem cmpInt_any (x y : Int) (w : World) : Calls Try.prog 124 #[.int .i64 x, .int .i64 y] w fun e w' => e = .returned (.int .i64 (cmpInt x y)) ∧ w = w' := by
  go_enter Try.func124, Try.ntmps124
  go_wp2_with (go_at_call 151; refine (isNaN_any _ _).mono ?_; rintro e w' ⟨rfl, rfl⟩)
  all_goals (go_ret; refine ⟨?_, rfl⟩; unfold cmpInt; (repeat' split) <;> first | rfl | (exfalso; omega))
theorem cmpInt_still (x y : Int) (w : World) : Calls Try.prog 124 #[.int .i64 x, .int .i64 y] w fun e w' => e = .returned (.int .i64 (cmpInt x y)) ∧ w' = w := (cmpInt_any x y w).mono fun _ _ h => ⟨h.1, h.2.symm⟩
/-- The first number that is not zero. -/
def orInt (x y : Int) : Int := if x ≠ 0 then x else y
set_option maxRecDepth 100000 in
set_option maxHeartbeats 800000 in
theorem or_any (x y : Int) (b : Nat) (w : World) (h0 : w.cell? ⟨b, 0, none⟩ = some (.int .i64 x)) (h1 : w.cell? ⟨b, 1, none⟩ = some (.int .i64 y)) :
    Calls Try.prog 123 #[.slice (some ⟨b, 0, none⟩) 2 2] w fun e w' => e = .returned (.int .i64 (orInt x y)) ∧ ∃ q, w' = w.drewN q := by
  have bl := World.block_lt_of_cell? _ _ h0
  go_enter Try.func123, Try.ntmps123
  go_wp2_with fail
  go_loopw [8] (fun i wr => ∃ k : Nat, k ≤ 2 ∧ i = .int .i64 k ∧ Hid ((1 ≤ k → x = 0) ∧ (2 ≤ k → y = 0)) ∧ wr = w) (fun i _ => 2 - (intOf i).toNat)
  case atStart => exact ⟨0, by omega, rfl, Lib.hid ⟨by omega, by omega⟩, rfl⟩
  case round =>
    obtain ⟨k, hk, rfl, HI, rfl⟩ := hrel
    have hk3 : k = 0 ∨ k = 1 ∨ k = 2 := by omega
    rcases hk3 with rfl | rfl | rfl
    · by_cases hx : x = 0
      · have hx' : (x != 0) = false := bne_eq_false_iff_eq.2 hx
        have hx2 := Lib.hid hx
        clear hx
        go_wp2_with fail
        go_roundw
        case rel => exact ⟨1, by omega, by go_num, Lib.hid ⟨fun _ => hx2.out, by omega⟩, by first | rfl | trivial⟩
        case measure => simp [intOf]
      · have hx' : (x != 0) = true := bne_iff_ne.2 hx
        have hN : Hid (orInt x y = x) := Lib.hid (if_pos hx)
        go_wp2_with fail
        go_ret
        exact ⟨congrArg (fun x => Ending.returned (Value.int .i64 x)) hN.out.symm, 0, rfl⟩
    · have hx := HI.out.1 (by omega)
      by_cases hy : y = 0
      · have hy' : (y != 0) = false := bne_eq_false_iff_eq.2 hy
        have hx2 := Lib.hid (And.intro hx hy)
        clear hx hy
        go_wp2_with fail
        go_roundw
        case rel => exact ⟨2, by omega, by go_num, Lib.hid ⟨fun _ => hx2.out.1, fun _ => hx2.out.2⟩, by first | rfl | trivial⟩
        case measure => simp [intOf]
      · have hy' : (y != 0) = true := bne_iff_ne.2 hy
        have hN : Hid (orInt x y = y) := Lib.hid (if_neg (fun h => h hx))
        clear hx
        go_wp2_with fail
        go_ret
        exact ⟨congrArg (fun x => Ending.returned (Value.int .i64 x)) hN.out.symm, 0, rfl⟩
    · have hN : Hid (orInt x y = 0) := Lib.hid ((if_neg (fun h => h (HI.out.1 (by omega)))).trans (HI.out.2 (by omega)))
      go_wp2_with fail
      go_ret
      exact ⟨congrArg (fun x => Ending.returned (Value.int .i64 x)) hN.out.symm, 0, rfl⟩
def cmpId (a b : Id) : Int := orInt (cmpInt a.1 b.1) (cmpInt a.2 b.2)
theorem cmpId_eq (a b : Id) (h : idEq a.1 a.2 b.1 b.2 = true) : cmpId a b = 0 := by
  unfold idEq at h
  simp only [Bool.and_eq_true, beq_iff_eq] at h
  unfold cmpId orInt cmpInt
  simp [h.1, h.2]
set_option maxRecDepth 100000 in
set_option maxHeartbeats 800000 in
theorem compare_any (a b : Id) (w : World) :
    Calls Try.prog 92 #[idV a, idV b] w fun e w' => e = .returned (.int .i64 (cmpId a b)) ∧ ∃ q os', w' = grow (w.drewN q) os' := by
  by_cases hab : idEq a.1 a.2 b.1 b.2 = true
  · have hN := Lib.hid (cmpId_eq a b hab)
    go_enter Try.func92, Try.ntmps92
    go_wp2_with fail
    go_ret
    exact ⟨congrArg (fun x => Ending.returned (Value.int .i64 x)) hN.out.symm, 0, _, by rw [alloc_eq_grow, alloc_eq_grow, grow_grow]; rfl⟩
  · have hab := Bool.eq_false_iff.2 hab
    obtain ⟨W, hW⟩ : ∃ W, W = (w.alloc (.cells #[.int .i64 a.1, .int .i64 a.2] 28)).alloc (.cells #[.int .i64 b.1, .int .i64 b.2] 28) := ⟨_, rfl⟩
    have hg : W = grow w #[.cells #[.int .i64 a.1, .int .i64 a.2] 28, .cells #[.int .i64 b.1, .int .i64 b.2] 28] := by rw [hW, alloc_eq_grow, alloc_eq_grow, grow_grow]; rfl
    have hh0 : W.heap[w.heap.size]? = some (.cells #[.int .i64 a.1, .int .i64 a.2] 28) := by rw [hg]; simp [grow]
    have hh1 : W.heap[w.heap.size + 1]? = some (.cells #[.int .i64 b.1, .int .i64 b.2] 28) := by rw [hg]; simp [grow]
    have a0 : W.cell? ⟨w.heap.size, 0, none⟩ = some (.int .i64 a.1) := by simp [World.cell?, hh0]
    have a1 : W.cell? ⟨w.heap.size, 1, none⟩ = some (.int .i64 a.2) := by simp [World.cell?, hh0]
    have b0 : W.cell? ⟨w.heap.size + 1, 0, none⟩ = some (.int .i64 b.1) := by simp [World.cell?, hh1]
    have b1 : W.cell? ⟨w.heap.size + 1, 1, none⟩ = some (.int .i64 b.2) := by simp [World.cell?, hh1]
    have hsz : W.heap.size = w.heap.size + 2 := by rw [hg]; simp
    replace hg := Lib.hid hg
    clear hh0 hh1
    go_enter Try.func92, Try.ntmps92
    go_wp2_with fail
    rw [← hW]
    clear hW
    have hsz0 : w.heap.size < W.heap.size := by omega
    have hsz1 : w.heap.size + 1 < W.heap.size := by omega
    go_still_tail 10, (by kernel_rfl)
    still_call (cmpInt_still _ _ _)
    repeat still_step
    still_call (cmpInt_still _ _ _)
    refine wpStill_nil ?_
    change wpList _ _ _ _ _ (World.drew _)
    go_wp2_with fail
    have hv : (W.alloc (.cells #[.int .i64 (cmpInt a.1 b.1), .int .i64 (cmpInt a.2 b.2)] 3)).drew.heap[w.heap.size + 2]? = some (.cells #[.int .i64 (cmpInt a.1 b.1), .int .i64 (cmpInt a.2 b.2)] 3) := by
      rw [← hsz]
      exact heap_alloc_new W _
    refine (or_any (cmpInt a.1 b.1) (cmpInt a.2 b.2) _ _ (by simp [World.cell?, hv]) (by simp [World.cell?, hv])).mono ?_
    rintro e w3 ⟨rfl, q, rfl⟩
    go_wp2_with fail
    go_ret
    refine ⟨rfl, 1 + q, #[.cells #[.int .i64 a.1, .int .i64 a.2] 28, .cells #[.int .i64 b.1, .int .i64 b.2] 28] ++ #[.cells #[.int .i64 (cmpInt a.1 b.1), .int .i64 (cmpInt a.2 b.2)] 3], ?_⟩
    have hg := hg.out
    subst hg
    simp [grow, World.drewN, World.drew, World.alloc, Nat.add_assoc]
theorem cmpLays_id (blk off size : Nat) (w : World) : CmpLays Try.prog 92 #[] idc 2 cmpId blk off size w := fun _ _ _ _ x y => compare_any x y _
theorem ltOf_id (x y : Id) : ltOf cmpId x y = idLt x y := by
  unfold ltOf cmpId orInt cmpInt idLt
  by_cases h1 : x.1 = y.1
  · rw [if_pos h1]
    by_cases h2 : x.2 < y.2
    · simp [h1, h2]
    · by_cases h3 : y.2 < x.2 <;> simp [h1, h2, h3]
  · rw [if_neg h1]
    by_cases h2 : x.1 < y.1
    · simp [h2]
    · have h3 : y.1 < x.1 := by omega
      simp [h2, h3]
theorem idLt_iff (x y : Id) : idLt x y = true ↔ (x.1 < y.1 ∨ (x.1 = y.1 ∧ x.2 < y.2)) := by
  unfold idLt
  split
  · rename_i h; simp [h]
  · rename_i h; simp [h]
theorem idLt_no (x y : Id) : idLt x y = false ↔ ¬ (x.1 < y.1 ∨ (x.1 = y.1 ∧ x.2 < y.2)) := by rw [← idLt_iff]; simp
theorem swo_id : SWO (ltOf cmpId) where
  irrefl x := by rw [ltOf_id, idLt_no]; omega
  trans x y z h1 h2 := by rw [ltOf_id, idLt_iff] at *; omega
  ntrans x y z h1 h2 := by rw [ltOf_id, idLt_no] at *; omega
theorem total_id (x y : Id) (h1 : ltOf cmpId x y = false) (h2 : ltOf cmpId y x = false) : x = y := by
  rw [ltOf_id, idLt_no] at *
  exact Prod.ext (by omega) (by omega)
theorem flatK_eq {α : Type} [Inhabited α] (enc : α → List Value) (k : Nat) (h0 : 0 < k) (hk : ∀ x, (enc x).length = k) (l : List α) : flatK enc k l.toArray = (l.flatMap enc).toArray := by
  refine ext_get! (by simp [flat_len enc k hk]) (fun t ht => ?_)
  have ht' : t < l.length * k := by simpa using ht
  rw [get_flatK enc k _ t (by simpa using ht')]
  have hi : t / k < l.length := Nat.div_lt_of_lt_mul (by rw [Nat.mul_comm]; exact ht')
  have hr : t % k < k := Nat.mod_lt _ h0
  have := flat_get enc k hk l (t / k) (t % k) hi hr
  have e1 : t / k * k + t % k = t := Nat.div_add_mod' t k
  rw [e1] at this
  have e2 : l.toArray[t / k]! = l[t / k] := by simp [hi]
  rw [e2]
  simp only [List.getElem!_toArray, List.getElem!_eq_getElem?_getD, this]
theorem row_sort {H : Hp} {fr : List HA} {w : World} {e : TypeId} {g off n c : Nat} {l : List Id} (h : St H (Row e 2 (.slice (some ⟨g, off, none⟩) n c) (idl l) :: fr) w) (l' : List Id) (hl : l'.length = l.length) (m : Nat) (os : Array Obj) :
    St H (Row e 2 (.slice (some ⟨g, off, none⟩) n c) (idl l') :: fr) (sortWorldK idc 2 w g off m l'.toArray os) ∧ Env w (sortWorldK idc 2 w g off m l'.toArray os) := by
  have hsz : (sortWorldK idc 2 w g off m l'.toArray os).heap.size = w.heap.size + os.size := by simp [sortWorldK, putRowK, Sort.ahead]
  have hold : ∀ k, k < w.heap.size → (sortWorldK idc 2 w g off m l'.toArray os).heap[k]? = (w.heap.modify g (onCells (putCells id off (flatK idc 2 l'.toArray))))[k]? := fun k hk =>
    heap_grow_old _ os (by simpa [putRowK, Sort.ahead] using hk)
  refine ⟨h.turn (by omega) (fun S hS => ⟨S, ?_, fun k hk => .inl hk, fun k hk hn => ?_⟩), ⟨rfl, rfl, rfl, by omega⟩⟩
  · rcases hS with ⟨hv, _⟩ | ⟨g', off', n', cap, cur, hv, hlen, hc, hM, hh, hs, hj, hS⟩
    · cases hv
    · cases hv
      have hlt := (Array.getElem?_eq_some_iff.1 hh).1
      refine .inr ⟨g, off, n, c, putCells id off (flatK idc 2 l'.toArray) cur, rfl, by rw [idl_len] at hlen ⊢; omega, hc, hM, ?_, by unfold putCells; simpa using hs, fun j u hu => ?_, hS⟩
      · rw [hold g hlt, Array.getElem?_modify]
        simp [hh, onCells]
      · have hjl : j < (idl l').length := (List.getElem?_eq_some_iff.1 hu).1
        have hF : flatK idc 2 l'.toArray = (idl l').toArray := flatK_eq idc 2 (by omega) (fun _ => rfl) l'
        have hfs : (flatK idc 2 l'.toArray).size = (idl l').length := by rw [hF]; simp
        have hcs : off + j < cur.size := by
          rw [idl_len] at hlen hjl
          omega
        unfold putCells
        rw [Array.getElem?_mapIdx, Array.getElem?_eq_getElem hcs]
        simp only [Option.map_some]
        rw [if_pos ⟨Nat.le_add_right _ _, by omega⟩, hF]
        simp only [Nat.add_sub_cancel_left, id, List.getElem!_toArray, List.getElem!_eq_getElem?_getD, hu, Option.getD_some]
  · have hne : k ≠ g := fun e' => by
      rcases hS with ⟨hv, _⟩ | ⟨g', off', n', cap, cur, hv, hlen, hc, hM, hh, hs, hj, hS⟩
      · cases hv
      · cases hv
        exact hn ((hS k).2 e')
    rw [hold k hk, Array.getElem?_modify, if_neg (fun e' => hne e'.symm)]
/-- No two neighbours are one. -/
def Apart (l : List Id) : Prop := ∀ (k : Nat) (h : k + 1 < l.length), l[k + 1] ≠ l[k]
theorem apart_nodup {l : List Id} (h : l.Nodup) : Apart l := fun k hk he => (List.pairwise_iff_getElem.1 h k (k + 1) (by omega) hk (by omega)) he.symm
theorem idEq_no {a b : Id} (h : a ≠ b) : idEq a.1 a.2 b.1 b.2 = false := by
  unfold idEq
  rw [Bool.and_eq_false_iff]
  by_cases h1 : a.1 = b.1
  · right; exact beq_eq_false_iff_ne.2 (fun h2 => h (Prod.ext h1 h2))
  · left; exact beq_eq_false_iff_ne.2 h1
set_option maxRecDepth 100000 in
set_option maxHeartbeats 800000 in
theorem compact_apart (v : Value) (l : List Id) (w : World) (hx : Rw w 2 v (idl l)) (hap : Apart l) :
    Calls Try.prog 93 #[v] w fun e w' => e = .returned v ∧ Below w.heap.size w w' := by
  obtain ⟨A, n, c, rfl, hl, hn, hc⟩ := hx.form
  rw [idl_len] at hl
  obtain rfl : n = l.length := by omega
  clear hl
  rcases Nat.lt_or_ge l.length 2 with h2 | h2
  · have h2' : (l.length : Int) < 2 := by omega
    go_enter Try.func93, Try.ntmps93
    go_wp2_with fail
    go_ret
    exact ⟨rfl, Below.refl _ _⟩
  · have h2' : ¬ (l.length : Int) < 2 := by omega
    obtain ⟨b, off, rfl, hcx⟩ := hx.cells (by omega)
    go_enter Try.func93, Try.ntmps93
    go_wp2_with fail
    go_loopw [3] (fun i wr => ∃ k : Nat, 1 ≤ k ∧ k ≤ l.length ∧ i = .int .i64 k ∧ Below w.heap.size w wr) (fun i _ => l.length - (intOf i).toNat)
    case atStart => exact ⟨1, by omega, by omega, by go_num, Below.refl _ _⟩
    case round =>
      obtain ⟨k, hk1, hk, rfl, hb⟩ := hrel
      by_cases hlt : k < l.length
      · obtain ⟨m, rfl⟩ : ∃ m, k = m + 1 := ⟨k - 1, by omega⟩
        have hne := Lib.hid (idEq_no (hap m hlt))
        obtain ⟨b', off', hA, hcr⟩ := (hx.below hb).cells (by omega)
        cases hA
        have p1 := hcr _ _ (idl_fst l (m + 1) hlt)
        have p2 := hcr _ _ (idl_snd l (m + 1) hlt)
        have q1 := hcr _ _ (idl_fst l m (by omega))
        have q2 := hcr _ _ (idl_snd l m (by omega))
        rw [← Nat.add_assoc] at p2 q2
        obtain ⟨x, HX⟩ : ∃ x, Hid (x = l[m + 1]) := ⟨_, Lib.hid rfl⟩
        obtain ⟨y, HY⟩ : ∃ y, Hid (y = l[m]) := ⟨_, Lib.hid rfl⟩
        rw [← HX.out] at p1 p2
        rw [← HY.out] at q1 q2
        have hne' : idEq x.1 x.2 y.1 y.2 = false := by rw [HX.out, HY.out]; exact hne.out
        clear hcr hcx
        go_wp2_with fail
        go_quiet (fail)
        go_wp2_with fail
        go_roundw
        case rel => exact ⟨m + 1 + 1, by omega, by omega, by go_num, bel_drewN hb _⟩
        case measure => simp [intOf]; omega
      · go_wp2_with fail
        go_ret
        exact ⟨rfl, hb⟩
theorem below_self (w : World) (n : Nat) : Below w.heap.size w (w.drewN n) := bel_drewN (Below.refl _ _) n
/-- Ids in order. -/
def idSort (l : List Id) : List Id := l.mergeSort fun x y => !(ltOf cmpId) y x
theorem idSort_len (l : List Id) : (idSort l).length = l.length := by simp [idSort]
theorem holds_row {H : Hp} {fr : List HA} {w : World} {e : TypeId} {g off n c : Nat} {l : List Id} (h : St H (Row e 2 (.slice (some ⟨g, off, none⟩) n c) (idl l) :: fr) w) (hn : 0 < n) : HoldsK idc 2 w g off l.toArray ∧ g < w.heap.size := by
  obtain ⟨b, o, hA, hb, h1, h2⟩ := h.row_cells hn (by omega)
  cases hA
  refine ⟨fun j hj => ⟨?_, h2 j⟩, hb⟩
  rw [flatK_eq idc 2 (by omega) (fun _ => rfl) l] at hj ⊢
  have hj' : j < (idl l).length := by simpa [idl] using hj
  have := h1 j _ (List.getElem?_eq_getElem hj')
  rw [this]
  have e2 : (List.flatMap idc l).toArray[j]! = (idl l)[j] := by
    simp only [List.getElem!_toArray, List.getElem!_eq_getElem?_getD]
    rw [show List.flatMap idc l = idl l from rfl, List.getElem?_eq_getElem hj']
    rfl
  rw [e2]
  rfl
set_option maxRecDepth 100000 in
set_option maxHeartbeats 1600000 in
theorem identSorted_nodup (u : Value) (l : List Id) (w : World) (hx : Rw w 2 u (idl l)) (hnd : l.Nodup) (hlen : l.length * 16 ≤ 140737488355328) :
    Calls Try.prog 58 #[u] w (ResE (snap w) [] w (fun v => v) (fun v => [Row 28 2 v (idl (idSort l))])) := by
  obtain ⟨A, n, c, rfl, hl, hn, hc⟩ := hx.form
  rw [idl_len] at hl
  obtain rfl : n = l.length := by omega
  clear hl
  have eg : ∀ args w, (callFunc 92 args).run Try.prog w = .ok (.enter 92 args) w := enters_of Try.func92 (by kernel_rfl) rfl
  have h1 := (St.start w).row_lit 28 2 0 #[] rfl (by decide)
  go_enter Try.func58, Try.ntmps58
  go_wp2_with (at_builtin; refine wpList_append rfl (.tmp 4) (.tmp 5) 29 29 rfl Try.underlying29 (.inl ⟨_, Try.underlying29⟩) (.agg #[.int .i64 0, .int .i64 0]) 16 info_id rfl (by decide) (by decide) rfl rfl h1 (News.rw (hx.alloc _) (idl_one l)) ?apB ?apK)
  case apB => rw [idl_len]; omega
  intro v' w2 h2 en2
  obtain ⟨A', n', c', rfl, hl', hn', hc'⟩ := h2.row_form
  rw [idl_len] at hl'
  obtain rfl : n' = l.length := by omega
  have en2' := ((Env.refl w).alloc (.cells #[] 28)).trans en2
  rcases Nat.eq_zero_or_pos l.length with h0 | h0
  · have hl0 : l = [] := List.length_eq_zero_iff.1 h0
    subst hl0
    have hcon := AnyF.slices_SortFunc_none { sortId with } A' c' (.func (.func 92) #[] #[]) w2
    change Calls Try.prog 91 _ _ _ at hcon
    go_wp2_with fail
    refine hcon.mono ?_
    rintro e w3 ⟨rfl, rfl⟩
    go_wp2_with fail
    refine (compact_apart _ [] _ (h2.row_rw (by omega)) (fun k h => by simp at h)).mono ?_
    rintro e w4 ⟨rfl, hb4⟩
    go_wp2_with fail
    go_ret
    have e0 : idSort [] = [] := by simp [idSort]
    exact ⟨_, rfl, by rw [e0]; exact h2.below hb4, en2'.trans (bel_env hb4)⟩
  · obtain ⟨b, off, hA, _⟩ := h2.row_cells h0 (by omega)
    cases hA
    obtain ⟨hH, hlt⟩ := holds_row h2 h0
    have hcon := AnyQ.slices_SortFunc_total sortId 2 Try.isAgg28 Try.sizeOf28 idc (fun _ => rfl) (fun x v hv => by simp [idc] at hv; rcases hv with rfl | rfl <;> rfl) cmpId swo_id 92 #[] b off c' l.toArray w2 eg (cmpLays_id b off l.toArray.size w2) hH hlt (by simp; omega) total_id
    change Calls Try.prog 91 _ _ _ at hcon
    have hap : Apart (idSort l) := apart_nodup ((List.mergeSort_perm l _).nodup_iff.2 hnd)
    clear eg hH
    go_wp2_with fail
    refine hcon.mono ?_
    rintro e w3 ⟨rfl, m, os, rfl⟩
    have hs := row_sort h2 (idSort l) (idSort_len l) m os
    change St _ _ (sortWorldK idc 2 w2 b off m (l.toArray.toList.mergeSort fun x y => !(ltOf cmpId) y x).toArray os) ∧ Env w2 (sortWorldK idc 2 w2 b off m (l.toArray.toList.mergeSort fun x y => !(ltOf cmpId) y x).toArray os) at hs
    obtain ⟨h3, en3⟩ := hs
    generalize sortWorldK idc 2 w2 b off m (l.toArray.toList.mergeSort fun x y => !(ltOf cmpId) y x).toArray os = W at *
    go_wp2_with fail
    refine (compact_apart _ _ _ (h3.row_rw (by omega)) hap).mono ?_
    rintro e w4 ⟨rfl, hb4⟩
    go_wp2_with fail
    go_ret
    exact ⟨_, rfl, h3.below hb4, (en2'.trans en3).trans (bel_env hb4)⟩
end Go.Proofs.Ytelmhcbdpimaaaa

/- Maps that a call owns: the laws of look-up, store, delete, clear, len and range, over typed lists of entries. -/
set_option linter.unusedVariables false
set_option linter.unusedSimpArgs false
set_option linter.unusedSectionVars false
namespace Go.Cw
open Go.RowKit Go.MapKept
open Go.ChangeMaps (setBlock)

/-- What is known of keys of a type. -/
structure Kinds (P : Program) (k : TypeId) (Key : Value → Prop) : Prop where
  check : ∀ (w : World) (em : Bool) {v : Value}, Key v → (Instr.checkKey em 10000 k v).run P w = .ok () w
  find : ∀ (w : World) {x : Value}, Key x → ∀ es : List MapEntry, (∀ e ∈ es, Key e.key) →
    ((Instr.findKey k x es).run P w = .ok none w ∧ ∀ e ∈ es, e.key ≠ x) ∨ ∃ j e, (Instr.findKey k x es).run P w = .ok (some (j, e.val)) w ∧ es[j]? = some e ∧ e.key = x
  stays : ∀ (w : World) {v : Value}, Key v → (Instr.keyThatStays v v).run P w = .ok v w

section
variable {κ ν : Type} [DecidableEq κ]
/-- The codes of keys and elements. -/
structure Code (P : Program) (k : TypeId) (κ ν : Type) where
  kv : κ → Value
  vv : ν → Value
  inj : ∀ a b, kv a = kv b → a = b
  kinds : Kinds P k (fun v => ∃ a, v = kv a)
variable {P : Program} {k : TypeId} {C : Code P k κ ν}
def Code.enc (C : Code P k κ ν) (p : κ × ν) : Value × Value := (C.kv p.1, C.vv p.2)
def ent (e : MapEntry) : Value × Value := (e.key, e.val)
def mput (a : κ) (x : ν) (l : List (κ × ν)) : List (κ × ν) := if a ∈ l.map (·.1) then l.map (fun p => if p.1 = a then (a, x) else p) else l ++ [(a, x)]
def mdel (a : κ) (l : List (κ × ν)) : List (κ × ν) := l.filter (fun p => decide (p.1 ≠ a))

def Mp (C : Code P k κ ν) (g : Nat) (l : List (κ × ν)) : HA where
  at_ := fun w S => (∃ es clock, w.heap[g]? = some (.map es clock) ∧ Stamped es clock ∧ es.toList.map ent = l.map C.enc) ∧ ∀ j, S j ↔ j = g
  move := fun ⟨⟨es, clock, h, r⟩, hS⟩ hm => ⟨⟨es, clock, (hm g ((hS g).2 rfl)).trans h, r⟩, hS⟩
  lt := fun ⟨⟨es, clock, h, r⟩, hS⟩ j hj => by
    have := (hS j).1 hj
    subst this
    exact (Array.getElem?_eq_some_iff.1 h).1
variable {H : Hp} {fr : List HA} {w : World} {g : Nat} {l : List (κ × ν)}

theorem St.mp_made (h : St H fr w) : St H (Mp C w.heap.size [] :: fr) (w.alloc (.map #[] 0)) :=
  h.new (by simp) (fun j => j = w.heap.size) ⟨⟨#[], 0, heap_alloc_new w _, stamped_empty 0, rfl⟩, fun _ => Iff.rfl⟩ (fun j hj => by omega) (fun j hj => Below.heap_alloc w _ j hj)

theorem nodup_of {es : Array MapEntry} {clock : Nat} (hs : Stamped es clock) (he : es.toList.map ent = l.map C.enc) : (l.map (·.1)).Nodup := by
  have h3 := ((stamped_iff es clock).1 hs).2.2
  have h4 : (es.toList.map ent).Pairwise (fun x y => x.1 ≠ y.1) := List.pairwise_map.2 h3
  rw [he] at h4
  have h5 := List.pairwise_map.1 h4
  exact List.pairwise_map.2 (h5.imp (fun hne he' => hne (by unfold Code.enc; simp only [he'])))
theorem St.mp_nodup (h : St H (Mp C g l :: fr) w) : (l.map (·.1)).Nodup := h.get (fun S hS => by
  obtain ⟨⟨es, clock, hb, hst, he⟩, _⟩ := hS
  exact nodup_of hst he)
/-- The keys of a map's entries are keys. -/
theorem keys_of {es : Array MapEntry} (he : es.toList.map ent = l.map C.enc) : ∀ e ∈ es.toList, ∃ a, e.key = C.kv a := fun e hem => by
  have : ent e ∈ l.map C.enc := he ▸ List.mem_map.2 ⟨e, hem, rfl⟩
  obtain ⟨p, _, hp⟩ := List.mem_map.1 this
  exact ⟨p.1, (congrArg Prod.fst hp).symm⟩
theorem none_of {es : Array MapEntry} (he : es.toList.map ent = l.map C.enc) {a : κ} (hn : ∀ e ∈ es.toList, e.key ≠ C.kv a) : a ∉ l.map (·.1) := fun ha => by
  obtain ⟨p, hp, rfl⟩ := List.mem_map.1 ha
  have : C.enc p ∈ es.toList.map ent := he ▸ List.mem_map.2 ⟨p, hp, rfl⟩
  obtain ⟨e, hem, hee⟩ := List.mem_map.1 this
  exact hn e hem (congrArg Prod.fst hee)
theorem some_of {es : Array MapEntry} (he : es.toList.map ent = l.map C.enc) {a : κ} {j : Nat} {e : MapEntry} (hj : es.toList[j]? = some e) (hk : e.key = C.kv a) : ∃ x, l[j]? = some (a, x) ∧ e.val = C.vv x := by
  have h1 : (es.toList.map ent)[j]? = some (ent e) := by simp [hj]
  rw [he, List.getElem?_map] at h1
  cases hl : l[j]? with
  | none => rw [hl] at h1; simp at h1
  | some p =>
    rw [hl] at h1
    simp only [Option.map_some, Option.some.injEq] at h1
    have h2 := congrArg Prod.fst h1
    have h3 := congrArg Prod.snd h1
    have : p.1 = a := C.inj _ _ (h2.trans hk)
    exact ⟨p.2, by rw [← this], h3.symm⟩
/-- What a key has. -/
def mlook (a : κ) : List (κ × ν) → Option ν
  | [] => none
  | p :: r => if p.1 = a then some p.2 else mlook a r
theorem lookup_none : ∀ {l : List (κ × ν)} {a : κ}, a ∉ l.map (·.1) → mlook a l = none
  | [], _, _ => rfl
  | p :: r, a, h => by
    have h1 : ¬ p.1 = a := fun e => h (by simp [e])
    have h2 : a ∉ r.map (·.1) := fun e => h (by simp only [List.map_cons, List.mem_cons]; exact .inr e)
    rw [mlook, if_neg h1]
    exact lookup_none h2
theorem lookup_some : ∀ {l : List (κ × ν)} {a : κ} {j : Nat} {x : ν}, (l.map (·.1)).Nodup → l[j]? = some (a, x) → mlook a l = some x
  | [], _, _, _, _, h => by simp at h
  | p :: r, a, 0, x, hn, h => by
    simp only [List.getElem?_cons_zero, Option.some.injEq] at h
    subst h
    rw [mlook, if_pos rfl]
  | p :: r, a, j + 1, x, hn, h => by
    simp only [List.map_cons, List.nodup_cons] at hn
    rw [List.getElem?_cons_succ] at h
    have hm : a ∈ r.map (·.1) := List.mem_map.2 ⟨(a, x), List.mem_of_getElem? h, rfl⟩
    have h1 : ¬ p.1 = a := fun e => hn.1 (e ▸ hm)
    rw [mlook, if_neg h1]
    exact lookup_some hn.2 h
/-- What a look-up tells. -/
def Code.at_ (C : Code P k κ ν) (z : Value) (c : Bool) : Option ν → Value
  | some x => if c then .tuple #[C.vv x, .bool true] else C.vv x
  | none => if c then .tuple #[z, .bool false] else z
variable {t e : TypeId}
theorem St.mp_get (h : St H (Mp C g l :: fr) w) (c : Bool) (ht : P.underlying t = some (.map k e)) {z : Value} (hz : (zeroValue e).run P w = .ok z w) (a : κ) :
    (Instr.lookup t (.map (some g)) (C.kv a) c).run P w = .ok (C.at_ z c (mlook a l)) w := h.get (fun S hS => by
  obtain ⟨⟨es, clock, hb, hst, he⟩, _⟩ := hS
  rcases C.kinds.find w ⟨a, rfl⟩ es.toList (keys_of he) with ⟨h1, h2⟩ | ⟨j, e0, h1, h2, h3⟩
  · rw [lookup_none (none_of he h2)]
    cases c <;> simp [Code.at_, Instr.lookup, run_underlying ht, MapKept.run_getObj_map hb, C.kinds.check w _ ⟨a, rfl⟩, h1, hz, Result.andThen]
  · obtain ⟨x, hx, hv⟩ := some_of he h2 h3
    rw [lookup_some (nodup_of hst he) hx]
    cases c <;> simp [Code.at_, Instr.lookup, run_underlying ht, MapKept.run_getObj_map hb, C.kinds.check w _ ⟨a, rfl⟩, h1, hv, Result.andThen])
/-- A nil map has nothing. -/
theorem nilmap_get (C : Code P k κ ν) (c : Bool) (ht : P.underlying t = some (.map k e)) {z : Value} (hz : (zeroValue e).run P w = .ok z w) (a : κ) :
    (Instr.lookup t (.map none) (C.kv a) c).run P w = .ok (C.at_ z c none) w := by
  rcases C.kinds.find w ⟨a, rfl⟩ [] (fun _ h => by simp at h) with ⟨h1, h2⟩ | ⟨j, e0, h1, h2, h3⟩
  · cases c <;> simp [Code.at_, Instr.lookup, run_underlying ht, C.kinds.check w _ ⟨a, rfl⟩, h1, hz, Result.andThen]
  · simp at h2
theorem St.mp_turn (h : St H (Mp C g l :: fr) w) (es' : Array MapEntry) (clock' : Nat) (l' : List (κ × ν)) (hs : Stamped es' clock') (he : es'.toList.map ent = l'.map C.enc) : St H (Mp C g l' :: fr) (setBlock w g (.map es' clock')) :=
  h.turn (by simp [setBlock]) (fun S hS => ⟨S, ⟨⟨es', clock', by obtain ⟨⟨es, clock, hb, _⟩, _⟩ := hS; exact Go.ChangeMaps.heap_setBlock_same hb _, hs, he⟩, hS.2⟩, fun j hj => .inl hj, fun j _ hj => by
    obtain ⟨⟨es, clock, hb, _⟩, hS⟩ := hS
    exact Go.ChangeMaps.heap_setBlock_other hb _ (fun e => hj ((hS j).2 e))⟩)
theorem env_setBlock (w : World) (g : Nat) (o : Obj) : Env w (setBlock w g o) := ⟨rfl, rfl, rfl, by simp [setBlock]⟩
theorem map_upd : ∀ {l : List (κ × ν)} {a : κ} {j : Nat} {y : ν} (x : ν), (l.map (·.1)).Nodup → l[j]? = some (a, y) → l.map (fun p => if p.1 = a then (a, x) else p) = l.set j (a, x)
  | [], _, _, _, _, _, h => by simp at h
  | p :: r, a, 0, y, x, hn, h => by
    simp only [List.getElem?_cons_zero, Option.some.injEq] at h
    subst h
    simp only [List.map_cons, List.nodup_cons] at hn
    simp only [List.map_cons, if_pos, List.set_cons_zero]
    congr 1
    refine (List.map_congr_left (fun q hq => ?_)).trans (List.map_id' r)
    rw [if_neg (fun (e' : q.1 = a) => hn.1 (e' ▸ (List.mem_map.2 ⟨q, hq, rfl⟩ : q.1 ∈ r.map (·.1))))]
  | p :: r, a, j + 1, y, x, hn, h => by
    simp only [List.map_cons, List.nodup_cons] at hn
    rw [List.getElem?_cons_succ] at h
    have hm : a ∈ r.map (·.1) := List.mem_map.2 ⟨(a, y), List.mem_of_getElem? h, rfl⟩
    have h1 : ¬ p.1 = a := fun e => hn.1 (e ▸ hm)
    rw [List.map_cons, if_neg h1, map_upd x hn.2 h, List.set_cons_succ]
theorem St.mp_put (h : St H (Mp C g l :: fr) w) (ht : P.underlying t = some (.map k e)) (a : κ) (x : ν) :
    ∃ w', (Instr.mapUpdate t (.map (some g)) (C.kv a) (C.vv x)).run P w = .ok () w' ∧ St H (Mp C g (mput a x l) :: fr) w' ∧ Env w w' := by
  have hall := h.get (φ := ∃ es clock, w.heap[g]? = some (.map es clock) ∧ Stamped es clock ∧ es.toList.map ent = l.map C.enc) (fun S hS => hS.1)
  obtain ⟨es, clock, hb, hst, he⟩ := hall
  rcases C.kinds.find w ⟨a, rfl⟩ es.toList (keys_of he) with ⟨h1, h2⟩ | ⟨j, e0, h1, h2, h3⟩
  · refine ⟨setBlock w g (.map (es.push ⟨C.kv a, C.vv x, clock⟩) (clock + 1)), ?_, h.mp_turn _ _ _ (stamped_push hst h2) ?_, env_setBlock _ _ _⟩
    · simp [Instr.mapUpdate, run_underlying ht, MapKept.run_getObj_map hb, C.kinds.check w false ⟨a, rfl⟩, h1, MapKept.run_setObj_map _ hb, Result.andThen, setBlock]
    · unfold mput
      rw [if_neg (none_of he h2)]
      simp [he, ent, Code.enc]
  · obtain ⟨y, hx, hv⟩ := some_of he h2 h3
    have hj : es[j]? = some e0 := by simpa using h2
    have hlist : (es.modify j (fun e' => { e' with key := C.kv a, val := C.vv x })).toList = es.toList.set j { e0 with key := C.kv a, val := C.vv x } := by
      rw [Array.toList_modify, Go.ChangeMaps.modify_eq_set _ _ _ _ h2]
    refine ⟨setBlock w g (.map (es.modify j (fun e' => { e' with key := C.kv a, val := C.vv x })) clock), ?_, h.mp_turn _ _ _ (stamped_modify hst _ _ (fun _ _ => rfl) (fun e' _ he' => ?_)) ?_, env_setBlock _ _ _⟩
    · simp [Instr.mapUpdate, run_underlying ht, MapKept.run_getObj_map hb, C.kinds.check w false ⟨a, rfl⟩, h1, hj, h3, C.kinds.stays w ⟨a, rfl⟩, MapKept.run_setObj_map _ hb, Result.andThen, setBlock]
    · rw [hj] at he'; cases he'; exact h3.symm
    · rw [hlist]
      unfold mput
      rw [if_pos (List.mem_map.2 ⟨(a, y), List.mem_of_getElem? hx, rfl⟩), map_upd x (nodup_of hst he) hx, List.map_set, List.map_set, he]
      rfl
theorem filter_del : ∀ {l : List (κ × ν)} {a : κ} {j : Nat} {y : ν}, (l.map (·.1)).Nodup → l[j]? = some (a, y) → mdel a l = l.eraseIdx j
  | [], _, _, _, _, h => by simp at h
  | p :: r, a, 0, y, hn, h => by
    simp only [List.getElem?_cons_zero, Option.some.injEq] at h
    subst h
    simp only [List.map_cons, List.nodup_cons] at hn
    unfold mdel
    rw [List.filter_cons, if_neg (by simp), List.eraseIdx_cons_zero]
    exact List.filter_eq_self.2 (fun q hq => decide_eq_true (fun (e' : q.1 = a) => hn.1 (e' ▸ (List.mem_map.2 ⟨q, hq, rfl⟩ : q.1 ∈ r.map (·.1)))))
  | p :: r, a, j + 1, y, hn, h => by
    simp only [List.map_cons, List.nodup_cons] at hn
    rw [List.getElem?_cons_succ] at h
    have hm : a ∈ r.map (·.1) := List.mem_map.2 ⟨(a, y), List.mem_of_getElem? h, rfl⟩
    have h1 : p.1 ≠ a := fun e => hn.1 (e ▸ hm)
    have ih := filter_del hn.2 h
    unfold mdel at ih ⊢
    rw [List.filter_cons, if_pos (decide_eq_true h1), ih, List.eraseIdx_cons_succ]
theorem St.mp_del {ty : TypeId} (h : St H (Mp C g l :: fr) w) (ht : P.underlying t = some (.map k e)) (a : κ) :
    ∃ w', (Builtin.delete_ #[t, k] ty #[.map (some g), C.kv a]).run P w = .ok (.tuple #[]) w' ∧ St H (Mp C g (mdel a l) :: fr) w' ∧ Env w w' := by
  obtain ⟨es, clock, hb, hst, he⟩ := h.get (φ := ∃ es clock, w.heap[g]? = some (.map es clock) ∧ Stamped es clock ∧ es.toList.map ent = l.map C.enc) (fun S hS => hS.1)
  rcases C.kinds.find w ⟨a, rfl⟩ es.toList (keys_of he) with ⟨h1, h2⟩ | ⟨j, e0, h1, h2, h3⟩
  · refine ⟨setBlock w g (.map es clock), ?_, h.mp_turn _ _ _ hst ?_, env_setBlock _ _ _⟩
    · simp [Builtin.delete_, run_underlying ht, MapKept.run_getObj_map hb, C.kinds.check w _ ⟨a, rfl⟩, h1, MapKept.run_setObj_map _ hb, Result.andThen, setBlock]
    · have hn := none_of he h2
      have hfs : mdel a l = l := List.filter_eq_self.2 (fun q hq => decide_eq_true (fun (e' : q.1 = a) => hn (e' ▸ (List.mem_map.2 ⟨q, hq, rfl⟩ : q.1 ∈ l.map (·.1)))))
      rw [hfs, he]
  · obtain ⟨y, hx, hv⟩ := some_of he h2 h3
    have hjl : j < es.toList.length := (List.getElem?_eq_some_iff.1 h2).1
    have hjs : j < es.size := by simpa using hjl
    have hsub : (es.eraseIdxIfInBounds j).toList = es.toList.eraseIdx j := by
      unfold Array.eraseIdxIfInBounds
      rw [dif_pos hjs]
      simp
    refine ⟨setBlock w g (.map (es.eraseIdxIfInBounds j) clock), ?_, h.mp_turn _ _ _ (stamped_erase hst j) ?_, env_setBlock _ _ _⟩
    · simp [Builtin.delete_, run_underlying ht, MapKept.run_getObj_map hb, C.kinds.check w _ ⟨a, rfl⟩, h1, MapKept.run_setObj_map _ hb, Result.andThen, setBlock]
    · rw [hsub, filter_del (nodup_of hst he) hx, Go.ChangeMaps.map_eraseIdx, Go.ChangeMaps.map_eraseIdx, he]
theorem St.mp_clear {ty : TypeId} (h : St H (Mp C g l :: fr) w) (ht : P.underlying t = some (.map k e)) :
    ∃ w', (Builtin.clear_ #[t] ty #[.map (some g)]).run P w = .ok (.tuple #[]) w' ∧ St H (Mp C g [] :: fr) w' ∧ Env w w' := by
  obtain ⟨es, clock, hb, hst, he⟩ := h.get (φ := ∃ es clock, w.heap[g]? = some (.map es clock) ∧ Stamped es clock ∧ es.toList.map ent = l.map C.enc) (fun S hS => hS.1)
  refine ⟨setBlock w g (.map #[] clock), ?_, h.mp_turn _ _ _ (stamped_empty clock) rfl, env_setBlock _ _ _⟩
  simp [Builtin.clear_, run_underlying ht, MapKept.run_getObj_map hb, MapKept.run_setObj_map _ hb, Result.andThen, setBlock]
theorem St.mp_len {ty : TypeId} (h : St H (Mp C g l :: fr) w) (ht : P.underlying t = some (.map k e)) :
    (Builtin.len_ #[t] ty #[.map (some g)]).run P w = .ok (.int .i64 l.length) w := h.get (fun S hS => by
  obtain ⟨⟨es, clock, hb, hst, he⟩, _⟩ := hS
  have : es.size = l.length := by have := congrArg List.length he; simpa using this
  simp [Builtin.len_, run_underlying ht, MapKept.run_getObj_map hb, Result.andThen, goInt, this])

/-! ### At the operations -/
variable {ops : Array Oper} {rest : List Oper} {o : Oper} {a : Act} {Q : Exit → Act → World → Prop}
theorem wpList_mget (hst : St H (Mp C g l :: fr) w) (hg : o.guard = none) (m x : Operand) (c : Bool) (hop : o.op = Op.lookup t m x c) (ht : P.underlying t = some (.map k e)) {z : Value} (hz : (zeroValue e).run P w = .ok z w)
    (hm : a.eval m = .map (some g)) (y : κ) (hx : a.eval x = C.kv y) (hK : wpList P ops Q rest (a.put o.dst (C.at_ z c (mlook y l))) w) : wpList P ops Q (o :: rest) a w := by
  refine wpList_plain hg fun K' hK' => ?_
  have hrun := hst.mp_get c ht hz y
  unfold Oper.wp
  simp [execOp, hop, hm, hx, hrun, Result.andThen]
  exact hK' _ _ hK
theorem wpList_mput (hst : St H (Mp C g l :: fr) w) (hg : o.guard = none) (m x u : Operand) (hop : o.op = Op.mapUpdate t m x u) (ht : P.underlying t = some (.map k e))
    (hm : a.eval m = .map (some g)) (y : κ) (hx : a.eval x = C.kv y) (v : ν) (hu : a.eval u = C.vv v) (hK : ∀ w', St H (Mp C g (mput y v l) :: fr) w' → Env w w' → wpList P ops Q rest (a.put o.dst undef) w') : wpList P ops Q (o :: rest) a w := by
  refine wpList_plain hg fun K' hK' => ?_
  obtain ⟨w', hrun, h1, h2⟩ := hst.mp_put ht y v
  unfold Oper.wp
  simp [execOp, hop, hm, hx, hu, hrun, Result.andThen]
  exact hK' _ _ (hK w' h1 h2)
theorem wpList_mdel (hst : St H (Mp C g l :: fr) w) (hg : o.guard = none) (m x : Operand) (hop : o.op = Op.call { callee := Callee.builtin Builtin.delete, args := #[m, x], argTypes := #[t, k] }) (ht : P.underlying t = some (.map k e))
    (hm : a.eval m = .map (some g)) (y : κ) (hx : a.eval x = C.kv y) (hK : ∀ w', St H (Mp C g (mdel y l) :: fr) w' → Env w w' → wpList P ops Q rest (a.put o.dst (.tuple #[])) w') : wpList P ops Q (o :: rest) a w := by
  refine wpList_plain hg fun K' hK' => ?_
  obtain ⟨w', hrun, h1, h2⟩ := hst.mp_del (ty := o.type) ht y
  unfold Oper.wp
  simp [execOp, hop, resolve, invoke, builtin, hm, hx, hrun, Result.andThen]
  exact hK' _ _ (hK w' h1 h2)
theorem wpList_mclear (hst : St H (Mp C g l :: fr) w) (hg : o.guard = none) (m : Operand) (hop : o.op = Op.call { callee := Callee.builtin Builtin.clear, args := #[m], argTypes := #[t] }) (ht : P.underlying t = some (.map k e))
    (hm : a.eval m = .map (some g)) (hK : ∀ w', St H (Mp C g ([] : List (κ × ν)) :: fr) w' → Env w w' → wpList P ops Q rest (a.put o.dst (.tuple #[])) w') : wpList P ops Q (o :: rest) a w := by
  refine wpList_plain hg fun K' hK' => ?_
  obtain ⟨w', hrun, h1, h2⟩ := hst.mp_clear (ty := o.type) ht
  unfold Oper.wp
  simp [execOp, hop, resolve, invoke, builtin, hm, hrun, Result.andThen]
  exact hK' _ _ (hK w' h1 h2)
theorem wpList_mlen (hst : St H (Mp C g l :: fr) w) (hg : o.guard = none) (m : Operand) (hop : o.op = Op.call { callee := Callee.builtin Builtin.len, args := #[m], argTypes := #[t] }) (ht : P.underlying t = some (.map k e))
    (hm : a.eval m = .map (some g)) (hK : wpList P ops Q rest (a.put o.dst (.int .i64 l.length)) w) : wpList P ops Q (o :: rest) a w := by
  refine wpList_plain hg fun K' hK' => ?_
  have hrun := hst.mp_len (ty := o.type) ht
  unfold Oper.wp
  simp [execOp, hop, resolve, invoke, builtin, hm, hrun, Result.andThen]
  exact hK' _ _ hK

/-! ### Range -/
/-- A map under way: the entries that are still to come. -/
def Rg (C : Code P k κ ν) (g r : Nat) (l left : List (κ × ν)) : HA where
  at_ := fun w S => (g ≠ r ∧ ∃ es clock since seen c0, w.heap[g]? = some (.map es clock) ∧ Stamped es clock ∧ es.toList.map ent = l.map C.enc ∧ w.heap[r]? = some (.mapIter (some g) since seen c0) ∧
    (∀ x ∈ es.toList, x.born < since) ∧ since ≤ c0 ∧ since ≤ clock ∧ (leftOf es seen).toList.map ent = left.map C.enc) ∧ ∀ j, S j ↔ (j = g ∨ j = r)
  move := fun ⟨⟨hne, es, clock, since, seen, c0, h1, h2, h3, h4, r'⟩, hS⟩ hm => ⟨⟨hne, es, clock, since, seen, c0, (hm g ((hS g).2 (.inl rfl))).trans h1, h2, h3, (hm r ((hS r).2 (.inr rfl))).trans h4, r'⟩, hS⟩
  lt := fun ⟨⟨hne, es, clock, since, seen, c0, h1, h2, h3, h4, r'⟩, hS⟩ j hj => by
    rcases (hS j).1 hj with e | e
    · subst e; exact (Array.getElem?_eq_some_iff.1 h1).1
    · subst e; exact (Array.getElem?_eq_some_iff.1 h4).1
theorem St.rg_end {r : Nat} {left : List (κ × ν)} (h : St H (Rg C g r l left :: fr) w) : St H (Mp C g l :: fr) w :=
  h.turn (Nat.le_refl _) (fun S hS => ⟨fun j => j = g, by obtain ⟨⟨hne, es, clock, since, seen, c0, h1, h2, h3, r'⟩, hS⟩ := hS; exact ⟨⟨es, clock, h1, h2, h3⟩, fun _ => Iff.rfl⟩, fun j hj => .inl ((hS.2 j).2 (.inl hj)), fun _ _ _ => rfl⟩)
theorem wpList_mrange (hst : St H (Mp C g l :: fr) w) (hg : o.guard = none) (m : Operand) (hop : o.op = Op.range t m) (ht : P.underlying t = some (.map k e)) (hm : a.eval m = .map (some g))
    (hK : ∀ w', St H (Rg C g w.heap.size l l :: fr) w' → Env w w' → wpList P ops Q rest (a.put o.dst (.pointer (some ⟨w.heap.size, 0, none⟩))) w') : wpList P ops Q (o :: rest) a w := by
  refine wpList_plain hg fun K' hK' => ?_
  obtain ⟨es, clock, hb, hs, he⟩ := hst.get (φ := ∃ es clock, w.heap[g]? = some (.map es clock) ∧ Stamped es clock ∧ es.toList.map ent = l.map C.enc) (fun S hS => hS.1)
  have hrun := run_range_map w t k e g es clock ht hb
  have hlt := (Array.getElem?_eq_some_iff.1 hb).1
  unfold Oper.wp
  simp [execOp, hop, hm, hrun, Result.andThen]
  refine hK' _ _ (hK _ ?_ ((Env.refl w).alloc _))
  refine hst.turn (by simp) (fun S hS => ⟨fun j => j = g ∨ j = w.heap.size, ⟨⟨by omega, es, clock, clock, #[], clock, (heap_alloc_old w _ hlt).trans hb, hs, he, heap_alloc_new w _, ((stamped_iff es clock).1 hs).1, Nat.le_refl _, Nat.le_refl _, ?_⟩, fun _ => Iff.rfl⟩, ?_, fun j hj _ => heap_alloc_old w _ hj⟩)
  · rw [show leftOf es #[] = es by simp [leftOf], he]
  · rintro j (rfl | rfl)
    · exact .inl ((hS.2 _).2 rfl)
    · exact .inr (Nat.le_refl _)
theorem left_split {es : Array MapEntry} {clock : Nat} {seen : Array Nat} (hs : Stamped es clock) {x : MapEntry} {A B : List MapEntry} (h : (leftOf es seen).toList = A ++ x :: B) : (leftOf es (seen.push x.born)).toList = A ++ B := by
  have hnd : ((leftOf es seen).toList.map (·.born)).Nodup := by
    have h2 := ((stamped_iff es clock).1 hs).2.1
    refine h2.sublist (List.Sublist.map _ ?_)
    unfold leftOf
    rw [Array.toList_filter]
    exact List.filter_sublist
  have h3 : (leftOf es (seen.push x.born)).toList = (leftOf es seen).toList.filter (fun y => decide (y.born ≠ x.born)) := by
    unfold leftOf
    rw [Array.toList_filter, Array.toList_filter, List.filter_filter]
    refine List.filter_congr (fun y _ => ?_)
    rw [contains_push]
    by_cases hb : y.born = x.born <;> cases seen.contains y.born <;> simp [hb]
  rw [h3, h]
  rw [h] at hnd
  rw [List.map_append, List.map_cons, List.nodup_append] at hnd
  obtain ⟨_, h5, h6⟩ := hnd
  rw [List.nodup_cons] at h5
  rw [List.filter_append, List.filter_cons, if_neg (by simp)]
  congr 1
  · exact List.filter_eq_self.2 (fun y hy => decide_eq_true (h6 _ (List.mem_map.2 ⟨y, hy, rfl⟩) _ (List.mem_cons_self ..)))
  · exact List.filter_eq_self.2 (fun y hy => decide_eq_true (fun e' => h5.1 (e' ▸ (List.mem_map.2 ⟨y, hy, rfl⟩ : y.born ∈ B.map (·.born)))))
theorem wpList_mnext {r : Nat} {left : List (κ × ν)} (hst : St H (Rg C g r l left :: fr) w) (hg : o.guard = none) (it : Operand) (hop : o.op = Op.next it false) (hit : a.eval it = .pointer (some ⟨r, 0, none⟩))
    (hDone : left = [] → wpList P ops Q rest (a.put o.dst (.tuple #[.bool false])) w)
    (hMore : ∀ (pre post : List (κ × ν)) (p : κ × ν) (w' : World), left = pre ++ p :: post → St H (Rg C g r l (pre ++ post) :: fr) w' → Env w w' → (Instr.entry (.pointer (some ⟨r, 0, none⟩))).run P w' = .ok (.tuple #[C.kv p.1, C.vv p.2]) w' →
      wpList P ops Q rest (a.put o.dst (.tuple #[.bool true, C.kv p.1, C.vv p.2])) w') : wpList P ops Q (o :: rest) a w := by
  refine wpList_plain hg fun K' hK' => ?_
  obtain ⟨hne, es, clock, since, seen, c0, hb, hs, he, hr, hold, hsc, hsk, hleft⟩ := hst.get (φ := g ≠ r ∧ ∃ es clock since seen c0, w.heap[g]? = some (.map es clock) ∧ Stamped es clock ∧ es.toList.map ent = l.map C.enc ∧ w.heap[r]? = some (.mapIter (some g) since seen c0) ∧
    (∀ x ∈ es.toList, x.born < since) ∧ since ≤ c0 ∧ since ≤ clock ∧ (leftOf es seen).toList.map ent = left.map C.enc) (fun S hS => hS.1)
  unfold Oper.wp
  rcases run_next_at (P := P) w o.type r g since c0 seen es clock hr hb hold hsc with ⟨h0, hrun⟩ | ⟨x, hx, w1, hal, hrun⟩
  · simp [execOp, hop, hit, hrun, Result.andThen]
    refine hK' _ _ (hDone ?_)
    have : left.length = 0 := by have := congrArg List.length hleft; simp at this; omega
    exact List.length_eq_zero_iff.1 this
  · obtain ⟨A, B, hAB⟩ := List.append_of_mem hx
    have h1 := hleft
    rw [hAB, List.map_append, List.map_cons] at h1
    obtain ⟨pre, q, rfl, hpre, hq⟩ := List.map_eq_append_iff.1 h1.symm
    obtain ⟨p, post, rfl, hp, hpost⟩ := List.map_eq_cons_iff.1 hq
    simp [execOp, hop, hit, hrun, Result.andThen]
    have hk1 : x.key = C.kv p.1 := (congrArg Prod.fst hp).symm
    have hv1 : x.val = C.vv p.2 := (congrArg Prod.snd hp).symm
    have hg' : (setBlock w1 r (.mapIter (some g) since (seen.push x.born) clock)).heap[g]? = some (.map es clock) := by
      have : (setBlock w1 r (.mapIter (some g) since (seen.push x.born) clock)).heap[g]? = w1.heap[g]? := by simp [setBlock, Array.getElem?_setIfInBounds, hne.symm]
      rw [this]
      rcases hal with rfl | rfl <;> exact hb
    have hr' : (setBlock w1 r (.mapIter (some g) since (seen.push x.born) clock)).heap[r]? = some (.mapIter (some g) since (seen.push x.born) clock) := by
      have hlt := (Array.getElem?_eq_some_iff.1 hr).1
      rcases hal with rfl | rfl <;> simp [setBlock, Array.getElem?_setIfInBounds, hlt]
    have hen := run_entry_at (P := P) _ r g since seen es clock x hr' hg' (mem_left hx).1 ((stamped_iff es clock).1 hs).2.1
    rw [hk1, hv1] at hen
    rw [hk1, hv1]
    refine hK' _ _ (hMore pre post p _ rfl ?_ ?_ hen)
    · refine hst.turn ?_ (fun S hS => ⟨S, ⟨⟨hne, es, clock, since, seen.push x.born, clock, hg', hs, he, hr', hold, hsk, hsk, ?_⟩, hS.2⟩, fun j hj => .inl hj, ?_⟩)
      · rcases hal with rfl | rfl <;> simp [setBlock]
      · rw [left_split hs hAB, List.map_append, List.map_append, hpre, hpost]
      · intro j hj hn
        have : j ≠ r := fun e => hn ((hS.2 j).2 (.inr e))
        rcases hal with rfl | rfl <;> simp [setBlock, Array.getElem?_setIfInBounds, this.symm] <;> rfl
    · rcases hal with rfl | rfl
      · exact env_setBlock _ _ _
      · exact (Env.refl w).drew.trans (env_setBlock _ _ _)
end
end Go.Cw
