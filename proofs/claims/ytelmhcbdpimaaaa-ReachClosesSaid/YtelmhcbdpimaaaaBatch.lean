/- Batches: whether one may be; whether two are the same. -/
import Derived.Test.YtelmhcbdpimaaaaCmds
set_option linter.unusedVariables false
set_option linter.unusedSimpArgs false
namespace Go.Proofs.Ytelmhcbdpimaaaa
open Go.RowKit Go.Cw Go.Fl
attribute [local go_sem] run_store_float
def batchErr (l : List Cm) : Int := if 8 < l.length then 5 else errB (l.all cmOk) 12
theorem all_stepC {k : Nat} (l : List Cm) (h : k < l.length) : (l.drop k).all cmOk = (cmOk l[k] && (l.drop (k + 1)).all cmOk) := by
  rw [List.drop_eq_getElem_cons h, List.all_cons]
set_option maxRecDepth 100000 in
set_option maxHeartbeats 1600000 in
theorem batchCheck_any (A : Option Addr) (n c : Nat) (l : List Cm) (hw : ∀ x ∈ l, CmW x) (w : World) (hx : Rw w 3 (.slice A n c) (cml l)) :
    Calls Try.prog 116 #[.slice A n c] w fun e w' => e = .returned (.int .i64 (batchErr l)) ∧ Below w.heap.size w w' := by
  obtain ⟨A', n', c', hv, hl, hnc, hcM⟩ := hx.form
  cases hv
  rw [cml_len] at hl
  obtain rfl : n = l.length := by omega
  clear hl
  by_cases h8 : 8 < l.length
  · have hR : batchErr l = 5 := if_pos h8
    rw [hR]
    have h8I : (8 : Int) < (l.length : Int) := by omega
    clear hR
    go_enter Try.func116, Try.ntmps116
    go_wp2_with fail
    go_ret
    exact ⟨rfl, Below.refl _ _⟩
  · have hR : batchErr l = errB (l.all cmOk) 12 := if_neg h8
    rw [hR]
    have h8I : ¬ (8 : Int) < (l.length : Int) := by omega
    clear hR
    have hrd := hx.rd
    generalize hG : l.all cmOk = G at *
    replace hG := Lib.hid hG
    go_enter Try.func116, Try.ntmps116
    go_wp2_with fail
    go_loopw [11] (fun s11 wr => ∃ k : Nat, k ≤ l.length ∧ s11 = .int .i64 (k : Int) ∧ St (snap w) [] wr ∧ Env w wr ∧ Hid ((l.drop k).all cmOk = G)) (fun s11 _ => l.length - (intOf s11).toNat)
    case atStart => exact ⟨0, by omega, rfl, St.start w, Env.refl w, hG⟩
    case round =>
      obtain ⟨k, hk, rfl, hst, hen, hall⟩ := hrel
      clear hG
      by_cases hlt : k < l.length
      · obtain ⟨b, off, rfl, hcells⟩ := hrd.cells hst (by omega)
        have q0 := hcells _ _ (cml_get l k hlt).1
        have q1 := hcells _ _ (cml_get l k hlt).2.1
        have q2 := hcells _ _ (cml_get l k hlt).2.2
        rw [← Nat.add_assoc] at q1 q2
        have hc := hw _ (List.getElem_mem hlt)
        have hstep := all_stepC l hlt
        rw [hall.out] at hstep
        obtain ⟨x, HX⟩ : ∃ x, Hid (x = l[k]) := ⟨_, Lib.hid rfl⟩
        rw [← HX.out] at q0 q1 q2 hc hstep
        obtain ⟨kk, s, f⟩ := x
        simp only at q0 q1 q2
        have hst1 := hst.alloc (.cells #[.int .i64 kk, .string s, .float .f64 f] 90)
        have en1 := hen.alloc (.cells #[.int .i64 kk, .string s, .float .f64 f] 90)
        have hck := fun w => check_any (kk, s, f) hc w
        cases hok : cmOk (kk, s, f) with
        | true =>
          rw [hok] at hck hstep
          replace hck := Lib.hid hck
          replace hstep := Lib.hid hstep
          clear hcells hok
          go_wp2_with fail
          refine (hck.out _).mono ?_
          rintro e w2 ⟨rfl, hb2⟩
          rw [show errB true 12 = 0 from rfl]
          go_wp2_with fail
          go_roundw
          case rel => exact ⟨k + 1, by omega, by go_num, hst1.below hb2, en1.trans (bel_env hb2), Lib.hid (by have := hstep.out; rw [Bool.true_and] at this; exact this.symm)⟩
          case measure => simp [intOf]; omega
        | false =>
          rw [hok] at hck hstep
          replace hck := Lib.hid hck
          rw [Bool.false_and] at hstep
          subst hstep
          clear hcells hok
          go_wp2_with fail
          refine (hck.out _).mono ?_
          rintro e w2 ⟨rfl, hb2⟩
          rw [show errB false 12 = 12 from rfl]
          go_wp2_with fail
          go_ret
          exact ⟨rfl, (hst1.below hb2).toBelow (en1.trans (bel_env hb2))⟩
      · obtain rfl : k = l.length := by omega
        have hG2 := hall.out
        rw [List.drop_length] at hG2
        simp only [List.all_nil] at hG2
        subst hG2
        clear hall
        go_wp2_with fail
        go_ret
        exact ⟨rfl, hst.toBelow hen⟩
set_option maxRecDepth 100000 in
set_option maxHeartbeats 1600000 in
theorem refBatch_any (A : Option Addr) (n c : Nat) (l : List Cm) (hw : ∀ x ∈ l, CmW x) (w : World) (hx : Rw w 3 (.slice A n c) (cml l)) :
    Calls Try.prog 102 #[.slice A n c] w fun e w' => e = .returned (.int .i64 (batchErr l)) ∧ Below w.heap.size w w' := by
  obtain ⟨A', n', c', hv, hl, hnc, hcM⟩ := hx.form
  cases hv
  rw [cml_len] at hl
  obtain rfl : n = l.length := by omega
  clear hl
  by_cases h8 : 8 < l.length
  · have hR : batchErr l = 5 := if_pos h8
    rw [hR]
    have h8I : (8 : Int) < (l.length : Int) := by omega
    clear hR
    go_enter Try.func102, Try.ntmps102
    go_wp2_with fail
    go_ret
    exact ⟨rfl, Below.refl _ _⟩
  · have hR : batchErr l = errB (l.all cmOk) 12 := if_neg h8
    rw [hR]
    have h8I : ¬ (8 : Int) < (l.length : Int) := by omega
    clear hR
    have hrd := hx.rd
    generalize hG : l.all cmOk = G at *
    replace hG := Lib.hid hG
    go_enter Try.func102, Try.ntmps102
    go_wp2_with fail
    go_loopw [3] (fun s11 wr => ∃ k : Nat, k ≤ l.length ∧ s11 = .int .i64 (k : Int) ∧ St (snap w) [] wr ∧ Env w wr ∧ Hid ((l.drop k).all cmOk = G)) (fun s11 _ => l.length - (intOf s11).toNat)
    case atStart => exact ⟨0, by omega, rfl, St.start w, Env.refl w, hG⟩
    case round =>
      obtain ⟨k, hk, rfl, hst, hen, hall⟩ := hrel
      clear hG
      by_cases hlt : k < l.length
      · obtain ⟨b, off, rfl, hcells⟩ := hrd.cells hst (by omega)
        have q0 := hcells _ _ (cml_get l k hlt).1
        have q1 := hcells _ _ (cml_get l k hlt).2.1
        have q2 := hcells _ _ (cml_get l k hlt).2.2
        rw [← Nat.add_assoc] at q1 q2
        have hc := hw _ (List.getElem_mem hlt)
        have hstep := all_stepC l hlt
        rw [hall.out] at hstep
        obtain ⟨x, HX⟩ : ∃ x, Hid (x = l[k]) := ⟨_, Lib.hid rfl⟩
        rw [← HX.out] at q0 q1 q2 hc hstep
        obtain ⟨kk, s, f⟩ := x
        simp only at q0 q1 q2
        have hck := fun w => right6_any (kk, s, f) hc w
        cases hok : cmOk (kk, s, f) with
        | true =>
          rw [hok] at hck hstep
          replace hck := Lib.hid hck
          replace hstep := Lib.hid hstep
          clear hcells hok
          go_wp2_with fail
          refine (hck.out _).mono ?_
          rintro e w2 ⟨rfl, hb2⟩
          go_wp2_with fail
          go_roundw
          case rel => exact ⟨k + 1, by omega, by go_num, hst.below hb2, hen.trans (bel_env hb2), Lib.hid (by have := hstep.out; rw [Bool.true_and] at this; exact this.symm)⟩
          case measure => simp [intOf]; omega
        | false =>
          rw [hok] at hck hstep
          replace hck := Lib.hid hck
          rw [Bool.false_and] at hstep
          subst hstep
          clear hcells hok
          go_wp2_with fail
          refine (hck.out _).mono ?_
          rintro e w2 ⟨rfl, hb2⟩
          go_wp2_with fail
          go_ret
          exact ⟨rfl, (hst.below hb2).toBelow (hen.trans (bel_env hb2))⟩
      · obtain rfl : k = l.length := by omega
        have hG2 := hall.out
        rw [List.drop_length] at hG2
        simp only [List.all_nil] at hG2
        subst hG2
        clear hall
        go_wp2_with fail
        go_ret
        exact ⟨rfl, hst.toBelow hen⟩
def cmdsSame (a b : List Cm) : Bool := decide (a.length = b.length) && (a.zip b).all (fun p => cmSame p.1 p.2)
theorem zip_step (a b : List Cm) (k : Nat) (h : k < a.length) (h2 : k < b.length) : ((a.drop k).zip (b.drop k)).all (fun p => cmSame p.1 p.2) = (cmSame a[k] b[k] && ((a.drop (k + 1)).zip (b.drop (k + 1))).all (fun p => cmSame p.1 p.2)) := by
  rw [List.drop_eq_getElem_cons h, List.drop_eq_getElem_cons h2, List.zip_cons_cons, List.all_cons]
set_option maxRecDepth 100000 in
set_option maxHeartbeats 1600000 in
theorem refCmds_any (u v : Value) (xs ys : List Cm) (hwx : ∀ x ∈ xs, CmW x) (hwy : ∀ x ∈ ys, CmW x) (w : World) (hx : Rw w 3 u (cml xs)) (hy : Rw w 3 v (cml ys)) :
    Calls Try.prog 60 #[u, v] w fun e w' => e = .returned (.bool (cmdsSame xs ys)) ∧ Below w.heap.size w w' := by
  obtain ⟨A, n, c, rfl, hl, hnc, hcM⟩ := hx.form
  rw [cml_len] at hl
  obtain rfl : n = xs.length := by omega
  obtain ⟨A', n', c', rfl, hl', hnc', hcM'⟩ := hy.form
  rw [cml_len] at hl'
  obtain rfl : n' = ys.length := by omega
  clear hl hl'
  by_cases hlen : xs.length = ys.length
  · have bl : ((xs.length : Int) != (ys.length : Int)) = false := by rw [bne_eq_false_iff_eq]; omega
    have hR : cmdsSame xs ys = (xs.zip ys).all (fun p => cmSame p.1 p.2) := by unfold cmdsSame; rw [decide_eq_true hlen, Bool.true_and]
    rw [hR]
    clear hR
    have hrx := hx.rd
    have hry := hy.rd
    generalize hG : (xs.zip ys).all (fun p => cmSame p.1 p.2) = G at *
    replace hG := Lib.hid hG
    replace hlen := Lib.hid hlen
    go_enter Try.func60, Try.ntmps60
    go_wp2_with fail
    go_loopw [5] (fun s5 wr => ∃ k : Nat, k ≤ xs.length ∧ s5 = .int .i64 (k : Int) ∧ St (snap w) [] wr ∧ Env w wr ∧ Hid (((xs.drop k).zip (ys.drop k)).all (fun p => cmSame p.1 p.2) = G)) (fun s5 _ => xs.length - (intOf s5).toNat)
    case atStart => exact ⟨0, by omega, rfl, St.start w, Env.refl w, hG⟩
    case round =>
      obtain ⟨k, hk, rfl, hst, hen, hall⟩ := hrel
      clear hG
      by_cases hlt : k < xs.length
      · have hlt2 : k < ys.length := by rw [← hlen.out]; exact hlt
        obtain ⟨b, off, rfl, hcx⟩ := hrx.cells hst (by omega)
        obtain ⟨b', off', rfl, hcy⟩ := hry.cells hst (by omega)
        have q0 := hcx _ _ (cml_get xs k hlt).1
        have q1 := hcx _ _ (cml_get xs k hlt).2.1
        have q2 := hcx _ _ (cml_get xs k hlt).2.2
        have r0 := hcy _ _ (cml_get ys k hlt2).1
        have r1 := hcy _ _ (cml_get ys k hlt2).2.1
        have r2 := hcy _ _ (cml_get ys k hlt2).2.2
        rw [← Nat.add_assoc] at q1 q2 r1 r2
        have hwxk := hwx _ (List.getElem_mem hlt)
        have hwyk := hwy _ (List.getElem_mem hlt2)
        have hstep := zip_step xs ys k hlt hlt2
        rw [hall.out] at hstep
        obtain ⟨x, HX⟩ : ∃ x, Hid (x = xs[k]) := ⟨_, Lib.hid rfl⟩
        obtain ⟨y, HY⟩ : ∃ y, Hid (y = ys[k]) := ⟨_, Lib.hid rfl⟩
        rw [← HX.out] at q0 q1 q2 hwxk hstep
        rw [← HY.out] at r0 r1 r2 hwyk hstep
        obtain ⟨k1, s1, f1⟩ := x
        obtain ⟨k2, s2, f2⟩ := y
        simp only at q0 q1 q2 r0 r1 r2
        have hcs := fun w => cmSame_any (k1, s1, f1) (k2, s2, f2) hwxk hwyk w
        have hk0 : (0 : Int) ≤ (k : Int) := by omega
        have hkx : (k : Int) < (xs.length : Int) := by omega
        have hky : (k : Int) < (ys.length : Int) := by omega
        have hsd := hst.drew
        have en1 := hen.drew
        cases hok : cmSame (k1, s1, f1) (k2, s2, f2) with
        | true =>
          rw [hok, Bool.true_and] at hstep
          rw [hok] at hcs
          replace hcs := Lib.hid hcs
          replace hstep := Lib.hid hstep
          clear hcx hcy hok
          go_wp2_with fail
          go_still_tail 8, (by kernel_rfl)
          change wpList _ _ _ _ _ wr.drew
          go_wp2_with fail
          refine (hcs.out _).mono ?_
          rintro e w2 ⟨rfl, hb2⟩
          go_wp2_with fail
          go_roundw
          case rel => exact ⟨k + 1, by omega, by go_num, hsd.below hb2, en1.trans (bel_env hb2), Lib.hid hstep.out.symm⟩
          case measure => simp [intOf]; omega
        | false =>
          rw [hok, Bool.false_and] at hstep
          rw [hok] at hcs
          replace hcs := Lib.hid hcs
          subst hstep
          clear hcx hcy hok
          go_wp2_with fail
          go_still_tail 8, (by kernel_rfl)
          change wpList _ _ _ _ _ wr.drew
          go_wp2_with fail
          refine (hcs.out _).mono ?_
          rintro e w2 ⟨rfl, hb2⟩
          go_wp2_with fail
          go_ret
          exact ⟨rfl, (hsd.below hb2).toBelow (en1.trans (bel_env hb2))⟩
      · obtain rfl : k = xs.length := by omega
        have hG2 := hall.out
        rw [List.drop_length, List.zip_nil_left] at hG2
        simp only [List.all_nil] at hG2
        subst hG2
        clear hall
        go_wp2_with fail
        go_ret
        exact ⟨rfl, hst.toBelow hen⟩
  · have bl : ((xs.length : Int) != (ys.length : Int)) = true := by rw [bne_iff_ne]; omega
    have hR : cmdsSame xs ys = false := by unfold cmdsSame; rw [decide_eq_false hlen, Bool.false_and]
    rw [hR]
    clear hR
    replace hlen := Lib.hid hlen
    go_enter Try.func60, Try.ntmps60
    go_wp2_with fail
    go_ret
    exact ⟨rfl, Below.refl _ _⟩
end Go.Proofs.Ytelmhcbdpimaaaa
