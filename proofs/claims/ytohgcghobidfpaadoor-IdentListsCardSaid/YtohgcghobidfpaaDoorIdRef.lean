/- The texts of ids: the walk of the reference's Read. -/
import Derived.Test.YtohgcghobidfpaaDoorIdRead
set_option linter.unusedVariables false
set_option linter.unusedSimpArgs false
namespace Go.Proofs.YtohgcghobidfpaaDoor
open Go.RowKit Go.Cw
attribute [local go_sem ↓] eql_id neq_id
/-- What the reference's Read tells. -/
def RfR (l : List UInt8) (e : Ending) : Prop := match rdId l with
  | some a => e = .returned (.tuple #[.agg #[.int .i64 a.1, .int .i64 a.2], .bool true])
  | none => e = .returned (.tuple #[.agg #[.int .i64 0, .int .i64 0], .bool false])
theorem rd_short {l : List UInt8} (h : l.length < 3 ∨ 9 < l.length) : rdId l = none := by
  rw [← rf_rd]
  unfold rfId
  rw [if_pos h]
theorem rd_head {l : List UInt8} {b c : UInt8} (h0 : l[0]? = some b) (h1 : l[1]? = some c) (h : ¬ (c = 46 ∧ 48 ≤ b.toNat ∧ b.toNat ≤ 55)) : rdId l = none := by
  rw [← rf_rd]
  unfold rfId
  split
  · rfl
  · match l, h0, h1 with
    | x :: y :: r, h0, h1 =>
      simp only [List.getElem?_cons_zero, Option.some.injEq, List.getElem?_cons_succ] at h0 h1
      subst h0; subst h1
      simp only []
      rw [if_neg h]
theorem rd_digits {l : List UInt8} {b c : UInt8} (h0 : l[0]? = some b) (h1 : l[1]? = some c) (h : Lib.decFrom 0 (l.drop 2) = none) : rdId l = none := by
  rw [← rf_rd]
  unfold rfId
  split
  · rfl
  · match l, h0, h1 with
    | x :: y :: r, h0, h1 =>
      simp only [List.drop_succ_cons, List.drop_zero] at h
      simp only [h]
      split <;> rfl
theorem rd_all {l : List UInt8} {b c : UInt8} {n : Nat} (h0 : l[0]? = some b) (h1 : l[1]? = some c) (hl : ¬ (l.length < 3 ∨ 9 < l.length)) (hc : c = 46 ∧ 48 ≤ b.toNat ∧ b.toNat ≤ 55) (h : Lib.decFrom 0 (l.drop 2) = some n) :
    rdId l = if idOk ((b.toNat : Int) - 48, (n : Int)) = true ∧ idT ((b.toNat : Int) - 48, (n : Int)) = l then some ((b.toNat : Int) - 48, (n : Int)) else none := by
  rw [← rf_rd]
  unfold rfId
  rw [if_neg hl]
  match l, h0, h1 with
  | x :: y :: r, h0, h1 =>
    simp only [List.getElem?_cons_zero, Option.some.injEq, List.getElem?_cons_succ] at h0 h1
    subst h0; subst h1
    simp only [List.drop_succ_cons, List.drop_zero] at h
    simp only []
    rw [if_pos hc, h]
theorem dec_bad : ∀ (l : List UInt8) (acc j : Nat) (b : UInt8), l[j]? = some b → Lib.digitVal b = none → Lib.decFrom acc l = none
  | [], _, j, b, h, _ => by simp at h
  | x :: r, acc, 0, b, h, hb => by
    simp only [List.getElem?_cons_zero, Option.some.injEq] at h
    subst h
    simp only [Lib.decFrom, hb]
  | x :: r, acc, j + 1, b, h, hb => by
    simp only [List.getElem?_cons_succ] at h
    simp only [Lib.decFrom]
    cases Lib.digitVal x with
    | none => rfl
    | some d => exact dec_bad r _ j b h hb
theorem dec_grow : ∀ (l : List UInt8) (acc n : Nat), Lib.decFrom acc l = some n → n < (acc + 1) * 10 ^ l.length
  | [], acc, n, h => by
    simp only [Lib.decFrom, Option.some.injEq] at h
    subst h
    simp
  | x :: r, acc, n, h => by
    simp only [Lib.decFrom] at h
    cases hd : Lib.digitVal x with
    | none => simp [hd] at h
    | some d =>
      simp only [hd] at h
      have h9 : d ≤ 9 := by
        unfold Lib.digitVal at hd
        split at hd
        · cases hd; omega
        · cases hd
      have := dec_grow r _ n h
      rw [List.length_cons, Nat.pow_succ]
      have h2 : (acc * 10 + d + 1) * 10 ^ r.length ≤ ((acc + 1) * 10) * 10 ^ r.length := Nat.mul_le_mul_right _ (by omega)
      rw [Nat.mul_assoc, Nat.mul_comm 10] at h2
      omega
theorem byte_at (s : ByteArray) (k : Nat) (h : k < s.size) : ∃ b, s.data[k]? = some b ∧ s.data.toList[k]? = some b := ⟨s[k], Array.getElem?_eq_getElem h, by rw [Array.getElem?_toList]; exact Array.getElem?_eq_getElem h⟩
set_option maxRecDepth 100000 in
set_option maxHeartbeats 3200000 in
theorem refRead_any (s : ByteArray) (hs : s.size ≤ 1000) (w : World) :
    Calls Tryd.prog 16 #[.string s] w fun e w' => RfR s.data.toList e ∧ Below w.heap.size w w' := by
  have hfinN : rdId s.data.toList = none → ∀ (l : List HA) (w' : World), St (snap w) l w' → Env w w' → Hid ((RfR s.data.toList (.returned (.tuple #[.agg #[.int .i64 0, .int .i64 0], .bool false])) ∧ Below w.heap.size w w')) := fun h l w' hst hen => Lib.hid ⟨by unfold RfR; rw [h], (St.toBelow (l := []) ⟨hst.imm, fun _ => False, fun _ h => h, fun _ h => h.elim⟩ hen)⟩
  have hfinS : ∀ x y : Int, rdId s.data.toList = some (x, y) → ∀ (l : List HA) (w' : World), St (snap w) l w' → Env w w' → Hid ((RfR s.data.toList (.returned (.tuple #[.agg #[.int .i64 x, .int .i64 y], .bool true])) ∧ Below w.heap.size w w')) := fun x y h l w' hst hen => Lib.hid ⟨by unfold RfR; rw [h], (St.toBelow (l := []) ⟨hst.imm, fun _ => False, fun _ h => h, fun _ h => h.elim⟩ hen)⟩
  replace hfinN := Lib.hid hfinN
  replace hfinS := Lib.hid hfinS
  generalize hQ : (fun (e : Ending) (w' : World) => RfR s.data.toList e ∧ Below w.heap.size w w') = Q
  replace hQ := Lib.hid hQ
  have hsz : s.data.toList.length = s.size := Array.length_toList
  have h1 := (St.start w).blk #[.int .i64 0, .int .i64 0] 23
  have en1 := (Env.refl w).alloc (.cells #[.int .i64 0, .int .i64 0] 23)
  have c0 := h1.blk_cell 0
  have c1 := h1.blk_cell 1
  have f0 := h1.blk_free 0
  have f1 := h1.blk_free 1
  have l1 := h1.blk_lt
  -- the end of what is no id's text
  by_cases hA : s.size < 3
  · have hno := rd_short (l := s.data.toList) (.inl (by omega))
    have hA' : (s.size : Int) < 3 := by omega
    go_enter Tryd.func16, Tryd.ntmps16
    go_wp2_with fail
    have r0 := h1.blk_cell 0
    have r1 := h1.blk_cell 1
    have rl := h1.blk_lt
    (try simp only [Exit.inBlock, Exit.then])
    refine bodyPost_ret ((results_cell_tmp rfl _ _ _).trans (?hres : _ = Result.ok (Value.tuple #[Value.agg #[.int .i64 0, .int .i64 0], .bool false]) _)) rfl ?_
    case hres => go_simp
    have hz := hfinN.out hno _ _ h1 en1
    rw [← hQ.out]
    exact hz.out
  · have hA' : ¬ (s.size : Int) < 3 := by omega
    have i0 : 0 < s.size := by omega
    have i1 : 1 < s.size := by omega
    have t0 : s.data.toList[0]? = some s[0] := by rw [Array.getElem?_toList]; exact Array.getElem?_eq_getElem i0
    have t1 : s.data.toList[1]? = some s[1] := by rw [Array.getElem?_toList]; exact Array.getElem?_eq_getElem i1
    have hu : ∀ b : UInt8, (b.toNat : Int) = 46 → b = 46 := fun b h => UInt8.toNat_inj.1 (by have e : (46 : UInt8).toNat = 46 := rfl; omega)
    by_cases hgood : (s[1].toNat : Int) = 46 ∧ 48 ≤ (s[0].toNat : Int) ∧ (s[0].toNat : Int) ≤ 55
    · obtain ⟨e1, e2, e3⟩ := hgood
      by_cases hN : 9 < s.size
      · have hno := rd_short (l := s.data.toList) (.inr (by omega))
        have hN' : (9 : Int) < s.size := by omega
        have e2' : ¬ (s[0].toNat : Int) < 48 := by omega
        have e3' : ¬ 55 < (s[0].toNat : Int) := by omega
        clear t0 t1
        go_enter Tryd.func16, Tryd.ntmps16
        go_wp2_with fail
        have r0 := h1.blk_cell 0
        have r1 := h1.blk_cell 1
        have rl := h1.blk_lt
        (try simp only [Exit.inBlock, Exit.then])
        refine bodyPost_ret ((results_cell_tmp rfl _ _ _).trans (?hres : _ = Result.ok (Value.tuple #[Value.agg #[.int .i64 0, .int .i64 0], .bool false]) _)) rfl ?_
        case hres => go_simp
        have hz := hfinN.out hno _ _ h1 en1
        rw [← hQ.out]
        exact hz.out
      · have hN' : ¬ (9 : Int) < s.size := by omega
        have e2' : ¬ (s[0].toNat : Int) < 48 := by omega
        have e3' : ¬ 55 < (s[0].toNat : Int) := by omega
        have hall := fun n h => rd_all (n := n) t0 t1 (by omega) ⟨hu _ e1, by omega, by omega⟩ h
        have hnone := rd_digits t0 t1
        obtain ⟨r, hr⟩ : ∃ r : Nat, (s[0].toNat : Int) - 48 = (r : Int) := ⟨s[0].toNat - 48, by omega⟩
        have hr8 : r < 8 := by omega
        have w1 : IntKind.u8.wrap ((s[0].toNat : Int) - 48) = (r : Int) := by rw [hr, IntKind.wrap_u8]; omega
        have w2 : IntKind.i64.wrap (r : Int) = (r : Int) := by rw [IntKind.wrap_i64]; omega
        rw [hr] at hall
        replace hall := Lib.hid hall
        replace hnone := Lib.hid hnone
        clear t0 t1 hu
        have h2 := h1.blk #[.int .i64 (r : Int), .int .i64 0] 23
        have en2 := en1.alloc (.cells #[.int .i64 (r : Int), .int .i64 0] 23)
        go_enter Tryd.func16, Tryd.ntmps16
        go_wp2_with fail
        have hgs : (w.alloc (.cells #[.int .i64 0, .int .i64 0] 23)).heap.size = w.heap.size + 1 := by simp
        rw [hgs] at h2
        clear hgs
        generalize hg0 : w.heap.size = g0 at *
        generalize ((w.alloc (.cells #[.int .i64 0, .int .i64 0] 23)).alloc (.cells #[.int .i64 (r : Int), .int .i64 0] 23)) = W2 at *
        clear h1 en1 c0 c1 f0 f1 l1 w1 w2 e1 e2 e3 e2' e3' hA'
        go_loopw [5] (fun s5 wr => ∃ (j n k : Nat), Hid (k = j + 2) ∧ k ≤ s.size ∧ s5 = .int .i64 (k : Int) ∧ Hid (Lib.decFrom 0 ((s.data.toList.drop 2).take j) = some n) ∧ St (snap w) [Blk (g0 + 1) #[.int .i64 (r : Int), .int .i64 (n : Int)] 23, Blk g0 #[.int .i64 0, .int .i64 0] 23] wr ∧ Env w wr) (fun s5 _ => s.size - (intOf s5).toNat)
        case atStart => exact ⟨0, 0, 2, Lib.hid rfl, by omega, by go_num, Lib.hid rfl, h2, en2⟩
        case round =>
          clear h2 en2
          obtain ⟨j, n, k, hkj, hk, rfl, hD, hst, hen⟩ := hrel
          have hn8 : n < 10000000 := by
            have h8 := dec_grow _ _ _ hD.out
            have h9 : ((s.data.toList.drop 2).take j).length ≤ 7 := by rw [List.length_take, List.length_drop]; omega
            have h10 := Nat.pow_le_pow_right (show 0 < 10 by omega) h9
            simp only [Nat.zero_add, Nat.one_mul] at h8
            have h11 : (10 : Nat) ^ 7 = 10000000 := by decide
            omega
          by_cases hlt : k < s.size
          · have hat : s.data[k]? = some s[k] := Array.getElem?_eq_getElem hlt
            have hatj : (s.data.toList.drop 2)[j]? = some s[k] := by
              rw [List.getElem?_drop, show 2 + j = k by have := hkj.out; omega, Array.getElem?_toList]
              exact hat
            by_cases hdg : 48 ≤ (s[k].toNat : Int) ∧ (s[k].toNat : Int) ≤ 57
            · obtain ⟨d1, d2⟩ := hdg
              obtain ⟨d, hd⟩ : ∃ d : Nat, (s[k].toNat : Int) - 48 = (d : Int) := ⟨s[k].toNat - 48, by omega⟩
              have hdv : Lib.digitVal s[k] = some d := by unfold Lib.digitVal; rw [if_pos (by omega)]; congr 1; omega
              have hD2 := Lib.hid (Lib.decFrom_take _ _ _ _ _ _ hD.out hatj hdv)
              have w1 : IntKind.u8.wrap ((s[k].toNat : Int) - 48) = (d : Int) := by rw [hd, IntKind.wrap_u8]; omega
              have w2 : IntKind.i64.wrap (d : Int) = (d : Int) := by rw [IntKind.wrap_i64]; omega
              have w3 : IntKind.i64.wrap (10 * (n : Int)) = 10 * (n : Int) := by rw [IntKind.wrap_i64]; omega
              have w4 : IntKind.i64.wrap (10 * (n : Int) + (d : Int)) = ((n * 10 + d : Nat) : Int) := by rw [IntKind.wrap_i64]; omega
              obtain ⟨m, hm⟩ : ∃ m, m = n * 10 + d := ⟨_, rfl⟩
              rw [← hm] at hD2 w4
              have hm' := Lib.hid hm
              have d1' : ¬ (s[k].toNat : Int) < 48 := by omega
              have d2' : ¬ 57 < (s[k].toNat : Int) := by omega
              have p0 := hst.blk_cell 0
              have p1 := hst.blk_cell 1
              have pf := hst.blk_free 1
              have pl := hst.blk_lt
              have h3 : St (snap w) [Blk (g0 + 1) #[.int .i64 (r : Int), .int .i64 (m : Int)] 23, Blk g0 #[.int .i64 0, .int .i64 0] 23] ((wr.setCell ⟨g0 + 1, 1, none⟩ (.int .i64 (m : Int))).drew) := (hst.blk_set 1 (.int .i64 (m : Int))).drew
              have en3 := (hen.setCell ⟨g0 + 1, 1, none⟩ (.int .i64 (m : Int))).drew
              have hkj2 := Lib.hid (show k + 1 = (j + 1) + 2 by have := hkj.out; omega)
              clear hm hd hdv hatj d1 d2
              go_wp2_with fail
              go_still_tail 10, (by kernel_rfl)
              change wpList _ _ _ _ _ wr.drew
              go_wp2_with fail
              generalize ((wr.setCell ⟨g0 + 1, 1, none⟩ (.int .i64 (m : Int))).drew) = W3 at *
              go_roundw
              case rel => exact ⟨j + 1, m, k + 1, hkj2, by omega, by go_num, hD2, h3, en3⟩
              case measure => simp [intOf]; omega
            · have hdv : Lib.digitVal s[k] = none := by unfold Lib.digitVal; rw [if_neg (by omega)]
              have hno := hnone.out (dec_bad _ _ _ _ hatj hdv)
              have hst' := hst.swap
              have z0 := hst'.blk_cell 0
              have z1 := hst'.blk_cell 1
              have zf0 := hst'.blk_free 0
              have zf1 := hst'.blk_free 1
              have zl := hst'.blk_lt
              have h5 := ((hst'.blk_set 0 (.int .i64 0)).blk_set 1 (.int .i64 0))
              have en5 := ((hen.setCell ⟨g0, 0, none⟩ (.int .i64 0)).setCell ⟨g0, 1, none⟩ (.int .i64 0))
              clear hatj hdv
              go_wp2_with fail
              all_goals
                generalize ((wr.setCell ⟨g0, 0, none⟩ (.int .i64 0)).setCell ⟨g0, 1, none⟩ (.int .i64 0)) = W9 at *
                have r0 := h5.blk_cell 0
                have r1 := h5.blk_cell 1
                have rl := h5.blk_lt
                (try simp only [Exit.inBlock, Exit.then])
                refine bodyPost_ret ((results_cell_tmp rfl _ _ _).trans (?hres : _ = Result.ok (Value.tuple #[Value.agg #[.int .i64 0, .int .i64 0], .bool false]) _)) rfl ?_
                case hres => go_simp
                have hz := hfinN.out hno _ _ h5 en5
                rw [← hQ.out]
                exact hz.out
          · obtain rfl : k = s.size := by omega
            have hDe : Lib.decFrom 0 (s.data.toList.drop 2) = some n := by
              rw [← hD.out, List.take_of_length_le]
              have := hkj.out
              rw [List.length_drop]; omega
            have hid := hall.out n hDe
            have p0 := hst.blk_cell 0
            have p1 := hst.blk_cell 1
            have pl := hst.blk_lt
            have hRt := Lib.hid (right_any ((r : Int), (n : Int)) wr)
            cases hok : idOk ((r : Int), (n : Int)) with
            | false =>
              rw [hok] at hRt hid
              have hno : rdId s.data.toList = none := by rw [hid]; simp
              clear hid hok hDe
              go_wp2_with fail
              refine hRt.out.mono ?_
              rintro e w5 ⟨rfl, hb5⟩
              have h7 := (hst.below hb5).swap
              have en7 := hen.trans (bel_env hb5)
              have z0 := h7.blk_cell 0
              have z1 := h7.blk_cell 1
              have zf0 := h7.blk_free 0
              have zf1 := h7.blk_free 1
              have zl := h7.blk_lt
              have h5 := ((h7.blk_set 0 (.int .i64 0)).blk_set 1 (.int .i64 0))
              have en5 := ((en7.setCell ⟨g0, 0, none⟩ (.int .i64 0)).setCell ⟨g0, 1, none⟩ (.int .i64 0))
              clear p0 p1 pl hst hen
              go_wp2_with fail
              generalize ((w5.setCell ⟨g0, 0, none⟩ (.int .i64 0)).setCell ⟨g0, 1, none⟩ (.int .i64 0)) = W9 at *
              have r0 := h5.blk_cell 0
              have r1 := h5.blk_cell 1
              have rl := h5.blk_lt
              (try simp only [Exit.inBlock, Exit.then])
              refine bodyPost_ret ((results_cell_tmp rfl _ _ _).trans (?hres : _ = Result.ok (Value.tuple #[Value.agg #[.int .i64 0, .int .i64 0], .bool false]) _)) rfl ?_
              case hres => go_simp
              have hz := hfinN.out hno _ _ h5 en5
              rw [← hQ.out]
              exact hz.out
            | true =>
              rw [hok] at hRt
              have hT := Lib.hid (fun w' => refText_any r n (by omega) (by omega) w')
              by_cases hE : idT ((r : Int), (n : Int)) = s.data.toList
              · rw [if_pos ⟨hok, hE⟩] at hid
                have e1 : (⟨(idT ((r : Int), (n : Int))).toArray⟩ : ByteArray) = s := by rw [hE]
                rw [e1] at hT
                clear hok hDe e1 hE
                go_wp2_with fail
                refine hRt.out.mono ?_
                rintro e w5 ⟨rfl, hb5⟩
                replace hst := hst.below hb5
                replace hen := hen.trans (bel_env hb5)
                replace p0 := hst.blk_cell 0
                replace p1 := hst.blk_cell 1
                replace pl := hst.blk_lt
                go_wp2_with fail
                refine (hT.out _).mono ?_
                rintro e w6 ⟨rfl, hb6⟩
                replace hst := hst.below hb6
                replace hen := hen.trans (bel_env hb6)
                replace p0 := hst.blk_cell 0
                replace p1 := hst.blk_cell 1
                replace pl := hst.blk_lt
                have h7 := hst.swap
                have z0 := h7.blk_cell 0
                have z1 := h7.blk_cell 1
                have zf0 := h7.blk_free 0
                have zf1 := h7.blk_free 1
                have zl := h7.blk_lt
                have h5 := ((h7.blk_set 0 (.int .i64 (r : Int))).blk_set 1 (.int .i64 (n : Int)))
                have en5 := ((hen.setCell ⟨g0, 0, none⟩ (.int .i64 (r : Int))).setCell ⟨g0, 1, none⟩ (.int .i64 (n : Int)))
                clear hst hb5 hb6
                go_wp2_with fail
                generalize ((w6.setCell ⟨g0, 0, none⟩ (.int .i64 (r : Int))).setCell ⟨g0, 1, none⟩ (.int .i64 (n : Int))) = W9 at *
                have r0 := h5.blk_cell 0
                have r1 := h5.blk_cell 1
                have rl := h5.blk_lt
                (try simp only [Exit.inBlock, Exit.then])
                refine bodyPost_ret ((results_cell_tmp rfl _ _ _).trans (?hres : _ = Result.ok (Value.tuple #[Value.agg #[.int .i64 (r : Int), .int .i64 (n : Int)], .bool true]) _)) rfl ?_
                case hres => go_simp
                have hz := hfinS.out _ _ hid _ _ h5 en5
                rw [← hQ.out]
                exact hz.out
              · rw [if_neg (fun h => hE h.2)] at hid
                obtain ⟨tx, htx⟩ : ∃ tx : ByteArray, tx = ⟨(idT ((r : Int), (n : Int))).toArray⟩ := ⟨_, rfl⟩
                have e1 : (tx.toList == s.toList) = false := by
                  cases e : (tx.toList == s.toList) with
                  | false => rfl
                  | true =>
                    exfalso
                    have e2 := ba_ext3 (eq_of_beq e)
                    rw [htx] at e2
                    exact hE (by rw [← e2])
                rw [← htx] at hT
                clear hok hDe hE htx
                go_wp2_with fail
                refine hRt.out.mono ?_
                rintro e w5 ⟨rfl, hb5⟩
                replace hst := hst.below hb5
                replace hen := hen.trans (bel_env hb5)
                replace p0 := hst.blk_cell 0
                replace p1 := hst.blk_cell 1
                replace pl := hst.blk_lt
                go_wp2_with fail
                refine (hT.out _).mono ?_
                rintro e w6 ⟨rfl, hb6⟩
                have h7 := (hst.below hb6).swap
                have en7 := hen.trans (bel_env hb6)
                have z0 := h7.blk_cell 0
                have z1 := h7.blk_cell 1
                have zf0 := h7.blk_free 0
                have zf1 := h7.blk_free 1
                have zl := h7.blk_lt
                have h5 := ((h7.blk_set 0 (.int .i64 0)).blk_set 1 (.int .i64 0))
                have en5 := ((en7.setCell ⟨g0, 0, none⟩ (.int .i64 0)).setCell ⟨g0, 1, none⟩ (.int .i64 0))
                clear p0 p1 pl hst hen hb5 hb6
                go_wp2_with fail
                generalize ((w6.setCell ⟨g0, 0, none⟩ (.int .i64 0)).setCell ⟨g0, 1, none⟩ (.int .i64 0)) = W9 at *
                have r0 := h5.blk_cell 0
                have r1 := h5.blk_cell 1
                have rl := h5.blk_lt
                (try simp only [Exit.inBlock, Exit.then])
                refine bodyPost_ret ((results_cell_tmp rfl _ _ _).trans (?hres : _ = Result.ok (Value.tuple #[Value.agg #[.int .i64 0, .int .i64 0], .bool false]) _)) rfl ?_
                case hres => go_simp
                have hz := hfinN.out hid _ _ h5 en5
                rw [← hQ.out]
                exact hz.out
    · have hno := rd_head t0 t1 (fun h => hgood ⟨by rw [h.1]; rfl, by omega, by omega⟩)
      clear t0 t1
      have hsp : (s[1].toNat : Int) ≠ 46 ∨ (s[0].toNat : Int) < 48 ∨ 55 < (s[0].toNat : Int) := by omega
      rcases hsp with k1 | k1 | k1
      · have k1' : ((s[1].toNat : Int) != 46) = true := by simpa using k1
        go_enter Tryd.func16, Tryd.ntmps16
        go_wp2_with fail
        all_goals
          have r0 := h1.blk_cell 0
          have r1 := h1.blk_cell 1
          have rl := h1.blk_lt
          (try simp only [Exit.inBlock, Exit.then])
          refine bodyPost_ret ((results_cell_tmp rfl _ _ _).trans (?hres : _ = Result.ok (Value.tuple #[Value.agg #[.int .i64 0, .int .i64 0], .bool false]) _)) rfl ?_
          case hres => go_simp
          have hz := hfinN.out hno _ _ h1 en1
          rw [← hQ.out]
          exact hz.out
      · go_enter Tryd.func16, Tryd.ntmps16
        go_wp2_with fail
        all_goals
          have r0 := h1.blk_cell 0
          have r1 := h1.blk_cell 1
          have rl := h1.blk_lt
          (try simp only [Exit.inBlock, Exit.then])
          refine bodyPost_ret ((results_cell_tmp rfl _ _ _).trans (?hres : _ = Result.ok (Value.tuple #[Value.agg #[.int .i64 0, .int .i64 0], .bool false]) _)) rfl ?_
          case hres => go_simp
          have hz := hfinN.out hno _ _ h1 en1
          rw [← hQ.out]
          exact hz.out
      · go_enter Tryd.func16, Tryd.ntmps16
        go_wp2_with fail
        all_goals
          have r0 := h1.blk_cell 0
          have r1 := h1.blk_cell 1
          have rl := h1.blk_lt
          (try simp only [Exit.inBlock, Exit.then])
          refine bodyPost_ret ((results_cell_tmp rfl _ _ _).trans (?hres : _ = Result.ok (Value.tuple #[Value.agg #[.int .i64 0, .int .i64 0], .bool false]) _)) rfl ?_
          case hres => go_simp
          have hz := hfinN.out hno _ _ h1 en1
          rw [← hQ.out]
          exact hz.out
end Go.Proofs.YtohgcghobidfpaaDoor
