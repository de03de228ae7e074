/- Law 03: IdentTells, IdentReads. -/
import Derived.Test.YtohgcghobidfpaaDoorIdWorks
set_option linter.unusedVariables false
set_option linter.unusedSimpArgs false
namespace Go.Proofs.YtohgcghobidfpaaDoor
open Go.RowKit Go.Cw
attribute [local go_sem ↓] eql_id neq_id
theorem idEq_self (x y : Int) : idEq x y x y = true := by unfold idEq; simp
set_option maxRecDepth 100000 in
set_option maxHeartbeats 4000000 in
theorem identReads_any (s : ByteArray) (w : World) (hv : Vs w) : Calls Tryd.prog 4 #[.string s] w fun e w' => e = .returned (.bool true) ∧ Below w.heap.size w w' := by
  have hfin : ∀ (l : List HA) (w' : World), St (snap w) l w' → Env w w' → Hid (Below w.heap.size w w') := fun l w' hst hen => Lib.hid (St.toBelow (l := []) ⟨hst.imm, fun _ => False, fun _ h => h, fun _ h => h.elim⟩ hen)
  have hW := Lib.hid (fun w' hv' => works03 w' hv')
  by_cases hs : 100 < s.size
  · have hs' : (100 : Int) < s.size := by omega
    go_enter Tryd.func4, Tryd.ntmps4
    go_wp2_with fail
    refine (hW.out _ hv).mono ?_
    rintro e w1 ⟨rfl, hb1⟩
    go_wp2_with fail
    go_ret
    exact ⟨rfl, hb1⟩
  · have hs' : ¬ (100 : Int) < s.size := by omega
    have hR := Lib.hid (identRead_any s (by omega) w hv)
    have hF := Lib.hid (fun w' => refRead_any s (by omega) w')
    have key : ∃ (x y n : Int) (b : Bool), (∀ e, RdR s.data.toList e → e = .returned (.tuple #[.agg #[.int .i64 x, .int .i64 y], .int .i64 n])) ∧ (∀ e, RfR s.data.toList e → e = .returned (.tuple #[.agg #[.int .i64 x, .int .i64 y], .bool b])) ∧ ((b = true ∧ n = 0) ∨ (b = false ∧ n = 3 ∧ x = 0 ∧ y = 0)) := by
      cases hr : rdId s.data.toList with
      | none => exact ⟨0, 0, 3, false, fun e h => by unfold RdR at h; rw [hr] at h; exact h, fun e h => by unfold RfR at h; rw [hr] at h; exact h, .inr ⟨rfl, rfl, rfl, rfl⟩⟩
      | some a => exact ⟨a.1, a.2, 0, true, fun e h => by unfold RdR at h; rw [hr] at h; exact h, fun e h => by unfold RfR at h; rw [hr] at h; exact h, .inl ⟨rfl, rfl⟩⟩
    obtain ⟨x, y, n, b, k1, k2, k3⟩ := key
    replace k1 := Lib.hid k1
    replace k2 := Lib.hid k2
    go_enter Tryd.func4, Tryd.ntmps4
    go_wp2_with fail
    refine hR.out.mono ?_
    rintro e w1 ⟨he, hb1⟩
    obtain rfl := k1.out e he
    have h1 := ((St.start w).below hb1).blk #[.int .i64 x, .int .i64 y] 23
    have en1 := (bel_env hb1).alloc (.cells #[.int .i64 x, .int .i64 y] 23)
    have hv1 := (hv.below hb1).alloc (.cells #[.int .i64 x, .int .i64 y] 23)
    clear hR k1 he
    go_wp2_with fail
    refine (hF.out _).mono ?_
    rintro e w2 ⟨he, hb2⟩
    obtain rfl := k2.out e he
    have h2 := ((h1.below hb2).blk #[.int .i64 x, .int .i64 y] 23)
    have en2 := (en1.trans (bel_env hb2)).alloc (.cells #[.int .i64 x, .int .i64 y] 23)
    have hv2 := (hv1.below hb2).alloc (.cells #[.int .i64 x, .int .i64 y] 23)
    have c0 := h2.blk_cell 0
    have c1 := h2.blk_cell 1
    have cl := h2.blk_lt
    have h3 := h2.swap
    have d0 := h3.blk_cell 0
    have d1 := h3.blk_cell 1
    have dl := h3.blk_lt
    have hes := idEq_self x y
    clear hF k2 he
    rcases k3 with ⟨rfl, rfl⟩ | ⟨rfl, rfl, rfl, rfl⟩
    · go_wp2_with fail
      refine (hW.out _ hv2).mono ?_
      rintro e w3 ⟨rfl, hb3⟩
      have hz := hfin _ _ (h2.below hb3) (en2.trans (bel_env hb3))
      go_wp2_with fail
      go_ret
      exact ⟨rfl, hz.out⟩
    · go_wp2_with fail
      refine (hW.out _ hv2).mono ?_
      rintro e w3 ⟨rfl, hb3⟩
      have hz := hfin _ _ (h2.below hb3) (en2.trans (bel_env hb3))
      go_wp2_with fail
      go_ret
      exact ⟨rfl, hz.out⟩
/-- What the law reckons of an id: first of its slot, then of its replica. -/
def wantS (s : Int) : Int := if s < 1 ∨ 1048576 < s then 8 else 0
theorem want_all (r s : Int) : (if r < 0 ∨ 7 < r then 7 else wantS s) = idErr3 (r, s) := by
  unfold idErr3 wantS
  by_cases h1 : 0 ≤ r ∧ r < 8
  · have h3 : ¬ (r < 0 ∨ 7 < r) := by omega
    by_cases h2 : 1 ≤ s ∧ s ≤ 1048576
    · have h4 : ¬ (s < 1 ∨ 1048576 < s) := by omega
      simp [h1, h2, h3, h4]
    · have h4 : s < 1 ∨ 1048576 < s := by omega
      simp [h1, h2, h3, h4]
  · have h3 : r < 0 ∨ 7 < r := by omega
    simp [h1, h3]
theorem cmp_want (a b : Id) : cmpId a b = if idLt b a then 1 else if idLt a b then -1 else 0 := by
  unfold cmpId orInt cmpInt
  cases h1 : idLt a b <;> cases h2 : idLt b a
  all_goals
    have k1 := idLt_iff a b
    have k2 := idLt_iff b a
    rw [h1] at k1
    rw [h2] at k2
    simp only [true_iff, Bool.false_eq_true, false_iff] at k1 k2
    simp only [Bool.false_eq_true, if_false, if_true]
    repeat' split
    all_goals (first | rfl | (exfalso; omega))
set_option maxRecDepth 100000 in
set_option maxHeartbeats 8000000 in
theorem identTells_any (a b : Id) (w : World) (hv : Vs w) : Calls Tryd.prog 3 #[idV a, idV b] w fun e w' => e = .returned (.bool true) ∧ Below w.heap.size w w' := by
  have hfin : ∀ (l : List HA) (w' : World), St (snap w) l w' → Env w w' → Hid (Below w.heap.size w w') := fun l w' hst hen => Lib.hid (St.toBelow (l := []) ⟨hst.imm, fun _ => False, fun _ h => h, fun _ h => h.elim⟩ hen)
  have hW := Lib.hid (fun w' hv' => works03 w' hv')
  obtain ⟨r, s⟩ := a
  obtain ⟨r2, s2⟩ := b
  have h1 := ((St.start w).blk #[.int .i64 r, .int .i64 s] 23).blk #[.int .i64 r2, .int .i64 s2] 23
  have en1 := ((Env.refl w).alloc (.cells #[.int .i64 r, .int .i64 s] 23)).alloc (.cells #[.int .i64 r2, .int .i64 s2] 23)
  have hv1 := (hv.alloc (.cells #[.int .i64 r, .int .i64 s] 23)).alloc (.cells #[.int .i64 r2, .int .i64 s2] 23)
  have hgs : (w.alloc (.cells #[.int .i64 r, .int .i64 s] 23)).heap.size = w.heap.size + 1 := by simp
  rw [hgs] at h1
  have hCk := Lib.hid (fun w' => identCheck3_any (r, s) w')
  have hL1 := Lib.hid (fun w' => less_any (r, s) (r2, s2) w')
  have hL2 := Lib.hid (fun w' => less_any (r2, s2) (r, s) w')
  have hCm := Lib.hid (fun w' => compare3_any (r, s) (r2, s2) w')
  have hTx := Lib.hid (fun w' hv' => identText_any (r, s) w' hv')
  have hcw := cmp_want (r, s) (r2, s2)
  have hwa := Lib.hid (want_all r s)
  go_enter Tryd.func3, Tryd.ntmps3
  go_wp2_with fail
  generalize hg : w.heap.size = g0 at *
  generalize ((w.alloc (.cells #[.int .i64 r, .int .i64 s] 23)).alloc (.cells #[.int .i64 r2, .int .i64 s2] 23)) = W1 at *
  refine (hCk.out _).mono ?_
  rintro e w2 ⟨rfl, hb2⟩
  have h2 := h1.below hb2
  have en2 := en1.trans (bel_env hb2)
  have hv2 := hv1.below hb2
  clear h1 en1 hv1 hb2 hgs
  obtain ⟨E, hE⟩ : ∃ E, E = idErr3 (r, s) := ⟨_, rfl⟩
  rw [← hE]
  replace hE := Lib.hid hE
  have c0 := h2.blk_cell 0
  have c1 := h2.blk_cell 1
  have cl := h2.blk_lt
  have h3 := h2.swap
  have d0 := h3.blk_cell 0
  have d1 := h3.blk_cell 1
  have dl := h3.blk_lt
  obtain ⟨bS, hbS⟩ : ∃ bS, bS = decide (s < 1 ∨ 1048576 < s) := ⟨_, rfl⟩
  obtain ⟨bR, hbR⟩ : ∃ bR, bR = decide (r < 0 ∨ 7 < r) := ⟨_, rfl⟩
  replace hbS := Lib.hid hbS
  replace hbR := Lib.hid hbR
  go_upto_region 2 with (fail)
  go_cut [20] from 13 to 20 (fun s20 wx => s20 = .bool bS ∧ wx = w2)
  case first =>
    by_cases k1 : s < 1
    · have hN : Hid (true = bS) := Lib.hid (by rw [hbS.out]; simp [k1])
      go_wp2_with fail
      go_meet
      exact ⟨congrArg Value.bool hN.out, rfl⟩
    · by_cases k2 : 1048576 < s
      · have hN : Hid (true = bS) := Lib.hid (by rw [hbS.out]; simp [k2])
        go_wp2_with fail
        go_meet
        exact ⟨congrArg Value.bool hN.out, rfl⟩
      · have hN : Hid (false = bS) := Lib.hid (by rw [hbS.out]; simp [k1, k2])
        go_wp2_with fail
        go_meet
        exact ⟨congrArg Value.bool hN.out, rfl⟩
  case rest =>
  obtain ⟨rfl, rfl⟩ := hcut
  go_upto_if 20 with (fail)
  go_cut [5] from 13 to 20 (fun s5 wx => s5 = .int .i64 (if bS then 8 else 0) ∧ wx = wc)
  case first =>
    cases bS with
    | true =>
      go_wp2_with fail
      go_meet
      exact ⟨rfl, rfl⟩
    | false =>
      go_wp2_with fail
      go_meet
      exact ⟨rfl, rfl⟩
  case rest =>
  obtain ⟨rfl, rfl⟩ := hcut
  obtain ⟨ws, hws⟩ : ∃ ws : Int, ws = if bS then 8 else 0 := ⟨_, rfl⟩
  rw [← hws]
  replace hws := Lib.hid hws
  go_upto_region 4 with (fail)
  go_cut [28] from 21 to 28 (fun s28 wx => s28 = .bool bR ∧ wx = wc)
  case first =>
    by_cases k1 : r < 0
    · have hN : Hid (true = bR) := Lib.hid (by rw [hbR.out]; simp [k1])
      go_wp2_with fail
      go_meet
      exact ⟨congrArg Value.bool hN.out, rfl⟩
    · by_cases k2 : 7 < r
      · have hN : Hid (true = bR) := Lib.hid (by rw [hbR.out]; simp [k2])
        go_wp2_with fail
        go_meet
        exact ⟨congrArg Value.bool hN.out, rfl⟩
      · have hN : Hid (false = bR) := Lib.hid (by rw [hbR.out]; simp [k1, k2])
        go_wp2_with fail
        go_meet
        exact ⟨congrArg Value.bool hN.out, rfl⟩
  case rest =>
  obtain ⟨rfl, rfl⟩ := hcut
  have hEE : Hid ((if bR then 7 else ws) = E) := Lib.hid (by
    rw [hE.out, ← hwa.out, hws.out, hbR.out, hbS.out]
    unfold wantS
    simp only [decide_eq_true_eq])
  go_upto_if 28 with (fail)
  go_cut [5] from 21 to 28 (fun s5 wx => s5 = .int .i64 E ∧ wx = wc)
  case first =>
    cases bR with
    | true =>
      have hN : Hid (7 = E) := Lib.hid hEE.out
      go_wp2_with fail
      go_meet
      exact ⟨congrArg (Value.int .i64) hN.out, rfl⟩
    | false =>
      have hN : Hid (ws = E) := Lib.hid hEE.out
      go_wp2_with fail
      go_meet
      exact ⟨congrArg (Value.int .i64) hN.out, rfl⟩
  case rest =>
  obtain ⟨rfl, rfl⟩ := hcut
  clear hEE hws hwa
  obtain ⟨B1, hB1⟩ : ∃ B1, B1 = idLt (r, s) (r2, s2) := ⟨_, rfl⟩
  obtain ⟨B2, hB2⟩ : ∃ B2, B2 = idLt (r2, s2) (r, s) := ⟨_, rfl⟩
  rw [← hB1, ← hB2] at hcw
  rw [← hB1] at hL1
  rw [← hB2] at hL2
  replace hcw := Lib.hid hcw
  clear hB1 hB2 hbS hbR
  go_wp2_with fail
  refine (hL1.out _).mono ?_
  rintro e w3 ⟨rfl, hb3⟩
  have h4 := h2.below hb3
  have en4 := en2.trans (bel_env hb3)
  have hv4 := hv2.below hb3
  clear c0 c1 cl h3 d0 d1 dl h2 en2 hv2 hb3
  go_upto_if 31 with (fail)
  go_cut [7] from 29 to 31 (fun s7 wx => s7 = .int .i64 (if B1 then -1 else 0) ∧ wx = w3)
  case first =>
    cases B1 with
    | true =>
      go_wp2_with fail
      go_meet
      exact ⟨rfl, rfl⟩
    | false =>
      go_wp2_with fail
      go_meet
      exact ⟨rfl, rfl⟩
  case rest =>
  obtain ⟨rfl, rfl⟩ := hcut
  have c0 := h4.blk_cell 0
  have c1 := h4.blk_cell 1
  have cl := h4.blk_lt
  have h3 := h4.swap
  have d0 := h3.blk_cell 0
  have d1 := h3.blk_cell 1
  have dl := h3.blk_lt
  obtain ⟨n1, hn1⟩ : ∃ n1 : Int, n1 = if B1 then -1 else 0 := ⟨_, rfl⟩
  rw [← hn1]
  have hcw2 : Hid (cmpId (r, s) (r2, s2) = if B2 then 1 else n1) := Lib.hid (by rw [hcw.out, hn1])
  clear hcw hn1
  go_wp2_with fail
  refine (hL2.out _).mono ?_
  rintro e w5 ⟨rfl, hb5⟩
  have h6 := h4.below hb5
  have en6 := en4.trans (bel_env hb5)
  have hv6 := hv4.below hb5
  clear c0 c1 cl h3 d0 d1 dl h4 en4 hv4 hb5
  go_upto_if 34 with (fail)
  go_cut [7] from 32 to 34 (fun s7 wx => s7 = .int .i64 (if B2 then 1 else n1) ∧ wx = w5)
  case first =>
    cases B2 with
    | true =>
      go_wp2_with fail
      go_meet
      exact ⟨rfl, rfl⟩
    | false =>
      go_wp2_with fail
      go_meet
      exact ⟨rfl, rfl⟩
  case rest =>
  obtain ⟨rfl, rfl⟩ := hcut
  rw [← hcw2.out]
  obtain ⟨n, hn⟩ : ∃ n : Int, n = cmpId (r, s) (r2, s2) := ⟨_, rfl⟩
  rw [← hn] at hCm ⊢
  clear hcw2 hn
  have c0 := h6.blk_cell 0
  have c1 := h6.blk_cell 1
  have cl := h6.blk_lt
  have h3 := h6.swap
  have d0 := h3.blk_cell 0
  have d1 := h3.blk_cell 1
  have dl := h3.blk_lt
  go_wp2_with fail
  refine (hCm.out _).mono ?_
  rintro e w7 ⟨rfl, hb7⟩
  have h8 := h6.below hb7
  have en8 := en6.trans (bel_env hb7)
  have hv8 := hv6.below hb7
  clear c0 c1 cl h3 d0 d1 dl h6 en6 hv6 hb7
  have c0 := h8.blk_cell 0
  have c1 := h8.blk_cell 1
  have cl := h8.blk_lt
  have h3 := h8.swap
  have d0 := h3.blk_cell 0
  have d1 := h3.blk_cell 1
  have dl := h3.blk_lt
  go_wp2_with fail
  refine (hTx.out _ hv8).mono ?_
  rintro e w9 ⟨rfl, hb9⟩
  have h10 := h8.below hb9
  have en10 := en8.trans (bel_env hb9)
  have hv10 := hv8.below hb9
  clear c0 c1 cl h3 d0 d1 dl h8 en8 hv8 hb9
  have c0 := h10.blk_cell 0
  have c1 := h10.blk_cell 1
  have cl := h10.blk_lt
  have h3 := h10.swap
  have d0 := h3.blk_cell 0
  have d1 := h3.blk_cell 1
  have dl := h3.blk_lt
  cases hok : idOk (r, s) with
  | false =>
    have hE0 : Hid (E ≠ 0) := Lib.hid (by rw [hE.out]; exact idErr3_no hok)
    have hE1 := hE0.out
    simp only [Bool.false_eq_true, if_false]
    have hemp : ByteArray.empty = ({ data := #[] } : ByteArray) := rfl
    rw [hemp]
    clear hok hE
    go_wp2_with fail
    refine (hW.out _ hv10).mono ?_
    rintro e w11 ⟨rfl, hb11⟩
    have hz := hfin _ _ (h10.below hb11) (en10.trans (bel_env hb11))
    go_wp2_with fail
    go_ret
    exact ⟨rfl, by rw [hg]; exact hz.out⟩
  | true =>
    have hE0 : E = 0 := by rw [hE.out]; exact idErr3_ok hok
    subst hE0
    simp only [if_true]
    have hb := idOk_iff.1 hok
    have hlen := idT_len hok
    have hrd : rdId (idT (r, s)) = some (r, s) := rdId_some.2 ⟨hok, rfl⟩
    have hRf := Lib.hid (fun w' => refText_any r.toNat s.toNat (by simp at hb; omega) (by simp at hb; omega) w')
    have er : ((r.toNat : Nat) : Int) = r := by simp at hb; omega
    have es : ((s.toNat : Nat) : Int) = s := by simp at hb; omega
    rw [er, es] at hRf
    obtain ⟨t, ht⟩ : ∃ t : ByteArray, t = ⟨(idT (r, s)).toArray⟩ := ⟨_, rfl⟩
    have htl : t.data.toList = idT (r, s) := by rw [ht]
    have hts : t.size ≤ 1000 := by
      have : t.data.toList.length = t.size := Array.length_toList
      rw [htl] at this; omega
    rw [← ht] at hRf ⊢
    have hR := Lib.hid (fun w' hv' => identRead_any t hts w' hv')
    have k1 : Hid (∀ e, RdR t.data.toList e → e = .returned (.tuple #[.agg #[.int .i64 r, .int .i64 s], .int .i64 0])) := Lib.hid (fun e h => by unfold RdR at h; rw [htl, hrd] at h; exact h)
    have hes := idEq_self r s
    clear hok hE hb hlen hrd er es ht htl hts
    go_wp2_with fail
    refine (hR.out _ hv10).mono ?_
    rintro e w11 ⟨he, hb11⟩
    obtain rfl := k1.out e he
    have h12 := (h10.below hb11).blk #[.int .i64 r, .int .i64 s] 23
    have en12 := (en10.trans (bel_env hb11)).alloc (.cells #[.int .i64 r, .int .i64 s] 23)
    have hv12 := (hv10.below hb11).alloc (.cells #[.int .i64 r, .int .i64 s] 23)
    clear c0 c1 cl h3 d0 d1 dl h10 en10 hv10 he
    have h3 := h12.pick 2 (by simp)
    have d0 := h3.blk_cell 0
    have d1 := h3.blk_cell 1
    have dl := h3.blk_lt
    go_wp2_with fail
    refine (hRf.out _).mono ?_
    rintro e w13 ⟨rfl, hb13⟩
    have h14 := h12.below hb13
    have en14 := en12.trans (bel_env hb13)
    have hv14 := hv12.below hb13
    clear d0 d1 dl h3 h12 en12 hv12 hb13
    have h3 := h14.pick 2 (by simp)
    have d0 := h3.blk_cell 0
    have d1 := h3.blk_cell 1
    have dl := h3.blk_lt
    have c0 := h14.blk_cell 0
    have c1 := h14.blk_cell 1
    have cl := h14.blk_lt
    go_wp2_with fail
    refine (hW.out _ hv14).mono ?_
    rintro e w15 ⟨rfl, hb15⟩
    have hz := hfin _ _ (h14.below hb15) (en14.trans (bel_env hb15))
    go_wp2_with fail
    go_ret
    exact ⟨rfl, by rw [hg]; exact hz.out⟩
end Go.Proofs.YtohgcghobidfpaaDoor
