/- The law IdsetMinus: walked. -/
import Derived.Test.YtmdmekdmlkhchaaIdsetLaw
set_option linter.unusedVariables false
set_option linter.unusedSimpArgs false
namespace Go.Proofs.Ytmdmekdmlkhchaa
open Go.RowKit Go.Cw
attribute [local go_sem ↓] eql_id neq_id
set_option maxRecDepth 100000 in
set_option maxHeartbeats 1600000 in
theorem idsetMinus_any (u v : Value) (a b : List Id) (w : World) (hu : Rw w 2 u (idl a)) (hv : Rw w 2 v (idl b)) :
    Calls Try.prog 8 #[u, v] w fun e w' => e = .returned (.bool true) ∧ Below w.heap.size w w' := by
  obtain ⟨A, n, c, rfl, hl, hn, hc⟩ := hu.form
  obtain ⟨A', n', c', rfl, hl', hn', hc'⟩ := hv.form
  rw [idl_len] at hl hl'
  obtain rfl : n = a.length := by omega
  obtain rfl : n' = b.length := by omega
  clear hl hl'
  have ha := hu.rd
  have hb := hv.rd
  by_cases h1 : (100 : Int) < a.length
  · go_enter Try.func8, Try.ntmps8
    go_wp2_with fail
    refine (works04 _ _ _ (St.start w)).mono ?_
    rintro e w1 ⟨rfl, h2, en2⟩
    go_wp2_with fail
    go_ret
    exact ⟨rfl, h2.toBelow en2⟩
  by_cases h2 : (100 : Int) < b.length
  · go_enter Try.func8, Try.ntmps8
    go_wp2_with fail
    refine (works04 _ _ _ (St.start w)).mono ?_
    rintro e w1 ⟨rfl, h2, en2⟩
    go_wp2_with fail
    go_ret
    exact ⟨rfl, h2.toBelow en2⟩
  have la : a.length ≤ 100 := by omega
  have lb : b.length ≤ 100 := by omega
  have hda := dedup_len a
  have hdb := dedup_len b
  have hsa := sortL_len a
  have hsb := sortL_len b
  go_enter Try.func8, Try.ntmps8
  go_wp2_with fail
  refine (setNew_any _ a w hu).mono ?_
  rintro e w1 he
  obtain ⟨p, rfl, s1, en1⟩ := ResE.lift (St.start w) he
  go_wp2_with fail
  refine (setNew_any _ b w1 (hb.rw s1)).mono ?_
  rintro e w2 he
  obtain ⟨q, rfl, s2, en2⟩ := ResE.lift s1 he
  go_wp2_with fail
  refine (refSorted_any _ a w2 (ha.rw s2) (by omega)).mono ?_
  rintro e w3 he
  obtain ⟨wv, rfl, s3, en3⟩ := ResE.lift s2 he
  go_wp2_with fail
  refine (refSorted_any _ b w3 (hb.rw s3) (by omega)).mono ?_
  rintro e w4 he
  obtain ⟨bv, rfl, s4, en4⟩ := ResE.lift s3 he
  have en4' := ((en1.trans en2).trans en3).trans en4
  have s4' : St (snap w) [Row 42 2 wv (idl (sortL a)), Row 42 2 bv (idl (sortL b)), SetA q (dedup b), SetA p (dedup a)] w4 := s4.swap
  have nda := set_nodup s1
  have ndb := set_nodup s2
  clear s1 s2 s3 s4 en1 en2 en3 en4 hu hv
  go_wp2_with fail
  go_loopw [7, 9] (fun lv i wr => ∃ k : Nat, k ≤ b.length ∧ i = .int .i64 k ∧ St (snap w) [Row 42 2 lv (idl (cutAll (sortL a) (b.take k))), Row 42 2 bv (idl (sortL b)), SetA q (dedup b), SetA p (dedup a)] wr ∧ Env w wr) (fun _ i _ => b.length - (intOf i).toNat)
  case atStart => exact ⟨0, Nat.zero_le _, rfl, s4', en4'⟩
  case round =>
    obtain ⟨k, hk, rfl, hst, hen⟩ := hrel
    by_cases hlt : k < b.length
    · obtain ⟨x, HX⟩ : ∃ x, Hid (x = b[k]) := ⟨_, Lib.hid rfl⟩
      have HN : Hid (cutL x (cutAll (sortL a) (b.take k)) = cutAll (sortL a) (b.take (k + 1))) := Lib.hid (by rw [HX.out, cutAll_snoc (sortL a) b k hlt])
      have hcl : (cutAll (sortL a) (b.take k)).length ≤ 100 := by
        have := (cutAll_facts (b.take k) (sortL a) (sortL_rises a)).2.2
        omega
      obtain ⟨qb, qoff, qA, qc⟩ := (hb.rw hst).cells (by omega)
      cases qA
      have q1 := qc _ _ (idl_fst b k hlt)
      have q2 := qc _ _ (idl_snd b k hlt)
      rw [← Nat.add_assoc] at q2
      rw [← HX.out] at q1 q2
      clear qc
      go_wp2_with fail
      refine (cut_any _ _ x _ (hst.row_rw (by omega)) (by omega)).mono ?_
      rintro e w5 he
      obtain ⟨nv, rfl, h5, en5⟩ := ResE.lift hst he
      rw [HN.out] at h5
      have h6 : St (snap w) [Row 42 2 nv (idl (cutAll (sortL a) (b.take (k + 1)))), Row 42 2 bv (idl (sortL b)), SetA q (dedup b), SetA p (dedup a)] w5 := h5.swap.drop
      go_wp2_with fail
      go_roundw
      case rel => exact ⟨k + 1, by omega, by go_num, h6, hen.trans en5⟩
      case measure => simp [intOf]; omega
    · obtain rfl : k = b.length := by omega
      rw [List.take_length] at hst
      obtain ⟨wr1, hwr1⟩ : ∃ x, x = cutAll (sortL a) b := ⟨_, rfl⟩
      rw [← hwr1] at hst
      have HW := Lib.hid hwr1
      obtain ⟨fw1, fw2, fw3⟩ := cutAll_facts b (sortL a) (sortL_rises a)
      rw [← hwr1] at fw1 fw2 fw3
      clear hwr1
      obtain ⟨LA, Ln, Lc, rfl, hlf, hln, hlc⟩ := hst.row_form
      rw [idl_len] at hlf
      obtain rfl : Ln = wr1.length := by omega
      clear hlf
      go_wp2_with fail
      go_loopw [8, 10] (fun lv2 i wr => ∃ k : Nat, k ≤ a.length ∧ i = .int .i64 k ∧ St (snap w) [Row 42 2 lv2 (idl (cutAll (sortL b) (a.take k))), Row 42 2 (.slice LA wr1.length Lc) (idl wr1), SetA q (dedup b), SetA p (dedup a)] wr ∧ Env w wr) (fun _ i _ => a.length - (intOf i).toNat)
      case atStart => exact ⟨0, Nat.zero_le _, rfl, hst.swap, hen⟩
      case round =>
        obtain ⟨k, hk, rfl, hst, hen⟩ := hrel
        by_cases hlt : k < a.length
        · obtain ⟨x, HX⟩ : ∃ x, Hid (x = a[k]) := ⟨_, Lib.hid rfl⟩
          have HN : Hid (cutL x (cutAll (sortL b) (a.take k)) = cutAll (sortL b) (a.take (k + 1))) := Lib.hid (by rw [HX.out, cutAll_snoc (sortL b) a k hlt])
          have hcl : (cutAll (sortL b) (a.take k)).length ≤ 100 := by
            have := (cutAll_facts (a.take k) (sortL b) (sortL_rises b)).2.2
            omega
          obtain ⟨qb, qoff, qA, qc⟩ := (ha.rw hst).cells (by omega)
          cases qA
          have q1 := qc _ _ (idl_fst a k hlt)
          have q2 := qc _ _ (idl_snd a k hlt)
          rw [← Nat.add_assoc] at q2
          rw [← HX.out] at q1 q2
          clear qc
          go_wp2_with fail
          refine (cut_any _ _ x _ (hst.row_rw (by omega)) (by omega)).mono ?_
          rintro e w5 he
          obtain ⟨nv, rfl, h5, en5⟩ := ResE.lift hst he
          rw [HN.out] at h5
          have h6 : St (snap w) [Row 42 2 nv (idl (cutAll (sortL b) (a.take (k + 1)))), Row 42 2 (.slice LA wr1.length Lc) (idl wr1), SetA q (dedup b), SetA p (dedup a)] w5 := h5.swap.drop
          go_wp2_with fail
          go_roundw
          case rel => exact ⟨k + 1, by omega, by go_num, h6, hen.trans en5⟩
          case measure => simp [intOf]; omega
        · obtain rfl : k = a.length := by omega
          rw [List.take_length] at hst
          obtain ⟨wr2, hwr2⟩ : ∃ x, x = cutAll (sortL b) a := ⟨_, rfl⟩
          rw [← hwr2] at hst
          have HW2 := Lib.hid hwr2
          obtain ⟨fx1, fx2, fx3⟩ := cutAll_facts a (sortL b) (sortL_rises b)
          rw [← hwr2] at fx1 fx2 fx3
          clear hwr2
          obtain ⟨MA, Mn, Mc, rfl, hmf, hmn, hmc⟩ := hst.row_form
          rw [idl_len] at hmf
          obtain rfl : Mn = wr2.length := by omega
          clear hmf
          go_wp2_with fail
          refine (add_nil (0, 1) _).mono ?_
          rintro e w5 ⟨rfl, hb5⟩
          have t5 := hst.below hb5
          have e5 := hen.trans (bel_env hb5)
          go_wp2_with fail
          refine (len_nil _).mono ?_
          rintro e w5' ⟨rfl, rfl⟩
          go_wp2_with fail
          refine (list_none _).mono ?_
          rintro e w5' ⟨rfl, rfl⟩
          go_wp2_with fail
          have t6 : St (snap w) [SetA p (dedup a), Row 42 2 (.slice MA wr2.length Mc) (idl wr2), Row 42 2 (.slice LA wr1.length Lc) (idl wr1), SetA q (dedup b)] w5 := t5.pick 3 (by simp)
          refine (minus_nil p _ _ _ _ t6 (by omega)).mono ?_
          rintro e w7 ⟨v7, R7, rfl, t7, e7, r7, m7⟩
          obtain rfl : R7 = sortL a := rises_eq r7 (sortL_rises a) (fun x => by rw [m7, dedup_mem, sortL_mem])
          go_wp2_with fail
          refine (refSorted_any _ a w7 (ha.rw t7) (by omega)).mono ?_
          rintro e w8 he
          obtain ⟨v8, rfl, t8, e8⟩ := ResE.lift t7 he
          go_wp2_with fail
          refine (sameIds_any _ _ (sortL a) (sortL a) _ (t8.swap.row_rw (by omega)) (t8.row_rw (by omega))).mono ?_
          rintro e w9 ⟨rfl, hb9⟩
          rw [decide_eq_true rfl]
          have t9 := (t8.below hb9).drop.drop
          go_wp2_with fail
          refine (same_none p _ _ _ _ t9).mono ?_
          rintro e w9' ⟨rfl, rfl⟩
          have hN0 : Hid (decide ((dedup a).length = 0) = ((a.length : Int) == 0)) := Lib.hid (by
            cases a with
            | nil => rfl
            | cons x r =>
              have hp : 0 < (dedup (x :: r)).length := List.length_pos_of_mem ((dedup_mem (x :: r) x).2 (List.mem_cons_self ..))
              rw [decide_eq_false (by omega)]
              symm
              exact beq_eq_false_iff_ne.2 (by simp; omega))
          rw [hN0.out]
          go_wp2_with fail
          have t10 : St (snap w) [SetA p (dedup a), SetA q (dedup b), Row 42 2 (.slice MA wr2.length Mc) (idl wr2), Row 42 2 (.slice LA wr1.length Lc) (idl wr1)] w9 := (t9.pick 3 (by simp) : St (snap w) [SetA q (dedup b), SetA p (dedup a), Row 42 2 (.slice MA wr2.length Mc) (idl wr2), Row 42 2 (.slice LA wr1.length Lc) (idl wr1)] w9).swap
          refine (minus_two p q _ _ _ _ _ t10 (by omega)).mono ?_
          rintro e w10 ⟨v10, R10, rfl, t11, e11, r11, m11⟩
          obtain rfl : R10 = wr1 := rises_eq r11 fw1 (fun x => by rw [m11, fw2, dedup_mem, dedup_mem, sortL_mem])
          have t12 : St (snap w) [Row 42 2 (.slice LA R10.length Lc) (idl R10), Row 42 2 v10 (idl R10), SetA p (dedup a), SetA q (dedup b), Row 42 2 (.slice MA wr2.length Mc) (idl wr2)] w10 := t11.pick 4 (by simp)
          go_wp2_with fail
          refine (sameIds_any _ _ R10 R10 _ (t11.row_rw (by omega)) (t12.row_rw (by omega))).mono ?_
          rintro e w11 ⟨rfl, hb11⟩
          rw [decide_eq_true rfl]
          have t13 := (t12.below hb11).drop.drop
          go_wp2_with fail
          refine (same_two p q _ _ _ _ _ t13 (by omega)).mono ?_
          rintro e w12 ⟨rfl, t14, e14⟩
          have hN1 : Hid (sameSet (dedup a) (dedup b) = ((R10.length : Int) + wr2.length == 0)) := Lib.hid (by
            have hiff := sameSet_iff nda ndb
            by_cases hz : R10.length + wr2.length = 0
            · have z1 : R10 = [] := List.length_eq_zero_iff.1 (by omega)
              have z2 : wr2 = [] := List.length_eq_zero_iff.1 (by omega)
              rw [show ((R10.length : Int) + wr2.length == 0) = true from beq_iff_eq.2 (by omega), hiff]
              intro x
              rw [dedup_mem, dedup_mem]
              have g1 := fw2 x
              have g2 := fx2 x
              rw [z1, sortL_mem] at g1
              rw [z2, sortL_mem] at g2
              simp only [List.not_mem_nil, false_iff, not_and, Classical.not_not] at g1 g2
              exact ⟨g1, g2⟩
            · rw [show ((R10.length : Int) + wr2.length == 0) = false from beq_eq_false_iff_ne.2 (by omega)]
              cases hs : sameSet (dedup a) (dedup b) with
              | false => rfl
              | true =>
                exfalso
                have hall := hiff.1 hs
                apply hz
                have z1 : R10 = [] := List.eq_nil_iff_forall_not_mem.2 (fun x hx => by
                  have := (fw2 x).1 hx
                  rw [sortL_mem] at this
                  exact this.2 ((dedup_mem b x).1 ((hall x).1 ((dedup_mem a x).2 this.1))))
                have z2 : wr2 = [] := List.eq_nil_iff_forall_not_mem.2 (fun x hx => by
                  have := (fx2 x).1 hx
                  rw [sortL_mem] at this
                  exact this.2 ((dedup_mem a x).1 ((hall x).2 ((dedup_mem b x).2 this.1))))
                rw [z1, z2]
                rfl)
          rw [hN1.out]
          have hbnd : R10.length ≤ 100 ∧ wr2.length ≤ 100 := ⟨by omega, by omega⟩
          go_wp2_with fail
          refine (works04 _ _ _ t14).mono ?_
          rintro e w13 ⟨rfl, t15, e15⟩
          go_wp2_with fail
          go_ret
          exact ⟨rfl, t15.toBelow ((((((e5.trans e7).trans e8).trans (bel_env hb9)).trans e11).trans (bel_env hb11)).trans e14 |>.trans e15)⟩
end Go.Proofs.Ytmdmekdmlkhchaa
