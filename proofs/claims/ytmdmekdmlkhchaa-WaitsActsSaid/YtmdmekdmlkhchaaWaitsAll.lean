/- The law WaitsActs: walked. -/
import Derived.Test.YtmdmekdmlkhchaaWaitsActs
set_option linter.unusedVariables false
set_option linter.unusedSimpArgs false
namespace Go.Proofs.Ytmdmekdmlkhchaa
open Go.RowKit Go.Cw
attribute [local go_sem ↓] eql_id neq_id
set_option maxRecDepth 100000 in
set_option maxHeartbeats 1600000 in
theorem waitsActs_any (v : Value) (acts : List WAct) (w : World) (hv : Rw w 5 v (wacs acts)) :
    Calls Try.prog 10 #[v] w fun e w' => e = .returned (.bool true) ∧ Below w.heap.size w w' := by
  obtain ⟨A', n', c', rfl, hl', hn', hc'⟩ := hv.form
  rw [wacs_len] at hl'
  obtain rfl : n' = acts.length := by omega
  clear hl'
  have hb := hv.rd
  by_cases h1 : (80 : Int) < acts.length
  · go_enter Try.func10, Try.ntmps10
    go_wp2_with fail
    refine (works22 _).mono ?_
    rintro e w1 ⟨rfl, hb1⟩
    go_wp2_with fail
    go_ret
    exact ⟨rfl, hb1⟩
  have lb : acts.length ≤ 80 := by omega
  go_enter Try.func10, Try.ntmps10
  go_wp2_with fail
  refine (waINew w).mono ?_
  rintro e w2 ⟨p, rfl, h2, en2⟩
  have h3 := h2.row_lit 42 2 0 #[] rfl (by decide)
  have h4 := h3.row_litAt 42 2 0 #[] (w2.heap.size + 1) (by simp) rfl (by decide)
  have en4 := (en2.alloc (.cells #[] 42)).alloc (.cells #[] 42)
  clear h3 h2
  go_wp2_with fail
  go_loopw [4, 5, 6] (fun a4 a5 i wr => ∃ (k : Nat) (Q : List (Id × Id)), k ≤ acts.length ∧ i = .int .i64 k ∧ St (snap w) [Row 42 2 a4 (idl (Q.map (·.1))), Row 42 2 a5 (idl (Q.map (·.2))), WaI p Q] wr ∧ Env w wr ∧ Hid (Q.length ≤ k)) (fun _ _ i _ => acts.length - (intOf i).toNat)
  case atStart => exact ⟨0, [], Nat.zero_le _, rfl, h4.swap, en4, Lib.hid (Nat.zero_le _)⟩
  case round =>
    obtain ⟨k, Q, hk, rfl, hst, hen, HQ⟩ := hrel
    have hQk := HQ.out
    obtain ⟨A4, n4, c4, rfl, hf4, hn4, hm4⟩ := hst.row_form
    obtain ⟨A5, n5, c5, rfl, hf5, hn5, hm5⟩ := hst.swap.row_form
    rw [idl_len, List.length_map] at hf4 hf5
    obtain rfl : n4 = Q.length := by omega
    obtain rfl : n5 = Q.length := by omega
    have hc4 : c4 ≤ 9223372036854775807 := by simpa [maxLen] using hm4
    have hc5 : c5 ≤ 9223372036854775807 := by simpa [maxLen] using hm5
    clear hf4 hf5 hm4 hm5
    by_cases hlt : k < acts.length
    · obtain ⟨⟨wk, ia, ib⟩, HX⟩ : ∃ x, Hid (x = acts[k]) := ⟨_, Lib.hid rfl⟩
      obtain ⟨qb, qoff, qA, qc⟩ := (hb.rw hst).cells (by omega)
      cases qA
      have q0 := qc _ _ (wacs_get acts k hlt).1
      have q1 := qc _ _ (wacs_get acts k hlt).2.1
      have q2 := qc _ _ (wacs_get acts k hlt).2.2.1
      have q3 := qc _ _ (wacs_get acts k hlt).2.2.2.1
      have q4 := qc _ _ (wacs_get acts k hlt).2.2.2.2
      rw [← Nat.add_assoc] at q1 q2 q3 q4
      rw [← HX.out] at q0 q1 q2 q3 q4
      simp only at q0 q1 q2 q3 q4
      have ql := World.block_lt_of_cell? _ _ q0
      clear qc
      obtain ⟨Hb, lb1, h6, hy⟩ := hst.box #[.bool wk, .int .i64 ia.1, .int .i64 ia.2, .int .i64 ib.1, .int .i64 ib.2] 103
      have y0 := hy 0 _ rfl
      have y1 := hy 1 _ rfl
      have y2 := hy 2 _ rfl
      have y3 := hy 3 _ rfl
      have y4 := hy 4 _ rfl
      have en6 := hen.alloc (.cells #[.bool wk, .int .i64 ia.1, .int .i64 ia.2, .int .i64 ib.1, .int .i64 ib.2] 103)
      clear hy
      go_upto_if 39 with (fail)
      generalize wr.alloc (.cells #[.bool wk, .int .i64 ia.1, .int .i64 ia.2, .int .i64 ib.1, .int .i64 ib.2] 103) = W6 at *
      generalize wr.heap.size = gx at *
      clear q0 q1 q2 q3 q4 ql
      go_cut [4, 5] (fun a4 a5 wx => ∃ (Q' : List (Id × Id)), St Hb [Row 42 2 a4 (idl (Q'.map (·.1))), Row 42 2 a5 (idl (Q'.map (·.2))), WaI p Q'] wx ∧ Env w wx ∧ Hid (Q'.length ≤ k + 1))
      case first =>
        have x0 := h6.cell y0
        have x1 := h6.cell y1
        have x2 := h6.cell y2
        have x3 := h6.cell y3
        have x4 := h6.cell y4
        have xl := World.block_lt_of_cell? _ _ x0
        cases wk with
        | true =>
          have h7 := h6.row_lit 42 2 0 #[] rfl (by decide)
          have h8 := h7.row_litAt 42 2 0 #[] (W6.heap.size + 1) (by simp) rfl (by decide)
          have h9 := h8.row_litAt 42 2 0 #[] (W6.heap.size + 1 + 1) (by simp) rfl (by decide)
          have en9 := ((en6.alloc (.cells #[] 42)).alloc (.cells #[] 42)).alloc (.cells #[] 42)
          obtain ⟨H1, l1, h10, hr4⟩ := (h9.pick 3 (by simp)).row_keep
          obtain ⟨H2, l2, h11, hr5⟩ := (h10.pick 3 (by simp)).row_keep
          replace hr4 := hr4.mono l2
          have h12 : St H2 [Row 42 2 (.slice (some ⟨W6.heap.size, 0, none⟩) 0 0) [], Row 42 2 (.slice (some ⟨W6.heap.size + 1, 0, none⟩) 0 0) [], Row 42 2 (.slice (some ⟨W6.heap.size + 1 + 1, 0, none⟩) 0 0) [], WaI p Q] _ := h11.perm ((List.perm_append_comm (l₁ := [_]) (l₂ := [_, _])).append_right _ |>.trans ((List.Perm.swap _ _ _).append_right _))
          have lb2 := Hp.le_trans l1 l2
          have z0 := Hp.cell_le lb2 y0
          have z1 := Hp.cell_le lb2 y1
          have z2 := Hp.cell_le lb2 y2
          have z3 := Hp.cell_le lb2 y3
          have z4 := Hp.cell_le lb2 y4
          clear h7 h8 h9 h10 h11
          go_wp2_with fail
          generalize ((W6.alloc (.cells #[] 42)).alloc (.cells #[] 42)).alloc (.cells #[] 42) = W9 at *
          clear x0 x1 x2 x3 x4 xl
          go_loopw [8, 9, 10, 11] (fun v8 v9 v10 j wz => ∃ m, m ≤ Q.length ∧ j = .int .i64 (m : Nat) ∧ St H2 [Row 42 2 v8 (idl (wokenL ib (Q.take m))), Row 42 2 v9 (idl ((leftL ib (Q.take m)).map (·.1))), Row 42 2 v10 (idl ((leftL ib (Q.take m)).map (·.2))), WaI p Q] wz ∧ Env w wz) (fun _ _ _ j _ => Q.length - (intOf j).toNat)
          case atStart => exact ⟨0, Nat.zero_le _, rfl, h12, en9⟩
          case round =>
            obtain ⟨m, hm, rfl, hz, enz⟩ := hrel
            clear h12 en9
            have hwl := wokenL_len ib (Q.take m)
            have hll := leftL_len ib (Q.take m)
            have htl : (Q.take m).length ≤ Q.length := by rw [List.length_take]; omega
            by_cases hmt : m < Q.length
            · obtain ⟨⟨qi, qo⟩, HY⟩ : ∃ x, Hid (x = Q[m]) := ⟨_, Lib.hid rfl⟩
              have hm1 : m < (Q.map (·.1)).length := by simpa using hmt
              have hm2 : m < (Q.map (·.2)).length := by simpa using hmt
              have hqi : (Q.map (·.1))[m] = qi := by rw [List.getElem_map, ← HY.out]
              have hqo : (Q.map (·.2))[m] = qo := by rw [List.getElem_map, ← HY.out]
              obtain ⟨b4, o4, hA4, hh4⟩ : ∃ b o, A4 = some ⟨b, o, none⟩ ∧ ∀ j u, (idl (Q.map (·.1)))[j]? = some u → H2.cell b (o + j) = some u := by
                obtain ⟨_, _, _, hv, _, _, _, hcl⟩ := hr4
                cases hv
                exact hcl (by omega)
              obtain ⟨b5, o5, hA5, hh5⟩ : ∃ b o, A5 = some ⟨b, o, none⟩ ∧ ∀ j u, (idl (Q.map (·.2)))[j]? = some u → H2.cell b (o + j) = some u := by
                obtain ⟨_, _, _, hv, _, _, _, hcl⟩ := hr5
                cases hv
                exact hcl (by omega)
              subst hA4
              subst hA5
              have k40 := hh4 _ _ (idl_fst _ m hm1)
              have k41 := hh4 _ _ (idl_snd _ m hm1)
              have k50 := hh5 _ _ (idl_fst _ m hm2)
              have k51 := hh5 _ _ (idl_snd _ m hm2)
              rw [hqi] at k40 k41
              rw [hqo] at k50 k51
              rw [← Nat.add_assoc] at k41 k51
              clear hh4 hh5 hqi hqo hm1 hm2
              have c40 := hz.cell k40
              have c41 := hz.cell k41
              have c4l := World.block_lt_of_cell? _ _ c40
              have c50 := hz.cell k50
              have c51 := hz.cell k51
              have c5l := World.block_lt_of_cell? _ _ c50
              have c3 := hz.cell z3
              have c4 := hz.cell z4
              have cxl := World.block_lt_of_cell? _ _ c3
              have hts := take_snoc Q m hmt
              rw [← HY.out] at hts
              by_cases hq : qo = ib
              · have hE := idEq_of hq
                have hW : Hid (wokenL ib (Q.take (m + 1)) = wokenL ib (Q.take m) ++ [qi]) := Lib.hid (by rw [hts, wokenL_snoc, if_pos hq])
                have hL : Hid (leftL ib (Q.take (m + 1)) = leftL ib (Q.take m)) := Lib.hid (by rw [hts, leftL_snoc, if_pos hq])
                clear hts hq
                go_wp2_with fail
                go_quiet (fail)
                have hz2 := hz.drewN nq
                have enz2 := enz.drewN nq
                clear c40 c41 c4l c50 c51 c5l c3 c4 cxl hz enz
                generalize wr.drewN nq = wy at *
                have c40 := hz2.cell k40
                have c41 := hz2.cell k41
                have c4l := World.block_lt_of_cell? _ _ c40
                obtain ⟨Hd, ld, hz3, _⟩ := hz2.box #[.int .i64 qi.1, .int .i64 qi.2] 42
                go_wp2_with (at_builtin; refine wpList_append rfl (.tmp 56) (.tmp 61) 47 47 rfl Try.underlying47 (.inl ⟨_, Try.underlying47⟩) (.agg #[.int .i64 0, .int .i64 0]) 16 info_id rfl (by decide) (by decide) rfl rfl (hz2.alloc _) (News.newAt _ _ 1 _ _ (by simp) rfl (by simp [Value.oneCell'])) ?apB1 ?apK1)
                case apB1 => first | omega | (simp; omega) | (simp [idl_len]; omega) | skip
                intro v' w10 h10 en10
                go_wp2_with fail
                go_roundw
                case rel => exact ⟨m + 1, by omega, by go_num, by rw [hW.out, hL.out, idl_snoc]; exact h10, (enz2.alloc _).trans en10⟩
                case measure => simp [intOf]; omega
              · have hE := idEq_not hq
                have hW : Hid (wokenL ib (Q.take (m + 1)) = wokenL ib (Q.take m)) := Lib.hid (by rw [hts, wokenL_snoc, if_neg hq])
                have hL : Hid (leftL ib (Q.take (m + 1)) = leftL ib (Q.take m) ++ [(qi, qo)]) := Lib.hid (by rw [hts, leftL_snoc, if_neg hq])
                clear hts hq
                go_wp2_with fail
                go_quiet (fail)
                have hz2 := hz.drewN nq
                have enz2 := enz.drewN nq
                clear c40 c41 c4l c50 c51 c5l c3 c4 cxl hz enz
                generalize wr.drewN nq = wy at *
                have hz3 := (hz2.drew).perm ((List.perm_append_comm (l₁ := [_]) (l₂ := [_, _])).append_right _)
                simp only [List.cons_append, List.nil_append] at hz3
                obtain ⟨⟨u1, wa1, u2', wa2, ra1, ha1, ra2, ha2, ea⟩, ⟨s1, wb1, s2, wb2, rb1, hb1', rb2, hb2, eb⟩, ⟨t1, wc1, t2, wc2, rc1, hc1, rc2, hc2, ec⟩⟩ := app2 hz3 qi qo (by rw [List.length_map]; omega) (by rw [List.length_map]; omega)
                replace ra1 : (Builtin.append_ #[47, 47] 47 #[u9, .slice (some ⟨wy.heap.size, 0, none⟩) 1 1]).run Try.prog (wy.alloc (idB qi)).drew = .ok u1 wa1 := ra1
                replace ra2 : (Builtin.append_ #[47, 47] 47 #[u10, .slice (some ⟨wa1.heap.size, 0, none⟩) 1 1]).run Try.prog (wa1.alloc (idB qo)) = .ok u2' wa2 := ra2
                replace rb1 : (Builtin.append_ #[47, 47] 47 #[u9, .slice (some ⟨wy.heap.size, 0, none⟩) 1 1]).run Try.prog ((wy.alloc (idB qi)).alloc (idB qo)).drew = .ok s1 wb1 := rb1
                replace rb2 : (Builtin.append_ #[47, 47] 47 #[u10, .slice (some ⟨wy.heap.size + 1, 0, none⟩) 1 1]).run Try.prog wb1 = .ok s2 wb2 := rb2
                replace rc1 : (Builtin.append_ #[47, 47] 47 #[u9, .slice (some ⟨wy.heap.size + 1, 0, none⟩) 1 1]).run Try.prog ((wy.alloc (idB qo)).alloc (idB qi)).drew = .ok t1 wc1 := rc1
                replace rc2 : (Builtin.append_ #[47, 47] 47 #[u10, .slice (some ⟨wy.heap.size, 0, none⟩) 1 1]).run Try.prog wc1 = .ok t2 wc2 := rc2
                have kk : ∀ (l : List HA) (w' : World), St H2 l w' → w'.cell? ⟨b4, o4 + m * 2, none⟩ = some (.int .i64 qi.1) ∧ w'.cell? ⟨b4, o4 + m * 2 + 1, none⟩ = some (.int .i64 qi.2) ∧ w'.cell? ⟨b5, o5 + m * 2, none⟩ = some (.int .i64 qo.1) ∧ w'.cell? ⟨b5, o5 + m * 2 + 1, none⟩ = some (.int .i64 qo.2) := fun l w' h => ⟨h.cell k40, h.cell k41, h.cell k50, h.cell k51⟩
                have t0 := hz3
                have tA : St H2 _ (wy.alloc (idB qi)).drew := hz3.alloc (idB qi)
                have tB : St H2 _ (wy.alloc (idB qo)).drew := hz3.alloc (idB qo)
                have tAB : St H2 _ ((wy.alloc (idB qi)).alloc (idB qo)).drew := (hz3.alloc (idB qi)).alloc (idB qo)
                have tBA : St H2 _ ((wy.alloc (idB qo)).alloc (idB qi)).drew := (hz3.alloc (idB qo)).alloc (idB qi)
                have tA2 : St H2 _ (wa1.alloc (idB qo)) := ha1.alloc (idB qo)
                have fin : ∀ {x y : Value} {w' : World}, St H2 [Row 42 2 x (idl ((leftL ib (Q.take m)).map (·.1) ++ [qi])), Row 42 2 y (idl ((leftL ib (Q.take m)).map (·.2) ++ [qo])), Row 42 2 u8 (idl (wokenL ib (Q.take m))), WaI p Q] w' → St H2 [Row 42 2 u8 (idl (wokenL ib (Q.take (m + 1)))), Row 42 2 x (idl ((leftL ib (Q.take (m + 1))).map (·.1))), Row 42 2 y (idl ((leftL ib (Q.take (m + 1))).map (·.2))), WaI p Q] w' := fun {x y w'} h => by
                  rw [hW.out, hL.out, List.map_append, List.map_append]
                  exact h.perm ((List.perm_append_comm (l₁ := [_, _]) (l₂ := [_])).append_right [_])
                clear hz2 hz3
                have hEn := Lib.hid hE
                go_wp2_with fail
                go_region_held3 (fun w' => w'.cell? ⟨b4, o4 + m * 2, none⟩ = some (.int .i64 qi.1) ∧ w'.cell? ⟨b4, o4 + m * 2 + 1, none⟩ = some (.int .i64 qi.2) ∧ w'.cell? ⟨b5, o5 + m * 2, none⟩ = some (.int .i64 qo.1) ∧ w'.cell? ⟨b5, o5 + m * 2 + 1, none⟩ = some (.int .i64 qo.2))
                  (first | (with_reducible exact kk _ _ t0) | (with_reducible exact kk _ _ tA) | (with_reducible exact kk _ _ tB) | (with_reducible exact kk _ _ tAB) | (with_reducible exact kk _ _ tBA) | (with_reducible exact kk _ _ tA2) | (with_reducible exact kk _ _ ha1) | (with_reducible exact kk _ _ ha2) | (with_reducible exact kk _ _ hb1') | (with_reducible exact kk _ _ hb2) | (with_reducible exact kk _ _ hc1) | (with_reducible exact kk _ _ hc2))
                  (first
                    | (rw [if_pos (by rfl)]; (with_reducible refine oper_append_at (.tmp 63) (.tmp 68) 47 47 47 ra1 ?_ ?_ ?_ ?_ ?_); rfl; rfl; rfl; rfl)
                    | (rw [if_pos (by rfl)]; (with_reducible refine oper_append_at (.tmp 63) (.tmp 68) 47 47 47 rb1 ?_ ?_ ?_ ?_ ?_); rfl; rfl; rfl; rfl)
                    | (rw [if_pos (by rfl)]; (with_reducible refine oper_append_at (.tmp 63) (.tmp 68) 47 47 47 rc1 ?_ ?_ ?_ ?_ ?_); rfl; rfl; rfl; rfl)
                    | (rw [if_pos (by rfl)]; (with_reducible refine oper_append_at (.tmp 70) (.tmp 75) 47 47 47 ra2 ?_ ?_ ?_ ?_ ?_); rfl; rfl; rfl; rfl)
                    | (rw [if_pos (by rfl)]; (with_reducible refine oper_append_at (.tmp 70) (.tmp 75) 47 47 47 rb2 ?_ ?_ ?_ ?_ ?_); rfl; rfl; rfl; rfl)
                    | (rw [if_pos (by rfl)]; (with_reducible refine oper_append_at (.tmp 70) (.tmp 75) 47 47 47 rc2 ?_ ?_ ?_ ?_ ?_); rfl; rfl; rfl; rfl))
                all_goals
                  clear kk t0 tA tB tAB tBA tA2 ra1 ra2 rb1 rb2 rc1 rc2
                  go_wp2_with fail
                  go_roundw
                  case rel => first | exact ⟨m + 1, by omega, by go_num, fin ha2, enz2.drew.trans ea⟩ | exact ⟨m + 1, by omega, by go_num, fin hb2, enz2.drew.trans eb⟩ | exact ⟨m + 1, by omega, by go_num, fin hc2, enz2.drew.trans ec⟩
                  case measure => simp [intOf]; omega
            · obtain rfl : m = Q.length := by omega
              rw [List.take_length] at hz hwl hll
              clear htl
              have c3 := hz.cell z3
              have c4 := hz.cell z4
              have cxl := World.block_lt_of_cell? _ _ c3
              go_wp2_with fail
              refine (waIWake p Q ib H2 _ _ (hz.pick 3 (by simp))).mono ?_
              rintro e w13 ⟨wv, rfl, h13, en13⟩
              go_wp2_with fail
              refine (sameIds_any _ _ (wokenL ib Q) (wokenL ib Q) _ (h13.row_rw (by omega)) ((h13.pick 2 (by simp)).row_rw (by omega))).mono ?_
              rintro e w14 ⟨rfl, hb14⟩
              rw [decide_eq_true rfl]
              go_wp2_with fail
              go_meet
              have h14 := (((h13.below hb14).drop.pick 1 (by simp)).drop).perm (List.perm_append_comm (l₁ := [_]) (l₂ := [_, _]))
              exact ⟨leftL ib Q, h14.weaken lb2, (enz.trans en13).trans (bel_env hb14), Lib.hid (by omega)⟩
        | false =>
          by_cases hd : ia ∈ Q.map (·.1)
          · have hm : mayL ia ib Q = false := by unfold mayL; rw [decide_eq_true hd]; rfl
            have hp : Hid (parkL ia ib Q = Q) := Lib.hid (by unfold parkL; rw [hm]; rfl)
            have hd' := Lib.hid (decide_eq_true hd)
            replace hm := Lib.hid hm
            clear hd
            go_wp2_with fail
            refine (hasIds_any _ (Q.map (·.1)) ia _ (h6.row_rw (by omega))).mono ?_
            rintro e w7 ⟨rfl, hb7⟩
            rw [hd'.out]
            have h7 := h6.below hb7
            have en7 := en6.trans (bel_env hb7)
            clear x0 x1 x2 x3 x4 xl hb7
            have x1 := h7.cell y1
            have x2 := h7.cell y2
            have x3 := h7.cell y3
            have x4 := h7.cell y4
            have xl := World.block_lt_of_cell? _ _ x1
            go_wp2_with fail
            refine (waIPark p Q ia ib Hb _ _ (h7.pick 2 (by simp)) (by omega)).mono ?_
            rintro e w8 ⟨rfl, h8, en8⟩
            rw [hm.out]
            rw [hp.out] at h8
            go_wp2_with fail
            go_meet
            exact ⟨Q, h8.perm (List.perm_append_comm (l₁ := [_]) (l₂ := [_, _])), en7.trans en8, Lib.hid (by omega)⟩
          · by_cases hab : ia = ib
            · have hm : mayL ia ib Q = false := by unfold mayL; rw [decide_eq_true hab]; simp
              have hp : Hid (parkL ia ib Q = Q) := Lib.hid (by unfold parkL; rw [hm]; rfl)
              have hd' := Lib.hid (decide_eq_false hd)
              have hE := idEq_of hab
              replace hm := Lib.hid hm
              clear hd hab
              go_wp2_with fail
              refine (hasIds_any _ (Q.map (·.1)) ia _ (h6.row_rw (by omega))).mono ?_
              rintro e w7 ⟨rfl, hb7⟩
              rw [hd'.out]
              have h7 := h6.below hb7
              have en7 := en6.trans (bel_env hb7)
              clear x0 x1 x2 x3 x4 xl hb7
              have x1 := h7.cell y1
              have x2 := h7.cell y2
              have x3 := h7.cell y3
              have x4 := h7.cell y4
              have xl := World.block_lt_of_cell? _ _ x1
              go_wp2_with fail
              refine (waIPark p Q ia ib Hb _ _ (h7.pick 2 (by simp)) (by omega)).mono ?_
              rintro e w8 ⟨rfl, h8, en8⟩
              rw [hm.out]
              rw [hp.out] at h8
              go_wp2_with fail
              go_meet
              exact ⟨Q, h8.perm (List.perm_append_comm (l₁ := [_]) (l₂ := [_, _])), en7.trans en8, Lib.hid (by omega)⟩
            · have hm : mayL ia ib Q = true := by unfold mayL; rw [decide_eq_false hd, decide_eq_false hab]; rfl
              have hp : Hid (parkL ia ib Q = Q ++ [(ia, ib)]) := Lib.hid (by unfold parkL; rw [hm]; rfl)
              have hd' := Lib.hid (decide_eq_false hd)
              have hE := idEq_not hab
              replace hm := Lib.hid hm
              clear hd hab
              go_wp2_with fail
              refine (hasIds_any _ (Q.map (·.1)) ia _ (h6.row_rw (by omega))).mono ?_
              rintro e w7 ⟨rfl, hb7⟩
              rw [hd'.out]
              have h7 := h6.below hb7
              have en7 := en6.trans (bel_env hb7)
              clear x0 x1 x2 x3 x4 xl hb7
              have x1 := h7.cell y1
              have x2 := h7.cell y2
              have x3 := h7.cell y3
              have x4 := h7.cell y4
              have xl := World.block_lt_of_cell? _ _ x1
              go_wp2_with fail
              refine (waIPark p Q ia ib Hb _ _ (h7.pick 2 (by simp)) (by omega)).mono ?_
              rintro e wy ⟨rfl, h8, en8⟩
              rw [hm.out]
              rw [hp.out] at h8
              clear x1 x2 x3 x4 xl
              have x1 := h8.cell y1
              have x2 := h8.cell y2
              have x3 := h8.cell y3
              have x4 := h8.cell y4
              have xl := World.block_lt_of_cell? _ _ x1
              go_wp2_with fail
              have hz3 := (h8.drew).perm (List.perm_append_comm (l₁ := [_]) (l₂ := [_, _]))
              simp only [List.cons_append, List.nil_append] at hz3
              obtain ⟨⟨u1, wa1, u2', wa2, ra1, ha1, ra2, ha2, ea⟩, ⟨s1, wb1, s2, wb2, rb1, hb1', rb2, hb2, eb⟩, ⟨t1, wc1, t2, wc2, rc1, hc1, rc2, hc2, ec⟩⟩ := app2 hz3 ia ib (by rw [List.length_map]; omega) (by rw [List.length_map]; omega)
              replace ra1 : (Builtin.append_ #[47, 47] 47 #[(.slice A4 Q.length c4), .slice (some ⟨wy.heap.size, 0, none⟩) 1 1]).run Try.prog (wy.alloc (idB ia)).drew = .ok u1 wa1 := ra1
              replace ra2 : (Builtin.append_ #[47, 47] 47 #[(.slice A5 Q.length c5), .slice (some ⟨wa1.heap.size, 0, none⟩) 1 1]).run Try.prog (wa1.alloc (idB ib)) = .ok u2' wa2 := ra2
              replace rb1 : (Builtin.append_ #[47, 47] 47 #[(.slice A4 Q.length c4), .slice (some ⟨wy.heap.size, 0, none⟩) 1 1]).run Try.prog ((wy.alloc (idB ia)).alloc (idB ib)).drew = .ok s1 wb1 := rb1
              replace rb2 : (Builtin.append_ #[47, 47] 47 #[(.slice A5 Q.length c5), .slice (some ⟨wy.heap.size + 1, 0, none⟩) 1 1]).run Try.prog wb1 = .ok s2 wb2 := rb2
              replace rc1 : (Builtin.append_ #[47, 47] 47 #[(.slice A4 Q.length c4), .slice (some ⟨wy.heap.size + 1, 0, none⟩) 1 1]).run Try.prog ((wy.alloc (idB ib)).alloc (idB ia)).drew = .ok t1 wc1 := rc1
              replace rc2 : (Builtin.append_ #[47, 47] 47 #[(.slice A5 Q.length c5), .slice (some ⟨wy.heap.size, 0, none⟩) 1 1]).run Try.prog wc1 = .ok t2 wc2 := rc2
              have kk : ∀ (l : List HA) (w' : World), St Hb l w' → w'.cell? ⟨gx, 1, none⟩ = some (.int .i64 ia.1) ∧ w'.cell? ⟨gx, 2, none⟩ = some (.int .i64 ia.2) ∧ w'.cell? ⟨gx, 3, none⟩ = some (.int .i64 ib.1) ∧ w'.cell? ⟨gx, 4, none⟩ = some (.int .i64 ib.2) := fun l w' h => ⟨h.cell y1, h.cell y2, h.cell y3, h.cell y4⟩
              have t0 := hz3
              have tA : St Hb _ (wy.alloc (idB ia)).drew := hz3.alloc (idB ia)
              have tB : St Hb _ (wy.alloc (idB ib)).drew := hz3.alloc (idB ib)
              have tAB : St Hb _ ((wy.alloc (idB ia)).alloc (idB ib)).drew := (hz3.alloc (idB ia)).alloc (idB ib)
              have tBA : St Hb _ ((wy.alloc (idB ib)).alloc (idB ia)).drew := (hz3.alloc (idB ib)).alloc (idB ia)
              have tA2 : St Hb _ (wa1.alloc (idB ib)) := ha1.alloc (idB ib)
              have fin : ∀ {x y : Value} {w' : World}, St Hb [Row 42 2 x (idl (Q.map (·.1) ++ [ia])), Row 42 2 y (idl (Q.map (·.2) ++ [ib])), WaI p (Q ++ [(ia, ib)])] w' → St Hb [Row 42 2 x (idl ((Q ++ [(ia, ib)]).map (·.1))), Row 42 2 y (idl ((Q ++ [(ia, ib)]).map (·.2))), WaI p (Q ++ [(ia, ib)])] w' := fun {x y w'} h => by
                rw [List.map_append, List.map_append]
                exact h
              have en9 := en7.trans en8
              clear hz3 h8 h7
              go_region_held3 (fun w' => w'.cell? ⟨gx, 1, none⟩ = some (.int .i64 ia.1) ∧ w'.cell? ⟨gx, 2, none⟩ = some (.int .i64 ia.2) ∧ w'.cell? ⟨gx, 3, none⟩ = some (.int .i64 ib.1) ∧ w'.cell? ⟨gx, 4, none⟩ = some (.int .i64 ib.2))
                (first | (with_reducible exact kk _ _ t0) | (with_reducible exact kk _ _ tA) | (with_reducible exact kk _ _ tB) | (with_reducible exact kk _ _ tAB) | (with_reducible exact kk _ _ tBA) | (with_reducible exact kk _ _ tA2) | (with_reducible exact kk _ _ ha1) | (with_reducible exact kk _ _ ha2) | (with_reducible exact kk _ _ hb1') | (with_reducible exact kk _ _ hb2) | (with_reducible exact kk _ _ hc1) | (with_reducible exact kk _ _ hc2))
                (first
                  | (rw [if_pos (by rfl)]; (with_reducible refine oper_append_at (.tmp 107) (.tmp 110) 47 47 47 ra1 ?_ ?_ ?_ ?_ ?_); rfl; rfl; rfl; rfl)
                  | (rw [if_pos (by rfl)]; (with_reducible refine oper_append_at (.tmp 107) (.tmp 110) 47 47 47 rb1 ?_ ?_ ?_ ?_ ?_); rfl; rfl; rfl; rfl)
                  | (rw [if_pos (by rfl)]; (with_reducible refine oper_append_at (.tmp 107) (.tmp 110) 47 47 47 rc1 ?_ ?_ ?_ ?_ ?_); rfl; rfl; rfl; rfl)
                  | (rw [if_pos (by rfl)]; (with_reducible refine oper_append_at (.tmp 112) (.tmp 115) 47 47 47 ra2 ?_ ?_ ?_ ?_ ?_); rfl; rfl; rfl; rfl)
                  | (rw [if_pos (by rfl)]; (with_reducible refine oper_append_at (.tmp 112) (.tmp 115) 47 47 47 rb2 ?_ ?_ ?_ ?_ ?_); rfl; rfl; rfl; rfl)
                  | (rw [if_pos (by rfl)]; (with_reducible refine oper_append_at (.tmp 112) (.tmp 115) 47 47 47 rc2 ?_ ?_ ?_ ?_ ?_); rfl; rfl; rfl; rfl))
              all_goals
                clear kk t0 tA tB tAB tBA tA2 ra1 ra2 rb1 rb2 rc1 rc2
                go_wp2_with fail
                go_meet
                first
                  | exact ⟨Q ++ [(ia, ib)], fin ha2, en9.drew.trans ea, Lib.hid (by simp; omega)⟩
                  | exact ⟨Q ++ [(ia, ib)], fin hb2, en9.drew.trans eb, Lib.hid (by simp; omega)⟩
                  | exact ⟨Q ++ [(ia, ib)], fin hc2, en9.drew.trans ec, Lib.hid (by simp; omega)⟩
      case rest =>
        obtain ⟨Q', h7, en7, HQ'⟩ := hcut
        have hQ' := HQ'.out
        have hnd := Lib.hid (waI_nodup (h7.pick 2 (by simp)))
        obtain ⟨B4, n4, d4, rfl, hf4, hn4', hm4⟩ := h7.row_form
        obtain ⟨B5, n5, d5, rfl, hf5, hn5', hm5⟩ := h7.swap.row_form
        rw [idl_len, List.length_map] at hf4 hf5
        obtain rfl : n4 = Q'.length := by omega
        obtain rfl : n5 = Q'.length := by omega
        have hd4 : d4 ≤ 9223372036854775807 := by simpa [maxLen] using hm4
        have hd5 : d5 ≤ 9223372036854775807 := by simpa [maxLen] using hm5
        clear hf4 hf5 hm4 hm5
        have h8 := h7.blk #[.int .i64 0, .int .i64 0] 42
        have en8 := en7.alloc (.cells #[.int .i64 0, .int .i64 0] 42)
        go_wp2_with fail
        generalize wc.heap.size = g13 at *
        generalize wc.alloc (.cells #[.int .i64 0, .int .i64 0] 42) = W8 at *
        clear h7 h6
        go_loopw [14, 15] (fun b j wz => ∃ m, m ≤ Q'.length ∧ j = .int .i64 (m : Nat) ∧ b = .bool (memK ia (Q'.take m)) ∧ St Hb [Blk g13 #[.int .i64 (lastL ia (Q'.take m)).1, .int .i64 (lastL ia (Q'.take m)).2] 42, Row 42 2 (.slice B4 Q'.length d4) (idl (Q'.map (·.1))), Row 42 2 (.slice B5 Q'.length d5) (idl (Q'.map (·.2))), WaI p Q'] wz ∧ Env w wz) (fun _ j _ => Q'.length - (intOf j).toNat)
        case atStart => exact ⟨0, Nat.zero_le _, rfl, rfl, h8, en8⟩
        case round =>
          obtain ⟨m, hm, rfl, rfl, hz, enz⟩ := hrel
          clear h8 en8
          by_cases hmt : m < Q'.length
          · obtain ⟨⟨qi, qo⟩, HY⟩ : ∃ x, Hid (x = Q'[m]) := ⟨_, Lib.hid rfl⟩
            have hm1 : m < (Q'.map (·.1)).length := by simpa using hmt
            have hm2 : m < (Q'.map (·.2)).length := by simpa using hmt
            have hqi : (Q'.map (·.1))[m] = qi := by rw [List.getElem_map, ← HY.out]
            have hqo : (Q'.map (·.2))[m] = qo := by rw [List.getElem_map, ← HY.out]
            obtain ⟨b4, o4, rfl, c4l, hh4, _⟩ := (hz.pick 1 (by simp)).row_cells (by omega) (by omega)
            obtain ⟨b5, o5, rfl, c5l, hh5, _⟩ := (hz.pick 2 (by simp)).row_cells (by omega) (by omega)
            have c40 := hh4 _ _ (idl_fst _ m hm1)
            have c41 := hh4 _ _ (idl_snd _ m hm1)
            have c50 := hh5 _ _ (idl_fst _ m hm2)
            have c51 := hh5 _ _ (idl_snd _ m hm2)
            rw [hqi] at c40 c41
            rw [hqo] at c50 c51
            rw [← Nat.add_assoc] at c41 c51
            clear hh4 hh5 hqi hqo hm1 hm2
            have x1 := hz.cell y1
            have x2 := hz.cell y2
            have xl := World.block_lt_of_cell? _ _ x1
            have hts := take_snoc Q' m hmt
            rw [← HY.out] at hts
            by_cases hq : qi = ia
            · have hE := idEq_of hq
              have hD : Hid (memK ia (Q'.take (m + 1)) = true) := Lib.hid (by rw [hts]; exact memK_yes hq)
              have hLs : Hid (lastL ia (Q'.take (m + 1)) = qo) := Lib.hid (by rw [hts, lastL_snoc, if_pos hq])
              clear hts hq
              go_wp2_with fail
              go_quiet (fail)
              have hz2 := hz.drewN nq
              have enz2 := enz.drewN nq
              replace c50 : (wr.drewN nq).cell? _ = _ := c50
              replace c51 : (wr.drewN nq).cell? _ = _ := c51
              replace c5l : _ < (wr.drewN nq).heap.size := c5l
              clear c40 c41 c4l x1 x2 xl hz enz
              generalize wr.drewN nq = wy at *
              have z0 := hz2.blk_cell 0
              have z1 := hz2.blk_cell 1
              have zf0 := hz2.blk_free 0
              have zf1 := hz2.blk_free 1
              have zl := hz2.blk_lt
              go_wp2_with fail
              go_roundw
              case rel => exact ⟨m + 1, by omega, by go_num, by rw [hD.out], by rw [hLs.out]; exact (hz2.blk_set 0 (.int .i64 qo.1)).blk_set 1 (.int .i64 qo.2), (enz2.setCell ⟨g13, 0, none⟩ (.int .i64 qo.1)).setCell ⟨g13, 1, none⟩ (.int .i64 qo.2)⟩
              case measure => simp [intOf]; omega
            · have hE := idEq_not hq
              have hD : Hid (memK ia (Q'.take (m + 1)) = memK ia (Q'.take m)) := Lib.hid (by rw [hts]; exact memK_no hq)
              have hLs : Hid (lastL ia (Q'.take (m + 1)) = lastL ia (Q'.take m)) := Lib.hid (by rw [hts, lastL_snoc, if_neg hq])
              clear hts hq
              go_wp2_with fail
              go_quiet (fail)
              have hz2 := hz.drewN nq
              have enz2 := enz.drewN nq
              clear c40 c41 c4l c50 c51 c5l x1 x2 xl hz enz
              generalize wr.drewN nq = wy at *
              go_wp2_with fail
              go_roundw
              case rel => exact ⟨m + 1, by omega, by go_num, by rw [hD.out], by rw [hLs.out]; exact hz2, enz2⟩
              case measure => simp [intOf]; omega
          · obtain rfl : m = Q'.length := by omega
            have hl0 : lastL ia Q' = onL ia Q' := lastL_eq ia Q' hnd.out
            rw [List.take_length, hl0] at hz
            rw [List.take_length]
            have x1 := hz.cell y1
            have x2 := hz.cell y2
            have xl := World.block_lt_of_cell? _ _ x1
            clear hl0
            go_wp2_with fail
            refine (waIOn p Q' ia Hb _ _ (hz.pick 3 (by simp))).mono ?_
            rintro e w9 ⟨rfl, hb9⟩
            have h10 := (hz.below hb9).alloc (.cells #[.int .i64 (onL ia Q').1, .int .i64 (onL ia Q').2] 42)
            have en10 := (enz.trans (bel_env hb9)).alloc (.cells #[.int .i64 (onL ia Q').1, .int .i64 (onL ia Q').2] 42)
            clear x1 x2 xl hz enz
            have hz9 := h10
            have hE := idEq_of (rfl : onL ia Q' = onL ia Q')
            rw [show decide (ia ∈ Q'.map (·.1)) = memK ia Q' from rfl]
            generalize memK ia Q' = dd at *
            have d1 : (dd != dd) = false := by cases dd <;> rfl
            have g0 := h10.blk_cell 0
            have g1 := h10.blk_cell 1
            have gl := h10.blk_lt
            go_wp2_with fail
            generalize w9.alloc (.cells #[.int .i64 (onL ia Q').1, .int .i64 (onL ia Q').2] 42) = wA at *
            refine (waILen p Q' Hb _ _ (h10.pick 3 (by simp))).mono ?_
            rintro e wA' ⟨rfl, rfl⟩
            go_wp2_with fail
            refine (waIMissing p Q' Hb _ _ (h10.pick 3 (by simp)) (by omega)).mono ?_
            rintro e w11 ⟨mv, rfl, h11, en11⟩
            go_wp2_with fail
            refine (refSorted_any _ (Q'.map (·.2)) w11 ((h11.pick 4 (by simp)).row_rw (by omega)) (by rw [List.length_map]; omega)).mono ?_
            rintro e w12 he
            obtain ⟨sv, rfl, h12, en12⟩ := ResE.lift h11 he
            go_wp2_with fail
            refine (sameIds_any _ _ (sortL (Q'.map (·.2))) (sortL (Q'.map (·.2))) w12 (h12.swap.row_rw (by omega)) (h12.row_rw (by omega))).mono ?_
            rintro e w13 ⟨rfl, hb13⟩
            rw [decide_eq_true rfl]
            have h13 := h12.below hb13
            go_wp2_with fail
            refine (waIParked p Q' Hb _ _ (h13.pick 2 (by simp)) (by omega)).mono ?_
            rintro e w14 ⟨pv, rfl, h14, en14⟩
            go_wp2_with fail
            refine (refSorted_any _ (Q'.map (·.1)) w14 ((h14.pick 5 (by simp)).row_rw (by omega)) (by rw [List.length_map]; omega)).mono ?_
            rintro e w15 he
            obtain ⟨sv2, rfl, h15, en15⟩ := ResE.lift h14 he
            go_wp2_with fail
            refine (sameIds_any _ _ (sortL (Q'.map (·.1))) (sortL (Q'.map (·.1))) w15 (h15.swap.row_rw (by omega)) (h15.row_rw (by omega))).mono ?_
            rintro e w16 ⟨rfl, hb16⟩
            rw [decide_eq_true rfl]
            have h16 := (h15.below hb16).drop.drop
            go_wp2_with fail
            go_roundw
            case rel =>
              have h17 := h16.perm (List.perm_append_comm (l₁ := [_]) (l₂ := [_, _, _, _, _]))
              exact ⟨k + 1, Q', by omega, by go_num, (h17.drop.drop.drop).weaken lb1, (((((en10.trans en11).trans en12).trans (bel_env hb13)).trans en14).trans en15).trans (bel_env hb16), HQ'⟩
            case measure => simp [intOf]; omega
    · obtain rfl : k = acts.length := by omega
      go_wp2_with fail
      refine (waOn_nil (0, 0) wr).mono ?_
      rintro e w7 ⟨rfl, hb7⟩
      have g7 := hst.below hb7
      have e7 := hen.trans (bel_env hb7)
      clear hb7
      go_wp2_with fail
      have g7' := g7.alloc (.cells #[.int .i64 0, .int .i64 0] 42)
      have e7' := e7.alloc (.cells #[.int .i64 0, .int .i64 0] 42)
      refine (waPark_nil (0, 1) (0, 0) _).mono ?_
      rintro e w8 ⟨rfl, hb8⟩
      have g8 := g7'.below hb8
      have e8 := e7'.trans (bel_env hb8)
      clear hb8
      go_wp2_with fail
      refine (waWake_nil (0, 0) _).mono ?_
      rintro e w9 ⟨rfl, hb9⟩
      have g9 := g8.below hb9
      have e9 := e8.trans (bel_env hb9)
      clear hb9
      go_wp2_with fail
      refine (waLen_nil _).mono ?_
      rintro e w9' ⟨rfl, rfl⟩
      go_wp2_with fail
      refine (waMissing_nil _).mono ?_
      rintro e w9' ⟨rfl, rfl⟩
      go_wp2_with fail
      refine (waParked_nil _).mono ?_
      rintro e w9' ⟨rfl, rfl⟩
      go_wp2_with fail
      refine (works22 _).mono ?_
      rintro e w10 ⟨rfl, hb10⟩
      go_wp2_with fail
      go_ret
      exact ⟨rfl, (g9.below hb10).toBelow (e9.trans (bel_env hb10))⟩
end Go.Proofs.Ytmdmekdmlkhchaa
