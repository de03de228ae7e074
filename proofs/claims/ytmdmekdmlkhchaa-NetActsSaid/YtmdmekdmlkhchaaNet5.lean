/- Messages are doubled, and places told. -/
import Derived.Test.YtmdmekdmlkhchaaNet4
set_option linter.unusedVariables false
set_option linter.unusedSimpArgs false
namespace Go.Proofs.Ytmdmekdmlkhchaa
open Go.RowKit Go.Cw
set_option maxRecDepth 100000 in
set_option maxHeartbeats 800000 in
theorem netTake_out (p : Nat) (room : Int) (l : List Msg) (i : Int) (hi : i < 0 ∨ (l.length : Int) ≤ i) (H : Hp) (fr : List HA) (w : World) (h : St H (NetA p room l :: fr) w) :
    Calls Try.prog 31 #[netP p, .int .i64 i] w fun e w' => e = .returned (.tuple #[.agg #[.int .i64 0, .int .i64 0, .slice none 0 0], .int .i64 20]) ∧ Below w.heap.size w w' := by
  have h1 := h.alloc (.cells #[.int .i64 0, .int .i64 0, .slice none 0 0] 59)
  have k1 := (St.start w).blk #[.int .i64 0, .int .i64 0, .slice none 0 0] 59
  have en1 := (Env.refl w).alloc (.cells #[.int .i64 0, .int .i64 0, .slice none 0 0] 59)
  go_enter Try.func31, Try.ntmps31
  go_wp2_with fail
  refine (netAt_out p room l i hi H _ _ h1).mono ?_
  rintro e w2 ⟨rfl, hb2⟩
  have k2 := (k1.below hb2).alloc (.cells #[.int .i64 0, .int .i64 0, .slice none 0 0] 59)
  have en2 := (en1.trans (bel_env hb2)).alloc (.cells #[.int .i64 0, .int .i64 0, .slice none 0 0] 59)
  generalize hgg : w.heap.size = g at *
  have zf0 := k2.blk_free 0
  have zf1 := k2.blk_free 1
  have zf2 := k2.blk_free 2
  have z0 := k2.blk_cell 0
  have z1 := k2.blk_cell 1
  have z2 := k2.blk_cell 2
  have zl := k2.blk_lt
  clear k1 h1 hb2
  go_wp2_with fail
  have k3 := ((k2.blk_set 0 (.int .i64 0)).blk_set 1 (.int .i64 0)).blk_set 2 (.slice none 0 0)
  have en3 := ((en2.setCell ⟨g, 0, none⟩ (.int .i64 0)).setCell ⟨g, 1, none⟩ (.int .i64 0)).setCell ⟨g, 2, none⟩ (.slice none 0 0)
  first
    | (refine bodyPost_ret (res_cell_tmp rfl _ _ g 59 _ (0, 0) _ rfl k2.blk_heap Try.underlying59 rfl msgSize _ rfl) rfl ?_; exact ⟨rfl, hgg ▸ k2.toBelow en2⟩)
    | (refine bodyPost_ret (res_cell_tmp rfl _ _ g 59 _ (0, 0) _ rfl k3.blk_heap Try.underlying59 rfl msgSize _ rfl) rfl ?_; exact ⟨rfl, hgg ▸ k3.toBelow en3⟩)
set_option maxRecDepth 100000 in
theorem netDouble_nil (i : Int) (w : World) : Calls Try.prog 34 #[.pointer none, .int .i64 i] w fun e w' => e = .returned (.int .i64 2) ∧ w = w' := by
  go_enter Try.func34, Try.ntmps34
  go_wp2_with fail
  go_ret
  exact ⟨rfl, rfl⟩
set_option maxRecDepth 100000 in
theorem netDouble_out (p : Nat) (room : Int) (l : List Msg) (i : Int) (hi : i < 0 ∨ (l.length : Int) ≤ i) (H : Hp) (fr : List HA) (w : World) (h : St H (NetA p room l :: fr) w) :
    Calls Try.prog 34 #[netP p, .int .i64 i] w fun e w' => e = .returned (.int .i64 20) ∧ Below w.heap.size w w' := by
  go_enter Try.func34, Try.ntmps34
  go_wp2_with fail
  refine (netAt_out p room l i hi H _ _ h).mono ?_
  rintro e w2 ⟨rfl, hb2⟩
  have hb3 := hb2.alloc hb2.size (.cells #[.int .i64 0, .int .i64 0, .slice none 0 0] 59)
  go_wp2_with fail
  go_ret
  exact ⟨rfl, hb3⟩
set_option maxRecDepth 100000 in
set_option maxHeartbeats 800000 in
theorem netDouble_full (p : Nat) (room : Int) (l : List Msg) (i : Nat) (hi : i < l.length) (hr : room ≤ (l.length : Int)) (H : Hp) (hg : MGood H l) (fr : List HA) (w : World) (h : St H (NetA p room l :: fr) w) :
    Calls Try.prog 34 #[netP p, .int .i64 (i : Int)] w fun e w' => e = .returned (.int .i64 13) ∧ St H (NetA p room l :: fr) w' ∧ Env w w' := by
  have hgi := Lib.hid (hg _ (List.getElem_mem hi))
  go_enter Try.func34, Try.ntmps34
  go_wp2_with fail
  refine (netAt_in p room l i hi H hg _ _ h).mono ?_
  rintro e w2 ⟨v, rfl, h2, en2⟩
  obtain ⟨⟨f, t, bv, xs⟩, HX⟩ : ∃ x, Hid (x = l[i]) := ⟨_, Lib.hid rfl⟩
  have hgj := hgi.out
  rw [← HX.out] at h2 hgj ⊢
  simp only at h2 hgj ⊢
  obtain ⟨vA, vn, vc, rfl, hvl, _⟩ := h2.row_form
  rw [u8s_len, Nat.mul_one] at hvl
  have h3 := h2.alloc (.cells #[.int .i64 f, .int .i64 t, .slice vA vn vc] 59)
  have en3 := en2.alloc (.cells #[.int .i64 f, .int .i64 t, .slice vA vn vc] 59)
  replace hgj := Lib.hid hgj
  go_wp2_with fail
  refine (netSend_full p room l f t vA vn vc hgj.out.2.2.1 hgj.out.2.2.2.1 hgj.out.2.2.2.2 (by have := hgj.out.2.1; omega) (by omega) H _ _ h3.swap).mono ?_
  rintro e w4 ⟨rfl, hb4⟩
  go_wp2_with fail
  go_ret
  exact ⟨rfl, (h3.below hb4).drop, en3.trans (bel_env hb4)⟩
set_option maxRecDepth 100000 in
set_option maxHeartbeats 800000 in
theorem netDouble_ok (p : Nat) (room : Int) (l : List Msg) (i : Nat) (hi : i < l.length) (hr : ¬ room ≤ (l.length : Int)) (hroom : room ≤ 4096) (H : Hp) (hg : MGood H l) (fr : List HA) (w : World) (h : St H (NetA p room l :: fr) w) :
    Calls Try.prog 34 #[netP p, .int .i64 (i : Int)] w fun e w' => e = .returned (.int .i64 0) ∧ Env w w' ∧ ∃ v, St H (Row 5 1 v (u8s l[i].2.2.2) :: NetA p room (l ++ [(l[i].1, l[i].2.1, v, l[i].2.2.2)]) :: fr) w' := by
  have hgi := Lib.hid (hg _ (List.getElem_mem hi))
  go_enter Try.func34, Try.ntmps34
  go_wp2_with fail
  refine (netAt_in p room l i hi H hg _ _ h).mono ?_
  rintro e w2 ⟨v, rfl, h2, en2⟩
  obtain ⟨⟨f, t, bv, xs⟩, HX⟩ : ∃ x, Hid (x = l[i]) := ⟨_, Lib.hid rfl⟩
  have hgj := hgi.out
  rw [← HX.out] at h2 hgj ⊢
  simp only at h2 hgj ⊢
  obtain ⟨vA, vn, vc, rfl, hvl, _⟩ := h2.row_form
  rw [u8s_len, Nat.mul_one] at hvl
  have h3 := h2.alloc (.cells #[.int .i64 f, .int .i64 t, .slice vA vn vc] 59)
  have en3 := en2.alloc (.cells #[.int .i64 f, .int .i64 t, .slice vA vn vc] 59)
  replace hgj := Lib.hid hgj
  go_wp2_with fail
  refine (netSend_ok p room l f t vA vn vc xs hgj.out.2.2.1 hgj.out.2.2.2.1 hgj.out.2.2.2.2 (by have := hgj.out.2.1; omega) (by omega) hroom H _ _ h3.swap (h3.row_rw (by omega))).mono ?_
  rintro e w4 ⟨rfl, en4, v4, h4⟩
  go_wp2_with fail
  go_ret
  rw [← HX.out]
  exact ⟨rfl, en3.trans en4, v4, (h4.pick 2 (by simp)).drop⟩
/-- The places at which a number stands. -/
def forK (tt : Int) (T : List Int) (k : Nat) : List Int := ((List.range k).filter (fun j => decide (T.getD j 0 = tt))).map (fun (j : Nat) => (j : Int))
theorem forK_succ (tt : Int) (T : List Int) (k : Nat) : forK tt T (k + 1) = if T.getD k 0 = tt then forK tt T k ++ [(k : Int)] else forK tt T k := by
  unfold forK
  rw [List.range_succ, List.filter_append]
  by_cases h : T.getD k 0 = tt
  · rw [if_pos h, List.filter_cons, if_pos (decide_eq_true h), List.filter_nil, List.map_append]
    rfl
  · rw [if_neg h, List.filter_cons, if_neg (fun e => h (of_decide_eq_true e)), List.filter_nil, List.append_nil]
theorem forK_len (tt : Int) (T : List Int) (k : Nat) : (forK tt T k).length ≤ k := by
  unfold forK
  rw [List.length_map]
  have := List.length_filter_le (fun j => decide (T.getD j 0 = tt)) (List.range k)
  rwa [List.length_range] at this
set_option maxRecDepth 100000 in
set_option maxHeartbeats 800000 in
theorem netFor (p : Nat) (room tt : Int) (l : List Msg) (hM : l.length ≤ 1000000) (H : Hp) (fr : List HA) (w : World) (h : St H (NetA p room l :: fr) w) :
    Calls Try.prog 37 #[netP p, .int .i64 tt] w fun e w' => ∃ v, e = .returned v ∧ St H (Row 3 1 v (ints (forK tt (l.map (·.2.1)) l.length)) :: NetA p room l :: fr) w' ∧ Env w w' := by
  have h0 := h.row_nil 3 1
  go_enter Try.func37, Try.ntmps37
  go_wp2_with fail
  go_step3
  go_wp2_with fail
  go_step3
  go_wp2_with fail
  go_loopw [5, 6] (fun s5 s6 wr => ∃ k : Nat, k ≤ l.length ∧ s6 = .int .i64 (k : Int) ∧ St H (Row 3 1 s5 (ints (forK tt (l.map (·.2.1)) k)) :: NetA p room l :: fr) wr ∧ Env w wr) (fun _ s6 _ => l.length - (intOf s6).toNat)
  case atStart => exact ⟨0, Nat.zero_le _, rfl, h0, Env.refl w⟩
  case round =>
    clear h0
    obtain ⟨k, hk, rfl, hst, hen⟩ := hrel
    have hfl := forK_len tt (l.map (·.2.1)) k
    go_wp2_with fail
    refine (netLen p room l H _ _ hst.swap).mono ?_
    rintro e w2 ⟨rfl, rfl⟩
    by_cases hlt : k < l.length
    · obtain ⟨⟨f, t, bv, xs⟩, HX⟩ : ∃ x, Hid (x = l[k]) := ⟨_, Lib.hid rfl⟩
      obtain ⟨A, c, h2, hnc, hc⟩ := netOpen hst.swap
      have c1 := h2.blk_cell 1
      have cl := h2.blk_lt
      obtain ⟨b, o, rfl, bl, hcells, _⟩ := h2.swap.row_cells (by omega) (by omega)
      have q1 := hcells _ _ (mscs_get l k hlt).2.1
      rw [← Nat.add_assoc] at q1
      rw [← HX.out] at q1
      simp only at q1
      have hki : (k : Int) < (l.length : Int) := by omega
      have hT : (l.map (·.2.1)).getD k 0 = t := by
        simp only [List.getD_eq_getElem?_getD, List.getElem?_map, List.getElem?_eq_getElem hlt, ← HX.out]
        rfl
      have hs := forK_succ tt (l.map (·.2.1)) k
      rw [hT] at hs
      clear hcells hT
      by_cases ht : t = tt
      · have hb : (t == tt) = true := beq_iff_eq.2 ht
        rw [if_pos ht] at hs
        replace hs := Lib.hid hs
        clear ht
        go_wp2_with (at_builtin; refine wpList_append rfl (.tmp 21) (.tmp 23) 26 26 rfl Try.underlying26 (.inl ⟨_, Try.underlying26⟩) (.int .i64 0) 8 info_int rfl (by decide) (by decide) rfl rfl (hst.alloc _) (News.newAt _ _ 1 _ _ (by simp) rfl (by simp [Value.oneCell'])) ?apB1 ?apK1)
        case apB1 => first | omega | (simp; omega) | (simp [ints_len]; omega) | skip
        intro v' w10 h10 en10
        go_wp2_with fail
        go_roundw
        case rel => exact ⟨k + 1, by omega, by go_num, by rw [hs.out, ints_append]; exact h10, (hen.alloc _).trans en10⟩
        case measure => simp [intOf]; omega
      · have hb : (t == tt) = false := beq_eq_false_iff_ne.2 ht
        rw [if_neg ht] at hs
        replace hs := Lib.hid hs
        clear ht
        go_wp2_with fail
        go_roundw
        case rel => exact ⟨k + 1, by omega, by go_num, by rw [hs.out]; exact hst, hen⟩
        case measure => simp [intOf]; omega
    · obtain rfl : k = l.length := by omega
      go_wp2_with fail
      rw [Exit.noGoto_ret]
      go_ret
      exact ⟨_, rfl, hst, hen⟩
end Go.Proofs.Ytmdmekdmlkhchaa
