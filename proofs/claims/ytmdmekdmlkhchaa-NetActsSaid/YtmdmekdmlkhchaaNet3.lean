/- Messages are sent. -/
import Derived.Test.YtmdmekdmlkhchaaNet2
import Derived.Test.YtmdmekdmlkhchaaMapEntry
import Derived.Deep.RegionLaw
set_option linter.unusedVariables false
set_option linter.unusedSimpArgs false
namespace Go.Proofs.Ytmdmekdmlkhchaa
open Go.RowKit Go.Cw
set_option maxRecDepth 100000 in
theorem netSend_nil (f t : Int) (bv : Value) (w : World) : Calls Try.prog 33 #[.pointer none, .agg #[.int .i64 f, .int .i64 t, bv]] w fun e w' => e = .returned (.int .i64 2) ∧ Below w.heap.size w w' := by
  have hb := belBox w (.cells #[.int .i64 f, .int .i64 t, bv] 59)
  go_enter Try.func33, Try.ntmps33
  go_wp2_with fail
  go_ret
  exact ⟨rfl, hb⟩
set_option maxRecDepth 100000 in
theorem netSend_rep (p : Nat) (f t : Int) (bv : Value) (hbad : ¬ (repB f = true ∧ repB t = true ∧ f ≠ t)) (w : World) : Calls Try.prog 33 #[netP p, .agg #[.int .i64 f, .int .i64 t, bv]] w fun e w' => e = .returned (.int .i64 7) ∧ Below w.heap.size w w' := by
  have hb := belBox w (.cells #[.int .i64 f, .int .i64 t, bv] 59)
  cases hf : repB f with
  | false =>
    replace hf := Lib.hid hf
    go_enter Try.func33, Try.ntmps33
    go_wp2_with fail
    refine (may_any f _).mono ?_
    rintro e w2 ⟨rfl, rfl⟩
    rw [hf.out]
    go_wp2_with fail
    go_ret
    exact ⟨rfl, hb⟩
  | true =>
    cases ht : repB t with
    | false =>
      replace hf := Lib.hid hf
      replace ht := Lib.hid ht
      go_enter Try.func33, Try.ntmps33
      go_wp2_with fail
      refine (may_any f _).mono ?_
      rintro e w2 ⟨rfl, rfl⟩
      rw [hf.out]
      go_wp2_with fail
      refine (may_any t _).mono ?_
      rintro e w2 ⟨rfl, rfl⟩
      rw [ht.out]
      go_wp2_with fail
      go_ret
      exact ⟨rfl, hb⟩
    | true =>
      have hft : (f == t) = true := beq_iff_eq.2 (by
        rcases Int.lt_trichotomy f t with h | h | h
        · exact absurd ⟨hf, ht, by omega⟩ hbad
        · exact h
        · exact absurd ⟨hf, ht, by omega⟩ hbad)
      replace hf := Lib.hid hf
      replace ht := Lib.hid ht
      clear hbad
      go_enter Try.func33, Try.ntmps33
      go_wp2_with fail
      refine (may_any f _).mono ?_
      rintro e w2 ⟨rfl, rfl⟩
      rw [hf.out]
      go_wp2_with fail
      refine (may_any t _).mono ?_
      rintro e w2 ⟨rfl, rfl⟩
      rw [ht.out]
      go_wp2_with fail
      go_ret
      exact ⟨rfl, hb⟩
set_option maxRecDepth 100000 in
theorem netSend_long (p : Nat) (f t : Int) (A : Option Addr) (n c : Nat) (hf : repB f = true) (ht : repB t = true) (hne : f ≠ t) (hl : (4096 : Int) < (n : Int)) (w : World) : Calls Try.prog 33 #[netP p, .agg #[.int .i64 f, .int .i64 t, .slice A n c]] w fun e w' => e = .returned (.int .i64 18) ∧ Below w.heap.size w w' := by
  have hb := belBox w (.cells #[.int .i64 f, .int .i64 t, .slice A n c] 59)
  have hft : (f == t) = false := beq_eq_false_iff_ne.2 hne
  replace hf := Lib.hid hf
  replace ht := Lib.hid ht
  clear hne
  go_enter Try.func33, Try.ntmps33
  go_wp2_with fail
  refine (may_any f _).mono ?_
  rintro e w2 ⟨rfl, rfl⟩
  rw [hf.out]
  go_wp2_with fail
  refine (may_any t _).mono ?_
  rintro e w2 ⟨rfl, rfl⟩
  rw [ht.out]
  go_wp2_with fail
  go_ret
  exact ⟨rfl, hb⟩
set_option maxRecDepth 100000 in
set_option maxHeartbeats 800000 in
theorem netSend_full (p : Nat) (room : Int) (l : List Msg) (f t : Int) (A' : Option Addr) (n c' : Nat) (hf : repB f = true) (ht : repB t = true) (hne : f ≠ t) (hl : ¬ (4096 : Int) < (n : Int)) (hr : room ≤ (l.length : Int)) (H : Hp) (fr : List HA) (w : World) (h : St H (NetA p room l :: fr) w) :
    Calls Try.prog 33 #[netP p, .agg #[.int .i64 f, .int .i64 t, .slice A' n c']] w fun e w' => e = .returned (.int .i64 13) ∧ Below w.heap.size w w' := by
  have hb := belBox w (.cells #[.int .i64 f, .int .i64 t, .slice A' n c'] 59)
  obtain ⟨A, c, h1, hn, hc⟩ := netOpen (h.alloc (.cells #[.int .i64 f, .int .i64 t, .slice A' n c'] 59))
  have hft : (f == t) = false := beq_eq_false_iff_ne.2 hne
  have c0 := h1.blk_cell 0
  have c1 := h1.blk_cell 1
  have cl := h1.blk_lt
  replace hf := Lib.hid hf
  replace ht := Lib.hid ht
  clear hne
  go_enter Try.func33, Try.ntmps33
  go_wp2_with fail
  refine (may_any f _).mono ?_
  rintro e w2 ⟨rfl, rfl⟩
  rw [hf.out]
  go_wp2_with fail
  refine (may_any t _).mono ?_
  rintro e w2 ⟨rfl, rfl⟩
  rw [ht.out]
  go_wp2_with fail
  generalize w.alloc (.cells #[.int .i64 f, .int .i64 t, .slice A' n c'] 59) = W at *
  go_quiet (fail)
  go_wp2_with fail
  go_ret
  exact ⟨rfl, bel_drewN' hb nq⟩
theorem info_msg : (Try.prog.info? 59).map (fun i => (i.zero, i.size, i.bytes)) = some (some (.agg #[.int .i64 0, .int .i64 0, .slice none 0 0]), 3, 40) := by kernel_rfl
theorem News.msgAt {H : Hp} {l : List HA} {w : World} (hst : St H l w) (g : Nat) (f t : Int) (A : Option Addr) (n c : Nat) (h0 : H.cell g 0 = some (.int .i64 f)) (h1 : H.cell g 1 = some (.int .i64 t)) (h2 : H.cell g 2 = some (.slice A n c)) : News Try.prog w 3 (.slice (some ⟨g, 0, none⟩) 1 1) 1 [.int .i64 f, .int .i64 t, .slice A n c] :=
  News.slice rfl (fun _ => ⟨_, rfl, fun j u hj => by
    rw [add_lit]
    match j with
    | 0 => simp at hj; subst hj; exact hst.cell h0
    | 1 => simp at hj; subst hj; exact hst.cell h1
    | 2 => simp at hj; subst hj; exact hst.cell h2
    | j + 3 => simp at hj⟩) (by simp [Value.oneCell'])
theorem mscs_snoc (l : List Msg) (m : Msg) : mscs (l ++ [m]) = mscs l ++ [.int .i64 m.1, .int .i64 m.2.1, m.2.2.1] := by simp [mscs, msc]
set_option maxRecDepth 100000 in
set_option maxHeartbeats 1600000 in
theorem netSend_ok (p : Nat) (room : Int) (l : List Msg) (f t : Int) (A' : Option Addr) (n c' : Nat) (xs : List Int) (hf : repB f = true) (ht : repB t = true) (hne : f ≠ t) (hl : ¬ (4096 : Int) < (n : Int)) (hr : ¬ room ≤ (l.length : Int)) (hroom : room ≤ 4096) (H : Hp) (fr : List HA) (w : World) (h : St H (NetA p room l :: fr) w) (hx : Rw w 1 (.slice A' n c') (u8s xs)) :
    Calls Try.prog 33 #[netP p, .agg #[.int .i64 f, .int .i64 t, .slice A' n c']] w fun e w' => e = .returned (.int .i64 0) ∧ Env w w' ∧ ∃ v, St H (Row 5 1 v (u8s xs) :: NetA p room (l ++ [(f, t, v, xs)]) :: fr) w' := by
  have hlx : xs.length = n := by
    obtain ⟨A, n', c, hv, hl', _⟩ := hx.form
    cases hv
    rw [u8s_len] at hl'
    omega
  obtain ⟨Ha, la, h0, ya⟩ := h.box #[.int .i64 f, .int .i64 t, .slice A' n c'] 59
  have y0 := ya 0 _ rfl
  have y1 := ya 1 _ rfl
  have y2 := ya 2 _ rfl
  have en0 := (Env.refl w).alloc (.cells #[.int .i64 f, .int .i64 t, .slice A' n c'] 59)
  have hxW := hx.alloc (.cells #[.int .i64 f, .int .i64 t, .slice A' n c'] 59)
  obtain ⟨A, c, h1, hn, hc⟩ := netOpen h0
  have hft : (f == t) = false := beq_eq_false_iff_ne.2 hne
  have c0 := h1.blk_cell 0
  have c1 := h1.blk_cell 1
  have cl := h1.blk_lt
  replace hf := Lib.hid hf
  replace ht := Lib.hid ht
  clear hne ya h0
  go_enter Try.func33, Try.ntmps33
  go_wp2_with fail
  refine (may_any f _).mono ?_
  rintro e w2 ⟨rfl, rfl⟩
  rw [hf.out]
  go_wp2_with fail
  refine (may_any t _).mono ?_
  rintro e w2 ⟨rfl, rfl⟩
  rw [ht.out]
  go_wp2_with fail
  generalize w.alloc (.cells #[.int .i64 f, .int .i64 t, .slice A' n c'] 59) = W at *
  generalize w.heap.size = gb at *
  go_quiet (fail)
  have h2 := (h1.drewN nq).drew
  have en2 := (en0.drewN nq).drew
  have hx2 := (hxW.drewN nq).drewN 1
  replace hx2 : Rw (W.drewN nq).drew 1 (.slice A' n c') (u8s xs) := hx2
  clear c0 c1 cl h1 en0 hxW
  generalize W.drewN nq = W2 at *
  have c1 : W2.cell? ⟨p, 1, none⟩ = some (.slice A l.length c) := h2.blk_cell 1
  have cl : p < W2.heap.size := h2.blk_lt
  have x0 : W2.cell? ⟨gb, 0, none⟩ = _ := h2.cell y0
  have x1 : W2.cell? ⟨gb, 1, none⟩ = _ := h2.cell y1
  have x2 : W2.cell? ⟨gb, 2, none⟩ = _ := h2.cell y2
  have xl := World.block_lt_of_cell? _ _ x0
  go_wp2_with fail
  go_region_law (first
    | (go_simp; go_at_call 96; refine (clone_any f t (.slice A' n c') xs _ hx2 (by omega)).mono ?_; rintro e w3 he; obtain ⟨v, rfl, h3, en3⟩ := ResE.lift h2 he; obtain ⟨vA, vn, vc, rfl, _⟩ := h3.row_form; have c3 := h3.swap.blk_cell 1; have cf3 := h3.swap.blk_free 1; have cl3 := h3.swap.blk_lt; have nn3 := World.new_ne w3 _ c3; obtain ⟨H4, l4, h4, y4⟩ := h3.box #[.int .i64 f, .int .i64 t, .slice vA vn vc] 59; obtain ⟨v', w5, hrun, h5, en5⟩ := St.append_run (h4.pick 2 (by simp)) 66 66 66 (.agg #[.int .i64 0, .int .i64 0, .slice none 0 0]) 40 Try.underlying66 (.inl ⟨_, Try.underlying66⟩) info_msg rfl (by decide) (News.msgAt h4 w3.heap.size f t vA vn vc (y4 0 _ rfl) (y4 1 _ rfl) (y4 2 _ rfl)) (by rw [mscs_len]; simp; omega) (by decide); obtain ⟨vB, vm, vd, rfl, _⟩ := h5.row_form)
    | (rw [if_pos (by rfl)]; (with_reducible refine oper_append_at (.tmp 46) (.tmp 49) 66 66 66 hrun ?_ ?_ ?_ ?_ ?_); rfl; rfl; rfl; rfl; have c5 := (h5.pick 2 (by simp)).blk_cell 1; have cf5 := (h5.pick 2 (by simp)).blk_free 1; have cl5 := (h5.pick 2 (by simp)).blk_lt))
  all_goals
    have h6 := (h5.pick 2 (by simp)).blk_set 1 (.slice vB vm vd)
    have en6 := (((en2.trans en3).alloc (.cells #[.int .i64 f, .int .i64 t, .slice vA vn vc] 59)).trans en5).setCell ⟨p, 1, none⟩ (.slice vB vm vd)
    have h7 : St H4 (NetA p room (l ++ [(f, t, .slice vA vn vc, xs)]) :: Row 5 1 (.slice vA vn vc) (u8s xs) :: fr) _ := netShut (by rw [mscs_snoc]; exact h6)
    have h8 := (h7.swap.weaken l4).weaken la
    clear h7 h6 h5 h4 h3 h2 hrun nn3 c3 cf3 cl3 c5 cf5 cl5
    go_wp2_with fail
    go_ret
    exact ⟨rfl, en6, _, h8⟩
end Go.Proofs.Ytmdmekdmlkhchaa
