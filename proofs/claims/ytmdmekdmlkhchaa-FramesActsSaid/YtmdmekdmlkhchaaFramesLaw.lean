/- The law of the stack: walked. -/
import Derived.Test.YtmdmekdmlkhchaaInts
set_option linter.unusedVariables false
set_option linter.unusedSimpArgs false
namespace Go.Proofs.Ytmdmekdmlkhchaa
open Go.RowKit Go.Cw
attribute [local go_sem] max_int min_int

set_option maxRecDepth 100000 in
set_option maxHeartbeats 800000 in
theorem works23 (H : Hp) (fr : List HA) (w : World) (h : St H fr w) : Calls Try.prog 14 #[] w (Res H fr w (.bool true) []) := by
  go_enter Try.func14, Try.ntmps14
  go_wp2_with fail
  refine (new_any H fr w h).mono ?_
  rintro e w1 ⟨g, rfl, h1, en1⟩
  go_wp2_with fail
  refine (push_any g [] 1 H fr w1 h1 (by decide)).mono ?_
  rintro e w2 ⟨rfl, h2, en2⟩
  go_wp2_with fail
  refine (push_any g [1] 2 H fr w2 h2 (by decide)).mono ?_
  rintro e w3 ⟨rfl, h3, en3⟩
  go_wp2_with fail
  refine (push_any g [1, 2] 3 H fr w3 h3 (by decide)).mono ?_
  rintro e w4 ⟨rfl, h4, en4⟩
  go_wp2_with fail
  refine (cut_some g [1, 2, 3] 1 H fr w4 h4 (by decide) (by decide)).mono ?_
  rintro e w5 ⟨v, rfl, h5, en5⟩
  go_wp2_with fail
  refine (top_some g [1] H (Row 3 1 v (ints [2, 3]) :: fr) w5 h5.swap (by decide)).mono ?_
  rintro e w5' ⟨rfl, rfl⟩
  go_wp2_with fail
  refine (sameInts_any v _ [2, 3] [2, 3] _ ((h5.row_rw (by decide)).alloc _) ?_).mono ?_
  · exact ((h5.row_lit 3 1 2 #[.int .i64 2, .int .i64 3] rfl (by decide)).row_rw (by decide))
  rintro e w6 ⟨rfl, hb⟩
  have h6 := (h5.alloc (.cells #[.int .i64 2, .int .i64 3] 3)).below hb
  go_wp2_with (go_at_call 23; refine (len_any g [1] H _ _ h6.swap).mono ?_; rintro e w7 ⟨rfl, rfl⟩)
  go_ret
  exact ⟨rfl, h6.drop.drop, (((en1.trans en2).trans en3).trans en4).trans en5 |>.alloc _ |>.trans (bel_env hb)⟩
def acts (l : List (Int × Int)) : List Value := l.flatMap fun a => [.int .i64 a.1, .int .i64 a.2]
theorem acts_fst (l : List (Int × Int)) (k : Nat) (h : k < l.length) : (acts l)[k * 2]? = some (.int .i64 l[k].1) := by
  have := flat_get (fun a : Int × Int => [.int .i64 a.1, .int .i64 a.2]) 2 (fun _ => rfl) l k 0 h (by omega)
  simpa [acts] using this
theorem acts_snd (l : List (Int × Int)) (k : Nat) (h : k < l.length) : (acts l)[k * 2 + 1]? = some (.int .i64 l[k].2) := by
  have := flat_get (fun a : Int × Int => [.int .i64 a.1, .int .i64 a.2]) 2 (fun _ => rfl) l k 1 h (by omega)
  simpa [acts] using this

set_option maxRecDepth 100000 in
set_option maxHeartbeats 4000000 in
theorem framesActs_any (A : Option Addr) (c : Nat) (l : List (Int × Int)) (w : World) (hl : Rw w 2 (.slice A l.length c) (acts l)) :
    Calls Try.prog 3 #[.slice A l.length c] w fun e w' => e = .returned (.bool true) ∧ Below w.heap.size w w' := by
  have hbig : l.length ≤ 9223372036854775807 := by
    obtain ⟨A', n', c', hv, h1, h2, h3⟩ := hl.form
    cases hv
    omega
  by_cases hlen : 100 < l.length
  · go_enter Try.func3, Try.ntmps3
    go_wp2_with (go_at_call 14; refine (works23 (snap w) [] w (St.start w)).mono ?_; rintro e w1 ⟨rfl, h1, en1⟩)
    go_ret
    exact ⟨rfl, h1.toBelow en1⟩
  · go_enter Try.func3, Try.ntmps3
    go_wp2_with fail
    refine (new_any (snap w) [] w (St.start w)).mono ?_
    rintro e w1 ⟨g, rfl, h1, en1⟩
    go_wp2_with fail
    have h2 := (h1.row_lit 3 1 0 #[] rfl (by decide)).swap
    have en2 := en1.alloc (.cells #[] 3)
    generalize w1.alloc (.cells #[] 3) = w2 at *
    go_loopw [4, 5] (fun u i wr => ∃ (k : Nat) (xs : List Int), k ≤ l.length ∧ i = .int .i64 k ∧ xs.length ≤ k ∧ St (snap w) [Stk g xs, Row 3 1 u (ints xs)] wr ∧ Env w wr) (fun _ i _ => l.length - (intOf i).toNat)
    case atStart => exact ⟨0, [], Nat.zero_le _, rfl, Nat.le_refl _, h2, en2⟩
    case round =>
      obtain ⟨k, xs, hk, rfl, hxk, hst, hen⟩ := hrel
      by_cases hlt : k < l.length
      · obtain ⟨b, off, rfl, hcell⟩ := hl.cells (by omega)
        have c1 : wr.cell? ⟨b, off + k * 2, none⟩ = some (.int .i64 l[k].1) := hst.cell ((snap_cell _ _ _).trans (hcell _ _ (acts_fst l k hlt)))
        have c2 : wr.cell? ⟨b, off + k * 2 + 1, none⟩ = some (.int .i64 l[k].2) := by rw [Nat.add_assoc]; exact hst.cell ((snap_cell _ _ _).trans (hcell _ _ (acts_snd l k hlt)))
        clear hcell
        obtain ⟨A2, n2, cc, rfl, hn2, hnc, hcc⟩ := hst.swap.row_form
        rw [ints_len, Nat.mul_one] at hn2
        subst hn2
        simp only [maxLen] at hcc
        obtain ⟨K, hK⟩ : ∃ K, K = l[k].1 := ⟨_, rfl⟩
        obtain ⟨N, hN⟩ : ∃ N, N = l[k].2 := ⟨_, rfl⟩
        rw [← hK] at c1
        rw [← hN] at c2
        clear hK hN hl
        go_upto_block 2 with (fail)
        go_cut [4] (fun u wx => ∃ ys : List Int, ys.length ≤ k + 1 ∧ St (snap w) [Stk g ys, Row 3 1 u (ints ys)] wx ∧ Env w wx)
        case first =>
          by_cases e0 : K = 0
          · as_aux_lemma =>
            subst e0
            go_wp2_with fail
            refine (push_any g xs N _ [Row 3 1 (.slice A2 xs.length cc) (ints xs)] wr hst (by omega)).mono ?_
            rintro e w2 ⟨rfl, h2, en2⟩
            go_wp2_with (at_builtin; refine wpList_append rfl (.tmp 48) (.tmp 50) 26 26 rfl Try.underlying26 (.inl ⟨_, Try.underlying26⟩) (.int .i64 0) 8 info_int rfl (by decide) (by decide) rfl rfl (h2.swap.alloc _) (News.new w2 _ 1 #[.int .i64 N] rfl (by simp [Value.oneCell'])) ?apB ?apK)
            case apB => simp [ints]; omega
            case apK =>
              intro v' w3 h4 en3
              go_wp2_with fail
              go_meet
              exact ⟨xs ++ [N], by simp; omega, by simpa [ints] using h4.swap, ((hen.trans en2).alloc _).trans en3⟩
          by_cases e1 : K = 1
          · as_aux_lemma =>
            subst e1
            by_cases hp : 0 < xs.length
            · go_wp2_with fail
              refine (pop_some g xs _ [Row 3 1 (.slice A2 xs.length cc) (ints xs)] wr hst hp).mono ?_
              rintro e w2 ⟨rfl, h2, en2⟩
              have h3 := h2.swap
              obtain ⟨g2, off2, rfl, c3, _⟩ := h3.row_cell (ints_nth xs (xs.length - 1) (by omega))
              have ec : ((xs.length - 1 : Nat) : Int) = (xs.length : Int) - 1 := by omega
              rw [ec] at c3
              clear ec
              go_wp2_with fail
              go_meet
              exact ⟨xs.take (xs.length - 1), by simp; omega, by have := (h3.row_take (xs.length - 1) (by omega)).swap; rw [Nat.mul_one, ints_take] at this; simpa using this, hen.trans en2⟩
            · obtain rfl : xs = [] := List.eq_nil_of_length_eq_zero (by omega)
              go_wp2_with fail
              refine (pop_none g _ _ wr hst).mono ?_
              rintro e w2 ⟨rfl, rfl⟩
              go_wp2_with fail
              go_meet
              exact ⟨[], by simp, hst, hen⟩
          by_cases e2 : K = 2
          · as_aux_lemma =>
            subst e2
            by_cases hp : 0 < xs.length
            · go_wp2_with fail
              refine (set_some g xs N _ [Row 3 1 (.slice A2 xs.length cc) (ints xs)] wr hst hp).mono ?_
              rintro e w2 ⟨rfl, h2, en2⟩
              go_wp2_with (at_builtin; refine wpList_append rfl (.tmp 98) (.tmp 102) 26 26 rfl Try.underlying26 (.inl ⟨_, Try.underlying26⟩) (.int .i64 0) 8 info_int rfl (by decide) (by decide) rfl rfl (h2.row_lit 3 1 0 #[] rfl (by decide)) (News.rw (((h2.swap.row_rw (by decide)).upto (xs.length - 1) (by omega)).alloc _) (by rw [Nat.mul_one, ints_take]; exact ints_one _)) ?apB ?apK)
              case apB => simp [ints]; omega
              case apK =>
                intro v' w3 h4 en3
                go_wp2_with (at_builtin; refine wpList_append rfl (.tmp 103) (.tmp 105) 26 26 rfl Try.underlying26 (.inl ⟨_, Try.underlying26⟩) (.int .i64 0) 8 info_int rfl (by decide) (by decide) rfl rfl (h4.alloc _) (News.new w3 _ 1 #[.int .i64 N] rfl (by simp [Value.oneCell'])) ?apB ?apK)
                case apB => simp [ints]; omega
                case apK =>
                  intro v2 w4 h5 en4
                  go_wp2_with fail
                  go_meet
                  refine ⟨xs.set (xs.length - 1) N, by simp; omega, ?_, (((hen.trans en2).alloc _).trans en3).alloc _ |>.trans en4⟩
                  have h6 := (h5.pick 2 (by simp)).drop.swap
                  rw [set_last xs N hp] at *
                  simpa [ints] using h6
            · obtain rfl : xs = [] := List.eq_nil_of_length_eq_zero (by omega)
              go_wp2_with fail
              refine (set_none g N _ _ wr hst).mono ?_
              rintro e w2 ⟨rfl, rfl⟩
              go_wp2_with fail
              go_meet
              exact ⟨[], by simp, hst, hen⟩
          by_cases e3 : K = 3
          · as_aux_lemma =>
            subst e3
            by_cases hp : 0 < xs.length
            · obtain ⟨m, hm0⟩ : ∃ m, m = cutAt N xs := ⟨_, rfl⟩
              have hm : min (max N 0) (xs.length : Int) = (m : Nat) := by rw [hm0]; unfold cutAt; omega
              have hml : m ≤ xs.length := by rw [hm0]; unfold cutAt; omega
              have HM0 := Lib.hid hm0
              clear hm0
              obtain ⟨g2, off2, rfl, _, _, _⟩ := hst.swap.row_cells hp (by decide)
              by_cases hcm : m = cc
              all_goals
                try subst hcm
                go_wp2_with fail
                refine (cut_some g xs N _ _ wr hst hp (by omega)).mono ?_
                rintro e w2 ⟨v, rfl, h2, en2⟩
                rw [← HM0.out] at h2
                have HX := h2.row_rw (by decide)
                have HY := (h2.pick 2 (by simp)).row_rw (by decide)
                go_wp2_with fail
                refine (sameInts_eq _ _ (xs.drop m) (xs.drop m) rfl _ HX ?hy).mono ?_
                case hy => first | exact rw_from_ints HY hml (fun _ => rfl) (by omega) (by omega) | (rw [List.drop_of_length_le (by omega)]; exact rw_empty _ _ _ (by omega))
                rintro e w3 ⟨rfl, hb3⟩
                have h3 := h2.below hb3
                go_wp2_with (at_builtin; refine wpList_append rfl (.tmp 122) (.tmp 125) 26 26 rfl Try.underlying26 (.inl ⟨_, Try.underlying26⟩) (.int .i64 0) 8 info_int rfl (by decide) (by decide) rfl rfl (h3.row_lit 3 1 0 #[] rfl (by decide)) (News.rw ((((h3.pick 2 (by simp)).row_rw (by decide)).upto m hml).alloc _) (by rw [Nat.mul_one, ints_take]; exact ints_one _)) ?apB ?apK)
                case apB => simp [ints]; omega
                case apK =>
                  intro v' w4 h4 en4
                  go_wp2_with fail
                  go_meet
                  refine ⟨xs.take m, by simp; omega, ?_, (((hen.trans en2).trans (bel_env hb3)).alloc _).trans en4⟩
                  have h6 := (h4.pick 1 (by simp)).drop.swap
                  have h7 := (h6.pick 2 (by simp)).drop
                  simpa [ints_take] using h7
            · obtain rfl : xs = [] := List.eq_nil_of_length_eq_zero (by omega)
              have hm : min (max N 0) (0 : Int) = 0 := by omega
              go_wp2_with fail
              refine (cut_none g N _ _ wr hst).mono ?_
              rintro e w2 ⟨rfl, rfl⟩
              go_wp2_with fail
              refine (sameInts_eq _ _ [] [] rfl _ (rw_empty _ _ _ (by omega)) (rw_empty _ _ _ (by omega))).mono ?_
              rintro e w3 ⟨rfl, hb3⟩
              have h3 := hst.below hb3
              go_wp2_with (at_builtin; refine wpList_append rfl (.tmp 122) (.tmp 125) 26 26 rfl Try.underlying26 (.inl ⟨_, Try.underlying26⟩) (.int .i64 0) 8 info_int rfl (by decide) (by decide) rfl rfl (h3.row_lit 3 1 0 #[] rfl (by decide)) (News.rw (rw_empty _ _ _ (by omega)) (ints_one _)) ?apB ?apK)
              case apB => simp [ints]
              case apK =>
                intro v' w4 h4 en4
                go_wp2_with fail
                go_meet
                exact ⟨[], by simp, (h4.pick 2 (by simp)).drop.swap, ((hen.trans (bel_env hb3)).alloc _).trans en4⟩
          by_cases e4 : K = 4
          · as_aux_lemma =>
            subst e4
            by_cases hi : 0 ≤ N ∧ N < xs.length
            · obtain ⟨hi0, hi1⟩ := hi
              go_wp2_with fail
              refine (at_in g xs _ _ wr hst N hi0 hi1).mono ?_
              rintro e w2 ⟨rfl, rfl⟩
              obtain ⟨j, rfl⟩ := Int.eq_ofNat_of_zero_le hi0
              have hj : j < xs.length := by omega
              obtain ⟨g2, off2, rfl, c3, _⟩ := hst.swap.row_cell (ints_nth xs j hj)
              go_wp2_with fail
              go_meet
              exact ⟨xs, by omega, hst, hen⟩
            · go_wp2_with fail
              refine (at_out g xs _ _ wr hst N (by omega)).mono ?_
              rintro e w2 ⟨rfl, rfl⟩
              by_cases hi0 : 0 ≤ N
              · have hi1 : ¬ N < xs.length := by omega
                go_wp2_with fail
                go_meet
                exact ⟨xs, by omega, hst, hen⟩
              · go_wp2_with fail
                go_meet
                exact ⟨xs, by omega, hst, hen⟩
          have f0 : (K == 0) = false := beq_eq_false_iff_ne.2 e0
          have f1 : (K == 1) = false := beq_eq_false_iff_ne.2 e1
          have f2 : (K == 2) = false := beq_eq_false_iff_ne.2 e2
          have f3 : (K == 3) = false := beq_eq_false_iff_ne.2 e3
          have f4 : (K == 4) = false := beq_eq_false_iff_ne.2 e4
          clear e0 e1 e2 e3 e4
          go_wp2_with fail
          go_meet
          exact ⟨xs, by omega, hst, hen⟩
        case rest =>
          obtain ⟨ys, hy, h2, en2'⟩ := hcut
          obtain ⟨A4, n4, c4, rfl, hn4, hnc4, hcc4⟩ := h2.swap.row_form
          rw [ints_len, Nat.mul_one] at hn4
          subst hn4
          by_cases hp : 0 < ys.length
          · obtain ⟨g2, off2, rfl, c3, _⟩ := h2.swap.row_cell (ints_nth ys (ys.length - 1) (by omega))
            have ec : ((ys.length - 1 : Nat) : Int) = (ys.length : Int) - 1 := by omega
            rw [ec] at c3
            clear ec
            go_wp2_with fail
            refine (top_some g ys _ _ _ h2 hp).mono ?_
            rintro e w3 ⟨rfl, rfl⟩
            go_wp2_with (go_at_call 23; refine (len_any g ys _ _ _ h2).mono ?_; rintro e w7 ⟨rfl, rfl⟩)
            go_roundw
            case rel => exact ⟨k + 1, ys, by omega, by go_num, by omega, h2, en2'⟩
            case measure => simp [intOf]; omega
          · obtain rfl : ys = [] := List.eq_nil_of_length_eq_zero (by omega)
            go_wp2_with fail
            refine (top_none g _ _ _ h2).mono ?_
            rintro e w3 ⟨rfl, rfl⟩
            go_wp2_with (go_at_call 23; refine (len_any g [] _ _ _ h2).mono ?_; rintro e w7 ⟨rfl, rfl⟩)
            go_roundw
            case rel => exact ⟨k + 1, [], by omega, by go_num, by simp, h2, en2'⟩
            case measure => simp [intOf]; omega
      · clear hl
        go_wp2_with (first | (go_at_call 16; refine (push_nil _ _).mono ?_; rintro e w3 ⟨rfl, rfl⟩) | (go_at_call 17; refine (pop_nil _).mono ?_; rintro e w3 ⟨rfl, rfl⟩) | (go_at_call 23; refine (len_nil _).mono ?_; rintro e w3 ⟨rfl, rfl⟩) | (go_at_call 18; refine (set_nil _ _).mono ?_; rintro e w3 ⟨rfl, rfl⟩) | (go_at_call 19; refine (cut_nil _ _).mono ?_; rintro e w3 ⟨rfl, rfl⟩) | (go_at_call 14; refine (works23 _ _ _ hst).mono ?_; rintro e w3 ⟨rfl, h3, en3⟩))
        go_ret
        exact ⟨rfl, h3.toBelow (hen.trans en3)⟩
end Go.Proofs.Ytmdmekdmlkhchaa
