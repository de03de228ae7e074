/- The methods of a stack, each by its contract. -/
import Derived.Test.YtmdmekdmlkhchaaProg
import Derived.Test.YtmdmekdmlkhchaaOwn
set_option linter.unusedVariables false
set_option linter.unusedSimpArgs false
namespace Go.Proofs.Ytmdmekdmlkhchaa
open Go.RowKit Go.Cw
attribute [local go_sem] max_int min_int

theorem info_int : (Try.prog.info? 3).map (fun i => (i.zero, i.size, i.bytes)) = some (some (.int .i64 0), 1, 8) := by kernel_rfl
def ints (xs : List Int) : List Value := xs.map (Value.int .i64)
def Stk (p : Nat) (xs : List Int) : HA := Ex fun v => Star (Blk p #[v] 128) (Row 3 1 v (ints xs))
theorem ints_one (xs : List Int) : ∀ u ∈ ints xs, u.oneCell' = true := by
  intro u hu
  obtain ⟨x, _, rfl⟩ := List.mem_map.1 hu
  rfl
theorem ints_len (xs : List Int) : (ints xs).length = xs.length := by simp [ints]
theorem ints_append (xs ys : List Int) : ints (xs ++ ys) = ints xs ++ ints ys := by simp [ints]
theorem ints_take (xs : List Int) (k : Nat) : (ints xs).take k = ints (xs.take k) := by simp [ints]
theorem ints_set (xs : List Int) (k : Nat) (x : Int) : (ints xs).set k (.int .i64 x) = ints (xs.set k x) := by simp [ints]
def nth (xs : List Int) (i : Int) : Int := xs.getD i.toNat 0
theorem ints_nth (xs : List Int) (i : Nat) (h : i < xs.length) : (ints xs)[i]? = some (.int .i64 (nth xs i)) := by simp [ints, nth, h]
section
variable {p : Nat} {xs : List Int} {H : Hp} {fr : List HA} {w : World}
/-- What is known of a stack. -/
theorem stk_open (h : St H (Stk p xs :: fr) w) : ∃ A c, St H (Blk p #[.slice A xs.length c] 128 :: Row 3 1 (.slice A xs.length c) (ints xs) :: fr) w ∧ xs.length ≤ c ∧ c ≤ 9223372036854775807 := by
  obtain ⟨v, h1⟩ := h.openEx
  have h2 := h1.openStar
  obtain ⟨A, n, c, rfl, hl, hn, hc⟩ := h2.swap.row_form
  rw [ints_len, Nat.mul_one] at hl
  subst hl
  exact ⟨A, c, h2, hn, by simpa [maxLen] using hc⟩
theorem stk_shut {v : Value} {ys : List Value} (h : St H (Blk p #[v] 128 :: Row 3 1 v ys :: fr) w) (hy : ys = ints xs) : St H (Stk p xs :: fr) w := by
  subst hy
  exact h.shutStar.shutEx (f := fun v => Star (Blk p #[v] 128) (Row 3 1 v (ints xs))) v
end

set_option maxRecDepth 100000 in
set_option maxHeartbeats 800000 in
theorem push_any (p : Nat) (xs : List Int) (x : Int) (H : Hp) (fr : List HA) (w : World) (h : St H (Stk p xs :: fr) w) (hb : (xs.length + 1) * 8 ≤ 140737488355328) :
    Calls Try.prog 16 #[.pointer (some ⟨p, 0, none⟩), .int .i64 x] w (Res H fr w (.tuple #[]) [Stk p (xs ++ [x])]) := by
  obtain ⟨A, c, h2, hn, hc⟩ := stk_open h
  have c0 := h2.blk_cell 0
  go_enter Try.func16, Try.ntmps16
  go_wp2_with (at_builtin; refine wpList_append rfl (.tmp 10) (.tmp 12) 26 26 rfl Try.underlying26 (.inl ⟨_, Try.underlying26⟩) (.int .i64 0) 8 info_int rfl (by decide) (by decide) rfl rfl (h2.swap.alloc _) (News.new w _ 1 #[.int .i64 x] rfl (by simp [Value.oneCell'])) ?apB ?apK)
  case apB => simp [ints]; omega
  case apK =>
    intro v' w' h3 env
    obtain ⟨A', n', c', rfl, _⟩ := h3.row_form
    have h4 := h3.swap
    have c1 := h4.blk_cell 0
    have f1 := h4.blk_free 0
    go_wp2
    go_end0
    exact ⟨rfl, stk_shut (h4.blk_set 0 _) (by simp [ints]), ((Env.refl w).alloc _).trans env |>.setCell _ _⟩
theorem push_nil (x : Int) (w : World) : Calls Try.prog 16 #[.pointer none, .int .i64 x] w fun e w' => e = .returned (.tuple #[]) ∧ w = w' := by
  go_enter Try.func16, Try.ntmps16
  go_wp2
  go_end0
  exact ⟨rfl, rfl⟩
theorem len_any (p : Nat) (xs : List Int) (H : Hp) (fr : List HA) (w : World) (h : St H (Stk p xs :: fr) w) :
    Calls Try.prog 23 #[.pointer (some ⟨p, 0, none⟩)] w fun e w' => e = .returned (.int .i64 xs.length) ∧ w = w' := by
  obtain ⟨A, c, h2, hn, hc⟩ := stk_open h
  have c0 := h2.blk_cell 0
  go_enter Try.func23, Try.ntmps23
  go_wp2
  go_ret
  exact ⟨rfl, rfl⟩
theorem len_nil (w : World) : Calls Try.prog 23 #[.pointer none] w fun e w' => e = .returned (.int .i64 0) ∧ w = w' := by
  go_enter Try.func23, Try.ntmps23
  go_wp2
  go_ret
  exact ⟨rfl, rfl⟩
theorem at_in (p : Nat) (xs : List Int) (H : Hp) (fr : List HA) (w : World) (h : St H (Stk p xs :: fr) w) (i : Int) (h0 : 0 ≤ i) (h1 : i < xs.length) :
    Calls Try.prog 21 #[.pointer (some ⟨p, 0, none⟩), .int .i64 i] w fun e w' => e = .returned (.tuple #[.int .i64 (nth xs i), .bool true]) ∧ w = w' := by
  obtain ⟨k, rfl⟩ := Int.eq_ofNat_of_zero_le h0
  have hk : k < xs.length := by omega
  obtain ⟨A, c, h2, hn, hc⟩ := stk_open h
  have c0 := h2.blk_cell 0
  obtain ⟨g, off, rfl, hg, _⟩ := h2.swap.row_cell (ints_nth xs k hk)
  go_enter Try.func21, Try.ntmps21
  go_wp2_with (go_at_call 23; refine (len_any p xs H fr _ h).mono ?_; rintro e w' ⟨rfl, rfl⟩)
  go_ret2
  exact ⟨rfl, rfl⟩
theorem at_out (p : Nat) (xs : List Int) (H : Hp) (fr : List HA) (w : World) (h : St H (Stk p xs :: fr) w) (i : Int) (hi : i < 0 ∨ xs.length ≤ i) :
    Calls Try.prog 21 #[.pointer (some ⟨p, 0, none⟩), .int .i64 i] w fun e w' => e = .returned (.tuple #[.int .i64 0, .bool false]) ∧ w = w' := by
  by_cases hj : i < 0
  all_goals
    go_enter Try.func21, Try.ntmps21
    go_wp2_with (go_at_call 23; refine (len_any p xs H fr _ h).mono ?_; rintro e w' ⟨rfl, rfl⟩)
    first | (go_ret2; exact ⟨rfl, rfl⟩) | omega
theorem at_nil (i : Int) (w : World) : Calls Try.prog 21 #[.pointer none, .int .i64 i] w fun e w' => e = .returned (.tuple #[.int .i64 0, .bool false]) ∧ w = w' := by
  by_cases hj : i < 0
  all_goals
    go_enter Try.func21, Try.ntmps21
    go_wp2_with (go_at_call 23; refine (len_nil _).mono ?_; rintro e w' ⟨rfl, rfl⟩)
    go_ret2
    exact ⟨rfl, rfl⟩
theorem top_some (p : Nat) (xs : List Int) (H : Hp) (fr : List HA) (w : World) (h : St H (Stk p xs :: fr) w) (hx : 0 < xs.length) :
    Calls Try.prog 22 #[.pointer (some ⟨p, 0, none⟩)] w fun e w' => e = .returned (.tuple #[.int .i64 (nth xs ((xs.length : Int) - 1)), .bool true]) ∧ w = w' := by
  obtain ⟨A, c, h2, hn, hc⟩ := stk_open h
  go_enter Try.func22, Try.ntmps22
  go_wp2_with (first | (go_at_call 23; refine (len_any p xs H fr _ h).mono ?_; rintro e w' ⟨rfl, rfl⟩) | (go_at_call 21; refine (at_in p xs H fr _ h _ (by omega) (by omega)).mono ?_; rintro e w' ⟨rfl, rfl⟩))
  go_ret2
  exact ⟨rfl, rfl⟩
theorem top_none (p : Nat) (H : Hp) (fr : List HA) (w : World) (h : St H (Stk p [] :: fr) w) :
    Calls Try.prog 22 #[.pointer (some ⟨p, 0, none⟩)] w fun e w' => e = .returned (.tuple #[.int .i64 0, .bool false]) ∧ w = w' := by
  go_enter Try.func22, Try.ntmps22
  go_wp2_with (first | (go_at_call 23; refine (len_any p [] H fr _ h).mono ?_; rintro e w' ⟨rfl, rfl⟩) | (go_at_call 21; refine (at_out p [] H fr _ h _ (by omega)).mono ?_; rintro e w' ⟨rfl, rfl⟩))
  go_ret2
  exact ⟨rfl, rfl⟩
theorem top_nil (w : World) : Calls Try.prog 22 #[.pointer none] w fun e w' => e = .returned (.tuple #[.int .i64 0, .bool false]) ∧ w = w' := by
  go_enter Try.func22, Try.ntmps22
  go_wp2_with (first | (go_at_call 23; refine (len_nil _).mono ?_; rintro e w' ⟨rfl, rfl⟩) | (go_at_call 21; refine (at_nil _ _).mono ?_; rintro e w' ⟨rfl, rfl⟩))
  go_ret2
  exact ⟨rfl, rfl⟩
theorem set_none (p : Nat) (x : Int) (H : Hp) (fr : List HA) (w : World) (h : St H (Stk p [] :: fr) w) :
    Calls Try.prog 18 #[.pointer (some ⟨p, 0, none⟩), .int .i64 x] w fun e w' => e = .returned (.bool false) ∧ w = w' := by
  go_enter Try.func18, Try.ntmps18
  go_wp2_with (go_at_call 23; refine (len_any p [] H fr _ h).mono ?_; rintro e w' ⟨rfl, rfl⟩)
  go_ret
  exact ⟨rfl, rfl⟩
theorem set_nil (x : Int) (w : World) : Calls Try.prog 18 #[.pointer none, .int .i64 x] w fun e w' => e = .returned (.bool false) ∧ w = w' := by
  go_enter Try.func18, Try.ntmps18
  go_wp2_with (go_at_call 23; refine (len_nil _).mono ?_; rintro e w' ⟨rfl, rfl⟩)
  go_ret
  exact ⟨rfl, rfl⟩
set_option maxRecDepth 100000 in
set_option maxHeartbeats 800000 in
theorem set_some (p : Nat) (xs : List Int) (x : Int) (H : Hp) (fr : List HA) (w : World) (h : St H (Stk p xs :: fr) w) (hx : 0 < xs.length) :
    Calls Try.prog 18 #[.pointer (some ⟨p, 0, none⟩), .int .i64 x] w (Res H fr w (.bool true) [Stk p (xs.set (xs.length - 1) x)]) := by
  obtain ⟨A, c, h2, hn, hc⟩ := stk_open h
  obtain ⟨k, hk⟩ : ∃ k, xs.length = k + 1 := ⟨xs.length - 1, by omega⟩
  have c0 := h2.blk_cell 0
  have hkl : k < xs.length := by omega
  obtain ⟨g, off, rfl, hg, hf⟩ := h2.swap.row_cell (ints_nth xs k hkl)
  have hne : (xs.length == 0) = false := beq_eq_false_iff_ne.2 (by omega)
  have fp := h2.blk_free 0
  go_enter Try.func18, Try.ntmps18
  go_wp2_with (go_at_call 23; refine (len_any p xs H fr _ h).mono ?_; rintro e w' ⟨rfl, rfl⟩)
  go_region
  all_goals go_wp2
  go_ret
  have hs := h2.swap.row_set k (by rw [ints_len]; exact hkl) (.int .i64 x)
  exact ⟨rfl, (stk_shut hs.swap (by rw [ints_set, hk]; rfl)).drew, ((Env.refl w).setCell _ _).drew⟩
theorem pop_none (p : Nat) (H : Hp) (fr : List HA) (w : World) (h : St H (Stk p [] :: fr) w) :
    Calls Try.prog 17 #[.pointer (some ⟨p, 0, none⟩)] w fun e w' => e = .returned (.tuple #[.int .i64 0, .bool false]) ∧ w = w' := by
  go_enter Try.func17, Try.ntmps17
  go_wp2_with (go_at_call 22; refine (top_none p H fr _ h).mono ?_; rintro e w' ⟨rfl, rfl⟩)
  go_ret2
  exact ⟨rfl, rfl⟩
theorem pop_nil (w : World) : Calls Try.prog 17 #[.pointer none] w fun e w' => e = .returned (.tuple #[.int .i64 0, .bool false]) ∧ w = w' := by
  go_enter Try.func17, Try.ntmps17
  go_wp2_with (go_at_call 22; refine (top_nil _).mono ?_; rintro e w' ⟨rfl, rfl⟩)
  go_ret2
  exact ⟨rfl, rfl⟩
set_option maxRecDepth 100000 in
set_option maxHeartbeats 800000 in
theorem pop_some (p : Nat) (xs : List Int) (H : Hp) (fr : List HA) (w : World) (h : St H (Stk p xs :: fr) w) (hx : 0 < xs.length) :
    Calls Try.prog 17 #[.pointer (some ⟨p, 0, none⟩)] w (Res H fr w (.tuple #[.int .i64 (nth xs ((xs.length : Int) - 1)), .bool true]) [Stk p (xs.take (xs.length - 1))]) := by
  obtain ⟨A, c, h2, hn, hc⟩ := stk_open h
  have c0 := h2.blk_cell 0
  have hkl : xs.length - 1 < xs.length := by omega
  obtain ⟨g, off, rfl, hg, hf⟩ := h2.swap.row_cell (ints_nth xs (xs.length - 1) hkl)
  clear hg hf
  have fp := h2.blk_free 0
  go_enter Try.func17, Try.ntmps17
  go_wp2_with (go_at_call 22; refine (top_some p xs H fr _ h hx).mono ?_; rintro e w' ⟨rfl, rfl⟩)
  go_region
  all_goals go_wp2
  go_ret2
  have hs := h2.swap.row_take (xs.length - 1) (by omega)
  exact ⟨rfl, (stk_shut (hs.swap.blk_set 0 _) (by rw [Nat.mul_one, ints_take])).drew, ((Env.refl w).setCell _ _).drew⟩
theorem new_any (H : Hp) (fr : List HA) (w : World) (h : St H fr w) :
    Calls Try.prog 15 #[] w (ResE H fr w (fun g => .pointer (some ⟨g, 0, none⟩)) (fun g => [Stk g []])) := by
  go_enter Try.func15, Try.ntmps15
  go_wp2
  go_ret
  exact ⟨w.heap.size, rfl, stk_shut ((h.row_nil _ _).blk #[.slice none 0 0] _) rfl, (Env.refl w).alloc _⟩
def cutAt (n : Int) (xs : List Int) : Nat := (min (max n 0) xs.length).toNat
theorem ints_drop (xs : List Int) (k : Nat) : (ints xs).drop k = ints (xs.drop k) := by simp [ints]
set_option maxRecDepth 100000 in
set_option maxHeartbeats 800000 in
theorem cut_some (p : Nat) (xs : List Int) (n : Int) (H : Hp) (fr : List HA) (w : World) (h : St H (Stk p xs :: fr) w) (hx : 0 < xs.length) (hb : xs.length * 8 ≤ 140737488355328) :
    Calls Try.prog 19 #[.pointer (some ⟨p, 0, none⟩), .int .i64 n] w (ResE H fr w (fun v => v) (fun v => [Row 3 1 v (ints (xs.drop (cutAt n xs))), Stk p (xs.take (cutAt n xs))])) := by
  obtain ⟨A, c, h2, hn, hc⟩ := stk_open h
  have c0 := h2.blk_cell 0
  have fp := h2.blk_free 0
  have lp := h2.blk_lt
  have hm : min (max n 0) (xs.length : Int) = (cutAt n xs : Nat) := by unfold cutAt; omega
  have hml : cutAt n xs ≤ xs.length := by unfold cutAt; omega
  have hne : (xs.length == 0) = false := beq_eq_false_iff_ne.2 (by omega)
  generalize cutAt n xs = m at *
  obtain ⟨g, off, rfl, hgl, hcells, hfree⟩ := h2.swap.row_cells hx (by decide)
  have hnews : ∀ (o : Obj) (A' : Addr) (c' : Nat), (m < xs.length → A' = ⟨g, off + m, none⟩) → News Try.prog (w.alloc o) 1 (.slice (some A') (xs.length - m) c') (xs.length - m) (ints (xs.drop m)) := by
    intro o A' c' hA
    refine News.slice (by simp [ints]) (fun hpos => ⟨_, rfl, fun j u hj => ?_⟩) (ints_one _)
    rw [hA (by omega), add_lit, Nat.add_assoc, World.cell?_alloc_lt _ _ _ hgl]
    refine hcells (m + j) u ?_
    rw [← ints_drop, List.getElem?_drop] at hj
    exact hj
  have HN := Lib.hid hnews
  clear hnews hcells hfree
  by_cases hcm : c = m
  all_goals
    go_enter Try.func19, Try.ntmps19
    go_wp2_with (first | (go_at_call 23; refine (len_any p xs H fr _ h).mono ?_; rintro e w' ⟨rfl, rfl⟩) | (at_builtin; refine wpList_append rfl (.tmp 14) (.tmp 20) 26 26 rfl Try.underlying26 (.inl ⟨_, Try.underlying26⟩) (.int .i64 0) 8 info_int rfl (by decide) (by decide) rfl rfl (h2.row_lit 3 1 0 #[] rfl (by decide)) (HN.out _ _ _ (fun hq => by first | rfl | (exfalso; omega))) ?apB ?apK))
    case apB => simp [ints]; omega
    case apK =>
      intro v' w' h3 env
      have h4 := h3.swap
      have c1 := h4.blk_cell 0
      have f1 := h4.blk_free 0
      go_wp2
      go_ret
      have h5 := ((h4.blk_set 0 (.slice (some ⟨g, off, none⟩) m m)).pick 2 (by simp)).row_cap m m hml (Nat.le_refl _) (by omega)
      exact ⟨v', rfl, (stk_shut h5.swap (by rw [Nat.mul_one, ints_take])).swap, (((Env.refl w).alloc _).trans env).setCell _ _⟩
theorem cut_none (p : Nat) (n : Int) (H : Hp) (fr : List HA) (w : World) (h : St H (Stk p [] :: fr) w) :
    Calls Try.prog 19 #[.pointer (some ⟨p, 0, none⟩), .int .i64 n] w fun e w' => e = .returned (.slice none 0 0) ∧ w = w' := by
  go_enter Try.func19, Try.ntmps19
  go_wp2_with (go_at_call 23; refine (len_any p [] H fr _ h).mono ?_; rintro e w' ⟨rfl, rfl⟩)
  go_ret
  exact ⟨rfl, rfl⟩
theorem cut_nil (n : Int) (w : World) : Calls Try.prog 19 #[.pointer none, .int .i64 n] w fun e w' => e = .returned (.slice none 0 0) ∧ w = w' := by
  go_enter Try.func19, Try.ntmps19
  go_wp2_with (go_at_call 23; refine (len_nil _).mono ?_; rintro e w' ⟨rfl, rfl⟩)
  go_ret
  exact ⟨rfl, rfl⟩
end Go.Proofs.Ytmdmekdmlkhchaa
