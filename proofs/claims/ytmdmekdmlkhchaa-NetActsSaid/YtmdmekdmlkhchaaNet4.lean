/- Messages are taken, doubled, and told. -/
import Derived.Test.YtmdmekdmlkhchaaNet3
set_option linter.unusedVariables false
set_option linter.unusedSimpArgs false
namespace Go.Proofs.Ytmdmekdmlkhchaa
open Go.RowKit Go.Cw
theorem mscs_take (l : List Msg) (k : Nat) : (mscs l).take (k * 3) = mscs (l.take k) := by
  induction l generalizing k with
  | nil => simp [mscs]
  | cons x l ih =>
    cases k with
    | zero => simp [mscs]
    | succ k =>
      have := ih k
      rw [show (k + 1) * 3 = k * 3 + 3 by omega]
      simp only [mscs, List.flatMap_cons, List.take_succ_cons, msc] at this ⊢
      simp [this]
theorem mscs_drop (l : List Msg) (k : Nat) : (mscs l).drop (k * 3) = mscs (l.drop k) := by
  induction l generalizing k with
  | nil => simp [mscs]
  | cons x l ih =>
    cases k with
    | zero => simp [mscs]
    | succ k =>
      have := ih k
      rw [show (k + 1) * 3 = k * 3 + 3 by omega]
      simp only [mscs, List.flatMap_cons, List.drop_succ_cons, msc] at this ⊢
      simp [this]
theorem mscs_erase (l : List Msg) (i : Nat) : mscs (l.eraseIdx i) = (mscs l).take (i * 3) ++ (mscs l).drop ((i + 1) * 3) := by
  rw [mscs_take, mscs_drop, List.eraseIdx_eq_take_drop_succ]
  simp [mscs]
theorem MGood.erase {H : Hp} {l : List Msg} (h : MGood H l) (i : Nat) : MGood H (l.eraseIdx i) := fun m hm => h m (List.mem_of_mem_eraseIdx hm)
set_option maxRecDepth 100000 in
set_option maxHeartbeats 800000 in
theorem netTake_nil (i : Int) (w : World) : Calls Try.prog 31 #[.pointer none, .int .i64 i] w fun e w' => e = .returned (.tuple #[.agg #[.int .i64 0, .int .i64 0, .slice none 0 0], .int .i64 2]) ∧ Below w.heap.size w w' := by
  have h1 := (St.start w).blk #[.int .i64 0, .int .i64 0, .slice none 0 0] 59
  have en1 := (Env.refl w).alloc (.cells #[.int .i64 0, .int .i64 0, .slice none 0 0] 59)
  have h2 := ((h1.blk_set 0 (.int .i64 0)).blk_set 1 (.int .i64 0)).blk_set 2 (.slice none 0 0)
  have en2 := ((en1.setCell ⟨w.heap.size, 0, none⟩ (.int .i64 0)).setCell ⟨w.heap.size, 1, none⟩ (.int .i64 0)).setCell ⟨w.heap.size, 2, none⟩ (.slice none 0 0)
  change St _ (Blk w.heap.size #[.int .i64 0, .int .i64 0, .slice none 0 0] 59 :: _) _ at h2
  go_enter Try.func31, Try.ntmps31
  go_wp2_with fail
  refine bodyPost_ret (res_cell_tmp rfl _ _ w.heap.size 59 _ (0, 0) _ rfl h1.blk_heap Try.underlying59 rfl msgSize _ rfl) rfl ?_
  exact ⟨rfl, h1.toBelow en1⟩
set_option maxRecDepth 100000 in
set_option maxHeartbeats 1600000 in
theorem netTake_in (p : Nat) (room : Int) (l : List Msg) (i : Nat) (hi : i < l.length) (hM : l.length ≤ 1000000) (H : Hp) (hg : MGood H l) (fr : List HA) (w : World) (h : St H (NetA p room l :: fr) w) :
    Calls Try.prog 31 #[netP p, .int .i64 (i : Int)] w fun e w' => ∃ v, e = .returned (.tuple #[.agg #[.int .i64 l[i].1, .int .i64 l[i].2.1, v], .int .i64 0]) ∧ St H (Row 5 1 v (u8s l[i].2.2.2) :: NetA p room (l.eraseIdx i) :: fr) w' ∧ Env w w' := by
  have h1 := h.blk #[.int .i64 0, .int .i64 0, .slice none 0 0] 59
  have en1 := (Env.refl w).alloc (.cells #[.int .i64 0, .int .i64 0, .slice none 0 0] 59)
  go_enter Try.func31, Try.ntmps31
  go_wp2_with fail
  refine (netAt_in p room l i hi H hg _ _ h1.swap).mono ?_
  rintro e w2 ⟨v, rfl, h2, en2⟩
  obtain ⟨⟨f, t, bv, xs⟩, HX⟩ : ∃ x, Hid (x = l[i]) := ⟨_, Lib.hid rfl⟩
  rw [← HX.out] at h2 ⊢
  simp only at h2 ⊢
  obtain ⟨vA, vn, vc, rfl, _⟩ := h2.row_form
  obtain ⟨Hb, lb, h3, y⟩ := h2.box #[.int .i64 f, .int .i64 t, .slice vA vn vc] 59
  have y0 := y 0 _ rfl
  have y1 := y 1 _ rfl
  have y2 := y 2 _ rfl
  have en3 := (en1.trans en2).alloc (.cells #[.int .i64 f, .int .i64 t, .slice vA vn vc] 59)
  clear y h2 h1 en1 en2
  generalize w.heap.size = g at *
  obtain ⟨A, c, h4, hnc, hc⟩ := netOpen h3.swap
  go_wp2_with fail
  generalize w2.alloc (.cells #[.int .i64 f, .int .i64 t, .slice vA vn vc] 59) = W at *
  generalize w2.heap.size = gb at *
  have c1 := h4.blk_cell 1
  have cl := h4.blk_lt
  obtain ⟨b, o, rfl, bl, hcells, _⟩ := h4.swap.row_cells (by omega) (by omega)
  have hw1 : IntKind.i64.wrap ((i : Int) + 1) = (i : Int) + 1 := by rw [IntKind.wrap_i64]; omega
  have hi0 : (0 : Int) ≤ (i : Int) := by omega
  have hi1 : (i : Int) ≤ (l.length : Int) := by omega
  have hi2 : (i : Int) + 1 ≤ (l.length : Int) := by omega
  have hic : (i : Int) ≤ (c : Int) := by omega
  have hic1 : (i : Int) + 1 ≤ (c : Int) := by omega
  have hi3 : (0 : Int) ≤ (i : Int) + 1 := by omega
  have hci : ¬ c = i := by omega
  have hml : (mscs l).length = l.length * 3 := mscs_len l
  have hnl : ((mscs l).drop ((i + 1) * 3)).length = (l.length - (i + 1)) * 3 := by rw [List.length_drop, hml, Nat.sub_mul]
  have hone : ∀ u ∈ (mscs l).drop ((i + 1) * 3), u.oneCell' = true := fun u hu => mscs_one hg u (List.mem_of_mem_drop hu)
  have hRow := h4.drew.swap
  have key : ∃ o2 c1' c2' w5, ((c = i + 1 → o2 = o ∧ c1' = 1 ∧ c2' = 0) ∧ (¬ c = i + 1 → o2 = o + (i + 1) * 3 ∧ c1' = c - i ∧ c2' = c - (i + 1))) ∧ (Builtin.copy_ #[66, 66] 3 #[.slice (some ⟨b, o + i * 3, none⟩) (l.length - i) c1', .slice (some ⟨b, o2, none⟩) (l.length - (i + 1)) c2']).run Try.prog W.drew = .ok (.int .i64 ((l.length - (i + 1) : Nat) : Int)) w5 ∧
      St Hb (Row 59 3 (.slice (some ⟨b, o, none⟩) l.length c) ((mscs l).take (i * 3) ++ (mscs l).drop ((i + 1) * 3) ++ (mscs l).drop ((i + (l.length - (i + 1))) * 3)) :: Blk p #[.int .i64 room, .slice (some ⟨b, o, none⟩) l.length c] 133 :: Row 5 1 (.slice vA vn vc) (u8s xs) :: Blk g #[.int .i64 0, .int .i64 0, .slice none 0 0] 59 :: fr) w5 ∧ Env W w5 := by
    by_cases hcap : c = i + 1
    · have hm0 : l.length - (i + 1) = 0 := by omega
      have hnil : (mscs l).drop ((i + 1) * 3) = [] := List.eq_nil_of_length_eq_zero (by rw [hnl, hm0])
      obtain ⟨w5, r, h5, e5⟩ := St.copy_row hRow 66 66 3 Try.underlying66 msgSize i (l.length - (i + 1)) (l.length - i) 1 (l.length - (i + 1)) (.slice (some ⟨b, o, none⟩) (l.length - (i + 1)) 0) ((mscs l).drop ((i + 1) * 3)) (o + i * 3) (fun _ => rfl) hnl (by rw [hml]; omega) (by simp [Builtin.lenOf]) (by show min _ _ = _; omega) (by
        have := (News.slice (P := Try.prog) (w := W.drew) (A := some ⟨b, o, none⟩) (c := 0) (sz := 3) (m := l.length - (i + 1)) hnl (fun h => absurd h (by omega)) hone).first 0
        exact this) hone
      exact ⟨o, 1, 0, w5, ⟨fun _ => ⟨rfl, rfl, rfl⟩, fun h => absurd hcap h⟩, r, h5, (Env.refl W).drew.trans e5⟩
    · obtain ⟨w5, r, h5, e5⟩ := St.copy_row hRow 66 66 3 Try.underlying66 msgSize i (l.length - (i + 1)) (l.length - i) (c - i) (l.length - (i + 1)) (.slice (some ⟨b, o + (i + 1) * 3, none⟩) (l.length - (i + 1)) (c - (i + 1))) ((mscs l).drop ((i + 1) * 3)) (o + i * 3) (fun _ => rfl) hnl (by rw [hml]; omega) (by simp [Builtin.lenOf]) (by show min _ _ = _; omega) (by
        have := (News.slice (P := Try.prog) (w := W.drew) (A := some ⟨b, o + (i + 1) * 3, none⟩) (c := c - (i + 1)) (sz := 3) (m := l.length - (i + 1)) hnl (fun h => ⟨_, rfl, fun j u hj => by
          rw [List.getElem?_drop] at hj
          have := hcells _ _ hj
          rw [add_lit, Nat.add_assoc]
          exact this⟩) hone).first 0
        exact this) hone
      exact ⟨o + (i + 1) * 3, c - i, c - (i + 1), w5, ⟨fun h => absurd h hcap, fun _ => ⟨rfl, rfl, rfl⟩⟩, r, h5, (Env.refl W).drew.trans e5⟩
  obtain ⟨o2, c1', c2', w5, ⟨hk1, hk2⟩, hcp, h5, en5⟩ := key
  have he : ((mscs l).take (i * 3) ++ (mscs l).drop ((i + 1) * 3) ++ (mscs l).drop ((i + (l.length - (i + 1))) * 3)).take ((l.length - 1) * 3) = mscs (l.eraseIdx i) := by
    rw [mscs_erase, List.take_left']
    rw [List.length_append, hnl, List.length_take, hml]
    omega
  have h6 := h5.row_take (l.length - 1) (by omega)
  rw [he] at h6
  have hw2 : IntKind.i64.wrap ((l.length : Int) - 1) = (l.length : Int) - 1 := by rw [IntKind.wrap_i64]; omega
  have hl0 : (0 : Int) ≤ (l.length : Int) - 1 := by omega
  have hl1 : (l.length : Int) - 1 ≤ (c : Int) := by omega
  have hl2 : (1 : Int) ≤ (l.length : Int) := by omega
  replace hnl := Lib.hid hnl
  replace hml := Lib.hid hml
  replace he := Lib.hid he
  replace hone := Lib.hid hone
  replace hk1 := Lib.hid hk1
  replace hk2 := Lib.hid hk2
  clear hRow hcells h4
  by_cases hcap : c = i + 1
  · obtain ⟨e1, e2, e3⟩ := hk1.out hcap
    rw [e1, e2, e3] at hcp
    clear e1 e2 e3
    have hl3 : (l.length : Int) - 1 ≤ (i : Int) + 1 := by omega
    go_still_tail 13, (by kernel_rfl)
    change wpList _ _ _ _ _ W.drew
    go_wp2_with fail
    clear hcp c1 cl bl
    have c1 := h5.swap.blk_cell 1
    have cf1 := h5.swap.blk_free 1
    have cl := h5.swap.blk_lt
    go_region_law (fail)
    all_goals
      rw [hcap] at h6
      have h7 : St Hb (NetA p room (l.eraseIdx i) :: Row 5 1 (.slice vA vn vc) (u8s xs) :: Blk g #[.int .i64 0, .int .i64 0, .slice none 0 0] 59 :: fr) (w5.setCell ⟨p, 1, none⟩ (.slice (some ⟨b, o, none⟩) (l.length - 1) (i + 1))).drew := (netShut (h6.swap.blk_set 1 (.slice (some ⟨b, o, none⟩) (l.length - 1) (i + 1)))).drew
      have en7 := ((en3.trans en5).setCell ⟨p, 1, none⟩ (.slice (some ⟨b, o, none⟩) (l.length - 1) (i + 1))).drew
      have hB := h7.pick 2 (by simp)
      generalize (w5.setCell ⟨p, 1, none⟩ (.slice (some ⟨b, o, none⟩) (l.length - 1) (i + 1))).drew = W6 at *
      clear c1 cf1 cl h7 h6 h5
      have x0 := hB.cell y0
      have x1 := hB.cell y1
      have x2 := hB.cell y2
      have xl := World.block_lt_of_cell? _ _ x0
      have z0 := hB.blk_cell 0
      have z1 := hB.blk_cell 1
      have z2 := hB.blk_cell 2
      have zf0 := hB.blk_free 0
      have zf1 := hB.blk_free 1
      have zf2 := hB.blk_free 2
      have zl := hB.blk_lt
      have h8 := ((hB.blk_set 0 (.int .i64 f)).blk_set 1 (.int .i64 t)).blk_set 2 (.slice vA vn vc)
      have en8 := ((en7.setCell ⟨g, 0, none⟩ (.int .i64 f)).setCell ⟨g, 1, none⟩ (.int .i64 t)).setCell ⟨g, 2, none⟩ (.slice vA vn vc)
      change St Hb (Blk g #[.int .i64 f, .int .i64 t, .slice vA vn vc] 59 :: _) _ at h8
      go_wp2_with fail
      refine bodyPost_ret (res_cell_tmp rfl _ _ g 59 _ (0, 0) _ rfl h8.blk_heap Try.underlying59 rfl msgSize _ rfl) rfl ?_
      rw [← HX.out]
      exact ⟨_, rfl, (h8.drop.swap).weaken lb, en8⟩
  · obtain ⟨e1, e2, e3⟩ := hk2.out hcap
    rw [e1, e2, e3] at hcp
    clear e1 e2 e3
    go_still_tail 13, (by kernel_rfl)
    change wpList _ _ _ _ _ W.drew
    go_wp2_with fail
    clear hcp c1 cl bl
    have c1 := h5.swap.blk_cell 1
    have cf1 := h5.swap.blk_free 1
    have cl := h5.swap.blk_lt
    go_region_law (fail)
    all_goals
      have h7 : St Hb (NetA p room (l.eraseIdx i) :: Row 5 1 (.slice vA vn vc) (u8s xs) :: Blk g #[.int .i64 0, .int .i64 0, .slice none 0 0] 59 :: fr) (w5.setCell ⟨p, 1, none⟩ (.slice (some ⟨b, o, none⟩) (l.length - 1) c)).drew := (netShut (h6.swap.blk_set 1 (.slice (some ⟨b, o, none⟩) (l.length - 1) c))).drew
      have en7 := ((en3.trans en5).setCell ⟨p, 1, none⟩ (.slice (some ⟨b, o, none⟩) (l.length - 1) c)).drew
      have hB := h7.pick 2 (by simp)
      generalize (w5.setCell ⟨p, 1, none⟩ (.slice (some ⟨b, o, none⟩) (l.length - 1) c)).drew = W6 at *
      clear c1 cf1 cl h7 h6 h5
      have x0 := hB.cell y0
      have x1 := hB.cell y1
      have x2 := hB.cell y2
      have xl := World.block_lt_of_cell? _ _ x0
      have z0 := hB.blk_cell 0
      have z1 := hB.blk_cell 1
      have z2 := hB.blk_cell 2
      have zf0 := hB.blk_free 0
      have zf1 := hB.blk_free 1
      have zf2 := hB.blk_free 2
      have zl := hB.blk_lt
      have h8 := ((hB.blk_set 0 (.int .i64 f)).blk_set 1 (.int .i64 t)).blk_set 2 (.slice vA vn vc)
      have en8 := ((en7.setCell ⟨g, 0, none⟩ (.int .i64 f)).setCell ⟨g, 1, none⟩ (.int .i64 t)).setCell ⟨g, 2, none⟩ (.slice vA vn vc)
      change St Hb (Blk g #[.int .i64 f, .int .i64 t, .slice vA vn vc] 59 :: _) _ at h8
      go_wp2_with fail
      refine bodyPost_ret (res_cell_tmp rfl _ _ g 59 _ (0, 0) _ rfl h8.blk_heap Try.underlying59 rfl msgSize _ rfl) rfl ?_
      rw [← HX.out]
      exact ⟨_, rfl, (h8.drop.swap).weaken lb, en8⟩
end Go.Proofs.Ytmdmekdmlkhchaa
