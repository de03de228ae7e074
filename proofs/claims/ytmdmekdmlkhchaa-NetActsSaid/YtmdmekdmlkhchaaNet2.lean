/- Messages on their way: what a net tells. -/
import Derived.Test.YtmdmekdmlkhchaaNet
set_option linter.unusedVariables false
set_option linter.unusedSimpArgs false
namespace Go.Proofs.Ytmdmekdmlkhchaa
open Go.RowKit Go.Cw
abbrev Msg := Int × Int × Value × List Int
def msc (m : Msg) : List Value := [.int .i64 m.1, .int .i64 m.2.1, m.2.2.1]
def mscs (l : List Msg) : List Value := l.flatMap msc
theorem mscs_len (l : List Msg) : (mscs l).length = l.length * 3 := flat_len msc 3 (fun _ => rfl) l
theorem mscs_get (l : List Msg) (k : Nat) (h : k < l.length) : (mscs l)[k * 3]? = some (.int .i64 l[k].1) ∧ (mscs l)[k * 3 + 1]? = some (.int .i64 l[k].2.1) ∧ (mscs l)[k * 3 + 2]? = some l[k].2.2.1 := by
  have := fun i hi => flat_get msc 3 (fun _ => rfl) l k i h hi
  exact ⟨this 0 (by omega), this 1 (by omega), this 2 (by omega)⟩
/-- The messages' bytes are known for good. -/
def MGood (H : Hp) (l : List Msg) : Prop := ∀ m ∈ l, Rd H 1 m.2.2.1 (u8s m.2.2.2) ∧ m.2.2.2.length ≤ 4096 ∧ repB m.1 = true ∧ repB m.2.1 = true ∧ m.1 ≠ m.2.1
theorem MGood.mono {H H' : Hp} {l : List Msg} (h : MGood H l) (hl : Hp.le H H') : MGood H' l := fun m hm => ⟨(h m hm).1.mono hl, (h m hm).2⟩
theorem mscs_one {H : Hp} {l : List Msg} (h : MGood H l) : ∀ u ∈ mscs l, u.oneCell' = true := by
  intro u hu
  obtain ⟨m, hm, hu⟩ := List.mem_flatMap.1 hu
  simp only [msc, List.mem_cons, List.not_mem_nil, or_false] at hu
  rcases hu with rfl | rfl | rfl
  · rfl
  · rfl
  · obtain ⟨A, n, c, hv, _⟩ := (h m hm).1.form
    rw [hv]
    rfl
def NetA (p : Nat) (room : Int) (l : List Msg) : HA := Ex fun v => Star (Blk p #[.int .i64 room, v] 133) (Row 59 3 v (mscs l))
theorem netOpen {H : Hp} {fr : List HA} {w : World} {p : Nat} {room : Int} {l : List Msg} (h : St H (NetA p room l :: fr) w) :
    ∃ A c, St H (Blk p #[.int .i64 room, .slice A l.length c] 133 :: Row 59 3 (.slice A l.length c) (mscs l) :: fr) w ∧ l.length ≤ c ∧ c ≤ 9223372036854775807 := by
  obtain ⟨v, h1⟩ := h.openEx
  have h2 := h1.openStar
  obtain ⟨A, n, c, rfl, hl, hn, hc⟩ := h2.swap.row_form
  rw [mscs_len] at hl
  obtain rfl : n = l.length := by omega
  exact ⟨A, c, h2, hn, by simpa [maxLen] using hc⟩
theorem netShut {H : Hp} {fr : List HA} {w : World} {p : Nat} {room : Int} {l : List Msg} {v : Value} (h : St H (Blk p #[.int .i64 room, v] 133 :: Row 59 3 v (mscs l) :: fr) w) : St H (NetA p room l :: fr) w := St.shutEx v h.shutStar
abbrev netP (p : Nat) : Value := .pointer (some ⟨p, 0, none⟩)
set_option maxRecDepth 100000 in
theorem netNew_bad (room : Int) (hr : room < 1 ∨ 4096 < room) (w : World) : Calls Try.prog 30 #[.int .i64 room] w fun e w' => e = .returned (.tuple #[.pointer none, .int .i64 1]) ∧ w = w' := by
  rcases hr with hr | hr
  · go_enter Try.func30, Try.ntmps30
    go_wp2_with fail
    go_ret2
    exact ⟨rfl, rfl⟩
  · have h2 : ¬ room < 1 := by omega
    go_enter Try.func30, Try.ntmps30
    go_wp2_with fail
    go_ret2
    exact ⟨rfl, rfl⟩
set_option maxRecDepth 100000 in
theorem netNew_ok (room : Int) (h1 : ¬ room < 1) (h2 : ¬ 4096 < room) (w : World) : Calls Try.prog 30 #[.int .i64 room] w fun e w' => ∃ p, e = .returned (.tuple #[netP p, .int .i64 0]) ∧ St (snap w) [NetA p room []] w' ∧ Env w w' := by
  have h3 := (St.start w).blk #[.int .i64 room, .slice none 0 0] 133
  have h4 := netShut (l := []) ((h3.row_nil 59 3).swap)
  have en := (Env.refl w).alloc (.cells #[.int .i64 room, .slice none 0 0] 133)
  clear h3
  go_enter Try.func30, Try.ntmps30
  go_wp2_with fail
  go_ret2
  exact ⟨w.heap.size, rfl, h4, en⟩
set_option maxRecDepth 100000 in
theorem netLen_nil (w : World) : Calls Try.prog 35 #[.pointer none] w fun e w' => e = .returned (.int .i64 0) ∧ w = w' := by
  go_enter Try.func35, Try.ntmps35
  go_wp2_with fail
  go_ret
  exact ⟨rfl, rfl⟩
set_option maxRecDepth 100000 in
theorem netLen (p : Nat) (room : Int) (l : List Msg) (H : Hp) (fr : List HA) (w : World) (h : St H (NetA p room l :: fr) w) : Calls Try.prog 35 #[netP p] w fun e w' => e = .returned (.int .i64 (l.length : Int)) ∧ w = w' := by
  obtain ⟨A, c, h1, hn, hc⟩ := netOpen h
  have c1 : w.cell? ⟨p, 1, none⟩ = some (.slice A l.length c) := h1.blk_cell 1
  have cl := h1.blk_lt
  go_enter Try.func35, Try.ntmps35
  go_wp2_with fail
  go_ret
  exact ⟨rfl, rfl⟩
theorem msgSize : (Try.prog.info? 59).map (·.size) = some 3 := by kernel_rfl
theorem atEnd {ty : TypeId} {w1 w2 : World} {g : Nat} {H : Hp} {fr : List HA} (h : St H (Blk g #[.int .i64 0, .int .i64 0, .slice none 0 0] ty :: fr) w2) : St H fr w2 := h.drop
set_option maxRecDepth 100000 in
set_option maxHeartbeats 800000 in
theorem netAt_nil (i : Int) (w : World) : Calls Try.prog 32 #[.pointer none, .int .i64 i] w fun e w' => e = .returned (.tuple #[.agg #[.int .i64 0, .int .i64 0, .slice none 0 0], .bool false]) ∧ Below w.heap.size w w' := by
  have h1 := (St.start w).blk #[.int .i64 0, .int .i64 0, .slice none 0 0] 59
  have en1 := (Env.refl w).alloc (.cells #[.int .i64 0, .int .i64 0, .slice none 0 0] 59)
  by_cases hi : i < 0
  · go_enter Try.func32, Try.ntmps32
    go_wp2_with fail
    refine bodyPost_ret (res_cell_tmp rfl _ _ w.heap.size 59 _ (0, 0) _ rfl h1.blk_heap Try.underlying59 rfl msgSize _ rfl) rfl ?_
    exact ⟨rfl, h1.toBelow en1⟩
  · have hi0 : 0 ≤ i := by omega
    have hb1 := belBox w (.cells #[.int .i64 0, .int .i64 0, .slice none 0 0] 59)
    go_enter Try.func32, Try.ntmps32
    go_wp2_with fail
    refine (netLen_nil _).mono ?_
    rintro e w2 ⟨rfl, rfl⟩
    go_wp2_with fail
    refine bodyPost_ret (res_cell_tmp rfl _ _ w.heap.size 59 _ (0, 0) _ rfl h1.blk_heap Try.underlying59 rfl msgSize _ rfl) rfl ?_
    exact ⟨rfl, h1.toBelow en1⟩
set_option maxRecDepth 100000 in
set_option maxHeartbeats 800000 in
theorem netAt_out (p : Nat) (room : Int) (l : List Msg) (i : Int) (hi : i < 0 ∨ (l.length : Int) ≤ i) (H : Hp) (fr : List HA) (w : World) (h : St H (NetA p room l :: fr) w) :
    Calls Try.prog 32 #[netP p, .int .i64 i] w fun e w' => e = .returned (.tuple #[.agg #[.int .i64 0, .int .i64 0, .slice none 0 0], .bool false]) ∧ Below w.heap.size w w' := by
  have h1 := (St.start w).blk #[.int .i64 0, .int .i64 0, .slice none 0 0] 59
  have en1 := (Env.refl w).alloc (.cells #[.int .i64 0, .int .i64 0, .slice none 0 0] 59)
  by_cases hi' : i < 0
  · go_enter Try.func32, Try.ntmps32
    go_wp2_with fail
    refine bodyPost_ret (res_cell_tmp rfl _ _ w.heap.size 59 _ (0, 0) _ rfl h1.blk_heap Try.underlying59 rfl msgSize _ rfl) rfl ?_
    exact ⟨rfl, h1.toBelow en1⟩
  · have hi0 : (l.length : Int) ≤ i := by omega
    have h2 := h.alloc (.cells #[.int .i64 0, .int .i64 0, .slice none 0 0] 59)
    go_enter Try.func32, Try.ntmps32
    go_wp2_with fail
    refine (netLen p room l H _ _ h2).mono ?_
    rintro e w2 ⟨rfl, rfl⟩
    go_wp2_with fail
    refine bodyPost_ret (res_cell_tmp rfl _ _ w.heap.size 59 _ (0, 0) _ rfl h1.blk_heap Try.underlying59 rfl msgSize _ rfl) rfl ?_
    exact ⟨rfl, h1.toBelow en1⟩
set_option maxRecDepth 100000 in
set_option maxHeartbeats 800000 in
theorem netAt_in (p : Nat) (room : Int) (l : List Msg) (i : Nat) (hi : i < l.length) (H : Hp) (hg : MGood H l) (fr : List HA) (w : World) (h : St H (NetA p room l :: fr) w) :
    Calls Try.prog 32 #[netP p, .int .i64 (i : Int)] w fun e w' => ∃ v, e = .returned (.tuple #[.agg #[.int .i64 l[i].1, .int .i64 l[i].2.1, v], .bool true]) ∧ St H (Row 5 1 v (u8s l[i].2.2.2) :: NetA p room l :: fr) w' ∧ Env w w' := by
  have h1 := h.blk #[.int .i64 0, .int .i64 0, .slice none 0 0] 59
  have en1 := (Env.refl w).alloc (.cells #[.int .i64 0, .int .i64 0, .slice none 0 0] 59)
  obtain ⟨⟨f, t, bv, xs⟩, HX⟩ : ∃ x, Hid (x = l[i]) := ⟨_, Lib.hid rfl⟩
  have hgi := hg _ (List.getElem_mem hi)
  rw [← HX.out] at hgi ⊢
  simp only at hgi ⊢
  have hni : ¬ ((i : Int) < 0) := by omega
  have hil : (i : Int) < (l.length : Int) := by omega
  have hi0 : (0 : Int) ≤ (i : Int) := by omega
  go_enter Try.func32, Try.ntmps32
  go_wp2_with fail
  refine (netLen p room l H _ _ h1.swap).mono ?_
  rintro e w2 ⟨rfl, rfl⟩
  obtain ⟨A, c, h2, hnc, hc⟩ := netOpen h1.swap
  generalize w.alloc (.cells #[.int .i64 0, .int .i64 0, .slice none 0 0] 59) = W at *
  generalize w.heap.size = g at *
  have c1 : W.cell? ⟨p, 1, none⟩ = some (.slice A l.length c) := h2.blk_cell 1
  have cl := h2.blk_lt
  obtain ⟨b, o, rfl, bl, hcells, _⟩ := h2.swap.row_cells (by omega) (by omega)
  have q0 := hcells _ _ (mscs_get l i hi).1
  have q1 := hcells _ _ (mscs_get l i hi).2.1
  have q2 := hcells _ _ (mscs_get l i hi).2.2
  rw [← Nat.add_assoc] at q1 q2
  rw [← HX.out] at q0 q1 q2
  clear hcells
  go_wp2_with fail
  refine (clone_any f t bv xs W (hgi.1.rw h2) (by omega)).mono ?_
  rintro e w3 he
  obtain ⟨v, rfl, h3, en3⟩ := ResE.lift h2 he
  have hS := netShut (h3.perm ((List.perm_append_comm (l₁ := [_]) (l₂ := [_, _])).append_right _))
  have hB : St H (Blk g #[.int .i64 0, .int .i64 0, .slice none 0 0] 59 :: NetA p room l :: Row 5 1 v (u8s xs) :: fr) w3 := hS.pick 2 (by simp)
  have en4 := en1.trans en3
  clear hS h3 h2 h1 en1 en3 q0 q1 q2 bl c1 cl
  have zf0 := hB.blk_free 0
  have zf1 := hB.blk_free 1
  have zf2 := hB.blk_free 2
  have z0 := hB.blk_cell 0
  have z1 := hB.blk_cell 1
  have z2 := hB.blk_cell 2
  have zl := hB.blk_lt
  have h6 := ((hB.blk_set 0 (.int .i64 f)).blk_set 1 (.int .i64 t)).blk_set 2 v
  have en6 := ((en4.setCell ⟨g, 0, none⟩ (.int .i64 f)).setCell ⟨g, 1, none⟩ (.int .i64 t)).setCell ⟨g, 2, none⟩ v
  change St H (Blk g #[.int .i64 f, .int .i64 t, v] 59 :: _) _ at h6
  obtain ⟨vA, vn, vc, hvf, _⟩ := (hB.pick 2 (by simp)).row_form
  subst hvf
  clear hB
  go_wp2_with fail
  refine bodyPost_ret (res_cell_tmp rfl _ _ g 59 _ (0, 0) _ rfl h6.blk_heap Try.underlying59 rfl msgSize _ rfl) rfl ?_
  exact ⟨_, rfl, h6.drop.swap, en6⟩
end Go.Proofs.Ytmdmekdmlkhchaa
