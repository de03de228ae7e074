/- The law WaitsActs: walked. -/
import Derived.Test.YtmdmekdmlkhchaaWaits7
import Derived.Deep.RegionHeld3
set_option linter.unusedVariables false
set_option linter.unusedSimpArgs false
namespace Go.Proofs.Ytmdmekdmlkhchaa
open Go.RowKit Go.Cw
attribute [local go_sem ↓] eql_id neq_id
set_option maxRecDepth 100000 in
set_option maxHeartbeats 1600000 in
theorem works22 (w : World) : Calls Try.prog 60 #[] w fun e w' => e = .returned (.bool true) ∧ Below w.heap.size w w' := by
  go_enter Try.func60, Try.ntmps60
  go_wp2_with fail
  refine (waINew w).mono ?_
  rintro e w2 ⟨p, rfl, h2, en2⟩
  obtain ⟨Ha, la, h3, ya⟩ := h2.box #[.int .i64 0, .int .i64 1] 42
  obtain ⟨Hb, lb, h4, yb⟩ := h3.box #[.int .i64 0, .int .i64 2] 42
  obtain ⟨Hc, lc, h5', yc⟩ := h4.box #[.int .i64 0, .int .i64 3] 42
  have en5 := (((en2.alloc (.cells #[.int .i64 0, .int .i64 1] 42)).alloc (.cells #[.int .i64 0, .int .i64 2] 42)).alloc (.cells #[.int .i64 0, .int .i64 3] 42)).drew
  have s1 : (w2.alloc (.cells #[.int .i64 0, .int .i64 1] 42)).heap.size = w2.heap.size + 1 := by simp
  have s2 : ((w2.alloc (.cells #[.int .i64 0, .int .i64 1] 42)).alloc (.cells #[.int .i64 0, .int .i64 2] 42)).heap.size = w2.heap.size + 1 + 1 := by simp
  have ya0 := Hp.cell_le (Hp.le_trans lb lc) (ya 0 _ rfl)
  have ya1 := Hp.cell_le (Hp.le_trans lb lc) (ya 1 _ rfl)
  have yb0 := Hp.cell_le lc (yb 0 _ rfl)
  have yb1 := Hp.cell_le lc (yb 1 _ rfl)
  have yc0 := yc 0 _ rfl
  have yc1 := yc 1 _ rfl
  rw [s1] at yb0 yb1
  rw [s2] at yc0 yc1
  have hle := Hp.le_trans (Hp.le_trans la lb) lc
  have h5 := h5'.drew
  clear ya yb yc s1 s2 h3 h4 la lb lc h5'
  go_wp2_with fail
  generalize ((w2.alloc (.cells #[.int .i64 0, .int .i64 1] 42)).alloc (.cells #[.int .i64 0, .int .i64 2] 42)).alloc (.cells #[.int .i64 0, .int .i64 3] 42) = W at *
  generalize w2.heap.size + 1 + 1 = gc at *
  generalize w2.heap.size + 1 = gb at *
  generalize w2.heap.size = ga at *
  have kk : ∀ (l : List HA) (w' : World), St Hc l w' → w'.cell? ⟨ga, 0, none⟩ = some (.int .i64 0) ∧ w'.cell? ⟨ga, 1, none⟩ = some (.int .i64 1) ∧ w'.cell? ⟨gb, 0, none⟩ = some (.int .i64 0) ∧ w'.cell? ⟨gb, 1, none⟩ = some (.int .i64 2) ∧ w'.cell? ⟨gc, 0, none⟩ = some (.int .i64 0) ∧ w'.cell? ⟨gc, 1, none⟩ = some (.int .i64 3) := fun l w' h => ⟨h.cell ya0, h.cell ya1, h.cell yb0, h.cell yb1, h.cell yc0, h.cell yc1⟩
  clear ya0 ya1 yb0 yb1 yc0 yc1 h2 en2
  go_region_held3 (fun w' => w'.cell? ⟨ga, 0, none⟩ = some (.int .i64 0) ∧ w'.cell? ⟨ga, 1, none⟩ = some (.int .i64 1) ∧ w'.cell? ⟨gb, 0, none⟩ = some (.int .i64 0) ∧ w'.cell? ⟨gb, 1, none⟩ = some (.int .i64 2) ∧ w'.cell? ⟨gc, 0, none⟩ = some (.int .i64 0) ∧ w'.cell? ⟨gc, 1, none⟩ = some (.int .i64 3))
    (first | exact kk _ _ (by assumption) | exact kk _ _ (St.alloc (by assumption) _))
    (first
      | (go_at_call 63; refine (waIPark p [] (0, 2) (0, 3) Hc [] _ h5 (by decide)).mono ?_; clear h5; rintro e w6 ⟨rfl, h6, en6⟩; rw [show mayL (0, 2) (0, 3) [] = true from by decide +kernel]; rw [show parkL (0, 2) (0, 3) [] = [((0, 2), (0, 3))] from by decide +kernel] at h6)
      | (go_at_call 63; refine (waIPark p [((0, 2), (0, 3))] (0, 1) (0, 3) Hc [] _ h6 (by decide)).mono ?_; clear h6; rintro e w7 ⟨rfl, h7, en7⟩; rw [show mayL (0, 1) (0, 3) [((0, 2), (0, 3))] = true from by decide +kernel]; rw [show parkL (0, 1) (0, 3) [((0, 2), (0, 3))] = [((0, 2), (0, 3)), ((0, 1), (0, 3))] from by decide +kernel] at h7)
      | (go_at_call 63; refine (waIPark p [((0, 2), (0, 3)), ((0, 1), (0, 3))] (0, 1) (0, 2) Hc [] _ h7 (by decide)).mono ?_; clear h7; rintro e w8 ⟨rfl, h8, en8⟩; rw [show mayL (0, 1) (0, 2) [((0, 2), (0, 3)), ((0, 1), (0, 3))] = false from by decide +kernel]; rw [show parkL (0, 1) (0, 2) [((0, 2), (0, 3)), ((0, 1), (0, 3))] = [((0, 2), (0, 3)), ((0, 1), (0, 3))] from by decide +kernel] at h8)
      | (go_at_call 65; refine (waILen p [((0, 2), (0, 3)), ((0, 1), (0, 3))] Hc [] _ h8).mono ?_; rintro e w8' ⟨rfl, rfl⟩; rw [show (([((0, 2), (0, 3)), ((0, 1), (0, 3))] : List (Id × Id)).length : Int) = 2 from rfl])
      | (go_at_call 62; refine (waIWake p [((0, 2), (0, 3)), ((0, 1), (0, 3))] (0, 3) Hc [] _ h8).mono ?_; clear h8; rintro e w9 ⟨v9, rfl, h9, en9⟩; rw [show wokenL (0, 3) [((0, 2), (0, 3)), ((0, 1), (0, 3))] = [(0, 2), (0, 1)] from by decide +kernel, show leftL (0, 3) [((0, 2), (0, 3)), ((0, 1), (0, 3))] = [] from by decide +kernel] at h9)
      | (go_at_call 62; refine (waIWake p [((0, 2), (0, 3)), ((0, 1), (0, 3))] (0, 3) Hc [Row 42 2 (.slice (some ⟨w8.heap.size, 0, none⟩) 2 2) (idl [(0, 2), (0, 1)])] _ (h8.row_lit 42 2 2 #[.int .i64 0, .int .i64 2, .int .i64 0, .int .i64 1] rfl (by decide)).swap).mono ?_; clear h8; rintro e w9 ⟨v9, rfl, h9, en9⟩; rw [show wokenL (0, 3) [((0, 2), (0, 3)), ((0, 1), (0, 3))] = [(0, 2), (0, 1)] from by decide +kernel, show leftL (0, 3) [((0, 2), (0, 3)), ((0, 1), (0, 3))] = [] from by decide +kernel] at h9)
      | (go_at_call 53; refine (sameIds_any _ _ [(0, 2), (0, 1)] [(0, 2), (0, 1)] w9 (h9.row_rw (by omega)) ((h9.pick 2 (by simp)).row_rw (by omega))).mono ?_; rintro e w10 ⟨rfl, hb10⟩; rw [decide_eq_true rfl]; have h10 := (h9.below hb10).drop; clear h9)
      | (go_at_call 53; have h9' := h9.row_lit 42 2 2 #[.int .i64 0, .int .i64 2, .int .i64 0, .int .i64 1] rfl (by decide); refine (sameIds_any _ _ [(0, 2), (0, 1)] [(0, 2), (0, 1)] _ (h9'.swap.row_rw (by omega)) (h9'.row_rw (by omega))).mono ?_; rintro e w10 ⟨rfl, hb10⟩; rw [decide_eq_true rfl]; have h10 := (h9'.below hb10).drop.drop; clear h9 h9')
      | (go_at_call 65; refine (waILen p [] Hc _ _ h10).mono ?_; rintro e w10' ⟨rfl, rfl⟩; rw [show (([] : List (Id × Id)).length : Int) = 0 from rfl]))
  all_goals
    have en := ((en5.trans en6).trans en7).trans en8
    have hz := h10.weaken hle
    (try have en' := (en.trans en9).alloc (.cells #[.int .i64 0, .int .i64 2, .int .i64 0, .int .i64 1] 42))
    (try have en'' := (en.alloc (.cells #[.int .i64 0, .int .i64 2, .int .i64 0, .int .i64 1] 42)).trans en9)
    clear h10 kk hle
    go_wp2_with fail
    go_ret
    first
      | exact ⟨rfl, hz.toBelow (en'.trans (bel_env hb10))⟩
      | exact ⟨rfl, hz.toBelow (en''.trans (bel_env hb10))⟩
end Go.Proofs.Ytmdmekdmlkhchaa
