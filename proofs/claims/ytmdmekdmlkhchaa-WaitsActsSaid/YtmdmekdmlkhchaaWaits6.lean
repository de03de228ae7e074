/- Those that wait for one are woken. -/
import Derived.Test.YtmdmekdmlkhchaaWaits5
set_option linter.unusedVariables false
set_option linter.unusedSimpArgs false
namespace Go.Proofs.Ytmdmekdmlkhchaa
open Go.RowKit Go.Cw
attribute [local go_sem ↓] eql_id neq_id onC_kv onC_vv whoC_kv whoC_vv
set_option maxRecDepth 100000 in
set_option maxHeartbeats 1600000 in
theorem waWake_core (p g1 g2 : Nat) (on : List (Id × Id)) (ML : List (Id × Value)) (v0 : Value) (R0 : List Id) (b : Id) (H : Hp) (fr : List HA) (w : World)
    (h1 : St H (Blk p #[.map (some g1), .map (some g2)] 157 :: Mp onC g1 on :: Mp whoC g2 ML :: Row 42 2 v0 (idl R0) :: fr) w)
    (hv : (mlook b ML).getD (.slice none 0 0) = v0) :
    Calls Try.prog 62 #[waP p, idV b] w fun e w' => e = .returned v0 ∧ Env w w' ∧ St H (Blk p #[.map (some g1), .map (some g2)] 157 :: Mp onC g1 (delsL R0 on) :: Mp whoC g2 (mdel b ML) :: Row 42 2 v0 (idl R0) :: fr) w' := by
  obtain ⟨Hb, hlb, h2, hxb⟩ := h1.box #[.int .i64 b.1, .int .i64 b.2] 42
  have yb0 := hxb 0 _ rfl
  have yb1 := hxb 1 _ rfl
  have en2 := (Env.refl w).alloc (.cells #[.int .i64 b.1, .int .i64 b.2] 42)
  obtain ⟨A, n, c, rfl, hln, hnc, hcm⟩ := (h1.pick 3 (by simp)).row_form
  rw [idl_len] at hln
  obtain rfl : n = R0.length := by omega
  have hlk : ∀ n, (Instr.lookup 155 (.map (some g2)) (.agg #[.int .i64 b.1, .int .i64 b.2]) false).run Try.prog ((w.alloc (.cells #[.int .i64 b.1, .int .i64 b.2] 42)).drewN n) = .ok (.slice A R0.length c) ((w.alloc (.cells #[.int .i64 b.1, .int .i64 b.2] 42)).drewN n) := fun n => by
    have := ((h2.pick 2 (by simp)).drewN n).mp_get false Try.underlying155 (zero_ids _) b
    refine this.trans ?_
    rw [← hv]
    cases mlook b ML <;> rfl
  have hc : (w.alloc (.cells #[.int .i64 b.1, .int .i64 b.2] 42)).cell? ⟨p, 1, none⟩ = some (.map (some g2)) := h2.blk_cell 1
  have hl := h2.blk_lt
  have x0 := h2.cell yb0
  have x1 := h2.cell yb1
  have xl := World.block_lt_of_cell? _ _ x0
  replace hv := Lib.hid hv
  clear hxb hln
  go_enter Try.func62, Try.ntmps62
  go_wp2_with fail
  generalize w.alloc (.cells #[.int .i64 b.1, .int .i64 b.2] 42) = W at *
  generalize w.heap.size = gb at *
  go_quiet (fail)
  have h3 := h2.drewN nq
  have en3 := en2.drewN nq
  clear hc hl x0 x1 xl hlk h2 en2
  generalize W.drewN nq = W3 at *
  go_wp2_with fail
  have hcM : c ≤ 9223372036854775807 := by simpa [maxLen] using hcm
  clear hcm h1
  go_loopw [18] (fun i wr => ∃ k : Nat, k ≤ R0.length ∧ i = .int .i64 k ∧ St Hb (Blk p #[.map (some g1), .map (some g2)] 157 :: Mp onC g1 (delsL (R0.take k) on) :: Mp whoC g2 ML :: Row 42 2 (.slice A R0.length c) (idl R0) :: fr) wr ∧ Env w wr) (fun i _ => R0.length - (intOf i).toNat)
  case atStart => exact ⟨0, Nat.zero_le _, rfl, by rw [List.take_zero, delsL_nil]; exact h3, en3⟩
  case round =>
    obtain ⟨k, hk, rfl, hst, hen⟩ := hrel
    by_cases hlt : k < R0.length
    · obtain ⟨a, HX⟩ : ∃ a, Hid (a = R0[k]) := ⟨_, Lib.hid rfl⟩
      have hP : Hid (mdel a (delsL (R0.take k) on) = delsL (R0.take (k + 1)) on) := Lib.hid (by rw [HX.out, delsL_snoc R0 on k hlt])
      have hrw : Rw wr 2 (.slice A R0.length c) (idl R0) := (hst.pick 3 (by simp)).row_rw (by omega)
      obtain ⟨qb, qoff, qA, qc⟩ := hrw.cells (by omega)
      cases qA
      have q1 := qc _ _ (idl_fst R0 k hlt)
      have q2 := qc _ _ (idl_snd R0 k hlt)
      rw [← Nat.add_assoc] at q2
      rw [← HX.out] at q1 q2
      have ql := World.block_lt_of_cell? _ _ q1
      clear qc hrw
      obtain ⟨H', hle, h4, hy⟩ := hst.box #[.int .i64 a.1, .int .i64 a.2] 42
      have en4 : Env w (wr.alloc (.cells #[.int .i64 a.1, .int .i64 a.2] 42)) := hen.alloc _
      have hy0 := hy 0 _ rfl
      have hy1 := hy 1 _ rfl
      go_wp2_with fail
      generalize wr.heap.size = gx at *
      generalize (wr.alloc (.cells #[.int .i64 a.1, .int .i64 a.2] 42)) = W4 at *
      clear hy q1 q2 ql
      have hc4 : W4.cell? ⟨p, 0, none⟩ = some (.map (some g1)) := h4.blk_cell 0
      have hl4 := h4.blk_lt
      have x0 := h4.cell hy0
      have x1 := h4.cell hy1
      have xl := World.block_lt_of_cell? _ _ x0
      go_still_tail 5, (by kernel_rfl)
      change wpList _ _ _ _ _ W4.drew
      have h5 := h4.drew.swap
      go_wp2_with (at_delete; refine wpList_mdel h5 rfl (.tmp 25) (.tmp 26) rfl Try.underlying154 rfl a rfl ?_; intro w5 h6 en6)
      rw [hP.out] at h6
      go_roundw
      case rel => exact ⟨k + 1, by omega, by go_num, h6.swap.weaken hle, en4.drew.trans en6⟩
      case measure => simp [intOf]; omega
    · obtain rfl : k = R0.length := by omega
      rw [List.take_length] at hst
      have hc4 : wr.cell? ⟨p, 1, none⟩ = some (.map (some g2)) := hst.blk_cell 1
      have hl4 := hst.blk_lt
      have x0 := hst.cell yb0
      have x1 := hst.cell yb1
      have xl := World.block_lt_of_cell? _ _ x0
      go_wp2_with fail
      go_still_tail 5, (by kernel_rfl)
      change wpList _ _ _ _ _ wr.drew
      have h5 : St Hb (Mp whoC g2 ML :: Blk p #[.map (some g1), .map (some g2)] 157 :: Mp onC g1 (delsL R0 on) :: Row 42 2 (.slice A R0.length c) (idl R0) :: fr) wr.drew := hst.drew.pick 2 (by simp)
      go_wp2_with (at_delete; refine wpList_mdel h5 rfl (.tmp 31) (.tmp 32) rfl Try.underlying155 rfl b rfl ?_; intro w5 h6 en6)
      go_ret
      have h7 : St H (Blk p #[.map (some g1), .map (some g2)] 157 :: Mp onC g1 (delsL R0 on) :: Mp whoC g2 (mdel b ML) :: Row 42 2 (.slice A R0.length c) (idl R0) :: fr) w5 := (h6.weaken hlb).perm (List.perm_middle (l₁ := [_, _])).symm
      exact ⟨rfl, hen.drew.trans en6, h7⟩
end Go.Proofs.Ytmdmekdmlkhchaa
