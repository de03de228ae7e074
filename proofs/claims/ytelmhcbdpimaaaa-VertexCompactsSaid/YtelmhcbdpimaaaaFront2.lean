/- Ids marked: raise, Mark, and what is told. -/
import Derived.Test.YtelmhcbdpimaaaaFront
set_option linter.unusedVariables false
set_option linter.unusedSimpArgs false
namespace Go.Proofs.Ytelmhcbdpimaaaa
open Go.RowKit Go.Cw
attribute [local go_sem ↓] eql_id neq_id
theorem noGoto_norm {Q : Exit → Act → World → Prop} {a : Act} {w : World} (h : Q .normal a w) : Exit.noGoto Q .normal a w := h
set_option maxRecDepth 100000 in
set_option maxHeartbeats 1600000 in
theorem frRaise (p s : Nat) (M : List Id) (F : List Nat) (L : List Id) (r : Nat) (hr : r < 8) (hFI : FI M F L) (hC : ∀ q, q < 8 → q ≠ r → FC F L q) (H : Hp) (fr : List HA) (w : World) (h : St H (Blk p (frC F s) 147 :: SetA s L :: fr) w) :
    Calls Try.prog 115 #[frP p, .int .i64 (r : Int)] w fun e w' => e = .returned (.tuple #[]) ∧ Env w w' ∧ ∃ F' L', FI M F' L' ∧ (∀ q, q < 8 → FC F' L' q) ∧ St H (Blk p (frC F' s) 147 :: SetA s L' :: fr) w' := by
  have hr1 : (r : Int) < 8 := by omega
  have hr0 : (0 : Int) ≤ (r : Int) := by omega
  have hFIh := Lib.hid hFI
  have hCh := Lib.hid hC
  clear hFI hC
  go_enter Try.func115, Try.ntmps115
  go_wp2_with fail
  go_step3
  go_wp2_with fail
  go_step3
  go_wp2_with fail
  go_loopg [4] L.length (fun k s4 wr => ∃ F L, k = L.length ∧ Hid (FI M F L) ∧ Hid (∀ q, q < 8 → q ≠ r → FC F L q) ∧ St H (Blk p (frC F s) 147 :: SetA s L :: fr) wr ∧ Env w wr)
  case atStart => exact ⟨F, L, rfl, hFIh, hCh, h, Env.refl w⟩
  case round =>
    clear h hFIh hCh
    obtain ⟨F, L, hk, hFI, hC, hst, hen⟩ := hrel
    have hlen := hFI.out.len
    have hnd := Lib.hid (set_nodup hst.swap)
    have hbd := hFI.out.bound r hr
    obtain ⟨f, hf⟩ : ∃ f, Hid (f = F.getD r 0) := ⟨_, Lib.hid rfl⟩
    rw [← hf.out] at hbd
    have cr := hst.blk_cell r
    rw [frC_get F s r (by omega), ← hf.out] at cr
    have cl := hst.blk_lt
    obtain ⟨Hb, lb, h2, hx⟩ := hst.box #[.int .i64 (r : Int), .int .i64 ((f : Int) + 1)] 28
    have y0 := hx 0 _ rfl
    have y1 := hx 1 _ rfl
    have en2 := hen.alloc (.cells #[.int .i64 (r : Int), .int .i64 ((f : Int) + 1)] 28)
    clear hx
    have hw : IntKind.i64.wrap ((f : Int) + 1) = (f : Int) + 1 := by rw [IntKind.wrap_i64]; omega
    go_wp2_with fail
    generalize wr.heap.size = gb at *
    generalize wr.alloc (.cells #[.int .i64 (r : Int), .int .i64 ((f : Int) + 1)] 28) = W at *
    clear cr cl
    have c8 := h2.blk_cell 8
    rw [frC_ptr F s hlen] at c8
    have cl := h2.blk_lt
    have x0 := h2.cell y0
    have x1 := h2.cell y1
    have xl := World.block_lt_of_cell? _ _ x0
    go_still_tail 5, (by kernel_rfl)
    change wpList _ _ _ _ _ W.drew
    go_wp2_with fail
    refine (setRem_any s L ((r : Int), (f : Int) + 1) Hb _ _ h2.drew.swap).mono ?_
    rintro e w3 ⟨rfl, h3, en3⟩
    have h4 : St Hb (Blk p (frC F s) 147 :: SetA s (cutL ((r : Int), (f : Int) + 1) L) :: fr) w3 := h3.swap
    have en4 := en2.drew.trans en3
    clear h3 c8 cl x0 x1 xl h2 en2 en3
    have cr := h4.blk_cell r
    rw [frC_get F s r (by omega), ← hf.out] at cr
    have cf := h4.blk_free r
    have cl := h4.blk_lt
    by_cases hin : ((r : Int), (f : Int) + 1) ∈ L
    · rw [decide_eq_true hin]
      have hin' : ((r : Int), ((F.getD r 0 + 1 : Nat) : Int)) ∈ L := by rw [← hf.out]; exact hin
      have hcutl : Hid ((cutL ((r : Int), (f : Int) + 1) L).length < L.length) := Lib.hid (by have := cutL_len hnd.out hin; omega)
      have hN : Hid (FI M (F.set r (f + 1)) (cutL ((r : Int), (f : Int) + 1) L)) := Lib.hid (by
        have := hFI.out.raise hnd.out r hr hin'
        rw [← hf.out] at this
        exact this)
      have hCN : Hid (∀ q, q < 8 → q ≠ r → FC (F.set r (f + 1)) (cutL ((r : Int), (f : Int) + 1) L) q) := Lib.hid (fun q hq hqr hm => by
        rw [getD_set F r q _ (by omega), if_neg hqr] at hm
        exact hC.out q hq hqr ((cutL_mem _ _ _).1 hm).1)
      have hset := Lib.hid (frC_set F s r (f + 1) (by omega))
      clear hin hin'
      go_wp2_with fail
      go_still_tail 10, (by kernel_rfl)
      change wpList _ _ _ _ _ w3.drew
      have h5 := (h4.drew).blk_set r (.int .i64 ((f : Int) + 1))
      have en5 := en4.drew.setCell ⟨p, r, none⟩ (.int .i64 ((f : Int) + 1))
      go_wp2_with fail
      go_roundg (cutL ((r : Int), (f : Int) + 1) L).length
      case measure => rw [hk]; exact hcutl.out
      case rel => exact ⟨F.set r (f + 1), _, rfl, hN, hCN, (by rw [← hset.out]; exact h5.weaken lb), en5⟩
    · rw [decide_eq_false hin]
      have hCN : Hid (∀ q, q < 8 → FC F L q) := Lib.hid (fun q hq => by
        by_cases e : q = r
        · subst e
          unfold FC
          rw [← hf.out]
          exact hin
        · exact hC.out q hq e)
      have hcut : cutL ((r : Int), (f : Int) + 1) L = L := List.filter_eq_self.2 (fun q hq => decide_eq_true (fun e => hin (e ▸ hq)))
      rw [hcut] at h4
      clear hin hcut
      go_wp2_with fail
      refine noGoto_norm ?_
      go_end0
      exact ⟨rfl, en4, F, L, hFI.out, hCN.out, h4.weaken lb⟩
end Go.Proofs.Ytelmhcbdpimaaaa
