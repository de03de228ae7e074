/- A digest is taken off. -/
import Derived.Test.YtmdmekdmlkhchaaWire6
set_option linter.unusedVariables false
set_option linter.unusedSimpArgs false
namespace Go.Proofs.Ytmdmekdmlkhchaa
open Go.RowKit Go.Cw Go.Jn
theorem makeFn (fn : Fn) (first cap : Array Value) (w : World) : (Instr.makeFunc fn first cap).run Try.prog w = .ok (.func fn first cap) w := rfl
set_option maxRecDepth 100000 in
set_option maxHeartbeats 1600000 in
theorem open_any (A : Option Addr) (n c : Nat) (xs : List Int) (hb : Byt xs) (hxl : xs.length + 20 ≤ 140737488355328) (w : World) (hx : Rw w 1 (.slice A n c) (u8s xs)) :
    Calls Try.prog 128 #[.slice A n c] w (ResE (snap w) [] w (fun v => .tuple #[v, .int .i64 (openF xs).1]) (fun v => [Row 5 1 v (u8s (openF xs).2)])) := by
  obtain ⟨A', n', c', hv, hl, hnc, hcM⟩ := hx.form
  cases hv
  rw [u8s_len, Nat.mul_one] at hl
  subst hl
  have hmf := makeFn
  have h1 := ((St.start w).blk #[.slice none 0 0] 57)
  have h2 := h1.blk #[.int .i64 0] 54
  have hs1 : (w.alloc (.cells #[.slice none 0 0] 57)).heap.size = w.heap.size + 1 := by simp
  rw [hs1] at h2
  have en2 := ((Env.refl w).alloc (.cells #[.slice none 0 0] 57)).alloc (.cells #[.int .i64 0] 54)
  have hx2 := (hx.alloc (.cells #[.slice none 0 0] 57)).alloc (.cells #[.int .i64 0] 54)
  clear h1 hs1
  by_cases h8 : xs.length < 8
  · have ho : openF xs = (4, []) := by unfold openF; rw [if_pos h8]
    rw [ho]
    clear ho
    go_enter_defers Try.func128, Try.ntmps128
    go_wp2_with fail
    refine (cut_short A xs.length c h8 _).mono ?_
    rintro e w1 ⟨rfl, rfl⟩
    refine leaves_cons (f := 146) (args := #[.pointer (some ⟨w.heap.size, 0, none⟩), .pointer (some ⟨w.heap.size + 1, 0, none⟩)]) (by simp) (by simp [go_sem]) ?_
    refine (catch_panicking w.heap.size (w.heap.size + 1) xs.length _ _ _ _ _ h2.swap).mono ?_
    rintro e u' w2 ⟨rfl, rfl, rfl⟩
    have h3 := ((h2.swap.alloc (.cells #[.int .i64 (xs.length : Int)] 194)).blk_set 0 (.slice none 0 0)).swap.blk_set 0 (.int .i64 4)
    have en3 := ((en2.alloc (.cells #[.int .i64 (xs.length : Int)] 194)).setCell ⟨w.heap.size, 0, none⟩ (.slice none 0 0)).setCell ⟨w.heap.size + 1, 0, none⟩ (.int .i64 4)
    have c0 := h3.blk_cell 0
    have c1 := h3.swap.blk_cell 0
    clear h2 hx2 en2
    refine ⟨.tuple #[.slice none 0 0, .int .i64 4], ?_, ?_⟩
    · replace c0 : _ = some _ := c0
      replace c1 : _ = some _ := c1
      simp [results, Try.results128, go_sem, c0, c1]
    · exact ⟨.slice none 0 0, rfl, (h3.drop.drop.row_nil 5 1), en3⟩
  · have h8' : 8 ≤ xs.length := by omega
    have hcut := cut_any A xs.length c xs hb h8'
    have hf := of_any A (xs.length - 8) c (xs.take (xs.length - 8)) (hb.take _)
    have hrt : ∀ {w : World}, Rw w 1 (.slice A xs.length c) (u8s xs) → Rw w 1 (.slice A (xs.length - 8) c) (u8s (xs.take (xs.length - 8))) := fun h => by
      have := h.upto (xs.length - 8) (by omega)
      rwa [Nat.mul_one, u8s_take] at this
    have hne : ((fnv (xs.take (xs.length - 8)) : Nat) : Int) ≠ (unbig (xs.drop (xs.length - 8)) : Nat) ↔ fnv (xs.take (xs.length - 8)) ≠ unbig (xs.drop (xs.length - 8)) := by omega
    by_cases hs : fnv (xs.take (xs.length - 8)) ≠ unbig (xs.drop (xs.length - 8))
    · have ho : openF xs = (21, []) := by unfold openF; rw [if_neg h8, if_pos hs]
      rw [ho]
      have hb1 : (((fnv (xs.take (xs.length - 8)) : Nat) : Int) != (unbig (xs.drop (xs.length - 8)) : Nat)) = true := by rw [bne_iff_ne]; exact hne.2 hs
      clear ho hne
      generalize fnv (xs.take (xs.length - 8)) = F at *
      generalize unbig (xs.drop (xs.length - 8)) = U at *
      go_enter_defers Try.func128, Try.ntmps128
      go_wp2_with fail
      refine (hcut _ hx2).mono ?_
      rintro e w1 ⟨rfl, rfl⟩
      go_wp2_with fail
      refine (hf _ (hrt hx2)).mono ?_
      rintro e w1 ⟨rfl, rfl⟩
      have c0 := h2.blk_cell 0
      have f0 := h2.blk_free 0
      have l0 := h2.blk_lt
      have c1 := h2.swap.blk_cell 0
      have f1 := h2.swap.blk_free 0
      have l1 := h2.swap.blk_lt
      generalize (w.alloc (.cells #[.slice none 0 0] 57)).alloc (.cells #[.int .i64 0] 54) = W at *
      replace hs := Lib.hid hs
      have h3 := (h2.blk_set 0 (.int .i64 21)).swap.blk_set 0 (.slice none 0 0)
      have en3 := (en2.setCell ⟨w.heap.size + 1, 0, none⟩ (.int .i64 21)).setCell ⟨w.heap.size, 0, none⟩ (.slice none 0 0)
      have h3' := (h2.swap.blk_set 0 (.slice none 0 0)).swap.blk_set 0 (.int .i64 21)
      have en3' := (en2.setCell ⟨w.heap.size, 0, none⟩ (.slice none 0 0)).setCell ⟨w.heap.size + 1, 0, none⟩ (.int .i64 21)
      go_wp2_with fail
      refine leaves_cons (f := 146) (args := #[.pointer (some ⟨w.heap.size, 0, none⟩), .pointer (some ⟨w.heap.size + 1, 0, none⟩)]) (by simp) (by simp [go_sem]) ?_
      refine (catch_idle _ _ _).mono ?_
      rintro e u' w2 ⟨rfl, rfl, rfl⟩
      replace h3' := h3'.alloc (.cells #[.int .i64 0] 194)
      have c0 := h3'.blk_cell 0
      have c1 := h3'.swap.blk_cell 0
      refine ⟨.tuple #[.slice none 0 0, .int .i64 21], ?_, ?_⟩
      · replace c0 : _ = some _ := c0
        replace c1 : _ = some _ := c1
        simp [results, Try.results128, go_sem, c0, c1]
      · exact ⟨.slice none 0 0, rfl, (h3'.drop.drop.row_nil 5 1), en3'.alloc _⟩
    · have ho : openF xs = (0, xs.take (xs.length - 8)) := by unfold openF; rw [if_neg h8, if_neg hs]
      rw [ho]
      have hb1 : (((fnv (xs.take (xs.length - 8)) : Nat) : Int) != (unbig (xs.drop (xs.length - 8)) : Nat)) = false := by
        rw [bne_eq_false_iff_eq]
        exact Decidable.byContradiction fun h => hs (hne.1 h)
      have hlt : (xs.take (xs.length - 8)).length = xs.length - 8 := by rw [List.length_take]; omega
      clear ho hne hs
      generalize fnv (xs.take (xs.length - 8)) = F at *
      generalize unbig (xs.drop (xs.length - 8)) = U at *
      generalize xs.take (xs.length - 8) = Z at *
      have hzl : Z.length ≤ 140737488355328 := by omega
      replace hlt := Lib.hid hlt
      go_enter_defers Try.func128, Try.ntmps128
      go_wp2_with fail
      refine (hcut _ hx2).mono ?_
      rintro e w1 ⟨rfl, rfl⟩
      go_wp2_with fail
      refine (hf _ (hrt hx2)).mono ?_
      rintro e w1 ⟨rfl, rfl⟩
      have c0 := h2.blk_cell 0
      have f0 := h2.blk_free 0
      have l0 := h2.blk_lt
      have c1 := h2.swap.blk_cell 0
      have f1 := h2.swap.blk_free 0
      have l1 := h2.swap.blk_lt
      generalize (w.alloc (.cells #[.slice none 0 0] 57)).alloc (.cells #[.int .i64 0] 54) = W at *
      go_wp2_with (at_builtin; refine wpList_append rfl (.tmp 16) (.tmp 17) 57 57 rfl Try.underlying57 (.inl ⟨_, Try.underlying57⟩) (.int .u8 0) 1 wU8 rfl (by decide) (by decide) rfl rfl (h2.row_lit 5 1 0 #[] rfl (by decide)) (News.rw ((hrt hx2).alloc _) (u8s_one Z)) ?apB1 ?apK1)
      case apB1 => first | omega | (simp; omega) | (simp [u8s_len]; omega) | skip
      intro v' w4 h4 en4
      clear c0 f0 l0 c1 f1 l1 h2
      obtain ⟨vA, vn, vc, rfl, _⟩ := h4.row_form
      have k4 := h4.swap
      have k5 := k4.blk_lt
      have c0 := k4.blk_cell 0
      have f0 := k4.blk_free 0
      have c1 := (k4.pick 2 (by simp)).blk_cell 0
      have f1 := (k4.pick 2 (by simp)).blk_free 0
      have l1 := (k4.pick 2 (by simp)).blk_lt
      have h5 := (((h4.pick 2 (by simp)).blk_set 0 (.slice vA vn vc)).pick 2 (by simp)).blk_set 0 (.int .i64 0)
      have en5 := (((en2.alloc _).trans en4).setCell ⟨w.heap.size, 0, none⟩ (.slice vA vn vc)).setCell ⟨w.heap.size + 1, 0, none⟩ (.int .i64 0)
      go_wp2_with fail
      refine leaves_cons (f := 146) (args := #[.pointer (some ⟨w.heap.size, 0, none⟩), .pointer (some ⟨w.heap.size + 1, 0, none⟩)]) (by simp) (by simp [go_sem]) ?_
      refine (catch_idle _ _ _).mono ?_
      rintro e u' w2 ⟨rfl, rfl, rfl⟩
      clear c0 c1 k4 k5 f0 f1 l1 h4
      replace h5 := h5.alloc (.cells #[.int .i64 0] 194)
      have c0 := h5.blk_cell 0
      have c1 := h5.swap.blk_cell 0
      refine ⟨.tuple #[.slice vA vn vc, .int .i64 0], ?_, ?_⟩
      · replace c0 : _ = some _ := c0
        replace c1 : _ = some _ := c1
        simp [results, Try.results128, go_sem, c0, c1]
      · exact ⟨_, rfl, h5.drop.drop, en5.alloc _⟩
end Go.Proofs.Ytmdmekdmlkhchaa
