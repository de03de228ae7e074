/- Texts are read; digests are taken off. -/
import Derived.Test.YtmdmekdmlkhchaaWire5
import Derived.Recover
set_option linter.unusedVariables false
set_option linter.unusedSimpArgs false
namespace Go.Proofs.Ytmdmekdmlkhchaa
open Go.RowKit Go.Cw Go.Jn
set_option maxRecDepth 100000 in
set_option maxHeartbeats 1600000 in
theorem getText_any (A : Option Addr) (n c : Nat) (xs : List Int) (hb : Byt xs) (hxl : xs.length ≤ 140737488355328) (w : World) (hx : Rw w 1 (.slice A n c) (u8s xs)) :
    Calls Try.prog 127 #[.slice A n c, .int .i64 4200] w fun e w' => e = .returned (.tuple #[.string (strOfNums (textF 4200 xs).2.1), .int .i64 ((textF 4200 xs).2.2 : Nat), .int .i64 (textF 4200 xs).1]) ∧ w = w' := by
  obtain ⟨A', n', c', hv, hl, hnc, hcM⟩ := hx.form
  cases hv
  rw [u8s_len, Nat.mul_one] at hl
  subst hl
  have hget := get_any A xs.length c xs hb w hx
  obtain ⟨N, K, E, hG⟩ : ∃ N K E, getF 0 0 xs = (N, K, E) := ⟨_, _, _, rfl⟩
  have hok := fun (h : E = 0) => getF_ok xs 0 0 N K hb (by omega) (by rw [hG, h])
  have hT : textF 4200 xs = if E ≠ 0 then (E, [], 0) else if 4200 < N then (18, [], 0) else if xs.length - K < N then (4, [], 0) else (0, (xs.drop K).take N, K + N) := by unfold textF; rw [hG]
  rw [hT]
  rw [hG] at hget
  clear hT hG
  by_cases hE : E = 0
  · subst hE
    obtain ⟨m, e1, e2, e3, e4, r, e5⟩ := hok rfl
    have hK1 : 1 ≤ K := by have := enc_pos m; omega
    have hKl : K ≤ xs.length := by rw [e5, List.length_append]; omega
    have hN64 : N < 18446744073709551616 := by
      have : N = m := by simpa using e1
      rw [Nat.pow_zero, Nat.mul_one] at e3
      omega
    rw [if_neg (by simp)]
    clear e1 e2 e3 e4 e5 hok m r
    by_cases h1 : 4200 < N
    · rw [if_pos h1]
      have h1' : (4200 : Int) < (N : Int) := by omega
      go_enter Try.func127, Try.ntmps127
      go_wp2_with fail
      refine hget.mono ?_
      rintro e w1 ⟨rfl, rfl⟩
      go_wp2_with fail
      go_ret3
      exact ⟨rfl, rfl⟩
    · rw [if_neg h1]
      have h1' : ¬ (4200 : Int) < (N : Int) := by omega
      by_cases h2 : xs.length - K < N
      · rw [if_pos h2]
        have h2' : (xs.length : Int) - (K : Int) < (N : Int) := by omega
        go_enter Try.func127, Try.ntmps127
        go_wp2_with fail
        refine hget.mono ?_
        rintro e w1 ⟨rfl, rfl⟩
        go_wp2_with fail
        go_ret3
        exact ⟨rfl, rfl⟩
      · rw [if_neg h2]
        have h2' : ¬ (xs.length : Int) - (K : Int) < (N : Int) := by omega
        obtain ⟨b, off, rfl, hcc⟩ := hx.cells (by omega)
        have hKc : (K : Int) ≤ (c : Int) := by omega
        have hKN : (K : Int) + (N : Int) ≤ (c : Int) := by omega
        by_cases hcK : c = K
        · obtain rfl : N = 0 := by omega
          have hcv : (convert 57 9 (.slice (some ⟨b, off, none⟩) 0 0)).run Try.prog w = .ok (.string (strOfNums (List.take 0 (List.drop K xs)))) w := conv_rw (A := some ⟨b, off, none⟩) (n := 0) (c := 0) ⟨_, _, _, rfl, by simp [u8s], by omega, by simp [maxLen], fun h => absurd h (by omega)⟩ 57 9 Try.underlying57 Try.underlying5 Try.underlying9
          generalize strOfNums (List.take 0 (List.drop K xs)) = S at *
          subst hcK
          clear hcc
          go_enter Try.func127, Try.ntmps127
          go_wp2_with fail
          refine hget.mono ?_
          rintro e w1 ⟨rfl, rfl⟩
          go_wp2_with fail
          go_ret3
          exact ⟨rfl, rfl⟩
        · have hr := (hx.from K hKl ⟨b, off + K, none⟩ (c - K) (fun _ => by rw [Nat.mul_one]) (by omega) (by omega)).upto N (by omega)
          rw [Nat.mul_one, Nat.mul_one, u8s_drop, u8s_take] at hr
          have hcv := conv_rw (P := Try.prog) hr 57 9 Try.underlying57 Try.underlying5 Try.underlying9
          generalize strOfNums (List.take N (List.drop K xs)) = S at *
          clear hcc hr
          go_enter Try.func127, Try.ntmps127
          go_wp2_with fail
          refine hget.mono ?_
          rintro e w1 ⟨rfl, rfl⟩
          go_wp2_with fail
          go_ret3
          exact ⟨rfl, rfl⟩
  · have hE' : (E != 0) = true := by simpa using hE
    rw [if_pos hE]
    go_enter Try.func127, Try.ntmps127
    go_wp2_with fail
    refine hget.mono ?_
    rintro e w1 ⟨rfl, rfl⟩
    replace hE := Lib.hid hE
    go_wp2_with fail
    go_ret3
    exact ⟨rfl, rfl⟩
set_option maxRecDepth 100000 in
set_option maxHeartbeats 1600000 in
theorem cut_any (A : Option Addr) (n c : Nat) (xs : List Int) (hb : Byt xs) (h8 : 8 ≤ xs.length) (w : World) (hx : Rw w 1 (.slice A n c) (u8s xs)) :
    Calls Try.prog 147 #[.slice A n c] w fun e w' => e = .returned (.tuple #[.slice A (n - 8) c, .int .u64 (unbig (xs.drop (xs.length - 8)) : Nat)]) ∧ w = w' := by
  obtain ⟨A', n', c', hv, hl, hnc, hcM⟩ := hx.form
  cases hv
  rw [u8s_len, Nat.mul_one] at hl
  subst hl
  obtain ⟨b, off, rfl, hcc⟩ := hx.cells (by omega)
  clear hcc
  have h8' : ¬ (xs.length : Int) < 8 := by omega
  have h8c : (xs.length : Int) - 8 ≤ (c : Int) := by omega
  have h8l : (0 : Int) ≤ (xs.length : Int) - 8 := by omega
  have hr := hx.from (xs.length - 8) (by omega) ⟨b, off + (xs.length - 8), none⟩ (c - (xs.length - 8)) (fun _ => by rw [Nat.mul_one]) (by omega) (by omega)
  rw [Nat.mul_one, u8s_drop, show xs.length - (xs.length - 8) = 8 by omega] at hr
  have hne : ¬ c = xs.length - 8 := by omega
  have hlen : (xs.drop (xs.length - 8)).length = 8 := by rw [List.length_drop]; omega
  have e8 : xs.length - (xs.length - 8) = 8 := by omega
  go_enter Try.func147, Try.ntmps147
  go_wp2_with fail
  refine (getEight_any _ _ _ (hb.drop _) hlen w hr).mono ?_
  rintro e w1 ⟨rfl, rfl⟩
  clear hlen e8
  go_wp2_with fail
  go_ret2
  exact ⟨rfl, rfl⟩
set_option maxRecDepth 100000 in
set_option maxHeartbeats 1600000 in
theorem cut_short (A : Option Addr) (n c : Nat) (h8 : n < 8) (w : World) :
    Calls Try.prog 147 #[.slice A n c] w fun e w' => e = .panicked [{ v := .iface 194 (.agg #[.int .i64 (n : Int)]), recovered := false }] ∧ w = w' := by
  have h8' : (n : Int) < 8 := by omega
  go_enter Try.func147, Try.ntmps147
  go_wp2_with fail
  exact ⟨rfl, rfl, rfl⟩
theorem ta_nil (w : World) : (Instr.typeAssert .nilIface 20 194 true).run Try.prog w = .ok (.tuple #[.agg #[.int .i64 0], .bool false]) w := by kernel_rfl
theorem ta_short (n : Int) (w : World) : (Instr.typeAssert (.iface 194 (.agg #[.int .i64 n])) 20 194 true).run Try.prog w = .ok (.tuple #[.agg #[.int .i64 n], .bool true]) w := by kernel_rfl
set_option maxRecDepth 100000 in
theorem catch_idle (p q : Addr) (w : World) :
    CallsD Try.prog 146 #[.pointer (some p), .pointer (some q)] .returning w fun e u' w' => e = .returned (.tuple #[]) ∧ u' = .returning ∧ w' = w.alloc (.cells #[.int .i64 0] 194) := by
  refine callsD_of_wpS Try.func146 rfl fun c₀ cs hu => ?_
  apply wpS_seq
  apply wpS_region
  simp [wpOpsS, go_sem, recoverD, hu, Try.ntmps146, Exit.thenS, ta_nil, ta_short]
  apply wpS_seq
  apply wpS_region
  simp [wpOpsS, go_sem, Exit.thenS]
  refine wpS_cond (t := false) (by simp [Act.eval]) ?_
  simp only [Bool.false_eq_true, if_false]
  refine wpS_of_wp (wp_skip ?_)
  cases c₀
  simp_all [bodyPostS, results, Try.results146]
set_option maxRecDepth 100000 in
theorem catch_panicking (g k : Nat) (n : Int) (x y : Value) (H : Hp) (fr : List HA) (w : World) (h : St H (Blk g #[x] 57 :: Blk k #[y] 54 :: fr) w) :
    CallsD Try.prog 146 #[.pointer (some ⟨g, 0, none⟩), .pointer (some ⟨k, 0, none⟩)] (.panicking [{ v := .iface 194 (.agg #[.int .i64 n]), recovered := false }]) w fun e u' w' =>
      e = .returned (.tuple #[]) ∧ u' = .panicking [{ v := .iface 194 (.agg #[.int .i64 n]), recovered := true }] ∧ w' = ((w.alloc (.cells #[.int .i64 n] 194)).setCell ⟨g, 0, none⟩ (.slice none 0 0)).setCell ⟨k, 0, none⟩ (.int .i64 4) := by
  have h1 := h.alloc (.cells #[.int .i64 n] 194)
  have c1 := h1.blk_cell 0
  have f1 := h1.blk_free 0
  have h2 := (h1.blk_set 0 (.slice none 0 0)).swap
  have c2 := h2.blk_cell 0
  have f2 := h2.blk_free 0
  refine callsD_of_wpS Try.func146 rfl fun c₀ cs hu => ?_
  apply wpS_seq
  apply wpS_region
  simp [wpOpsS, go_sem, recoverD, hu, Try.ntmps146, Exit.thenS, ta_nil, ta_short]
  apply wpS_seq
  apply wpS_region
  simp [wpOpsS, go_sem, Exit.thenS]
  refine wpS_cond (t := true) (by simp [Act.eval]) ?_
  simp only [if_true]
  apply wpS_region
  simp only [List.getElem?_toArray, List.getElem?_cons_zero, List.size_toArray] at c1 c2
  simp [wpOpsS, go_sem, c1, f1, c2, f2, bodyPostS, results, Try.results146]
end Go.Proofs.Ytmdmekdmlkhchaa
