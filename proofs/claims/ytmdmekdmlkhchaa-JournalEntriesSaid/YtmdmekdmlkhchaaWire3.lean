/- Digests, eight bytes, texts. -/
import Derived.Test.YtmdmekdmlkhchaaWire2
set_option linter.unusedVariables false
set_option linter.unusedSimpArgs false
namespace Go.Proofs.Ytmdmekdmlkhchaa
open Go.RowKit Go.Cw Go.Jn
set_option maxRecDepth 100000 in
set_option maxHeartbeats 800000 in
theorem of_any (A : Option Addr) (n c : Nat) (xs : List Int) (hb : Byt xs) (w : World) (hx : Rw w 1 (.slice A n c) (u8s xs)) :
    Calls Try.prog 132 #[.slice A n c] w fun e w' => e = .returned (.int .u64 (fnv xs : Nat)) ∧ w = w' := by
  obtain ⟨A', n', c', hv, hl, hnc, hcM⟩ := hx.form
  cases hv
  rw [u8s_len, Nat.mul_one] at hl
  subst hl
  go_enter Try.func132, Try.ntmps132
  go_wp2_with fail
  go_loop [3, 8] (fun s3 s4 => ∃ k : Nat, k ≤ xs.length ∧ s4 = .int .i64 (k : Int) ∧ s3 = .int .u64 (fnv (xs.take k) : Nat)) (fun _ s4 => xs.length - (intOf s4).toNat)
  case atStart => exact ⟨0, by omega, rfl, rfl⟩
  case round =>
    obtain ⟨k, hk, rfl, rfl⟩ := hrel
    by_cases hlt : k < xs.length
    · obtain ⟨b, off, rfl, hc⟩ := hx.cells (by omega)
      have hcell := hc k _ (u8s_get xs k hlt)
      obtain ⟨c0, c1⟩ : 0 ≤ xs.getD k 0 ∧ xs.getD k 0 < 256 := hb _ (by simp [hlt])
      have hs := fnv_snoc xs k hlt
      have hf := fnv_step (fnv (xs.take k)) (xs.getD k 0) (fnv_lt _) c0 c1
      rw [← hs] at hf
      clear hs hc
      generalize xs.getD k 0 = x at *
      generalize fnv (xs.take k) = h0 at *
      generalize hh1 : fnv (xs.take (k + 1)) = h1 at *
      replace hh1 := Lib.hid hh1
      go_wp2_with fail
      go_round
      case rel => exact ⟨k + 1, by omega, by go_num, by rw [hh1.out]⟩
      case measure => simp [intOf]; omega
    · obtain rfl : k = xs.length := by omega
      rw [List.take_length]
      go_wp2_with fail
      go_ret
      exact ⟨rfl, rfl⟩
theorem unbig_snoc (xs : List Int) (k : Nat) (h : k < xs.length) : unbig (xs.take (k + 1)) = unbig (xs.take k) * 256 + (xs.getD k 0).toNat := by
  unfold unbig
  rw [List.take_succ_eq_append_getElem h, List.foldl_append, List.foldl_cons, List.foldl_nil, List.getD_eq_getElem?_getD, List.getElem?_eq_getElem h, Option.getD_some]
theorem unbig_lt {xs : List Int} (hb : Byt xs) : unbig xs < 256 ^ xs.length := by
  have : ∀ (xs : List Int) (n m : Nat), Byt xs → n < 256 ^ m → xs.foldl (fun n c => n * 256 + c.toNat) n < 256 ^ (m + xs.length) := by
    intro xs
    induction xs with
    | nil => intro n m _ h; simpa using h
    | cons x r ih =>
      intro n m hb h
      have hx := hb x (List.mem_cons_self ..)
      rw [List.foldl_cons, List.length_cons, show m + (r.length + 1) = (m + 1) + r.length by omega]
      refine ih _ (m + 1) (fun y hy => hb y (List.mem_cons_of_mem _ hy)) ?_
      rw [Nat.pow_succ]
      omega
  simpa [unbig] using this xs 0 0 hb (by decide)
theorem unbig_step (n : Nat) (c : Int) (hn : n < 72057594037927936) (c0 : 0 ≤ c) (c1 : c < 256) : bits .or .u64 ((n : Int) * 256) c = ((n * 256 + c.toNat : Nat) : Int) := by
  rw [u64_or _ _ (by omega) (by omega) c0 (by omega)]
  have h1 : ((n : Int) * 256).toNat = n <<< 8 := by rw [Nat.shiftLeft_eq]; omega
  rw [h1, ← Nat.shiftLeft_add_eq_or_of_lt (show c.toNat < 2 ^ 8 by omega), Nat.shiftLeft_eq]
set_option maxRecDepth 100000 in
set_option maxHeartbeats 800000 in
theorem getEight_any (A : Option Addr) (c : Nat) (xs : List Int) (hb : Byt xs) (h8 : xs.length = 8) (w : World) (hx : Rw w 1 (.slice A 8 c) (u8s xs)) :
    Calls Try.prog 158 #[.slice A 8 c] w fun e w' => e = .returned (.tuple #[.int .u64 (unbig xs : Nat), .int .i64 0]) ∧ w = w' := by
  obtain ⟨A', n', c', hv, hl, hnc, hcM⟩ := hx.form
  cases hv
  have h8c : (8 : Int) ≤ (c : Int) := by omega
  have h8n : ¬ (xs.length : Int) < 8 := by omega
  go_enter Try.func158, Try.ntmps158
  go_wp2_with fail
  go_loop [4, 13] (fun s3 s4 => ∃ k : Nat, k ≤ 8 ∧ s4 = .int .i64 (k : Int) ∧ s3 = .int .u64 (unbig (xs.take k) : Nat)) (fun _ s4 => 8 - (intOf s4).toNat)
  case atStart => exact ⟨0, by omega, rfl, rfl⟩
  case round =>
    obtain ⟨k, hk, rfl, rfl⟩ := hrel
    by_cases hlt : k < 8
    · obtain ⟨b, off, rfl, hc⟩ := hx.cells (by omega)
      have hcell := hc k _ (u8s_get xs k (by omega))
      obtain ⟨c0, c1⟩ : 0 ≤ xs.getD k 0 ∧ xs.getD k 0 < 256 := hb _ (by simp [h8, hlt])
      have hs := unbig_snoc xs k (by omega)
      have hu := unbig_lt (hb.take k)
      have hu2 : unbig (xs.take k) < 72057594037927936 := Nat.lt_of_lt_of_le hu (by
        have : (xs.take k).length ≤ 7 := by rw [List.length_take]; omega
        exact Nat.pow_le_pow_right (n := 256) (by decide) this)
      have hf := unbig_step (unbig (xs.take k)) (xs.getD k 0) hu2 c0 c1
      rw [← hs] at hf
      clear hs hc hu
      generalize xs.getD k 0 = x at *
      generalize unbig (xs.take k) = h0 at *
      generalize hh1 : unbig (xs.take (k + 1)) = h1 at *
      replace hh1 := Lib.hid hh1
      replace h8 := Lib.hid h8
      go_wp2_with fail
      go_round
      case rel => exact ⟨k + 1, by omega, by go_num, by rw [hh1.out]⟩
      case measure => simp [intOf]; omega
    · obtain rfl : k = 8 := by omega
      rw [List.take_of_length_le (by omega)]
      replace h8 := Lib.hid h8
      go_wp2_with fail
      go_ret2
      exact ⟨rfl, rfl⟩
end Go.Proofs.Ytmdmekdmlkhchaa
