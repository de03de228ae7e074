/- Eight bytes, texts and digests: what the packages wire and digest do, and the references. -/
import Derived.Test.YtmdmekdmlkhchaaWire
set_option linter.unusedVariables false
set_option linter.unusedSimpArgs false
namespace Go.Proofs.Ytmdmekdmlkhchaa
open Go.RowKit Go.Cw Go.Jn
theorem cast_mm (a m p : Nat) : ((a * m % p : Nat) : Int) = (a : Int) * (m : Int) % (p : Int) := by rw [Int.natCast_emod, Int.natCast_mul]
theorem fnv_step (h : Nat) (c : Int) (hh : h < 18446744073709551616) (c0 : 0 ≤ c) (c1 : c < 256) : IntKind.u64.wrap (bits .xor .u64 (h : Int) c * 1099511628211) = ((fnvS h c : Nat) : Int) := by
  rw [u64_xor _ _ (by omega) (by omega) c0 (by omega), IntKind.wrap_u64, Int.toNat_natCast]
  exact (cast_mm (h ^^^ c.toNat) 1099511628211 18446744073709551616).symm
theorem fnv_snoc (xs : List Int) (k : Nat) (h : k < xs.length) : fnv (xs.take (k + 1)) = fnvS (fnv (xs.take k)) (xs.getD k 0) := by
  unfold fnv
  rw [List.take_succ_eq_append_getElem h, List.foldl_append, List.foldl_cons, List.foldl_nil, List.getD_eq_getElem?_getD, List.getElem?_eq_getElem h, Option.getD_some]
set_option maxRecDepth 100000 in
set_option maxHeartbeats 800000 in
theorem refOf_any (A : Option Addr) (n c : Nat) (xs : List Int) (hb : Byt xs) (w : World) (hx : Rw w 1 (.slice A n c) (u8s xs)) :
    Calls Try.prog 102 #[.slice A n c] w fun e w' => e = .returned (.int .u64 (fnv xs : Nat)) ∧ w = w' := by
  obtain ⟨A', n', c', hv, hl, hnc, hcM⟩ := hx.form
  cases hv
  rw [u8s_len, Nat.mul_one] at hl
  subst hl
  go_enter Try.func102, Try.ntmps102
  go_wp2_with fail
  go_loop [3, 4] (fun s3 s4 => ∃ k : Nat, k ≤ xs.length ∧ s4 = .int .i64 (k : Int) ∧ s3 = .int .u64 (fnv (xs.take k) : Nat)) (fun _ s4 => xs.length - (intOf s4).toNat)
  case atStart => exact ⟨0, by omega, rfl, rfl⟩
  case round =>
    obtain ⟨k, hk, rfl, rfl⟩ := hrel
    by_cases hlt : k < xs.length
    · obtain ⟨b, off, rfl, hc⟩ := hx.cells (by omega)
      have hcell := hc k _ (u8s_get xs k hlt)
      obtain ⟨c0, c1⟩ : 0 ≤ xs.getD k 0 ∧ xs.getD k 0 < 256 := hb _ (by simp [hlt])
      have hs := fnv_snoc xs k hlt
      have hf := fnv_step (fnv (xs.take k)) (xs.getD k 0) (fnv_lt _) c0 c1
      rw [← hs] at hf
      clear hs hc
      generalize xs.getD k 0 = x at *
      generalize fnv (xs.take k) = h0 at *
      generalize hh1 : fnv (xs.take (k + 1)) = h1 at *
      replace hh1 := Lib.hid hh1
      go_wp2_with fail
      go_round
      case rel => exact ⟨k + 1, by omega, by go_num, by rw [hh1.out]⟩
      case measure => simp [intOf]; omega
    · obtain rfl : k = xs.length := by omega
      rw [List.take_length]
      go_wp2_with fail
      go_ret
      exact ⟨rfl, rfl⟩
end Go.Proofs.Ytmdmekdmlkhchaa
