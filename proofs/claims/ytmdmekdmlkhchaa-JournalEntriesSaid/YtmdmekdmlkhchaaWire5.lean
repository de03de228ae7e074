/- Numbers and texts are read. -/
import Derived.Test.YtmdmekdmlkhchaaWire4
set_option linter.unusedVariables false
set_option linter.unusedSimpArgs false
namespace Go.Proofs.Ytmdmekdmlkhchaa
open Go.RowKit Go.Cw Go.Jn
theorem and_nat : ∀ m : Fin 256, m.val &&& 127 = m.val % 128 := by decide +kernel
theorem and7 (c : Int) (c0 : 0 ≤ c) (c1 : c < 256) : bits .and .u8 c 127 = c % 128 := by
  rw [u8_and _ _ c0 c1 (by omega) (by omega)]
  have := and_nat ⟨c.toNat, by omega⟩
  simp only at this
  rw [show (127 : Int).toNat = 127 from rfl, this]
  omega
theorem get_or (m k : Nat) (x : Int) (hm : m < 128 ^ k) (hk : k ≤ 9) (x0 : 0 ≤ x) (x1 : x < 256) (h9 : k = 9 → x ≤ 1) :
    bits .or .u64 (m : Int) (IntKind.u64.wrap (x % 128 * 2 ^ (7 * k))) = ((m + (x % 128).toNat * 128 ^ k : Nat) : Int) ∧ m + (x % 128).toNat * 128 ^ k < 128 ^ (k + 1) := by
  have hp : (128 : Nat) ^ k = 2 ^ (7 * k) := by rw [Nat.pow_mul]
  obtain ⟨d, hd⟩ : ∃ d : Nat, x % 128 = (d : Int) := ⟨(x % 128).toNat, by omega⟩
  have hd1 : d < 128 := by omega
  have hdx : k = 9 → d ≤ 1 := fun h => by have := h9 h; omega
  have hb : m + d * 128 ^ k < 128 ^ (k + 1) := by
    rw [Nat.pow_succ]
    have : (d + 1) * 128 ^ k ≤ 128 * 128 ^ k := Nat.mul_le_mul_right _ (by omega)
    rw [Nat.add_mul, Nat.mul_comm 128] at this
    omega
  have hlt : d * 128 ^ k < 18446744073709551616 := by
    by_cases h : k = 9
    · have := hdx h
      subst h
      have h2 : (128 : Nat) ^ 9 = 9223372036854775808 := by decide
      rw [h2]; omega
    · have h8 := Nat.pow_le_pow_right (n := 128) (by decide) (show k ≤ 8 by omega)
      have h2 : (128 : Nat) ^ 8 = 72057594037927936 := by decide
      exact Nat.lt_of_le_of_lt (Nat.mul_le_mul (show d ≤ 128 by omega) h8) (by rw [h2]; omega)
  have hm2 : m < 18446744073709551616 := Nat.lt_of_lt_of_le hm (by have := pow9 hk; omega)
  rw [hd, Int.toNat_natCast]
  refine ⟨?_, hb⟩
  have he : ((d : Int) * 2 ^ (7 * k)) = ((d * 128 ^ k : Nat) : Int) := by rw [hp]; push_cast; rfl
  rw [he, IntKind.wrap_u64, Int.emod_eq_of_lt (by omega) (by omega), u64_or_nat _ _ hm2 hlt]
  congr 1
  rw [hp] at hm ⊢
  rw [← Nat.shiftLeft_eq, Nat.or_comm, ← Nat.shiftLeft_add_eq_or_of_lt hm, Nat.add_comm]
set_option maxRecDepth 100000 in
set_option maxHeartbeats 1600000 in
theorem get_any (A : Option Addr) (n c : Nat) (xs : List Int) (hb : Byt xs) (w : World) (hx : Rw w 1 (.slice A n c) (u8s xs)) :
    Calls Try.prog 145 #[.slice A n c] w fun e w' => e = .returned (.tuple #[.int .u64 ((getF 0 0 xs).1 : Nat), .int .i64 ((getF 0 0 xs).2.1 : Nat), .int .i64 (getF 0 0 xs).2.2]) ∧ w = w' := by
  obtain ⟨A', n', c', hv, hl, hnc, hcM⟩ := hx.form
  cases hv
  rw [u8s_len, Nat.mul_one] at hl
  subst hl
  generalize hG : getF 0 0 xs = G at *
  replace hG := Lib.hid hG
  go_enter Try.func145, Try.ntmps145
  go_wp2_with fail
  go_loop [5, 10] (fun s5 s10 => ∃ (k m : Nat), k ≤ xs.length ∧ k ≤ 9 ∧ s10 = .int .i64 (k : Int) ∧ s5 = .int .u64 (m : Int) ∧ m < 128 ^ k ∧ Hid (getF k m (xs.drop k) = G)) (fun _ s10 => xs.length - (intOf s10).toNat)
  case atStart => exact ⟨0, 0, by omega, by omega, rfl, rfl, by decide, hG⟩
  case round =>
    obtain ⟨k, m, hk, hk9, rfl, rfl, hm, hg⟩ := hrel
    clear hG
    by_cases hlt : k < xs.length
    · obtain ⟨b, off, rfl, hc⟩ := hx.cells (by omega)
      have hcell := hc k _ (u8s_get xs k hlt)
      obtain ⟨c0, c1⟩ : 0 ≤ xs.getD k 0 ∧ xs.getD k 0 < 256 := hb _ (by simp [hlt])
      have hd : xs.drop k = xs.getD k 0 :: xs.drop (k + 1) := by rw [List.drop_eq_getElem_cons hlt]; simp [hlt]
      rw [hd, getF] at hg
      have ha := and7 _ c0 c1
      clear hd hc
      generalize xs.getD k 0 = x at *
      have hm64 : m < 18446744073709551616 := Nat.lt_of_lt_of_le hm (by have := pow9 hk9; omega)
      have hk7 : (7 : Int) * (k : Int) ≤ 63 := by omega
      have hk8 : (k : Int) ≤ 9 := by omega
      by_cases g1 : k = 9 ∧ 1 < x
      · obtain ⟨g1, g2⟩ := g1
        have hb9 : ((k : Int) == 9) = true := beq_iff_eq.2 (by omega)
        rw [if_pos ⟨g1, g2⟩] at hg
        replace hg := hg.out
        subst hg
        replace g1 := Lib.hid g1
        go_wp2_with fail
        go_ret3
        exact ⟨rfl, rfl⟩
      · rw [if_neg g1] at hg
        obtain ⟨hor, hlt2⟩ := get_or m k x hm hk9 c0 c1 (fun h => Int.not_lt.1 (fun h2 => g1 ⟨h, h2⟩))
        have hbe : ((k : Int) == 9) = decide (k = 9) := by by_cases h : k = 9 <;> simp [h]; omega
        have hN : Hid (((k : Int) == 9) = true → ¬ (1 : Int) < x) := Lib.hid (fun h h2 => g1 ⟨by have := beq_iff_eq.1 h; omega, h2⟩)
        clear g1 hbe
        generalize hD : m + (x % 128).toNat * 128 ^ k = D at *
        by_cases g2 : 128 ≤ x
        · rw [if_pos g2] at hg
          have hk8 : k ≤ 8 := by
            rcases Nat.lt_or_ge k 9 with h | h
            · omega
            · exact absurd (show (1 : Int) < x by omega) (hN.out (beq_iff_eq.2 (by omega)))
          have hb9 : ((k : Int) == 9) = false := beq_eq_false_iff_ne.2 (by omega)
          clear hN hD
          go_wp2_with fail
          go_round
          case rel => exact ⟨k + 1, D, by omega, by omega, by go_num, rfl, hlt2, hg⟩
          case measure => simp [intOf]; omega
        · rw [if_neg g2] at hg
          by_cases g3 : x = 0 ∧ 0 < k
          · rw [if_pos g3] at hg
            obtain ⟨rfl, g4⟩ := g3
            have hk0 : (0 : Int) < (k : Int) := by omega
            replace hg := hg.out
            subst hg
            clear hN hD hor
            by_cases h9 : k = 9
            · have hb9 : ((k : Int) == 9) = true := beq_iff_eq.2 (by omega)
              replace h9 := Lib.hid h9
              go_wp2_with fail
              go_ret3
              exact ⟨rfl, rfl⟩
            · have hb9 : ((k : Int) == 9) = false := beq_eq_false_iff_ne.2 (by omega)
              go_wp2_with fail
              go_ret3
              exact ⟨rfl, rfl⟩
          · rw [if_neg g3] at hg
            replace hg := hg.out
            have hbx : (x == 0) = false ∨ ((x == 0) = true ∧ k = 0) := by
              by_cases h : x = 0
              · exact .inr ⟨beq_iff_eq.2 h, by rcases Nat.eq_zero_or_pos k with h2 | h2; exact h2; exact absurd ⟨h, h2⟩ g3⟩
              · exact .inl (beq_eq_false_iff_ne.2 h)
            subst hg
            clear g3 hD
            rcases hbx with hbx | ⟨hbx, hk0⟩
            · by_cases h9 : k = 9
              · have hb9 : ((k : Int) == 9) = true := beq_iff_eq.2 (by omega)
                have hx1 := hN.out hb9
                replace h9 := Lib.hid h9
                go_wp2_with fail
                go_ret3
                exact ⟨rfl, rfl⟩
              · have hb9 : ((k : Int) == 9) = false := beq_eq_false_iff_ne.2 (by omega)
                go_wp2_with fail
                go_ret3
                exact ⟨rfl, rfl⟩
            · have hb9 : ((k : Int) == 9) = false := beq_eq_false_iff_ne.2 (by omega)
              have hkn : ¬ (0 : Int) < (k : Int) := by omega
              replace hk0 := Lib.hid hk0
              go_wp2_with fail
              go_ret3
              exact ⟨rfl, rfl⟩
    · obtain rfl : k = xs.length := by omega
      rw [List.drop_length, getF] at hg
      replace hg := hg.out
      subst hg
      go_wp2_with fail
      go_ret3
      exact ⟨rfl, rfl⟩
end Go.Proofs.Ytmdmekdmlkhchaa
