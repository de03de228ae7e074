/- SameInts: whether two lists of numbers are the same. -/
import Derived.Test.YtmdmekdmlkhchaaFrames
set_option linter.unusedVariables false
set_option linter.unusedSimpArgs false
namespace Go.Proofs.Ytmdmekdmlkhchaa
open Go.RowKit Go.Cw

theorem ret_bool {a b : Bool} (h : a = b) : Ending.returned (.bool a) = .returned (.bool b) := by rw [h]
theorem drop_cons_nth (xs : List Int) (k : Nat) (h : k < xs.length) : xs.drop k = nth xs k :: xs.drop (k + 1) := by
  rw [List.drop_eq_getElem_cons h]
  simp [nth, h]
theorem dec_step (xs ys : List Int) (k : Nat) (h : k < xs.length) (h' : k < ys.length) : decide (xs.drop k = ys.drop k) = (nth xs k == nth ys k && decide (xs.drop (k + 1) = ys.drop (k + 1))) := by
  rw [drop_cons_nth xs k h, drop_cons_nth ys k h', Bool.eq_iff_iff]
  simp
set_option maxRecDepth 100000 in
set_option maxHeartbeats 800000 in
theorem sameInts_any (u v : Value) (xs ys : List Int) (w : World) (hx : Rw w 1 u (ints xs)) (hy : Rw w 1 v (ints ys)) :
    Calls Try.prog 20 #[u, v] w fun e w' => e = .returned (.bool (decide (xs = ys))) ∧ Below w.heap.size w w' := by
  obtain ⟨A, n, c, rfl, hl, hn, hc⟩ := hx.form
  obtain ⟨A2, n2, c2, rfl, hl2, hn2, hc2⟩ := hy.form
  rw [ints_len, Nat.mul_one] at hl hl2
  subst hl
  subst hl2
  by_cases hne : xs.length = ys.length
  · have hq : ((xs.length : Int) != ys.length) = false := bne_eq_false_iff_eq.2 (by omega)
    have hd : decide (xs = ys) = decide (xs.drop 0 = ys.drop 0) := by simp
    generalize decide (xs = ys) = r at *
    have HE := Lib.hid hne
    have HD := Lib.hid hd
    clear hne hd
    go_enter Try.func20, Try.ntmps20
    go_wp2
    go_loopw [5] (fun i wr => ∃ k n : Nat, k ≤ xs.length ∧ i = .int .i64 k ∧ Hid (r = decide (xs.drop k = ys.drop k)) ∧ wr = w.drewN n) (fun i _ => xs.length - (intOf i).toNat)
    case atStart => exact ⟨0, 0, Nat.zero_le _, rfl, HD, rfl⟩
    case round =>
      obtain ⟨k, n, hk, rfl, HR, rfl⟩ := hrel
      by_cases hlt : k < xs.length
      · obtain ⟨b, off, rfl, hcx⟩ := hx.cells (by omega)
        obtain ⟨b2, off2, rfl, hcy⟩ := hy.cells (by have := HE.out; omega)
        have h1 := hcx k _ (ints_nth xs k hlt)
        have hlt2 : k < ys.length := by have := HE.out; omega
        have h2 := hcy k _ (ints_nth ys k hlt2)
        clear hcx hcy
        have HS := Lib.hid (dec_step xs ys k hlt hlt2)
        by_cases he : (nth xs k == nth ys k) = true
        · have he' : (nth xs k != nth ys k) = false := by simpa using he
          have HN : Hid (r = decide (xs.drop (k + 1) = ys.drop (k + 1))) := Lib.hid (by rw [HR.out, HS.out, he, Bool.true_and])
          clear he
          go_wp2
          go_quiet (fail)
          go_wp2
          go_roundw
          case rel => exact ⟨k + 1, _, by omega, by go_num, HN, rfl⟩
          case measure => simp [intOf]; omega
        · have he' : (nth xs k != nth ys k) = true := by simpa using he
          have HN : Hid (r = false) := Lib.hid (by rw [HR.out, HS.out, Bool.eq_false_iff.mpr he, Bool.false_and])
          clear he
          go_wp2
          go_quiet (fail)
          go_wp2
          go_ret
          exact ⟨ret_bool HN.out.symm, bel_drewN (bel_drewN (Below.refl _ _) _) _⟩
      · have HN : Hid (r = true) := Lib.hid (by rw [HR.out, List.drop_of_length_le (by omega), List.drop_of_length_le (by have := HE.out; omega)]; simp)
        go_wp2
        go_ret
        exact ⟨ret_bool HN.out.symm, bel_drewN (Below.refl _ _) _⟩
  · have hq : ((xs.length : Int) != ys.length) = true := by rw [bne_iff_ne]; omega
    have hd : decide (xs = ys) = false := decide_eq_false (fun h => hne (by rw [h]))
    rw [hd]
    go_enter Try.func20, Try.ntmps20
    go_wp2
    go_ret
    exact ⟨rfl, Below.refl _ _⟩
theorem sameInts_eq (u v : Value) (xs ys : List Int) (he : xs = ys) (w : World) (hx : Rw w 1 u (ints xs)) (hy : Rw w 1 v (ints ys)) :
    Calls Try.prog 20 #[u, v] w fun e w' => e = .returned (.bool true) ∧ Below w.heap.size w w' :=
  (sameInts_any u v xs ys w hx hy).mono (fun e w' h => ⟨by rw [h.1]; exact ret_bool (decide_eq_true he), h.2⟩)
theorem rw_empty (w : World) (A : Option Addr) (c : Nat) (hc : c ≤ 9223372036854775807) : Rw w 1 (.slice A 0 c) (ints []) := ⟨A, 0, c, rfl, rfl, Nat.zero_le _, by simpa [maxLen] using hc, fun h => absurd h (by omega)⟩
theorem rw_from_ints {w : World} {b off c : Nat} {xs : List Int} (h : Rw w 1 (.slice (some ⟨b, off, none⟩) xs.length c) (ints xs)) {k : Nat} (hk : k ≤ xs.length) {o' c' : Nat} (hA : k < xs.length → o' = off + k) (hc' : xs.length - k ≤ c') (hM : c' ≤ 9223372036854775807) :
    Rw w 1 (.slice (some ⟨b, o', none⟩) (xs.length - k) c') (ints (xs.drop k)) := by
  have := h.from k hk ⟨b, o', none⟩ c' (fun hq => by rw [hA hq, Nat.mul_one]) hc' hM
  rwa [Nat.mul_one, ints_drop] at this
theorem set_last (xs : List Int) (x : Int) (h : 0 < xs.length) : xs.set (xs.length - 1) x = xs.take (xs.length - 1) ++ [x] := by
  obtain ⟨ys, y, rfl⟩ : ∃ ys y, xs = ys ++ [y] := ⟨xs.dropLast, xs.getLast (by intro e; simp [e] at h), (List.dropLast_concat_getLast _).symm⟩
  simp
end Go.Proofs.Ytmdmekdmlkhchaa
