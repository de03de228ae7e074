/- Eight bytes are put, texts are put and read. -/
import Derived.Test.YtmdmekdmlkhchaaWire3
set_option linter.unusedVariables false
set_option linter.unusedSimpArgs false
namespace Go.Proofs.Ytmdmekdmlkhchaa
open Go.RowKit Go.Cw Go.Jn
theorem big_get (n j : Nat) (hj : j < 8) : ((n : Int) / 2 ^ (56 - 8 * j)) % 256 = (big n).getD j 0 := by
  match j, hj with
  | 0, _ => simp [big]
  | 1, _ => simp [big]
  | 2, _ => simp [big]
  | 3, _ => simp [big]
  | 4, _ => simp [big]
  | 5, _ => simp [big]
  | 6, _ => simp [big]
  | 7, _ => simp [big]
theorem big_get' (n j : Nat) (hj : j < 8) : ((n : Int) / 2 ^ (8 * (7 - j))) % 256 = (big n).getD j 0 := by
  rw [← big_get n j hj, show 8 * (7 - j) = 56 - 8 * j by omega]
theorem _root_.Go.Cw.News.str {P : Program} {w : World} {xs : List Int} (hb : Byt xs) : News P w 1 (.string (strOfNums xs)) xs.length (u8s xs) := by
  refine ⟨by rw [u8s_len, Nat.mul_one], fun w' => by simp [Builtin.lenOf, strOfNums_size], fun n => ?_, u8s_one xs⟩
  have h : (strOfNums xs).data.toList.map (fun b => Value.int .u8 b.toNat) = u8s xs := by
    rw [strOfNums_data, List.map_map]
    refine List.map_congr_left fun x hx => ?_
    have := hb x hx
    simp only [Function.comp]
    rw [show (UInt8.ofNat x.toNat).toNat = x.toNat by simp; omega]
    congr 1
    omega
  rw [← strOfNums_size, ← h]
  simp [Builtin.firstCells]
  apply Array.ext'
  simp
theorem big_snoc (n j : Nat) (hj : j < 8) : (big n).take (j + 1) = (big n).take j ++ [(big n).getD j 0] := by
  rw [List.take_succ_eq_append_getElem (by rw [big_len]; exact hj), List.getD_eq_getElem?_getD, List.getElem?_eq_getElem (by rw [big_len]; exact hj), Option.getD_some]
set_option maxRecDepth 100000 in
set_option maxHeartbeats 1600000 in
theorem refBig_any (n : Nat) (hn : n < 18446744073709551616) (w : World) :
    Calls Try.prog 101 #[.int .u64 (n : Int)] w (ResE (snap w) [] w (fun v => v) (fun v => [Row 5 1 v (u8s (big n))])) := by
  have h1 := (St.start w).row_lit 5 1 0 #[] rfl (by decide)
  have en1 := (Env.refl w).alloc (.cells #[] 5)
  go_enter Try.func101, Try.ntmps101
  go_wp2_with fail
  go_loopw [3, 4] (fun s3 s4 wr => ∃ j : Nat, j ≤ 8 ∧ s4 = .int .i64 (7 - (j : Int)) ∧ St (snap w) [Row 5 1 s3 (u8s ((big n).take j))] wr ∧ Env w wr) (fun _ s4 _ => (intOf s4 + 1).toNat)
  case atStart => exact ⟨0, by omega, rfl, h1, en1⟩
  case round =>
    clear h1 en1
    obtain ⟨j, hj, rfl, hst, hen⟩ := hrel
    have hlen : ((big n).take j).length ≤ 8 := by rw [List.length_take, big_len]; omega
    by_cases hlt : j < 8
    · have hg := big_get' n j hlt
      have hsn := Lib.hid (big_snoc n j hlt)
      generalize (big n).getD j 0 = d at *
      have h0 : (0 : Int) ≤ 7 - (j : Int) := by omega
      have h0' : (j : Int) ≤ 7 := by omega
      go_wp2_with (at_builtin; refine wpList_append rfl (.tmp 10) (.tmp 16) 57 57 rfl Try.underlying57 (.inl ⟨_, Try.underlying57⟩) (.int .u8 0) 1 wU8 rfl (by decide) (by decide) rfl rfl (hst.alloc _) (News.newAt _ _ 1 _ _ (by simp) rfl (by simp [Value.oneCell'])) ?apB1 ?apK1)
      case apB1 => first | omega | (simp; omega) | (simp [u8s_len]; omega) | skip
      intro v' w4 h4 en4
      clear hg
      go_wp2_with fail
      go_roundw
      case rel => exact ⟨j + 1, by omega, by go_num, by rw [hsn.out, u8s_append]; exact h4, (hen.alloc _).trans en4⟩
      case measure => simp [intOf]; omega
    · obtain rfl : j = 8 := by omega
      rw [List.take_of_length_le (by rw [big_len]; omega)] at hst
      go_wp2_with fail
      go_ret
      exact ⟨_, rfl, hst, hen⟩
set_option maxRecDepth 100000 in
set_option maxHeartbeats 3200000 in
theorem eight_any (n : Nat) (hn : n < 18446744073709551616) (A : Option Addr) (k c : Nat) (xs : List Int) (w : World) (hx : Rw w 1 (.slice A k c) (u8s xs)) (hxl : xs.length + 20 ≤ 140737488355328) :
    Calls Try.prog 131 #[.slice A k c, .int .u64 (n : Int)] w (ResE (snap w) [] w (fun v => v) (fun v => [Row 5 1 v (u8s (xs ++ big n))])) := by
  have hrw : ∀ {l : List HA} {wr : World}, St (snap w) l wr → Rw wr 1 (.slice A k k) (u8s xs) := fun h => by
    obtain ⟨A', n', c', hv, hl, hc, hM, hcc⟩ := hx.rd.rw h
    cases hv
    exact ⟨A, k, k, rfl, hl, Nat.le_refl _, by simp only [maxLen] at hM ⊢; omega, hcc⟩
  go_enter Try.func131, Try.ntmps131
  go_wp2_with fail
  refine (room_any A k c xs w hx).mono ?_
  rintro e w1 ⟨rfl, rfl⟩
  go_wp2_with fail
  go_loopw [0, 5] (fun s0 s5 wr => ∃ j : Nat, j ≤ 8 ∧ s5 = .int .i64 (56 - 8 * (j : Int)) ∧ Env w wr ∧ ((s0 = .slice A k k ∧ j = 0 ∧ St (snap w) [] wr) ∨ St (snap w) [Row 5 1 s0 (u8s (xs ++ (big n).take j))] wr)) (fun _ s5 _ => (intOf s5 + 8).toNat)
  case atStart => exact ⟨0, by omega, rfl, Env.refl w, .inl ⟨rfl, rfl, St.start w⟩⟩
  case round =>
    obtain ⟨j, hj, rfl, hen, hst⟩ := hrel
    have hlen : ((big n).take j).length ≤ 8 := by rw [List.length_take, big_len]; omega
    rcases hst with ⟨rfl, rfl, hst⟩ | hst
    · have hg : (n : Int) / 72057594037927936 = (big n).getD 0 0 := by simp [big]; omega
      have hsn := Lib.hid (big_snoc n 0 (by decide))
      generalize (big n).getD 0 0 = d at *
      go_wp2_with (at_builtin; refine wpList_append_full rfl (.tmp 12) (.tmp 17) 57 57 rfl Try.underlying57 (.inl ⟨_, Try.underlying57⟩) (.int .u8 0) 1 wU8 rfl (by decide) (by decide) rfl rfl (hst.alloc _) ((hrw hst).alloc _) (News.newAt _ _ 1 _ _ (by simp) rfl (by simp [Value.oneCell'])) (by decide) ?apB2 ?apK2)
      case apB2 => first | omega | (simp [u8s_len]; omega) | skip
      intro v' w4 h4 en4
      clear hg
      go_wp2_with fail
      go_roundw
      case rel => exact ⟨1, by omega, by go_num, (hen.alloc _).trans en4, .inr (by rw [hsn.out, u8s_append]; exact h4)⟩
      case measure => simp [intOf]
    · by_cases hlt : j < 8
      · have hg := big_get n j hlt
        have hsn := Lib.hid (big_snoc n j hlt)
        generalize (big n).getD j 0 = d at *
        have h0 : (0 : Int) ≤ 56 - 8 * (j : Int) := by omega
        have h0' : 8 * (j : Int) ≤ 56 := by omega
        go_wp2_with (at_builtin; refine wpList_append rfl (.tmp 12) (.tmp 17) 57 57 rfl Try.underlying57 (.inl ⟨_, Try.underlying57⟩) (.int .u8 0) 1 wU8 rfl (by decide) (by decide) rfl rfl (hst.alloc _) (News.newAt _ _ 1 _ _ (by simp) rfl (by simp [Value.oneCell'])) ?apB3 ?apK3)
        case apB3 => first | omega | (simp; omega) | (simp [u8s_len]; omega) | skip
        intro v' w4 h4 en4
        clear hg
        go_wp2_with fail
        go_roundw
        case rel => exact ⟨j + 1, by omega, by go_num, (hen.alloc _).trans en4, .inr (by rw [hsn.out, ← List.append_assoc, u8s_append (xs ++ _)]; exact h4)⟩
        case measure => simp [intOf]; omega
      · obtain rfl : j = 8 := by omega
        rw [List.take_of_length_le (by rw [big_len]; omega)] at hst
        go_wp2_with fail
        go_ret
        exact ⟨_, rfl, hst, hen⟩
set_option maxRecDepth 100000 in
set_option maxHeartbeats 1600000 in
theorem seal_any (A : Option Addr) (k c : Nat) (xs : List Int) (hb : Byt xs) (w : World) (hx : Rw w 1 (.slice A k c) (u8s xs)) (hxl : xs.length + 20 ≤ 140737488355328) :
    Calls Try.prog 106 #[.slice A k c] w (ResE (snap w) [] w (fun v => v) (fun v => [Row 5 1 v (u8s (sld xs))])) := by
  go_enter Try.func106, Try.ntmps106
  go_wp2_with fail
  refine (of_any A k c xs hb w hx).mono ?_
  rintro e w1 ⟨rfl, rfl⟩
  go_wp2_with fail
  refine (eight_any (fnv xs) (fnv_lt xs) A k c xs w hx hxl).mono ?_
  rintro e w1 ⟨v, rfl, h1, en1⟩
  go_wp2_with fail
  go_ret
  exact ⟨v, rfl, h1, en1⟩
set_option maxRecDepth 100000 in
set_option maxHeartbeats 1600000 in
theorem refText_any (xs : List Int) (hb : Byt xs) (hxl : xs.length + 20 ≤ 140737488355328) (w : World) :
    Calls Try.prog 100 #[.string (strOfNums xs)] w (ResE (snap w) [] w (fun v => v) (fun v => [Row 5 1 v (u8s (txt xs))])) := by
  have hsz := strOfNums_size xs
  have hu : ((xs.length : Int)) % 18446744073709551616 = (xs.length : Int) := by omega
  have h10 := enc_len10 (n := xs.length) (by omega)
  go_enter Try.func100, Try.ntmps100
  go_wp2_with fail
  refine (refBytes_any xs.length (by omega) w).mono ?_
  rintro e w1 ⟨v, rfl, h1, en1⟩
  go_wp2_with (at_builtin; refine wpList_append rfl (.tmp 6) (.tmp 7) 57 9 rfl Try.underlying57 (.inr Try.underlying9) (.int .u8 0) 1 wU8 rfl (by decide) (by decide) rfl rfl h1 (News.str hb) ?apB ?apK)
  case apB => rw [u8s_len, u8s_len]; omega
  intro v2 w2 h2 en2
  go_wp2_with fail
  go_ret
  exact ⟨v2, rfl, by rw [txt, u8s_append]; exact h2, en1.trans en2⟩
set_option maxRecDepth 100000 in
set_option maxHeartbeats 1600000 in
theorem putText_any (A : Option Addr) (k c : Nat) (ys : List Int) (xs : List Int) (hb : Byt xs) (w : World) (hx : Rw w 1 (.slice A k c) (u8s ys)) (hxl : ys.length + xs.length + 40 ≤ 140737488355328) :
    Calls Try.prog 105 #[.slice A k c, .string (strOfNums xs)] w (ResE (snap w) [] w (fun v => v) (fun v => [Row 5 1 v (u8s (ys ++ txt xs))])) := by
  have hsz := strOfNums_size xs
  have hu : ((xs.length : Int)) % 18446744073709551616 = (xs.length : Int) := by omega
  have h10 := enc_len10 (n := xs.length) (by omega)
  go_enter Try.func105, Try.ntmps105
  go_wp2_with fail
  refine (put_any xs.length (by omega) A k c ys w hx (by omega)).mono ?_
  rintro e w1 ⟨v, rfl, h1, en1⟩
  go_wp2_with (at_builtin; refine wpList_append rfl (.tmp 9) (.tmp 10) 57 9 rfl Try.underlying57 (.inr Try.underlying9) (.int .u8 0) 1 wU8 rfl (by decide) (by decide) rfl rfl h1 (News.str hb) ?apB ?apK)
  case apB => rw [u8s_len, u8s_len, List.length_append]; omega
  intro v2 w2 h2 en2
  go_wp2_with fail
  go_ret
  exact ⟨v2, rfl, by rw [txt, ← List.append_assoc, u8s_append (ys ++ _)]; exact h2, en1.trans en2⟩
end Go.Proofs.Ytmdmekdmlkhchaa
