/- Keys and commands: contracts of cmd.key, cmd.word, cmd.Check and of the reference's Key, Same. -/
import Derived.Test.YtcbckeoalmjcoaaDoorIds
set_option linter.unusedVariables false
set_option linter.unusedSimpArgs false
namespace Go.Proofs.YtcbckeoalmjcoaaDoor
open Go.RowKit Go.Cw
attribute [local go_sem ↓] eql_id neq_id

/-- May a byte stand in a key? -/
def kb (c : UInt8) : Bool := (decide (97 ≤ c.toNat) && decide (c.toNat ≤ 122)) || (decide (48 ≤ c.toNat) && decide (c.toNat ≤ 57))
def kbi (x : Int) : Bool := (decide (97 ≤ x) && decide (x ≤ 122)) || (decide (48 ≤ x) && decide (x ≤ 57))
def keyOk (s : ByteArray) : Bool := s.data.toList.all kb && (decide (1 ≤ s.size) && decide (s.size ≤ 12))
theorem all_drop {k : Nat} (s : ByteArray) (h : k < s.size) : (s.data.toList.drop k).all kb = (kb s[k] && (s.data.toList.drop (k + 1)).all kb) := by
  have h' : k < s.data.toList.length := by simpa using h
  rw [List.drop_eq_getElem_cons h', List.all_cons]
  rfl
theorem kb_eq (c : UInt8) : kb c = kbi c.toNat := by
  unfold kb kbi
  congr 1 <;> congr 1 <;> (apply decide_eq_decide.2; omega)
theorem kb_cases (x : Int) : (kbi x = true ∧ 97 ≤ x ∧ x ≤ 122 ∧ ¬ x < 97 ∧ ¬ 122 < x) ∨ (kbi x = true ∧ 48 ≤ x ∧ x ≤ 57 ∧ x < 97 ∧ ¬ x < 48 ∧ ¬ 57 < x) ∨ (kbi x = false ∧ x < 48 ∧ x < 97) ∨ (kbi x = false ∧ 48 ≤ x ∧ 57 < x ∧ x < 97 ∧ ¬ x ≤ 57) ∨ (kbi x = false ∧ 122 < x ∧ 97 ≤ x ∧ 48 ≤ x ∧ 57 < x ∧ ¬ x ≤ 122 ∧ ¬ x ≤ 57) := by
  unfold kbi
  simp only [Bool.or_eq_true, Bool.and_eq_true, decide_eq_true_eq, Bool.or_eq_false_iff, Bool.and_eq_false_iff, decide_eq_false_iff_not]
  omega
theorem keyOk_no {s : ByteArray} {k : Nat} (h : k < s.size) (ha : s.data.toList.all kb = (s.data.toList.drop k).all kb) (hk : kb s[k] = false) : keyOk s = false := by
  unfold keyOk
  rw [ha, all_drop s h, hk]
  rfl
theorem keyOk_yes {s : ByteArray} (ha : s.data.toList.all kb = (s.data.toList.drop s.size).all kb) : keyOk s = (decide (1 ≤ s.size) && decide (s.size ≤ 12)) := by
  unfold keyOk
  rw [ha, List.drop_eq_nil_of_le (by simp)]
  rfl
set_option maxRecDepth 100000 in
set_option maxHeartbeats 800000 in
theorem refKey_any (s : ByteArray) (w : World) (hs : s.size ≤ 9223372036854775807) :
    Calls Tryd.prog 63 #[.string s] w fun e w' => e = .returned (.bool (keyOk s)) ∧ w = w' := by
  go_enter Tryd.func63, Tryd.ntmps63
  go_wp2_with fail
  go_loopw [3] (fun i wr => ∃ k : Nat, k ≤ s.size ∧ i = .int .i64 k ∧ Hid (s.data.toList.all kb = (s.data.toList.drop k).all kb) ∧ w = wr) (fun i _ => s.size - (intOf i).toNat)
  case atStart => exact ⟨0, Nat.zero_le _, rfl, Lib.hid rfl, rfl⟩
  case round =>
    obtain ⟨k, hk, rfl, HI, rfl⟩ := hrel
    by_cases hlt : k < s.size
    · have HS := Lib.hid (all_drop s hlt)
      have HK := Lib.hid (kb_eq s[k])
      have hat : s.data[k]? = some s[k] := Array.getElem?_eq_getElem hlt
      rcases kb_cases (s[k]).toNat with ⟨h0, h1, h2, h3, h4⟩ | ⟨h0, h1, h2, h3, h4, h5⟩ | ⟨h0, h1, h2⟩ | ⟨h0, h1, h2, h3, h4⟩ | ⟨h0, h1, h2, h3, h4, h5, h6⟩
      · have HN : Hid (s.data.toList.all kb = (s.data.toList.drop (k + 1)).all kb) := Lib.hid (by rw [HI.out, HS.out, HK.out, h0]; rfl)
        go_wp2_with fail
        all_goals
          go_roundw
          case rel => exact ⟨k + 1, by omega, by go_num, HN, by first | rfl | trivial⟩
          case measure => simp [intOf]; omega
      · have HN : Hid (s.data.toList.all kb = (s.data.toList.drop (k + 1)).all kb) := Lib.hid (by rw [HI.out, HS.out, HK.out, h0]; rfl)
        go_wp2_with fail
        all_goals
          go_roundw
          case rel => exact ⟨k + 1, by omega, by go_num, HN, by first | rfl | trivial⟩
          case measure => simp [intOf]; omega
      all_goals
        have HN : Hid (keyOk s = false) := Lib.hid (keyOk_no hlt HI.out (HK.out.trans h0))
        go_wp2_with fail
        go_ret
        exact ⟨rb HN.out.symm, rfl⟩
    · obtain rfl : k = s.size := by omega
      have HN := Lib.hid (keyOk_yes HI.out)
      by_cases h1 : 1 ≤ s.size
      · go_wp2_with fail
        go_ret
        exact ⟨rb (by rw [HN.out]; simp [h1] <;> omega), rfl⟩
      · go_wp2_with fail
        go_ret
        exact ⟨rb (by rw [HN.out]; simp [h1] <;> omega), rfl⟩
set_option maxRecDepth 100000 in
set_option maxHeartbeats 800000 in
theorem key_any (s : ByteArray) (w : World) (hs : s.size ≤ 9223372036854775807) :
    Calls Tryd.prog 87 #[.string s] w fun e w' => e = .returned (.bool (keyOk s)) ∧ Below w.heap.size w w' := by
  have hcv := run_bytes_of_string (P := Tryd.prog) w 9 103 5 s Tryd.underlying9 Tryd.underlying103 Tryd.underlying5
  have hcell : ∀ c k, (hlt : k < s.size) → (w.drew.alloc (.cells (bytesRow s c) 5 ((bytesRow s c).size, (bytesRow s c).size + 1))).cell? ⟨w.heap.size, k, none⟩ = some (.int .u8 (s[k].toNat : Int)) := by
    intro c k hlt
    have h1 := heap_alloc_new w.drew (.cells (bytesRow s c) 5 ((bytesRow s c).size, (bytesRow s c).size + 1))
    have h2 : (bytesRow s c)[k]? = some (.int .u8 (s[k].toNat : Int)) := by
      unfold bytesRow
      rw [Array.getElem?_append_left (by simpa using hlt)]
      simp [Array.getElem?_eq_getElem (show k < s.data.size from hlt)]
      rfl
    unfold World.cell?
    have h3 : (w.drew.alloc (.cells (bytesRow s c) 5 ((bytesRow s c).size, (bytesRow s c).size + 1))).heap[w.heap.size]? = _ := h1
    rw [h3]
    exact h2
  have hbel : ∀ c, Below w.heap.size w (w.drew.alloc (.cells (bytesRow s c) 5 ((bytesRow s c).size, (bytesRow s c).size + 1))) := fun c => (Below.refl _ w).drew.alloc (Nat.le_refl _) _
  have hcap : s.size ≤ grownCap w s.size 0 5 := grownCap_ge _ _ _ _
  generalize grownCap w s.size 0 5 = c at *
  have hcell := hcell c
  have hbel := hbel c
  generalize (w.drew.alloc (.cells (bytesRow s c) 5 ((bytesRow s c).size, (bytesRow s c).size + 1))) = w1 at *
  go_enter Tryd.func87, Tryd.ntmps87
  go_wp2_with fail
  go_loopw [8] (fun i wr => ∃ k : Nat, k ≤ s.size ∧ i = .int .i64 k ∧ Hid (s.data.toList.all kb = (s.data.toList.drop k).all kb) ∧ w1 = wr) (fun i _ => s.size - (intOf i).toNat)
  case atStart => exact ⟨0, Nat.zero_le _, rfl, Lib.hid rfl, rfl⟩
  case round =>
    obtain ⟨k, hk, rfl, HI, rfl⟩ := hrel
    by_cases hlt : k < s.size
    · have HS := Lib.hid (all_drop s hlt)
      have HK := Lib.hid (kb_eq s[k])
      have hat := hcell k hlt
      rcases kb_cases (s[k]).toNat with ⟨h0, h1, h2, h3, h4⟩ | ⟨h0, h1, h2, h3, h4, h5⟩ | ⟨h0, h1, h2⟩ | ⟨h0, h1, h2, h3, h4⟩ | ⟨h0, h1, h2, h3, h4, h5, h6⟩
      · have HN : Hid (s.data.toList.all kb = (s.data.toList.drop (k + 1)).all kb) := Lib.hid (by rw [HI.out, HS.out, HK.out, h0]; rfl)
        go_wp2_with fail
        all_goals
          go_roundw
          case rel => exact ⟨k + 1, by omega, by go_num, HN, by first | rfl | trivial⟩
          case measure => simp [intOf]; omega
      · have HN : Hid (s.data.toList.all kb = (s.data.toList.drop (k + 1)).all kb) := Lib.hid (by rw [HI.out, HS.out, HK.out, h0]; rfl)
        go_wp2_with fail
        all_goals
          go_roundw
          case rel => exact ⟨k + 1, by omega, by go_num, HN, by first | rfl | trivial⟩
          case measure => simp [intOf]; omega
      all_goals
        have HN : Hid (keyOk s = false) := Lib.hid (keyOk_no hlt HI.out (HK.out.trans h0))
        go_wp2_with fail
        go_ret
        exact ⟨rb HN.out.symm, hbel⟩
    · obtain rfl : k = s.size := by omega
      have HN := Lib.hid (keyOk_yes HI.out)
      by_cases h1 : 1 ≤ s.size
      · go_wp2_with fail
        go_ret
        exact ⟨rb (by rw [HN.out]; simp [h1] <;> omega), hbel⟩
      · go_wp2_with fail
        go_ret
        exact ⟨rb (by rw [HN.out]; simp [h1] <;> omega), hbel⟩
end Go.Proofs.YtcbckeoalmjcoaaDoor
