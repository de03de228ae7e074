/- Joined texts: Cmd, Float, Flt, Real, Cmds. -/
import Ieee.Arith
import Derived.Test.YtelmhcbdpimaaaaVA1
/- Keys and commands: contracts of cmd.key, cmd.word, cmd.Check and of the reference's Key, Same. -/
set_option linter.unusedVariables false
set_option linter.unusedSimpArgs false
namespace Go.Proofs.Ytelmhcbdpimaaaa
open Go.RowKit Go.Cw
attribute [local go_sem ↓] eql_id neq_id

/-- May a byte stand in a key? -/
def kb (c : UInt8) : Bool := (decide (97 ≤ c.toNat) && decide (c.toNat ≤ 122)) || (decide (48 ≤ c.toNat) && decide (c.toNat ≤ 57))
def kbi (x : Int) : Bool := (decide (97 ≤ x) && decide (x ≤ 122)) || (decide (48 ≤ x) && decide (x ≤ 57))
def keyOk (s : ByteArray) : Bool := s.data.toList.all kb && (decide (1 ≤ s.size) && decide (s.size ≤ 12))
theorem all_drop {k : Nat} (s : ByteArray) (h : k < s.size) : (s.data.toList.drop k).all kb = (kb s[k] && (s.data.toList.drop (k + 1)).all kb) := by
  have h' : k < s.data.toList.length := by simpa using h
  rw [List.drop_eq_getElem_cons h', List.all_cons]
  rfl
theorem kb_eq (c : UInt8) : kb c = kbi c.toNat := by
  unfold kb kbi
  congr 1 <;> congr 1 <;> (apply decide_eq_decide.2; omega)
theorem kb_cases (x : Int) : (kbi x = true ∧ 97 ≤ x ∧ x ≤ 122 ∧ ¬ x < 97 ∧ ¬ 122 < x) ∨ (kbi x = true ∧ 48 ≤ x ∧ x ≤ 57 ∧ x < 97 ∧ ¬ x < 48 ∧ ¬ 57 < x) ∨ (kbi x = false ∧ x < 48 ∧ x < 97) ∨ (kbi x = false ∧ 48 ≤ x ∧ 57 < x ∧ x < 97 ∧ ¬ x ≤ 57) ∨ (kbi x = false ∧ 122 < x ∧ 97 ≤ x ∧ 48 ≤ x ∧ 57 < x ∧ ¬ x ≤ 122 ∧ ¬ x ≤ 57) := by
  unfold kbi
  simp only [Bool.or_eq_true, Bool.and_eq_true, decide_eq_true_eq, Bool.or_eq_false_iff, Bool.and_eq_false_iff, decide_eq_false_iff_not]
  omega
theorem keyOk_no {s : ByteArray} {k : Nat} (h : k < s.size) (ha : s.data.toList.all kb = (s.data.toList.drop k).all kb) (hk : kb s[k] = false) : keyOk s = false := by
  unfold keyOk
  rw [ha, all_drop s h, hk]
  rfl
theorem keyOk_yes {s : ByteArray} (ha : s.data.toList.all kb = (s.data.toList.drop s.size).all kb) : keyOk s = (decide (1 ≤ s.size) && decide (s.size ≤ 12)) := by
  unfold keyOk
  rw [ha, List.drop_eq_nil_of_le (by simp)]
  rfl
set_option maxRecDepth 100000 in
set_option maxHeartbeats 800000 in
theorem refKey_any (s : ByteArray) (w : World) (hs : s.size ≤ 9223372036854775807) :
    Calls Try.prog 105 #[.string s] w fun e w' => e = .returned (.bool (keyOk s)) ∧ w = w' := by
  go_enter Try.func105, Try.ntmps105
  go_wp2_with fail
  go_loopw [3] (fun i wr => ∃ k : Nat, k ≤ s.size ∧ i = .int .i64 k ∧ Hid (s.data.toList.all kb = (s.data.toList.drop k).all kb) ∧ w = wr) (fun i _ => s.size - (intOf i).toNat)
  case atStart => exact ⟨0, Nat.zero_le _, rfl, Lib.hid rfl, rfl⟩
  case round =>
    obtain ⟨k, hk, rfl, HI, rfl⟩ := hrel
    by_cases hlt : k < s.size
    · have HS := Lib.hid (all_drop s hlt)
      have HK := Lib.hid (kb_eq s[k])
      have hat : s.data[k]? = some s[k] := Array.getElem?_eq_getElem hlt
      rcases kb_cases (s[k]).toNat with ⟨h0, h1, h2, h3, h4⟩ | ⟨h0, h1, h2, h3, h4, h5⟩ | ⟨h0, h1, h2⟩ | ⟨h0, h1, h2, h3, h4⟩ | ⟨h0, h1, h2, h3, h4, h5, h6⟩
      · have HN : Hid (s.data.toList.all kb = (s.data.toList.drop (k + 1)).all kb) := Lib.hid (by rw [HI.out, HS.out, HK.out, h0]; rfl)
        go_wp2_with fail
        all_goals
          go_roundw
          case rel => exact ⟨k + 1, by omega, by go_num, HN, by first | rfl | trivial⟩
          case measure => simp [intOf]; omega
      · have HN : Hid (s.data.toList.all kb = (s.data.toList.drop (k + 1)).all kb) := Lib.hid (by rw [HI.out, HS.out, HK.out, h0]; rfl)
        go_wp2_with fail
        all_goals
          go_roundw
          case rel => exact ⟨k + 1, by omega, by go_num, HN, by first | rfl | trivial⟩
          case measure => simp [intOf]; omega
      all_goals
        have HN : Hid (keyOk s = false) := Lib.hid (keyOk_no hlt HI.out (HK.out.trans h0))
        go_wp2_with fail
        go_ret
        exact ⟨rb HN.out.symm, rfl⟩
    · obtain rfl : k = s.size := by omega
      have HN := Lib.hid (keyOk_yes HI.out)
      by_cases h1 : 1 ≤ s.size
      · go_wp2_with fail
        go_ret
        exact ⟨rb (by rw [HN.out]; simp [h1] <;> omega), rfl⟩
      · go_wp2_with fail
        go_ret
        exact ⟨rb (by rw [HN.out]; simp [h1] <;> omega), rfl⟩
set_option maxRecDepth 100000 in
set_option maxHeartbeats 800000 in
theorem key_any (s : ByteArray) (w : World) (hs : s.size ≤ 9223372036854775807) :
    Calls Try.prog 128 #[.string s] w fun e w' => e = .returned (.bool (keyOk s)) ∧ Below w.heap.size w w' := by
  have hcv := run_bytes_of_string (P := Try.prog) w 9 66 5 s Try.underlying9 Try.underlying66 Try.underlying5
  have hcell : ∀ c k, (hlt : k < s.size) → (w.drew.alloc (.cells (bytesRow s c) 5 ((bytesRow s c).size, (bytesRow s c).size + 1))).cell? ⟨w.heap.size, k, none⟩ = some (.int .u8 (s[k].toNat : Int)) := by
    intro c k hlt
    have h1 := heap_alloc_new w.drew (.cells (bytesRow s c) 5 ((bytesRow s c).size, (bytesRow s c).size + 1))
    have h2 : (bytesRow s c)[k]? = some (.int .u8 (s[k].toNat : Int)) := by
      unfold bytesRow
      rw [Array.getElem?_append_left (by simpa using hlt)]
      simp [Array.getElem?_eq_getElem (show k < s.data.size from hlt)]
      rfl
    unfold World.cell?
    have h3 : (w.drew.alloc (.cells (bytesRow s c) 5 ((bytesRow s c).size, (bytesRow s c).size + 1))).heap[w.heap.size]? = _ := h1
    rw [h3]
    exact h2
  have hbel : ∀ c, Below w.heap.size w (w.drew.alloc (.cells (bytesRow s c) 5 ((bytesRow s c).size, (bytesRow s c).size + 1))) := fun c => (Below.refl _ w).drew.alloc (Nat.le_refl _) _
  have hcap : s.size ≤ grownCap w s.size 0 5 := grownCap_ge _ _ _ _
  generalize grownCap w s.size 0 5 = c at *
  have hcell := hcell c
  have hbel := hbel c
  generalize (w.drew.alloc (.cells (bytesRow s c) 5 ((bytesRow s c).size, (bytesRow s c).size + 1))) = w1 at *
  go_enter Try.func128, Try.ntmps128
  go_wp2_with fail
  go_loopw [8] (fun i wr => ∃ k : Nat, k ≤ s.size ∧ i = .int .i64 k ∧ Hid (s.data.toList.all kb = (s.data.toList.drop k).all kb) ∧ w1 = wr) (fun i _ => s.size - (intOf i).toNat)
  case atStart => exact ⟨0, Nat.zero_le _, rfl, Lib.hid rfl, rfl⟩
  case round =>
    obtain ⟨k, hk, rfl, HI, rfl⟩ := hrel
    by_cases hlt : k < s.size
    · have HS := Lib.hid (all_drop s hlt)
      have HK := Lib.hid (kb_eq s[k])
      have hat := hcell k hlt
      rcases kb_cases (s[k]).toNat with ⟨h0, h1, h2, h3, h4⟩ | ⟨h0, h1, h2, h3, h4, h5⟩ | ⟨h0, h1, h2⟩ | ⟨h0, h1, h2, h3, h4⟩ | ⟨h0, h1, h2, h3, h4, h5, h6⟩
      · have HN : Hid (s.data.toList.all kb = (s.data.toList.drop (k + 1)).all kb) := Lib.hid (by rw [HI.out, HS.out, HK.out, h0]; rfl)
        go_wp2_with fail
        all_goals
          go_roundw
          case rel => exact ⟨k + 1, by omega, by go_num, HN, by first | rfl | trivial⟩
          case measure => simp [intOf]; omega
      · have HN : Hid (s.data.toList.all kb = (s.data.toList.drop (k + 1)).all kb) := Lib.hid (by rw [HI.out, HS.out, HK.out, h0]; rfl)
        go_wp2_with fail
        all_goals
          go_roundw
          case rel => exact ⟨k + 1, by omega, by go_num, HN, by first | rfl | trivial⟩
          case measure => simp [intOf]; omega
      all_goals
        have HN : Hid (keyOk s = false) := Lib.hid (keyOk_no hlt HI.out (HK.out.trans h0))
        go_wp2_with fail
        go_ret
        exact ⟨rb HN.out.symm, hbel⟩
    · obtain rfl : k = s.size := by omega
      have HN := Lib.hid (keyOk_yes HI.out)
      by_cases h1 : 1 ≤ s.size
      · go_wp2_with fail
        go_ret
        exact ⟨rb (by rw [HN.out]; simp [h1] <;> omega), hbel⟩
      · go_wp2_with fail
        go_ret
        exact ⟨rb (by rw [HN.out]; simp [h1] <;> omega), hbel⟩
end Go.Proofs.Ytelmhcbdpimaaaa

/- Numbers: contracts of real.Same and of the reference's Nan, Same at what chains need. -/
set_option linter.unusedVariables false
set_option linter.unusedSimpArgs false
namespace Go.Proofs.Ytelmhcbdpimaaaa
open Go.RowKit Go.Cw
/-- A box: a new block that stays as it is. -/
theorem _root_.Go.Cw.St.box {H : Hp} {l : List HA} {w : World} (h : St H l w) (cs : Array Value) (t : TypeId) : ∃ H', Hp.le H H' ∧ St H' l (w.alloc (.cells cs t)) ∧ ∀ i u, cs[i]? = some u → H'.cell w.heap.size i = some u :=
  ⟨_, h.keep_le _, h.keep _, fun i u hu => by
    have := Hp.put_same H w.heap.size (.cells cs t)
    simp [Hp.cell, this, hu]⟩
theorem _root_.Go.Cw.News.newAt {P : Program} {sz : Nat} (w : World) (e : TypeId) (n : Nat) (cs : Array Value) (g : Nat) (hg : g = w.heap.size) (hl : cs.size = n * sz) (h1 : ∀ u ∈ cs.toList, u.oneCell' = true) : News P (w.alloc (.cells cs e)) sz (.slice (some ⟨g, 0, none⟩) n n) n cs.toList := by
  subst hg
  exact News.new w e n cs hl h1
theorem _root_.Go.Cw.St.row_litAt {H : Hp} {l : List HA} {w : World} (h : St H l w) (e : TypeId) (sz n : Nat) (cs : Array Value) (g : Nat) (hg : g = w.heap.size) (hl : cs.size = n * sz) (hM : n ≤ maxLen) : St H (Row e sz (.slice (some ⟨g, 0, none⟩) n n) cs.toList :: l) (w.alloc (.cells cs e)) := by
  subst hg
  exact h.row_lit e sz n cs hl hM
theorem f64bits (b : Nat) (w : World) : (callFunc 161 #[.float .f64 b]).run Try.prog w = .ok (.value (.int .u64 b)) w := by kernel_rfl
theorem f64from (n : Int) (w : World) : (callFunc 163 #[.int .u64 n]).run Try.prog w = .ok (.value (.float .f64 n.toNat)) w := by kernel_rfl
attribute [local go_sem ↓] f64bits f64from
/-- The bits of a number, of any NaN those of one. -/
def bitsOf (b : Nat) : Nat := if FloatKind.f64.format.order b b != some Ordering.eq then 9221120237041090561 else b
theorem bitsOf_zero (b : Nat) : bitsOf b = 0 ↔ b = 0 := by
  unfold bitsOf
  split
  · rename_i h
    constructor
    · intro h'; cases h'
    · intro h'
      subst h'
      exact absurd h (by decide +kernel)
  · exact Iff.rfl
set_option maxRecDepth 100000 in
theorem canon_any (b : Nat) (w : World) : Calls Try.prog 162 #[.float .f64 b] w fun e w' => e = .returned (.float .f64 (bitsOf b)) ∧ w = w' := by
  by_cases h : (FloatKind.f64.format.order b b != some Ordering.eq) = true
  · have HB : Hid (bitsOf b = 9221120237041090561) := Lib.hid (if_pos h)
    go_enter Try.func162, Try.ntmps162
    go_wp2_with fail
    go_ret
    exact ⟨congrArg (fun x => Ending.returned (Value.float FloatKind.f64 x)) HB.out.symm, rfl⟩
  · have HB : Hid (bitsOf b = b) := Lib.hid (if_neg h)
    have h := Bool.eq_false_iff.2 h
    go_enter Try.func162, Try.ntmps162
    go_wp2_with fail
    go_ret
    exact ⟨congrArg (fun x => Ending.returned (Value.float FloatKind.f64 x)) HB.out.symm, rfl⟩
set_option maxRecDepth 100000 in
theorem bits_any (b : Nat) (w : World) : Calls Try.prog 159 #[.float .f64 b] w fun e w' => e = .returned (.int .u64 (bitsOf b)) ∧ w = w' := by
  go_enter Try.func159, Try.ntmps159
  go_wp2_with (go_at_call 162; refine (canon_any _ _).mono ?_; rintro e w1 ⟨rfl, rfl⟩)
  go_ret
  exact ⟨rfl, rfl⟩
set_option maxRecDepth 100000 in
theorem realSame_any (a b : Nat) (w : World) : Calls Try.prog 152 #[.float .f64 a, .float .f64 b] w fun e w' => e = .returned (.bool (decide (bitsOf a = bitsOf b))) ∧ w = w' := by
  go_enter Try.func152, Try.ntmps152
  go_wp2_with (go_at_call 159; refine (bits_any _ _).mono ?_; rintro e w1 ⟨rfl, rfl⟩)
  go_ret
  exact ⟨rb (by by_cases h : bitsOf a = bitsOf b <;> simp [h]; omega), rfl⟩
set_option maxRecDepth 100000 in
theorem plus_any (b : Nat) (w : World) : Calls Try.prog 129 #[.float .f64 b] w fun e w' => e = .returned (.bool (decide (b = 0))) ∧ w = w' := by
  go_enter Try.func129, Try.ntmps129
  go_wp2_with (go_at_call 152; refine (realSame_any _ _ _).mono ?_; rintro e w1 ⟨rfl, rfl⟩)
  go_ret
  refine ⟨rb (decide_eq_decide.2 ?_), rfl⟩
  have h0 : bitsOf 0 = 0 := (bitsOf_zero 0).2 rfl
  rw [h0, bitsOf_zero]
set_option maxRecDepth 100000 in
theorem nan_any (b : Nat) (w : World) : Calls Try.prog 133 #[.float .f64 b] w fun e w' => e = .returned (.bool (FloatKind.f64.format.order b b != some Ordering.eq)) ∧ w = w' := by
  go_enter Try.func133, Try.ntmps133
  go_wp2_with fail
  go_ret
  exact ⟨rfl, rfl⟩
set_option maxRecDepth 100000 in
theorem refSame_one (w : World) : Calls Try.prog 126 #[.float .f64 4607182418800017408, .float .f64 4607182418800017408] w fun e w' => e = .returned (.bool true) ∧ w = w' := by
  have h1 : (FloatKind.f64.format.order 4607182418800017408 4607182418800017408 != some Ordering.eq) = false := by decide +kernel
  have h2 : (FloatKind.f64.format.order 4607182418800017408 0 == some Ordering.eq) = false := by decide +kernel
  have h3 : (FloatKind.f64.format.order 4607182418800017408 4607182418800017408 == some Ordering.eq) = true := by decide +kernel
  go_enter Try.func126, Try.ntmps126
  go_wp2_with (go_at_call 133; refine (nan_any _ _).mono ?_; rintro e w1 ⟨rfl, rfl⟩; rw [h1])
  go_ret
  exact ⟨rfl, rfl⟩
theorem belAlloc (w : World) (o : Obj) : Below w.heap.size w (w.alloc o) := (Below.refl _ _).alloc (Nat.le_refl _) _
/-- A kind's word. -/
def wordOf (k : Int) : ByteArray := if k = 1 then ⟨#[103, 101, 116]⟩ else if k = 2 then ⟨#[112, 117, 116]⟩ else if k = 3 then ⟨#[100, 101, 108]⟩ else if k = 4 then ⟨#[97, 100, 100]⟩ else ⟨#[]⟩
set_option maxRecDepth 100000 in
theorem word_any (k : Int) (w : World) : Calls Try.prog 127 #[.int .i64 k] w fun e w' => e = .returned (.string (wordOf k)) ∧ Below w.heap.size w w' := by
  by_cases h0 : k < 0
  · have hw : Hid (wordOf k = ⟨#[]⟩) := Lib.hid (by unfold wordOf; rw [if_neg (by omega), if_neg (by omega), if_neg (by omega), if_neg (by omega)])
    go_enter Try.func127, Try.ntmps127
    go_wp2_with fail
    go_ret
    exact ⟨congrArg (fun x => Ending.returned (Value.string x)) hw.out.symm, belAlloc w _⟩
  · by_cases h5 : 5 ≤ k
    · have hw : Hid (wordOf k = ⟨#[]⟩) := Lib.hid (by unfold wordOf; rw [if_neg (by omega), if_neg (by omega), if_neg (by omega), if_neg (by omega)])
      go_enter Try.func127, Try.ntmps127
      go_wp2_with fail
      go_ret
      exact ⟨congrArg (fun x => Ending.returned (Value.string x)) hw.out.symm, belAlloc w _⟩
    · have hk : k = 0 ∨ k = 1 ∨ k = 2 ∨ k = 3 ∨ k = 4 := by omega
      rcases hk with rfl | rfl | rfl | rfl | rfl
      all_goals
        go_enter Try.func127, Try.ntmps127
        go_wp2_with fail
        go_ret
        exact ⟨rfl, belAlloc w _⟩
end Go.Proofs.Ytelmhcbdpimaaaa

/- Floating point words: when two are equal, when one is nought: plain lemmas, of no program. -/
set_option linter.unusedVariables false
set_option linter.unusedSimpArgs false
namespace Go.Fl
open Ieee
def B : Nat := 4503599627370496
def top : Nat := 9218868437227405312
def half : Nat := 9223372036854775808
theorem B_eq : Ieee.double.binade = B := rfl
theorem top_eq : Ieee.double.infRung = top := rfl
theorem half_eq : Ieee.double.signWeight = half := rfl
def rung (b : Nat) : Nat := b % half
def neg (b : Nat) : Bool := b / half % 2 == 1
def mag (r : Nat) : Nat := if r < B then r else B + r % B
def plc (r : Nat) : Nat := if r < B then 0 else r / B - 1
/-- The number of a rung, in units of the least. -/
def V (r : Nat) : Nat := mag r * 2 ^ plc r
theorem read_num {b : Nat} (h : rung b < top) : Ieee.double.read b = .number (neg b) (mag (rung b)) (-1074 + plc (rung b)) := by
  unfold Ieee.Format.read
  simp only [B_eq, top_eq, half_eq]
  change (if rung b < B then Datum.number (neg b) (rung b) _ else if rung b < top then _ else _) = _
  unfold mag plc
  by_cases h1 : rung b < B
  · rw [if_pos h1, if_pos h1, if_pos h1]; rfl
  · rw [if_neg h1, if_pos h, if_neg h1, if_neg h1]; rfl
theorem read_inf {b : Nat} (h : rung b = top) : Ieee.double.read b = .infinity (neg b) := by
  unfold Ieee.Format.read
  simp only [B_eq, top_eq, half_eq]
  change (if rung b < B then _ else if rung b < top then _ else if rung b = top then _ else _) = _
  rw [if_neg (by rw [h]; decide), if_neg (by omega), if_pos h]; rfl
theorem read_nan {b : Nat} (h : top < rung b) : Ieee.double.read b = .nan (neg b) (rung b - top) := by
  unfold Ieee.Format.read
  simp only [B_eq, top_eq, half_eq]
  change (if rung b < B then _ else if rung b < top then _ else if rung b = top then _ else _) = _
  rw [if_neg (by have : B < top := by decide
                 omega), if_neg (by omega), if_neg (by omega)]; rfl
theorem V_lt (r : Nat) : V r < B * 2 ^ (r / B) ∧ (B ≤ r → B * 2 ^ (r / B - 1) ≤ V r) ∧ (r < B → V r = r) := by
  unfold V mag plc
  by_cases h : r < B
  · simp only [if_pos h, Nat.pow_zero, Nat.mul_one]
    refine ⟨?_, fun h' => by omega, fun _ => trivial⟩
    rw [Nat.div_eq_of_lt h, Nat.pow_zero, Nat.mul_one]; exact h
  · simp only [if_neg h]
    have hB : 0 < B := by decide
    have hd : 1 ≤ r / B := (Nat.one_le_div_iff hB).2 (by omega)
    refine ⟨?_, fun _ => Nat.mul_le_mul_right _ (by omega), fun h' => absurd h' h⟩
    have h1 : B + r % B < B * 2 := by have := Nat.mod_lt r hB; omega
    have h2 : 2 ^ (r / B) = 2 * 2 ^ (r / B - 1) := by
      obtain ⟨e, he⟩ : ∃ e, r / B = e + 1 := ⟨r / B - 1, by omega⟩
      rw [he, Nat.pow_succ, Nat.add_sub_cancel, Nat.mul_comm]
    rw [h2, ← Nat.mul_assoc]
    exact Nat.mul_lt_mul_of_pos_right h1 (Nat.two_pow_pos _)
theorem V_inj_lt {r s : Nat} (h : r < s) : V r < V s := by
  have hB : 0 < B := by decide
  by_cases hs : s < B
  · rw [(V_lt r).2.2 (by omega), (V_lt s).2.2 hs]; exact h
  · by_cases hr : r < B
    · refine Nat.lt_of_lt_of_le (V_lt r).1 ?_
      rw [Nat.div_eq_of_lt hr, Nat.pow_zero, Nat.mul_one]
      refine Nat.le_trans ?_ ((V_lt s).2.1 (by omega))
      exact Nat.le_mul_of_pos_right _ (Nat.two_pow_pos _)
    · rcases Nat.lt_or_ge (r / B) (s / B) with hd | hd
      · refine Nat.lt_of_lt_of_le (V_lt r).1 (Nat.le_trans ?_ ((V_lt s).2.1 (by omega)))
        exact Nat.mul_le_mul_left _ (Nat.pow_le_pow_right (by decide) (by omega))
      · have he : r / B = s / B := Nat.le_antisymm (Nat.div_le_div_right (Nat.le_of_lt h)) hd
        unfold V mag plc
        rw [if_neg hs, if_neg hr, if_neg hs, if_neg hr, he]
        refine Nat.mul_lt_mul_of_pos_right ?_ (Nat.two_pow_pos _)
        have h1 := Nat.div_add_mod r B
        have h2 := Nat.div_add_mod s B
        rw [he] at h1
        omega
theorem V_inj {r s : Nat} (h : V r = V s) : r = s := by
  rcases Nat.lt_trichotomy r s with h1 | h1 | h1
  · have := V_inj_lt h1; omega
  · exact h1
  · have := V_inj_lt h1; omega
theorem V_zero {r : Nat} : V r = 0 ↔ r = 0 := by
  constructor
  · intro h
    refine V_inj (h.trans ?_)
    exact ((V_lt 0).2.2 (by decide)).symm
  · rintro rfl; exact (V_lt 0).2.2 (by decide)
/-- A number as an integer, in units of the least. -/
def IV (b : Nat) : Int := if neg b then -((V (rung b) : Nat) : Int) else ((V (rung b) : Nat) : Int)
theorem signed_mul (s : Bool) (m i k : Nat) : signed s m i * ((2 ^ k : Nat) : Int) = if s then -((m * 2 ^ (i + k) : Nat) : Int) else ((m * 2 ^ (i + k) : Nat) : Int) := by
  have h : (m <<< i) * 2 ^ k = m * 2 ^ (i + k) := by rw [Nat.shiftLeft_eq, Nat.mul_assoc, ← Nat.pow_add]
  unfold signed
  cases s
  · simp only [Bool.false_eq_true, if_false]; rw [← h]; push_cast; rfl
  · simp only [if_true]; rw [← h]; push_cast; rw [Int.neg_mul]
theorem cmp_num (s t : Bool) (m n p q : Nat) : (Datum.number s m (-1074 + (p : Int))).order (Datum.number t n (-1074 + (q : Int))) = some (compare (if s then -((m * 2 ^ p : Nat) : Int) else ((m * 2 ^ p : Nat) : Int)) (if t then -((n * 2 ^ q : Nat) : Int) else ((n * 2 ^ q : Nat) : Int))) := by
  unfold Datum.order
  simp only
  congr 1
  have hmin : min (-1074 + (p : Int)) (-1074 + (q : Int)) = -1074 + ((min p q : Nat) : Int) := by omega
  rw [hmin]
  have h1 : ((-1074 + (p : Int)) - (-1074 + ((min p q : Nat) : Int))).toNat = p - min p q := by omega
  have h2 : ((-1074 + (q : Int)) - (-1074 + ((min p q : Nat) : Int))).toNat = q - min p q := by omega
  rw [h1, h2]
  have e1 := signed_mul s m (p - min p q) (min p q)
  have e2 := signed_mul t n (q - min p q) (min p q)
  rw [show p - min p q + min p q = p by omega] at e1
  rw [show q - min p q + min p q = q by omega] at e2
  rw [← e1, ← e2]
  have hp : (0 : Int) < ((2 ^ min p q : Nat) : Int) := by exact_mod_cast Nat.two_pow_pos _
  generalize signed s m (p - min p q) = x
  generalize signed t n (q - min p q) = y
  generalize ((2 ^ min p q : Nat) : Int) = z at hp
  simp only [compare, compareOfLessAndEq]
  have a1 : (x * z < y * z) ↔ x < y := ⟨fun h => Int.lt_of_mul_lt_mul_right h (Int.le_of_lt hp), fun h => Int.mul_lt_mul_of_pos_right h hp⟩
  have a2 : (x * z = y * z) ↔ x = y := ⟨fun h => Int.eq_of_mul_eq_mul_right (by omega) h, fun h => by rw [h]⟩
  by_cases h : x < y
  · rw [if_pos h, if_pos (a1.2 h)]
  · rw [if_neg h, if_neg (fun h' => h (a1.1 h'))]
    by_cases h' : x = y
    · rw [if_pos h', if_pos (a2.2 h')]
    · rw [if_neg h', if_neg (fun h'' => h' (a2.1 h''))]
def isNan (b : Nat) : Bool := decide (top < rung b)
theorem order_num {a b : Nat} (ha : rung a < top) (hb : rung b < top) : Ieee.double.order a b = some (compare (IV a) (IV b)) := by
  unfold Format.order
  rw [read_num ha, read_num hb, cmp_num]
  rfl
theorem order_nan_l {a b : Nat} (ha : top < rung a) : Ieee.double.order a b = none := by
  unfold Format.order
  rw [read_nan ha]
  rfl
theorem order_nan_r {a b : Nat} (hb : top < rung b) : Ieee.double.order a b = none := by
  unfold Format.order
  rw [read_nan hb]
  cases Ieee.double.read a <;> rfl
theorem rung_neg {a b : Nat} (ha : a < 18446744073709551616) (hb : b < 18446744073709551616) (h1 : rung a = rung b) (h2 : neg a = neg b) : a = b := by
  unfold rung neg half at *
  have h3 : (a / 9223372036854775808 % 2 = 1) ↔ (b / 9223372036854775808 % 2 = 1) := by
    constructor
    · intro h; have := h2 ▸ (beq_iff_eq.2 h); exact beq_iff_eq.1 this
    · intro h; have := h2.symm ▸ (beq_iff_eq.2 h); exact beq_iff_eq.1 this
  omega
/-- Two words stand for the same number. -/
theorem order_eq {a b : Nat} (ha : a < 18446744073709551616) (hb : b < 18446744073709551616) : Ieee.double.order a b = some .eq ↔ isNan a = false ∧ isNan b = false ∧ (a = b ∨ (rung a = 0 ∧ rung b = 0)) := by
  have htop : 0 < top := by decide
  unfold isNan
  rcases Nat.lt_trichotomy (rung a) top with h1 | h1 | h1
  · rcases Nat.lt_trichotomy (rung b) top with h2 | h2 | h2
    · rw [order_num h1, decide_eq_false (by omega), decide_eq_false (by omega)]
      · simp only [Option.some.injEq, true_and]
        rw [show (compare (IV a) (IV b) = .eq) ↔ IV a = IV b from by simp [compare, compareOfLessAndEq]; split <;> simp_all <;> omega]
        unfold IV
        constructor
        · intro h
          cases ea : neg a <;> cases eb : neg b <;> simp only [ea, eb, Bool.false_eq_true, if_false, if_true] at h
          · exact .inl (rung_neg ha hb (V_inj (by omega)) (by rw [ea, eb]))
          · exact .inr ⟨V_zero.1 (by omega), V_zero.1 (by omega)⟩
          · exact .inr ⟨V_zero.1 (by omega), V_zero.1 (by omega)⟩
          · exact .inl (rung_neg ha hb (V_inj (by omega)) (by rw [ea, eb]))
        · rintro (rfl | ⟨h3, h4⟩)
          · rfl
          · rw [h3, h4, V_zero.2 rfl]; split <;> split <;> rfl
      · exact h2
    · have : Ieee.double.order a b ≠ some .eq := by
        unfold Format.order
        rw [read_num h1, read_inf h2]
        unfold Datum.order
        simp only
        split <;> simp
      constructor
      · intro h; exact absurd h this
      · rintro ⟨_, _, (rfl | ⟨h3, h4⟩)⟩ <;> omega
    · rw [order_nan_r h2, decide_eq_true h2]; simp
  · rcases Nat.lt_trichotomy (rung b) top with h2 | h2 | h2
    · have : Ieee.double.order a b ≠ some .eq := by
        unfold Format.order
        rw [read_num h2, read_inf h1]
        unfold Datum.order
        simp only
        split <;> simp
      constructor
      · intro h; exact absurd h this
      · rintro ⟨_, _, (rfl | ⟨h3, h4⟩)⟩ <;> omega
    · rw [decide_eq_false (by omega), decide_eq_false (by omega)]
      unfold Format.order
      rw [read_inf h1, read_inf h2]
      unfold Datum.order
      simp only [true_and]
      constructor
      · intro h
        refine .inl (rung_neg ha hb (by omega) ?_)
        cases ea : neg a <;> cases eb : neg b <;> rw [ea, eb] at h <;> first | rfl | (revert h; decide)
      · rintro (rfl | ⟨h3, h4⟩)
        · cases neg a <;> rfl
        · omega
    · rw [order_nan_r h2, decide_eq_true h2]; simp
  · rw [order_nan_l h1, decide_eq_true h1]; simp
end Go.Fl

/- Numbers: the reference's sameness and kinds, at every number. -/
set_option linter.unusedVariables false
set_option linter.unusedSimpArgs false
namespace Go.Proofs.Ytelmhcbdpimaaaa
open Go.RowKit Go.Cw Go.Fl
theorem fmt_eq : FloatKind.f64.format = Ieee.double := rfl
theorem nan_eq {b : Nat} (hb : b < 18446744073709551616) : (FloatKind.f64.format.order b b != some Ordering.eq) = isNan b := by
  rw [fmt_eq]
  cases h : isNan b with
  | true =>
    have : Ieee.double.order b b = none := order_nan_l (of_decide_eq_true h)
    rw [this]; rfl
  | false =>
    rw [(order_eq hb hb).2 ⟨h, h, .inl rfl⟩]; rfl
theorem eqB {a b : Nat} (ha : a < 18446744073709551616) (hb : b < 18446744073709551616) : (FloatKind.f64.format.order a b == some Ordering.eq) = ((!isNan a && !isNan b) && (decide (a = b) || (decide (rung a = 0) && decide (rung b = 0)))) := by
  rw [fmt_eq, Bool.eq_iff_iff, beq_iff_eq, order_eq ha hb]
  simp [and_assoc]
theorem bitsOf_nan {b : Nat} (hb : b < 18446744073709551616) : bitsOf b = if isNan b then 9221120237041090561 else b := by
  unfold bitsOf
  rw [nan_eq hb]
theorem nan_word : isNan 9221120237041090561 = true := by decide
theorem zero_words {b : Nat} (hb : b < 18446744073709551616) (h : rung b = 0) : b = 0 ∨ b = 9223372036854775808 := by
  unfold rung half at h; omega
theorem run_fmul {P : Program} {t : TypeId} {x y z : Nat} (h : FloatKind.f64.format.mul x y = some z) (w : World) : (binOp .mul t (.float .f64 x) (.float .f64 y)).run P w = .ok (.float .f64 z) w := by
  simp [binOp, Op.floatArith, h]
theorem run_fdiv {P : Program} {t : TypeId} {x y z : Nat} (h : FloatKind.f64.format.div x y = some z) (w : World) : (binOp .quo t (.float .f64 x) (.float .f64 y)).run P w = .ok (.float .f64 z) w := by
  simp [binOp, Op.floatArith, h]
theorem run_fadd {P : Program} {t : TypeId} {x y z : Nat} (h : FloatKind.f64.format.add x y = some z) (w : World) : (binOp .add t (.float .f64 x) (.float .f64 y)).run P w = .ok (.float .f64 z) w := by
  simp [binOp, Op.floatArith, h]
theorem run_fsub {P : Program} {t : TypeId} {x y z : Nat} (h : FloatKind.f64.format.sub x y = some z) (w : World) : (binOp .sub t (.float .f64 x) (.float .f64 y)).run P w = .ok (.float .f64 z) w := by
  simp [binOp, Op.floatArith, h]
theorem div_p0 : FloatKind.f64.format.div 4607182418800017408 0 = some 9218868437227405312 := by decide +kernel
theorem div_n0 : FloatKind.f64.format.div 4607182418800017408 9223372036854775808 = some 18442240474082181120 := by decide +kernel
theorem inf_pp : (FloatKind.f64.format.order 9218868437227405312 9218868437227405312 == some Ordering.eq) = true := by decide +kernel
theorem inf_pn : (FloatKind.f64.format.order 9218868437227405312 18442240474082181120 == some Ordering.eq) = false := by decide +kernel
theorem inf_np : (FloatKind.f64.format.order 18442240474082181120 9218868437227405312 == some Ordering.eq) = false := by decide +kernel
theorem inf_nn : (FloatKind.f64.format.order 18442240474082181120 18442240474082181120 == some Ordering.eq) = true := by decide +kernel
theorem inf_lt0 : (FloatKind.f64.format.order 9218868437227405312 0 == some Ordering.lt) = false := by decide +kernel
theorem ninf_lt0 : (FloatKind.f64.format.order 18442240474082181120 0 == some Ordering.lt) = true := by decide +kernel
theorem z_pp : (FloatKind.f64.format.order 0 0 == some Ordering.eq) = true := by decide +kernel
theorem z_np : (FloatKind.f64.format.order 9223372036854775808 0 == some Ordering.eq) = true := by decide +kernel
set_option maxRecDepth 100000 in
set_option maxHeartbeats 1600000 in
theorem refSame_any (a b : Nat) (ha : a < 18446744073709551616) (hb : b < 18446744073709551616) (w : World) : Calls Try.prog 126 #[.float .f64 a, .float .f64 b] w fun e w' => e = .returned (.bool (decide (bitsOf a = bitsOf b))) ∧ w = w' := by
  have hna := nan_any a w
  have hnb := nan_any b w
  rw [nan_eq ha] at hna
  rw [nan_eq hb] at hnb
  cases ea : isNan a with
  | true =>
    have hR : Hid (decide (bitsOf a = bitsOf b) = isNan b) := Lib.hid (by
      rw [bitsOf_nan ha, bitsOf_nan hb, ea, if_pos rfl]
      cases eb : isNan b with
      | true => rw [if_pos rfl]; exact decide_eq_true rfl
      | false =>
        rw [if_neg (by simp)]
        refine decide_eq_false (fun h => ?_)
        rw [← h, nan_word] at eb
        cases eb)
    rw [ea] at hna
    clear ea ha hb
    go_enter Try.func126, Try.ntmps126
    go_wp2_with fail
    refine hna.mono ?_
    rintro e w1 ⟨rfl, rfl⟩
    go_wp2_with fail
    refine hna.mono ?_
    rintro e w1 ⟨rfl, rfl⟩
    go_wp2_with fail
    refine hnb.mono ?_
    rintro e w1 ⟨rfl, rfl⟩
    go_wp2_with fail
    go_ret
    exact ⟨rb hR.out.symm, rfl⟩
  | false =>
    cases eb : isNan b with
    | true =>
      have hR : Hid (decide (bitsOf a = bitsOf b) = false) := Lib.hid (by
        rw [bitsOf_nan ha, bitsOf_nan hb, ea, eb, if_pos rfl, if_neg (by simp)]
        refine decide_eq_false (fun h => ?_)
        rw [h, nan_word] at ea
        cases ea)
      rw [ea] at hna
      rw [eb] at hnb
      clear ea eb ha hb
      go_enter Try.func126, Try.ntmps126
      go_wp2_with fail
      refine hna.mono ?_
      rintro e w1 ⟨rfl, rfl⟩
      go_wp2_with fail
      refine hnb.mono ?_
      rintro e w1 ⟨rfl, rfl⟩
      go_wp2_with fail
      refine hna.mono ?_
      rintro e w1 ⟨rfl, rfl⟩
      go_wp2_with fail
      go_ret
      exact ⟨rb hR.out.symm, rfl⟩
    | false =>
      rw [bitsOf_nan ha, bitsOf_nan hb, ea, eb, if_neg (by simp), if_neg (by simp)]
      have hab := eqB ha hb
      have ha0 := eqB ha (show 0 < 18446744073709551616 by decide)
      have hb0 := eqB hb (show 0 < 18446744073709551616 by decide)
      rw [ea] at hna ha0 hab
      rw [eb] at hnb hb0 hab
      have n0 : isNan 0 = false := by decide
      have r0 : rung 0 = 0 := by decide
      rw [n0, r0] at ha0 hb0
      by_cases za : rung a = 0
      · by_cases zb : rung b = 0
        · rcases zero_words ha za with rfl | rfl <;> rcases zero_words hb zb with rfl | rfl
          all_goals
            clear ea eb hab ha0 hb0 n0 r0 za zb ha hb
            have h1 := @run_fdiv Try.prog 88 _ _ _ div_p0
            have h2 := @run_fdiv Try.prog 88 _ _ _ div_n0
            have h3 := inf_pp
            have h4 := inf_pn
            have h5 := inf_np
            have h6 := inf_nn
            have h7 := z_pp
            have h8 := z_np
            go_enter Try.func126, Try.ntmps126
            go_wp2_with fail
            refine hna.mono ?_
            rintro e w1 ⟨rfl, rfl⟩
            go_wp2_with fail
            refine hnb.mono ?_
            rintro e w1 ⟨rfl, rfl⟩
            go_wp2_with fail
            go_ret
            exact ⟨rfl, rfl⟩
        · have hz : ¬ b = 0 := by rintro rfl; exact zb r0
          have e1 : (FloatKind.f64.format.order a 0 == some Ordering.eq) = true := by rw [ha0]; simp [za]
          have e2 : (FloatKind.f64.format.order b 0 == some Ordering.eq) = false := by rw [hb0]; simp [zb, hz]
          have e3 : Hid ((FloatKind.f64.format.order a b == some Ordering.eq) = decide (a = b)) := Lib.hid (by rw [hab]; simp [zb])
          clear ea eb hab ha0 hb0 n0 r0 za zb hz ha hb
          go_enter Try.func126, Try.ntmps126
          go_wp2_with fail
          refine hna.mono ?_
          rintro e w1 ⟨rfl, rfl⟩
          go_wp2_with fail
          refine hnb.mono ?_
          rintro e w1 ⟨rfl, rfl⟩
          go_wp2_with fail
          go_ret
          exact ⟨rb e3.out, rfl⟩
      · have hz : ¬ a = 0 := by rintro rfl; exact za r0
        have e1 : (FloatKind.f64.format.order a 0 == some Ordering.eq) = false := by rw [ha0]; simp [za, hz]
        have e3 : Hid ((FloatKind.f64.format.order a b == some Ordering.eq) = decide (a = b)) := Lib.hid (by rw [hab]; simp [za])
        clear ea eb hab ha0 hb0 n0 r0 za hz ha hb
        go_enter Try.func126, Try.ntmps126
        go_wp2_with fail
        refine hna.mono ?_
        rintro e w1 ⟨rfl, rfl⟩
        go_wp2_with fail
        refine hnb.mono ?_
        rintro e w1 ⟨rfl, rfl⟩
        go_wp2_with fail
        go_ret
        exact ⟨rb e3.out, rfl⟩
/-- The word of a power of two. -/
def pw (k : Nat) : Nat := (1023 + k) * 4503599627370496
theorem mul2 : ∀ k : Fin 1023, FloatKind.f64.format.mul 4611686018427387904 (pw k.val) = some (pw (k.val + 1)) := by decide +kernel
theorem big1 : FloatKind.f64.format.div 9214364837600034816 4841369599423283200 = some 8980177656976769024 := by decide +kernel
theorem big2 : FloatKind.f64.format.sub 9214364837600034816 8980177656976769024 = some 9214364837600034814 := by decide +kernel
theorem big3 : FloatKind.f64.format.add 9214364837600034816 9214364837600034814 = some 9218868437227405311 := by decide +kernel
set_option maxRecDepth 100000 in
set_option maxHeartbeats 1600000 in
theorem big_any (w : World) : Calls Try.prog 134 #[] w fun e w' => e = .returned (.float .f64 9218868437227405311) ∧ w = w' := by
  go_enter Try.func134, Try.ntmps134
  go_wp2_with fail
  go_loop [1, 2] (fun s1 s2 => ∃ k : Nat, k ≤ 1023 ∧ s2 = .int .i64 (k : Int) ∧ s1 = .float .f64 (pw k)) (fun _ s2 => 1023 - (intOf s2).toNat)
  case atStart => exact ⟨0, by omega, rfl, rfl⟩
  case round =>
    obtain ⟨k, hk, rfl, rfl⟩ := hrel
    by_cases hlt : k < 1023
    · have hm := mul2 ⟨k, hlt⟩
      replace hm := @run_fmul Try.prog 88 _ _ _ hm
      simp only at hm
      generalize pw k = x at *
      generalize hy : pw (k + 1) = y at *
      replace hy := Lib.hid hy
      have hI : (k : Int) < 1023 := by omega
      go_wp2_with fail
      go_round
      case rel => exact ⟨k + 1, by omega, by go_num, by rw [hy.out]⟩
      case measure => simp [intOf]; omega
    · obtain rfl : k = 1023 := by omega
      have h0 : pw 1023 = 9214364837600034816 := by decide
      rw [h0]
      have h1 := @run_fdiv Try.prog 88 _ _ _ big1
      have h2 := @run_fsub Try.prog 88 _ _ _ big2
      have h3 := @run_fadd Try.prog 88 _ _ _ big3
      clear h0
      go_wp2_with fail
      go_ret
      exact ⟨rfl, rfl⟩
end Go.Proofs.Ytelmhcbdpimaaaa

/- Commands: whether one may be, and the reference's answer. -/
set_option linter.unusedVariables false
set_option linter.unusedSimpArgs false
namespace Go.Proofs.Ytelmhcbdpimaaaa
open Go.RowKit Go.Cw Go.Fl
/-- A kind's number, 4 just at +0. -/
def KindR (b : Nat) (w : World) (e : Ending) (w' : World) : Prop := ∃ k : Int, e = .returned (.int .i64 k) ∧ ((k == 4) = decide (b = 0)) ∧ w = w'
theorem negBig (w : World) : (Op.unary .neg (.float .f64 9218868437227405311)).run Try.prog w = .ok (.float .f64 18442240474082181119) w := by kernel_rfl
set_option maxRecDepth 100000 in
set_option maxHeartbeats 1600000 in
theorem refKind_any (b : Nat) (hb : b < 18446744073709551616) (w : World) : Calls Try.prog 106 #[.float .f64 b] w (KindR b w) := by
  have hn := nan_any b w
  rw [nan_eq hb] at hn
  cases eb : isNan b with
  | true =>
    have h0 : Hid (((0 : Int) == 4) = decide (b = 0)) := Lib.hid (by
      rw [decide_eq_false]; rfl
      rintro rfl
      exact absurd eb (by decide))
    rw [eb] at hn
    clear eb hb
    go_enter Try.func106, Try.ntmps106
    go_wp2_with fail
    refine hn.mono ?_
    rintro e w1 ⟨rfl, rfl⟩
    go_wp2_with fail
    go_ret
    exact ⟨0, rfl, h0.out, rfl⟩
  | false =>
    rw [eb] at hn
    have hb0 := eqB hb (show 0 < 18446744073709551616 by decide)
    have n0 : isNan 0 = false := by decide
    have r0 : rung 0 = 0 := by decide
    rw [eb, n0, r0] at hb0
    by_cases zb : rung b = 0
    · rcases zero_words hb zb with rfl | rfl
      · clear eb hb0 n0 r0 zb hb
        have h1 := @run_fdiv Try.prog 88 _ _ _ div_p0
        have h7 := z_pp
        have h8 := inf_lt0
        go_enter Try.func106, Try.ntmps106
        go_wp2_with fail
        refine hn.mono ?_
        rintro e w1 ⟨rfl, rfl⟩
        go_wp2_with fail
        go_ret
        exact ⟨4, rfl, rfl, rfl⟩
      · clear eb hb0 n0 r0 zb hb
        have h1 := @run_fdiv Try.prog 88 _ _ _ div_n0
        have h7 := z_np
        have h8 := ninf_lt0
        go_enter Try.func106, Try.ntmps106
        go_wp2_with fail
        refine hn.mono ?_
        rintro e w1 ⟨rfl, rfl⟩
        go_wp2_with fail
        go_ret
        exact ⟨3, rfl, rfl, rfl⟩
    · have hz : ¬ b = 0 := by rintro rfl; exact zb r0
      have e2 : (FloatKind.f64.format.order b 0 == some Ordering.eq) = false := by rw [hb0]; simp [zb, hz]
      have hd := Lib.hid (decide_eq_false hz)
      have hng := negBig
      clear eb hb0 n0 r0 zb hb hz
      cases e3 : (FloatKind.f64.format.order b 0 == some Ordering.lt) with
      | true =>
        cases e4 : (FloatKind.f64.format.order b 18442240474082181119 == some Ordering.lt) with
        | true =>
          go_enter Try.func106, Try.ntmps106
          go_wp2_with fail
          refine hn.mono ?_
          rintro e w1 ⟨rfl, rfl⟩
          go_wp2_with fail
          refine (big_any _).mono ?_
          rintro e w1 ⟨rfl, rfl⟩
          go_wp2_with fail
          go_ret
          exact ⟨1, rfl, by rw [hd.out]; rfl, rfl⟩
        | false =>
          go_enter Try.func106, Try.ntmps106
          go_wp2_with fail
          refine hn.mono ?_
          rintro e w1 ⟨rfl, rfl⟩
          go_wp2_with fail
          refine (big_any _).mono ?_
          rintro e w1 ⟨rfl, rfl⟩
          go_wp2_with fail
          go_ret
          exact ⟨2, rfl, by rw [hd.out]; rfl, rfl⟩
      | false =>
        cases e4 : (FloatKind.f64.format.order b 9218868437227405311 == some Ordering.gt) with
        | true =>
          go_enter Try.func106, Try.ntmps106
          go_wp2_with fail
          refine hn.mono ?_
          rintro e w1 ⟨rfl, rfl⟩
          go_wp2_with fail
          refine (big_any _).mono ?_
          rintro e w1 ⟨rfl, rfl⟩
          go_wp2_with fail
          go_ret
          exact ⟨6, rfl, by rw [hd.out]; rfl, rfl⟩
        | false =>
          go_enter Try.func106, Try.ntmps106
          go_wp2_with fail
          refine hn.mono ?_
          rintro e w1 ⟨rfl, rfl⟩
          go_wp2_with fail
          refine (big_any _).mono ?_
          rintro e w1 ⟨rfl, rfl⟩
          go_wp2_with fail
          go_ret
          exact ⟨5, rfl, by rw [hd.out]; rfl, rfl⟩
theorem run_store_float (P : Program) (w : World) (a : Addr) (m : Mode) (k : FloatKind) (b : Nat) : (store a (.float k b) m).run P w = stored P w a (.float k b) m := run_store P w a _ m rfl
/-- A command: its kind, its key, its number. -/
abbrev Cm := Int × ByteArray × Nat
abbrev cmV (c : Cm) : Value := .agg #[.int .i64 c.1, .string c.2.1, .float .f64 c.2.2]
def cmc (c : Cm) : List Value := [.int .i64 c.1, .string c.2.1, .float .f64 c.2.2]
def cml (l : List Cm) : List Value := l.flatMap cmc
theorem cml_len (l : List Cm) : (cml l).length = l.length * 3 := flat_len cmc 3 (fun _ => rfl) l
theorem cml_get (l : List Cm) (k : Nat) (h : k < l.length) : (cml l)[k * 3]? = some (.int .i64 l[k].1) ∧ (cml l)[k * 3 + 1]? = some (.string l[k].2.1) ∧ (cml l)[k * 3 + 2]? = some (.float .f64 l[k].2.2) := by
  have := fun i hi => flat_get cmc 3 (fun _ => rfl) l k i h hi
  exact ⟨this 0 (by omega), this 1 (by omega), this 2 (by omega)⟩
theorem cml_one (l : List Cm) : ∀ u ∈ cml l, u.oneCell' = true := by
  intro u hu
  obtain ⟨c, _, hu⟩ := List.mem_flatMap.1 hu
  simp only [cmc, List.mem_cons, List.not_mem_nil, or_false] at hu
  rcases hu with rfl | rfl | rfl <;> rfl
/-- A command's parts are such as Go has. -/
def CmW (c : Cm) : Prop := c.2.1.size ≤ 9223372036854775807 ∧ c.2.2 < 18446744073709551616
/-- A command may be. -/
def cmOk (c : Cm) : Bool := keyOk c.2.1 && ((decide (c.1 = 2) || decide (c.1 = 4)) || ((decide (c.1 = 1) || decide (c.1 = 3)) && decide (c.2.2 = 0)))
def errB (b : Bool) (n : Int) : Int := if b then 0 else n
set_option maxRecDepth 100000 in
set_option maxHeartbeats 3200000 in
theorem check_any (c : Cm) (hc : CmW c) (w : World) : Calls Try.prog 99 #[cmV c] w fun e w' => e = .returned (.int .i64 (errB (cmOk c) 12)) ∧ Below w.heap.size w w' := by
  obtain ⟨k, s, n⟩ := c
  obtain ⟨hs, _⟩ := hc
  simp only at hs
  obtain ⟨H1, l1, h1, y⟩ := (St.start w).box #[.int .i64 k, .string s, .float .f64 n] 90
  have en1 := (Env.refl w).alloc (.cells #[.int .i64 k, .string s, .float .f64 n] 90)
  have y0 := y 0 _ rfl
  have y1 := y 1 _ rfl
  have y2 := y 2 _ rfl
  clear y
  replace hs := hs
  by_cases hk4 : 1 ≤ k ∧ k ≤ 4
  · have h4 : k = 1 ∨ k = 2 ∨ k = 3 ∨ k = 4 := by omega
    clear hk4
    rcases h4 with rfl | rfl | rfl | rfl
    · have hW := word_any 1
      rw [show wordOf 1 = ⟨#[103, 101, 116]⟩ from rfl] at hW
      replace hW := Lib.hid hW
      cases hk : keyOk s with
      | false =>
        have hR : errB (cmOk (1, s, n)) 12 = 12 := by unfold cmOk; rw [hk]; rfl
        rw [hR]
        clear hR
        have hK := key_any s
        rw [hk] at hK
        replace hK := Lib.hid hK
        clear hk
        go_enter Try.func99, Try.ntmps99
        go_wp2_with fail
        refine (hW.out _).mono ?_
        rintro e w2 ⟨rfl, hb2⟩
        have h2 := h1.below hb2
        have x1 := h2.cell y1
        have xl := World.block_lt_of_cell? _ _ x1
        have en2 := en1.trans (bel_env hb2)
        go_wp2_with fail
        refine (hK.out _ hs).mono ?_
        rintro e w3 ⟨rfl, hb3⟩
        go_wp2_with fail
        go_ret
        exact ⟨rfl, ((h2.below hb3).weaken l1).toBelow (en2.trans (bel_env hb3))⟩
      | true =>
        have hK := key_any s
        have hR : Hid (errB (cmOk (1, s, n)) 12 = errB (decide (n = 0)) 12) := Lib.hid (by unfold cmOk; rw [hk]; simp)
        rw [hk] at hK
        replace hK := Lib.hid hK
        clear hk
        cases hn : decide (n = 0) with
        | true =>
          rw [hR.out, hn]
          have hP := plus_any n
          rw [hn] at hP
          replace hP := Lib.hid hP
          clear hn
          go_enter Try.func99, Try.ntmps99
          go_wp2_with fail
          refine (hW.out _).mono ?_
          rintro e w2 ⟨rfl, hb2⟩
          have h2 := h1.below hb2
          have x1 := h2.cell y1
          have xl := World.block_lt_of_cell? _ _ x1
          have en2 := en1.trans (bel_env hb2)
          go_wp2_with fail
          refine (hK.out _ hs).mono ?_
          rintro e w3 ⟨rfl, hb3⟩
          have h3 := h2.below hb3
          clear x1 xl
          have x0 := h3.cell y0
          have x2 := h3.cell y2
          have xl := World.block_lt_of_cell? _ _ x0
          go_wp2_with fail
          refine (hP.out _).mono ?_
          rintro e w4 ⟨rfl, rfl⟩
          go_wp2_with fail
          go_ret
          exact ⟨rfl, (h3.weaken l1).toBelow (en2.trans (bel_env hb3))⟩
        | false =>
          rw [hR.out, hn]
          have hP := plus_any n
          rw [hn] at hP
          replace hP := Lib.hid hP
          clear hn
          go_enter Try.func99, Try.ntmps99
          go_wp2_with fail
          refine (hW.out _).mono ?_
          rintro e w2 ⟨rfl, hb2⟩
          have h2 := h1.below hb2
          have x1 := h2.cell y1
          have xl := World.block_lt_of_cell? _ _ x1
          have en2 := en1.trans (bel_env hb2)
          go_wp2_with fail
          refine (hK.out _ hs).mono ?_
          rintro e w3 ⟨rfl, hb3⟩
          have h3 := h2.below hb3
          clear x1 xl
          have x0 := h3.cell y0
          have x2 := h3.cell y2
          have xl := World.block_lt_of_cell? _ _ x0
          go_wp2_with fail
          refine (hP.out _).mono ?_
          rintro e w4 ⟨rfl, rfl⟩
          go_wp2_with fail
          go_ret
          exact ⟨rfl, (h3.weaken l1).toBelow (en2.trans (bel_env hb3))⟩
    · have hW := word_any 2
      rw [show wordOf 2 = ⟨#[112, 117, 116]⟩ from rfl] at hW
      replace hW := Lib.hid hW
      cases hk : keyOk s with
      | false =>
        have hR : errB (cmOk (2, s, n)) 12 = 12 := by unfold cmOk; rw [hk]; rfl
        rw [hR]
        clear hR
        have hK := key_any s
        rw [hk] at hK
        replace hK := Lib.hid hK
        clear hk
        go_enter Try.func99, Try.ntmps99
        go_wp2_with fail
        refine (hW.out _).mono ?_
        rintro e w2 ⟨rfl, hb2⟩
        have h2 := h1.below hb2
        have x1 := h2.cell y1
        have xl := World.block_lt_of_cell? _ _ x1
        have en2 := en1.trans (bel_env hb2)
        go_wp2_with fail
        refine (hK.out _ hs).mono ?_
        rintro e w3 ⟨rfl, hb3⟩
        go_wp2_with fail
        go_ret
        exact ⟨rfl, ((h2.below hb3).weaken l1).toBelow (en2.trans (bel_env hb3))⟩
      | true =>
        have hR : errB (cmOk (2, s, n)) 12 = 0 := by unfold cmOk; rw [hk]; rfl
        rw [hR]
        clear hR
        have hK := key_any s
        rw [hk] at hK
        replace hK := Lib.hid hK
        clear hk
        go_enter Try.func99, Try.ntmps99
        go_wp2_with fail
        refine (hW.out _).mono ?_
        rintro e w2 ⟨rfl, hb2⟩
        have h2 := h1.below hb2
        have x1 := h2.cell y1
        have xl := World.block_lt_of_cell? _ _ x1
        have en2 := en1.trans (bel_env hb2)
        go_wp2_with fail
        refine (hK.out _ hs).mono ?_
        rintro e w3 ⟨rfl, hb3⟩
        have h3 := h2.below hb3
        clear x1 xl
        have x0 := h3.cell y0
        have xl := World.block_lt_of_cell? _ _ x0
        go_wp2_with fail
        go_ret
        exact ⟨rfl, (h3.weaken l1).toBelow (en2.trans (bel_env hb3))⟩
    · have hW := word_any 3
      rw [show wordOf 3 = ⟨#[100, 101, 108]⟩ from rfl] at hW
      replace hW := Lib.hid hW
      cases hk : keyOk s with
      | false =>
        have hR : errB (cmOk (3, s, n)) 12 = 12 := by unfold cmOk; rw [hk]; rfl
        rw [hR]
        clear hR
        have hK := key_any s
        rw [hk] at hK
        replace hK := Lib.hid hK
        clear hk
        go_enter Try.func99, Try.ntmps99
        go_wp2_with fail
        refine (hW.out _).mono ?_
        rintro e w2 ⟨rfl, hb2⟩
        have h2 := h1.below hb2
        have x1 := h2.cell y1
        have xl := World.block_lt_of_cell? _ _ x1
        have en2 := en1.trans (bel_env hb2)
        go_wp2_with fail
        refine (hK.out _ hs).mono ?_
        rintro e w3 ⟨rfl, hb3⟩
        go_wp2_with fail
        go_ret
        exact ⟨rfl, ((h2.below hb3).weaken l1).toBelow (en2.trans (bel_env hb3))⟩
      | true =>
        have hK := key_any s
        have hR : Hid (errB (cmOk (3, s, n)) 12 = errB (decide (n = 0)) 12) := Lib.hid (by unfold cmOk; rw [hk]; simp)
        rw [hk] at hK
        replace hK := Lib.hid hK
        clear hk
        cases hn : decide (n = 0) with
        | true =>
          rw [hR.out, hn]
          have hP := plus_any n
          rw [hn] at hP
          replace hP := Lib.hid hP
          clear hn
          go_enter Try.func99, Try.ntmps99
          go_wp2_with fail
          refine (hW.out _).mono ?_
          rintro e w2 ⟨rfl, hb2⟩
          have h2 := h1.below hb2
          have x1 := h2.cell y1
          have xl := World.block_lt_of_cell? _ _ x1
          have en2 := en1.trans (bel_env hb2)
          go_wp2_with fail
          refine (hK.out _ hs).mono ?_
          rintro e w3 ⟨rfl, hb3⟩
          have h3 := h2.below hb3
          clear x1 xl
          have x0 := h3.cell y0
          have x2 := h3.cell y2
          have xl := World.block_lt_of_cell? _ _ x0
          go_wp2_with fail
          refine (hP.out _).mono ?_
          rintro e w4 ⟨rfl, rfl⟩
          go_wp2_with fail
          go_ret
          exact ⟨rfl, (h3.weaken l1).toBelow (en2.trans (bel_env hb3))⟩
        | false =>
          rw [hR.out, hn]
          have hP := plus_any n
          rw [hn] at hP
          replace hP := Lib.hid hP
          clear hn
          go_enter Try.func99, Try.ntmps99
          go_wp2_with fail
          refine (hW.out _).mono ?_
          rintro e w2 ⟨rfl, hb2⟩
          have h2 := h1.below hb2
          have x1 := h2.cell y1
          have xl := World.block_lt_of_cell? _ _ x1
          have en2 := en1.trans (bel_env hb2)
          go_wp2_with fail
          refine (hK.out _ hs).mono ?_
          rintro e w3 ⟨rfl, hb3⟩
          have h3 := h2.below hb3
          clear x1 xl
          have x0 := h3.cell y0
          have x2 := h3.cell y2
          have xl := World.block_lt_of_cell? _ _ x0
          go_wp2_with fail
          refine (hP.out _).mono ?_
          rintro e w4 ⟨rfl, rfl⟩
          go_wp2_with fail
          go_ret
          exact ⟨rfl, (h3.weaken l1).toBelow (en2.trans (bel_env hb3))⟩
    · have hW := word_any 4
      rw [show wordOf 4 = ⟨#[97, 100, 100]⟩ from rfl] at hW
      replace hW := Lib.hid hW
      cases hk : keyOk s with
      | false =>
        have hR : errB (cmOk (4, s, n)) 12 = 12 := by unfold cmOk; rw [hk]; rfl
        rw [hR]
        clear hR
        have hK := key_any s
        rw [hk] at hK
        replace hK := Lib.hid hK
        clear hk
        go_enter Try.func99, Try.ntmps99
        go_wp2_with fail
        refine (hW.out _).mono ?_
        rintro e w2 ⟨rfl, hb2⟩
        have h2 := h1.below hb2
        have x1 := h2.cell y1
        have xl := World.block_lt_of_cell? _ _ x1
        have en2 := en1.trans (bel_env hb2)
        go_wp2_with fail
        refine (hK.out _ hs).mono ?_
        rintro e w3 ⟨rfl, hb3⟩
        go_wp2_with fail
        go_ret
        exact ⟨rfl, ((h2.below hb3).weaken l1).toBelow (en2.trans (bel_env hb3))⟩
      | true =>
        have hR : errB (cmOk (4, s, n)) 12 = 0 := by unfold cmOk; rw [hk]; rfl
        rw [hR]
        clear hR
        have hK := key_any s
        rw [hk] at hK
        replace hK := Lib.hid hK
        clear hk
        go_enter Try.func99, Try.ntmps99
        go_wp2_with fail
        refine (hW.out _).mono ?_
        rintro e w2 ⟨rfl, hb2⟩
        have h2 := h1.below hb2
        have x1 := h2.cell y1
        have xl := World.block_lt_of_cell? _ _ x1
        have en2 := en1.trans (bel_env hb2)
        go_wp2_with fail
        refine (hK.out _ hs).mono ?_
        rintro e w3 ⟨rfl, hb3⟩
        have h3 := h2.below hb3
        clear x1 xl
        have x0 := h3.cell y0
        have xl := World.block_lt_of_cell? _ _ x0
        go_wp2_with fail
        go_ret
        exact ⟨rfl, (h3.weaken l1).toBelow (en2.trans (bel_env hb3))⟩
  · have hW := word_any k
    have hw0 : wordOf k = ⟨#[]⟩ := by unfold wordOf; rw [if_neg (by omega), if_neg (by omega), if_neg (by omega), if_neg (by omega)]
    rw [hw0] at hW
    replace hW := Lib.hid hW
    have hR : Hid (errB (cmOk (k, s, n)) 12 = 12) := Lib.hid (by
      unfold cmOk
      rw [decide_eq_false (p := k = 2) (by omega), decide_eq_false (p := k = 4) (by omega), decide_eq_false (p := k = 1) (by omega), decide_eq_false (p := k = 3) (by omega)]
      simp [errB])
    rw [hR.out]
    clear hw0 hk4
    go_enter Try.func99, Try.ntmps99
    go_wp2_with fail
    refine (hW.out _).mono ?_
    rintro e w2 ⟨rfl, hb2⟩
    go_wp2_with fail
    go_ret
    exact ⟨rfl, ((h1.below hb2).weaken l1).toBelow (en1.trans (bel_env hb2))⟩
set_option maxRecDepth 100000 in
set_option maxHeartbeats 3200000 in
theorem right6_any (c : Cm) (hc : CmW c) (w : World) : Calls Try.prog 74 #[cmV c] w fun e w' => e = .returned (.bool (cmOk c)) ∧ Below w.heap.size w w' := by
  obtain ⟨k, s, n⟩ := c
  obtain ⟨hs, hn64⟩ := hc
  simp only at hs hn64
  obtain ⟨H1, l1, h1, y⟩ := (St.start w).box #[.int .i64 k, .string s, .float .f64 n] 90
  have en1 := (Env.refl w).alloc (.cells #[.int .i64 k, .string s, .float .f64 n] 90)
  clear y
  have bel := (h1.weaken l1).toBelow en1
  have hK := refKey_any s (w.alloc (.cells #[.int .i64 k, .string s, .float .f64 n] 90)) hs
  have hN := refKind_any n hn64 (w.alloc (.cells #[.int .i64 k, .string s, .float .f64 n] 90))
  cases hk : keyOk s with
  | false =>
    have hR : cmOk (k, s, n) = false := by unfold cmOk; rw [hk]; rfl
    rw [hR]
    rw [hk] at hK
    clear hR hk
    go_enter Try.func74, Try.ntmps74
    go_wp2_with fail
    refine hK.mono ?_
    rintro e w1 ⟨rfl, rfl⟩
    go_wp2_with fail
    go_ret
    exact ⟨rfl, bel⟩
  | true =>
    have hR : Hid (cmOk (k, s, n) = ((decide (k = 2) || decide (k = 4)) || ((decide (k = 1) || decide (k = 3)) && decide (n = 0)))) := Lib.hid (by unfold cmOk; rw [hk]; rfl)
    rw [hk] at hK
    clear hk
    by_cases k2 : k = 2
    · subst k2
      go_enter Try.func74, Try.ntmps74
      go_wp2_with fail
      refine hK.mono ?_
      rintro e w1 ⟨rfl, rfl⟩
      go_wp2_with fail
      go_ret
      exact ⟨rb (by rw [hR.out]; rfl), bel⟩
    · have b2 : (k == 2) = false := beq_eq_false_iff_ne.2 k2
      by_cases k4 : k = 4
      · subst k4
        go_enter Try.func74, Try.ntmps74
        go_wp2_with fail
        refine hK.mono ?_
        rintro e w1 ⟨rfl, rfl⟩
        go_wp2_with fail
        go_ret
        exact ⟨rb (by rw [hR.out]; rfl), bel⟩
      · have b4 : (k == 4) = false := beq_eq_false_iff_ne.2 k4
        by_cases k1 : k = 1
        · subst k1
          clear k2 k4
          go_enter Try.func74, Try.ntmps74
          go_wp2_with fail
          refine hK.mono ?_
          rintro e w1 ⟨rfl, rfl⟩
          go_wp2_with fail
          refine hN.mono ?_
          rintro e w1 ⟨j, rfl, hj, rfl⟩
          replace hj := Lib.hid hj
          go_wp2_with fail
          go_ret
          exact ⟨rb (by rw [hR.out, hj.out]; simp), bel⟩
        · have b1 : (k == 1) = false := beq_eq_false_iff_ne.2 k1
          by_cases k3 : k = 3
          · subst k3
            clear k2 k4 k1
            go_enter Try.func74, Try.ntmps74
            go_wp2_with fail
            refine hK.mono ?_
            rintro e w1 ⟨rfl, rfl⟩
            go_wp2_with fail
            refine hN.mono ?_
            rintro e w1 ⟨j, rfl, hj, rfl⟩
            replace hj := Lib.hid hj
            go_wp2_with fail
            go_ret
            exact ⟨rb (by rw [hR.out, hj.out]; simp), bel⟩
          · have b3 : (k == 3) = false := beq_eq_false_iff_ne.2 k3
            have hR2 : Hid (cmOk (k, s, n) = false) := Lib.hid (by rw [hR.out]; simp [k1, k2, k3, k4])
            clear k2 k4 k1 k3
            go_enter Try.func74, Try.ntmps74
            go_wp2_with fail
            refine hK.mono ?_
            rintro e w1 ⟨rfl, rfl⟩
            go_wp2_with fail
            go_ret
            exact ⟨rb hR2.out.symm, bel⟩
theorem ba_ext {s t : ByteArray} (h : s.toList = t.toList) : s = t := by
  rw [ByteArray.toList_eq, ByteArray.toList_eq] at h
  cases s
  cases t
  congr
  exact Array.toList_inj.1 h
/-- Two commands are the same. -/
def cmSame (a b : Cm) : Bool := decide (a.1 = b.1) && (decide (a.2.1 = b.2.1) && decide (bitsOf a.2.2 = bitsOf b.2.2))
set_option maxRecDepth 100000 in
set_option maxHeartbeats 1600000 in
theorem cmSame_any (a b : Cm) (ha : CmW a) (hb : CmW b) (w : World) : Calls Try.prog 95 #[cmV a, cmV b] w fun e w' => e = .returned (.bool (cmSame a b)) ∧ Below w.heap.size w w' := by
  obtain ⟨k, s, n⟩ := a
  obtain ⟨k', s', n'⟩ := b
  have hn := ha.2
  have hn' := hb.2
  simp only at hn hn'
  have hS := fun w => refSame_any n n' hn hn' w
  replace hS := Lib.hid hS
  have bel := ((Below.refl w.heap.size w).alloc (Nat.le_refl _) (.cells #[.int .i64 k, .string s, .float .f64 n] 90)).alloc (by simp) (.cells #[.int .i64 k', .string s', .float .f64 n'] 90)
  by_cases h1 : k = k'
  · subst h1
    by_cases h2 : s = s'
    · subst h2
      have hR : Hid (cmSame (k, s, n) (k, s, n') = decide (bitsOf n = bitsOf n')) := Lib.hid (by unfold cmSame; simp)
      clear ha hb hn hn'
      go_enter Try.func95, Try.ntmps95
      go_wp2_with fail
      refine (hS.out _).mono ?_
      rintro e w1 ⟨rfl, rfl⟩
      go_wp2_with fail
      go_ret
      exact ⟨rb hR.out.symm, bel⟩
    · have hR : Hid (cmSame (k, s, n) (k, s', n') = false) := Lib.hid (by unfold cmSame; simp [h2])
      have b2 : ¬ s.toList = s'.toList := fun h => h2 (ba_ext h)
      clear ha hb hn hn' h2
      go_enter Try.func95, Try.ntmps95
      go_wp2_with fail
      go_ret
      exact ⟨rb hR.out.symm, bel⟩
  · have hR : Hid (cmSame (k, s, n) (k', s', n') = false) := Lib.hid (by unfold cmSame; simp [h1])
    have b1 : (k == k') = false := by simpa using h1
    clear ha hb hn hn'
    go_enter Try.func95, Try.ntmps95
    go_wp2_with fail
    go_ret
    exact ⟨rb hR.out.symm, bel⟩
end Go.Proofs.Ytelmhcbdpimaaaa
