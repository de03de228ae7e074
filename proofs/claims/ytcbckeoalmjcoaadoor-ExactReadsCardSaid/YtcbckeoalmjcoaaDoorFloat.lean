/- Numbers: contracts of real.Same and of the reference's Nan, Same at what chains need. -/
import Derived.Test.YtcbckeoalmjcoaaDoorCmd
set_option linter.unusedVariables false
set_option linter.unusedSimpArgs false
namespace Go.Proofs.YtcbckeoalmjcoaaDoor
open Go.RowKit Go.Cw
/-- A box: a new block that stays as it is. -/
theorem _root_.Go.Cw.St.box {H : Hp} {l : List HA} {w : World} (h : St H l w) (cs : Array Value) (t : TypeId) : ∃ H', Hp.le H H' ∧ St H' l (w.alloc (.cells cs t)) ∧ ∀ i u, cs[i]? = some u → H'.cell w.heap.size i = some u :=
  ⟨_, h.keep_le _, h.keep _, fun i u hu => by
    have := Hp.put_same H w.heap.size (.cells cs t)
    simp [Hp.cell, this, hu]⟩
theorem _root_.Go.Cw.News.newAt {P : Program} {sz : Nat} (w : World) (e : TypeId) (n : Nat) (cs : Array Value) (g : Nat) (hg : g = w.heap.size) (hl : cs.size = n * sz) (h1 : ∀ u ∈ cs.toList, u.oneCell' = true) : News P (w.alloc (.cells cs e)) sz (.slice (some ⟨g, 0, none⟩) n n) n cs.toList := by
  subst hg
  exact News.new w e n cs hl h1
theorem _root_.Go.Cw.St.row_litAt {H : Hp} {l : List HA} {w : World} (h : St H l w) (e : TypeId) (sz n : Nat) (cs : Array Value) (g : Nat) (hg : g = w.heap.size) (hl : cs.size = n * sz) (hM : n ≤ maxLen) : St H (Row e sz (.slice (some ⟨g, 0, none⟩) n n) cs.toList :: l) (w.alloc (.cells cs e)) := by
  subst hg
  exact h.row_lit e sz n cs hl hM
theorem f64bits (b : Nat) (w : World) : (callFunc 82 #[.float .f64 b]).run Tryd.prog w = .ok (.value (.int .u64 b)) w := by kernel_rfl
theorem f64from (n : Int) (w : World) : (callFunc 81 #[.int .u64 n]).run Tryd.prog w = .ok (.value (.float .f64 n.toNat)) w := by kernel_rfl
attribute [local go_sem ↓] f64bits f64from
/-- The bits of a number, of any NaN those of one. -/
def bitsOf (b : Nat) : Nat := if FloatKind.f64.format.order b b != some Ordering.eq then 9221120237041090561 else b
theorem bitsOf_zero (b : Nat) : bitsOf b = 0 ↔ b = 0 := by
  unfold bitsOf
  split
  · rename_i h
    constructor
    · intro h'; cases h'
    · intro h'
      subst h'
      exact absurd h (by decide +kernel)
  · exact Iff.rfl
set_option maxRecDepth 100000 in
theorem canon_any (b : Nat) (w : World) : Calls Tryd.prog 53 #[.float .f64 b] w fun e w' => e = .returned (.float .f64 (bitsOf b)) ∧ w = w' := by
  by_cases h : (FloatKind.f64.format.order b b != some Ordering.eq) = true
  · have HB : Hid (bitsOf b = 9221120237041090561) := Lib.hid (if_pos h)
    go_enter Tryd.func53, Tryd.ntmps53
    go_wp2_with fail
    go_ret
    exact ⟨congrArg (fun x => Ending.returned (Value.float FloatKind.f64 x)) HB.out.symm, rfl⟩
  · have HB : Hid (bitsOf b = b) := Lib.hid (if_neg h)
    have h := Bool.eq_false_iff.2 h
    go_enter Tryd.func53, Tryd.ntmps53
    go_wp2_with fail
    go_ret
    exact ⟨congrArg (fun x => Ending.returned (Value.float FloatKind.f64 x)) HB.out.symm, rfl⟩
set_option maxRecDepth 100000 in
theorem bits_any (b : Nat) (w : World) : Calls Tryd.prog 89 #[.float .f64 b] w fun e w' => e = .returned (.int .u64 (bitsOf b)) ∧ w = w' := by
  go_enter Tryd.func89, Tryd.ntmps89
  go_wp2_with (go_at_call 53; refine (canon_any _ _).mono ?_; rintro e w1 ⟨rfl, rfl⟩)
  go_ret
  exact ⟨rfl, rfl⟩
set_option maxRecDepth 100000 in
theorem realSame_any (a b : Nat) (w : World) : Calls Tryd.prog 66 #[.float .f64 a, .float .f64 b] w fun e w' => e = .returned (.bool (decide (bitsOf a = bitsOf b))) ∧ w = w' := by
  go_enter Tryd.func66, Tryd.ntmps66
  go_wp2_with (go_at_call 89; refine (bits_any _ _).mono ?_; rintro e w1 ⟨rfl, rfl⟩)
  go_ret
  exact ⟨rb (by by_cases h : bitsOf a = bitsOf b <;> simp [h]; omega), rfl⟩
set_option maxRecDepth 100000 in
theorem plus_any (b : Nat) (w : World) : Calls Tryd.prog 88 #[.float .f64 b] w fun e w' => e = .returned (.bool (decide (b = 0))) ∧ w = w' := by
  go_enter Tryd.func88, Tryd.ntmps88
  go_wp2_with (go_at_call 66; refine (realSame_any _ _ _).mono ?_; rintro e w1 ⟨rfl, rfl⟩)
  go_ret
  refine ⟨rb (decide_eq_decide.2 ?_), rfl⟩
  have h0 : bitsOf 0 = 0 := (bitsOf_zero 0).2 rfl
  rw [h0, bitsOf_zero]
set_option maxRecDepth 100000 in
theorem nan_any (b : Nat) (w : World) : Calls Tryd.prog 60 #[.float .f64 b] w fun e w' => e = .returned (.bool (FloatKind.f64.format.order b b != some Ordering.eq)) ∧ w = w' := by
  go_enter Tryd.func60, Tryd.ntmps60
  go_wp2_with fail
  go_ret
  exact ⟨rfl, rfl⟩
set_option maxRecDepth 100000 in
theorem refSame_one (w : World) : Calls Tryd.prog 27 #[.float .f64 4607182418800017408, .float .f64 4607182418800017408] w fun e w' => e = .returned (.bool true) ∧ w = w' := by
  have h1 : (FloatKind.f64.format.order 4607182418800017408 4607182418800017408 != some Ordering.eq) = false := by decide +kernel
  have h2 : (FloatKind.f64.format.order 4607182418800017408 0 == some Ordering.eq) = false := by decide +kernel
  have h3 : (FloatKind.f64.format.order 4607182418800017408 4607182418800017408 == some Ordering.eq) = true := by decide +kernel
  go_enter Tryd.func27, Tryd.ntmps27
  go_wp2_with (go_at_call 60; refine (nan_any _ _).mono ?_; rintro e w1 ⟨rfl, rfl⟩; rw [h1])
  go_ret
  exact ⟨rfl, rfl⟩
theorem belAlloc (w : World) (o : Obj) : Below w.heap.size w (w.alloc o) := (Below.refl _ _).alloc (Nat.le_refl _) _
/-- A kind's word. -/
def wordOf (k : Int) : ByteArray := if k = 1 then ⟨#[103, 101, 116]⟩ else if k = 2 then ⟨#[112, 117, 116]⟩ else if k = 3 then ⟨#[100, 101, 108]⟩ else if k = 4 then ⟨#[97, 100, 100]⟩ else ⟨#[]⟩
set_option maxRecDepth 100000 in
theorem word_any (k : Int) (w : World) : Calls Tryd.prog 86 #[.int .i64 k] w fun e w' => e = .returned (.string (wordOf k)) ∧ Below w.heap.size w w' := by
  by_cases h0 : k < 0
  · have hw : Hid (wordOf k = ⟨#[]⟩) := Lib.hid (by unfold wordOf; rw [if_neg (by omega), if_neg (by omega), if_neg (by omega), if_neg (by omega)])
    go_enter Tryd.func86, Tryd.ntmps86
    go_wp2_with fail
    go_ret
    exact ⟨congrArg (fun x => Ending.returned (Value.string x)) hw.out.symm, belAlloc w _⟩
  · by_cases h5 : 5 ≤ k
    · have hw : Hid (wordOf k = ⟨#[]⟩) := Lib.hid (by unfold wordOf; rw [if_neg (by omega), if_neg (by omega), if_neg (by omega), if_neg (by omega)])
      go_enter Tryd.func86, Tryd.ntmps86
      go_wp2_with fail
      go_ret
      exact ⟨congrArg (fun x => Ending.returned (Value.string x)) hw.out.symm, belAlloc w _⟩
    · have hk : k = 0 ∨ k = 1 ∨ k = 2 ∨ k = 3 ∨ k = 4 := by omega
      rcases hk with rfl | rfl | rfl | rfl | rfl
      all_goals
        go_enter Tryd.func86, Tryd.ntmps86
        go_wp2_with fail
        go_ret
        exact ⟨rfl, belAlloc w _⟩
end Go.Proofs.YtcbckeoalmjcoaaDoor
