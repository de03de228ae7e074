/- A journal's entries are put, and told as bytes. -/
import Derived.Test.YtmdmekdmlkhchaaJournal
set_option linter.unusedVariables false
set_option linter.unusedSimpArgs false
namespace Go.Proofs.Ytmdmekdmlkhchaa
open Go.RowKit Go.Cw Go.Jn
set_option maxRecDepth 100000 in
theorem jTake_of (j : Value) (A : Option Addr) (m c : Nat) (r : Int) (w : World) (R : World → Prop) (h : Calls Try.prog 104 #[j, .agg #[.int .i64 1, .int .i64 0, .slice A m c]] w fun e w' => e = .returned (.int .i64 r) ∧ R w') :
    Calls Try.prog 108 #[j, .slice A m c] w fun e w' => e = .returned (.int .i64 r) ∧ R w' := by
  go_enter Try.func108, Try.ntmps108
  go_wp2_with fail
  refine h.mono ?_
  rintro e w1 ⟨rfl, hR⟩
  go_wp2_with fail
  go_ret
  exact ⟨rfl, hR⟩
set_option maxRecDepth 100000 in
theorem jDrain_of (j : Value) (n r : Int) (w : World) (R : World → Prop) (h : Calls Try.prog 104 #[j, .agg #[.int .i64 2, .int .i64 n, .slice none 0 0]] w fun e w' => e = .returned (.int .i64 r) ∧ R w') :
    Calls Try.prog 98 #[j, .int .i64 n] w fun e w' => e = .returned (.int .i64 r) ∧ R w' := by
  go_enter Try.func98, Try.ntmps98
  go_wp2_with fail
  refine h.mono ?_
  rintro e w1 ⟨rfl, hR⟩
  go_wp2_with fail
  go_ret
  exact ⟨rfl, hR⟩
set_option maxRecDepth 100000 in
theorem jCompact_of (j : Value) (r : Int) (w : World) (R : World → Prop) (h : Calls Try.prog 104 #[j, .agg #[.int .i64 3, .int .i64 0, .slice none 0 0]] w fun e w' => e = .returned (.int .i64 r) ∧ R w') :
    Calls Try.prog 45 #[j] w fun e w' => e = .returned (.int .i64 r) ∧ R w' := by
  go_enter Try.func45, Try.ntmps45
  go_wp2_with fail
  refine h.mono ?_
  rintro e w1 ⟨rfl, hR⟩
  go_wp2_with fail
  go_ret
  exact ⟨rfl, hR⟩
theorem u8lit (w : World) (c : Int) : St (snap w) [Row 5 1 (.slice (some ⟨w.heap.size, 0, none⟩) 1 1) (u8s [c])] (w.alloc (.cells #[.int .u8 c] 5)) := (St.start w).row_lit 5 1 1 #[.int .u8 c] rfl (by decide)
set_option maxRecDepth 100000 in
set_option maxHeartbeats 1600000 in
theorem ebytes_any (k n : Int) (A : Option Addr) (m c : Nat) (xs : List Int) (hf : Fit (k, n, xs)) (w : World) (hx : Rw w 1 (.slice A m c) (u8s xs)) :
    Calls Try.prog 107 #[.agg #[.int .i64 k, .int .i64 n, .slice A m c]] w (ResE (snap w) [] w (fun v => v) (fun v => [Row 5 1 v (u8s (inb (k, n, xs)))])) := by
  obtain ⟨H1, l1, h1, y1⟩ := (St.start w).box #[.int .i64 k, .int .i64 n, .slice A m c] 140
  have en1 := (Env.refl w).alloc (.cells #[.int .i64 k, .int .i64 n, .slice A m c] 140)
  have hx1 := hx.alloc (.cells #[.int .i64 k, .int .i64 n, .slice A m c] 140)
  have hs1 : (w.alloc (.cells #[.int .i64 k, .int .i64 n, .slice A m c] 140)).heap.size = w.heap.size + 1 := by simp
  have h2 := h1.row_lit 5 1 1 #[.int .u8 k] rfl (by decide)
  rw [hs1] at h2
  have en2 := en1.alloc (.cells #[.int .u8 k] 5)
  have y2 := y1 2 _ rfl
  clear y1 hs1
  rcases hf with ⟨h3, h4, h5, h6⟩ | ⟨h3, h4, h5, h6⟩ | ⟨h3, h4, h5⟩ <;> simp only at h3 h4 h5 <;> subst h3
  · subst h4
    have hx2 := hx1.alloc (.cells #[.int .u8 1] 5)
    have hml : (u8s xs).length ≤ 4096 := by rw [u8s_len]; exact h5
    clear h1 hx1
    go_enter Try.func107, Try.ntmps107
    go_wp2_with (at_builtin; refine wpList_append rfl (.tmp 12) (.tmp 14) 57 57 rfl Try.underlying57 (.inl ⟨_, Try.underlying57⟩) (.int .u8 0) 1 wU8 rfl (by decide) (by decide) rfl rfl (h2) (News.rw hx2 (u8s_one xs)) ?apB1 ?apK1)
    try case apB1 => first | omega | (simp; omega) | (simp [u8s_len]; omega) | skip
    intro v' w4 k4 en4
    go_wp2_with fail
    go_ret
    exact ⟨v', rfl, k4.weaken l1, en2.trans en4⟩
  · simp only at h6
    subst h6
    have hz : IntKind.u64.wrap n = n := by rw [IntKind.wrap_u64]; omega
    have hz' : n % 18446744073709551616 = n := by omega
    obtain ⟨j, rfl⟩ : ∃ j : Nat, n = j := ⟨n.toNat, by omega⟩
    go_enter Try.func107, Try.ntmps107
    go_wp2_with fail
    refine (put_any j (by omega) _ 1 1 [2] _ (h2.row_rw (by decide)) (by simp)).mono ?_
    rintro e w4 hq
    obtain ⟨v, rfl, k4, en4⟩ := ResE.lift h2 hq
    go_wp2_with fail
    go_ret
    refine ⟨v, rfl, ?_, en2.trans en4⟩
    have := (k4.swap.drop).weaken l1
    simpa [inb] using this
  · subst h4 h5
    go_enter Try.func107, Try.ntmps107
    go_wp2_with fail
    go_ret
    exact ⟨_, rfl, by simpa [inb, u8s] using h2.weaken l1, en2⟩
end Go.Proofs.Ytmdmekdmlkhchaa
