/- The law NetActs: walked, its ends. -/
import Derived.Test.YtmdmekdmlkhchaaNetMain
set_option linter.unusedVariables false
set_option linter.unusedSimpArgs false
namespace Go.Proofs.Ytmdmekdmlkhchaa
open Go.RowKit Go.Cw
set_option maxRecDepth 100000 in
set_option maxHeartbeats 3200000 in
theorem netActs_any (room : Int) (v : Value) (acts : List NAct) (w : World) (hv : Rw w 5 v (nacs acts)) (hB : ∀ a ∈ acts, Rw w 1 a.2.2.2.2.1 (u8s a.2.2.2.2.2)) (hS : ∀ a ∈ acts, a.2.2.2.2.2.length ≤ 140737488355328) :
    Calls Try.prog 5 #[.int .i64 room, v] w fun e w' => e = .returned (.bool true) ∧ Below w.heap.size w w' := by
  obtain ⟨A', n', c', rfl, hl', hn', hc'⟩ := hv.form
  rw [nacs_len] at hl'
  obtain rfl : n' = acts.length := by omega
  clear hl'
  have hb := hv.rd
  by_cases h1 : (60 : Int) < acts.length
  · go_enter Try.func5, Try.ntmps5
    go_wp2_with fail
    refine (works43 _).mono ?_
    rintro e w1 ⟨rfl, hb1⟩
    go_wp2_with fail
    go_ret
    exact ⟨rfl, hb1⟩
  have lb : acts.length ≤ 60 := by omega
  by_cases hroom : room < 1 ∨ 4096 < room
  · go_enter Try.func5, Try.ntmps5
    have hbw : ∃ b : Bool, b = true ∧ b = true := ⟨true, rfl, rfl⟩
    by_cases hr1 : room < 1
    · go_wp2_with fail
      refine (netNew_bad room (.inl hr1) w).mono ?_
      rintro e w2 ⟨rfl, rfl⟩
      go_wp2_with fail
      refine (netTake_nil 0 w).mono ?_
      rintro e w3 ⟨rfl, hb3⟩
      have hb3' := hb3.alloc hb3.size (.cells #[.int .i64 0, .int .i64 0, .slice none 0 0] 59)
      go_wp2_with fail
      refine (netAt_nil 0 _).mono ?_
      rintro e w4 ⟨rfl, hb4⟩
      have hb4' := hb3'.trans (hb4.mono hb3'.size)
      have hb5 := hb4'.alloc hb4'.size (.cells #[.int .i64 0, .int .i64 0, .slice none 0 0] 59)
      go_wp2_with fail
      refine (netSend_nil 0 0 (.slice none 0 0) _).mono ?_
      rintro e w6 ⟨rfl, hb6⟩
      have hb6' := hb5.trans (hb6.mono hb5.size)
      go_wp2_with fail
      refine (netDouble_nil 0 _).mono ?_
      rintro e w7 ⟨rfl, rfl⟩
      go_wp2_with fail
      refine (netLen_nil _).mono ?_
      rintro e w7 ⟨rfl, rfl⟩
      go_wp2_with fail
      refine (works43 _).mono ?_
      rintro e w8 ⟨rfl, hb8⟩
      go_wp2_with fail
      go_ret
      exact ⟨rfl, hb6'.trans (hb8.mono hb6'.size)⟩
    · have hr2 : 4096 < room := by omega
      go_wp2_with fail
      refine (netNew_bad room (.inr hr2) w).mono ?_
      rintro e w2 ⟨rfl, rfl⟩
      go_wp2_with fail
      refine (netTake_nil 0 w).mono ?_
      rintro e w3 ⟨rfl, hb3⟩
      have hb3' := hb3.alloc hb3.size (.cells #[.int .i64 0, .int .i64 0, .slice none 0 0] 59)
      go_wp2_with fail
      refine (netAt_nil 0 _).mono ?_
      rintro e w4 ⟨rfl, hb4⟩
      have hb4' := hb3'.trans (hb4.mono hb3'.size)
      have hb5 := hb4'.alloc hb4'.size (.cells #[.int .i64 0, .int .i64 0, .slice none 0 0] 59)
      go_wp2_with fail
      refine (netSend_nil 0 0 (.slice none 0 0) _).mono ?_
      rintro e w6 ⟨rfl, hb6⟩
      have hb6' := hb5.trans (hb6.mono hb5.size)
      go_wp2_with fail
      refine (netDouble_nil 0 _).mono ?_
      rintro e w7 ⟨rfl, rfl⟩
      go_wp2_with fail
      refine (netLen_nil _).mono ?_
      rintro e w7 ⟨rfl, rfl⟩
      go_wp2_with fail
      refine (works43 _).mono ?_
      rintro e w8 ⟨rfl, hb8⟩
      go_wp2_with fail
      go_ret
      exact ⟨rfl, hb6'.trans (hb8.mono hb6'.size)⟩
  · exact netActs_main room _ acts w hv hB hS lb (by omega) (by omega)
end Go.Proofs.Ytmdmekdmlkhchaa
