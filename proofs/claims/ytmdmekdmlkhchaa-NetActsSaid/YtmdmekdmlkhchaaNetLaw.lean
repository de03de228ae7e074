/- The law NetActs: parts. -/
import Derived.Test.YtmdmekdmlkhchaaNet5
import Derived.Lib.SlBytesConst
set_option linter.unusedVariables false
set_option linter.unusedSimpArgs false
namespace Go.Proofs.Ytmdmekdmlkhchaa
open Go.RowKit Go.Cw
set_option maxRecDepth 100000 in
theorem msgSame (f t : Int) (u v : Value) (xs : List Int) (w : World) (hu : Rw w 1 u (u8s xs)) (hv : Rw w 1 v (u8s xs)) :
    Calls Try.prog 36 #[.agg #[.int .i64 f, .int .i64 t, u], .agg #[.int .i64 f, .int .i64 t, v]] w fun e w' => e = .returned (.bool true) ∧ Below w.heap.size w w' := by
  obtain ⟨A, n, c, rfl, _, _, _⟩ := hu.form
  obtain ⟨A', n', c', rfl, _, _, _⟩ := hv.form
  have hb : Below w.heap.size w ((w.alloc (.cells #[.int .i64 f, .int .i64 t, .slice A n c] 59)).alloc (.cells #[.int .i64 f, .int .i64 t, .slice A' n' c'] 59)) := (belBox w _).alloc (by simp) _
  have h1 := conv_rw (P := Try.prog) ((hu.alloc (.cells #[.int .i64 f, .int .i64 t, .slice A n c] 59)).alloc (.cells #[.int .i64 f, .int .i64 t, .slice A' n' c'] 59)) 57 9 Try.underlying57 Try.underlying5 Try.underlying9
  have h2 := conv_rw (P := Try.prog) ((hv.alloc (.cells #[.int .i64 f, .int .i64 t, .slice A n c] 59)).alloc (.cells #[.int .i64 f, .int .i64 t, .slice A' n' c'] 59)) 57 9 Try.underlying57 Try.underlying5 Try.underlying9
  go_enter Try.func36, Try.ntmps36
  go_wp2_with fail
  go_ret
  exact ⟨rfl, hb⟩
theorem rw_marked (w : World) (C : Array Value) (e : TypeId) (fr : Nat × Nat) (n : Nat) (hl : C.size = n) (hn : n ≤ 9223372036854775807) : Rw (w.alloc (.cells C e fr)) 1 (.slice (some ⟨w.heap.size, 0, none⟩) n n) C.toList :=
  ⟨_, n, n, rfl, by simpa using hl, Nat.le_refl _, by simpa [maxLen] using hn, fun _ => ⟨w.heap.size, 0, rfl, fun j u hj => by
    have := heap_alloc_new w (.cells C e fr)
    unfold World.cell?
    simp only [this, Nat.zero_add]
    simpa using hj⟩⟩
theorem mgood1 {H : Hp} {v : Value} {f t : Int} {xs : List Int} (r : Rd H 1 v (u8s xs)) (h1 : xs.length ≤ 4096) (h2 : repB f = true) (h3 : repB t = true) (h4 : f ≠ t) : Rd H 1 ((f, t, v, xs) : Msg).2.2.1 (u8s ((f, t, v, xs) : Msg).2.2.2) ∧ ((f, t, v, xs) : Msg).2.2.2.length ≤ 4096 ∧ repB ((f, t, v, xs) : Msg).1 = true ∧ repB ((f, t, v, xs) : Msg).2.1 = true ∧ ((f, t, v, xs) : Msg).1 ≠ ((f, t, v, xs) : Msg).2.1 := ⟨r, h1, h2, h3, h4⟩
set_option maxRecDepth 100000 in
set_option maxHeartbeats 800000 in
theorem works43 (w : World) : Calls Try.prog 29 #[] w fun e w' => e = .returned (.bool true) ∧ Below w.heap.size w w' := by
  have kc := fun (w : World) (C : Array Value) (n c : Nat) => Lib.run_convert_bytes_const (P := Try.prog) w 57 5 C n c Try.underlying57 Try.underlying5
  go_enter Try.func29, Try.ntmps29
  go_wp2_with fail
  refine (netNew_ok 3 (by decide) (by decide) w).mono ?_
  rintro e w2 ⟨p, rfl, h2, en2⟩
  go_wp2_with fail
  refine (netSend_ok p 3 [] 1 2 (some ⟨w2.heap.size, 0, none⟩) 1 1 [97] (by decide) (by decide) (by decide) (by decide) (by decide) (by decide) (snap w) _ _ (h2.alloc (.cells #[.int .u8 97] 5 (1, 2))) (rw_marked w2 #[.int .u8 97] 5 (1, 2) 1 rfl (by decide))).mono ?_
  rintro e w3 ⟨rfl, en3, v1, h3⟩
  obtain ⟨H1, l1, h3', r1⟩ := h3.row_keep
  go_wp2_with fail
  refine (netSend_ok p 3 ([] ++ [(1, 2, v1, [97])]) 2 1 (some ⟨w3.heap.size, 0, none⟩) 1 1 [98] (by decide) (by decide) (by decide) (by decide) (by simp) (by decide) H1 _ _ (h3'.alloc (.cells #[.int .u8 98] 5 (1, 2))) (rw_marked w3 #[.int .u8 98] 5 (1, 2) 1 rfl (by decide))).mono ?_
  rintro e w4 ⟨rfl, en4, v2, h4⟩
  obtain ⟨H2, l2, h4', r2⟩ := h4.row_keep
  have g4 : MGood H2 [(1, 2, v1, [97]), (2, 1, v2, [98])] := fun m hm => by
    rcases List.mem_cons.1 hm with rfl | hm
    · exact mgood1 (r1.mono l2) (by decide) (by decide) (by decide) (by decide)
    · rw [List.mem_singleton] at hm
      subst hm
      exact mgood1 r2 (by decide) (by decide) (by decide) (by decide)
  have h5 : St H2 [NetA p 3 [(1, 2, v1, [97]), (2, 1, v2, [98])]] w4 := h4'
  clear h4' h4 h3' h3
  go_wp2_with fail
  refine (netDouble_ok p 3 [(1, 2, v1, [97]), (2, 1, v2, [98])] 0 (by simp) (by simp) (by decide) H2 g4 _ _ h5).mono ?_
  rintro e w5 ⟨rfl, en5, v3, h6⟩
  obtain ⟨H3, l3, h6', r3⟩ := h6.row_keep
  have h7 : St H3 [NetA p 3 [(1, 2, v1, [97]), (2, 1, v2, [98]), (1, 2, v3, [97])]] w5 := h6'
  have g7 : MGood H3 [(1, 2, v1, [97]), (2, 1, v2, [98]), (1, 2, v3, [97])] := fun m hm => by
    have hm' : m ∈ [(1, 2, v1, [97]), (2, 1, v2, [98])] ∨ m = (1, 2, v3, [97]) := by simpa [or_assoc] using hm
    rcases hm' with hm' | rfl
    · exact (g4.mono l3) m hm'
    · exact mgood1 r3 (by decide) (by decide) (by decide) (by decide)
  clear h6' h6 h5
  go_wp2_with fail
  refine (netTake_in p 3 [(1, 2, v1, [97]), (2, 1, v2, [98]), (1, 2, v3, [97])] 0 (by simp) (by simp) H3 g7 _ _ h7).mono ?_
  rintro e w6 ⟨v4, rfl, h8, en8⟩
  have h9 : St H3 [Row 5 1 v4 (u8s [97]), NetA p 3 [(2, 1, v2, [98]), (1, 2, v3, [97])]] w6 := h8
  obtain ⟨A4, n4, c4, rfl, _⟩ := h9.row_form
  have h10 := h9.alloc (.cells #[.int .i64 1, .int .i64 2, .slice A4 n4 c4] 59)
  have en10 := en8.alloc (.cells #[.int .i64 1, .int .i64 2, .slice A4 n4 c4] 59)
  have hcv := conv_rw (P := Try.prog) (h10.row_rw (by omega)) 57 9 Try.underlying57 Try.underlying5 Try.underlying9
  rw [show strOfNums [97] = ⟨#[97]⟩ from rfl] at hcv
  have hstr : ((⟨#[97]⟩ : ByteArray) == ⟨#[97]⟩) = true := by decide
  clear h8 h7
  go_wp2_with fail
  refine (netLen p 3 [(2, 1, v2, [98]), (1, 2, v3, [97])] H3 _ _ h10.swap).mono ?_
  rintro e w7 ⟨rfl, rfl⟩
  rw [show (([(2, 1, v2, [98]), (1, 2, v3, [97])] : List Msg).length : Int) = 2 from rfl]
  go_wp2_with fail
  refine (netFor p 3 2 [(2, 1, v2, [98]), (1, 2, v3, [97])] (by simp) H3 _ _ h10.swap).mono ?_
  rintro e w8 ⟨v8, rfl, h11, en11⟩
  rw [show forK 2 (([(2, 1, v2, [98]), (1, 2, v3, [97])] : List Msg).map (·.2.1)) ([(2, 1, v2, [98]), (1, 2, v3, [97])] : List Msg).length = [1] from (by show forK 2 [1, 2] 2 = [1]; decide +kernel)] at h11
  have h12 := h11.row_lit 3 1 1 #[.int .i64 1] rfl (by decide)
  have en12 := en11.alloc (.cells #[.int .i64 1] 3)
  go_wp2_with fail
  refine (sameInts_eq _ _ [1] [1] rfl _ (h12.swap.row_rw (by omega)) (h12.row_rw (by omega))).mono ?_
  rintro e w9 ⟨rfl, hb9⟩
  have h13 := (h12.below hb9).weaken (Hp.le_trans (Hp.le_trans l1 l2) l3)
  have enA := (((((en2.alloc (.cells #[.int .u8 97] 5 (1, 2))).trans en3).alloc (.cells #[.int .u8 98] 5 (1, 2))).trans en4).trans en5).trans en10
  go_wp2_with fail
  go_ret
  exact ⟨rfl, h13.toBelow ((enA.trans en12).trans (bel_env hb9))⟩
end Go.Proofs.Ytmdmekdmlkhchaa
