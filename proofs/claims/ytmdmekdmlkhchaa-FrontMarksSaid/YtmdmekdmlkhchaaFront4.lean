/- Ids marked: what a front tells. -/
import Derived.Test.YtmdmekdmlkhchaaFront3
set_option linter.unusedVariables false
set_option linter.unusedSimpArgs false
namespace Go.Proofs.Ytmdmekdmlkhchaa
open Go.RowKit Go.Cw
attribute [local go_sem ↓] eql_id neq_id
/-- n is the floor of replica r. -/
def FlP (M : List Id) (r : Int) (n : Nat) : Prop := (∀ m : Nat, 1 ≤ m → m ≤ n → (r, (m : Int)) ∈ M) ∧ (r, ((n + 1 : Nat) : Int)) ∉ M
theorem FlP.one {M : List Id} {r : Int} {n m : Nat} (h : FlP M r n) (h' : FlP M r m) : n = m := by
  rcases Nat.lt_trichotomy n m with h1 | h1 | h1
  · exact absurd (h'.1 (n + 1) (by omega) h1) h.2
  · exact h1
  · exact absurd (h.1 (m + 1) (by omega) h1) h'.2
theorem FI.floor {M : List Id} {F : List Nat} {L : List Id} (h : FI M F L) (hC : ∀ q, q < 8 → FC F L q) (r : Nat) (hr : r < 8) : FlP M r (F.getD r 0) := by
  refine ⟨fun m h1 h2 => h.under r m hr h1 h2, fun hm => ?_⟩
  rcases h.all _ hm with h1 | h1
  · exact hC r hr h1
  · simp only [Int.toNat_natCast] at h1
    omega
theorem FI.floorA {M : List Id} {F : List Nat} {L : List Id} (h : FI M F L) (hC : ∀ q, q < 8 → FC F L q) (a : Id) (ha : a ∈ M) : FlP M a.1 (F.getD a.1.toNat 0) := by
  have hk := (idOk_iff a).1 (h.ok a ha)
  have := h.floor hC a.1.toNat (by omega)
  rwa [show ((a.1.toNat : Nat) : Int) = a.1 by omega] at this
set_option maxRecDepth 100000 in
theorem frFloor_nil (i : Int) (w : World) : Calls Try.prog 71 #[.pointer none, .int .i64 i] w fun e w' => e = .returned (.int .i64 0) ∧ w = w' := by
  go_enter Try.func71, Try.ntmps71
  go_wp2_with fail
  go_ret
  exact ⟨rfl, rfl⟩
set_option maxRecDepth 100000 in
theorem frFloor_out (p : Nat) (i : Int) (hi : i < 0 ∨ 8 ≤ i) (w : World) : Calls Try.prog 71 #[frP p, .int .i64 i] w fun e w' => e = .returned (.int .i64 0) ∧ w = w' := by
  rcases hi with hi | hi
  · go_enter Try.func71, Try.ntmps71
    go_wp2_with fail
    go_ret
    exact ⟨rfl, rfl⟩
  · have hi' : ¬ i < 0 := by omega
    go_enter Try.func71, Try.ntmps71
    go_wp2_with fail
    go_ret
    exact ⟨rfl, rfl⟩
set_option maxRecDepth 100000 in
theorem frFloor_in (p r : Nat) (hr : r < 8) (M : List Id) (H : Hp) (fr : List HA) (w : World) (h : St H (FrI p M :: fr) w) : Calls Try.prog 71 #[frP p, .int .i64 (r : Int)] w fun e w' => ∃ n : Nat, e = .returned (.int .i64 (n : Int)) ∧ w = w' ∧ FlP M r n := by
  obtain ⟨F, L, s, ⟨h1, h2⟩, h3⟩ := frOpen h
  have cr := h3.blk_cell r
  rw [frC_get F s r (by rw [h1.len]; omega)] at cr
  have cl := h3.blk_lt
  have hf := h1.floor h2 r hr
  have hr1 : ¬ (r : Int) < 0 := by omega
  have hr2 : ¬ (8 : Int) ≤ (r : Int) := by omega
  have hr3 : (r : Int) < 8 := by omega
  have hr4 : (0 : Int) ≤ (r : Int) := by omega
  obtain ⟨f, hf'⟩ : ∃ f, Hid (f = F.getD r 0) := ⟨_, Lib.hid rfl⟩
  rw [← hf'.out] at cr hf
  clear h1 h2 h3 h
  replace hf := Lib.hid hf
  go_enter Try.func71, Try.ntmps71
  go_wp2_with fail
  go_ret
  exact ⟨f, rfl, rfl, hf.out⟩
/-- What stands above the floors. -/
def AbP (M R : List Id) : Prop := Rises R ∧ ∀ a, a ∈ R ↔ (a ∈ M ∧ ∀ n, FlP M a.1 n → (n : Int) < a.2)
theorem AbP.one {M R S : List Id} (h : AbP M R) (h' : AbP M S) : R = S := rises_eq h.1 h'.1 (fun a => by rw [h.2, h'.2])
set_option maxRecDepth 100000 in
theorem frAbove_nil (w : World) : Calls Try.prog 72 #[.pointer none] w fun e w' => e = .returned (.slice none 0 0) ∧ w = w' := by
  go_enter Try.func72, Try.ntmps72
  go_wp2_with fail
  go_ret
  exact ⟨rfl, rfl⟩
set_option maxRecDepth 100000 in
theorem frAbove (p : Nat) (M : List Id) (hM : M.length * 32 ≤ 140737488355328) (H : Hp) (fr : List HA) (w : World) (h : St H (FrI p M :: fr) w) : Calls Try.prog 72 #[frP p] w fun e w' => ∃ v R, e = .returned v ∧ AbP M R ∧ St H (Row 42 2 v (idl R) :: FrI p M :: fr) w' ∧ Env w w' := by
  obtain ⟨F, L, s, ⟨h1, h2⟩, h3⟩ := frOpen h
  have c8 := h3.blk_cell 8
  rw [frC_ptr F s h1.len] at c8
  have cl := h3.blk_lt
  have hLM : L.length ≤ M.length := by have := h1.count; omega
  have h1h := Lib.hid h1
  have h2h := Lib.hid h2
  have hAb : Hid (∀ R : List Id, Rises R → (∀ a, a ∈ R ↔ a ∈ L) → AbP M R) := Lib.hid (fun R hr hm => by
    refine ⟨hr, fun a => ?_⟩
    rw [hm]
    constructor
    · intro ha
      obtain ⟨h4, h5⟩ := h1.above a ha
      refine ⟨h4, fun n hn => ?_⟩
      have := FlP.one hn (h1.floorA h2 a h4)
      omega
    · rintro ⟨ha, hn⟩
      rcases h1.all a ha with h4 | h4
      · exact h4
      · have := hn _ (h1.floorA h2 a ha)
        omega)
  clear h h1 h2
  go_enter Try.func72, Try.ntmps72
  go_wp2_with fail
  refine (list_any s L H _ _ h3.swap (by omega)).mono ?_
  rintro e w4 ⟨v, R, rfl, h4, en4, hr, hm⟩
  go_wp2_with fail
  go_ret
  have h5 := frShut (fr := Row 42 2 v (idl R) :: fr) h1h.out h2h.out (h4.perm (List.perm_append_comm (l₁ := [_]) (l₂ := [_, _]) |>.trans (List.Perm.swap _ _ _) |>.append_right fr))
  exact ⟨v, R, rfl, hAb.out R hr hm, h5.swap, en4⟩
set_option maxRecDepth 100000 in
theorem frLen_nil (w : World) : Calls Try.prog 73 #[.pointer none] w fun e w' => e = .returned (.int .i64 0) ∧ w = w' := by
  go_enter Try.func73, Try.ntmps73
  go_wp2_with fail
  go_ret
  exact ⟨rfl, rfl⟩
theorem len8 {F : List Nat} (h : F.length = 8) : ∃ a b c d e f g i, F = [a, b, c, d, e, f, g, i] := by
  match F, h with
  | [a, b, c, d, e, f, g, i], _ => exact ⟨a, b, c, d, e, f, g, i, rfl⟩
theorem aget {arr : Array Value} {i : Nat} {hi : i < arr.size} (k : Nat) (v : Value) (hk : i = k) (hv : arr[k]? = some v) : arr[i] = v := by
  subst hk
  rw [Array.getElem?_eq_getElem hi] at hv
  exact Option.some.inj hv
set_option maxRecDepth 100000 in
set_option maxHeartbeats 1600000 in
theorem frLen (p : Nat) (M : List Id) (hM : M.length ≤ 1000000) (H : Hp) (fr : List HA) (w : World) (h : St H (FrI p M :: fr) w) : Calls Try.prog 73 #[frP p] w fun e w' => e = .returned (.int .i64 (M.length : Int)) ∧ w = w' := by
  obtain ⟨F, L, s, ⟨h1, h2⟩, h3⟩ := frOpen h
  have c8 := h3.blk_cell 8
  rw [frC_ptr F s h1.len] at c8
  have cl := h3.blk_lt
  have hcount := h1.count
  obtain ⟨a0, a1, a2, a3, a4, a5, a6, a7, rfl⟩ := len8 h1.len
  have d0 : w.cell? ⟨p, 0, none⟩ = some (.int .i64 (a0 : Int)) := h3.blk_cell 0
  have d1 : w.cell? ⟨p, 1, none⟩ = some (.int .i64 (a1 : Int)) := h3.blk_cell 1
  have d2 : w.cell? ⟨p, 2, none⟩ = some (.int .i64 (a2 : Int)) := h3.blk_cell 2
  have d3 : w.cell? ⟨p, 3, none⟩ = some (.int .i64 (a3 : Int)) := h3.blk_cell 3
  have d4 : w.cell? ⟨p, 4, none⟩ = some (.int .i64 (a4 : Int)) := h3.blk_cell 4
  have d5 : w.cell? ⟨p, 5, none⟩ = some (.int .i64 (a5 : Int)) := h3.blk_cell 5
  have d6 : w.cell? ⟨p, 6, none⟩ = some (.int .i64 (a6 : Int)) := h3.blk_cell 6
  have d7 : w.cell? ⟨p, 7, none⟩ = some (.int .i64 (a7 : Int)) := h3.blk_cell 7
  have hsum : L.length + (a0 + a1 + a2 + a3 + a4 + a5 + a6 + a7) = M.length := by simp at hcount; omega
  clear hcount h1 h2 h
  go_enter Try.func73, Try.ntmps73
  go_wp2_with fail
  refine (len_any s L H _ _ h3.swap).mono ?_
  rintro e w4 ⟨rfl, rfl⟩
  go_wp2_with fail
  clear c8 cl d0 d1 d2 d3 d4 d5 d6 d7 h3
  obtain ⟨G, hG⟩ : ∃ G : List Nat, Hid (G = [a0, a1, a2, a3, a4, a5, a6, a7]) := ⟨_, Lib.hid rfl⟩
  go_loopw [3, 17] (fun s3 s17 wr => ∃ z : Int, 0 ≤ z ∧ z ≤ 8 ∧ s17 = .int .i64 z ∧ s3 = .int .i64 ((L.length + (G.take z.toNat).sum : Nat) : Int) ∧ wr = w) (fun _ s17 _ => 8 - (intOf s17).toNat)
  case atStart => exact ⟨0, by omega, by omega, rfl, by simp, rfl⟩
  case round =>
    obtain ⟨z, hz0, hz8, rfl, rfl, rfl⟩ := hrel
    by_cases hlt : z < 8
    · obtain ⟨c, hc⟩ : ∃ c : Nat, Hid (c = L.length + (G.take z.toNat).sum) := ⟨_, Lib.hid rfl⟩
      rw [← hc.out]
      rcases (by omega : z = 0 ∨ z = 1 ∨ z = 2 ∨ z = 3 ∨ z = 4 ∨ z = 5 ∨ z = 6 ∨ z = 7) with rfl | rfl | rfl | rfl | rfl | rfl | rfl | rfl
      · have hw : IntKind.i64.wrap ((c : Int) + (a0 : Int)) = (c : Int) + (a0 : Int) := by
          have := hc.out; rw [hG.out] at this; simp at this; rw [IntKind.wrap_i64]; omega
        have hidx : (Instr.index 158 (.agg #[.int .i64 (a0 : Int), .int .i64 (a1 : Int), .int .i64 (a2 : Int), .int .i64 (a3 : Int), .int .i64 (a4 : Int), .int .i64 (a5 : Int), .int .i64 (a6 : Int), .int .i64 (a7 : Int)]) (.int .i64 0)).run Try.prog wr = .ok (.int .i64 (a0 : Int)) wr := by kernel_rfl
        go_wp2_with fail
        go_roundw
        case rel => exact ⟨1, by omega, by omega, rfl, by have := hc.out; rw [hG.out] at this ⊢; simp at this ⊢; omega, by first | rfl | trivial⟩
        case measure => simp [intOf]
      · have hw : IntKind.i64.wrap ((c : Int) + (a1 : Int)) = (c : Int) + (a1 : Int) := by
          have := hc.out; rw [hG.out] at this; simp at this; rw [IntKind.wrap_i64]; omega
        have hidx : (Instr.index 158 (.agg #[.int .i64 (a0 : Int), .int .i64 (a1 : Int), .int .i64 (a2 : Int), .int .i64 (a3 : Int), .int .i64 (a4 : Int), .int .i64 (a5 : Int), .int .i64 (a6 : Int), .int .i64 (a7 : Int)]) (.int .i64 1)).run Try.prog wr = .ok (.int .i64 (a1 : Int)) wr := by kernel_rfl
        go_wp2_with fail
        go_roundw
        case rel => exact ⟨2, by omega, by omega, rfl, by have := hc.out; rw [hG.out] at this ⊢; simp at this ⊢; omega, by first | rfl | trivial⟩
        case measure => simp [intOf]
      · have hw : IntKind.i64.wrap ((c : Int) + (a2 : Int)) = (c : Int) + (a2 : Int) := by
          have := hc.out; rw [hG.out] at this; simp at this; rw [IntKind.wrap_i64]; omega
        have hidx : (Instr.index 158 (.agg #[.int .i64 (a0 : Int), .int .i64 (a1 : Int), .int .i64 (a2 : Int), .int .i64 (a3 : Int), .int .i64 (a4 : Int), .int .i64 (a5 : Int), .int .i64 (a6 : Int), .int .i64 (a7 : Int)]) (.int .i64 2)).run Try.prog wr = .ok (.int .i64 (a2 : Int)) wr := by kernel_rfl
        go_wp2_with fail
        go_roundw
        case rel => exact ⟨3, by omega, by omega, rfl, by have := hc.out; rw [hG.out] at this ⊢; simp at this ⊢; omega, by first | rfl | trivial⟩
        case measure => simp [intOf]
      · have hw : IntKind.i64.wrap ((c : Int) + (a3 : Int)) = (c : Int) + (a3 : Int) := by
          have := hc.out; rw [hG.out] at this; simp at this; rw [IntKind.wrap_i64]; omega
        have hidx : (Instr.index 158 (.agg #[.int .i64 (a0 : Int), .int .i64 (a1 : Int), .int .i64 (a2 : Int), .int .i64 (a3 : Int), .int .i64 (a4 : Int), .int .i64 (a5 : Int), .int .i64 (a6 : Int), .int .i64 (a7 : Int)]) (.int .i64 3)).run Try.prog wr = .ok (.int .i64 (a3 : Int)) wr := by kernel_rfl
        go_wp2_with fail
        go_roundw
        case rel => exact ⟨4, by omega, by omega, rfl, by have := hc.out; rw [hG.out] at this ⊢; simp at this ⊢; omega, by first | rfl | trivial⟩
        case measure => simp [intOf]
      · have hw : IntKind.i64.wrap ((c : Int) + (a4 : Int)) = (c : Int) + (a4 : Int) := by
          have := hc.out; rw [hG.out] at this; simp at this; rw [IntKind.wrap_i64]; omega
        have hidx : (Instr.index 158 (.agg #[.int .i64 (a0 : Int), .int .i64 (a1 : Int), .int .i64 (a2 : Int), .int .i64 (a3 : Int), .int .i64 (a4 : Int), .int .i64 (a5 : Int), .int .i64 (a6 : Int), .int .i64 (a7 : Int)]) (.int .i64 4)).run Try.prog wr = .ok (.int .i64 (a4 : Int)) wr := by kernel_rfl
        go_wp2_with fail
        go_roundw
        case rel => exact ⟨5, by omega, by omega, rfl, by have := hc.out; rw [hG.out] at this ⊢; simp at this ⊢; omega, by first | rfl | trivial⟩
        case measure => simp [intOf]
      · have hw : IntKind.i64.wrap ((c : Int) + (a5 : Int)) = (c : Int) + (a5 : Int) := by
          have := hc.out; rw [hG.out] at this; simp at this; rw [IntKind.wrap_i64]; omega
        have hidx : (Instr.index 158 (.agg #[.int .i64 (a0 : Int), .int .i64 (a1 : Int), .int .i64 (a2 : Int), .int .i64 (a3 : Int), .int .i64 (a4 : Int), .int .i64 (a5 : Int), .int .i64 (a6 : Int), .int .i64 (a7 : Int)]) (.int .i64 5)).run Try.prog wr = .ok (.int .i64 (a5 : Int)) wr := by kernel_rfl
        go_wp2_with fail
        go_roundw
        case rel => exact ⟨6, by omega, by omega, rfl, by have := hc.out; rw [hG.out] at this ⊢; simp at this ⊢; omega, by first | rfl | trivial⟩
        case measure => simp [intOf]
      · have hw : IntKind.i64.wrap ((c : Int) + (a6 : Int)) = (c : Int) + (a6 : Int) := by
          have := hc.out; rw [hG.out] at this; simp at this; rw [IntKind.wrap_i64]; omega
        have hidx : (Instr.index 158 (.agg #[.int .i64 (a0 : Int), .int .i64 (a1 : Int), .int .i64 (a2 : Int), .int .i64 (a3 : Int), .int .i64 (a4 : Int), .int .i64 (a5 : Int), .int .i64 (a6 : Int), .int .i64 (a7 : Int)]) (.int .i64 6)).run Try.prog wr = .ok (.int .i64 (a6 : Int)) wr := by kernel_rfl
        go_wp2_with fail
        go_roundw
        case rel => exact ⟨7, by omega, by omega, rfl, by have := hc.out; rw [hG.out] at this ⊢; simp at this ⊢; omega, by first | rfl | trivial⟩
        case measure => simp [intOf]
      · have hw : IntKind.i64.wrap ((c : Int) + (a7 : Int)) = (c : Int) + (a7 : Int) := by
          have := hc.out; rw [hG.out] at this; simp at this; rw [IntKind.wrap_i64]; omega
        have hidx : (Instr.index 158 (.agg #[.int .i64 (a0 : Int), .int .i64 (a1 : Int), .int .i64 (a2 : Int), .int .i64 (a3 : Int), .int .i64 (a4 : Int), .int .i64 (a5 : Int), .int .i64 (a6 : Int), .int .i64 (a7 : Int)]) (.int .i64 7)).run Try.prog wr = .ok (.int .i64 (a7 : Int)) wr := by kernel_rfl
        go_wp2_with fail
        go_roundw
        case rel => exact ⟨8, by omega, by omega, rfl, by have := hc.out; rw [hG.out] at this ⊢; simp at this ⊢; omega, by first | rfl | trivial⟩
        case measure => simp [intOf]
    · obtain rfl : z = 8 := by omega
      have hN : Hid (((L.length + (G.take (8 : Int).toNat).sum : Nat) : Int) = (M.length : Int)) := Lib.hid (by rw [hG.out]; simp; omega)
      go_wp2_with fail
      go_ret
      exact ⟨congrArg (fun x => Ending.returned (Value.int .i64 x)) hN.out, rfl⟩
set_option maxRecDepth 100000 in
theorem frTwin_nil (w : World) : Calls Try.prog 74 #[.pointer none] w fun e w' => e = .returned (.pointer none) ∧ w = w' := by
  go_enter Try.func74, Try.ntmps74
  go_wp2_with fail
  go_ret
  exact ⟨rfl, rfl⟩
set_option maxRecDepth 100000 in
theorem frNew (w : World) : Calls Try.prog 69 #[] w (ResE (snap w) [] w (fun p => frP p) (fun p => [FrI p []])) := by
  go_enter Try.func69, Try.ntmps69
  go_wp2_with fail
  refine (setNew_any (.slice none 0 0) [] w (Rw.nil _ _)).mono ?_
  rintro e w2 ⟨s, rfl, h2, en2⟩
  have h3 := h2.blk (frC [0, 0, 0, 0, 0, 0, 0, 0] s) 160
  have en3 := en2.alloc (.cells (frC [0, 0, 0, 0, 0, 0, 0, 0] s) 160)
  have hF : FI [] [0, 0, 0, 0, 0, 0, 0, 0] [] := ⟨rfl, List.Pairwise.nil, fun a ha => by simp at ha, fun a ha => by simp at ha, fun a ha => by simp at ha, fun r n hr h1 h2 => by
    rcases (by omega : r = 0 ∨ r = 1 ∨ r = 2 ∨ r = 3 ∨ r = 4 ∨ r = 5 ∨ r = 6 ∨ r = 7) with rfl | rfl | rfl | rfl | rfl | rfl | rfl | rfl <;> (simp at h2; omega), rfl⟩
  have h4 := frShut (p := w2.heap.size) (s := s) (M := []) (L := []) hF (fun q hq hm => by simp at hm) h3
  have h5 : St (snap w) [FrI w2.heap.size []] (w2.alloc (.cells #[.int .i64 0, .int .i64 0, .int .i64 0, .int .i64 0, .int .i64 0, .int .i64 0, .int .i64 0, .int .i64 0, setP s] 160)) := h4
  have en5 : Env w (w2.alloc (.cells #[.int .i64 0, .int .i64 0, .int .i64 0, .int .i64 0, .int .i64 0, .int .i64 0, .int .i64 0, .int .i64 0, setP s] 160)) := en3
  clear h4 h3 en3 hF
  go_wp2_with fail
  go_ret
  exact ⟨w2.heap.size, rfl, h5, en5⟩
theorem dedup_nodup : ∀ (l acc : List Id), acc.Nodup → (l.foldl (fun L a => addL a L) acc).Nodup
  | [], acc, h => h
  | x :: r, acc, h => by
    refine dedup_nodup r _ ?_
    show (addL x acc).Nodup
    unfold addL
    split
    · exact h
    · rename_i hx
      exact List.nodup_append.2 ⟨h, by simp, fun a ha b hb e => by rw [List.mem_singleton] at hb; subst hb; subst e; exact hx ha⟩
theorem FI.congr {M : List Id} {F : List Nat} {L L' : List Id} (h : FI M F L) (hm : ∀ a, a ∈ L' ↔ a ∈ L) (hl : L'.length = L.length) : FI M F L' :=
  ⟨h.len, h.rises, h.ok, fun a ha => h.above a ((hm a).1 ha), fun a ha => (h.all a ha).imp_left (hm a).2, h.under, by rw [hl]; exact h.count⟩
set_option maxRecDepth 100000 in
set_option maxHeartbeats 1600000 in
theorem frTwin (p : Nat) (M : List Id) (hM : M.length * 32 ≤ 140737488355328) (H : Hp) (fr : List HA) (w : World) (h : St H (FrI p M :: fr) w) : Calls Try.prog 74 #[frP p] w fun e w' => ∃ q, e = .returned (frP q) ∧ St H (FrI q M :: FrI p M :: fr) w' ∧ Env w w' := by
  obtain ⟨F, L, s, ⟨h1, h2⟩, h3⟩ := frOpen h
  have hLM : L.length ≤ M.length := by have := h1.count; omega
  have hndL := Lib.hid (set_nodup h3.swap)
  obtain ⟨a0, a1, a2, a3, a4, a5, a6, a7, rfl⟩ := len8 h1.len
  have kk : ∀ (l : List HA) (w' : World), St H (Blk p (frC [a0, a1, a2, a3, a4, a5, a6, a7] s) 160 :: l) w' → w'.cell? ⟨p, 0, none⟩ = some (.int .i64 (a0 : Int)) ∧ w'.cell? ⟨p, 1, none⟩ = some (.int .i64 (a1 : Int)) ∧ w'.cell? ⟨p, 2, none⟩ = some (.int .i64 (a2 : Int)) ∧ w'.cell? ⟨p, 3, none⟩ = some (.int .i64 (a3 : Int)) ∧ w'.cell? ⟨p, 4, none⟩ = some (.int .i64 (a4 : Int)) ∧ w'.cell? ⟨p, 5, none⟩ = some (.int .i64 (a5 : Int)) ∧ w'.cell? ⟨p, 6, none⟩ = some (.int .i64 (a6 : Int)) ∧ w'.cell? ⟨p, 7, none⟩ = some (.int .i64 (a7 : Int)) ∧ w'.cell? ⟨p, 8, none⟩ = some (setP s) :=
    fun l w' h => ⟨h.blk_cell 0, h.blk_cell 1, h.blk_cell 2, h.blk_cell 3, h.blk_cell 4, h.blk_cell 5, h.blk_cell 6, h.blk_cell 7, h.blk_cell 8⟩
  have cl := h3.blk_lt
  have hd := h3.drew
  have k3 := kk _ _ hd
  have end0 := (Env.refl w).drew
  have h1h := Lib.hid h1
  have h2h := Lib.hid h2
  clear h h1 h2
  go_enter Try.func74, Try.ntmps74
  go_wp2_with fail
  go_region_held3 (fun w' => w'.cell? ⟨p, 0, none⟩ = some (.int .i64 (a0 : Int)) ∧ w'.cell? ⟨p, 1, none⟩ = some (.int .i64 (a1 : Int)) ∧ w'.cell? ⟨p, 2, none⟩ = some (.int .i64 (a2 : Int)) ∧ w'.cell? ⟨p, 3, none⟩ = some (.int .i64 (a3 : Int)) ∧ w'.cell? ⟨p, 4, none⟩ = some (.int .i64 (a4 : Int)) ∧ w'.cell? ⟨p, 5, none⟩ = some (.int .i64 (a5 : Int)) ∧ w'.cell? ⟨p, 6, none⟩ = some (.int .i64 (a6 : Int)) ∧ w'.cell? ⟨p, 7, none⟩ = some (.int .i64 (a7 : Int)) ∧ w'.cell? ⟨p, 8, none⟩ = some (setP s))
    (first | exact k3 | exact k4 | exact k5 | exact k6)
    (first
      | (go_at_call 52; refine (list_any s L H _ _ hd.swap (by omega)).mono ?_; rintro e w4 ⟨v, R, rfl, h4, en4, hrR, hmR⟩; have k4 := kk _ _ (h4.pick 2 (by simp)))
      | (go_at_call 47; refine (setNew_any v R w4 (h4.row_rw (by omega))).mono ?_; rintro e w5 he; obtain ⟨s2, rfl, h5, en5⟩ := ResE.lift h4 he; have k5 := kk _ _ (h5.pick 3 (by simp)); have k6 := kk _ _ ((h5.alloc (.cells #[.int .i64 (a0 : Int), .int .i64 (a1 : Int), .int .i64 (a2 : Int), .int .i64 (a3 : Int), .int .i64 (a4 : Int), .int .i64 (a5 : Int), .int .i64 (a6 : Int), .int .i64 (a7 : Int), setP s2] 160)).pick 3 (by simp))))
  have h6 := h5.blk #[.int .i64 (a0 : Int), .int .i64 (a1 : Int), .int .i64 (a2 : Int), .int .i64 (a3 : Int), .int .i64 (a4 : Int), .int .i64 (a5 : Int), .int .i64 (a6 : Int), .int .i64 (a7 : Int), setP s2] 160
  have en6 := ((end0.trans en4).trans en5).alloc (.cells #[.int .i64 (a0 : Int), .int .i64 (a1 : Int), .int .i64 (a2 : Int), .int .i64 (a3 : Int), .int .i64 (a4 : Int), .int .i64 (a5 : Int), .int .i64 (a6 : Int), .int .i64 (a7 : Int), setP s2] 160)
  have hmD : ∀ a, a ∈ dedup R ↔ a ∈ L := fun a => by rw [dedup_mem, hmR]
  have hlD : (dedup R).length = L.length := by
    have u1 := sub_len (dedup R) L (dedup_nodup R [] List.nodup_nil) (fun a ha => (hmD a).1 ha)
    have u2 := sub_len L (dedup R) hndL.out (fun a ha => (hmD a).2 ha)
    omega
  have h7 := frShut (p := w5.heap.size) (s := s2) (F := [a0, a1, a2, a3, a4, a5, a6, a7]) (h1h.out.congr hmD hlD) (fun q hq hm => h2h.out q hq ((hmD _).1 hm)) h6
  have h8 := (h7.perm ((List.perm_append_comm (l₁ := [_, _]) (l₂ := [_, _])).append_right fr)).swap
  have h9 := frShut h1h.out h2h.out h8
  have h10 := (h9.swap.pick 2 (by simp)).drop
  clear h9 h8 h7 h6 h5 h4 h3 hd k3 k4 k5 k6 kk hmD hlD
  go_wp2_with fail
  go_ret
  exact ⟨w5.heap.size, rfl, h10, en6⟩
end Go.Proofs.Ytmdmekdmlkhchaa
