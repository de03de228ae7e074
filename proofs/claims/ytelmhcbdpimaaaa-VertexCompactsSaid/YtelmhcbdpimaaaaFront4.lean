/- Ids marked: what a front tells. -/
import Derived.Test.YtelmhcbdpimaaaaFront3
set_option linter.unusedVariables false
set_option linter.unusedSimpArgs false
namespace Go.Proofs.Ytelmhcbdpimaaaa
open Go.RowKit Go.Cw
attribute [local go_sem ↓] eql_id neq_id
/-- n is the floor of replica r. -/
def FlP (M : List Id) (r : Int) (n : Nat) : Prop := (∀ m : Nat, 1 ≤ m → m ≤ n → (r, (m : Int)) ∈ M) ∧ (r, ((n + 1 : Nat) : Int)) ∉ M
theorem FlP.one {M : List Id} {r : Int} {n m : Nat} (h : FlP M r n) (h' : FlP M r m) : n = m := by
  rcases Nat.lt_trichotomy n m with h1 | h1 | h1
  · exact absurd (h'.1 (n + 1) (by omega) h1) h.2
  · exact h1
  · exact absurd (h.1 (m + 1) (by omega) h1) h'.2
theorem FI.floor {M : List Id} {F : List Nat} {L : List Id} (h : FI M F L) (hC : ∀ q, q < 8 → FC F L q) (r : Nat) (hr : r < 8) : FlP M r (F.getD r 0) := by
  refine ⟨fun m h1 h2 => h.under r m hr h1 h2, fun hm => ?_⟩
  rcases h.all _ hm with h1 | h1
  · exact hC r hr h1
  · simp only [Int.toNat_natCast] at h1
    omega
theorem FI.floorA {M : List Id} {F : List Nat} {L : List Id} (h : FI M F L) (hC : ∀ q, q < 8 → FC F L q) (a : Id) (ha : a ∈ M) : FlP M a.1 (F.getD a.1.toNat 0) := by
  have hk := (idOk_iff a).1 (h.ok a ha)
  have := h.floor hC a.1.toNat (by omega)
  rwa [show ((a.1.toNat : Nat) : Int) = a.1 by omega] at this
set_option maxRecDepth 100000 in
theorem frFloor_nil (i : Int) (w : World) : Calls Try.prog 84 #[.pointer none, .int .i64 i] w fun e w' => e = .returned (.int .i64 0) ∧ w = w' := by
  go_enter Try.func84, Try.ntmps84
  go_wp2_with fail
  go_ret
  exact ⟨rfl, rfl⟩
set_option maxRecDepth 100000 in
theorem frFloor_out (p : Nat) (i : Int) (hi : i < 0 ∨ 8 ≤ i) (w : World) : Calls Try.prog 84 #[frP p, .int .i64 i] w fun e w' => e = .returned (.int .i64 0) ∧ w = w' := by
  rcases hi with hi | hi
  · go_enter Try.func84, Try.ntmps84
    go_wp2_with fail
    go_ret
    exact ⟨rfl, rfl⟩
  · have hi' : ¬ i < 0 := by omega
    go_enter Try.func84, Try.ntmps84
    go_wp2_with fail
    go_ret
    exact ⟨rfl, rfl⟩
set_option maxRecDepth 100000 in
theorem frFloor_in (p r : Nat) (hr : r < 8) (M : List Id) (H : Hp) (fr : List HA) (w : World) (h : St H (FrI p M :: fr) w) : Calls Try.prog 84 #[frP p, .int .i64 (r : Int)] w fun e w' => ∃ n : Nat, e = .returned (.int .i64 (n : Int)) ∧ w = w' ∧ FlP M r n := by
  obtain ⟨F, L, s, ⟨h1, h2⟩, h3⟩ := frOpen h
  have cr := h3.blk_cell r
  rw [frC_get F s r (by rw [h1.len]; omega)] at cr
  have cl := h3.blk_lt
  have hf := h1.floor h2 r hr
  have hr1 : ¬ (r : Int) < 0 := by omega
  have hr2 : ¬ (8 : Int) ≤ (r : Int) := by omega
  have hr3 : (r : Int) < 8 := by omega
  have hr4 : (0 : Int) ≤ (r : Int) := by omega
  obtain ⟨f, hf'⟩ : ∃ f, Hid (f = F.getD r 0) := ⟨_, Lib.hid rfl⟩
  rw [← hf'.out] at cr hf
  clear h1 h2 h3 h
  replace hf := Lib.hid hf
  go_enter Try.func84, Try.ntmps84
  go_wp2_with fail
  go_ret
  exact ⟨f, rfl, rfl, hf.out⟩
/-- What stands above the floors. -/
def AbP (M R : List Id) : Prop := Rises R ∧ ∀ a, a ∈ R ↔ (a ∈ M ∧ ∀ n, FlP M a.1 n → (n : Int) < a.2)
theorem AbP.one {M R S : List Id} (h : AbP M R) (h' : AbP M S) : R = S := rises_eq h.1 h'.1 (fun a => by rw [h.2, h'.2])
theorem len8 {F : List Nat} (h : F.length = 8) : ∃ a b c d e f g i, F = [a, b, c, d, e, f, g, i] := by
  match F, h with
  | [a, b, c, d, e, f, g, i], _ => exact ⟨a, b, c, d, e, f, g, i, rfl⟩
theorem aget {arr : Array Value} {i : Nat} {hi : i < arr.size} (k : Nat) (v : Value) (hk : i = k) (hv : arr[k]? = some v) : arr[i] = v := by
  subst hk
  rw [Array.getElem?_eq_getElem hi] at hv
  exact Option.some.inj hv
set_option maxRecDepth 100000 in
theorem frNew (w : World) : Calls Try.prog 81 #[] w (ResE (snap w) [] w (fun p => frP p) (fun p => [FrI p []])) := by
  go_enter Try.func81, Try.ntmps81
  go_wp2_with fail
  refine (setNew_any (.slice none 0 0) [] w (Rw.nil _ _)).mono ?_
  rintro e w2 ⟨s, rfl, h2, en2⟩
  have h3 := h2.blk (frC [0, 0, 0, 0, 0, 0, 0, 0] s) 147
  have en3 := en2.alloc (.cells (frC [0, 0, 0, 0, 0, 0, 0, 0] s) 147)
  have hF : FI [] [0, 0, 0, 0, 0, 0, 0, 0] [] := ⟨rfl, List.Pairwise.nil, fun a ha => by simp at ha, fun a ha => by simp at ha, fun a ha => by simp at ha, fun r n hr h1 h2 => by
    rcases (by omega : r = 0 ∨ r = 1 ∨ r = 2 ∨ r = 3 ∨ r = 4 ∨ r = 5 ∨ r = 6 ∨ r = 7) with rfl | rfl | rfl | rfl | rfl | rfl | rfl | rfl <;> (simp at h2; omega), rfl⟩
  have h4 := frShut (p := w2.heap.size) (s := s) (M := []) (L := []) hF (fun q hq hm => by simp at hm) h3
  have h5 : St (snap w) [FrI w2.heap.size []] (w2.alloc (.cells #[.int .i64 0, .int .i64 0, .int .i64 0, .int .i64 0, .int .i64 0, .int .i64 0, .int .i64 0, .int .i64 0, setP s] 147)) := h4
  have en5 : Env w (w2.alloc (.cells #[.int .i64 0, .int .i64 0, .int .i64 0, .int .i64 0, .int .i64 0, .int .i64 0, .int .i64 0, .int .i64 0, setP s] 147)) := en3
  clear h4 h3 en3 hF
  go_wp2_with fail
  go_ret
  exact ⟨w2.heap.size, rfl, h5, en5⟩
theorem dedup_nodup : ∀ (l acc : List Id), acc.Nodup → (l.foldl (fun L a => addL a L) acc).Nodup
  | [], acc, h => h
  | x :: r, acc, h => by
    refine dedup_nodup r _ ?_
    show (addL x acc).Nodup
    unfold addL
    split
    · exact h
    · rename_i hx
      exact List.nodup_append.2 ⟨h, by simp, fun a ha b hb e => by rw [List.mem_singleton] at hb; subst hb; subst e; exact hx ha⟩
theorem FI.congr {M : List Id} {F : List Nat} {L L' : List Id} (h : FI M F L) (hm : ∀ a, a ∈ L' ↔ a ∈ L) (hl : L'.length = L.length) : FI M F L' :=
  ⟨h.len, h.rises, h.ok, fun a ha => h.above a ((hm a).1 ha), fun a ha => (h.all a ha).imp_left (hm a).2, h.under, by rw [hl]; exact h.count⟩
end Go.Proofs.Ytelmhcbdpimaaaa
