/- Joined texts: GraphL. -/
import Derived.Test.YtohgcghobidfpaaGG25
import Derived.Test.YtohgcghobidfpaaGG29
/- Records that are made out of a seed: what the law asks of them. -/
set_option linter.unusedVariables false
set_option linter.unusedSimpArgs false
namespace Go.Proofs.Ytohgcghobidfpaa
open Go.RowKit Go.Cw Go.Fl
theorem sub_lenG {α : Type} [DecidableEq α] : ∀ (L M : List α), L.Nodup → (∀ a, a ∈ L → a ∈ M) → L.length ≤ M.length
  | [], M, _, _ => by simp
  | a :: L, M, hn, hs => by
    obtain ⟨h1, h2⟩ := List.nodup_cons.1 hn
    have ha := hs a (by simp)
    have := sub_lenG L (M.erase a) h2 (fun b hb => (List.mem_erase_of_ne (fun e => h1 (by rw [← e]; exact hb))).2 (hs b (List.mem_cons_of_mem _ hb)))
    rw [List.length_erase_of_mem ha] at this
    have := List.length_pos_of_mem ha
    simp only [List.length_cons]
    omega
/-- What the law asks of the records made. -/
structure Made (N KN : Nat) (X : List Rp) : Prop where
  len : X.length = N
  fine : fineL X = X
  fits : Fits X
  mend : Mended X
  few : ∀ y ∈ X, y.2.2.1.length < 16
  clo : ∀ a ∈ pids X, Clo X a
  key : ∀ y ∈ X, ∀ c ∈ y.2.2.2, ∃ k : Nat, k < KN ∧ c.2.1 = kTx (k : Int)
  one : ∀ y ∈ X, y.2.2.2.length ≤ 1
theorem made (N KN : Nat) (hN1 : 1 ≤ N) (hN2 : N ≤ 64) (hK1 : 1 ≤ KN) (hK2 : KN ≤ 9) (s0 : Int) : Made N KN (mendL (fineL (genM (N : Int) (KN : Int) s0 N).2.2)) := by
  have hf := gen_fits N KN hN1 hN2 hK1 hK2 s0
  obtain ⟨h1, h2⟩ := gen_all N KN hN1 hN2 hK1 hK2 s0 N (Nat.le_refl _)
  obtain ⟨h3, h4, h5⟩ := gen_mend N KN hN1 hN2 hK1 hK2 s0 N (Nat.le_refl _)
  obtain ⟨h6, h7, h8⟩ := mendL_ok _ hf
  have hl := (genM_len (N : Int) (KN : Int) s0 N).2
  rw [fineL_id _ hf]
  generalize (genM (N : Int) (KN : Int) s0 N).2.2 = F at *
  have hX := mendL_len F
  generalize mendL F = X at *
  rw [h2] at h8
  have hB : ∀ y ∈ X, ∃ x ∈ F, x.2.2.2 = y.2.2.2 := by
    intro y hy
    have : y.2.2.2 ∈ X.map (fun x => x.2.2.2) := List.mem_map.2 ⟨y, hy, rfl⟩
    rw [h4] at this
    obtain ⟨x, hx, he⟩ := List.mem_map.1 this
    exact ⟨x, hx, he⟩
  refine ⟨by rw [hX, hl], fineL_id X h6, h6, h7, fun y hy => (h3 y hy).1, fun a ha b hb => ?_, fun y hy c hc => ?_, fun y hy => ?_⟩
  · refine Rch.closed (P := fun b => b ∈ pids X) (fun c hc => ?_) (fun c hc d hd => ?_) hb
    · rw [List.mem_singleton] at hc
      rw [hc]; exact ha
    · rw [h8]
      obtain ⟨y, hy, hd⟩ := List.mem_flatMap.1 (dpsR_mem hd)
      exact (h3 y hy).2 d hd
  · obtain ⟨x, hx, he⟩ := hB y hy
    rw [← he] at hc
    rcases (h1 x hx).bat with e | ⟨k, K, f, h0, h9, e⟩
    · rw [e] at hc; cases hc
    · rw [e, List.mem_singleton] at hc
      refine ⟨k.toNat, by omega, ?_⟩
      rw [hc, Int.toNat_of_nonneg h0]
  · obtain ⟨x, hx, he⟩ := hB y hy
    rw [← he]
    rcases (h1 x hx).bat with e | ⟨k, K, f, h0, h9, e⟩ <;> rw [e] <;> simp
/-- The records made have at most so many keys. -/
theorem Made.keys {N KN : Nat} {X : List Rp} (h : Made N KN X) {l : List Cm} (hl : ∀ c ∈ l, ∃ y ∈ X, c ∈ y.2.2.2) {k : Nat} {K : List ByteArray} (hK : KeyS l k K) : K.length ≤ KN := by
  have := (@sub_lenG ByteArray (fun a b => Classical.propDecidable (a = b))) K ((List.range KN).map (fun k : Nat => kTx (k : Int))) hK.nd (fun s hs => by
    obtain ⟨c, hc, rfl⟩ := hK.of s hs
    obtain ⟨y, hy, hcy⟩ := hl c hc
    obtain ⟨k, hk, he⟩ := h.key y hy c hcy
    exact List.mem_map.2 ⟨k, List.mem_range.2 hk, he.symm⟩)
  simpa using this
/-- All of them are closed. -/
theorem Made.closed {N KN : Nat} {M : List Rc} (h : Made N KN (M.map rp)) {C : List Id} (hr : Rises C) (hC : ∀ a, a ∈ C ↔ (a ∈ rids M ∧ Clo (M.map rp) a)) : C.length = N := by
  have hnd : (rids M).Nodup := by have := h.fits.2; rwa [pids, ← rids_rp] at this
  have hm : ∀ a, a ∈ C ↔ a ∈ rids M := fun a => by
    rw [hC a]
    refine ⟨fun q => q.1, fun q => ⟨q, h.clo a (by rw [pids, ← rids_rp]; exact q)⟩⟩
  have h1 := sub_len16 C (rids M) (rises_nodup hr) (fun a ha => (hm a).1 ha)
  have h2 := sub_len16 (rids M) C hnd (fun a ha => (hm a).2 ha)
  have h3 := h.len
  rw [List.length_map] at h3
  have h4 : (rids M).length = M.length := by simp [rids]
  omega
set_option maxRecDepth 100000 in
set_option maxHeartbeats 8000000 in
/-- Out of range: no records. -/
theorem graph_out (seed n keys : Int) (hb : n < 1 ∨ 64 < n ∨ keys < 1 ∨ 9 < keys) (w : World) :
    Calls Try.prog 4 #[.int .u64 seed, .int .i64 n, .int .i64 keys] w fun e w' => e = .returned (.slice none 0 0) ∧ w = w' := by
  have hfin : Hid ((fun (e : Ending) (w' : World) => e = .returned (.slice none 0 0) ∧ w = w') (.returned (.slice none 0 0)) w) := Lib.hid ⟨rfl, rfl⟩
  generalize (fun (e : Ending) (w' : World) => e = .returned (.slice none 0 0) ∧ w = w') = Q at *
  by_cases h1 : n < 1
  · go_enter Try.func4, Try.ntmps4
    go_wp2_with fail
    exact hfin.out
  · by_cases h2 : 64 < n
    · go_enter Try.func4, Try.ntmps4
      go_wp2_with fail
      exact hfin.out
    · by_cases h3 : keys < 1
      · go_enter Try.func4, Try.ntmps4
        go_wp2_with fail
        exact hfin.out
      · have h4 : 9 < keys := by omega
        go_enter Try.func4, Try.ntmps4
        go_wp2_with fail
        exact hfin.out
end Go.Proofs.Ytohgcghobidfpaa
