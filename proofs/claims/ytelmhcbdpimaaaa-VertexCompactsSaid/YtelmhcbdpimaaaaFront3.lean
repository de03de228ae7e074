/- Ids marked: the contracts of the package over the list of what is marked. -/
import Derived.Test.YtelmhcbdpimaaaaFront2
set_option linter.unusedVariables false
set_option linter.unusedSimpArgs false
namespace Go.Proofs.Ytelmhcbdpimaaaa
open Go.RowKit Go.Cw
attribute [local go_sem ↓] eql_id neq_id
def FrI (p : Nat) (M : List Id) : HA := Ex fun F => Ex fun L => Ex fun s => Pu (FI M F L ∧ ∀ q, q < 8 → FC F L q) (Star (Blk p (frC F s) 147) (SetA s L))
theorem frOpen {H : Hp} {fr : List HA} {w : World} {p : Nat} {M : List Id} (h : St H (FrI p M :: fr) w) : ∃ F L s, (FI M F L ∧ ∀ q, q < 8 → FC F L q) ∧ St H (Blk p (frC F s) 147 :: SetA s L :: fr) w := by
  obtain ⟨F, h1⟩ := h.openEx
  obtain ⟨L, h2⟩ := h1.openEx
  obtain ⟨s, h3⟩ := h2.openEx
  obtain ⟨h4, h5⟩ := h3.openPu
  exact ⟨F, L, s, h4, h5.openStar⟩
theorem frShut {H : Hp} {fr : List HA} {w : World} {p s : Nat} {M L : List Id} {F : List Nat} (h1 : FI M F L) (h2 : ∀ q, q < 8 → FC F L q) (h : St H (Blk p (frC F s) 147 :: SetA s L :: fr) w) : St H (FrI p M :: fr) w :=
  St.shutEx F (St.shutEx L (St.shutEx s (h.shutStar.shutPu ⟨h1, h2⟩)))
theorem frHas (p : Nat) (M : List Id) (a : Id) (H : Hp) (fr : List HA) (w : World) (h : St H (FrI p M :: fr) w) :
    Calls Try.prog 85 #[frP p, idV a] w fun e w' => e = .returned (.bool (decide (a ∈ M))) ∧ Below w.heap.size w w' := by
  obtain ⟨F, L, s, ⟨h1, h2⟩, h3⟩ := frOpen h
  by_cases hok : idOk a = true
  · have hh := h1.has a hok
    have hk := (idOk_iff a).1 hok
    obtain ⟨a1, t⟩ := a
    simp only at hk
    obtain ⟨r, rfl⟩ : ∃ r : Nat, a1 = r := ⟨a1.toNat, by omega⟩
    rw [← hh]
    exact frHas_core p s F L h1.len r t (by omega) hk.2.2.1 hk.2.2.2 H fr w h3
  · have hno : a ∉ M := fun hm => hok (h1.ok a hm)
    rw [decide_eq_false hno]
    exact frHas_bad p a (by simpa using hok) w
def mayM (a : Id) (M : List Id) : Bool := idOk a && !decide (a ∈ M)
def markL (a : Id) (M : List Id) : List Id := if mayM a M then ins a M else M
set_option maxRecDepth 100000 in
theorem frMark_nil (a : Id) (w : World) : Calls Try.prog 83 #[.pointer none, idV a] w fun e w' => e = .returned (.bool false) ∧ Below w.heap.size w w' := by
  have hb := boxBelow w (.cells #[.int .i64 a.1, .int .i64 a.2] 28)
  go_enter Try.func83, Try.ntmps83
  go_wp2_with fail
  go_ret
  exact ⟨rfl, hb⟩
set_option maxRecDepth 100000 in
set_option maxHeartbeats 800000 in
theorem frMark (p : Nat) (M : List Id) (a : Id) (H : Hp) (fr : List HA) (w : World) (h : St H (FrI p M :: fr) w) :
    Calls Try.prog 83 #[frP p, idV a] w (Res H fr w (.bool (mayM a M)) [FrI p (markL a M)]) := by
  by_cases hok : idOk a = true
  · obtain ⟨Hb, lb, h2, hx⟩ := h.box #[.int .i64 a.1, .int .i64 a.2] 28
    have y0 := hx 0 _ rfl
    have y1 := hx 1 _ rfl
    have en2 := (Env.refl w).alloc (.cells #[.int .i64 a.1, .int .i64 a.2] 28)
    clear hx
    by_cases hm : a ∈ M
    · have hN : Hid (mayM a M = false) := Lib.hid (by unfold mayM; rw [decide_eq_true hm]; simp)
      have hL : Hid (markL a M = M) := Lib.hid (by unfold markL; rw [hN.out]; rfl)
      have hd := Lib.hid (decide_eq_true hm)
      have hokh := Lib.hid hok
      clear hm hok
      go_enter Try.func83, Try.ntmps83
      go_wp2_with fail
      refine (check_ok a hokh.out _).mono ?_
      rintro e w3 ⟨rfl, hb3⟩
      have h3 := h2.below hb3
      have en3 := en2.trans (bel_env hb3)
      clear h2 hb3
      have x0 := h3.cell y0
      have x1 := h3.cell y1
      have xl := World.block_lt_of_cell? _ _ x0
      go_wp2_with fail
      refine (frHas p M a Hb _ _ h3).mono ?_
      rintro e w4 ⟨rfl, hb4⟩
      rw [hd.out]
      go_wp2_with fail
      go_ret
      exact ⟨rb hN.out.symm, by rw [hL.out]; exact (h3.below hb4).weaken lb, en3.trans (bel_env hb4)⟩
    · have hN : Hid (mayM a M = true) := Lib.hid (by unfold mayM; rw [decide_eq_false hm, hok]; rfl)
      have hL : Hid (markL a M = ins a M) := Lib.hid (by unfold markL; rw [hN.out]; rfl)
      have hd := Lib.hid (decide_eq_false hm)
      have hokh := Lib.hid hok
      have hmh := Lib.hid hm
      clear hm hok
      go_enter Try.func83, Try.ntmps83
      go_wp2_with fail
      refine (check_ok a hokh.out _).mono ?_
      rintro e w3 ⟨rfl, hb3⟩
      have h3 := h2.below hb3
      have en3 := en2.trans (bel_env hb3)
      clear h2 hb3
      generalize w.heap.size = gb at *
      have x0 := h3.cell y0
      have x1 := h3.cell y1
      have xl := World.block_lt_of_cell? _ _ x0
      go_wp2_with fail
      refine (frHas p M a Hb _ _ h3).mono ?_
      rintro e w4 ⟨rfl, hb4⟩
      rw [hd.out]
      have h4 := h3.below hb4
      have en4 := en3.trans (bel_env hb4)
      clear h3 hb4 x0 x1 xl
      obtain ⟨F, L, s, hFI, h5⟩ := frOpen h4
      replace hFI := Lib.hid hFI
      have x0 := h5.cell y0
      have x1 := h5.cell y1
      have xl := World.block_lt_of_cell? _ _ x0
      have c8 := h5.blk_cell 8
      rw [frC_ptr F s hFI.out.1.len] at c8
      have cl := h5.blk_lt
      go_wp2_with fail
      go_still_tail 5, (by kernel_rfl)
      change wpList _ _ _ _ _ w4.drew
      go_wp2_with fail
      refine (setAdd_any s L a Hb _ _ h5.drew.swap).mono ?_
      rintro e w6 ⟨rfl, h6, en6⟩
      have hnL : a ∉ L := fun hl => hmh.out (hFI.out.1.above a hl).1
      have hadd : addL a L = L ++ [a] := if_neg hnL
      rw [hadd] at h6
      replace hnL := Lib.hid hnL
      clear hadd x0 x1 xl c8 cl
      have x0 := h6.cell y0
      have x1 := h6.cell y1
      have xl := World.block_lt_of_cell? _ _ x0
      obtain ⟨r, hr⟩ : ∃ r : Nat, Hid (a.1 = r) := ⟨a.1.toNat, Lib.hid (by have := (idOk_iff a).1 hokh.out; omega)⟩
      have hr8 : r < 8 := by have := (idOk_iff a).1 hokh.out; have := hr.out; omega
      have hFN := Lib.hid (hFI.out.1.add a hokh.out hmh.out)
      have hCN : Hid (∀ q, q < 8 → q ≠ r → FC F (L ++ [a]) q) := Lib.hid (fun q hq hqr hm => by
        rcases List.mem_append.1 hm with h1 | h1
        · exact hFI.out.2 q hq h1
        · rw [List.mem_singleton] at h1
          have := congrArg Prod.fst h1
          simp only at this
          rw [hr.out] at this
          omega)
      go_wp2_with fail
      rw [hr.out]
      refine (frRaise p s (ins a M) F (L ++ [a]) r hr8 hFN.out hCN.out Hb _ _ h6.swap).mono ?_
      rintro e w7 ⟨rfl, en7, F', L', hF', hC', h7⟩
      go_wp2_with fail
      go_ret
      exact ⟨rb hN.out.symm, by rw [hL.out]; exact (frShut hF' hC' h7).weaken lb, ((en4.drew.trans en6).trans en7)⟩
  · have hN : Hid (mayM a M = false) := Lib.hid (by unfold mayM; simp [hok])
    have hL : Hid (markL a M = M) := Lib.hid (by unfold markL; rw [hN.out]; rfl)
    have hb := boxBelow w (.cells #[.int .i64 a.1, .int .i64 a.2] 28)
    have hok' := Lib.hid (show idOk a = false by simpa using hok)
    clear hok
    go_enter Try.func83, Try.ntmps83
    go_wp2_with fail
    refine (check_bad a hok'.out _).mono ?_
    rintro e w3 ⟨⟨n, rfl, hn⟩, hb3⟩
    have hb4 := hb.trans (hb3.mono hb.size)
    go_wp2_with fail
    go_ret
    exact ⟨rb hN.out.symm, by rw [hL.out]; exact h.below hb4, bel_env hb4⟩
end Go.Proofs.Ytelmhcbdpimaaaa
