/- Reference 02: any number's digits. -/
import Derived.Test.YtcbckeoalmjcoaaDoorDigits
import Derived.Lib.ItoaMem
import Derived.Lib.ItoaLen
set_option linter.unusedVariables false
set_option linter.unusedSimpArgs false
namespace Go.Proofs.YtcbckeoalmjcoaaDoor
open Go.RowKit Go.Cw
theorem dec_split {u : Nat} (h : ¬ u < 10) : Lib.decDigits u = Lib.decDigits (u / 10) ++ Lib.decDigits (u % 10) := by
  rw [Lib.decDigits_one (show u % 10 < 10 by omega)]
  exact (Lib.decDigits.eq_1 u).trans (dif_neg h)
set_option maxRecDepth 100000 in
theorem digitsN_any (u : Nat) (hu : u < 9223372036854775808) (h0 : u ≠ 0) (w : World) :
    Calls Tryd.prog 42 #[.int .i64 (-(u : Int))] w fun e w' => e = .returned (.string ⟨(Lib.itoa (-(u : Int))).toArray⟩) ∧ Below w.heap.size w w' := by
  induction u using Nat.strongRecOn generalizing w with
  | _ u ih =>
    have hfin : ∀ (s : ByteArray) (w' : World), s = ⟨(Lib.itoa (-(u : Int))).toArray⟩ → Below w.heap.size w w' → (fun (e : Ending) (w' : World) => e = .returned (.string ⟨(Lib.itoa (-(u : Int))).toArray⟩) ∧ Below w.heap.size w w') (.returned (.string s)) w' := fun s w' h1 h2 => ⟨by rw [h1], h2⟩
    generalize (fun (e : Ending) (w' : World) => e = .returned (.string ⟨(Lib.itoa (-(u : Int))).toArray⟩) ∧ Below w.heap.size w w') = Q at *
    replace hfin := Lib.hid hfin
    by_cases h : u < 10
    · have h1 : ¬ (-(u : Int)) < -9 := by omega
      have h2 : (-(u : Int)) < 0 := by omega
      have h3 : wrap64 (-(-(u : Int))) = (u : Int) := by unfold wrap64; omega
      have h4 : -(-(u : Int)) = (u : Int) := by omega
      have hD := Lib.hid (digits_any u hu w)
      have hl := dec_len hu
      have f1 : ¬ 9223372036854775807 < 1 + (Lib.decDigits u).length := by omega
      have hE : Hid (({ data := #[45] } : ByteArray) ++ ⟨(Lib.decDigits u).toArray⟩ = ⟨(Lib.itoa (-(u : Int))).toArray⟩) := Lib.hid (by
        rw [Lib.itoa_neg u (by omega), show ({ data := #[45] } : ByteArray) = ⟨([45] : List UInt8).toArray⟩ from rfl, ba_app]; rfl)
      replace hl := Lib.hid hl
      clear ih h hu h0
      generalize -(u : Int) = n at *
      generalize Lib.decDigits u = l at *
      go_enter Tryd.func42, Tryd.ntmps42
      go_wp2_with fail
      refine hD.out.mono ?_
      rintro e w1 ⟨rfl, hb1⟩
      have hz := Lib.hid (hfin.out _ _ hE.out hb1)
      clear hD hfin hE hb1
      go_wp2_with fail
      exact hz.out
    · have h1 : (-(u : Int)) < -9 := by omega
      obtain ⟨q, hq⟩ : ∃ q, q = u / 10 := ⟨_, rfl⟩
      obtain ⟨d, hd⟩ : ∃ d, d = u % 10 := ⟨_, rfl⟩
      have e1 : Int.tdiv (-(u : Int)) 10 = -(q : Int) := by rw [Int.neg_tdiv, Int.tdiv_eq_ediv_of_nonneg (by omega)]; omega
      have e2 : wrap64 (-(q : Int)) = -(q : Int) := by unfold wrap64; omega
      have e3 : Int.tmod (-(u : Int)) 10 = -(d : Int) := by rw [Int.neg_tmod, Int.tmod_eq_emod_of_nonneg (by omega)]; omega
      have e4 : wrap64 (-(-(d : Int))) = (d : Int) := by unfold wrap64; omega
      have e5 : -(-(d : Int)) = (d : Int) := by omega
      have e6 : wrap64 (d : Int) = (d : Int) := by unfold wrap64; omega
      have ihq := fun w => Lib.hid (ih q (by omega) (by omega) (by omega) w)
      have hD := fun w => Lib.hid (digits_any d (by omega) w)
      have l1 := Lib.itoa_length_le (-(q : Int)) (by omega) (by omega)
      have l2 := dec_len (show d < 9223372036854775808 by omega)
      have f1 : ¬ 9223372036854775807 < (Lib.itoa (-(q : Int))).length + (Lib.decDigits d).length := by omega
      have hE : Hid ((⟨(Lib.itoa (-(q : Int))).toArray⟩ : ByteArray) ++ ⟨(Lib.decDigits d).toArray⟩ = ⟨(Lib.itoa (-(u : Int))).toArray⟩) := Lib.hid (by
        rw [ba_app, Lib.itoa_neg u (by omega), Lib.itoa_neg q (by omega), dec_split h, hq, hd]; rfl)
      replace l1 := Lib.hid l1
      replace l2 := Lib.hid l2
      clear ih hq hd h hu h0
      generalize -(u : Int) = n at *
      generalize -(q : Int) = n2 at *
      generalize Lib.itoa n2 = lm at *
      generalize -(d : Int) = n3 at *
      generalize Lib.decDigits d = ld at *
      go_enter Tryd.func42, Tryd.ntmps42
      go_wp2_with fail
      refine (ihq _).out.mono ?_
      rintro e w1 ⟨rfl, hb1⟩
      go_wp2_with fail
      refine (hD _).out.mono ?_
      rintro e w2 ⟨rfl, hb2⟩
      have hz := Lib.hid (hfin.out _ _ hE.out (hb1.trans (hb2.mono hb1.size)))
      clear hD hfin hE hb1 hb2 ihq
      go_wp2_with fail
      exact hz.out
theorem digitsZ_any (n : Int) (h0 : -9223372036854775808 < n) (h1 : n < 9223372036854775808) (w : World) :
    Calls Tryd.prog 42 #[.int .i64 n] w fun e w' => e = .returned (.string ⟨(Lib.itoa n).toArray⟩) ∧ Below w.heap.size w w' := by
  by_cases h : 0 ≤ n
  · obtain ⟨u, rfl⟩ : ∃ u : Nat, n = (u : Int) := ⟨n.toNat, by omega⟩
    rw [Lib.itoa_nonneg]
    exact digits_any u (by omega) w
  · obtain ⟨u, rfl⟩ : ∃ u : Nat, n = -(u : Int) := ⟨n.natAbs, by omega⟩
    exact digitsN_any u (by omega) (by omega) w
end Go.Proofs.YtcbckeoalmjcoaaDoor
