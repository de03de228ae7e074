/- Reference 02: Read. -/
import Derived.Test.YtcbckeoalmjcoaaDoorNumb
set_option linter.unusedVariables false
set_option linter.unusedSimpArgs false
set_option exponentiation.threshold 3000
namespace Go.Fl
open Ieee
theorem nearest_rung (s : Bool) (m : Nat) (p : Int) : rung (double.nearest s m p) ≤ top := by
  have key : ∀ r, r ≤ top → rung (double.word s r) ≤ top := fun r hr => by
    rw [(word_rung (s := s) (Nat.lt_of_le_of_lt hr (by decide))).1]; exact hr
  unfold Format.nearest
  split
  · exact key 0 (by decide)
  · refine key _ ?_
    rw [top_eq]
    exact Nat.min_le_right _ _
theorem inf_ok (s : Bool) : rung (double.word s double.infRung) ≤ top ∧ double.word s double.infRung < 18446744073709551616 := by
  obtain ⟨g1, g2, g3⟩ := word_rung (s := s) (show top < half by decide)
  exact ⟨by rw [top_eq, g1]; exact Nat.le_refl _, by rw [top_eq]; exact g3⟩
theorem mul_any {b : Nat} (hb : rung b ≤ top) : ∃ c, FloatKind.f64.format.mul 4611686018427387904 b = some c ∧ c < 18446744073709551616 ∧ rung c ≤ top := by
  by_cases h : rung b < top
  · refine ⟨double.nearest (false ^^ neg b) (B * mag (rung b)) (-51 + (-1074 + (plc (rung b) : Int))), ?_, nearest_lt _ _ _, nearest_rung _ _ _⟩
    show double.mul two b = _
    unfold Format.mul
    rw [read_two, read_num h]
    rfl
  · have h2 : rung b = top := by omega
    refine ⟨double.word (neg b ^^ false) double.infRung, ?_, (inf_ok _).2, (inf_ok _).1⟩
    show double.mul two b = _
    unfold Format.mul
    have hB : ¬ B = 0 := by decide
    rw [read_two, read_inf h2]
    simp only [Datum.product, if_neg hB, Option.map_some, Format.write]
theorem div_any {b : Nat} (hb : rung b ≤ top) : ∃ c, FloatKind.f64.format.div b 4611686018427387904 = some c ∧ c < 18446744073709551616 ∧ rung c ≤ top := by
  have hB : ¬ B = 0 := by decide
  by_cases h : rung b < top
  · have hd : ∃ s m p, ((double.read b).quotient (double.fractionBits + 2) (double.read two)) = some (.number s m p) := by
      rw [read_two, read_num h]
      simp only [Datum.quotient, if_neg hB]
      exact ⟨_, _, _, rfl⟩
    obtain ⟨s, m, p, hq⟩ := hd
    refine ⟨double.nearest s m p, ?_, nearest_lt _ _ _, nearest_rung _ _ _⟩
    show double.div b two = _
    unfold Format.div
    rw [hq]
    rfl
  · have h2 : rung b = top := by omega
    refine ⟨double.word (neg b ^^ false) double.infRung, ?_, (inf_ok _).2, (inf_ok _).1⟩
    show double.div b two = _
    unfold Format.div
    rw [read_two, read_inf h2]
    rfl
theorem div_z1 : FloatKind.f64.format.div 4607182418800017408 0 = some 9218868437227405312 := by decide +kernel
theorem div_z2 : FloatKind.f64.format.div 13830554455654793216 0 = some 18442240474082181120 := by decide +kernel
theorem div_z3 : FloatKind.f64.format.div 4607182418800017408 18442240474082181120 = some 9223372036854775808 := by decide +kernel
theorem div_z0 : FloatKind.f64.format.div 0 0 = none := by decide +kernel
theorem cut_nan (n : Nat) : ((n % 2) * 2 ^ 63 + 0x7ff0000000000000 + 1 + (n / 2) % (2 ^ 52 - 1)) < 18446744073709551616 ∧ top < rung ((n % 2) * 2 ^ 63 + 0x7ff0000000000000 + 1 + (n / 2) % (2 ^ 52 - 1)) := by
  have h1 : top = 0x7ff0000000000000 := rfl
  have h2 : half = 9223372036854775808 := rfl
  unfold rung
  rw [h1, h2]
  have hx : (n / 2) % (2 ^ 52 - 1) < 4503599627370495 := Nat.mod_lt _ (by decide)
  generalize (n / 2) % (2 ^ 52 - 1) = x at *
  rcases Nat.mod_two_eq_zero_or_one n with e | e <;> rw [e] <;> omega
end Go.Fl
namespace Go.Proofs.YtcbckeoalmjcoaaDoor
open Go.RowKit Go.Cw Go.Fl
theorem run_nan {P : Program} {t : TypeId} (w : World) : ∃ c, c < 18446744073709551616 ∧ top < rung c ∧ (binOp .quo t (.float .f64 0) (.float .f64 0)).run P w = .ok (.float .f64 c) w.drew := by
  obtain ⟨h1, h2⟩ := cut_nan (w.tape w.drawn (.nanBits .f64 0 0))
  refine ⟨_, h1, h2, ?_⟩
  simp [binOp, Op.floatArith, div_z0, Question.forced, Question.cut, Result.andThen]
theorem t_nanAny {c : Nat} (h : top < rung c) : txtL c = sNan.data.toList := txt_k (k := 0) (by unfold kindOf; rw [if_pos h]) rfl
theorem dec_head : ∀ (u : Nat), u ≠ 0 → (Lib.decDigits u).head? ≠ some 48 := by
  intro u
  induction u using Nat.strongRecOn with
  | _ u ih =>
    intro h0
    by_cases h : u < 10
    · rw [Lib.decDigits_one h]
      simp only [List.head?_cons, ne_eq, Option.some.injEq]
      intro e
      have := congrArg UInt8.toNat e
      simp at this
      omega
    · rw [dec_split h]
      have h1 := ih (u / 10) (by omega) (by omega)
      cases hl : Lib.decDigits (u / 10) with
      | nil => exact absurd hl (dec_ne _)
      | cons c r => rw [hl] at h1; exact h1
theorem digS_dec {u : Nat} (h : u < 10000000000000000) : digS (Lib.decDigits u) = some u := by
  have hl : (Lib.decDigits u).length ≤ 16 := by
    rw [Lib.decDigits_length]
    exact nDigits_le (k := 16) (by have : (10 : Nat) ^ 16 = 10000000000000000 := by decide
                                   omega) (by decide)
  have hl1 : 1 ≤ (Lib.decDigits u).length := by rw [Lib.decDigits_length]; exact Lib.nDigits_pos _
  unfold digS
  rw [if_neg, decFrom_dec]
  · simp
  · rintro (h1 | h1 | ⟨h1, h2⟩)
    · omega
    · omega
    · by_cases h0 : u = 0
      · subst h0
        rw [Lib.decDigits_one (by decide)] at h2
        simp at h2
      · exact dec_head u h0 h1
theorem numS_dec {u : Nat} (h : u < 10000000000000000) : numS (Lib.decDigits u) = some (u : Int) := by
  have hd := digS_dec h
  have hn := fun b => @dec_no u b
  have hne := dec_ne u
  revert hd hn hne
  generalize Lib.decDigits u = l
  intro hd hn hne
  cases l with
  | nil => exact absurd rfl hne
  | cons c r =>
    unfold numS
    rw [if_neg (hn c (by simp)).2.1, hd]
    rfl
theorem numS_itoa {n : Int} (h : n.natAbs < 10000000000000000) : numS (Lib.itoa n) = some n := by
  rcases itoa_cases n with ⟨u, rfl, he⟩ | ⟨u, hu, rfl, he⟩
  · rw [he]; exact numS_dec (by omega)
  · rw [he]
    unfold numS
    rw [if_pos rfl, numS_dec (by omega)]
    have : (0 : Int) < (u : Int) := by omega
    simp only [if_pos this]
/-- What is kept while a number is doubled or halved. -/
def Trk (x y e : Int) (c : Nat) : Prop := ∀ (g : Bool) (u t b : Nat), x = sg g u → y = (t : Int) - 1074 → Odd g u t b → ∃ k : Nat, (k : Int) = 1074 + (y - e) ∧ Odd g u k c
theorem Trk.start {x y : Int} (hx : x.natAbs ≤ 9007199254740992) : FloatKind.f64.nearest x < 18446744073709551616 ∧ rung (FloatKind.f64.nearest x) ≤ top ∧ Trk x y y (FloatKind.f64.nearest x) := by
  obtain ⟨s, r, h1, h2, h3, h4⟩ := word_of hx
  obtain ⟨g1, g2, g3⟩ := word_rung (s := s) (Nat.lt_trans h1 (show top < half by decide))
  rw [h3]
  refine ⟨g3, by rw [g1]; omega, fun g u t b hxe hye ho => ⟨1074, by omega, g3, by rw [g1]; exact h1, ?_, ho.odd, ho.small, ?_⟩⟩
  · rw [g2, h4, hxe]
    have := ho.odd
    unfold sg
    cases g <;> simp <;> omega
  · rw [g1, h2, hxe, sg_abs]; rfl
theorem Trk.up {x y e : Int} {c d : Nat} (h : Trk x y e c) (he : 0 < e) (hm : FloatKind.f64.format.mul 4611686018427387904 c = some d) : Trk x y (e - 1) d := fun g u t b hx hy ho => by
  obtain ⟨k, hk, h1⟩ := h g u t b hx hy ho
  have h2 : u * 2 ^ (k + 1) ≤ u * 2 ^ t := Nat.mul_le_mul_left _ (Nat.pow_le_pow_right (by decide) (by omega))
  obtain ⟨d', h3, h4⟩ := h1.up (Nat.lt_of_le_of_lt h2 ho.top)
  rw [hm] at h4
  cases h4
  exact ⟨k + 1, by omega, h3⟩
theorem Trk.down {x y e : Int} {c d : Nat} (h : Trk x y e c) (he : e < 0) (hy0 : -1074 ≤ y) (hm : FloatKind.f64.format.div c 4611686018427387904 = some d) : Trk x y (e + 1) d := fun g u t b hx hy ho => by
  obtain ⟨k, hk, h1⟩ := h g u t b hx hy ho
  obtain ⟨k', rfl⟩ : ∃ k', k = k' + 1 := ⟨k - 1, by omega⟩
  obtain ⟨d', h3, h4⟩ := h1.down
  rw [hm] at h4
  cases h4
  exact ⟨k', by omega, h3⟩
theorem Trk.done {x y : Int} {c : Nat} (h : Trk x y 0 c) : ∀ (g : Bool) (u t b : Nat), x = sg g u → y = (t : Int) - 1074 → Odd g u t b → c = b := fun g u t b hx hy ho => by
  obtain ⟨k, hk, h1⟩ := h g u t b hx hy ho
  obtain rfl : k = t := by omega
  exact h1.self ho
end Go.Proofs.YtcbckeoalmjcoaaDoor
