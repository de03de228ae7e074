/- Numbers' texts: cut, read; a text tells the number. Plain. -/
import Derived.Test.YtcbckeoalmjcoaaDoorRefTxt
import Derived.Lib.ParseIntBCases
set_option linter.unusedVariables false
set_option linter.unusedSimpArgs false
namespace Go.Proofs.YtcbckeoalmjcoaaDoor
open Go.RowKit Go.Cw Go.Fl
theorem dec_no {u : Nat} {b : UInt8} (h : b ∈ Lib.decDigits u) : b ≠ 112 ∧ b ≠ 45 ∧ b ≠ 43 := by
  have := dec_digit h
  refine ⟨?_, ?_, ?_⟩ <;> (rintro rfl; revert this; decide)
theorem itoa_cases (n : Int) : (∃ u : Nat, n = (u : Int) ∧ Lib.itoa n = Lib.decDigits u) ∨ ∃ u : Nat, 1 ≤ u ∧ n = -(u : Int) ∧ Lib.itoa n = 45 :: Lib.decDigits u := by
  by_cases h : 0 ≤ n
  · exact .inl ⟨n.toNat, by omega, by obtain ⟨u, rfl⟩ : ∃ u : Nat, n = (u : Int) := ⟨n.toNat, by omega⟩
                                      exact Lib.itoa_nonneg u⟩
  · exact .inr ⟨n.natAbs, by omega, by omega, by
      obtain ⟨u, rfl⟩ : ∃ u : Nat, n = -(u : Int) := ⟨n.natAbs, by omega⟩
      rw [Lib.itoa_neg u (by omega)]
      simp⟩
theorem itoa_no {n : Int} {b : UInt8} (h : b ∈ Lib.itoa n) : b ≠ 112 := by
  rcases itoa_cases n with ⟨u, -, he⟩ | ⟨u, -, -, he⟩
  · rw [he] at h; exact (dec_no h).1
  · rw [he] at h
    rcases List.mem_cons.1 h with rfl | h
    · decide
    · exact (dec_no h).1
theorem index_p : ∀ (l m : List UInt8), (∀ b ∈ l, b ≠ 112) → Lib.index (l ++ 112 :: m) [112] = l.length
  | [], m, _ => by simp [Lib.index]
  | b :: r, m, h => by
    have hb := h b (by simp)
    have hr := index_p r m (fun c hc => h c (by simp [hc]))
    have e1 : (List.isPrefixOf [112] (b :: (r ++ 112 :: m))) = false := by
      simp [List.isPrefixOf]
      exact fun e => hb e.symm
    show Lib.index (b :: (r ++ 112 :: m)) [112] = _
    unfold Lib.index
    rw [e1, hr]
    have : ((r.length : Int) == -1) = false := by rw [beq_eq_false_iff_ne]; omega
    simp [this]
theorem cut_p (l m : List UInt8) (h : ∀ b ∈ l, b ≠ 112) : Lib.cut (l ++ 112 :: m) [112] = (l, m, true) := by
  unfold Lib.cut
  rw [index_p l m h, if_pos (by omega)]
  simp
theorem cut_odd (s : Bool) (u t : Nat) : Lib.cut (oddT s u t) [112] = (Lib.itoa (sg s u), Lib.itoa ((t : Int) - 1074), true) := cut_p _ _ (fun b hb => itoa_no hb)
theorem dec_ge : ∀ (l : List UInt8) (acc n : Nat), Lib.decFrom acc l = some n → acc ≤ n
  | [], acc, n, h => by simp only [Lib.decFrom, Option.some.injEq] at h; omega
  | x :: r, acc, n, h => by
    simp only [Lib.decFrom] at h
    cases hd : Lib.digitVal x with
    | none => simp [hd] at h
    | some d =>
      simp only [hd] at h
      have := dec_ge r _ n h
      omega
theorem digitVal_some {x : UInt8} {d : Nat} (h : Lib.digitVal x = some d) : (48 ≤ x.toNat ∧ x.toNat ≤ 57) ∧ d = x.toNat - 48 := by
  unfold Lib.digitVal at h
  split at h
  · rename_i h1
    cases h
    exact ⟨h1, rfl⟩
  · cases h
theorem parseM {M : Nat} : ∀ (l : List UInt8) (acc n : Nat), Lib.decFrom acc l = some n → n ≤ M → n < 1844674407370955162 → Lib.parseUintM M acc l = .ok n
  | [], acc, n, h, h1, h2 => by
    simp only [Lib.decFrom, Option.some.injEq] at h
    subst h
    rfl
  | x :: r, acc, n, h, h1, h2 => by
    simp only [Lib.decFrom] at h
    cases hd : Lib.digitVal x with
    | none => simp [hd] at h
    | some d =>
      simp only [hd] at h
      obtain ⟨h3, rfl⟩ := digitVal_some hd
      have h4 := dec_ge r _ n h
      unfold Lib.parseUintM
      rw [if_pos h3, if_neg (by omega), if_neg (by omega)]
      exact parseM r _ n h h1 h2
theorem parse_dec {B u : Nat} (h1 : u ≤ 2 ^ B - 1) (h2 : u < 1844674407370955162) : Lib.parseUintB B (Lib.decDigits u) = .ok u := by
  unfold Lib.parseUintB
  rw [if_neg (dec_ne u)]
  exact parseM _ _ _ (by rw [decFrom_dec]; simp) h1 h2
theorem parse_itoa {B : Nat} {n : Int} (h1 : n.natAbs ≤ 2 ^ B - 1) (h3 : n.natAbs < 2 ^ (B - 1)) (h2 : n.natAbs < 1844674407370955162) : Lib.parseIntB B (Lib.itoa n) = .ok n := by
  rcases itoa_cases n with ⟨u, rfl, he⟩ | ⟨u, hu, rfl, he⟩
  · rw [he]
    have hp := parse_dec (B := B) (u := u) (by simpa using h1) (by simpa using h2)
    have hd := fun b => @dec_no u b
    have hne := dec_ne u
    revert hp hd hne
    generalize Lib.decDigits u = l
    intro hp hd hne
    cases l with
    | nil => exact absurd rfl hne
    | cons c r =>
      have hc := hd c (by simp)
      have c1 : c.toNat ≠ 43 := fun e => hc.2.2 (UInt8.toNat_inj.1 e)
      have c2 : c.toNat ≠ 45 := fun e => hc.2.1 (UInt8.toNat_inj.1 e)
      rw [Lib.parseIntB_plain B c r c1 c2, hp]
      have h4 : ¬ 2 ^ (B - 1) ≤ u := by
        have : (u : Int).natAbs = u := by simp
        omega
      simp [Lib.signlessC, h4]
  · rw [he, Lib.parseIntB_minus, parse_dec (by simpa using h1) (by simpa using h2)]
    have h4 : ¬ 2 ^ (B - 1) < u := by
      have : (-(u : Int)).natAbs = u := by simp
      omega
    simp [Lib.signedC, h4]
theorem sg_abs (s : Bool) (u : Nat) : (sg s u).natAbs = u := by unfold sg; cases s <;> simp
theorem parse_sg {s : Bool} {u : Nat} (h : u < 9007199254740992) : Lib.parseIntB 64 (Lib.itoa (sg s u)) = .ok (sg s u) := parse_itoa (by rw [sg_abs, show (2:Nat) ^ 64 = 18446744073709551616 from rfl]; omega) (by rw [sg_abs, show (2:Nat) ^ (64 - 1) = 9223372036854775808 from rfl]; omega) (by rw [sg_abs]; omega)
theorem parse_pw {t : Nat} (h : t < 2098) : Lib.parseIntB 32 (Lib.itoa ((t : Int) - 1074)) = .ok ((t : Int) - 1074) := parse_itoa (by rw [show (2:Nat) ^ 32 = 4294967296 from rfl]; omega) (by rw [show (2:Nat) ^ (32 - 1) = 2147483648 from rfl]; omega) (by omega)
theorem oddT_inj {s s' : Bool} {u u' t t' : Nat} (h : oddT s u t = oddT s' u' t') (hu : u < 9007199254740992) (hu' : u' < 9007199254740992) (h0 : u % 2 = 1) (ht : t < 2098) (ht' : t' < 2098) : s = s' ∧ u = u' ∧ t = t' := by
  have hc := cut_odd s u t
  rw [h, cut_odd s' u' t'] at hc
  simp only [Prod.mk.injEq, and_true] at hc
  have h1 := parse_sg (s := s) hu
  rw [← hc.1, parse_sg hu'] at h1
  have h2 := parse_pw ht
  rw [← hc.2, parse_pw ht'] at h2
  simp only [Lib.NumEnd.ok.injEq] at h1 h2
  have h3 : u = u' := by rw [← sg_abs s u, ← h1, sg_abs]
  refine ⟨?_, h3, by omega⟩
  subst h3
  unfold sg at h1
  cases s <;> cases s' <;> simp at h1 ⊢ <;> omega
theorem odd_has (s : Bool) (u t : Nat) : (112 : UInt8) ∈ oddT s u t := by simp [oddT]
theorem name_no {k : Int} {q : Nat × ByteArray} (h : lkI k nmL 0 = some q) : (112 : UInt8) ∉ q.2.data.toList := by
  rcases lk_some h with ⟨-, h⟩ | ⟨-, h⟩ | ⟨-, h⟩ | ⟨-, h⟩ | ⟨-, h⟩ <;> (rw [h]; decide)
/-- Of a number with parts. -/
theorem txt_fin {b : Nat} (hb : b < 18446744073709551616) (h : Fin1 b) : ∃ u t, OddR (rung b) u t ∧ Odd (neg b) u t b ∧ txtL b = oddT (neg b) u t := by
  obtain ⟨u, t, ho⟩ := oddR_any h.lt h.ne
  exact ⟨u, t, ho, oddR_odd hb h.lt ho, txt_odd h ho⟩
theorem kind_word {b c : Nat} (hb : b < 18446744073709551616) (hc : c < 18446744073709551616) (h : kindOf b = kindOf c) (h2 : ¬ Fin1 b) (h3 : ¬ Fin1 c) : b = c ∨ (isNan b = true ∧ isNan c = true) := by
  have key : ∀ x, ¬ Fin1 x → (kindOf x = 0 ∧ isNan x = true) ∨ (kindOf x = 1 ∧ rung x = top ∧ neg x = true) ∨ (kindOf x = 6 ∧ rung x = top ∧ neg x = false) ∨ (kindOf x = 3 ∧ rung x = 0 ∧ neg x = true) ∨ (kindOf x = 4 ∧ rung x = 0 ∧ neg x = false) := fun x hx => by
    unfold kindOf isNan
    by_cases h1 : top < rung x
    · rw [if_pos h1]; exact .inl ⟨rfl, decide_eq_true h1⟩
    · rw [if_neg h1]
      by_cases h2 : rung x = top
      · rw [if_pos h2]
        cases hn : neg x
        · exact .inr (.inr (.inl ⟨rfl, h2, rfl⟩))
        · exact .inr (.inl ⟨rfl, h2, rfl⟩)
      · rw [if_neg h2]
        by_cases h3 : rung x = 0
        · rw [if_pos h3]
          cases hn : neg x
          · exact .inr (.inr (.inr (.inr ⟨rfl, h3, rfl⟩)))
          · exact .inr (.inr (.inr (.inl ⟨rfl, h3, rfl⟩)))
        · exact absurd ⟨by omega, h3⟩ hx
  rcases key b h2 with ⟨a1, a2⟩ | ⟨a1, a2, a3⟩ | ⟨a1, a2, a3⟩ | ⟨a1, a2, a3⟩ | ⟨a1, a2, a3⟩ <;>
  rcases key c h3 with ⟨b1, b2⟩ | ⟨b1, b2, b3⟩ | ⟨b1, b2, b3⟩ | ⟨b1, b2, b3⟩ | ⟨b1, b2, b3⟩ <;>
  first
    | exact .inr ⟨a2, b2⟩
    | exact .inl (rung_neg hb hc (a2.trans b2.symm) (a3.trans b3.symm))
    | (rw [a1, b1] at h; exact absurd h (by decide))
/-- A text tells the number. -/
theorem txt_inj {b c : Nat} (hb : b < 18446744073709551616) (hc : c < 18446744073709551616) (h : txtL b = txtL c) : b = c ∨ (isNan b = true ∧ isNan c = true) := by
  rcases kind_cases b with ⟨⟨q, hq⟩, hbf⟩ | ⟨-, hbf⟩ <;> rcases kind_cases c with ⟨⟨p, hp⟩, hcf⟩ | ⟨-, hcf⟩
  · refine kind_word hb hc ?_ hbf hcf
    rw [txt_name hq, txt_name hp] at h
    rcases lk_some hq with ⟨e1, e2⟩ | ⟨e1, e2⟩ | ⟨e1, e2⟩ | ⟨e1, e2⟩ | ⟨e1, e2⟩ <;>
    rcases lk_some hp with ⟨f1, f2⟩ | ⟨f1, f2⟩ | ⟨f1, f2⟩ | ⟨f1, f2⟩ | ⟨f1, f2⟩ <;>
    first
      | exact e1.trans f1.symm
      | (rw [e2, f2] at h; exact absurd h (by decide))
  · obtain ⟨u, t, -, -, he⟩ := txt_fin hc hcf
    rw [txt_name hq, he] at h
    exact absurd (h ▸ odd_has _ _ _ : (112 : UInt8) ∈ q.2.data.toList) (name_no hq)
  · obtain ⟨u, t, -, -, he⟩ := txt_fin hb hbf
    rw [txt_name hp, he] at h
    exact absurd (h ▸ odd_has _ _ _ : (112 : UInt8) ∈ p.2.data.toList) (name_no hp)
  · obtain ⟨u, t, ho, ho2, he⟩ := txt_fin hb hbf
    obtain ⟨u', t', ho', ho2', he'⟩ := txt_fin hc hcf
    rw [he, he'] at h
    obtain ⟨e1, rfl, rfl⟩ := oddT_inj h ho.lt ho'.lt ho.odd ho.t ho'.t
    rw [← e1] at ho2'
    exact .inl (ho2.self ho2')
end Go.Proofs.YtcbckeoalmjcoaaDoor
