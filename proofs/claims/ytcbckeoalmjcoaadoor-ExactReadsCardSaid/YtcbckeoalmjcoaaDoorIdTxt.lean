/- The texts of ids: plain laws: digits, written and read. -/
import Derived.Test.YtcbckeoalmjcoaaDoorIds
import Derived.Lib.AtoiTie
import Derived.Lib.IndexMore
import Derived.Lib.ItoaNum
set_option linter.unusedVariables false
set_option linter.unusedSimpArgs false
namespace Go.Proofs.YtcbckeoalmjcoaaDoor
open Go.Lib
theorem decFrom_app : ∀ (l m : List UInt8) (acc : Nat), decFrom acc (l ++ m) = (decFrom acc l).bind fun n => decFrom n m
  | [], m, acc => rfl
  | b :: r, m, acc => by
    simp only [List.cons_append, decFrom]
    cases digitVal b with
    | none => rfl
    | some d => exact decFrom_app r m _
theorem digit_val {u : Nat} (h : u < 10) : digitVal (UInt8.ofNat (48 + u)) = some u := by
  have e : (UInt8.ofNat (48 + u)).toNat = 48 + u := by simp; omega
  unfold digitVal
  rw [e, if_pos (by omega)]
  congr 1
  omega
theorem decFrom_dec : ∀ (u acc : Nat), decFrom acc (decDigits u) = some (acc * 10 ^ nDigits u + u) := by
  intro u
  induction u using Nat.strongRecOn with
  | _ u ih =>
    intro acc
    by_cases h : u < 10
    · rw [decDigits_one h, nDigits_small h]
      simp only [decFrom, digit_val h, Nat.pow_one]
    · rw [decDigits, dif_neg h, decFrom_app, ih (u / 10) (by omega), nDigits_big h]
      simp only [Option.bind_some, decFrom, digit_val (show u % 10 < 10 by omega), Option.some.injEq]
      rw [Nat.pow_succ, Nat.add_mul, Nat.mul_assoc]
      omega
theorem dec_ne (u : Nat) : decDigits u ≠ [] := by
  intro h
  have := decDigits_length u
  rw [h] at this
  have h2 := nDigits_pos u
  simp at this
  omega
theorem decNat_dec (u : Nat) : decNat (decDigits u) = some u := by
  unfold decNat
  rw [if_neg (by simp [dec_ne u]), decFrom_dec]
  simp
theorem dec_digit {u : Nat} {b : UInt8} (h : b ∈ decDigits u) : 48 ≤ b.toNat ∧ b.toNat ≤ 57 := by
  obtain ⟨k, hk, rfl⟩ := List.getElem_of_mem h
  obtain ⟨d, hd⟩ := digit_of_decFrom _ _ _ (decFrom_dec u 0) k _ (List.getElem?_eq_getElem hk)
  unfold digitVal at hd
  split at hd
  · assumption
  · cases hd
theorem atoi_dec (u : Nat) : atoi (decDigits u) = some (u : Int) := by
  have h := decNat_dec u
  have hd := fun b => @dec_digit u b
  revert h hd
  generalize decDigits u = l
  intro h hd
  cases l with
  | nil => simp [decNat] at h
  | cons b r =>
    have h1 := hd b (by simp)
    have n1 : (b == 45) = false := by rw [beq_eq_false_iff_ne]; rintro rfl; exact absurd h1.1 (by decide)
    have n2 : (b == 43) = false := by rw [beq_eq_false_iff_ne]; rintro rfl; exact absurd h1.1 (by decide)
    simp only [atoi, n1, n2, h]
    rfl
theorem nDigits_le {u k : Nat} (h : u < 10 ^ k) (hk : 1 ≤ k) : nDigits u ≤ k := by
  induction k generalizing u with
  | zero => omega
  | succ k ih =>
    by_cases hu : u < 10
    · rw [nDigits_small hu]; omega
    · rw [nDigits_big hu]
      rw [Nat.pow_succ] at h
      rcases Nat.eq_zero_or_pos k with rfl | hk'
      · omega
      · have := ih (u := u / 10) (by omega) hk'
        omega
theorem index_dot : ∀ (l m : List UInt8), (∀ b ∈ l, b ≠ 46) → index (l ++ 46 :: m) [46] = l.length
  | [], m, _ => by simp [index]
  | b :: r, m, h => by
    have hb := h b (by simp)
    have hr := index_dot r m (fun c hc => h c (by simp [hc]))
    have e1 : (List.isPrefixOf [46] (b :: (r ++ 46 :: m))) = false := by
      simp [List.isPrefixOf]
      exact fun e => hb e.symm
    show index (b :: (r ++ 46 :: m)) [46] = _
    unfold index
    rw [e1, hr]
    have : ((r.length : Int) == -1) = false := by rw [beq_eq_false_iff_ne]; omega
    simp [this]
theorem cut_dot (l m : List UInt8) (h : ∀ b ∈ l, b ≠ 46) : cut (l ++ 46 :: m) [46] = (l, m, true) := by
  unfold cut
  rw [index_dot l m h, if_pos (by omega)]
  simp
/-- An id's text. -/
def idT (a : Id) : List UInt8 := decDigits a.1.toNat ++ 46 :: decDigits a.2.toNat
theorem dec_nodot (u : Nat) : ∀ b ∈ decDigits u, b ≠ 46 := by
  rintro b hb rfl
  exact absurd (dec_digit hb).1 (by decide)
theorem cut_idT (a : Id) : cut (idT a) [46] = (decDigits a.1.toNat, decDigits a.2.toNat, true) := cut_dot _ _ (dec_nodot _)
theorem idOk_iff {a : Id} : idOk a = true ↔ 0 ≤ a.1 ∧ a.1 < 8 ∧ 1 ≤ a.2 ∧ a.2 ≤ 1048576 := by simp [idOk]
theorem idT_len {a : Id} (h : idOk a = true) : 3 ≤ (idT a).length ∧ (idT a).length ≤ 9 := by
  obtain ⟨h1, h2, h3, h4⟩ := idOk_iff.1 h
  have e1 : (decDigits a.1.toNat).length = 1 := by rw [decDigits_length, nDigits_small (by omega)]
  have e2 : (decDigits a.2.toNat).length ≤ 7 := by rw [decDigits_length]; exact nDigits_le (by omega) (by omega)
  have e3 : 1 ≤ (decDigits a.2.toNat).length := by rw [decDigits_length]; exact nDigits_pos _
  unfold idT
  simp only [List.length_append, List.length_cons]
  omega
/-- The id that a text is. -/
def rdId (l : List UInt8) : Option Id :=
  match atoiAll (cut l [46]).1, atoiAll (cut l [46]).2.1 with
  | .ok x, .ok y => if idOk (x, y) = true ∧ idT (x, y) = l then some (x, y) else none
  | _, _ => none
theorem atoiAll_dec {u : Nat} (h : u < 10 ^ 7) : atoiAll (decDigits u) = .ok (u : Int) := by
  rw [atoiAll_short, atoi_dec]
  · rfl
  · rw [decDigits_length]
    have := nDigits_le h (by omega)
    omega
theorem rdId_some {l : List UInt8} {a : Id} : rdId l = some a ↔ idOk a = true ∧ idT a = l := by
  constructor
  · intro h
    unfold rdId at h
    split at h
    · split at h
      · cases h; assumption
      · cases h
    · cases h
  · rintro ⟨h, rfl⟩
    obtain ⟨h1, h2, h3, h4⟩ := idOk_iff.1 h
    unfold rdId
    rw [cut_idT]
    simp only []
    rw [atoiAll_dec (by omega), atoiAll_dec (by omega)]
    have e : (((a.1.toNat : Nat) : Int), ((a.2.toNat : Nat) : Int)) = a := Prod.ext (by simp; omega) (by simp; omega)
    simp only [e]
    rw [if_pos ⟨h, trivial⟩]
/-- The reference's answer: a byte, a dot, digits. -/
def rfId (l : List UInt8) : Option Id :=
  if l.length < 3 ∨ 9 < l.length then none else
  match l with
  | b :: c :: r => if c = 46 ∧ 48 ≤ b.toNat ∧ b.toNat ≤ 55 then
      match decFrom 0 r with
      | some n => if idOk ((b.toNat : Int) - 48, (n : Int)) = true ∧ idT ((b.toNat : Int) - 48, (n : Int)) = l then some ((b.toNat : Int) - 48, (n : Int)) else none
      | none => none
      else none
  | _ => none
theorem rfId_some {l : List UInt8} {a : Id} : rfId l = some a ↔ idOk a = true ∧ idT a = l := by
  constructor
  · intro h
    unfold rfId at h
    split at h
    · cases h
    · split at h
      · split at h
        · split at h
          · split at h
            · cases h; assumption
            · cases h
          · cases h
        · cases h
      · cases h
  · rintro ⟨h, rfl⟩
    obtain ⟨h1, h2, h3, h4⟩ := idOk_iff.1 h
    have hl := idT_len h
    have e0 : idT a = UInt8.ofNat (48 + a.1.toNat) :: 46 :: decDigits a.2.toNat := by
      unfold idT
      rw [decDigits_one (by omega)]
      rfl
    have et : (UInt8.ofNat (48 + a.1.toNat)).toNat = 48 + a.1.toNat := by simp; omega
    unfold rfId
    rw [if_neg (by omega), e0]
    simp only []
    rw [if_pos ⟨trivial, by omega, by omega⟩, decFrom_dec]
    simp only [Nat.zero_mul, Nat.zero_add, et]
    have e : ((((48 + a.1.toNat : Nat) : Int) - 48), ((a.2.toNat : Nat) : Int)) = a := Prod.ext (by simp; omega) (by simp; omega)
    simp only [e]
    rw [if_pos ⟨h, e0⟩]
theorem rf_rd (l : List UInt8) : rfId l = rdId l := by
  cases h : rdId l with
  | some a => exact rfId_some.2 (rdId_some.1 h)
  | none =>
    cases k : rfId l with
    | none => rfl
    | some a => rw [rdId_some.2 (rfId_some.1 k)] at h; cases h
end Go.Proofs.YtcbckeoalmjcoaaDoor
