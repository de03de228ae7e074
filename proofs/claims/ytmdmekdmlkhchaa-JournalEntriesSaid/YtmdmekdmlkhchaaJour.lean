/- The bytes of a journal, written and read, as lists of numbers: plain lemmas, of no program. -/
import Derived.Lib.Hide
set_option linter.unusedVariables false
set_option linter.unusedSimpArgs false
namespace Go.Jn
/-- All are bytes. -/
def Byt (xs : List Int) : Prop := ∀ x ∈ xs, 0 ≤ x ∧ x < 256
theorem Byt.app {xs ys : List Int} (h : Byt xs) (k : Byt ys) : Byt (xs ++ ys) := fun x hx => (List.mem_append.1 hx).elim (h x) (k x)
theorem Byt.left {xs ys : List Int} (h : Byt (xs ++ ys)) : Byt xs := fun x hx => h x (List.mem_append_left _ hx)
theorem Byt.right {xs ys : List Int} (h : Byt (xs ++ ys)) : Byt ys := fun x hx => h x (List.mem_append_right _ hx)
theorem Byt.take {xs : List Int} (h : Byt xs) (k : Nat) : Byt (xs.take k) := fun x hx => h x (List.mem_of_mem_take hx)
theorem Byt.drop {xs : List Int} (h : Byt xs) (k : Nat) : Byt (xs.drop k) := fun x hx => h x (List.mem_of_mem_drop hx)
theorem Byt.nil : Byt [] := fun x hx => by cases hx
theorem Byt.cons {x : Int} {xs : List Int} (h0 : 0 ≤ x) (h1 : x < 256) (h : Byt xs) : Byt (x :: xs) := fun y hy => (List.mem_cons.1 hy).elim (fun e => e ▸ ⟨h0, h1⟩) (h y)
/-- The digits of seven bits. -/
def enc (n : Nat) : List Int := if n < 128 then [(n : Int)] else ((n % 128 + 128 : Nat) : Int) :: enc (n / 128)
theorem enc_lt {n : Nat} (h : n < 128) : enc n = [(n : Int)] := by rw [enc, if_pos h]
theorem enc_ge {n : Nat} (h : 128 ≤ n) : enc n = ((n % 128 + 128 : Nat) : Int) :: enc (n / 128) := by rw [enc, if_neg (by omega)]
theorem enc_len : ∀ (k n : Nat), n < 128 ^ (k + 1) → (enc n).length ≤ k + 1
  | k, n, h => by
    by_cases h1 : n < 128
    · rw [enc_lt h1]; simp
    · cases k with
      | zero => simp at h; omega
      | succ k =>
        rw [enc_ge (by omega), List.length_cons]
        have := enc_len k (n / 128) (by rw [Nat.pow_succ] at h; exact Nat.div_lt_of_lt_mul (by rw [Nat.mul_comm]; exact h))
        omega
theorem enc_len10 {n : Nat} (h : n < 18446744073709551616) : (enc n).length ≤ 10 := enc_len 9 n (Nat.lt_of_lt_of_le h (by decide))
theorem enc_len2 {n : Nat} (h : n < 16384) : (enc n).length ≤ 2 := enc_len 1 n (Nat.lt_of_lt_of_le h (by decide))
theorem enc_byte (n : Nat) : Byt (enc n) := by
  induction n using Nat.strongRecOn with
  | ind n ih =>
    intro x hx
    by_cases h : n < 128
    · rw [enc_lt h] at hx
      simp only [List.mem_singleton] at hx
      omega
    · rw [enc_ge (by omega)] at hx
      rcases List.mem_cons.1 hx with rfl | hx
      · omega
      · exact ih (n / 128) (by omega) x hx
theorem enc_pos (n : Nat) : 0 < (enc n).length := by
  by_cases h : n < 128
  · rw [enc_lt h]; simp
  · rw [enc_ge (by omega)]; simp
/-- What Get tells: the number, how many bytes, the error. -/
def getF : Nat → Nat → List Int → Nat × Nat × Int
  | _, _, [] => (0, 0, 4)
  | i, n, c :: r => if i = 9 ∧ 1 < c then (0, 0, 3) else if 128 ≤ c then getF (i + 1) (n + (c % 128).toNat * 128 ^ i) r
    else if c = 0 ∧ 0 < i then (0, 0, 3) else (n + (c % 128).toNat * 128 ^ i, i + 1, 0)
theorem dig_mul (m p : Nat) : m % 128 * p + m / 128 * (p * 128) = m * p := by
  have h := Nat.div_add_mod m 128
  have h1 : m / 128 * (p * 128) = 128 * (m / 128) * p := by rw [Nat.mul_comm p 128, ← Nat.mul_assoc, Nat.mul_comm (m / 128) 128]
  rw [h1, ← Nat.add_mul]
  congr 1
  omega
theorem pow9 : ∀ {i : Nat}, i ≤ 9 → 128 ^ i ≤ 9223372036854775808 := fun {i} h => by
  have := Nat.pow_le_pow_right (n := 128) (by decide) h
  have h2 : 128 ^ 9 = 9223372036854775808 := by decide
  omega
theorem getF_enc (r : List Int) (m : Nat) : ∀ (i acc : Nat), (0 < i → 0 < m) → m * 128 ^ i < 18446744073709551616 → getF i acc (enc m ++ r) = (acc + m * 128 ^ i, i + (enc m).length, 0) := by
  induction m using Nat.strongRecOn with
  | ind m ih =>
    intro i acc hi hb
    have h9 : i = 9 → m < 2 := by rintro rfl; have : (128 : Nat) ^ 9 = 9223372036854775808 := by decide
                                  rw [this] at hb; omega
    by_cases h : m < 128
    · rw [enc_lt h]
      simp only [List.cons_append, List.nil_append, getF, List.length_singleton]
      rw [if_neg (by rintro ⟨h1, h2⟩; have := h9 h1; omega), if_neg (by omega), if_neg (by rintro ⟨h1, h2⟩; have := hi h2; omega)]
      have : ((m : Int) % 128).toNat = m := by omega
      rw [this]
    · rw [enc_ge (by omega)]
      simp only [List.cons_append, getF, List.length_cons]
      rw [if_neg (by rintro ⟨h1, h2⟩; have := h9 h1; omega), if_pos (by omega)]
      have : (((m % 128 + 128 : Nat) : Int) % 128).toNat = m % 128 := by omega
      have hd := dig_mul m (128 ^ i)
      rw [this, ih (m / 128) (by omega) (i + 1) _ (fun _ => by omega) (by rw [Nat.pow_succ]; omega), Nat.pow_succ]
      refine Prod.ext ?_ (Prod.ext ?_ rfl)
      · simp only; omega
      · simp only; omega
theorem getF_ok : ∀ (xs : List Int) (i acc n k : Nat), Byt xs → i ≤ 9 → getF i acc xs = (n, k, 0) →
    ∃ m, n = acc + m * 128 ^ i ∧ (0 < i → 0 < m) ∧ (m + 1) * 128 ^ i ≤ 18446744073709551616 ∧ k = i + (enc m).length ∧ ∃ r, xs = enc m ++ r
  | [], i, acc, n, k, _, _, h => by simp [getF] at h
  | c :: r, i, acc, n, k, hb, hi, h => by
    obtain ⟨c0, c1⟩ := hb c (List.mem_cons_self ..)
    have hbr : Byt r := fun x hx => hb x (List.mem_cons_of_mem _ hx)
    rw [getF] at h
    by_cases g1 : i = 9 ∧ 1 < c
    · rw [if_pos g1] at h; simp at h
    · rw [if_neg g1] at h
      by_cases g2 : 128 ≤ c
      · rw [if_pos g2] at h
        obtain ⟨m', e1, e2, e3, e4, r', e5⟩ := getF_ok r (i + 1) _ n k hbr (by omega) h
        have hm' := e2 (by omega)
        refine ⟨(c % 128).toNat + 128 * m', ?_, fun _ => by omega, ?_, ?_, r', ?_⟩
        · rw [e1, Nat.pow_succ, Nat.add_mul, Nat.add_assoc, Nat.mul_comm 128 m', Nat.mul_assoc, Nat.mul_comm (128 ^ i) 128]
        · refine Nat.le_trans (Nat.mul_le_mul_right _ (show (c % 128).toNat + 128 * m' + 1 ≤ (m' + 1) * 128 by omega)) ?_
          rw [Nat.pow_succ, Nat.mul_comm (128 ^ i) 128, ← Nat.mul_assoc] at e3
          exact e3
        · rw [enc_ge (by omega), List.length_cons, show ((c % 128).toNat + 128 * m') / 128 = m' by omega]; omega
        · rw [enc_ge (by omega), show ((c % 128).toNat + 128 * m') / 128 = m' by omega, List.cons_append, ← e5]
          congr 1
          omega
      · rw [if_neg g2] at h
        by_cases g3 : c = 0 ∧ 0 < i
        · rw [if_pos g3] at h; simp at h
        · rw [if_neg g3] at h
          simp only [Prod.mk.injEq, and_true] at h
          refine ⟨(c % 128).toNat, h.1.symm, fun _ => by omega, ?_, ?_, r, ?_⟩
          · by_cases h9 : i = 9
            · subst h9
              have : (128 : Nat) ^ 9 = 9223372036854775808 := by decide
              rw [this]; omega
            · have h8 := Nat.pow_le_pow_right (n := 128) (by decide) (show i ≤ 8 by omega)
              have h2 : (128 : Nat) ^ 8 = 72057594037927936 := by decide
              refine Nat.le_trans (Nat.mul_le_mul (show (c % 128).toNat + 1 ≤ 128 by omega) h8) ?_
              rw [h2]; omega
          · rw [enc_lt (by omega)]; simp; omega
          · rw [enc_lt (by omega)]
            have : (((c % 128).toNat : Nat) : Int) = c := by omega
            rw [this]; rfl
theorem getF_cut (m : Nat) : ∀ (i acc : Nat) (p q : List Int), (0 < i → 0 < m) → m * 128 ^ i < 18446744073709551616 → enc m = p ++ q → q ≠ [] → getF i acc p = (0, 0, 4) := by
  induction m using Nat.strongRecOn with
  | ind m ih =>
    intro i acc p q hi hb he hq
    cases p with
    | nil => rfl
    | cons c p' =>
      have h9 : i = 9 → m < 2 := by rintro rfl; have : (128 : Nat) ^ 9 = 9223372036854775808 := by decide
                                    rw [this] at hb; omega
      by_cases h : m < 128
      · rw [enc_lt h] at he
        simp only [List.cons_append, List.cons.injEq] at he
        have := List.append_eq_nil_iff.1 he.2.symm
        exact absurd this.2 hq
      · rw [enc_ge (by omega)] at he
        simp only [List.cons_append, List.cons.injEq] at he
        obtain ⟨rfl, he⟩ := he
        rw [getF, if_neg (by rintro ⟨h1, h2⟩; have := h9 h1; omega), if_pos (by omega)]
        have hd := dig_mul m (128 ^ i)
        exact ih (m / 128) (by omega) (i + 1) _ p' q (fun _ => by omega) (by rw [Nat.pow_succ]; omega) he hq
/-! ### Eight bytes, a digest -/
def big (n : Nat) : List Int := [((n / 72057594037927936 % 256 : Nat) : Int), ((n / 281474976710656 % 256 : Nat) : Int), ((n / 1099511627776 % 256 : Nat) : Int), ((n / 4294967296 % 256 : Nat) : Int), ((n / 16777216 % 256 : Nat) : Int), ((n / 65536 % 256 : Nat) : Int), ((n / 256 % 256 : Nat) : Int), ((n % 256 : Nat) : Int)]
theorem big_len (n : Nat) : (big n).length = 8 := rfl
theorem big_byte (n : Nat) : Byt (big n) := by
  intro x hx
  simp only [big, List.mem_cons, List.not_mem_nil, or_false] at hx
  rcases hx with rfl | rfl | rfl | rfl | rfl | rfl | rfl | rfl <;> omega
def unbig (xs : List Int) : Nat := xs.foldl (fun n c => n * 256 + c.toNat) 0
theorem unbig_big {n : Nat} (h : n < 18446744073709551616) : unbig (big n) = n := by
  simp only [unbig, big, List.foldl_cons, List.foldl_nil, Int.toNat_natCast]
  omega
theorem hdiv (m x : Nat) (h : x < 256) : (m * 256 + x) / 256 = m := by omega
theorem hmod (m x : Nat) (h : x < 256) : (m * 256 + x) % 256 = x := by omega
theorem big_nat (a b c d e f g h : Nat) (ha : a < 256) (hb : b < 256) (hc : c < 256) (hd : d < 256) (he : e < 256) (hf : f < 256) (hg : g < 256) (hh : h < 256) :
    big ((((((((0 * 256 + a) * 256 + b) * 256 + c) * 256 + d) * 256 + e) * 256 + f) * 256 + g) * 256 + h) = [(a : Int), (b : Int), (c : Int), (d : Int), (e : Int), (f : Int), (g : Int), (h : Int)] := by
  have e2 : ∀ n : Nat, n / 65536 = n / 256 / 256 := fun n => by rw [Nat.div_div_eq_div_mul]
  have e3 : ∀ n : Nat, n / 16777216 = n / 256 / 256 / 256 := fun n => by simp only [Nat.div_div_eq_div_mul]
  have e4 : ∀ n : Nat, n / 4294967296 = n / 256 / 256 / 256 / 256 := fun n => by simp only [Nat.div_div_eq_div_mul]
  have e5 : ∀ n : Nat, n / 1099511627776 = n / 256 / 256 / 256 / 256 / 256 := fun n => by simp only [Nat.div_div_eq_div_mul]
  have e6 : ∀ n : Nat, n / 281474976710656 = n / 256 / 256 / 256 / 256 / 256 / 256 := fun n => by simp only [Nat.div_div_eq_div_mul]
  have e7 : ∀ n : Nat, n / 72057594037927936 = n / 256 / 256 / 256 / 256 / 256 / 256 / 256 := fun n => by simp only [Nat.div_div_eq_div_mul]
  unfold big
  rw [e2, e3, e4, e5, e6, e7]
  simp only [hdiv _ _ ha, hdiv _ _ hb, hdiv _ _ hc, hdiv _ _ hd, hdiv _ _ he, hdiv _ _ hf, hdiv _ _ hg, hdiv _ _ hh, hmod _ _ ha, hmod _ _ hb, hmod _ _ hc, hmod _ _ hd, hmod _ _ he, hmod _ _ hf, hmod _ _ hg, hmod _ _ hh]
theorem big_unbig {xs : List Int} (hb : Byt xs) (hl : xs.length = 8) : big (unbig xs) = xs := by
  match xs, hl with
  | [a, b, c, d, e, f, g, h], _ =>
    obtain ⟨a0, a1⟩ := hb a (by simp)
    obtain ⟨b0, b1⟩ := hb b (by simp)
    obtain ⟨c0, c1⟩ := hb c (by simp)
    obtain ⟨d0, d1⟩ := hb d (by simp)
    obtain ⟨e0, e1⟩ := hb e (by simp)
    obtain ⟨f0, f1⟩ := hb f (by simp)
    obtain ⟨g0, g1⟩ := hb g (by simp)
    obtain ⟨h0, h1⟩ := hb h (by simp)
    clear hb
    have := big_nat a.toNat b.toNat c.toNat d.toNat e.toNat f.toNat g.toNat h.toNat (by omega) (by omega) (by omega) (by omega) (by omega) (by omega) (by omega) (by omega)
    simp only [unbig, List.foldl_cons, List.foldl_nil]
    rw [this, Int.toNat_of_nonneg a0, Int.toNat_of_nonneg b0, Int.toNat_of_nonneg c0, Int.toNat_of_nonneg d0, Int.toNat_of_nonneg e0, Int.toNat_of_nonneg f0, Int.toNat_of_nonneg g0, Int.toNat_of_nonneg h0]
def fnvS (h : Nat) (c : Int) : Nat := ((h ^^^ c.toNat) * 1099511628211) % 18446744073709551616
def fnv0 : Nat := 14695981039346656037
def fnv (xs : List Int) : Nat := xs.foldl fnvS fnv0
theorem fnvS_lt (h : Nat) (c : Int) : fnvS h c < 18446744073709551616 := Nat.mod_lt _ (by decide)
theorem fnv_lt (xs : List Int) : fnv xs < 18446744073709551616 := by
  unfold fnv
  have : ∀ (xs : List Int) (h : Nat), h < 18446744073709551616 → xs.foldl fnvS h < 18446744073709551616 := by
    intro xs
    induction xs with
    | nil => exact fun h hh => hh
    | cons c r ih => exact fun h _ => ih _ (fnvS_lt _ _)
  exact this xs fnv0 (by decide)
def sld (b : List Int) : List Int := b ++ big (fnv b)
def txt (b : List Int) : List Int := enc b.length ++ b
theorem sld_len (b : List Int) : (sld b).length = b.length + 8 := by simp [sld, big_len]
/-! ### Entries -/
abbrev Ent := Int × Int × List Int
def inb (x : Ent) : List Int := if x.1 = 1 then 1 :: x.2.2 else if x.1 = 2 then 2 :: enc x.2.1.toNat else [3]
def eb (x : Ent) : List Int := txt (sld (inb x))
def Fit (x : Ent) : Prop := (x.1 = 1 ∧ x.2.1 = 0 ∧ x.2.2.length ≤ 4096 ∧ Byt x.2.2) ∨ (x.1 = 2 ∧ 0 ≤ x.2.1 ∧ x.2.1 ≤ 4096 ∧ x.2.2 = []) ∨ (x.1 = 3 ∧ x.2.1 = 0 ∧ x.2.2 = [])
def PutOk (x : Ent) : Prop := ¬ (x.1 = 1 ∧ 4096 < x.2.2.length) ∧ ¬ (x.1 = 2 ∧ (x.2.1 < 0 ∨ 4096 < x.2.1))
theorem inb_good {x : Ent} (h : Fit x) : Byt (inb x) ∧ 0 < (inb x).length ∧ (inb x).length ≤ 4097 := by
  obtain ⟨k, n, b⟩ := x
  rcases h with ⟨h1, h2, h3, h4⟩ | ⟨h1, h2, h3, h4⟩ | ⟨h1, h2, h3⟩ <;> simp only at h1 h2 h3 <;> subst h1
  · simp only [inb, if_true]
    exact ⟨Byt.cons (by decide) (by decide) h4, by simp, by simpa using h3⟩
  · have h2 := enc_len2 (n := n.toNat) (by omega)
    simp only [inb]
    exact ⟨Byt.cons (by decide) (by decide) (enc_byte _), by simp, by simp; omega⟩
  · simp only [inb]
    exact ⟨Byt.cons (by decide) (by decide) Byt.nil, by simp, by simp⟩
theorem eb_good {x : Ent} (h : Fit x) : Byt (eb x) ∧ 10 ≤ (eb x).length ∧ (eb x).length ≤ 4107 := by
  obtain ⟨h1, h2, h3⟩ := inb_good h
  have h5 := enc_pos (inb x ++ big (fnv (inb x))).length
  have hl : (inb x ++ big (fnv (inb x))).length = (inb x).length + 8 := by simp [big_len]
  have h6 := enc_len2 (n := (inb x ++ big (fnv (inb x))).length) (by omega)
  refine ⟨(enc_byte _).app (h1.app (big_byte _)), ?_, ?_⟩
  · unfold eb txt sld
    rw [List.length_append]; omega
  · unfold eb txt sld
    rw [List.length_append]; omega
/-- What a text is read as: the error, the text, where it ends. -/
def textF (most : Nat) (b : List Int) : Int × List Int × Nat := let t := getF 0 0 b
  if t.2.2 ≠ 0 then (t.2.2, [], 0) else if most < t.1 then (18, [], 0) else if b.length - t.2.1 < t.1 then (4, [], 0) else (0, (b.drop t.2.1).take t.1, t.2.1 + t.1)
def openF (s : List Int) : Int × List Int := if s.length < 8 then (4, []) else if fnv (s.take (s.length - 8)) ≠ unbig (s.drop (s.length - 8)) then (21, []) else (0, s.take (s.length - 8))
def entNo : Ent := (0, 0, [])
def readF : List Int → Int × Ent
  | [] => (3, entNo)
  | c :: rest => if c = 1 then (0, 1, 0, rest) else if c = 2 then (let t := getF 0 0 rest; if t.2.2 ≠ 0 ∨ t.2.1 ≠ rest.length then (3, entNo) else (0, 2, (min t.1 1099511627776 : Nat), []))
    else if c = 3 then (if rest = [] then (0, 3, 0, []) else (3, entNo)) else (3, entNo)
def nextF (b : List Int) : Int × Nat × Ent := let t := textF 4200 b
  if t.1 ≠ 0 then (t.1, 0, entNo) else let o := openF t.2.1; if o.1 ≠ 0 then (o.1, 0, entNo) else let r := readF o.2; (r.1, t.2.2, r.2)
theorem getF0 (n : Nat) (r : List Int) (hn : n < 18446744073709551616) : getF 0 0 (enc n ++ r) = (n, (enc n).length, 0) := by
  have := getF_enc r n 0 0 (by omega) (by simpa using hn)
  simpa using this
theorem textF_txt (s r : List Int) (most : Nat) (h : s.length ≤ most) (hm : most < 18446744073709551616) : textF most (txt s ++ r) = (0, s, (txt s).length) := by
  unfold textF txt
  rw [List.append_assoc, getF0 s.length (s ++ r) (by omega)]
  simp only [ne_eq, not_true_eq_false, if_false]
  rw [if_neg (by omega), if_neg (by simp)]
  simp
theorem openF_sld {b : List Int} : openF (sld b) = (0, b) := by
  unfold openF
  rw [sld_len, if_neg (by omega)]
  have h1 : (sld b).take (b.length + 8 - 8) = b := by simp [sld]
  have h2 : (sld b).drop (b.length + 8 - 8) = big (fnv b) := by simp [sld]
  rw [h1, h2, unbig_big (fnv_lt b)]
  simp
theorem readF_inb {x : Ent} (h : Fit x) : readF (inb x) = (0, x) := by
  obtain ⟨k, n, b⟩ := x
  rcases h with ⟨h1, h2, h3, h4⟩ | ⟨h1, h2, h3, h4⟩ | ⟨h1, h2, h3⟩ <;> simp only at h1 h2 h3 <;> subst h1
  · subst h2
    simp [inb, readF]
  · simp only at h4
    subst h4
    have hg := getF0 n.toNat [] (by omega)
    rw [List.append_nil] at hg
    simp [inb, readF, hg]
    omega
  · subst h2 h3
    simp [inb, readF]
theorem nextF_eb {x : Ent} (h : Fit x) (r : List Int) : nextF (eb x ++ r) = (0, (eb x).length, x) := by
  obtain ⟨h1, h2, h3⟩ := inb_good h
  unfold nextF eb
  rw [textF_txt _ _ _ (by rw [sld_len]; omega) (by decide)]
  simp only [ne_eq, not_true_eq_false, if_false, openF_sld, readF_inb h]
theorem textF_ok {most : Nat} {b s : List Int} {k : Nat} (hb : Byt b) (h : textF most b = (0, s, k)) : ∃ r, b = txt s ++ r ∧ k = (txt s).length ∧ s.length ≤ most := by
  unfold textF at h
  obtain ⟨n, j, e, hg⟩ : ∃ n j e, getF 0 0 b = (n, j, e) := ⟨_, _, _, rfl⟩
  simp only [hg] at h
  by_cases h1 : e ≠ 0
  · rw [if_pos h1] at h
    simp only [Prod.mk.injEq] at h
    exact absurd h.1 h1
  · rw [if_neg h1] at h
    have h1' : e = 0 := Decidable.byContradiction h1
    subst h1'
    by_cases h2 : most < n
    · rw [if_pos h2] at h; simp at h
    · rw [if_neg h2] at h
      by_cases h3 : b.length - j < n
      · rw [if_pos h3] at h; simp at h
      · rw [if_neg h3] at h
        simp only [Prod.mk.injEq, true_and] at h
        obtain ⟨rfl, rfl⟩ := h
        obtain ⟨m, e1, _, e3, e4, r, e5⟩ := getF_ok b 0 0 n j hb (by omega) hg
        have hm : n = m := by simpa using e1
        subst hm
        have hj : j = (enc n).length := by omega
        have hdrop : b.drop j = r := by rw [e5, hj]; simp
        have hlen : b.length = j + r.length := by rw [e5, List.length_append, hj]
        have hnr : n ≤ r.length := by omega
        refine ⟨r.drop n, ?_, ?_, ?_⟩
        · unfold txt
          rw [hdrop, List.length_take, Nat.min_eq_left hnr, List.append_assoc, List.take_append_drop, ← e5]
        · unfold txt
          rw [hdrop, List.length_append, List.length_take, Nat.min_eq_left hnr, hj]
        · rw [hdrop, List.length_take]; omega
theorem openF_ok {s b : List Int} (hb : Byt s) (h : openF s = (0, b)) : s = sld b := by
  unfold openF at h
  by_cases h1 : s.length < 8
  · rw [if_pos h1] at h; simp at h
  · rw [if_neg h1] at h
    by_cases h2 : fnv (s.take (s.length - 8)) ≠ unbig (s.drop (s.length - 8))
    · rw [if_pos h2] at h; simp at h
    · rw [if_neg h2] at h
      have h2' := Decidable.byContradiction h2
      simp only [Prod.mk.injEq, true_and] at h
      subst h
      unfold sld
      rw [h2', big_unbig (hb.drop _) (by simp; omega), List.take_append_drop]
theorem readF_ok {b : List Int} {x : Ent} (hb : Byt b) (h : readF b = (0, x)) (hp : PutOk x) : Fit x ∧ b = inb x := by
  cases b with
  | nil => simp [readF] at h
  | cons c rest =>
    have hr : Byt rest := fun x hx => hb x (List.mem_cons_of_mem _ hx)
    simp only [readF] at h
    by_cases c1 : c = 1
    · rw [if_pos c1] at h
      simp only [Prod.mk.injEq, true_and] at h
      subst h c1
      have := hp.1
      simp only [true_and] at this
      exact ⟨.inl ⟨rfl, rfl, by simp only; omega, hr⟩, by simp [inb]⟩
    · rw [if_neg c1] at h
      by_cases c2 : c = 2
      · rw [if_pos c2] at h
        obtain ⟨n, j, e, hg⟩ : ∃ n j e, getF 0 0 rest = (n, j, e) := ⟨_, _, _, rfl⟩
        simp only [hg] at h
        by_cases h1 : e ≠ 0 ∨ j ≠ rest.length
        · rw [if_pos h1] at h; simp at h
        · rw [if_neg h1] at h
          obtain ⟨rfl, rfl⟩ : e = 0 ∧ j = rest.length := ⟨Decidable.byContradiction fun h => h1 (.inl h), Decidable.byContradiction fun h => h1 (.inr h)⟩
          simp only [Prod.mk.injEq, true_and] at h
          subst h c2
          have hp2 := hp.2
          simp only [true_and] at hp2
          have hn : n ≤ 4096 := by omega
          obtain ⟨m, e1, _, e3, e4, r, e5⟩ := getF_ok rest 0 0 n rest.length hr (by omega) hg
          have hm : n = m := by simpa using e1
          subst hm
          have hr0 : r = [] := List.eq_nil_of_length_eq_zero (by have := congrArg List.length e5; rw [List.length_append] at this; omega)
          subst hr0
          rw [List.append_nil] at e5
          have hmin : min n 1099511627776 = n := by omega
          rw [hmin]
          refine ⟨.inr (.inl ⟨rfl, by simp only; omega, by simp only; omega, rfl⟩), ?_⟩
          simp [inb, ← e5]
      · rw [if_neg c2] at h
        by_cases c3 : c = 3
        · rw [if_pos c3] at h
          by_cases h0 : rest = []
          · rw [if_pos h0] at h
            simp only [Prod.mk.injEq, true_and] at h
            subst h h0 c3
            exact ⟨.inr (.inr ⟨rfl, rfl, rfl⟩), by simp [inb]⟩
          · rw [if_neg h0] at h; simp at h
        · rw [if_neg c3] at h; simp at h
theorem nextF_ok {b : List Int} {k : Nat} {x : Ent} (hb : Byt b) (h : nextF b = (0, k, x)) (hp : PutOk x) : Fit x ∧ k = (eb x).length ∧ ∃ r, b = eb x ++ r := by
  unfold nextF at h
  obtain ⟨e, s, j, ht⟩ : ∃ e s j, textF 4200 b = (e, s, j) := ⟨_, _, _, rfl⟩
  simp only [ht] at h
  by_cases h1 : e ≠ 0
  · rw [if_pos h1] at h
    simp only [Prod.mk.injEq] at h
    exact absurd h.1 h1
  · rw [if_neg h1] at h
    obtain rfl : e = 0 := Decidable.byContradiction h1
    obtain ⟨e2, i, ho⟩ : ∃ e i, openF s = (e, i) := ⟨_, _, rfl⟩
    simp only [ho] at h
    by_cases h2 : e2 ≠ 0
    · rw [if_pos h2] at h
      simp only [Prod.mk.injEq] at h
      exact absurd h.1 h2
    · rw [if_neg h2] at h
      obtain rfl : e2 = 0 := Decidable.byContradiction h2
      simp only [Prod.mk.injEq] at h
      obtain ⟨hr0, rfl, hr1⟩ := h
      obtain ⟨r, rfl, hk, _⟩ := textF_ok hb ht
      have hbs : Byt s := hb.left.right
      have hs := openF_ok hbs ho
      subst hs
      obtain ⟨hg, hi⟩ := readF_ok (x := x) hbs.left (Prod.ext hr0 hr1) hp
      subst hi
      exact ⟨hg, hk, r, rfl⟩
theorem nextF_cut {x : Ent} (h : Fit x) {p q : List Int} (he : eb x = p ++ q) (hq : q ≠ []) : (nextF p).1 = 4 := by
  obtain ⟨h1, h2, h3⟩ := inb_good h
  have hs := sld_len (inb x)
  unfold eb txt at he
  have ht : (textF 4200 p).1 = 4 := by
    unfold textF
    rcases Nat.lt_or_ge p.length (enc (sld (inb x)).length).length with hl | hl
    · have hp : enc (sld (inb x)).length = p ++ (enc (sld (inb x)).length).drop p.length := by
        have := congrArg (List.take p.length) he
        rw [List.take_append_of_le_length (Nat.le_of_lt hl), List.take_left] at this
        have h4 := List.take_append_drop p.length (enc (sld (inb x)).length)
        rw [this] at h4
        exact h4.symm
      have hc := getF_cut (sld (inb x)).length 0 0 p _ (by omega) (by omega) hp (fun h0 => by have := congrArg List.length h0; simp at this; omega)
      simp [hc]
    · have hp : p = enc (sld (inb x)).length ++ p.drop (enc (sld (inb x)).length).length := by
        have := congrArg (List.take (enc (sld (inb x)).length).length) he
        rw [List.take_left, List.take_append_of_le_length hl] at this
        have h4 := List.take_append_drop (enc (sld (inb x)).length).length p
        rw [← this] at h4
        exact h4.symm
      have hg := getF0 (sld (inb x)).length (p.drop (enc (sld (inb x)).length).length) (by omega)
      rw [← hp] at hg
      have hlen := congrArg List.length he
      rw [List.length_append, List.length_append] at hlen
      have hq0 : 0 < q.length := List.length_pos_iff.2 hq
      simp only [hg]
      rw [if_neg (by simp), if_neg (by omega), if_pos (by omega)]
  unfold nextF
  simp only [ht]
  simp
/-! ### Loading -/
def flat (l : List Ent) : List Int := l.flatMap eb
theorem flat_cons (x : Ent) (l : List Ent) : flat (x :: l) = eb x ++ flat l := by simp [flat]
theorem flat_app (l m : List Ent) : flat (l ++ m) = flat l ++ flat m := by simp [flat]
theorem flat_byte {l : List Ent} (h : ∀ x ∈ l, Fit x) : Byt (flat l) := by
  intro y hy
  obtain ⟨x, hx, hy⟩ := List.mem_flatMap.1 hy
  exact (eb_good (h x hx)).1 y hy
theorem flatJ_len {l : List Ent} (h : ∀ x ∈ l, Fit x) : l.length * 10 ≤ (flat l).length ∧ (flat l).length ≤ l.length * 4107 := by
  induction l with
  | nil => simp [flat]
  | cons x l ih =>
    have h1 := (eb_good (h x (List.mem_cons_self ..))).2
    have h2 := ih (fun y hy => h y (List.mem_cons_of_mem _ hy))
    rw [flat_cons, List.length_append, List.length_cons]
    omega
structure Loaded (b : List Int) (l : List Ent) (k : Nat) (e : Int) : Prop where
  good : ∀ x ∈ l, Fit x
  eat : b.take k = flat l
  le : k ≤ b.length
  fin : (e = 0 ∧ k = b.length) ∨ (e ≠ 0 ∧ k < b.length ∧ ((nextF (b.drop k)).1 = e ∨ ((nextF (b.drop k)).1 = 0 ∧ ¬ PutOk (nextF (b.drop k)).2.2)))
theorem Loaded.split {b : List Int} {l : List Ent} {k : Nat} {e : Int} (h : Loaded b l k e) : b = flat l ++ b.drop k ∧ k = (flat l).length := by
  refine ⟨by rw [← h.eat, List.take_append_drop], ?_⟩
  rw [← h.eat, List.length_take]
  have := h.le
  omega
/-- No other way to read. -/
theorem heads {x y : Ent} {r s : List Int} (hx : Fit x) (hy : Fit y) (h : eb x ++ r = eb y ++ s) : x = y ∧ r = s := by
  have h1 := nextF_eb hx r
  rw [h, nextF_eb hy s] at h1
  simp only [Prod.mk.injEq, true_and] at h1
  obtain ⟨_, rfl⟩ := h1
  exact ⟨rfl, List.append_cancel_left h⟩
theorem flats : ∀ {l0 l : List Ent} {r s : List Int}, (∀ x ∈ l0, Fit x) → (∀ x ∈ l, Fit x) → flat l0 ++ r = flat l ++ s →
    (∃ l1, l = l0 ++ l1 ∧ r = flat l1 ++ s) ∨ (∃ x l1, l0 = l ++ x :: l1 ∧ s = flat (x :: l1) ++ r)
  | [], l, r, s, _, _, h => .inl ⟨l, rfl, by simpa [flat] using h⟩
  | x :: l0, [], r, s, _, _, h => .inr ⟨x, l0, rfl, by simpa [flat] using h.symm⟩
  | x :: l0, y :: l, r, s, h0, h1, h => by
    rw [flat_cons, flat_cons, List.append_assoc, List.append_assoc] at h
    obtain ⟨rfl, h'⟩ := heads (h0 x (List.mem_cons_self ..)) (h1 y (List.mem_cons_self ..)) h
    rcases flats (fun z hz => h0 z (List.mem_cons_of_mem _ hz)) (fun z hz => h1 z (List.mem_cons_of_mem _ hz)) h' with ⟨l1, rfl, h2⟩ | ⟨z, l1, rfl, h2⟩
    · exact .inl ⟨l1, rfl, h2⟩
    · exact .inr ⟨z, l1, rfl, h2⟩
theorem good_put {x : Ent} (h : Fit x) : PutOk x := by
  obtain ⟨k, n, b⟩ := x
  rcases h with ⟨h1, h2, h3, h4⟩ | ⟨h1, h2, h3, h4⟩ | ⟨h1, h2, h3⟩ <;> simp only at h1 h2 h3 <;> subst h1 <;> constructor <;> simp only <;> omega
theorem Loaded.pre {b : List Int} {l l0 : List Ent} {k : Nat} {e : Int} {r : List Int} (h : Loaded b l k e) (h0 : ∀ x ∈ l0, Fit x) (hb : b = flat l0 ++ r) : ∃ l1, l = l0 ++ l1 ∧ r = flat l1 ++ b.drop k := by
  rcases flats h0 h.good (hb.symm.trans h.split.1) with h1 | ⟨x, l1, hx, h1⟩
  · exact h1
  · exfalso
    have hgx : Fit x := h0 x (by rw [hx]; simp)
    rw [flat_cons, List.append_assoc] at h1
    have hn := nextF_eb hgx (flat l1 ++ r)
    rw [← h1] at hn
    rcases h.fin with ⟨_, h2⟩ | ⟨h3, h2, h4⟩
    · have := congrArg List.length h1
      have hp := (eb_good hgx).2.1
      simp only [List.length_drop, List.length_append] at this
      omega
    · rw [hn] at h4
      rcases h4 with h4 | h4
      · exact h3 h4.symm
      · exact h4.2 (good_put hgx)
theorem Loaded.whole {l l0 : List Ent} {k : Nat} {e : Int} (h : Loaded (flat l0) l k e) (h0 : ∀ x ∈ l0, Fit x) : l = l0 ∧ k = (flat l0).length ∧ e = 0 := by
  obtain ⟨l1, rfl, h1⟩ := h.pre h0 (List.append_nil _).symm
  have hl1 : l1 = [] := by
    cases l1 with
    | nil => rfl
    | cons x l1 =>
      have := congrArg List.length h1
      have hp := (eb_good (h.good x (by simp))).2.1
      rw [flat_cons] at this
      simp only [List.length_append, List.length_nil] at this
      omega
  subst hl1
  rw [List.append_nil]
  have hk := h.split.2
  rw [List.append_nil] at hk
  rcases h.fin with ⟨h2, h3⟩ | ⟨_, h2, _⟩
  · exact ⟨rfl, h3, h2⟩
  · omega
theorem Loaded.part {b : List Int} {l l0 : List Ent} {k : Nat} {e : Int} {x : Ent} {r q : List Int} (h : Loaded b l k e) (h0 : ∀ x ∈ l0, Fit x) (hb : b = flat l0 ++ r) (hx : Fit x) (hr : eb x = r ++ q) (hr0 : r ≠ []) (hq0 : q ≠ []) : l = l0 ∧ k = (flat l0).length ∧ e = 4 := by
  obtain ⟨l1, rfl, h1⟩ := h.pre h0 hb
  have hl1 : l1 = [] := by
    cases l1 with
    | nil => rfl
    | cons y l1 =>
      exfalso
      have hy : Fit y := h.good y (by simp)
      rw [flat_cons, List.append_assoc] at h1
      rw [h1, List.append_assoc] at hr
      obtain ⟨_, h2⟩ := heads (r := flat l1 ++ b.drop k ++ q) (s := []) hy hx (by rw [List.append_nil, hr])
      have h3 := (List.append_eq_nil_iff.1 h2).2
      exact hq0 h3
  subst hl1
  rw [List.append_nil]
  have hk := h.split.2
  rw [List.append_nil] at hk
  have hdr : b.drop k = r := by rw [hb, hk]; simp
  have hcut := nextF_cut hx hr hq0
  rcases h.fin with ⟨h2, h3⟩ | ⟨h3, h2, h4⟩
  · exfalso
    rw [hb, List.length_append] at h3
    have := List.length_pos_iff.2 hr0
    omega
  · rw [hdr, hcut] at h4
    rcases h4 with h4 | h4
    · exact ⟨rfl, hk, h4.symm⟩
    · exact absurd h4.1 (by decide)
end Go.Jn
