/- Joined texts: Frames, GraphM. -/
import Derived.Test.YtohgcghobidfpaaProg
import Derived.Test.YtohgcghobidfpaaGG1
import Derived.Test.YtohgcghobidfpaaGG9
import Derived.Test.YtohgcghobidfpaaGG18
/- The methods of a stack, each by its contract. -/
set_option linter.unusedVariables false
set_option linter.unusedSimpArgs false
namespace Go.Proofs.Ytohgcghobidfpaa
open Go.RowKit Go.Cw
attribute [local go_sem] max_int min_int

theorem info_int : (Try.prog.info? 3).map (fun i => (i.zero, i.size, i.bytes)) = some (some (.int .i64 0), 1, 8) := by kernel_rfl
def ints (xs : List Int) : List Value := xs.map (Value.int .i64)
theorem ints_one (xs : List Int) : ∀ u ∈ ints xs, u.oneCell' = true := by
  intro u hu
  obtain ⟨x, _, rfl⟩ := List.mem_map.1 hu
  rfl
theorem ints_len (xs : List Int) : (ints xs).length = xs.length := by simp [ints]
theorem ints_append (xs ys : List Int) : ints (xs ++ ys) = ints xs ++ ints ys := by simp [ints]
theorem ints_take (xs : List Int) (k : Nat) : (ints xs).take k = ints (xs.take k) := by simp [ints]
theorem ints_set (xs : List Int) (k : Nat) (x : Int) : (ints xs).set k (.int .i64 x) = ints (xs.set k x) := by simp [ints]
def nth (xs : List Int) (i : Int) : Int := xs.getD i.toNat 0
theorem ints_nth (xs : List Int) (i : Nat) (h : i < xs.length) : (ints xs)[i]? = some (.int .i64 (nth xs i)) := by simp [ints, nth, h]
section
variable {p : Nat} {xs : List Int} {H : Hp} {fr : List HA} {w : World}
end

def cutAt (n : Int) (xs : List Int) : Nat := (min (max n 0) xs.length).toNat
theorem ints_drop (xs : List Int) (k : Nat) : (ints xs).drop k = ints (xs.drop k) := by simp [ints]
end Go.Proofs.Ytohgcghobidfpaa

/- Records that are made out of a seed: what they must be. -/
set_option linter.unusedVariables false
set_option linter.unusedSimpArgs false
namespace Go.Proofs.Ytohgcghobidfpaa
open Go.RowKit Go.Cw Go.Fl
/-- The i-th id. -/
def idG (i : Nat) : Id := ((i : Int) % 3, (i : Int) / 3 + 1)
def idsG (n : Nat) : List Id := (List.range n).map idG
theorem idsG_snoc (k : Nat) : idsG (k + 1) = idsG k ++ [idG k] := by simp [idsG, List.range_succ]
theorem idsG_len (n : Nat) : (idsG n).length = n := by simp [idsG]
theorem idsG_get (n i : Nat) (h : i < n) : (idsG n)[i]'(by rw [idsG_len]; exact h) = idG i := by simp [idsG]
/-- Deps as they come. -/
def depsJ (n : Int) (a : Id) (s0 : Int) : Nat → Int × List Id
  | 0 => (s0, [])
  | j + 1 => (advI (depsJ n a s0 j).1, if idG (rnd (depsJ n a s0 j).1 n).toNat = a then (depsJ n a s0 j).2 else (depsJ n a s0 j).2 ++ [idG (rnd (depsJ n a s0 j).1 n).toNat])
def seqM (n s : Int) : Int := 1 + rnd s (2 * n)
def cntM (s : Int) : Nat := (rnd (advI s) 3).toNat
def depM (n s : Int) (i : Nat) : Int × List Id := depsJ n (idG i) (advI (advI s)) (cntM s)
def keyM (n keys s : Int) (i : Nat) : Int := ((i : Int) + rnd (depM n s i).1 2) % keys
def cmdM (n keys s : Int) (i : Nat) : Cm := (oneK (advI (depM n s i).1), Utf8.encode (97 + keyM n keys s i), oneF (advI (depM n s i).1))
/-- One record: it, the state, and what was touched. -/
def stepM (n keys : Int) (i : Nat) (s : Int) (T : List Int) : Rp × Int × List Int :=
  if nth T (keyM n keys s i) < 12 then ((idG i, seqM n s, runs (idSort (depM n s i).2), [cmdM n keys s i]), oneS (advI (depM n s i).1), T.set (keyM n keys s i).toNat (nth T (keyM n keys s i) + 1))
  else ((idG i, seqM n s, runs (idSort (depM n s i).2), []), advI (depM n s i).1, T)
def genM (n keys : Int) (s0 : Int) : Nat → Int × List Int × List Rp
  | 0 => (s0, List.replicate keys.toNat 0, [])
  | i + 1 => ((stepM n keys i (genM n keys s0 i).1 (genM n keys s0 i).2.1).2.1, (stepM n keys i (genM n keys s0 i).1 (genM n keys s0 i).2.1).2.2, (genM n keys s0 i).2.2 ++ [(stepM n keys i (genM n keys s0 i).1 (genM n keys s0 i).2.1).1])
theorem stepM_len (n keys : Int) (i : Nat) (s : Int) (T : List Int) : (stepM n keys i s T).2.2.length = T.length := by
  unfold stepM
  split <;> simp
theorem genM_len (n keys s0 : Int) (i : Nat) : (genM n keys s0 i).2.1.length = keys.toNat ∧ (genM n keys s0 i).2.2.length = i := by
  induction i with
  | zero => simp [genM]
  | succ i ih => simp [genM, stepM_len, ih.1, ih.2]
theorem nth_range {T : List Int} (h : ∀ x ∈ T, 0 ≤ x ∧ x ≤ 12) (k : Int) : 0 ≤ nth T k ∧ nth T k ≤ 12 := by
  unfold nth
  rw [List.getD_eq_getElem?_getD]
  cases hg : T[k.toNat]? with
  | none => simp
  | some x => exact h x (List.mem_of_getElem? hg)
theorem genM_T (n keys s0 : Int) (i : Nat) : ∀ x ∈ (genM n keys s0 i).2.1, 0 ≤ x ∧ x ≤ 12 := by
  induction i with
  | zero =>
    intro x hx
    have := List.eq_of_mem_replicate hx
    omega
  | succ i ih =>
    intro x hx
    have hn := nth_range ih (keyM n keys (genM n keys s0 i).1 i)
    simp only [genM] at hx
    unfold stepM at hx
    split at hx
    · rcases List.mem_or_eq_of_mem_set hx with h | h
      · exact ih x h
      · omega
    · exact ih x hx
theorem cntM_le (s : Int) : cntM s ≤ 2 := by
  unfold cntM
  have := rnd_range (advI s) 3 (by omega) (by omega)
  omega
theorem keyM_range (n keys s : Int) (i : Nat) (h1 : 1 ≤ keys) : 0 ≤ keyM n keys s i ∧ keyM n keys s i < keys := by
  unfold keyM
  have := rnd_range (depM n s i).1 2 (by omega) (by omega)
  exact ⟨Int.emod_nonneg _ (by omega), Int.emod_lt_of_pos _ (by omega)⟩
end Go.Proofs.Ytohgcghobidfpaa
