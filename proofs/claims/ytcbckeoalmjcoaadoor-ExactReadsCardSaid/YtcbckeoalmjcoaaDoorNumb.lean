/- Reference 02: number. -/
import Derived.Test.YtcbckeoalmjcoaaDoorRead
set_option linter.unusedVariables false
set_option linter.unusedSimpArgs false
namespace Go.Proofs.YtcbckeoalmjcoaaDoor
open Go.RowKit Go.Cw Go.Fl
/-- The number of digits. -/
def digS (l : List UInt8) : Option Nat := if l.length < 1 ∨ 16 < l.length ∨ (l.head? = some 48 ∧ 1 < l.length) then none else Lib.decFrom 0 l
def numS : List UInt8 → Option Int
  | [] => none
  | b :: r => if b = 45 then (match numS r with | some n => if 0 < n then some (-n) else none | none => none) else (digS (b :: r)).map (fun (n : Nat) => (n : Int))
theorem decBad : ∀ (l : List UInt8) (acc j : Nat) (b : UInt8), l[j]? = some b → Lib.digitVal b = none → Lib.decFrom acc l = none
  | [], _, j, b, h, _ => by simp at h
  | x :: r, acc, 0, b, h, hb => by
    simp only [List.getElem?_cons_zero, Option.some.injEq] at h
    subst h
    simp only [Lib.decFrom, hb]
  | x :: r, acc, j + 1, b, h, hb => by
    simp only [List.getElem?_cons_succ] at h
    simp only [Lib.decFrom]
    cases Lib.digitVal x with
    | none => rfl
    | some d => exact decBad r _ j b h hb
theorem decGrow : ∀ (l : List UInt8) (acc n : Nat), Lib.decFrom acc l = some n → n < (acc + 1) * 10 ^ l.length
  | [], acc, n, h => by
    simp only [Lib.decFrom, Option.some.injEq] at h
    subst h
    simp
  | x :: r, acc, n, h => by
    simp only [Lib.decFrom] at h
    cases hd : Lib.digitVal x with
    | none => simp [hd] at h
    | some d =>
      simp only [hd] at h
      have h9 : d ≤ 9 := by have := digitVal_some hd; omega
      have := decGrow r _ n h
      rw [List.length_cons, Nat.pow_succ]
      have h2 : (acc * 10 + d + 1) * 10 ^ r.length ≤ ((acc + 1) * 10) * 10 ^ r.length := Nat.mul_le_mul_right _ (by omega)
      rw [Nat.mul_assoc, Nat.mul_comm 10] at h2
      omega
theorem decLt {l : List UInt8} {n : Nat} (h : Lib.decFrom 0 l = some n) (hl : l.length ≤ 16) : n < 10000000000000000 := by
  have h1 := decGrow _ _ _ h
  have h2 := Nat.pow_le_pow_right (show 0 < 10 by omega) hl
  have h3 : (10 : Nat) ^ 16 = 10000000000000000 := by decide
  omega
theorem numS_tail {l : List UInt8} {b : UInt8} (h : l[0]? = some b) (hb : b ≠ 45) : numS l = (digS l).map (fun (n : Nat) => (n : Int)) := by
  cases l with
  | nil => simp at h
  | cons x r =>
    simp only [List.getElem?_cons_zero, Option.some.injEq] at h
    subst h
    unfold numS
    rw [if_neg hb]
theorem numS_neg {l : List UInt8} (h : l[0]? = some 45) : numS l = (match numS (l.drop 1) with | some n => if 0 < n then some (-n) else none | none => none) := by
  cases l with
  | nil => simp at h
  | cons x r =>
    simp only [List.getElem?_cons_zero, Option.some.injEq] at h
    subst h
    rw [numS, if_pos rfl]
    rfl
/-- What number tells. -/
structure NumR (l : List UInt8) (n : Int) : Prop where
  lo : -1000000000000000000 < n
  hi : n < 1000000000000000000
  is : ∀ x, numS l = some x → n = x
set_option maxRecDepth 100000 in
set_option maxHeartbeats 1600000 in
theorem number_any (k : Nat) : ∀ (s : ByteArray), s.size = k → k ≤ 1000 → ∀ w : World,
    Calls Tryd.prog 61 #[.string s] w fun e w' => (∃ n : Int, NumR s.data.toList n ∧ e = .returned (.tuple #[.int .i64 n, .bool (numS s.data.toList).isSome])) ∧ Below w.heap.size w w' := by
  induction k using Nat.strongRecOn with
  | _ k ih =>
    intro s hk hk1 w
    have hfin : ∀ (n : Int) (b : Bool) (w' : World), NumR s.data.toList n → (numS s.data.toList).isSome = b → Below w.heap.size w w' → (fun (e : Ending) (w' : World) => (∃ n : Int, NumR s.data.toList n ∧ e = .returned (.tuple #[.int .i64 n, .bool (numS s.data.toList).isSome])) ∧ Below w.heap.size w w') (.returned (.tuple #[.int .i64 n, .bool b])) w' := fun n b w' h1 h2 h3 => ⟨⟨n, h1, by rw [h2]⟩, h3⟩
    generalize (fun (e : Ending) (w' : World) => (∃ n : Int, NumR s.data.toList n ∧ e = .returned (.tuple #[.int .i64 n, .bool (numS s.data.toList).isSome])) ∧ Below w.heap.size w w') = Q at *
    have hsz : s.data.toList.length = s.size := Array.length_toList
    have hno : numS s.data.toList = none → ∀ w', Below w.heap.size w w' → Q (.returned (.tuple #[.int .i64 0, .bool false])) w' := fun h w' hb => hfin 0 false w' ⟨by decide, by decide, fun x hx => by rw [h] at hx; cases hx⟩ (by rw [h]; rfl) hb
    replace hno := Lib.hid hno
    by_cases he : s.size = 0
    · have hl : s.data.toList = [] := List.eq_nil_of_length_eq_zero (by omega)
      have hz := Lib.hid (hno.out (by rw [hl]; rfl) _ (Below.refl _ _))
      have f1 : ¬ (0 : Int) < (s.size : Int) := by omega
      have f2 : (s.size : Int) < 1 := by omega
      clear hno hfin ih hl hsz hk hk1 he
      go_enter Tryd.func61, Tryd.ntmps61
      go_wp2_with fail
      exact hz.out
    have f1 : (0 : Int) < (s.size : Int) := by omega
    have i0 : 0 < s.size := by omega
    have t0 : s.data.toList[0]? = some s[0] := by rw [Array.getElem?_toList]; exact Array.getElem?_eq_getElem i0
    have hu : ∀ (b : UInt8) (c : Nat), c < 256 → (b.toNat : Int) = (c : Int) → b = UInt8.ofNat c := fun b c hc h => UInt8.toNat_inj.1 (by simp; omega)
    by_cases hm : (s[0].toNat : Int) = 45
    · have hb0 := hu _ 45 (by decide) hm
      rw [show s[0] = (45 : UInt8) from hb0] at t0
      have hN := numS_neg t0
      have hx : (s.extract 1 s.size).data.toList = s.data.toList.drop 1 := by
        simp
        exact List.take_of_length_le (by rw [List.length_tail]; omega)
      have hxs : (s.extract 1 s.size).size = s.size - 1 := by simp
      have hR := Lib.hid (ih (s.size - 1) (by omega) (s.extract 1 s.size) hxs (by omega) w)
      rw [hx] at hR
      have f2 : (1 : Int) ≤ (s.size : Int) := by omega
      replace hfin : Hid (∀ n : Int, NumR (s.data.toList.drop 1) n → ∀ w', Below w.heap.size w w' → Q (.returned (.tuple #[.int .i64 (-n), .bool ((numS (s.data.toList.drop 1)).isSome && decide (0 < n))])) w') := Lib.hid fun n hn w' hb => hfin (-n) _ w' ⟨by have := hn.hi; omega, by have := hn.lo; omega, fun x hx => by
        rw [hN] at hx
        cases hd : numS (s.data.toList.drop 1) with
        | none => rw [hd] at hx; cases hx
        | some y =>
          rw [hd] at hx
          simp only at hx
          have := hn.is y hd
          split at hx
          · cases hx; rw [this]
          · cases hx⟩ (by
        rw [hN]
        cases hd : numS (s.data.toList.drop 1) with
        | none => rfl
        | some y =>
          have := hn.is y hd
          subst this
          simp only [Option.isSome_some, Bool.true_and]
          by_cases h0 : 0 < n
          · rw [if_pos h0, decide_eq_true h0]; rfl
          · rw [if_neg h0, decide_eq_false h0]; rfl) hb
      clear hno ih hu hb0 t0 hN hx hxs hk hk1 hsz
      go_enter Tryd.func61, Tryd.ntmps61
      go_wp2_with fail
      refine hR.out.mono ?_
      rintro e w1 ⟨⟨n, hn, rfl⟩, hb1⟩
      have hz := hfin.out n hn w1 hb1
      have n1 : wrap64 (-n) = -n := by have := hn.lo; have := hn.hi; unfold wrap64; omega
      clear hR hfin hn hb1
      generalize (numS (s.data.toList.drop 1)).isSome = ok at *
      have hz2 : Q (.returned (.tuple #[.int .i64 (wrap64 (-n)), .bool (ok && decide (0 < n))])) w1 := by rw [n1]; exact hz
      clear n1
      cases ok with
      | false =>
        rw [Bool.false_and] at hz hz2
        replace hz := Lib.hid hz
        replace hz2 := Lib.hid hz2
        go_wp2_with fail
        first | exact hz.out | exact hz2.out
      | true =>
        rw [Bool.true_and] at hz hz2
        replace hz := Lib.hid hz
        replace hz2 := Lib.hid hz2
        go_wp2_with fail
        first | exact hz.out | exact hz2.out
    have hm' : s[0] ≠ 45 := fun e => hm (by rw [e]; rfl)
    have hN := numS_tail t0 hm'
    rw [hN] at hno hfin
    clear ih
    have g1 : ¬ (s.size : Int) < 1 := by omega
    by_cases hL : 16 < s.size
    · have g2 : (16 : Int) < (s.size : Int) := by omega
      have hz := Lib.hid (hno.out (by unfold digS; rw [if_pos (by omega)]; rfl) _ (Below.refl _ _))
      clear hno hfin hN hu t0 hk hk1 hsz hL
      go_enter Tryd.func61, Tryd.ntmps61
      go_wp2_with fail
      exact hz.out
    have g2 : ¬ (16 : Int) < (s.size : Int) := by omega
    have hhd : s.data.toList.head? = some s[0] := by rw [← t0]; exact List.head?_eq_getElem?
    by_cases h48 : (s[0].toNat : Int) = 48 ∧ 1 < s.size
    · obtain ⟨h48, h1s⟩ := h48
      have g3 : (1 : Int) < (s.size : Int) := by omega
      have hb0 := hu _ 48 (by decide) h48
      have hz := Lib.hid (hno.out (by unfold digS; rw [if_pos (.inr (.inr ⟨by rw [hhd, show s[0] = (48 : UInt8) from hb0], by omega⟩))]; rfl) _ (Below.refl _ _))
      clear hno hfin hN hu t0 hk hk1 hsz hL hhd hb0 h1s
      go_enter Tryd.func61, Tryd.ntmps61
      go_wp2_with fail
      exact hz.out
    have hD : digS s.data.toList = Lib.decFrom 0 s.data.toList := by
      unfold digS
      rw [if_neg]
      rintro (h | h | ⟨h, h'⟩)
      · omega
      · omega
      · rw [hhd] at h
        simp only [Option.some.injEq] at h
        exact h48 ⟨by rw [h]; rfl, by omega⟩
    rw [hD] at hno hfin
    have hq : Hid (((s[0].toNat : Int) = 48 ∧ ¬ (1 : Int) < (s.size : Int)) ∨ ¬ (s[0].toNat : Int) = 48) := Lib.hid (by
      by_cases e : (s[0].toNat : Int) = 48
      · exact .inl ⟨e, fun h => h48 ⟨e, by omega⟩⟩
      · exact .inr e)
    have hbad := fun j b h1 h2 => decBad s.data.toList 0 j b h1 h2
    replace hbad := Lib.hid hbad
    replace hfin : Hid (∀ n : Nat, Lib.decFrom 0 s.data.toList = some n → n < 10000000000000000 → ∀ w', Below w.heap.size w w' → Q (.returned (.tuple #[.int .i64 (n : Int), .bool true])) w') := Lib.hid fun n hn hl w' hb => hfin (n : Int) true w' ⟨by omega, by omega, fun x hx => by rw [hN, hD, hn] at hx; cases hx; rfl⟩ (by rw [hn]; rfl) hb
    replace hno : Hid (Lib.decFrom 0 s.data.toList = none → ∀ w', Below w.heap.size w w' → Q (.returned (.tuple #[.int .i64 0, .bool false])) w') := Lib.hid fun h => hno.out (by rw [h]; rfl)
    clear hN hD h48 hhd hu t0 hm'
    rcases hq.out with ⟨h3, h4⟩ | h3
    all_goals
      go_enter Tryd.func61, Tryd.ntmps61
      go_wp2_with fail
      go_loopw [6, 7] (fun s6 s7 wr => ∃ n j : Nat, j ≤ s.size ∧ s7 = .int .i64 (j : Int) ∧ s6 = .int .i64 (n : Int) ∧ Hid (Lib.decFrom 0 (s.data.toList.take j) = some n) ∧ Below w.heap.size w wr) (fun _ s7 _ => s.size - (intOf s7).toNat)
      case atStart => exact ⟨0, 0, by omega, by go_num, by go_num, Lib.hid rfl, Below.refl _ _⟩
      case round =>
        obtain ⟨n, j, hj, rfl, rfl, hd, hb⟩ := hrel
        have hnl := decLt hd.out (by rw [List.length_take]; omega)
        by_cases hlt : j < s.size
        · have hat : s.data.toList[j]? = some s[j] := by rw [Array.getElem?_toList]; exact Array.getElem?_eq_getElem hlt
          by_cases hdg : 48 ≤ (s[j].toNat : Int) ∧ (s[j].toNat : Int) ≤ 57
          · obtain ⟨d1, d2⟩ := hdg
            obtain ⟨d, hde⟩ : ∃ d : Nat, (s[j].toNat : Int) - 48 = (d : Int) := ⟨s[j].toNat - 48, by omega⟩
            have hdv : Lib.digitVal s[j] = some d := by unfold Lib.digitVal; rw [if_pos (by omega)]; congr 1; omega
            have hD2 := Lib.hid (Lib.decFrom_take _ _ _ _ _ _ hd.out hat hdv)
            have w1 : IntKind.u8.wrap ((s[j].toNat : Int) - 48) = (d : Int) := by rw [hde, IntKind.wrap_u8]; omega
            have w2 : IntKind.i64.wrap (d : Int) = (d : Int) := by rw [IntKind.wrap_i64]; omega
            have w3 : IntKind.i64.wrap (10 * (n : Int)) = 10 * (n : Int) := by rw [IntKind.wrap_i64]; omega
            have w4 : IntKind.i64.wrap (10 * (n : Int) + (d : Int)) = ((n * 10 + d : Nat) : Int) := by rw [IntKind.wrap_i64]; omega
            obtain ⟨m, hme⟩ : ∃ m, m = n * 10 + d := ⟨_, rfl⟩
            rw [← hme] at hD2 w4
            have d1' : ¬ (s[j].toNat : Int) < 48 := by omega
            have d2' : ¬ 57 < (s[j].toNat : Int) := by omega
            clear hme hde hdv hat d1 d2 hd
            go_wp2_with fail
            go_roundw
            case rel => exact ⟨m, j + 1, by omega, by go_num, rfl, hD2, hb⟩
            case measure => simp [intOf]; omega
          · have hdv : Lib.digitVal s[j] = none := by unfold Lib.digitVal; rw [if_neg (by omega)]
            have hz := Lib.hid (hno.out (hbad.out j _ hat hdv) _ hb)
            clear hat hdv hd
            go_wp2_with fail
            all_goals exact hz.out
        · obtain rfl : j = s.size := by omega
          have hDe : Lib.decFrom 0 s.data.toList = some n := by
            rw [← hd.out, List.take_of_length_le]
            omega
          have hz := Lib.hid (hfin.out n hDe hnl _ hb)
          clear hd hDe
          go_wp2_with fail
          exact hz.out
end Go.Proofs.YtcbckeoalmjcoaaDoor
