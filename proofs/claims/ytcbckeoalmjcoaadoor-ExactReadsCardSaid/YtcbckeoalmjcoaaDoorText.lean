/- exact.Text: a number's text. -/
import Derived.Test.YtcbckeoalmjcoaaDoorNames
import Derived.Test.YtcbckeoalmjcoaaDoorParts
import Derived.Test.YtcbckeoalmjcoaaDoorNums
import Derived.Lib.ItoaLen
set_option linter.unusedVariables false
set_option linter.unusedSimpArgs false
namespace Go.Proofs.YtcbckeoalmjcoaaDoor
open Go.RowKit Go.Cw Go.Fl
theorem oddR_uniq {r u t u' t' : Nat} (h : OddR r u t) (h' : OddR r u' t') : u = u' ∧ t = t' := odd_uniq h.odd h'.odd (h.v.symm.trans h'.v)
theorem oddR_any {r : Nat} (hr : r < top) (h0 : r ≠ 0) : ∃ u t, OddR r u t := by
  obtain ⟨o, s, h1, h2⟩ := odd_split (V r) (fun e => h0 (V_zero.1 e))
  have hm : mag r < 9007199254740992 := by
    unfold mag
    have hB : B + B = 9007199254740992 := by decide
    have : r % B < B := Nat.mod_lt _ (by decide)
    split <;> omega
  obtain ⟨o2, s2, h3, h4⟩ := odd_split (mag r) (mag_pos h0)
  have hV : V r = o2 * 2 ^ (s2 + plc r) := by unfold V; rw [Nat.pow_add, ← Nat.mul_assoc, ← h4]
  have hl : o2 * 1 ≤ o2 * 2 ^ s2 := Nat.mul_le_mul_left _ (Nat.two_pow_pos _)
  obtain ⟨t, ht, -⟩ := oddR_of (k := 0) (q := 0) hr h0 h3 (by omega) (show V r * 2 ^ 0 = o2 * 2 ^ (s2 + plc r) * 2 ^ 0 by rw [hV])
  exact ⟨o2, t, ht⟩
/-- A number's text. -/
def oddT (s : Bool) (u t : Nat) : List UInt8 := Lib.itoa (sg s u) ++ 112 :: Lib.itoa ((t : Int) - 1074)
open Classical in
noncomputable def txtL (b : Nat) : List UInt8 :=
  match lkI (kindOf b) nmL 0 with
  | some q => q.2.data.toList
  | none => if h : ∃ p : Nat × Nat, OddR (rung b) p.1 p.2 then oddT (neg b) h.choose.1 h.choose.2 else []
/-- A number with parts. -/
structure Fin1 (b : Nat) : Prop where
  lt : rung b < top
  ne : rung b ≠ 0
theorem kind_cases (b : Nat) : (∃ q, lkI (kindOf b) nmL 0 = some q) ∧ ¬ Fin1 b ∨ lkI (kindOf b) nmL 0 = none ∧ Fin1 b := by
  unfold kindOf
  by_cases h1 : top < rung b
  · rw [if_pos h1]; exact .inl ⟨⟨_, rfl⟩, fun h => by have := h.lt; omega⟩
  · rw [if_neg h1]
    by_cases h2 : rung b = top
    · rw [if_pos h2]
      refine .inl ⟨?_, fun h => by have := h.lt; omega⟩
      cases neg b
      · exact ⟨_, rfl⟩
      · exact ⟨_, rfl⟩
    · rw [if_neg h2]
      by_cases h3 : rung b = 0
      · rw [if_pos h3]
        refine .inl ⟨?_, fun h => h.ne h3⟩
        cases neg b
        · exact ⟨_, rfl⟩
        · exact ⟨_, rfl⟩
      · rw [if_neg h3]
        refine .inr ⟨?_, by omega, h3⟩
        cases neg b <;> rfl
theorem txt_odd {b u t : Nat} (h : Fin1 b) (ho : OddR (rung b) u t) : txtL b = oddT (neg b) u t := by
  rcases kind_cases b with ⟨_, h2⟩ | ⟨h1, _⟩
  · exact absurd h h2
  · have hx : ∃ p : Nat × Nat, OddR (rung b) p.1 p.2 := ⟨(u, t), ho⟩
    unfold txtL
    rw [h1]
    simp only [dif_pos hx]
    obtain ⟨e1, e2⟩ := oddR_uniq hx.choose_spec ho
    rw [e1, e2]
theorem txt_name {b : Nat} {q : Nat × ByteArray} (h : lkI (kindOf b) nmL 0 = some q) : txtL b = q.2.data.toList := by
  unfold txtL; rw [h]
theorem sg_b {s : Bool} {u : Nat} (h : u < 9007199254740992) : -9223372036854775808 ≤ sg s u ∧ sg s u ≤ 9223372036854775807 := by
  unfold sg; cases s <;> simp <;> omega
set_option maxRecDepth 100000 in
theorem text_any (b : Nat) (hb : b < 18446744073709551616) (w : World) (hv : Vx w) :
    Calls Tryd.prog 24 #[.float .f64 b] w fun e w' => e = .returned (.string ⟨(txtL b).toArray⟩) ∧ Below w.heap.size w w' := by
  have hfin : ∀ (s : ByteArray) (w' : World), s.data.toList = txtL b → Below w.heap.size w w' → (fun (e : Ending) (w' : World) => e = .returned (.string ⟨(txtL b).toArray⟩) ∧ Below w.heap.size w w') (.returned (.string s)) w' := fun s w' h1 h2 => ⟨by rw [← h1], h2⟩
  generalize (fun (e : Ending) (w' : World) => e = .returned (.string ⟨(txtL b).toArray⟩) ∧ Below w.heap.size w w') = Q at *
  replace hfin := Lib.hid hfin
  have hN := Lib.hid (names_any w)
  have hK := fun w' => Lib.hid (kind_any b hb w')
  replace hb := Lib.hid hb
  go_enter Tryd.func24, Tryd.ntmps24
  go_wp2_with fail
  refine hN.out.mono ?_
  clear hN
  rintro e w1 ⟨g, rfl, hM, hb1⟩
  go_wp2_with fail
  refine (hK _).out.mono ?_
  rintro e w2 ⟨rfl, rfl⟩
  have hg := mpI_get hM (kindOf b)
  rcases kind_cases b with ⟨⟨q, hq⟩, -⟩ | ⟨hq, hF⟩
  · rw [hq] at hg
    simp only [Option.map_some, Option.getD_some, Option.isSome_some] at hg
    have hz := Lib.hid (hfin.out q.2 _ (txt_name hq).symm hb1)
    clear hM hfin hq hv hb hK hb1
    generalize kindOf b = k at *
    go_wp2_with fail
    exact hz.out
  · rw [hq] at hg
    simp only [Option.map_none, Option.getD_none, Option.isSome_none] at hg
    have hP := Lib.hid (parts_any b hb.out hF.lt hF.ne w1)
    replace hv := hv.below hb1
    clear hM hK
    generalize hkk : kindOf b = k at *
    clear hkk hq
    go_wp2_with fail
    refine hP.out.mono ?_
    rintro e w3 ⟨u, t, ho, rfl, rfl⟩
    have hx := txt_odd hF ho
    have ht := ho.t
    obtain ⟨s1, s2⟩ := sg_b (s := neg b) ho.lt
    have hFm := Lib.hid (fmtx_any _ s1 s2 w1 hv)
    have hI := fun w' hw => Lib.hid (itoax_any ((t : Int) - 1074) (by omega) (by omega) w' hw)
    have l1 := Lib.itoa_length_le _ s1 s2
    have l2 := Lib.itoa_length_le ((t : Int) - 1074) (by omega) (by omega)
    replace hfin : Hid (∀ w', Below w.heap.size w w' → Q (.returned (.string (⟨(Lib.itoa (sg (neg b) u)).toArray⟩ ++ { data := #[112] } ++ ⟨(Lib.itoa ((t : Int) - 1074)).toArray⟩))) w') := Lib.hid fun w' h => hfin.out _ w' (by
      rw [hx, show ({ data := #[112] } : ByteArray) = ⟨([112] : List UInt8).toArray⟩ from rfl, ba_app, ba_app]
      simp [oddT]) h
    clear ho hx hP hF hb ht s1 s2 hg
    generalize sg (neg b) u = m at *
    generalize (t : Int) - 1074 = x at *
    generalize Lib.itoa m = lm at *
    generalize Lib.itoa x = lx at *
    have f1 : ¬ 9223372036854775807 < lm.length + 1 := by omega
    have f2 : ¬ 9223372036854775807 < lm.length + 1 + lx.length := by omega
    replace l1 := Lib.hid l1
    replace l2 := Lib.hid l2
    go_wp2_with fail
    refine hFm.out.mono ?_
    rintro e w4 ⟨rfl, hb4⟩
    replace hb1 := hb1.trans (hb4.mono hb1.size)
    replace hI := hI w4 (hv.below hb4)
    clear hFm hb4 hv
    go_wp2_with fail
    refine hI.out.mono ?_
    rintro e w5 ⟨rfl, hb5⟩
    replace hb1 := hb1.trans (hb5.mono hb1.size)
    have hz := Lib.hid (hfin.out _ hb1)
    clear hI hb5 hfin
    go_wp2_with fail
    exact hz.out
end Go.Proofs.YtcbckeoalmjcoaaDoor
