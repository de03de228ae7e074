/- The small play of the journal's laws. -/
import Derived.Test.YtmdmekdmlkhchaaJournalLaw
set_option linter.unusedVariables false
set_option linter.unusedSimpArgs false
namespace Go.Proofs.Ytmdmekdmlkhchaa
open Go.RowKit Go.Cw Go.Jn
theorem flat21 : (flat [(2, 0, []), (3, 0, [])]).length = 21 := by
  simp [flat, eb, txt, sld, inb, big_len, enc_lt (show (0 : Nat) < 128 by decide), enc_lt (show (9 : Nat) < 128 by decide), enc_lt (show (10 : Nat) < 128 by decide)]
set_option maxRecDepth 100000 in
set_option maxHeartbeats 3200000 in
theorem works42 (w : World) : Calls Try.prog 38 #[] w fun e w' => e = .returned (.bool true) ∧ Below w.heap.size w w' := by
  go_enter Try.func38, Try.ntmps38
  go_wp2_with fail
  refine (jNew w).mono ?_
  rintro e w1 ⟨p, rfl, h1, en1⟩
  have hD := jDrain_of (jP p) 0 0 _ _ (jPut_ok p [] 2 0 none 0 0 [] (.inr (.inl ⟨rfl, by decide, by decide⟩)) (by simp) (by simp) _ _ _ h1 (Rw.nil _ _))
  go_wp2_with fail
  refine hD.mono ?_
  rintro e w2 ⟨rfl, en2, v1, h2⟩
  obtain ⟨H1, l1, h3, r1⟩ := h2.row_keep
  have hC := jCompact_of (jP p) 0 _ _ (jPut_ok p _ 3 0 none 0 0 [] (.inr (.inr rfl)) (by simp) (by simp) _ _ _ h3 (Rw.nil _ _))
  clear hD h2
  go_wp2_with fail
  refine hC.mono ?_
  rintro e w3 ⟨rfl, en3, v2, h4⟩
  obtain ⟨H2, l2, h5, r2⟩ := h4.row_keep
  clear hC h4 h3
  have hg : EGood H2 ([] ++ [(2, 0, v1, [])] ++ [(3, 0, v2, [])]) := by
    intro x hx
    simp only [List.nil_append, List.cons_append, List.mem_cons, List.not_mem_nil, or_false] at hx
    rcases hx with rfl | rfl
    · exact ⟨r1.mono l2, .inr (.inl ⟨rfl, Int.le_refl _, by simp [ent], rfl⟩)⟩
    · exact ⟨r2, .inr (.inr ⟨rfl, rfl, rfl⟩)⟩
  have he : ents ([] ++ [(2, 0, v1, [])] ++ [(3, 0, v2, [])]) = [(2, 0, []), (3, 0, [])] := rfl
  have hlen2 : ([] ++ [(2, 0, v1, [])] ++ [(3, 0, v2, [])] : List JEnt).length = 2 := rfl
  have en4 := (en1.trans en2).trans en3
  have hB := fun (H : Hp) (hg : EGood H ([] ++ [(2, 0, v1, [])] ++ [(3, 0, v2, [])])) => jBytes p _ H hg (by rw [hlen2]; decide)
  rw [he] at hB
  replace he := Lib.hid he
  generalize ([] ++ [(2, 0, v1, [])] ++ [(3, 0, v2, [])] : List JEnt) = L at *
  go_wp2_with fail
  refine (hB H2 hg [] w3 h5).mono ?_
  rintro e w4 hq
  obtain ⟨v4, rfl, h6, en5⟩ := ResE.lift h5 hq
  obtain ⟨H3, l3, h7, r3⟩ := h6.row_keep
  obtain ⟨A4, n4, c4, rfl, hn4, _⟩ := r3.form
  have en6 := en4.trans en5
  have hfit : ∀ x ∈ [((2 : Int), (0 : Int), ([] : List Int)), (3, 0, [])], Fit x := by
    have := hg.good
    rwa [he.out] at this
  have hL := load_any A4 n4 c4 _ (flat_byte hfit) (by rw [flat21]; decide) H3 _ w4 h7 r3
  clear hq h6
  go_wp2_with fail
  refine hL.mono ?_
  rintro e w5 ⟨p2, l5, k5, b5, H5, rfl, le5, h8, en7, hg5, ld5⟩
  obtain ⟨hl5, hk5, hb5⟩ := ld5.whole hfit
  rw [flat21] at hk5
  subst hb5 hk5
  have hlen5 : l5.length = 2 := by have := congrArg List.length hl5; rw [ents_len] at this; exact this
  replace hl5 := Lib.hid hl5
  have h9 := h8.swap
  have hJ := jLen p L H5 _ w5 h9
  have hJ2 := jLen p2 l5 H5 _ w5 h8
  rw [hlen2] at hJ
  rw [hlen5] at hJ2
  replace hlen5 := Lib.hid hlen5
  clear hL hlen2
  go_wp2_with fail
  refine hJ.mono ?_
  rintro e w6 ⟨rfl, rfl⟩
  go_wp2_with fail
  refine (hB H5 ((hg.mono l3).mono le5) _ w5 h9).mono ?_
  rintro e w7 hq
  obtain ⟨v7, rfl, h10, en8⟩ := ResE.lift h8 hq
  obtain ⟨A7, n7, c7, rfl, hn7, _⟩ := h10.row_form
  rw [u8s_len, flat21, Nat.mul_one] at hn7
  subst hn7
  go_wp2_with fail
  have hJ3 := jLen p2 l5 H5 _ w7 h10.drop
  rw [hlen5.out] at hJ3
  refine hJ3.mono ?_
  rintro e w8 ⟨rfl, rfl⟩
  go_wp2_with fail
  go_ret
  exact ⟨rfl, ((((h10.weaken le5).weaken l3).weaken l2).weaken l1).toBelow ((en6.trans en7).trans en8)⟩
end Go.Proofs.Ytmdmekdmlkhchaa
