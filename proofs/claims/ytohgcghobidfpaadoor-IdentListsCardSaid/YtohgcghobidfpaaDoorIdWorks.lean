/- Law 03: works. -/
import Derived.Test.YtohgcghobidfpaaDoorIdRef
import Derived.Test.YtohgcghobidfpaaDoorIdent
set_option linter.unusedVariables false
set_option linter.unusedSimpArgs false
namespace Go.Proofs.YtohgcghobidfpaaDoor
open Go.RowKit Go.Cw
attribute [local go_sem ↓] eql_id neq_id
theorem compare3_any (a b : Id) (w : World) : Calls Tryd.prog 11 #[idV a, idV b] w fun e w' => e = .returned (.int .i64 (cmpId a b)) ∧ Below w.heap.size w w' := (compare_any a b w).mono (by
  rintro e w' ⟨rfl, q, os, rfl⟩
  exact ⟨rfl, grow_below w q os⟩)
abbrev t217 : ByteArray := { data := #[50, 46, 49, 55] }
theorem idT217 : idT (2, 17) = t217.data.toList := by
  show Lib.decDigits 2 ++ 46 :: Lib.decDigits 17 = _
  rw [Lib.decDigits_one (by decide), Lib.decDigits_two (by decide) (by decide)]
  decide
theorem rd217 : rdId t217.data.toList = some (2, 17) := rdId_some.2 ⟨by decide, idT217⟩
set_option maxRecDepth 100000 in
set_option maxHeartbeats 1600000 in
theorem works03 (w : World) (hv : Vs w) : Calls Tryd.prog 13 #[] w fun e w' => e = .returned (.bool true) ∧ Below w.heap.size w w' := by
  have hR := Lib.hid (identRead_any t217 (by decide) w hv)
  have hfin : ∀ (l : List HA) (w' : World), St (snap w) l w' → Env w w' → Hid (Below w.heap.size w w') := fun l w' hst hen => Lib.hid (St.toBelow (l := []) ⟨hst.imm, fun _ => False, fun _ h => h, fun _ h => h.elim⟩ hen)
  go_enter Tryd.func13, Tryd.ntmps13
  go_wp2_with fail
  refine hR.out.mono ?_
  rintro e w1 ⟨he, hb1⟩
  unfold RdR at he
  rw [rd217] at he
  subst he
  have h1 := ((St.start w).below hb1).blk #[.int .i64 2, .int .i64 17] 23
  have en1 := (bel_env hb1).alloc (.cells #[.int .i64 2, .int .i64 17] 23)
  have hv1 := (hv.below hb1).alloc (.cells #[.int .i64 2, .int .i64 17] 23)
  have c0 := h1.blk_cell 0
  have c1 := h1.blk_cell 1
  have cl := h1.blk_lt
  have hT := Lib.hid (identText_any (2, 17) _ hv1)
  have e1 : (if idOk (2, 17) = true then (⟨(idT (2, 17)).toArray⟩ : ByteArray) else ByteArray.empty) = { data := #[50, 46, 49, 55] } := by
    rw [if_pos (by decide), idT217]
  rw [e1] at hT
  have hC := Lib.hid (fun w' => compare3_any (2, 17) (3, 1) w')
  have hc : cmpId (2, 17) (3, 1) = -1 := by decide
  rw [hc] at hC
  clear hR e1 hc
  go_wp2_with fail
  refine hT.out.mono ?_
  rintro e w2 ⟨rfl, hb2⟩
  have h2 := h1.below hb2
  have en2 := en1.trans (bel_env hb2)
  have d0 := h2.blk_cell 0
  have d1 := h2.blk_cell 1
  have dl := h2.blk_lt
  go_wp2_with fail
  refine (hC.out _).mono ?_
  rintro e w3 ⟨rfl, hb3⟩
  have hz := hfin _ _ (h2.below hb3) (en2.trans (bel_env hb3))
  go_wp2_with fail
  go_ret
  exact ⟨rfl, hz.out⟩
end Go.Proofs.YtohgcghobidfpaaDoor
