/- The texts of ids: the walk of ident.Read. -/
import Derived.Test.YtohgcghobidfpaaDoorIdTxt2
set_option linter.unusedVariables false
set_option linter.unusedSimpArgs false
namespace Go.Proofs.YtohgcghobidfpaaDoor
open Go.RowKit Go.Cw
attribute [local go_sem ↓] eql_id neq_id
theorem cut_len (l : List UInt8) : (Lib.cut l [46]).1.length ≤ l.length ∧ (Lib.cut l [46]).2.1.length ≤ l.length := by
  unfold Lib.cut
  split
  · simp; omega
  · simp
/-- What Read tells. -/
def RdR (l : List UInt8) (e : Ending) : Prop := match rdId l with
  | some a => e = .returned (.tuple #[.agg #[.int .i64 a.1, .int .i64 a.2], .int .i64 0])
  | none => e = .returned (.tuple #[.agg #[.int .i64 0, .int .i64 0], .int .i64 3])
theorem rdId_of {l : List UInt8} {x y : Int} (h1 : Lib.atoiAll (Lib.cut l [46]).1 = .ok x) (h2 : Lib.atoiAll (Lib.cut l [46]).2.1 = .ok y) : rdId l = if idOk (x, y) = true ∧ idT (x, y) = l then some (x, y) else none := by
  unfold rdId
  rw [h1, h2]
theorem rdId_bad1 {l : List UInt8} (h : ∀ x, Lib.atoiAll (Lib.cut l [46]).1 ≠ .ok x) : rdId l = none := by
  unfold rdId
  split
  · rename_i h1 h2; exact absurd h1 (h _)
  · rfl
theorem rdId_bad2 {l : List UInt8} (h : ∀ x, Lib.atoiAll (Lib.cut l [46]).2.1 ≠ .ok x) : rdId l = none := by
  unfold rdId
  split
  · rename_i h1 h2; exact absurd h2 (h _)
  · rfl
theorem ba_ext3 {s t : ByteArray} (h : s.toList = t.toList) : s = t := by
  rw [ByteArray.toList_eq, ByteArray.toList_eq] at h
  cases s
  cases t
  congr
  exact Array.toList_inj.1 h
theorem atoiR_cases {l : List UInt8} {v er : Value} (h : AtoiR l v er) : (∃ x, Lib.atoiAll l = .ok x ∧ v = .int .i64 x ∧ er = .nilIface) ∨ ((∀ x, Lib.atoiAll l ≠ .ok x) ∧ ∃ x t p, v = .int .i64 x ∧ er = .iface t p) := by
  unfold AtoiR at h
  split at h
  · rename_i x hx; exact .inl ⟨x, hx, h⟩
  · rename_i hn
    obtain ⟨⟨x, rfl⟩, t, p, rfl⟩ := h
    exact .inr ⟨fun x hx => hn x hx, x, t, p, rfl, rfl⟩
set_option maxRecDepth 100000 in
set_option maxHeartbeats 1600000 in
theorem identRead_any (s : ByteArray) (hs : s.size ≤ 1000) (w : World) (hv : Vs w) :
    Calls Tryd.prog 14 #[.string s] w fun e w' => RdR s.data.toList e ∧ Below w.heap.size w w' := by
  have hfinN : rdId s.data.toList = none → ∀ (l : List HA) (w' : World), St (snap w) l w' → Env w w' → Hid ((RdR s.data.toList (.returned (.tuple #[.agg #[.int .i64 0, .int .i64 0], .int .i64 3])) ∧ Below w.heap.size w w')) := fun h l w' hst hen => Lib.hid ⟨by unfold RdR; rw [h], (St.toBelow (l := []) ⟨hst.imm, fun _ => False, fun _ h => h, fun _ h => h.elim⟩ hen)⟩
  have hfinS : ∀ x y : Int, rdId s.data.toList = some (x, y) → ∀ (l : List HA) (w' : World), St (snap w) l w' → Env w w' → Hid ((RdR s.data.toList (.returned (.tuple #[.agg #[.int .i64 x, .int .i64 y], .int .i64 0])) ∧ Below w.heap.size w w')) := fun x y h l w' hst hen => Lib.hid ⟨by unfold RdR; rw [h], (St.toBelow (l := []) ⟨hst.imm, fun _ => False, fun _ h => h, fun _ h => h.elim⟩ hen)⟩
  replace hfinN := Lib.hid hfinN
  replace hfinS := Lib.hid hfinS
  generalize hQ : (fun (e : Ending) (w' : World) => RdR s.data.toList e ∧ Below w.heap.size w w') = Q
  replace hQ := Lib.hid hQ
  have hlen := cut_len s.data.toList
  have hsz : s.data.toList.length = s.size := Array.length_toList
  have z1 : (⟨(Lib.cut s.data.toList [46]).1.toArray⟩ : ByteArray).size ≤ 1000 := by
    show (Lib.cut s.data.toList [46]).1.toArray.size ≤ 1000
    rw [List.size_toArray]; omega
  have z2 : (⟨(Lib.cut s.data.toList [46]).2.1.toArray⟩ : ByteArray).size ≤ 1000 := by
    show (Lib.cut s.data.toList [46]).2.1.toArray.size ≤ 1000
    rw [List.size_toArray]; omega
  have hA := fun (w' : World) (hv' : Vs w') => atoi_any ⟨(Lib.cut s.data.toList [46]).1.toArray⟩ z1 w' hv'
  have hB := fun (w' : World) (hv' : Vs w') => atoi_any ⟨(Lib.cut s.data.toList [46]).2.1.toArray⟩ z2 w' hv'
  have hC := fun (w' : World) (hv' : Vs w') => cutS_any s hs w' hv'
  simp only [] at hA hB
  have hn1 := fun h => @rdId_bad1 s.data.toList h
  have hn2 := fun h => @rdId_bad2 s.data.toList h
  have hok := fun x y h1 h2 => @rdId_of s.data.toList x y h1 h2
  have he0 : s.data.toList = [] → ∀ x, Lib.atoiAll (Lib.cut s.data.toList [46]).1 ≠ .ok x := fun h x => by rw [h]; intro e; cases e
  clear hlen z1 z2
  generalize (Lib.cut s.data.toList [46]).1 = LA at *
  generalize (Lib.cut s.data.toList [46]).2.1 = LB at *
  replace hA := Lib.hid hA
  replace hB := Lib.hid hB
  replace hC := Lib.hid hC
  have h1 := (St.start w).blk #[.int .i64 0, .int .i64 0] 23
  have en1 := (Env.refl w).alloc (.cells #[.int .i64 0, .int .i64 0] 23)
  have hv1 := hv.alloc (.cells #[.int .i64 0, .int .i64 0] 23)
  go_enter Tryd.func14, Tryd.ntmps14
  go_wp2_with fail
  refine (hC.out _ hv1).mono ?_
  rintro e w2 ⟨⟨b, rfl⟩, hb2⟩
  have h2 := h1.below hb2
  have en2 := en1.trans (bel_env hb2)
  have hv2 := hv1.below hb2
  clear h1 en1 hv1 hb2
  generalize hg : w.heap.size = g0 at *
  go_wp2_with fail
  refine (hA.out _ hv2).mono ?_
  rintro e w3 ⟨v1, er1, rfl, hR1, hb3⟩
  have h3 := h2.below hb3
  have en3 := en2.trans (bel_env hb3)
  have hv3 := hv2.below hb3
  clear h2 en2 hv2 hb3
  go_wp2_with fail
  refine (hB.out _ hv3).mono ?_
  rintro e w4 ⟨v2, er2, rfl, hR2, hb4⟩
  have h4 := h3.below hb4
  have en4 := en3.trans (bel_env hb4)
  have hv4 := hv3.below hb4
  clear h3 en3 hv3 hb4
  have c0 := h4.blk_cell 0
  have c1 := h4.blk_cell 1
  have f0 := h4.blk_free 0
  have f1 := h4.blk_free 1
  have l4 := h4.blk_lt
  rcases atoiR_cases hR1 with ⟨x, hx, rfl, rfl⟩ | ⟨hnx, x, t, p, rfl, rfl⟩
  · rcases atoiR_cases hR2 with ⟨y, hy, rfl, rfl⟩ | ⟨hny, y, t, p, rfl, rfl⟩
    · clear hR1 hR2
      have hemp : s.toList.isEmpty = false := by
        rw [ByteArray.toList_eq]
        cases hl : s.data.toList with
        | nil => exact absurd hx (he0 hl x)
        | cons b r => rfl
      have hid := hok x y hx hy
      have h6 := h4.alloc (.cells #[.int .i64 x, .int .i64 y] 23)
      have en6 := en4.alloc (.cells #[.int .i64 x, .int .i64 y] 23)
      have hT := Lib.hid (identText_any (x, y) _ (hv4.alloc (.cells #[.int .i64 x, .int .i64 y] 23)))
      by_cases hgood : idOk (x, y) = true ∧ idT (x, y) = s.data.toList
      · rw [if_pos hgood] at hid
        have e1 : (if idOk (x, y) = true then (⟨(idT (x, y)).toArray⟩ : ByteArray) else ByteArray.empty) = s := by
          rw [if_pos hgood.1, hgood.2]
        rw [e1] at hT
        have q0 := ((h4.blk #[.int .i64 x, .int .i64 y] 23)).blk_cell 0
        have q1 := ((h4.blk #[.int .i64 x, .int .i64 y] 23)).blk_cell 1
        have ql := ((h4.blk #[.int .i64 x, .int .i64 y] 23)).blk_lt
        clear hn1 hn2 hok he0 e1 hgood
        go_wp2_with fail
        refine hT.out.mono ?_
        rintro e w5 ⟨rfl, hb5⟩
        have h7 := h6.below hb5
        have en7 := en6.trans (bel_env hb5)
        rw [← hb5.cell (p := ⟨w4.heap.size, 0, none⟩) ql] at q0
        rw [← hb5.cell (p := ⟨w4.heap.size, 1, none⟩) ql] at q1
        have ql2 := World.block_lt_of_cell? _ _ q0
        clear hT hb5 c0 c1 f0 f1 l4 hv4 h4 en4 h6 en6 ql
        generalize w4.heap.size = gi at *
        have c0 := h7.blk_cell 0
        have c1 := h7.blk_cell 1
        have f0 := h7.blk_free 0
        have f1 := h7.blk_free 1
        have l4 := h7.blk_lt
        go_wp2_with fail
        have h5 := ((h7.blk_set 0 (.int .i64 x)).blk_set 1 (.int .i64 y))
        have en5 := ((en7.setCell ⟨g0, 0, none⟩ (.int .i64 x)).setCell ⟨g0, 1, none⟩ (.int .i64 y))
        generalize ((w5.setCell ⟨g0, 0, none⟩ (.int .i64 x)).setCell ⟨g0, 1, none⟩ (.int .i64 y)) = W9 at *
        have r0 := h5.blk_cell 0
        have r1 := h5.blk_cell 1
        have rl := h5.blk_lt
        (try simp only [Exit.inBlock, Exit.then])
        refine bodyPost_ret ((results_cell_tmp rfl _ _ _).trans (?hres : _ = Result.ok (Value.tuple #[Value.agg #[.int .i64 x, .int .i64 y], .int .i64 0]) W9)) rfl ?_
        case hres => go_simp
        have hz := hfinS.out x y hid _ W9 h5 en5
        rw [← hQ.out]
        exact hz.out
      · rw [if_neg hgood] at hid
        obtain ⟨tx, htx⟩ : ∃ tx, tx = (if idOk (x, y) = true then (⟨(idT (x, y)).toArray⟩ : ByteArray) else ByteArray.empty) := ⟨_, rfl⟩
        have e1 : (tx.toList == s.toList) = false := by
          cases e : (tx.toList == s.toList) with
          | false => rfl
          | true =>
            exfalso
            have e2 := ba_ext3 (eq_of_beq e)
            rw [htx] at e2
            split at e2
            · rename_i hO
              exact hgood ⟨hO, by rw [← e2]⟩
            · rw [← e2, ByteArray.toList_eq] at hemp
              cases hemp
        rw [← htx] at hT
        clear hn1 hn2 hok he0 hgood htx
        go_wp2_with fail
        refine hT.out.mono ?_
        rintro e w5 ⟨rfl, hb5⟩
        have h7 := h6.below hb5
        have en7 := en6.trans (bel_env hb5)
        clear hT hb5 c0 c1 f0 f1 l4 hv4 h4 en4 h6 en6
        generalize w4.heap.size = gi at *
        have c0 := h7.blk_cell 0
        have c1 := h7.blk_cell 1
        have f0 := h7.blk_free 0
        have f1 := h7.blk_free 1
        have l4 := h7.blk_lt
        go_wp2_with fail
        have h5 := ((h7.blk_set 0 (.int .i64 0)).blk_set 1 (.int .i64 0))
        have en5 := ((en7.setCell ⟨g0, 0, none⟩ (.int .i64 0)).setCell ⟨g0, 1, none⟩ (.int .i64 0))
        generalize ((w5.setCell ⟨g0, 0, none⟩ (.int .i64 0)).setCell ⟨g0, 1, none⟩ (.int .i64 0)) = W9 at *
        have r0 := h5.blk_cell 0
        have r1 := h5.blk_cell 1
        have rl := h5.blk_lt
        (try simp only [Exit.inBlock, Exit.then])
        refine bodyPost_ret ((results_cell_tmp rfl _ _ _).trans (?hres : _ = Result.ok (Value.tuple #[Value.agg #[.int .i64 0, .int .i64 0], .int .i64 3]) W9)) rfl ?_
        case hres => go_simp
        have hz := hfinN.out hid _ W9 h5 en5
        rw [← hQ.out]
        exact hz.out
    · clear hR1 hR2
      have hno := hn2 hny
      clear hn1 hn2 hok he0 hny
      cases hse : s.toList.isEmpty
      all_goals
        go_wp2_with fail
        have h5 := ((h4.blk_set 0 (.int .i64 0)).blk_set 1 (.int .i64 0)).alloc (.cells #[.int .i64 x, .int .i64 y] 23)
        have en5 := ((en4.setCell ⟨g0, 0, none⟩ (.int .i64 0)).setCell ⟨g0, 1, none⟩ (.int .i64 0)).alloc (.cells #[.int .i64 x, .int .i64 y] 23)
        generalize (((w4.setCell ⟨g0, 0, none⟩ (.int .i64 0)).setCell ⟨g0, 1, none⟩ (.int .i64 0)).alloc (.cells #[.int .i64 x, .int .i64 y] 23)) = W9 at *
        have r0 := h5.blk_cell 0
        have r1 := h5.blk_cell 1
        have rl := h5.blk_lt
        (try simp only [Exit.inBlock, Exit.then])
        refine bodyPost_ret ((results_cell_tmp rfl _ _ _).trans (?hres : _ = Result.ok (Value.tuple #[Value.agg #[.int .i64 0, .int .i64 0], .int .i64 3]) W9)) rfl ?_
        case hres => go_simp
        have hz := hfinN.out hno _ W9 h5 en5
        rw [← hQ.out]
        exact hz.out
  · obtain ⟨y, er2', rfl⟩ : ∃ (y : Int) (u : Unit), v2 = .int .i64 y := by
      rcases atoiR_cases hR2 with ⟨y, _, rfl, _⟩ | ⟨_, y, _, _, rfl, _⟩
      · exact ⟨y, (), rfl⟩
      · exact ⟨y, (), rfl⟩
    clear hR1 hR2
    have hno := hn1 hnx
    clear hn1 hn2 hok he0 hnx
    go_wp2_with fail
    have h5 := ((h4.blk_set 0 (.int .i64 0)).blk_set 1 (.int .i64 0)).alloc (.cells #[.int .i64 x, .int .i64 y] 23)
    have en5 := ((en4.setCell ⟨g0, 0, none⟩ (.int .i64 0)).setCell ⟨g0, 1, none⟩ (.int .i64 0)).alloc (.cells #[.int .i64 x, .int .i64 y] 23)
    generalize (((w4.setCell ⟨g0, 0, none⟩ (.int .i64 0)).setCell ⟨g0, 1, none⟩ (.int .i64 0)).alloc (.cells #[.int .i64 x, .int .i64 y] 23)) = W9 at *
    have r0 := h5.blk_cell 0
    have r1 := h5.blk_cell 1
    have rl := h5.blk_lt
    (try simp only [Exit.inBlock, Exit.then])
    refine bodyPost_ret ((results_cell_tmp rfl _ _ _).trans (?hres : _ = Result.ok (Value.tuple #[Value.agg #[.int .i64 0, .int .i64 0], .int .i64 3]) W9)) rfl ?_
    case hres => go_simp
    have hz := hfinN.out hno _ W9 h5 en5
    rw [← hQ.out]
    exact hz.out
end Go.Proofs.YtohgcghobidfpaaDoor
