/- Law 03: IdentLists. -/
import Derived.Test.YtohgcghobidfpaaDoorIdRise
set_option linter.unusedVariables false
set_option linter.unusedSimpArgs false
namespace Go.Proofs.YtohgcghobidfpaaDoor
open Go.RowKit Go.Cw
attribute [local go_sem ↓] eql_id neq_id
set_option maxRecDepth 100000 in
set_option maxHeartbeats 8000000 in
theorem identLists_any (u : Value) (l : List Id) (a : Id) (w : World) (hx : Rw w 2 u (idl l)) (hv : Vs w) : Calls Tryd.prog 8 #[u, idV a] w fun e w' => e = .returned (.bool true) ∧ Below w.heap.size w w' := by
  obtain ⟨A, n, c, rfl, hl, hn, hc⟩ := hx.form
  rw [idl_len] at hl
  obtain rfl : n = l.length := by omega
  clear hl
  have hW := Lib.hid (fun w' hv' => works03 w' hv')
  have hfin : ∀ (l : List HA) (w' : World), St (snap w) l w' → Env w w' → Hid ((Ending.returned (Value.bool true)) = Ending.returned (Value.bool true) ∧ Below w.heap.size w w') := fun l w' hst hen => Lib.hid ⟨rfl, St.toBelow (l := []) ⟨hst.imm, fun _ => False, fun _ h => h, fun _ h => h.elim⟩ hen⟩
  obtain ⟨r, s⟩ := a
  have h1 := (St.start w).blk #[.int .i64 r, .int .i64 s] 23
  have en1 := (Env.refl w).alloc (.cells #[.int .i64 r, .int .i64 s] 23)
  have hv1 := hv.alloc (.cells #[.int .i64 r, .int .i64 s] 23)
  have hx1 := hx.alloc (.cells #[.int .i64 r, .int .i64 s] 23)
  by_cases hb : 200 < l.length
  · have hb' : (200 : Int) < l.length := by omega
    go_enter Tryd.func8, Tryd.ntmps8
    go_wp2_with fail
    refine (hW.out _ hv1).mono ?_
    rintro e w2 ⟨rfl, hb2⟩
    have hz := hfin _ _ (h1.below hb2) (en1.trans (bel_env hb2))
    go_wp2_with fail
    go_ret
    exact ⟨rfl, hz.out.2⟩
  · have hb' : ¬ (200 : Int) < l.length := by omega
    have hl200 : l.length ≤ 200 := by omega
    clear hx
    generalize hQ : (fun (e : Ending) (w' : World) => e = Ending.returned (Value.bool true) ∧ Below w.heap.size w w') = Q
    have hfin2 : Hid (∀ (w' : World), Below (w.alloc (.cells #[.int .i64 r, .int .i64 s] 23)).heap.size (w.alloc (.cells #[.int .i64 r, .int .i64 s] 23)) w' → Q (.returned (.bool true)) w') := Lib.hid (fun w' hb => by rw [← hQ]; exact (hfin _ _ (h1.below hb) (en1.trans (bel_env hb))).out)
    clear hQ hfin
    have c0 := h1.blk_cell 0
    have c1 := h1.blk_cell 1
    have cl := h1.blk_lt
    have hxW := hx1
    have h2 := (St.start (w.alloc (.cells #[.int .i64 r, .int .i64 s] 23))).row_lit 23 2 0 #[] rfl (by decide)
    have en2 := (Env.refl (w.alloc (.cells #[.int .i64 r, .int .i64 s] 23))).alloc (.cells #[] 23)
    have hx2 := hx1.alloc (.cells #[] 23)
    have hgs : (w.alloc (.cells #[.int .i64 r, .int .i64 s] 23)).heap.size = w.heap.size + 1 := by simp
    rw [hgs] at h2
    clear h1 en1 hgs
    go_enter Tryd.func8, Tryd.ntmps8
    go_wp2_with (at_builtin; refine wpList_append rfl (.tmp 11) (.tmp 12) 48 48 rfl Tryd.underlying48 (.inl ⟨_, Tryd.underlying48⟩) (.agg #[.int .i64 0, .int .i64 0]) 16 info_id rfl (by decide) (by decide) rfl rfl h2 (News.rw hx2 (idl_one l)) ?apB ?apK)
    case apB => first | omega | (rw [idl_len]; omega) | (simp only [idl_len]; simp; omega)
    case apK =>
    intro ov w3 h3 en3
    have hb3 := h3.toBelow (en2.trans en3)
    have hl := hx1.below hb3
    have hv3 := hv1.below hb3
    generalize (w.alloc (.cells #[.int .i64 r, .int .i64 s] 23)) = W1 at *
    generalize w.heap.size = gb at *
    have hown : Rw w3 2 ov (idl l) := by have := h3.row_rw (by omega); simpa using this
    obtain ⟨oA, on, oc, rfl, _⟩ := hown.form
    have hSo := Lib.hid (identSorted_any _ l w3 hown (by omega))
    clear h3 en3 h2 en2 hx2 hx1 hv1
    go_wp2_with fail
    refine hSo.out.mono ?_
    rintro e w4 ⟨sv, hres⟩
    obtain ⟨rfl, hst4, hen4⟩ := hres
    have hb4 := hst4.toBelow hen4
    have hs : Rw w4 2 sv (idl (runs (idSort l))) := hst4.row_rw (by omega)
    obtain ⟨sA, sn, sc, rfl, _⟩ := hs.form
    replace hown := hown.below hb4
    replace hl := hl.below hb4
    have hvc := hv3.below hb4
    have hcur0 := hb3.trans (hb4.mono hb3.size)
    have hrun : runs (idSort l) = sortL l := rises_eq (runs_sort_rises l) (sortL_rises l) (fun b => by rw [runs_sort_mem, sortL_mem])
    have hrise := adjL_rises (runs_sort_rises l)
    rw [hrun] at hs hrise
    clear hSo hst4 hen4 hrun hb3 hb4 hv3 hv
    have kk : ∀ w', Below W1.heap.size W1 w' → (w'.cell? ⟨gb, 0, none⟩ = some (.int .i64 r) ∧ w'.cell? ⟨gb, 1, none⟩ = some (.int .i64 s)) := fun w' hb => ⟨by rw [hb.cell (p := ⟨gb, 0, none⟩) cl]; exact c0, by rw [hb.cell (p := ⟨gb, 1, none⟩) cl]; exact c1⟩
    go_wp2_with fail
    have hcur := bel_drewN hcur0 1
    change Below W1.heap.size W1 w4.drew at hcur
    replace hown := hown.drewN 1
    replace hl := hl.drewN 1
    replace hs := hs.drewN 1
    replace hvc := hvc.drewN 1
    change Rw w4.drew _ _ _ at hown
    change Rw w4.drew _ _ _ at hl
    change Rw w4.drew _ _ _ at hs
    change Vs w4.drew at hvc
    refine wp_region_held_drew (S := fun w' => w'.cell? ⟨gb, 0, none⟩ = some (.int .i64 r) ∧ w'.cell? ⟨gb, 1, none⟩ = some (.int .i64 s)) (by kernel_rfl) (kk _ hcur) (fun hHeld => ?_)
    clear hcur0 hb' hb
    refine wpAnyH_take (i := 0) (oi := { dst := some 16, op := Go.Op.move (Go.Operand.tmp 5), type := 48, pos := "law.go:62", after := #[], guard := none }) (v := ?_) rfl (by kernel_rfl) (by kernel_rfl) (by kernel_rfl) (fun _ _ _ h => h) (Or.inl ⟨by rfl, ?_⟩) (by assumption) ?_
    rotate_left
    · (intro w hSw; (try dsimp only at hSw); go_simp; (try (with_reducible rfl)))
    try simp only [Act.put, List.setIfInBounds_toArray, List.set_cons_zero, List.set_cons_succ]
    refine wpAnyH_take (i := 1) (oi := { dst := some 17, op := Go.Op.move (Go.Operand.tmp 0), type := 48, pos := "law.go:62", after := #[], guard := none }) (v := ?_) rfl (by kernel_rfl) (by kernel_rfl) (by kernel_rfl) (fun _ _ _ h => h) (Or.inl ⟨by rfl, ?_⟩) (by assumption) ?_
    rotate_left
    · (intro w hSw; (try dsimp only at hSw); go_simp; (try (with_reducible rfl)))
    try simp only [Act.put, List.setIfInBounds_toArray, List.set_cons_zero, List.set_cons_succ]
    refine wpAnyH_ready (rs := [2]) (by kernel_rfl) (by simp) ?_
    refine AllReadyH.cons (o := { dst := some 18, op := Go.Op.call { callee := Go.Callee.value (Go.Operand.func 31), args := #[Go.Operand.tmp 16, Go.Operand.tmp 17], argTypes := #[48, 48] }, type := 4, pos := "law.go:62", after := #[{ on := 0, ground := Go.Ground.data }, { on := 1, ground := Go.Ground.data }], guard := none }) rfl (fun K hK => ?_) AllReadyH.nil
    go_simp
    refine (sameIds_any _ _ l l _ hown hl).mono ?_
    rintro e wA ⟨rfl, hbA⟩
    rw [decide_eq_true rfl]
    replace hcur := hcur.trans (hbA.mono hcur.size)
    replace hown := hown.below hbA
    replace hl := hl.below hbA
    replace hs := hs.below hbA
    replace hvc := hvc.below hbA
    try replace hrs := hrs.below hbA
    refine hK.out _ _ (kk _ hcur) (fun hHeld => ?_)
    clear hK K
    try simp only [Act.put, List.setIfInBounds_toArray, List.set_cons_zero, List.set_cons_succ]
    refine wpAnyH_take (i := 3) (oi := { dst := some 19, op := Go.Op.move (Go.Operand.tmp 18), type := 4, pos := "law.go:62", after := #[{ on := 2, ground := Go.Ground.data }, { on := 2, ground := Go.Ground.chain }], guard := none }) (v := ?_) rfl (by kernel_rfl) (by kernel_rfl) (by kernel_rfl) (fun _ _ _ h => h) (Or.inl ⟨by rfl, ?_⟩) (by assumption) ?_
    rotate_left
    · (intro w hSw; (try dsimp only at hSw); go_simp; (try (with_reducible rfl)))
    try simp only [Act.put, List.setIfInBounds_toArray, List.set_cons_zero, List.set_cons_succ]
    refine wpAnyH_take (i := 4) (oi := { dst := some 20, op := Go.Op.move (Go.Operand.tmp 0), type := 48, pos := "law.go:62", after := #[{ on := 3, ground := Go.Ground.guard }], guard := some (3, true) }) (v := ?_) rfl (by kernel_rfl) (by kernel_rfl) (by kernel_rfl) (fun _ _ _ h => h) (Or.inl ⟨by rfl, ?_⟩) (by assumption) ?_
    rotate_left
    · (intro w hSw; (try dsimp only at hSw); go_simp; (try (with_reducible rfl)))
    try simp only [Act.put, List.setIfInBounds_toArray, List.set_cons_zero, List.set_cons_succ]
    refine wpAnyH_take (i := 6) (oi := { dst := some 22, op := Go.Op.move (Go.Operand.tmp 0), type := 48, pos := "law.go:62", after := #[{ on := 3, ground := Go.Ground.guard }], guard := some (3, true) }) (v := ?_) rfl (by kernel_rfl) (by kernel_rfl) (by kernel_rfl) (fun _ _ _ h => h) (Or.inl ⟨by rfl, ?_⟩) (by assumption) ?_
    rotate_left
    · (intro w hSw; (try dsimp only at hSw); go_simp; (try (with_reducible rfl)))
    try simp only [Act.put, List.setIfInBounds_toArray, List.set_cons_zero, List.set_cons_succ]
    refine wpAnyH_ready (rs := [5]) (by kernel_rfl) (by simp) ?_
    refine AllReadyH.cons (o := { dst := some 21, op := Go.Op.call { callee := Go.Callee.value (Go.Operand.func 32), args := #[Go.Operand.tmp 20], argTypes := #[48] }, type := 4, pos := "law.go:62", after := #[{ on := 4, ground := Go.Ground.data }, { on := 3, ground := Go.Ground.chain }, { on := 3, ground := Go.Ground.guard }], guard := some (3, true) }) rfl (fun K hK => ?_) AllReadyH.nil
    go_simp
    refine (identRising_any _ l _ hl).mono ?_
    rintro e wA ⟨rfl, hbA⟩
    replace hcur := hcur.trans (hbA.mono hcur.size)
    replace hown := hown.below hbA
    replace hl := hl.below hbA
    replace hs := hs.below hbA
    replace hvc := hvc.below hbA
    try replace hrs := hrs.below hbA
    refine hK.out _ _ (kk _ hcur) (fun hHeld => ?_)
    clear hK K
    try simp only [Act.put, List.setIfInBounds_toArray, List.set_cons_zero, List.set_cons_succ]
    refine wpAnyH_ready (rs := [7]) (by kernel_rfl) (by simp) ?_
    refine AllReadyH.cons (o := { dst := some 23, op := Go.Op.call { callee := Go.Callee.value (Go.Operand.func 33), args := #[Go.Operand.tmp 22], argTypes := #[48] }, type := 4, pos := "law.go:62", after := #[{ on := 6, ground := Go.Ground.data }, { on := 5, ground := Go.Ground.chain }, { on := 3, ground := Go.Ground.guard }], guard := some (3, true) }) rfl (fun K hK => ?_) AllReadyH.nil
    go_simp
    refine (refRising_any _ l _ hl).mono ?_
    rintro e wA ⟨rfl, hbA⟩
    replace hcur := hcur.trans (hbA.mono hcur.size)
    replace hown := hown.below hbA
    replace hl := hl.below hbA
    replace hs := hs.below hbA
    replace hvc := hvc.below hbA
    try replace hrs := hrs.below hbA
    refine hK.out _ _ (kk _ hcur) (fun hHeld => ?_)
    clear hK K
    try simp only [Act.put, List.setIfInBounds_toArray, List.set_cons_zero, List.set_cons_succ]
    refine wpAnyH_take (i := 8) (oi := { dst := some 24, op := Go.Op.binOp Go.BinOp.eql 4 (Go.Operand.tmp 21) (Go.Operand.tmp 23) 4, type := 4, pos := "law.go:62", after := #[{ on := 5, ground := Go.Ground.data }, { on := 7, ground := Go.Ground.data }, { on := 3, ground := Go.Ground.guard }], guard := some (3, true) }) (v := ?_) rfl (by kernel_rfl) (by kernel_rfl) (by kernel_rfl) (fun _ _ _ h => h) (Or.inl ⟨by rfl, ?_⟩) (by assumption) ?_
    rotate_left
    · (intro w hSw; (try dsimp only at hSw); go_simp; (try (with_reducible rfl)))
    try simp only [Act.put, List.setIfInBounds_toArray, List.set_cons_zero, List.set_cons_succ]
    refine wpAnyH_take (i := 9) (oi := { dst := some 25, op := Go.Op.pick (Go.Operand.tmp 19) (Go.Operand.tmp 24) (Go.Operand.const (Go.Value.bool false)), type := 4, pos := "law.go:62", after := #[{ on := 3, ground := Go.Ground.data }, { on := 8, ground := Go.Ground.data }], guard := none }) (v := ?_) rfl (by kernel_rfl) (by kernel_rfl) (by kernel_rfl) (fun _ _ _ h => h) (Or.inl ⟨by rfl, ?_⟩) (by assumption) ?_
    rotate_left
    · (intro w hSw; (try dsimp only at hSw); go_simp; (try (with_reducible rfl)))
    try simp only [Act.put, List.setIfInBounds_toArray, List.set_cons_zero, List.set_cons_succ]
    refine wpAnyH_take (i := 10) (oi := { dst := some 26, op := Go.Op.move (Go.Operand.tmp 25), type := 4, pos := "law.go:62", after := #[{ on := 9, ground := Go.Ground.data }, { on := 7, ground := Go.Ground.chain }], guard := none }) (v := ?_) rfl (by kernel_rfl) (by kernel_rfl) (by kernel_rfl) (fun _ _ _ h => h) (Or.inl ⟨by rfl, ?_⟩) (by assumption) ?_
    rotate_left
    · (intro w hSw; (try dsimp only at hSw); go_simp; (try (with_reducible rfl)))
    try simp only [Act.put, List.setIfInBounds_toArray, List.set_cons_zero, List.set_cons_succ]
    refine wpAnyH_take (i := 11) (oi := { dst := some 27, op := Go.Op.move (Go.Operand.tmp 6), type := 48, pos := "law.go:62", after := #[{ on := 10, ground := Go.Ground.guard }], guard := some (10, true) }) (v := ?_) rfl (by kernel_rfl) (by kernel_rfl) (by kernel_rfl) (fun _ _ _ h => h) (Or.inl ⟨by rfl, ?_⟩) (by assumption) ?_
    rotate_left
    · (intro w hSw; (try dsimp only at hSw); go_simp; (try (with_reducible rfl)))
    try simp only [Act.put, List.setIfInBounds_toArray, List.set_cons_zero, List.set_cons_succ]
    refine wpAnyH_take (i := 12) (oi := { dst := some 28, op := Go.Op.move (Go.Operand.tmp 0), type := 48, pos := "law.go:62", after := #[{ on := 10, ground := Go.Ground.guard }], guard := some (10, true) }) (v := ?_) rfl (by kernel_rfl) (by kernel_rfl) (by kernel_rfl) (fun _ _ _ h => h) (Or.inl ⟨by rfl, ?_⟩) (by assumption) ?_
    rotate_left
    · (intro w hSw; (try dsimp only at hSw); go_simp; (try (with_reducible rfl)))
    try simp only [Act.put, List.setIfInBounds_toArray, List.set_cons_zero, List.set_cons_succ]
    refine wpAnyH_ready (rs := [13]) (by kernel_rfl) (by simp) ?_
    refine AllReadyH.cons (o := { dst := some 29, op := Go.Op.call { callee := Go.Callee.value (Go.Operand.func 34), args := #[Go.Operand.tmp 28], argTypes := #[48] }, type := 48, pos := "law.go:62", after := #[{ on := 12, ground := Go.Ground.data }, { on := 10, ground := Go.Ground.chain }, { on := 10, ground := Go.Ground.guard }], guard := some (10, true) }) rfl (fun K hK => ?_) AllReadyH.nil
    go_simp
    refine (refSorted_any _ l _ hl (by omega)).mono ?_
    rintro e wA ⟨rv, hresA⟩
    obtain ⟨rfl, hstA, henA⟩ := hresA
    have hbA := hstA.toBelow henA
    have hrs : Rw wA 2 rv (idl (sortL l)) := hstA.row_rw (by omega)
    obtain ⟨rA, rn, rc, rfl, _⟩ := hrs.form
    clear hstA henA
    replace hcur := hcur.trans (hbA.mono hcur.size)
    replace hown := hown.below hbA
    replace hl := hl.below hbA
    replace hs := hs.below hbA
    replace hvc := hvc.below hbA
    refine hK.out _ _ (kk _ hcur) (fun hHeld => ?_)
    clear hK K
    try simp only [Act.put, List.setIfInBounds_toArray, List.set_cons_zero, List.set_cons_succ]
    refine wpAnyH_ready (rs := [14]) (by kernel_rfl) (by simp) ?_
    refine AllReadyH.cons (o := { dst := some 30, op := Go.Op.call { callee := Go.Callee.value (Go.Operand.func 31), args := #[Go.Operand.tmp 27, Go.Operand.tmp 29], argTypes := #[48, 48] }, type := 4, pos := "law.go:62", after := #[{ on := 11, ground := Go.Ground.data }, { on := 13, ground := Go.Ground.data }, { on := 13, ground := Go.Ground.chain }, { on := 10, ground := Go.Ground.guard }], guard := some (10, true) }) rfl (fun K hK => ?_) AllReadyH.nil
    go_simp
    refine (sameIds_any _ _ (sortL l) (sortL l) _ hs hrs).mono ?_
    rintro e wA ⟨rfl, hbA⟩
    rw [decide_eq_true rfl]
    replace hcur := hcur.trans (hbA.mono hcur.size)
    replace hown := hown.below hbA
    replace hl := hl.below hbA
    replace hs := hs.below hbA
    replace hvc := hvc.below hbA
    try replace hrs := hrs.below hbA
    refine hK.out _ _ (kk _ hcur) (fun hHeld => ?_)
    clear hK K
    try simp only [Act.put, List.setIfInBounds_toArray, List.set_cons_zero, List.set_cons_succ]
    refine wpAnyH_take (i := 15) (oi := { dst := some 31, op := Go.Op.pick (Go.Operand.tmp 26) (Go.Operand.tmp 30) (Go.Operand.const (Go.Value.bool false)), type := 4, pos := "law.go:62", after := #[{ on := 10, ground := Go.Ground.data }, { on := 14, ground := Go.Ground.data }], guard := none }) (v := ?_) rfl (by kernel_rfl) (by kernel_rfl) (by kernel_rfl) (fun _ _ _ h => h) (Or.inl ⟨by rfl, ?_⟩) (by assumption) ?_
    rotate_left
    · (intro w hSw; (try dsimp only at hSw); go_simp; (try (with_reducible rfl)))
    try simp only [Act.put, List.setIfInBounds_toArray, List.set_cons_zero, List.set_cons_succ]
    refine wpAnyH_take (i := 16) (oi := { dst := some 32, op := Go.Op.move (Go.Operand.tmp 31), type := 4, pos := "law.go:62", after := #[{ on := 15, ground := Go.Ground.data }, { on := 14, ground := Go.Ground.chain }], guard := none }) (v := ?_) rfl (by kernel_rfl) (by kernel_rfl) (by kernel_rfl) (fun _ _ _ h => h) (Or.inl ⟨by rfl, ?_⟩) (by assumption) ?_
    rotate_left
    · (intro w hSw; (try dsimp only at hSw); go_simp; (try (with_reducible rfl)))
    try simp only [Act.put, List.setIfInBounds_toArray, List.set_cons_zero, List.set_cons_succ]
    refine wpAnyH_take (i := 17) (oi := { dst := some 33, op := Go.Op.move (Go.Operand.tmp 6), type := 48, pos := "law.go:62", after := #[{ on := 16, ground := Go.Ground.guard }], guard := some (16, true) }) (v := ?_) rfl (by kernel_rfl) (by kernel_rfl) (by kernel_rfl) (fun _ _ _ h => h) (Or.inl ⟨by rfl, ?_⟩) (by assumption) ?_
    rotate_left
    · (intro w hSw; (try dsimp only at hSw); go_simp; (try (with_reducible rfl)))
    try simp only [Act.put, List.setIfInBounds_toArray, List.set_cons_zero, List.set_cons_succ]
    refine wpAnyH_ready (rs := [18]) (by kernel_rfl) (by simp) ?_
    refine AllReadyH.cons (o := { dst := some 34, op := Go.Op.call { callee := Go.Callee.value (Go.Operand.func 32), args := #[Go.Operand.tmp 33], argTypes := #[48] }, type := 4, pos := "law.go:62", after := #[{ on := 17, ground := Go.Ground.data }, { on := 16, ground := Go.Ground.chain }, { on := 16, ground := Go.Ground.guard }], guard := some (16, true) }) rfl (fun K hK => ?_) AllReadyH.nil
    go_simp
    refine (identRising_any _ (sortL l) _ hs).mono ?_
    rintro e wA ⟨rfl, hbA⟩
    rw [hrise]
    replace hcur := hcur.trans (hbA.mono hcur.size)
    replace hown := hown.below hbA
    replace hl := hl.below hbA
    replace hs := hs.below hbA
    replace hvc := hvc.below hbA
    try replace hrs := hrs.below hbA
    refine hK.out _ _ (kk _ hcur) (fun hHeld => ?_)
    clear hK K
    try simp only [Act.put, List.setIfInBounds_toArray, List.set_cons_zero, List.set_cons_succ]
    refine wpAnyH_take (i := 19) (oi := { dst := some 35, op := Go.Op.pick (Go.Operand.tmp 32) (Go.Operand.tmp 34) (Go.Operand.const (Go.Value.bool false)), type := 4, pos := "law.go:62", after := #[{ on := 16, ground := Go.Ground.data }, { on := 18, ground := Go.Ground.data }], guard := none }) (v := ?_) rfl (by kernel_rfl) (by kernel_rfl) (by kernel_rfl) (fun _ _ _ h => h) (Or.inl ⟨by rfl, ?_⟩) (by assumption) ?_
    rotate_left
    · (intro w hSw; (try dsimp only at hSw); go_simp; (try (with_reducible rfl)))
    try simp only [Act.put, List.setIfInBounds_toArray, List.set_cons_zero, List.set_cons_succ]
    refine wpAnyH_take (i := 20) (oi := { dst := some 36, op := Go.Op.move (Go.Operand.tmp 35), type := 4, pos := "law.go:62", after := #[{ on := 19, ground := Go.Ground.data }, { on := 18, ground := Go.Ground.chain }], guard := none }) (v := ?_) rfl (by kernel_rfl) (by kernel_rfl) (by kernel_rfl) (fun _ _ _ h => h) (Or.inl ⟨by rfl, ?_⟩) (by assumption) ?_
    rotate_left
    · (intro w hSw; (try dsimp only at hSw); go_simp; (try (with_reducible rfl)))
    try simp only [Act.put, List.setIfInBounds_toArray, List.set_cons_zero, List.set_cons_succ]
    refine wpAnyH_take (i := 21) (oi := { dst := some 37, op := Go.Op.move (Go.Operand.tmp 0), type := 48, pos := "law.go:62", after := #[{ on := 20, ground := Go.Ground.guard }], guard := some (20, true) }) (v := ?_) rfl (by kernel_rfl) (by kernel_rfl) (by kernel_rfl) (fun _ _ _ h => h) (Or.inl ⟨by rfl, ?_⟩) (by assumption) ?_
    rotate_left
    · (intro w hSw; (try dsimp only at hSw); go_simp; (try (with_reducible rfl)))
    try simp only [Act.put, List.setIfInBounds_toArray, List.set_cons_zero, List.set_cons_succ]
    refine wpAnyH_take (i := 22) (oi := { dst := some 38, op := Go.Op.load 23 (Go.Operand.tmp 3), type := 23, pos := "law.go:62", after := #[{ on := 20, ground := Go.Ground.guard }], guard := some (20, true) }) (v := ?_) rfl (by kernel_rfl) (by kernel_rfl) (by kernel_rfl) (fun _ _ _ h => h) (Or.inl ⟨by rfl, ?_⟩) (by assumption) ?_
    rotate_left
    · (intro w hSw; (try dsimp only at hSw); go_simp; (try (with_reducible rfl)))
    try simp only [Act.put, List.setIfInBounds_toArray, List.set_cons_zero, List.set_cons_succ]
    refine wpAnyH_take (i := 24) (oi := { dst := some 40, op := Go.Op.move (Go.Operand.tmp 0), type := 48, pos := "law.go:62", after := #[{ on := 20, ground := Go.Ground.guard }], guard := some (20, true) }) (v := ?_) rfl (by kernel_rfl) (by kernel_rfl) (by kernel_rfl) (fun _ _ _ h => h) (Or.inl ⟨by rfl, ?_⟩) (by assumption) ?_
    rotate_left
    · (intro w hSw; (try dsimp only at hSw); go_simp; (try (with_reducible rfl)))
    try simp only [Act.put, List.setIfInBounds_toArray, List.set_cons_zero, List.set_cons_succ]
    refine wpAnyH_take (i := 25) (oi := { dst := some 41, op := Go.Op.load 23 (Go.Operand.tmp 3), type := 23, pos := "law.go:62", after := #[{ on := 20, ground := Go.Ground.guard }], guard := some (20, true) }) (v := ?_) rfl (by kernel_rfl) (by kernel_rfl) (by kernel_rfl) (fun _ _ _ h => h) (Or.inl ⟨by rfl, ?_⟩) (by assumption) ?_
    rotate_left
    · (intro w hSw; (try dsimp only at hSw); go_simp; (try (with_reducible rfl)))
    try simp only [Act.put, List.setIfInBounds_toArray, List.set_cons_zero, List.set_cons_succ]
    refine wpAnyH_ready (rs := [23]) (by kernel_rfl) (by simp) ?_
    refine AllReadyH.cons (o := { dst := some 39, op := Go.Op.call { callee := Go.Callee.value (Go.Operand.func 35), args := #[Go.Operand.tmp 37, Go.Operand.tmp 38], argTypes := #[48, 23] }, type := 4, pos := "law.go:62", after := #[{ on := 21, ground := Go.Ground.data }, { on := 22, ground := Go.Ground.data }, { on := 20, ground := Go.Ground.chain }, { on := 20, ground := Go.Ground.guard }], guard := some (20, true) }) rfl (fun K hK => ?_) AllReadyH.nil
    go_simp
    refine (identHas_any _ l (r, s) _ hl).mono ?_
    rintro e wA ⟨rfl, hbA⟩
    replace hcur := hcur.trans (hbA.mono hcur.size)
    replace hown := hown.below hbA
    replace hl := hl.below hbA
    replace hs := hs.below hbA
    replace hvc := hvc.below hbA
    try replace hrs := hrs.below hbA
    refine hK.out _ _ (kk _ hcur) (fun hHeld => ?_)
    clear hK K
    try simp only [Act.put, List.setIfInBounds_toArray, List.set_cons_zero, List.set_cons_succ]
    refine wpAnyH_ready (rs := [26]) (by kernel_rfl) (by simp) ?_
    refine AllReadyH.cons (o := { dst := some 42, op := Go.Op.call { callee := Go.Callee.value (Go.Operand.func 36), args := #[Go.Operand.tmp 40, Go.Operand.tmp 41], argTypes := #[48, 23] }, type := 4, pos := "law.go:62", after := #[{ on := 24, ground := Go.Ground.data }, { on := 25, ground := Go.Ground.data }, { on := 23, ground := Go.Ground.chain }, { on := 20, ground := Go.Ground.guard }], guard := some (20, true) }) rfl (fun K hK => ?_) AllReadyH.nil
    go_simp
    refine (hasIds_any _ l (r, s) _ hl).mono ?_
    rintro e wA ⟨rfl, hbA⟩
    replace hcur := hcur.trans (hbA.mono hcur.size)
    replace hown := hown.below hbA
    replace hl := hl.below hbA
    replace hs := hs.below hbA
    replace hvc := hvc.below hbA
    try replace hrs := hrs.below hbA
    refine hK.out _ _ (kk _ hcur) (fun hHeld => ?_)
    clear hK K
    try simp only [Act.put, List.setIfInBounds_toArray, List.set_cons_zero, List.set_cons_succ]
    refine wpAnyH_take (i := 27) (oi := { dst := some 43, op := Go.Op.binOp Go.BinOp.eql 4 (Go.Operand.tmp 39) (Go.Operand.tmp 42) 4, type := 4, pos := "law.go:62", after := #[{ on := 23, ground := Go.Ground.data }, { on := 26, ground := Go.Ground.data }, { on := 20, ground := Go.Ground.guard }], guard := some (20, true) }) (v := ?_) rfl (by kernel_rfl) (by kernel_rfl) (by kernel_rfl) (fun _ _ _ h => h) (Or.inl ⟨by rfl, ?_⟩) (by assumption) ?_
    rotate_left
    · (intro w hSw; (try dsimp only at hSw); go_simp; (try (with_reducible rfl)))
    try simp only [Act.put, List.setIfInBounds_toArray, List.set_cons_zero, List.set_cons_succ]
    refine wpAnyH_take (i := 28) (oi := { dst := some 44, op := Go.Op.pick (Go.Operand.tmp 36) (Go.Operand.tmp 43) (Go.Operand.const (Go.Value.bool false)), type := 4, pos := "law.go:62", after := #[{ on := 20, ground := Go.Ground.data }, { on := 27, ground := Go.Ground.data }], guard := none }) (v := ?_) rfl (by kernel_rfl) (by kernel_rfl) (by kernel_rfl) (fun _ _ _ h => h) (Or.inl ⟨by rfl, ?_⟩) (by assumption) ?_
    rotate_left
    · (intro w hSw; (try dsimp only at hSw); go_simp; (try (with_reducible rfl)))
    try simp only [Act.put, List.setIfInBounds_toArray, List.set_cons_zero, List.set_cons_succ]
    refine wpAnyH_take (i := 29) (oi := { dst := some 45, op := Go.Op.move (Go.Operand.tmp 44), type := 4, pos := "law.go:62", after := #[{ on := 28, ground := Go.Ground.data }, { on := 26, ground := Go.Ground.chain }], guard := none }) (v := ?_) rfl (by kernel_rfl) (by kernel_rfl) (by kernel_rfl) (fun _ _ _ h => h) (Or.inl ⟨by rfl, ?_⟩) (by assumption) ?_
    rotate_left
    · (intro w hSw; (try dsimp only at hSw); go_simp; (try (with_reducible rfl)))
    try simp only [Act.put, List.setIfInBounds_toArray, List.set_cons_zero, List.set_cons_succ]
    refine wpAnyH_ready (rs := [30]) (by kernel_rfl) (by simp) ?_
    refine AllReadyH.cons (o := { dst := some 46, op := Go.Op.call { callee := Go.Callee.value (Go.Operand.func 13), args := #[], argTypes := #[] }, type := 4, pos := "law.go:62", after := #[{ on := 29, ground := Go.Ground.chain }, { on := 29, ground := Go.Ground.guard }], guard := some (29, true) }) rfl (fun K hK => ?_) AllReadyH.nil
    go_simp
    refine (hW.out _ hvc).mono ?_
    rintro e wA ⟨rfl, hbA⟩
    replace hcur := hcur.trans (hbA.mono hcur.size)
    replace hown := hown.below hbA
    replace hl := hl.below hbA
    replace hs := hs.below hbA
    replace hvc := hvc.below hbA
    try replace hrs := hrs.below hbA
    refine hK.out _ _ (kk _ hcur) (fun hHeld => ?_)
    clear hK K
    try simp only [Act.put, List.setIfInBounds_toArray, List.set_cons_zero, List.set_cons_succ]
    refine wpAnyH_take (i := 31) (oi := { dst := some 47, op := Go.Op.pick (Go.Operand.tmp 45) (Go.Operand.tmp 46) (Go.Operand.const (Go.Value.bool false)), type := 4, pos := "law.go:62", after := #[{ on := 29, ground := Go.Ground.data }, { on := 30, ground := Go.Ground.data }], guard := none }) (v := ?_) rfl (by kernel_rfl) (by kernel_rfl) (by kernel_rfl) (fun _ _ _ h => h) (Or.inl ⟨by rfl, ?_⟩) (by assumption) ?_
    rotate_left
    · (intro w hSw; (try dsimp only at hSw); go_simp; (try (with_reducible rfl)))
    try simp only [Act.put, List.setIfInBounds_toArray, List.set_cons_zero, List.set_cons_succ]
    refine wpAnyH_take (i := 32) (oi := { dst := some 4, op := Go.Op.assign (Go.Operand.tmp 47), type := 4, pos := "law.go:62", after := #[{ on := 31, ground := Go.Ground.data }, { on := 30, ground := Go.Ground.chain }, { on := 0, ground := Go.Ground.phase }, { on := 1, ground := Go.Ground.phase }, { on := 2, ground := Go.Ground.phase }, { on := 3, ground := Go.Ground.phase }, { on := 4, ground := Go.Ground.phase }, { on := 5, ground := Go.Ground.phase }, { on := 6, ground := Go.Ground.phase }, { on := 7, ground := Go.Ground.phase }, { on := 8, ground := Go.Ground.phase }, { on := 9, ground := Go.Ground.phase }, { on := 10, ground := Go.Ground.phase }, { on := 11, ground := Go.Ground.phase }, { on := 12, ground := Go.Ground.phase }, { on := 13, ground := Go.Ground.phase }, { on := 14, ground := Go.Ground.phase }, { on := 15, ground := Go.Ground.phase }, { on := 16, ground := Go.Ground.phase }, { on := 17, ground := Go.Ground.phase }, { on := 18, ground := Go.Ground.phase }, { on := 19, ground := Go.Ground.phase }, { on := 20, ground := Go.Ground.phase }, { on := 21, ground := Go.Ground.phase }, { on := 22, ground := Go.Ground.phase }, { on := 23, ground := Go.Ground.phase }, { on := 24, ground := Go.Ground.phase }, { on := 25, ground := Go.Ground.phase }, { on := 26, ground := Go.Ground.phase }, { on := 27, ground := Go.Ground.phase }, { on := 28, ground := Go.Ground.phase }, { on := 29, ground := Go.Ground.phase }, { on := 30, ground := Go.Ground.phase }, { on := 31, ground := Go.Ground.phase }], guard := none }) (v := ?_) rfl (by kernel_rfl) (by kernel_rfl) (by kernel_rfl) (fun _ _ _ h => h) (Or.inl ⟨by rfl, ?_⟩) (by assumption) ?_
    rotate_left
    · (intro w hSw; (try dsimp only at hSw); go_simp; (try (with_reducible rfl)))
    try simp only [Act.put, List.setIfInBounds_toArray, List.set_cons_zero, List.set_cons_succ]
    refine wpAnyH_done (by kernel_rfl) ?_ _
    all_goals
      have hz := Lib.hid (hfin2.out _ hcur)
      go_wp2_with fail
      exact hz.out
end Go.Proofs.YtohgcghobidfpaaDoor
