/- Joined texts: CNil, CanNil. -/
import Derived.Test.YtcbckeoalmjcoaaGreatCO24
/- comps.Of and comps.Sorted at a nil graph. -/
set_option linter.unusedVariables false
set_option linter.unusedSimpArgs false
namespace Go.Proofs.YtcbckeoalmjcoaaGreat
open Go.RowKit Go.Cw Go.Fl
attribute [local go_sem ↓] eql_id neq_id
set_option maxRecDepth 100000 in
set_option maxHeartbeats 8000000 in
theorem csorted_nil (w : World) : Calls Tryz.prog 16 #[.pointer none, .slice none 0 0] w fun e w' => e = .returned (.slice none 0 0) ∧ Below w.heap.size w w' := by
  have m1 := run_makeMap (P := Tryz.prog) 56 w
  have e1 : (w.alloc (.map #[] 0)).heap.size = w.heap.size + 1 := by simp
  have h1 := ((St.start w).mp_made (C := recC)).blk #[.map (some w.heap.size)] 56
  rw [e1] at h1
  have en1 := ((Env.refl w).alloc (.map #[] 0)).alloc (.cells #[.map (some w.heap.size)] 56)
  have hS := Lib.hid (identSorted_any (.slice none 0 0) [] ((w.alloc (.map #[] 0)).alloc (.cells #[.map (some w.heap.size)] 56)) (Rw.nil _ 2) (by simp))
  have eg : ∀ args w, (callFunc 44 args).run Tryz.prog w = .ok (.enter 44 args) w := enters_of Tryz.func44 (by kernel_rfl) rfl
  go_enter Tryz.func16, Tryz.ntmps16
  go_wp2_with fail
  generalize (w.alloc (.map #[] 0)).alloc (.cells #[.map (some w.heap.size)] 56) = W at *
  generalize hgc : w.heap.size + 1 = gc at *
  refine hS.out.mono ?_
  intro e w2 he
  obtain ⟨iv, rfl, h2, en2⟩ := ResE.lift h1 he
  replace en2 := en1.trans en2
  rw [show runs (idSort []) = [] from List.eq_nil_iff_forall_not_mem.2 (fun a ha => by have := (runs_sort_mem [] a).1 ha; cases this)] at h2
  obtain ⟨iA, im, ic, rfl, hi1, hi2, _⟩ := h2.row_form
  rw [idl_len, List.length_nil] at hi1
  obtain rfl : im = 0 := by omega
  have hb := h2.toBelow en2
  have hcon := Lib.hid (AnyF.slices_SortFunc_none { sortId with } none 0 (.func (.func 44) #[] #[.pointer (some ⟨gc, 0, none⟩)]) w2)
  clear hS h1 h2 en1 he m1 hi1 hi2
  replace hb := Lib.hid hb
  go_wp2_with fail
  go_loopw [5, 16] (fun s5 s16 wr => s5 = .slice none 0 0 ∧ s16 = .int .i64 0 ∧ wr = w2) (fun _ _ _ => 0)
  case atStart => exact ⟨rfl, by go_num, rfl⟩
  case round =>
    obtain ⟨rfl, rfl, rfl⟩ := hrel
    go_wp2_with fail
    refine hcon.out.mono ?_
    rintro e w3 ⟨rfl, hw3⟩
    subst hw3
    go_wp2_with fail
    go_ret
    exact ⟨rfl, hb.out⟩
set_option maxRecDepth 100000 in
set_option maxHeartbeats 8000000 in
theorem comps_nil (w : World) : Calls Tryz.prog 13 #[.pointer none] w fun e w' => e = .returned (.slice none 0 0) ∧ Below w.heap.size w w' := by
  obtain ⟨H1, l1, h1, y⟩ := (St.start w).box #[.pointer none] 27
  have y0 : H1.cell w.heap.size 0 = some (.pointer none) := y 0 _ rfl
  have g0 := h1.cell y0
  have gl := World.block_lt_of_cell? _ _ g0
  have en1 := (Env.refl w).alloc (.cells #[.pointer none] 27)
  have hCl := Lib.hid (closed_nil (w.alloc (.cells #[.pointer none] 27)))
  have hmf : ∀ (fn : Fn) (first cap : Array Value) (w : World), (Instr.makeFunc fn first cap).run Tryz.prog w = .ok (.func fn first cap) w := fun _ _ _ _ => rfl
  clear y
  go_enter Tryz.func13, Tryz.ntmps13
  go_wp2_with fail
  generalize hgx : w.heap.size = gx at *
  generalize w.alloc (.cells #[.pointer none] 27) = W at *
  refine hCl.out.mono ?_
  rintro e w2 ⟨rfl, hb2⟩
  have h2 := h1.below hb2
  have en2 := en1.trans (bel_env hb2)
  have hNw := Lib.hid (setNew_any (.slice none 0 0) [] w2 (Rw.nil _ 2))
  clear hCl h1 en1 g0 gl hb2
  go_wp2_with fail
  refine hNw.out.mono ?_
  rintro e w3 he
  obtain ⟨ps, rfl, h4, en4⟩ := ResE.lift h2 he
  replace en4 := en2.trans en4
  have h5 := h4.blk #[setP ps, .func (.func 39) #[] #[.pointer (some ⟨gx, 0, none⟩)], .slice none 0 0] 71
  have en5 := en4.alloc (.cells #[setP ps, .func (.func 39) #[] #[.pointer (some ⟨gx, 0, none⟩)], .slice none 0 0] 71)
  clear hNw h2 h4 en2 en4 he
  go_wp2_with fail
  generalize w3.heap.size = pw at *
  generalize w3.alloc (.cells #[setP ps, .func (.func 39) #[] #[.pointer (some ⟨gx, 0, none⟩)], .slice none 0 0] 71) = W3 at *
  go_loopw [25] (fun s25 wr => s25 = .int .i64 0 ∧ wr = W3) (fun _ _ => 0)
  case atStart => exact ⟨by go_num, rfl⟩
  case round =>
    obtain ⟨rfl, rfl⟩ := hrel
    obtain ⟨H5, l5, h7, hp⟩ := St.blk_for_good h5
    have p2 : H5.cell pw 2 = some (.slice none 0 0) := hp 2
    replace h7 := h7.drop
    have y5 := Hp.cell_le l5 y0
    have hD := h7.drew
    have hNw2 := Lib.hid (setNew_any (.slice none 0 0) [] wr.drew (Rw.nil _ 2))
    have kk : ∀ (H' : Hp) (l' : List HA) (w' : World), Hp.le H5 H' → St H' l' w' → w'.cell? ⟨gx, 0, none⟩ = some (.pointer none) := fun H' l' w' hl h' => h'.cell (Hp.cell_le hl y5)
    have kA := kk _ _ _ (Hp.le_refl _) hD
    have enD := en5.drew
    replace kk := Lib.hid kk
    clear h5 hp h7
    go_wp2_with fail
    refine wp_region_held_drew (S := fun w' => w'.cell? ⟨gx, 0, none⟩ = some (.pointer none)) (by kernel_rfl) kA (fun hHeld => ?_)
    refine wpAnyH_take (i := 0) (oi := { dst := some 33, op := Go.Op.move (Go.Operand.tmp 3), type := 35, pos := "comps.go:86", after := #[], guard := none }) (v := ?_) rfl (by kernel_rfl) (by kernel_rfl) (by kernel_rfl) (fun _ _ _ h => h) (Or.inl ⟨by rfl, ?_⟩) (by assumption) ?_
    rotate_left
    · (intro w hSw; (try dsimp only at hSw); go_simp; (try (with_reducible rfl)))
    try simp only [Act.put, List.setIfInBounds_toArray, List.set_cons_zero, List.set_cons_succ]
    refine wpAnyH_take (i := 2) (oi := { dst := some 35, op := Go.Op.load 27 (Go.Operand.tmp 1), type := 27, pos := "comps.go:86", after := #[], guard := none }) (v := ?_) rfl (by kernel_rfl) (by kernel_rfl) (by kernel_rfl) (fun _ _ _ h => h) (Or.inl ⟨by rfl, ?_⟩) (by assumption) ?_
    rotate_left
    · (intro w hSw; (try dsimp only at hSw); go_simp; (try (with_reducible rfl)))
    try simp only [Act.put, List.setIfInBounds_toArray, List.set_cons_zero, List.set_cons_succ]
    refine wpAnyH_take (i := 3) (oi := { dst := some 36, op := Go.Op.makeFunc (Go.Fn.func 42) #[Go.Operand.tmp 35] #[], type := 69, pos := "comps.go:86", after := #[{ on := 2, ground := Go.Ground.data }], guard := none }) (v := ?_) rfl (by kernel_rfl) (by kernel_rfl) (by kernel_rfl) (fun _ _ _ h => h) (Or.inl ⟨by rfl, ?_⟩) (by assumption) ?_
    rotate_left
    · (intro w hSw; (try dsimp only at hSw); go_simp; (try (with_reducible rfl)))
    try simp only [Act.put, List.setIfInBounds_toArray, List.set_cons_zero, List.set_cons_succ]
    refine wpAnyH_ready (rs := [1]) (by kernel_rfl) (by simp) ?_
    refine AllReadyH.cons (o := { dst := some 34, op := Go.Op.call { callee := Go.Callee.value (Go.Operand.func 38), args := #[Go.Operand.tmp 33], argTypes := #[35] }, type := 65, pos := "comps.go:86", after := #[{ on := 0, ground := Go.Ground.data }], guard := none }) rfl (fun K hK => ?_) AllReadyH.nil
    go_simp
    refine hNw2.out.mono ?_
    intro e w10 he
    obtain ⟨ps2, rfl, h10, en10⟩ := ResE.lift hD he
    replace en10 := enD.trans en10
    refine hK.out _ _ (kk.out _ _ _ (Hp.le_refl _) h10) (fun hHeld2 => ?_)
    clear hK K hHeld
    try simp only [Act.put, List.setIfInBounds_toArray, List.set_cons_zero, List.set_cons_succ]
    refine wpAnyH_take (i := 4) (oi := { dst := some 37, op := Go.Op.build 71 #[(0, Go.Operand.tmp 34), (1, Go.Operand.tmp 36)], type := 71, pos := "comps.go:86", after := #[{ on := 1, ground := Go.Ground.data }, { on := 3, ground := Go.Ground.data }], guard := none }) (v := ?_) rfl (by kernel_rfl) (by kernel_rfl) (by kernel_rfl) (fun _ _ _ h => h) (Or.inl ⟨by rfl, ?_⟩) (by assumption) ?_
    rotate_left
    · (intro w hSw; (try dsimp only at hSw); go_simp; (try (with_reducible rfl)))
    try simp only [Act.put, List.setIfInBounds_toArray, List.set_cons_zero, List.set_cons_succ]
    refine wpAnyH_ready (rs := [5]) (by kernel_rfl) (by simp) ?_
    refine AllReadyH.cons (o := { dst := some 38, op := Go.Op.box 71 (Go.Operand.tmp 37), type := 64, pos := "comps.go:86", after := #[{ on := 4, ground := Go.Ground.data }], guard := none }) rfl (fun K hK => ?_) AllReadyH.nil
    go_simp
    refine hK.out _ _ (kk.out _ _ _ (Hp.le_refl _) (h10.alloc _)) (fun hHeld3 => ?_)
    clear hK K hHeld2
    try simp only [Act.put, List.setIfInBounds_toArray, List.set_cons_zero, List.set_cons_succ]
    refine wpAnyH_take (i := 6) (oi := { dst := some 7, op := Go.Op.assign (Go.Operand.tmp 38), type := 64, pos := "comps.go:86", after := #[{ on := 5, ground := Go.Ground.data }, { on := 1, ground := Go.Ground.chain }, { on := 0, ground := Go.Ground.phase }, { on := 1, ground := Go.Ground.phase }, { on := 2, ground := Go.Ground.phase }, { on := 3, ground := Go.Ground.phase }, { on := 4, ground := Go.Ground.phase }, { on := 5, ground := Go.Ground.phase }], guard := none }) (v := ?_) rfl (by kernel_rfl) (by kernel_rfl) (by kernel_rfl) (fun _ _ _ h => h) (Or.inl ⟨by rfl, ?_⟩) (by assumption) ?_
    rotate_left
    · (intro w hSw; (try dsimp only at hSw); go_simp; (try (with_reducible rfl)))
    try simp only [Act.put, List.setIfInBounds_toArray, List.set_cons_zero, List.set_cons_succ]
    refine wpAnyH_done (by kernel_rfl) ?_ _
    have h12 := h10.alloc (.cells #[setP ps2, .func (.func 42) #[.pointer none] #[], .slice none 0 0] 71)
    have en12 := en10.alloc (.cells #[setP ps2, .func (.func 42) #[.pointer none] #[], .slice none 0 0] 71)
    generalize w10.heap.size = pv at *
    generalize w10.alloc (.cells #[setP ps2, .func (.func 42) #[.pointer none] #[], .slice none 0 0] 71) = W10 at *
    have pf := h12.cell p2
    have pl := World.block_lt_of_cell? _ _ pf
    clear hNw2 hD kA enD en10 h10 hHeld3 he en5
    go_wp2_with fail
    go_loopw [8, 9] (fun s8 s9 wr => s8 = .slice none 0 0 ∧ s9 = .int .i64 (-1) ∧ wr = W10) (fun _ _ _ => 0)
    case atStart => exact ⟨rfl, by go_num, rfl⟩
    case round =>
      obtain ⟨rfl, rfl, rfl⟩ := hrel
      have m1 := run_makeMap (P := Tryz.prog) 73 wr
      have h13 := h12.alloc (.map #[] 0)
      have en13 := en12.alloc (.map #[] 0)
      go_wp2_with fail
      generalize wr.alloc (.map #[] 0) = W13 at *
      go_loopw [11, 79] (fun s11 s79 wr => s11 = .slice none 0 0 ∧ s79 = .int .i64 0 ∧ wr = W13) (fun _ _ _ => 0)
      case atStart => exact ⟨rfl, by go_num, rfl⟩
      case round =>
        obtain ⟨rfl, rfl, rfl⟩ := hrel
        have hSo := Lib.hid (csorted_nil wr)
        have g0 := h13.cell (Hp.cell_le l5 y0)
        have gl := World.block_lt_of_cell? _ _ g0
        go_wp2_with fail
        refine hSo.out.mono ?_
        rintro e w14 ⟨rfl, hb14⟩
        have h14 := h13.below hb14
        have en14 := en13.trans (bel_env hb14)
        have hb := Lib.hid ((h14.weaken (Hp.le_trans l1 l5)).toBelow en14)
        go_wp2_with fail
        go_loopw [8, 99] (fun s8 s99 wr => s8 = .slice none 0 0 ∧ s99 = .int .i64 0 ∧ wr = w14) (fun _ _ _ => 0)
        case atStart => exact ⟨rfl, by go_num, rfl⟩
        case round =>
          obtain ⟨rfl, rfl, rfl⟩ := hrel
          go_wp2_with fail
          go_ret
          exact ⟨rfl, hb.out⟩
end Go.Proofs.YtcbckeoalmjcoaaGreat

/- canon.Order at a nil graph. -/
set_option linter.unusedVariables false
set_option linter.unusedSimpArgs false
namespace Go.Proofs.YtcbckeoalmjcoaaGreat
open Go.RowKit Go.Cw Go.Fl
attribute [local go_sem ↓] eql_id neq_id
set_option maxRecDepth 100000 in
set_option maxHeartbeats 8000000 in
theorem canOrder_nil (w : World) : Calls Tryz.prog 30 #[.pointer none] w fun e w' => e = .returned (.slice none 0 0) ∧ Below w.heap.size w w' := by
  have hfin : ∀ (w' : World), St (snap w) [] w' → Env w w' → (fun (e : Ending) (w' : World) => e = .returned (.slice none 0 0) ∧ Below w.heap.size w w') (.returned (.slice none 0 0)) w' := fun w' h he => ⟨rfl, h.toBelow he⟩
  generalize (fun (e : Ending) (w' : World) => e = .returned (.slice none 0 0) ∧ Below w.heap.size w w') = Q at *
  replace hfin := Lib.hid hfin
  obtain ⟨H1, l1, h1, y⟩ := (St.start w).box #[.pointer none] 27
  have y0 : H1.cell w.heap.size 0 = some (.pointer none) := y 0 _ rfl
  have g0 := h1.cell y0
  have gl := World.block_lt_of_cell? _ _ g0
  have en1 := (Env.refl w).alloc (.cells #[.pointer none] 27)
  have hCl := Lib.hid (comps_nil (w.alloc (.cells #[.pointer none] 27)))
  have hmf : ∀ (fn : Fn) (first cap : Array Value) (w : World), (Instr.makeFunc fn first cap).run Tryz.prog w = .ok (.func fn first cap) w := fun _ _ _ _ => rfl
  clear y
  go_enter Tryz.func30, Tryz.ntmps30
  go_wp2_with fail
  go_step3
  go_wp2_with fail
  generalize w.heap.size = gx at *
  generalize w.alloc (.cells #[.pointer none] 27) = W at *
  refine hCl.out.mono ?_
  rintro e w2 ⟨rfl, hb2⟩
  have h2 := h1.below hb2
  have en2 := en1.trans (bel_env hb2)
  have m3 := run_makeMap (P := Tryz.prog) 82 w2
  have h3 := (h2.alloc (.map #[] 0)).alloc (.cells #[.map (some w2.heap.size)] 82)
  have en3 := (en2.alloc (.map #[] 0)).alloc (.cells #[.map (some w2.heap.size)] 82)
  have hb := Lib.hid (hfin.out _ (h3.weaken l1) en3)
  clear hCl h1 en1 g0 gl hb2 h2 en2 h3 en3
  go_wp2_with fail
  generalize (w2.alloc (.map #[] 0)).alloc (.cells #[.map (some w2.heap.size)] 82) = W4 at *
  generalize w2.heap.size = gm at *
  go_step3
  go_wp2_with fail
  go_loopg [3, 5] 0 (fun q s3 s5 wr => s3 = .slice none 0 0 ∧ s5 = .slice none 0 0 ∧ wr = W4)
  case atStart => exact ⟨rfl, rfl, rfl⟩
  case round =>
    obtain ⟨rfl, rfl, rfl⟩ := hrel
    go_wp2_with fail
    exact hb.out
end Go.Proofs.YtcbckeoalmjcoaaGreat
