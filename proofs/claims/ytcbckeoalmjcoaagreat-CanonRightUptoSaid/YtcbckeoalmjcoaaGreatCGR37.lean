/- Joined texts: CanWorks. -/
import Derived.Test.YtcbckeoalmjcoaaGreatCGR27
import Derived.Test.YtcbckeoalmjcoaaGreatCGR34
import Derived.Test.YtcbckeoalmjcoaaGreatCGR35
import Derived.Test.YtcbckeoalmjcoaaGreatCGR36
/- Law 18: works. -/
set_option linter.unusedVariables false
set_option linter.unusedSimpArgs false
namespace Go.Proofs.YtcbckeoalmjcoaaGreat
open Go.RowKit Go.Cw Go.Fl
attribute [local go_sem ↓] eql_id neq_id
def l18 : List Rp := [((1, 1), 9, [], []), ((1, 2), 1, [(1, 1)], [])]
theorem dps18a : dpsR l18 (1, 1) = [] := by decide
theorem dps18b : dpsR l18 (1, 2) = [(1, 1)] := by decide
theorem rch18a {b : Id} (h : Rch (dpsR l18) [(1, 1)] b) : b = (1, 1) := by
  refine h.closed (P := fun a => a = (1, 1)) (fun x hx => List.mem_singleton.1 hx) ?_
  rintro x rfl b hb
  rw [dps18a] at hb
  cases hb
theorem rch18b {b : Id} (h : Rch (dpsR l18) [(1, 2)] b) : b = (1, 1) ∨ b = (1, 2) := by
  refine h.closed (P := fun a => a = (1, 1) ∨ a = (1, 2)) (fun x hx => .inr (List.mem_singleton.1 hx)) ?_
  rintro x (rfl | rfl) b hb
  · rw [dps18a] at hb
    cases hb
  · rw [dps18b] at hb
    exact .inl (List.mem_singleton.1 hb)
theorem clU18 (a : Id) : clU l18 a ↔ (a = (1, 1) ∨ a = (1, 2)) := by
  constructor
  · rintro ⟨h1, _⟩
    simpa [pids, l18] using h1
  · intro h
    refine ⟨by rcases h with rfl | rfl <;> decide, fun b hb => ?_⟩
    rcases h with rfl | rfl
    · rw [rch18a hb]; decide
    · rcases rch18b hb with rfl | rfl <;> decide
theorem comps18 : CompsOf l18 [[(1, 2)], [(1, 1)]] := by
  refine ⟨fun c hc => ?_, ?_, fun a ha => ?_⟩
  · simp only [List.mem_cons, List.not_mem_nil, or_false] at hc
    rcases hc with rfl | rfl
    · refine ⟨by simp, ?_, (clU18 _).2 (.inr rfl), fun b => ?_⟩
      · unfold KR KRises
        decide
      · show b ∈ [((1, 2) : Id)] ↔ muD l18 (1, 2) b
        rw [List.mem_singleton]
        constructor
        · rintro rfl; exact muD_refl _ _
        · intro h
          rcases rch18b h.1 with rfl | rfl
          · have := rch18a h.2
            cases this
          · rfl
    · refine ⟨by simp, ?_, (clU18 _).2 (.inl rfl), fun b => ?_⟩
      · unfold KR KRises
        decide
      · show b ∈ [((1, 1) : Id)] ↔ muD l18 (1, 1) b
        rw [List.mem_singleton]
        constructor
        · rintro rfl; exact muD_refl _ _
        · intro h; exact rch18a h.1
  · unfold KR KRises
    decide
  · rcases (clU18 a).1 ha with rfl | rfl
    · exact ⟨[(1, 1)], by simp, by simp⟩
    · exact ⟨[(1, 2)], by simp, by simp⟩
theorem canon18 {F : List (List Id)} (h : ∃ C, CompsOf l18 C ∧ F = canonF (dpsR l18) C.length C []) : F = [[(1, 1)], [(1, 2)]] := by
  obtain ⟨C, h1, rfl⟩ := h
  rw [compsOf_eq h1 comps18]
  decide
theorem right18 : RightOf l18 [[(1, 1)]] := ⟨_, comps18, by decide⟩
theorem leads18 : leadsB (dpsR l18) [(1, 2)] [(1, 1)] = true := by decide
theorem same18 {u v va vb : Value} {X : List Lv} {w : World} (hXe : lists X = [[(1, 1)], [(1, 2)]]) (hx : LvR w u X) (h1 : Rw w 1 v [va, vb]) (ha : Rw w 2 va (idl [(1, 1)])) (hb : Rw w 2 vb (idl [(1, 2)])) : Calls Tryz.prog 12 #[u, v] w fun e w' => e = .returned (.bool true) ∧ Below w.heap.size w w' := by
  refine (ref17Same_any u v X [([(1, 1)], va), ([(1, 2)], vb)] w hx ⟨h1, fun x hx => ?_⟩).mono ?_
  · simp only [List.mem_cons, List.not_mem_nil, or_false] at hx
    rcases hx with rfl | rfl
    · exact ha
    · exact hb
  · rintro e w' ⟨rfl, hb⟩
    have hE : lists X = lists [([(1, 1)], va), ([(1, 2)], vb)] := hXe
    exact ⟨by rw [decide_eq_true hE], hb⟩
theorem flat18 {v va vb : Value} {w : World} (h1 : Rw w 1 v [va, vb]) (ha : Rw w 2 va (idl [(1, 1)])) (hb : Rw w 2 vb (idl [(1, 2)])) : Calls Tryz.prog 26 #[v] w fun e w' => ∃ A c, e = .returned (.slice A 2 c) ∧ Below w.heap.size w w' := by
  refine (canFlat_any v [([(1, 1)], va), ([(1, 2)], vb)] w ⟨h1, fun x hx => ?_⟩ (by simp [lists])).mono ?_
  · simp only [List.mem_cons, List.not_mem_nil, or_false] at hx
    rcases hx with rfl | rfl
    · exact ha
    · exact hb
  · rintro e w' ⟨v', rfl, h, en⟩
    obtain ⟨A, n, c, rfl, hl, _⟩ := h.row_form
    have : n = 2 := by
      have h4 : (idl (lists [([((1, 1) : Id)], va), ([((1, 2) : Id)], vb)]).flatten).length = 4 := by simp [lists, idl, idc]
      omega
    subst this
    exact ⟨A, c, rfl, h.drop.toBelow en⟩
open Classical in
set_option maxRecDepth 100000 in
set_option maxHeartbeats 16000000 in
theorem works18 (w : World) : Calls Tryz.prog 23 #[] w fun e w' => e = .returned (.bool true) ∧ Below w.heap.size w w' := by
  obtain ⟨H1, l1, h1, y1⟩ := (St.start w).box #[.int .i64 1, .int .i64 1] 41
  obtain ⟨H2, l2, h2, y2⟩ := h1.box #[.int .i64 1, .int .i64 2] 41
  rw [World.size_alloc] at y2
  have a0 := Hp.cell_le l2 (y1 0 _ rfl)
  have a1 := Hp.cell_le l2 (y1 1 _ rfl)
  have b0 := y2 0 _ rfl
  have b1 := y2 1 _ rfl
  have en3 := (((Env.refl w).alloc (.cells #[.int .i64 1, .int .i64 1] 41)).alloc (.cells #[.int .i64 1, .int .i64 2] 41))
  have l13 := Hp.le_trans l1 l2
  clear y1 y2 h1
  have h4 := h2.row_lit 41 2 1 #[.int .i64 1, .int .i64 1] rfl (by decide)
  obtain ⟨H4, l4, h5, r4⟩ := h4.row_keep
  have e0 : ((w.alloc (.cells #[.int .i64 1, .int .i64 1] 41)).alloc (.cells #[.int .i64 1, .int .i64 2] 41)).heap.size = w.heap.size + 1 + 1 := by simp
  rw [e0] at r4
  have h8 := h5.row_lit 53 5 2 #[.int .i64 1, .int .i64 1, .int .i64 9, .slice none 0 0, .slice none 0 0, .int .i64 1, .int .i64 2, .int .i64 1, .slice (some ⟨w.heap.size + 1 + 1, 0, none⟩) 1 1, .slice none 0 0] rfl (by decide)
  have en8 := (en3.alloc (.cells #[.int .i64 1, .int .i64 1] 41)).alloc (.cells #[.int .i64 1, .int .i64 1, .int .i64 9, .slice none 0 0, .slice none 0 0, .int .i64 1, .int .i64 2, .int .i64 1, .slice (some ⟨w.heap.size + 1 + 1, 0, none⟩) 1 1, .slice none 0 0] 53)
  rw [World.size_alloc, e0] at h8
  have hN := newGr_any (.slice (some ⟨w.heap.size + 1 + 1 + 1, 0, none⟩) 2 2) [((1, 1), 9, .slice none 0 0, .slice none 0 0, [], []), ((1, 2), 1, .slice (some ⟨w.heap.size + 1 + 1, 0, none⟩) 1 1, .slice none 0 0, [(1, 1)], [])] _ (h8.row_rw (by omega)) (fun x hx => by
    simp only [List.mem_cons, List.not_mem_nil, or_false] at hx
    rcases hx with rfl | rfl
    · exact ⟨Rw.nil _ _, Rw.nil _ _, fun c hc => by simp at hc⟩
    · exact ⟨r4.rw h8, Rw.nil _ _, fun c hc => by simp at hc⟩) (by simp)
  have hN2 := hN.mono (fun e w' h => NewR.ok h (by simp))
  replace hN2 := Lib.hid hN2
  have l15 := Hp.le_trans l13 l4
  replace a0 := Hp.cell_le l4 a0
  replace a1 := Hp.cell_le l4 a1
  replace b0 := Hp.cell_le l4 b0
  replace b1 := Hp.cell_le l4 b1
  replace h8 := h8.drop
  clear h2 h4 h5 e0 r4 hN en3 l13
  go_enter Tryz.func23, Tryz.ntmps23
  go_wp2_with fail
  refine hN2.out.mono ?_
  rintro e w4 (⟨_, p, L, H, hle, h9, hg, hLm, en4, rfl⟩ | ⟨hno, _⟩)
  case inr => exact absurd rfl hno
  replace hLm : L.map rp = l18 := hLm
  have hlen : L.length = 2 := by have := congrArg List.length hLm; simpa [l18] using this
  have hle5 : Hp.le H4 H := Hp.le_trans (fun k o hk => h8.imm k o hk) hle
  replace a0 := Hp.cell_le hle5 a0
  replace a1 := Hp.cell_le hle5 a1
  replace b0 := Hp.cell_le hle5 b0
  replace b1 := Hp.cell_le hle5 b1
  have l0H := Hp.le_trans l15 hle5
  replace en4 := en8.trans en4
  have gl := World.block_lt_of_cell? _ _ (h9.cell a0)
  have gl1 := World.block_lt_of_cell? _ _ (h9.cell b0)
  simp only at gl gl1
  have hOr := fun (Hc : Hp) (w' : World) (hl : Hp.le H Hc) (h' : St Hc [GrA p L] w') => (canOrder_any p L Hc [] w' h' (hg.mono hl) (by omega)).mono (R' := fun e w'' => ∃ v X H', e = .returned v ∧ Hp.le Hc H' ∧ St H' [GrA p L] w'' ∧ Env w' w'' ∧ Rd H' 1 v (vals X) ∧ LvOk H' X ∧ lists X = [[(1, 1)], [(1, 2)]]) (by
    rintro e w'' ⟨v, X, H', rfl, l', h2, en, hok, hco⟩
    obtain ⟨H'', l'', h3, hr⟩ := h2.row_keep
    rw [hLm] at hco
    exact ⟨v, X, H'', rfl, Hp.le_trans l' l'', h3, en, hr, hok.mono l'', canon18 hco⟩)
  have hLe := fun (ua ub : Value) (Hc : Hp) (w' : World) (hl : Hp.le H Hc) (h' : St Hc [GrA p L] w') (ha : Rd Hc 2 ua (idl [(1, 2)])) (hb : Rd Hc 2 ub (idl [(1, 1)])) => canLeads_any p L ua ub [(1, 2)] [(1, 1)] Hc [] w' h' (hg.mono hl) ha hb (by decide)
  rw [hLm, leads18] at hLe
  have hRi := fun (v va : Value) (Hc : Hp) (w' : World) (hl : Hp.le H Hc) (h' : St Hc [GrA p L] w') (hv : Rd Hc 1 v [va]) (ha : Rd Hc 2 va (idl [(1, 1)])) => canRight_any p L v [([(1, 1)], va)] Hc [] w' h' (hg.mono hl) (by omega) hv (fun x hx => by rw [List.mem_singleton] at hx; subst hx; exact ha)
  rw [hLm] at hRi
  replace hRi := fun v va Hc w' hl h' hv ha => (show Calls Tryz.prog 24 #[grP p, v] w' (AskR (decide (RightOf l18 [[(1, 1)]])) (GrA p L) Hc [] w') from hRi v va Hc w' hl h' hv ha)
  rw [decide_eq_true right18] at hRi
  replace hOr := Lib.hid hOr
  replace hLe := Lib.hid hLe
  replace hRi := Lib.hid hRi
  have hfin : ∀ (H' : Hp) (l' : List HA) (w' : World), Hp.le H H' → St H' l' w' → Env w4 w' → Hid (Below w.heap.size w w') := fun H' l' w' hl h en => Lib.hid ((h.weaken (Hp.le_trans l0H hl)).toBelow (en4.trans en))
  clear hN2 h8 en8
  go_wp2_with fail
  generalize hg0 : w.heap.size = g0 at *
  have kk : ∀ (Hc : Hp) (l' : List HA) (w' : World), Hp.le H Hc → St Hc l' w' → w'.cell? ⟨g0, 0, none⟩ = some (.int .i64 1) ∧ w'.cell? ⟨g0, 1, none⟩ = some (.int .i64 1) ∧ w'.cell? ⟨g0 + 1, 0, none⟩ = some (.int .i64 1) ∧ w'.cell? ⟨g0 + 1, 1, none⟩ = some (.int .i64 2) := fun Hc l' w' hl h => ⟨h.cell (Hp.cell_le hl a0), h.cell (Hp.cell_le hl a1), h.cell (Hp.cell_le hl b0), h.cell (Hp.cell_le hl b1)⟩
  have hst := h9.drew
  have en5 := (Env.refl w4).drew
  have lc := Hp.le_refl H
  refine wp_region_held_drew (S := (fun w' : World => w'.cell? ⟨g0, 0, none⟩ = some (.int .i64 1) ∧ w'.cell? ⟨g0, 1, none⟩ = some (.int .i64 1) ∧ w'.cell? ⟨g0 + 1, 0, none⟩ = some (.int .i64 1) ∧ w'.cell? ⟨g0 + 1, 1, none⟩ = some (.int .i64 2))) (by kernel_rfl) (kk _ _ _ lc hst) (fun hHeld => ?_)
  refine region_cut (fun f l a w' => f = 25 ∧ l = #[true, true, true, true, true, true, true, true, true, true, true, true, true, false, false, false, false, false, false, false, false, false, false, false, false, false, false, false, false, false, false, false, false, false, false, false, false, false] ∧ ∃ (v22 v24 v26 v27 : Value) (H' : Hp), a = { tmps := #[.bool false, .pointer (some ⟨g0, 0, none⟩), .pointer (some ⟨g0 + 1, 0, none⟩), grP p, .int .i64 0, .agg #[.int .i64 1, .int .i64 1], .agg #[.int .i64 1, .int .i64 2], .tuple #[grP p, .int .i64 0], .agg #[.int .i64 1, .int .i64 1], .agg #[.int .i64 1, .int .i64 1, .int .i64 9, .slice none 0 0, .slice none 0 0], .agg #[.int .i64 1, .int .i64 2], .agg #[.int .i64 1, .int .i64 1], .slice (some ⟨g0 + 1 + 1, 0, none⟩) 1 1, .agg #[.int .i64 1, .int .i64 2, .int .i64 1, .slice (some ⟨g0 + 1 + 1, 0, none⟩) 1 1, .slice none 0 0], .slice (some ⟨g0 + 1 + 1 + 1, 0, none⟩) 2 2, .tuple #[grP p, .int .i64 0], grP p, .int .i64 0, .int .i64 0, .bool true, .bool true, grP p, v22, .agg #[.int .i64 1, .int .i64 1], v24, .agg #[.int .i64 1, .int .i64 2], v26, v27, .bool true, .bool true, .bool true, undef, undef, undef, undef, undef, undef, undef, undef, undef, undef, undef, undef, undef, undef, undef, undef, undef, undef, undef, undef, undef, undef, undef, undef], defers := [] } ∧ Hp.le H H' ∧ St H' [GrA p L] w' ∧ Env w4 w') (fun hcut => ?_) ?_
  ·
    refine wpAnyH_take (i := 0) (oi := { dst := some 18, op := Go.Op.move (Go.Operand.tmp 4), type := 24, pos := "law.go:18", after := #[], guard := none }) (v := ?_) rfl (by kernel_rfl) (by kernel_rfl) (by kernel_rfl) (fun _ _ _ h => h) (Or.inl ⟨by rfl, ?_⟩) (by assumption) ?_
    rotate_left
    · (intro w hSw; (try dsimp only at hSw); go_simp; (try (with_reducible rfl)))
    try simp only [Act.put, List.setIfInBounds_toArray, List.set_cons_zero, List.set_cons_succ]
    refine wpAnyH_take (i := 1) (oi := { dst := some 19, op := Go.Op.binOp Go.BinOp.eql 24 (Go.Operand.tmp 18) (Go.Operand.const (Go.Value.int Go.IntKind.i64 0)) 24, type := 4, pos := "law.go:18", after := #[{ on := 0, ground := Go.Ground.data }], guard := none }) (v := ?_) rfl (by kernel_rfl) (by kernel_rfl) (by kernel_rfl) (fun _ _ _ h => h) (Or.inl ⟨by rfl, ?_⟩) (by assumption) ?_
    rotate_left
    · (intro w hSw; (try dsimp only at hSw); go_simp; (try (with_reducible rfl)))
    try simp only [Act.put, List.setIfInBounds_toArray, List.set_cons_zero, List.set_cons_succ]
    refine wpAnyH_take (i := 2) (oi := { dst := some 20, op := Go.Op.move (Go.Operand.tmp 19), type := 4, pos := "law.go:18", after := #[{ on := 1, ground := Go.Ground.data }], guard := none }) (v := ?_) rfl (by kernel_rfl) (by kernel_rfl) (by kernel_rfl) (fun _ _ _ h => h) (Or.inl ⟨by rfl, ?_⟩) (by assumption) ?_
    rotate_left
    · (intro w hSw; (try dsimp only at hSw); go_simp; (try (with_reducible rfl)))
    try simp only [Act.put, List.setIfInBounds_toArray, List.set_cons_zero, List.set_cons_succ]
    refine wpAnyH_take (i := 3) (oi := { dst := some 21, op := Go.Op.move (Go.Operand.tmp 3), type := 27, pos := "law.go:18", after := #[{ on := 2, ground := Go.Ground.guard }], guard := some (2, true) }) (v := ?_) rfl (by kernel_rfl) (by kernel_rfl) (by kernel_rfl) (fun _ _ _ h => h) (Or.inl ⟨by rfl, ?_⟩) (by assumption) ?_
    rotate_left
    · (intro w hSw; (try dsimp only at hSw); go_simp; (try (with_reducible rfl)))
    try simp only [Act.put, List.setIfInBounds_toArray, List.set_cons_zero, List.set_cons_succ]
    refine wpAnyH_take (i := 5) (oi := { dst := some 23, op := Go.Op.load 41 (Go.Operand.tmp 1), type := 41, pos := "law.go:18", after := #[{ on := 2, ground := Go.Ground.guard }], guard := some (2, true) }) (v := ?_) rfl (by kernel_rfl) (by kernel_rfl) (by kernel_rfl) (fun _ _ _ h => h) (Or.inl ⟨by rfl, ?_⟩) (by assumption) ?_
    rotate_left
    · (intro w hSw; (try dsimp only at hSw); go_simp; (try (with_reducible rfl)))
    try simp only [Act.put, List.setIfInBounds_toArray, List.set_cons_zero, List.set_cons_succ]
    refine wpAnyH_take (i := 7) (oi := { dst := some 25, op := Go.Op.load 41 (Go.Operand.tmp 2), type := 41, pos := "law.go:18", after := #[{ on := 2, ground := Go.Ground.guard }], guard := some (2, true) }) (v := ?_) rfl (by kernel_rfl) (by kernel_rfl) (by kernel_rfl) (fun _ _ _ h => h) (Or.inl ⟨by rfl, ?_⟩) (by assumption) ?_
    rotate_left
    · (intro w hSw; (try dsimp only at hSw); go_simp; (try (with_reducible rfl)))
    try simp only [Act.put, List.setIfInBounds_toArray, List.set_cons_zero, List.set_cons_succ]
    refine wpAnyH_ready (rs := [4, 6, 8]) (by kernel_rfl) (by simp) ?_
    refine (AllReadyH.cons (o := { dst := some 22, op := Go.Op.call { callee := Go.Callee.value (Go.Operand.func 30), args := #[Go.Operand.tmp 21], argTypes := #[27] }, type := 31, pos := "law.go:18", after := #[{ on := 3, ground := Go.Ground.data }, { on := 2, ground := Go.Ground.chain }, { on := 2, ground := Go.Ground.guard }], guard := some (2, true) }) rfl (fun K hK => ?_) (AllReadyH.cons (o := { dst := some 24, op := Go.Op.buildSlice 35 1 #[(0, Go.Operand.tmp 23)], type := 35, pos := "law.go:18", after := #[{ on := 5, ground := Go.Ground.data }, { on := 2, ground := Go.Ground.guard }], guard := some (2, true) }) rfl (fun K hK => ?_) (AllReadyH.cons (o := { dst := some 26, op := Go.Op.buildSlice 35 1 #[(0, Go.Operand.tmp 25)], type := 35, pos := "law.go:18", after := #[{ on := 7, ground := Go.Ground.data }, { on := 2, ground := Go.Ground.guard }], guard := some (2, true) }) rfl (fun K hK => ?_) AllReadyH.nil)))
    go_simp
    refine (hOr.out _ _ lc hst).mono ?_
    rintro e wA ⟨cv, X, HA1, rfl, lA, hA1, enA, hXr, hXo, hXe⟩
    obtain ⟨cv1, cv2, cv3, rfl, _⟩ := hXr.form
    try replace haa := haa.mono lA
    try replace hbb := hbb.mono lA
    try replace hyy := hyy.mono lA
    replace lc := Hp.le_trans lc lA
    replace hst := hA1
    replace en5 := en5.trans enA
    refine hK.out _ _ (kk _ _ _ lc hst) (fun hHeld => ?_)
    clear hK K
    try simp only [Act.put, List.setIfInBounds_toArray, List.set_cons_zero, List.set_cons_succ]
    refine wpAnyH_ready (rs := [6, 8]) (by kernel_rfl) (by simp) ?_
    refine (AllReadyH.cons (o := { dst := some 24, op := Go.Op.buildSlice 35 1 #[(0, Go.Operand.tmp 23)], type := 35, pos := "law.go:18", after := #[{ on := 5, ground := Go.Ground.data }, { on := 2, ground := Go.Ground.guard }], guard := some (2, true) }) rfl (fun K hK => ?_) (AllReadyH.cons (o := { dst := some 26, op := Go.Op.buildSlice 35 1 #[(0, Go.Operand.tmp 25)], type := 35, pos := "law.go:18", after := #[{ on := 7, ground := Go.Ground.data }, { on := 2, ground := Go.Ground.guard }], guard := some (2, true) }) rfl (fun K hK => ?_) AllReadyH.nil))
    go_simp
    have hA1 := hst.row_lit 41 2 1 #[.int .i64 1, .int .i64 1] rfl (by decide)
    replace en5 := en5.alloc (.cells #[.int .i64 1, .int .i64 1] 41)
    obtain ⟨HA, lA, hA2, haa⟩ := hA1.row_keep
    try rw [World.size_alloc] at haa
    replace haa : Rd HA 2 _ (idl [(1, 1)]) := haa
    try replace hXr := hXr.mono lA
    try replace hXo := hXo.mono lA
    try replace hbb := hbb.mono lA
    try replace hyy := hyy.mono lA
    replace lc := Hp.le_trans lc lA
    replace hst := hA2
    refine hK.out _ _ (kk _ _ _ lc hst) (fun hHeld => ?_)
    clear hK K
    try simp only [Act.put, List.setIfInBounds_toArray, List.set_cons_zero, List.set_cons_succ]
    refine wpAnyH_ready (rs := [8]) (by kernel_rfl) (by simp) ?_
    refine AllReadyH.cons (o := { dst := some 26, op := Go.Op.buildSlice 35 1 #[(0, Go.Operand.tmp 25)], type := 35, pos := "law.go:18", after := #[{ on := 7, ground := Go.Ground.data }, { on := 2, ground := Go.Ground.guard }], guard := some (2, true) }) rfl (fun K hK => ?_) AllReadyH.nil
    go_simp
    have hA1 := hst.row_lit 41 2 1 #[.int .i64 1, .int .i64 2] rfl (by decide)
    replace en5 := en5.alloc (.cells #[.int .i64 1, .int .i64 2] 41)
    obtain ⟨HA, lA, hA2, hbb⟩ := hA1.row_keep
    try rw [World.size_alloc] at hbb
    replace hbb : Rd HA 2 _ (idl [(1, 2)]) := hbb
    try replace hXr := hXr.mono lA
    try replace hXo := hXo.mono lA
    try replace haa := haa.mono lA
    try replace hyy := hyy.mono lA
    replace lc := Hp.le_trans lc lA
    replace hst := hA2
    refine hK.out _ _ (kk _ _ _ lc hst) (fun hHeld => ?_)
    clear hK K
    try simp only [Act.put, List.setIfInBounds_toArray, List.set_cons_zero, List.set_cons_succ]
    refine wpAnyH_ready (rs := [9]) (by kernel_rfl) (by simp) ?_
    refine AllReadyH.cons (o := { dst := some 27, op := Go.Op.buildSlice 31 2 #[(0, Go.Operand.tmp 24), (1, Go.Operand.tmp 26)], type := 31, pos := "law.go:18", after := #[{ on := 6, ground := Go.Ground.data }, { on := 8, ground := Go.Ground.data }, { on := 2, ground := Go.Ground.guard }], guard := some (2, true) }) rfl (fun K hK => ?_) AllReadyH.nil
    go_simp
    obtain ⟨HZ, lZ, hZ, enZ, hyy⟩ := lay2 hst haa hbb
    try rw [World.size_alloc] at hyy
    try rw [World.size_alloc] at hyy
    try replace hXr := hXr.mono lZ
    try replace hXo := hXo.mono lZ
    try replace haa := haa.mono lZ
    try replace hbb := hbb.mono lZ
    replace lc := Hp.le_trans lc lZ
    replace hst := hZ
    replace en5 := en5.trans enZ
    refine hK.out _ _ (kk _ _ _ lc hst) (fun hHeld => ?_)
    clear hK K
    try simp only [Act.put, List.setIfInBounds_toArray, List.set_cons_zero, List.set_cons_succ]
    refine wpAnyH_ready (rs := [10]) (by kernel_rfl) (by simp) ?_
    refine AllReadyH.cons (o := { dst := some 28, op := Go.Op.call { callee := Go.Callee.value (Go.Operand.func 12), args := #[Go.Operand.tmp 22, Go.Operand.tmp 27], argTypes := #[31, 31] }, type := 4, pos := "law.go:18", after := #[{ on := 4, ground := Go.Ground.data }, { on := 9, ground := Go.Ground.data }, { on := 4, ground := Go.Ground.chain }, { on := 2, ground := Go.Ground.guard }], guard := some (2, true) }) rfl (fun K hK => ?_) AllReadyH.nil
    go_simp
    refine (same18 hXe ⟨hXr.rw hst, fun x hx => (hXo x hx).rw hst⟩ (hyy.rw hst) (haa.rw hst) (hbb.rw hst)).mono ?_
    rintro e wC ⟨rfl, hbC⟩
    replace hst := hst.below hbC
    replace en5 := en5.trans (bel_env hbC)
    refine hK.out _ _ (kk _ _ _ lc hst) (fun hHeld => ?_)
    clear hK K
    try simp only [Act.put, List.setIfInBounds_toArray, List.set_cons_zero, List.set_cons_succ]
    refine wpAnyH_take (i := 11) (oi := { dst := some 29, op := Go.Op.pick (Go.Operand.tmp 20) (Go.Operand.tmp 28) (Go.Operand.const (Go.Value.bool false)), type := 4, pos := "law.go:18", after := #[{ on := 2, ground := Go.Ground.data }, { on := 10, ground := Go.Ground.data }], guard := none }) (v := ?_) rfl (by kernel_rfl) (by kernel_rfl) (by kernel_rfl) (fun _ _ _ h => h) (Or.inl ⟨by rfl, ?_⟩) (by assumption) ?_
    rotate_left
    · (intro w hSw; (try dsimp only at hSw); go_simp; (try (with_reducible rfl)))
    try simp only [Act.put, List.setIfInBounds_toArray, List.set_cons_zero, List.set_cons_succ]
    refine wpAnyH_take (i := 12) (oi := { dst := some 30, op := Go.Op.move (Go.Operand.tmp 29), type := 4, pos := "law.go:18", after := #[{ on := 11, ground := Go.Ground.data }, { on := 10, ground := Go.Ground.chain }], guard := none }) (v := ?_) rfl (by kernel_rfl) (by kernel_rfl) (by kernel_rfl) (fun _ _ _ h => h) (Or.inl ⟨by rfl, ?_⟩) (by assumption) ?_
    rotate_left
    · (intro w hSw; (try dsimp only at hSw); go_simp; (try (with_reducible rfl)))
    try simp only [Act.put, List.setIfInBounds_toArray, List.set_cons_zero, List.set_cons_succ]
    exact hcut _ _ _ _ ⟨rfl, by kernel_rfl, _, _, _, _, _, rfl, lc, hst, en5⟩
    go_simp
    have hA1 := hst.row_lit 41 2 1 #[.int .i64 1, .int .i64 2] rfl (by decide)
    replace en5 := en5.alloc (.cells #[.int .i64 1, .int .i64 2] 41)
    obtain ⟨HA, lA, hA2, hbb⟩ := hA1.row_keep
    try rw [World.size_alloc] at hbb
    replace hbb : Rd HA 2 _ (idl [(1, 2)]) := hbb
    try replace hXr := hXr.mono lA
    try replace hXo := hXo.mono lA
    try replace haa := haa.mono lA
    try replace hyy := hyy.mono lA
    replace lc := Hp.le_trans lc lA
    replace hst := hA2
    refine hK.out _ _ (kk _ _ _ lc hst) (fun hHeld => ?_)
    clear hK K
    try simp only [Act.put, List.setIfInBounds_toArray, List.set_cons_zero, List.set_cons_succ]
    refine wpAnyH_ready (rs := [6]) (by kernel_rfl) (by simp) ?_
    refine AllReadyH.cons (o := { dst := some 24, op := Go.Op.buildSlice 35 1 #[(0, Go.Operand.tmp 23)], type := 35, pos := "law.go:18", after := #[{ on := 5, ground := Go.Ground.data }, { on := 2, ground := Go.Ground.guard }], guard := some (2, true) }) rfl (fun K hK => ?_) AllReadyH.nil
    go_simp
    have hA1 := hst.row_lit 41 2 1 #[.int .i64 1, .int .i64 1] rfl (by decide)
    replace en5 := en5.alloc (.cells #[.int .i64 1, .int .i64 1] 41)
    obtain ⟨HA, lA, hA2, haa⟩ := hA1.row_keep
    try rw [World.size_alloc] at haa
    replace haa : Rd HA 2 _ (idl [(1, 1)]) := haa
    try replace hXr := hXr.mono lA
    try replace hXo := hXo.mono lA
    try replace hbb := hbb.mono lA
    try replace hyy := hyy.mono lA
    replace lc := Hp.le_trans lc lA
    replace hst := hA2
    refine hK.out _ _ (kk _ _ _ lc hst) (fun hHeld => ?_)
    clear hK K
    try simp only [Act.put, List.setIfInBounds_toArray, List.set_cons_zero, List.set_cons_succ]
    refine wpAnyH_ready (rs := [9]) (by kernel_rfl) (by simp) ?_
    refine AllReadyH.cons (o := { dst := some 27, op := Go.Op.buildSlice 31 2 #[(0, Go.Operand.tmp 24), (1, Go.Operand.tmp 26)], type := 31, pos := "law.go:18", after := #[{ on := 6, ground := Go.Ground.data }, { on := 8, ground := Go.Ground.data }, { on := 2, ground := Go.Ground.guard }], guard := some (2, true) }) rfl (fun K hK => ?_) AllReadyH.nil
    go_simp
    obtain ⟨HZ, lZ, hZ, enZ, hyy⟩ := lay2 hst haa hbb
    try rw [World.size_alloc] at hyy
    try rw [World.size_alloc] at hyy
    try replace hXr := hXr.mono lZ
    try replace hXo := hXo.mono lZ
    try replace haa := haa.mono lZ
    try replace hbb := hbb.mono lZ
    replace lc := Hp.le_trans lc lZ
    replace hst := hZ
    replace en5 := en5.trans enZ
    refine hK.out _ _ (kk _ _ _ lc hst) (fun hHeld => ?_)
    clear hK K
    try simp only [Act.put, List.setIfInBounds_toArray, List.set_cons_zero, List.set_cons_succ]
    refine wpAnyH_ready (rs := [10]) (by kernel_rfl) (by simp) ?_
    refine AllReadyH.cons (o := { dst := some 28, op := Go.Op.call { callee := Go.Callee.value (Go.Operand.func 12), args := #[Go.Operand.tmp 22, Go.Operand.tmp 27], argTypes := #[31, 31] }, type := 4, pos := "law.go:18", after := #[{ on := 4, ground := Go.Ground.data }, { on := 9, ground := Go.Ground.data }, { on := 4, ground := Go.Ground.chain }, { on := 2, ground := Go.Ground.guard }], guard := some (2, true) }) rfl (fun K hK => ?_) AllReadyH.nil
    go_simp
    refine (same18 hXe ⟨hXr.rw hst, fun x hx => (hXo x hx).rw hst⟩ (hyy.rw hst) (haa.rw hst) (hbb.rw hst)).mono ?_
    rintro e wC ⟨rfl, hbC⟩
    replace hst := hst.below hbC
    replace en5 := en5.trans (bel_env hbC)
    refine hK.out _ _ (kk _ _ _ lc hst) (fun hHeld => ?_)
    clear hK K
    try simp only [Act.put, List.setIfInBounds_toArray, List.set_cons_zero, List.set_cons_succ]
    refine wpAnyH_take (i := 11) (oi := { dst := some 29, op := Go.Op.pick (Go.Operand.tmp 20) (Go.Operand.tmp 28) (Go.Operand.const (Go.Value.bool false)), type := 4, pos := "law.go:18", after := #[{ on := 2, ground := Go.Ground.data }, { on := 10, ground := Go.Ground.data }], guard := none }) (v := ?_) rfl (by kernel_rfl) (by kernel_rfl) (by kernel_rfl) (fun _ _ _ h => h) (Or.inl ⟨by rfl, ?_⟩) (by assumption) ?_
    rotate_left
    · (intro w hSw; (try dsimp only at hSw); go_simp; (try (with_reducible rfl)))
    try simp only [Act.put, List.setIfInBounds_toArray, List.set_cons_zero, List.set_cons_succ]
    refine wpAnyH_take (i := 12) (oi := { dst := some 30, op := Go.Op.move (Go.Operand.tmp 29), type := 4, pos := "law.go:18", after := #[{ on := 11, ground := Go.Ground.data }, { on := 10, ground := Go.Ground.chain }], guard := none }) (v := ?_) rfl (by kernel_rfl) (by kernel_rfl) (by kernel_rfl) (fun _ _ _ h => h) (Or.inl ⟨by rfl, ?_⟩) (by assumption) ?_
    rotate_left
    · (intro w hSw; (try dsimp only at hSw); go_simp; (try (with_reducible rfl)))
    try simp only [Act.put, List.setIfInBounds_toArray, List.set_cons_zero, List.set_cons_succ]
    exact hcut _ _ _ _ ⟨rfl, by kernel_rfl, _, _, _, _, _, rfl, lc, hst, en5⟩
    go_simp
    have hA1 := hst.row_lit 41 2 1 #[.int .i64 1, .int .i64 1] rfl (by decide)
    replace en5 := en5.alloc (.cells #[.int .i64 1, .int .i64 1] 41)
    obtain ⟨HA, lA, hA2, haa⟩ := hA1.row_keep
    try rw [World.size_alloc] at haa
    replace haa : Rd HA 2 _ (idl [(1, 1)]) := haa
    try replace hXr := hXr.mono lA
    try replace hXo := hXo.mono lA
    try replace hbb := hbb.mono lA
    try replace hyy := hyy.mono lA
    replace lc := Hp.le_trans lc lA
    replace hst := hA2
    refine hK.out _ _ (kk _ _ _ lc hst) (fun hHeld => ?_)
    clear hK K
    try simp only [Act.put, List.setIfInBounds_toArray, List.set_cons_zero, List.set_cons_succ]
    refine wpAnyH_ready (rs := [4, 8]) (by kernel_rfl) (by simp) ?_
    refine (AllReadyH.cons (o := { dst := some 22, op := Go.Op.call { callee := Go.Callee.value (Go.Operand.func 30), args := #[Go.Operand.tmp 21], argTypes := #[27] }, type := 31, pos := "law.go:18", after := #[{ on := 3, ground := Go.Ground.data }, { on := 2, ground := Go.Ground.chain }, { on := 2, ground := Go.Ground.guard }], guard := some (2, true) }) rfl (fun K hK => ?_) (AllReadyH.cons (o := { dst := some 26, op := Go.Op.buildSlice 35 1 #[(0, Go.Operand.tmp 25)], type := 35, pos := "law.go:18", after := #[{ on := 7, ground := Go.Ground.data }, { on := 2, ground := Go.Ground.guard }], guard := some (2, true) }) rfl (fun K hK => ?_) AllReadyH.nil))
    go_simp
    refine (hOr.out _ _ lc hst).mono ?_
    rintro e wA ⟨cv, X, HA1, rfl, lA, hA1, enA, hXr, hXo, hXe⟩
    obtain ⟨cv1, cv2, cv3, rfl, _⟩ := hXr.form
    try replace haa := haa.mono lA
    try replace hbb := hbb.mono lA
    try replace hyy := hyy.mono lA
    replace lc := Hp.le_trans lc lA
    replace hst := hA1
    replace en5 := en5.trans enA
    refine hK.out _ _ (kk _ _ _ lc hst) (fun hHeld => ?_)
    clear hK K
    try simp only [Act.put, List.setIfInBounds_toArray, List.set_cons_zero, List.set_cons_succ]
    refine wpAnyH_ready (rs := [8]) (by kernel_rfl) (by simp) ?_
    refine AllReadyH.cons (o := { dst := some 26, op := Go.Op.buildSlice 35 1 #[(0, Go.Operand.tmp 25)], type := 35, pos := "law.go:18", after := #[{ on := 7, ground := Go.Ground.data }, { on := 2, ground := Go.Ground.guard }], guard := some (2, true) }) rfl (fun K hK => ?_) AllReadyH.nil
    go_simp
    have hA1 := hst.row_lit 41 2 1 #[.int .i64 1, .int .i64 2] rfl (by decide)
    replace en5 := en5.alloc (.cells #[.int .i64 1, .int .i64 2] 41)
    obtain ⟨HA, lA, hA2, hbb⟩ := hA1.row_keep
    try rw [World.size_alloc] at hbb
    replace hbb : Rd HA 2 _ (idl [(1, 2)]) := hbb
    try replace hXr := hXr.mono lA
    try replace hXo := hXo.mono lA
    try replace haa := haa.mono lA
    try replace hyy := hyy.mono lA
    replace lc := Hp.le_trans lc lA
    replace hst := hA2
    refine hK.out _ _ (kk _ _ _ lc hst) (fun hHeld => ?_)
    clear hK K
    try simp only [Act.put, List.setIfInBounds_toArray, List.set_cons_zero, List.set_cons_succ]
    refine wpAnyH_ready (rs := [9]) (by kernel_rfl) (by simp) ?_
    refine AllReadyH.cons (o := { dst := some 27, op := Go.Op.buildSlice 31 2 #[(0, Go.Operand.tmp 24), (1, Go.Operand.tmp 26)], type := 31, pos := "law.go:18", after := #[{ on := 6, ground := Go.Ground.data }, { on := 8, ground := Go.Ground.data }, { on := 2, ground := Go.Ground.guard }], guard := some (2, true) }) rfl (fun K hK => ?_) AllReadyH.nil
    go_simp
    obtain ⟨HZ, lZ, hZ, enZ, hyy⟩ := lay2 hst haa hbb
    try rw [World.size_alloc] at hyy
    try rw [World.size_alloc] at hyy
    try replace hXr := hXr.mono lZ
    try replace hXo := hXo.mono lZ
    try replace haa := haa.mono lZ
    try replace hbb := hbb.mono lZ
    replace lc := Hp.le_trans lc lZ
    replace hst := hZ
    replace en5 := en5.trans enZ
    refine hK.out _ _ (kk _ _ _ lc hst) (fun hHeld => ?_)
    clear hK K
    try simp only [Act.put, List.setIfInBounds_toArray, List.set_cons_zero, List.set_cons_succ]
    refine wpAnyH_ready (rs := [10]) (by kernel_rfl) (by simp) ?_
    refine AllReadyH.cons (o := { dst := some 28, op := Go.Op.call { callee := Go.Callee.value (Go.Operand.func 12), args := #[Go.Operand.tmp 22, Go.Operand.tmp 27], argTypes := #[31, 31] }, type := 4, pos := "law.go:18", after := #[{ on := 4, ground := Go.Ground.data }, { on := 9, ground := Go.Ground.data }, { on := 4, ground := Go.Ground.chain }, { on := 2, ground := Go.Ground.guard }], guard := some (2, true) }) rfl (fun K hK => ?_) AllReadyH.nil
    go_simp
    refine (same18 hXe ⟨hXr.rw hst, fun x hx => (hXo x hx).rw hst⟩ (hyy.rw hst) (haa.rw hst) (hbb.rw hst)).mono ?_
    rintro e wC ⟨rfl, hbC⟩
    replace hst := hst.below hbC
    replace en5 := en5.trans (bel_env hbC)
    refine hK.out _ _ (kk _ _ _ lc hst) (fun hHeld => ?_)
    clear hK K
    try simp only [Act.put, List.setIfInBounds_toArray, List.set_cons_zero, List.set_cons_succ]
    refine wpAnyH_take (i := 11) (oi := { dst := some 29, op := Go.Op.pick (Go.Operand.tmp 20) (Go.Operand.tmp 28) (Go.Operand.const (Go.Value.bool false)), type := 4, pos := "law.go:18", after := #[{ on := 2, ground := Go.Ground.data }, { on := 10, ground := Go.Ground.data }], guard := none }) (v := ?_) rfl (by kernel_rfl) (by kernel_rfl) (by kernel_rfl) (fun _ _ _ h => h) (Or.inl ⟨by rfl, ?_⟩) (by assumption) ?_
    rotate_left
    · (intro w hSw; (try dsimp only at hSw); go_simp; (try (with_reducible rfl)))
    try simp only [Act.put, List.setIfInBounds_toArray, List.set_cons_zero, List.set_cons_succ]
    refine wpAnyH_take (i := 12) (oi := { dst := some 30, op := Go.Op.move (Go.Operand.tmp 29), type := 4, pos := "law.go:18", after := #[{ on := 11, ground := Go.Ground.data }, { on := 10, ground := Go.Ground.chain }], guard := none }) (v := ?_) rfl (by kernel_rfl) (by kernel_rfl) (by kernel_rfl) (fun _ _ _ h => h) (Or.inl ⟨by rfl, ?_⟩) (by assumption) ?_
    rotate_left
    · (intro w hSw; (try dsimp only at hSw); go_simp; (try (with_reducible rfl)))
    try simp only [Act.put, List.setIfInBounds_toArray, List.set_cons_zero, List.set_cons_succ]
    exact hcut _ _ _ _ ⟨rfl, by kernel_rfl, _, _, _, _, _, rfl, lc, hst, en5⟩
    go_simp
    have hA1 := hst.row_lit 41 2 1 #[.int .i64 1, .int .i64 2] rfl (by decide)
    replace en5 := en5.alloc (.cells #[.int .i64 1, .int .i64 2] 41)
    obtain ⟨HA, lA, hA2, hbb⟩ := hA1.row_keep
    try rw [World.size_alloc] at hbb
    replace hbb : Rd HA 2 _ (idl [(1, 2)]) := hbb
    try replace hXr := hXr.mono lA
    try replace hXo := hXo.mono lA
    try replace haa := haa.mono lA
    try replace hyy := hyy.mono lA
    replace lc := Hp.le_trans lc lA
    replace hst := hA2
    refine hK.out _ _ (kk _ _ _ lc hst) (fun hHeld => ?_)
    clear hK K
    try simp only [Act.put, List.setIfInBounds_toArray, List.set_cons_zero, List.set_cons_succ]
    refine wpAnyH_ready (rs := [4, 9]) (by kernel_rfl) (by simp) ?_
    refine (AllReadyH.cons (o := { dst := some 22, op := Go.Op.call { callee := Go.Callee.value (Go.Operand.func 30), args := #[Go.Operand.tmp 21], argTypes := #[27] }, type := 31, pos := "law.go:18", after := #[{ on := 3, ground := Go.Ground.data }, { on := 2, ground := Go.Ground.chain }, { on := 2, ground := Go.Ground.guard }], guard := some (2, true) }) rfl (fun K hK => ?_) (AllReadyH.cons (o := { dst := some 27, op := Go.Op.buildSlice 31 2 #[(0, Go.Operand.tmp 24), (1, Go.Operand.tmp 26)], type := 31, pos := "law.go:18", after := #[{ on := 6, ground := Go.Ground.data }, { on := 8, ground := Go.Ground.data }, { on := 2, ground := Go.Ground.guard }], guard := some (2, true) }) rfl (fun K hK => ?_) AllReadyH.nil))
    go_simp
    refine (hOr.out _ _ lc hst).mono ?_
    rintro e wA ⟨cv, X, HA1, rfl, lA, hA1, enA, hXr, hXo, hXe⟩
    obtain ⟨cv1, cv2, cv3, rfl, _⟩ := hXr.form
    try replace haa := haa.mono lA
    try replace hbb := hbb.mono lA
    try replace hyy := hyy.mono lA
    replace lc := Hp.le_trans lc lA
    replace hst := hA1
    replace en5 := en5.trans enA
    refine hK.out _ _ (kk _ _ _ lc hst) (fun hHeld => ?_)
    clear hK K
    try simp only [Act.put, List.setIfInBounds_toArray, List.set_cons_zero, List.set_cons_succ]
    refine wpAnyH_ready (rs := [9]) (by kernel_rfl) (by simp) ?_
    refine AllReadyH.cons (o := { dst := some 27, op := Go.Op.buildSlice 31 2 #[(0, Go.Operand.tmp 24), (1, Go.Operand.tmp 26)], type := 31, pos := "law.go:18", after := #[{ on := 6, ground := Go.Ground.data }, { on := 8, ground := Go.Ground.data }, { on := 2, ground := Go.Ground.guard }], guard := some (2, true) }) rfl (fun K hK => ?_) AllReadyH.nil
    go_simp
    obtain ⟨HZ, lZ, hZ, enZ, hyy⟩ := lay2 hst haa hbb
    try rw [World.size_alloc] at hyy
    try rw [World.size_alloc] at hyy
    try replace hXr := hXr.mono lZ
    try replace hXo := hXo.mono lZ
    try replace haa := haa.mono lZ
    try replace hbb := hbb.mono lZ
    replace lc := Hp.le_trans lc lZ
    replace hst := hZ
    replace en5 := en5.trans enZ
    refine hK.out _ _ (kk _ _ _ lc hst) (fun hHeld => ?_)
    clear hK K
    try simp only [Act.put, List.setIfInBounds_toArray, List.set_cons_zero, List.set_cons_succ]
    refine wpAnyH_ready (rs := [10]) (by kernel_rfl) (by simp) ?_
    refine AllReadyH.cons (o := { dst := some 28, op := Go.Op.call { callee := Go.Callee.value (Go.Operand.func 12), args := #[Go.Operand.tmp 22, Go.Operand.tmp 27], argTypes := #[31, 31] }, type := 4, pos := "law.go:18", after := #[{ on := 4, ground := Go.Ground.data }, { on := 9, ground := Go.Ground.data }, { on := 4, ground := Go.Ground.chain }, { on := 2, ground := Go.Ground.guard }], guard := some (2, true) }) rfl (fun K hK => ?_) AllReadyH.nil
    go_simp
    refine (same18 hXe ⟨hXr.rw hst, fun x hx => (hXo x hx).rw hst⟩ (hyy.rw hst) (haa.rw hst) (hbb.rw hst)).mono ?_
    rintro e wC ⟨rfl, hbC⟩
    replace hst := hst.below hbC
    replace en5 := en5.trans (bel_env hbC)
    refine hK.out _ _ (kk _ _ _ lc hst) (fun hHeld => ?_)
    clear hK K
    try simp only [Act.put, List.setIfInBounds_toArray, List.set_cons_zero, List.set_cons_succ]
    refine wpAnyH_take (i := 11) (oi := { dst := some 29, op := Go.Op.pick (Go.Operand.tmp 20) (Go.Operand.tmp 28) (Go.Operand.const (Go.Value.bool false)), type := 4, pos := "law.go:18", after := #[{ on := 2, ground := Go.Ground.data }, { on := 10, ground := Go.Ground.data }], guard := none }) (v := ?_) rfl (by kernel_rfl) (by kernel_rfl) (by kernel_rfl) (fun _ _ _ h => h) (Or.inl ⟨by rfl, ?_⟩) (by assumption) ?_
    rotate_left
    · (intro w hSw; (try dsimp only at hSw); go_simp; (try (with_reducible rfl)))
    try simp only [Act.put, List.setIfInBounds_toArray, List.set_cons_zero, List.set_cons_succ]
    refine wpAnyH_take (i := 12) (oi := { dst := some 30, op := Go.Op.move (Go.Operand.tmp 29), type := 4, pos := "law.go:18", after := #[{ on := 11, ground := Go.Ground.data }, { on := 10, ground := Go.Ground.chain }], guard := none }) (v := ?_) rfl (by kernel_rfl) (by kernel_rfl) (by kernel_rfl) (fun _ _ _ h => h) (Or.inl ⟨by rfl, ?_⟩) (by assumption) ?_
    rotate_left
    · (intro w hSw; (try dsimp only at hSw); go_simp; (try (with_reducible rfl)))
    try simp only [Act.put, List.setIfInBounds_toArray, List.set_cons_zero, List.set_cons_succ]
    exact hcut _ _ _ _ ⟨rfl, by kernel_rfl, _, _, _, _, _, rfl, lc, hst, en5⟩
    go_simp
    obtain ⟨HZ, lZ, hZ, enZ, hyy⟩ := lay2 hst haa hbb
    try rw [World.size_alloc] at hyy
    try rw [World.size_alloc] at hyy
    try replace hXr := hXr.mono lZ
    try replace hXo := hXo.mono lZ
    try replace haa := haa.mono lZ
    try replace hbb := hbb.mono lZ
    replace lc := Hp.le_trans lc lZ
    replace hst := hZ
    replace en5 := en5.trans enZ
    refine hK.out _ _ (kk _ _ _ lc hst) (fun hHeld => ?_)
    clear hK K
    try simp only [Act.put, List.setIfInBounds_toArray, List.set_cons_zero, List.set_cons_succ]
    refine wpAnyH_ready (rs := [4]) (by kernel_rfl) (by simp) ?_
    refine AllReadyH.cons (o := { dst := some 22, op := Go.Op.call { callee := Go.Callee.value (Go.Operand.func 30), args := #[Go.Operand.tmp 21], argTypes := #[27] }, type := 31, pos := "law.go:18", after := #[{ on := 3, ground := Go.Ground.data }, { on := 2, ground := Go.Ground.chain }, { on := 2, ground := Go.Ground.guard }], guard := some (2, true) }) rfl (fun K hK => ?_) AllReadyH.nil
    go_simp
    refine (hOr.out _ _ lc hst).mono ?_
    rintro e wA ⟨cv, X, HA1, rfl, lA, hA1, enA, hXr, hXo, hXe⟩
    obtain ⟨cv1, cv2, cv3, rfl, _⟩ := hXr.form
    try replace haa := haa.mono lA
    try replace hbb := hbb.mono lA
    try replace hyy := hyy.mono lA
    replace lc := Hp.le_trans lc lA
    replace hst := hA1
    replace en5 := en5.trans enA
    refine hK.out _ _ (kk _ _ _ lc hst) (fun hHeld => ?_)
    clear hK K
    try simp only [Act.put, List.setIfInBounds_toArray, List.set_cons_zero, List.set_cons_succ]
    refine wpAnyH_ready (rs := [10]) (by kernel_rfl) (by simp) ?_
    refine AllReadyH.cons (o := { dst := some 28, op := Go.Op.call { callee := Go.Callee.value (Go.Operand.func 12), args := #[Go.Operand.tmp 22, Go.Operand.tmp 27], argTypes := #[31, 31] }, type := 4, pos := "law.go:18", after := #[{ on := 4, ground := Go.Ground.data }, { on := 9, ground := Go.Ground.data }, { on := 4, ground := Go.Ground.chain }, { on := 2, ground := Go.Ground.guard }], guard := some (2, true) }) rfl (fun K hK => ?_) AllReadyH.nil
    go_simp
    refine (same18 hXe ⟨hXr.rw hst, fun x hx => (hXo x hx).rw hst⟩ (hyy.rw hst) (haa.rw hst) (hbb.rw hst)).mono ?_
    rintro e wC ⟨rfl, hbC⟩
    replace hst := hst.below hbC
    replace en5 := en5.trans (bel_env hbC)
    refine hK.out _ _ (kk _ _ _ lc hst) (fun hHeld => ?_)
    clear hK K
    try simp only [Act.put, List.setIfInBounds_toArray, List.set_cons_zero, List.set_cons_succ]
    refine wpAnyH_take (i := 11) (oi := { dst := some 29, op := Go.Op.pick (Go.Operand.tmp 20) (Go.Operand.tmp 28) (Go.Operand.const (Go.Value.bool false)), type := 4, pos := "law.go:18", after := #[{ on := 2, ground := Go.Ground.data }, { on := 10, ground := Go.Ground.data }], guard := none }) (v := ?_) rfl (by kernel_rfl) (by kernel_rfl) (by kernel_rfl) (fun _ _ _ h => h) (Or.inl ⟨by rfl, ?_⟩) (by assumption) ?_
    rotate_left
    · (intro w hSw; (try dsimp only at hSw); go_simp; (try (with_reducible rfl)))
    try simp only [Act.put, List.setIfInBounds_toArray, List.set_cons_zero, List.set_cons_succ]
    refine wpAnyH_take (i := 12) (oi := { dst := some 30, op := Go.Op.move (Go.Operand.tmp 29), type := 4, pos := "law.go:18", after := #[{ on := 11, ground := Go.Ground.data }, { on := 10, ground := Go.Ground.chain }], guard := none }) (v := ?_) rfl (by kernel_rfl) (by kernel_rfl) (by kernel_rfl) (fun _ _ _ h => h) (Or.inl ⟨by rfl, ?_⟩) (by assumption) ?_
    rotate_left
    · (intro w hSw; (try dsimp only at hSw); go_simp; (try (with_reducible rfl)))
    try simp only [Act.put, List.setIfInBounds_toArray, List.set_cons_zero, List.set_cons_succ]
    exact hcut _ _ _ _ ⟨rfl, by kernel_rfl, _, _, _, _, _, rfl, lc, hst, en5⟩
    go_simp
    have hA1 := hst.row_lit 41 2 1 #[.int .i64 1, .int .i64 2] rfl (by decide)
    replace en5 := en5.alloc (.cells #[.int .i64 1, .int .i64 2] 41)
    obtain ⟨HA, lA, hA2, hbb⟩ := hA1.row_keep
    try rw [World.size_alloc] at hbb
    replace hbb : Rd HA 2 _ (idl [(1, 2)]) := hbb
    try replace hXr := hXr.mono lA
    try replace hXo := hXo.mono lA
    try replace haa := haa.mono lA
    try replace hyy := hyy.mono lA
    replace lc := Hp.le_trans lc lA
    replace hst := hA2
    refine hK.out _ _ (kk _ _ _ lc hst) (fun hHeld => ?_)
    clear hK K
    try simp only [Act.put, List.setIfInBounds_toArray, List.set_cons_zero, List.set_cons_succ]
    refine wpAnyH_ready (rs := [4, 6]) (by kernel_rfl) (by simp) ?_
    refine (AllReadyH.cons (o := { dst := some 22, op := Go.Op.call { callee := Go.Callee.value (Go.Operand.func 30), args := #[Go.Operand.tmp 21], argTypes := #[27] }, type := 31, pos := "law.go:18", after := #[{ on := 3, ground := Go.Ground.data }, { on := 2, ground := Go.Ground.chain }, { on := 2, ground := Go.Ground.guard }], guard := some (2, true) }) rfl (fun K hK => ?_) (AllReadyH.cons (o := { dst := some 24, op := Go.Op.buildSlice 35 1 #[(0, Go.Operand.tmp 23)], type := 35, pos := "law.go:18", after := #[{ on := 5, ground := Go.Ground.data }, { on := 2, ground := Go.Ground.guard }], guard := some (2, true) }) rfl (fun K hK => ?_) AllReadyH.nil))
    go_simp
    refine (hOr.out _ _ lc hst).mono ?_
    rintro e wA ⟨cv, X, HA1, rfl, lA, hA1, enA, hXr, hXo, hXe⟩
    obtain ⟨cv1, cv2, cv3, rfl, _⟩ := hXr.form
    try replace haa := haa.mono lA
    try replace hbb := hbb.mono lA
    try replace hyy := hyy.mono lA
    replace lc := Hp.le_trans lc lA
    replace hst := hA1
    replace en5 := en5.trans enA
    refine hK.out _ _ (kk _ _ _ lc hst) (fun hHeld => ?_)
    clear hK K
    try simp only [Act.put, List.setIfInBounds_toArray, List.set_cons_zero, List.set_cons_succ]
    refine wpAnyH_ready (rs := [6]) (by kernel_rfl) (by simp) ?_
    refine AllReadyH.cons (o := { dst := some 24, op := Go.Op.buildSlice 35 1 #[(0, Go.Operand.tmp 23)], type := 35, pos := "law.go:18", after := #[{ on := 5, ground := Go.Ground.data }, { on := 2, ground := Go.Ground.guard }], guard := some (2, true) }) rfl (fun K hK => ?_) AllReadyH.nil
    go_simp
    have hA1 := hst.row_lit 41 2 1 #[.int .i64 1, .int .i64 1] rfl (by decide)
    replace en5 := en5.alloc (.cells #[.int .i64 1, .int .i64 1] 41)
    obtain ⟨HA, lA, hA2, haa⟩ := hA1.row_keep
    try rw [World.size_alloc] at haa
    replace haa : Rd HA 2 _ (idl [(1, 1)]) := haa
    try replace hXr := hXr.mono lA
    try replace hXo := hXo.mono lA
    try replace hbb := hbb.mono lA
    try replace hyy := hyy.mono lA
    replace lc := Hp.le_trans lc lA
    replace hst := hA2
    refine hK.out _ _ (kk _ _ _ lc hst) (fun hHeld => ?_)
    clear hK K
    try simp only [Act.put, List.setIfInBounds_toArray, List.set_cons_zero, List.set_cons_succ]
    refine wpAnyH_ready (rs := [9]) (by kernel_rfl) (by simp) ?_
    refine AllReadyH.cons (o := { dst := some 27, op := Go.Op.buildSlice 31 2 #[(0, Go.Operand.tmp 24), (1, Go.Operand.tmp 26)], type := 31, pos := "law.go:18", after := #[{ on := 6, ground := Go.Ground.data }, { on := 8, ground := Go.Ground.data }, { on := 2, ground := Go.Ground.guard }], guard := some (2, true) }) rfl (fun K hK => ?_) AllReadyH.nil
    go_simp
    obtain ⟨HZ, lZ, hZ, enZ, hyy⟩ := lay2 hst haa hbb
    try rw [World.size_alloc] at hyy
    try rw [World.size_alloc] at hyy
    try replace hXr := hXr.mono lZ
    try replace hXo := hXo.mono lZ
    try replace haa := haa.mono lZ
    try replace hbb := hbb.mono lZ
    replace lc := Hp.le_trans lc lZ
    replace hst := hZ
    replace en5 := en5.trans enZ
    refine hK.out _ _ (kk _ _ _ lc hst) (fun hHeld => ?_)
    clear hK K
    try simp only [Act.put, List.setIfInBounds_toArray, List.set_cons_zero, List.set_cons_succ]
    refine wpAnyH_ready (rs := [10]) (by kernel_rfl) (by simp) ?_
    refine AllReadyH.cons (o := { dst := some 28, op := Go.Op.call { callee := Go.Callee.value (Go.Operand.func 12), args := #[Go.Operand.tmp 22, Go.Operand.tmp 27], argTypes := #[31, 31] }, type := 4, pos := "law.go:18", after := #[{ on := 4, ground := Go.Ground.data }, { on := 9, ground := Go.Ground.data }, { on := 4, ground := Go.Ground.chain }, { on := 2, ground := Go.Ground.guard }], guard := some (2, true) }) rfl (fun K hK => ?_) AllReadyH.nil
    go_simp
    refine (same18 hXe ⟨hXr.rw hst, fun x hx => (hXo x hx).rw hst⟩ (hyy.rw hst) (haa.rw hst) (hbb.rw hst)).mono ?_
    rintro e wC ⟨rfl, hbC⟩
    replace hst := hst.below hbC
    replace en5 := en5.trans (bel_env hbC)
    refine hK.out _ _ (kk _ _ _ lc hst) (fun hHeld => ?_)
    clear hK K
    try simp only [Act.put, List.setIfInBounds_toArray, List.set_cons_zero, List.set_cons_succ]
    refine wpAnyH_take (i := 11) (oi := { dst := some 29, op := Go.Op.pick (Go.Operand.tmp 20) (Go.Operand.tmp 28) (Go.Operand.const (Go.Value.bool false)), type := 4, pos := "law.go:18", after := #[{ on := 2, ground := Go.Ground.data }, { on := 10, ground := Go.Ground.data }], guard := none }) (v := ?_) rfl (by kernel_rfl) (by kernel_rfl) (by kernel_rfl) (fun _ _ _ h => h) (Or.inl ⟨by rfl, ?_⟩) (by assumption) ?_
    rotate_left
    · (intro w hSw; (try dsimp only at hSw); go_simp; (try (with_reducible rfl)))
    try simp only [Act.put, List.setIfInBounds_toArray, List.set_cons_zero, List.set_cons_succ]
    refine wpAnyH_take (i := 12) (oi := { dst := some 30, op := Go.Op.move (Go.Operand.tmp 29), type := 4, pos := "law.go:18", after := #[{ on := 11, ground := Go.Ground.data }, { on := 10, ground := Go.Ground.chain }], guard := none }) (v := ?_) rfl (by kernel_rfl) (by kernel_rfl) (by kernel_rfl) (fun _ _ _ h => h) (Or.inl ⟨by rfl, ?_⟩) (by assumption) ?_
    rotate_left
    · (intro w hSw; (try dsimp only at hSw); go_simp; (try (with_reducible rfl)))
    try simp only [Act.put, List.setIfInBounds_toArray, List.set_cons_zero, List.set_cons_succ]
    exact hcut _ _ _ _ ⟨rfl, by kernel_rfl, _, _, _, _, _, rfl, lc, hst, en5⟩
    go_simp
    have hA1 := hst.row_lit 41 2 1 #[.int .i64 1, .int .i64 1] rfl (by decide)
    replace en5 := en5.alloc (.cells #[.int .i64 1, .int .i64 1] 41)
    obtain ⟨HA, lA, hA2, haa⟩ := hA1.row_keep
    try rw [World.size_alloc] at haa
    replace haa : Rd HA 2 _ (idl [(1, 1)]) := haa
    try replace hXr := hXr.mono lA
    try replace hXo := hXo.mono lA
    try replace hbb := hbb.mono lA
    try replace hyy := hyy.mono lA
    replace lc := Hp.le_trans lc lA
    replace hst := hA2
    refine hK.out _ _ (kk _ _ _ lc hst) (fun hHeld => ?_)
    clear hK K
    try simp only [Act.put, List.setIfInBounds_toArray, List.set_cons_zero, List.set_cons_succ]
    refine wpAnyH_ready (rs := [4, 9]) (by kernel_rfl) (by simp) ?_
    refine (AllReadyH.cons (o := { dst := some 22, op := Go.Op.call { callee := Go.Callee.value (Go.Operand.func 30), args := #[Go.Operand.tmp 21], argTypes := #[27] }, type := 31, pos := "law.go:18", after := #[{ on := 3, ground := Go.Ground.data }, { on := 2, ground := Go.Ground.chain }, { on := 2, ground := Go.Ground.guard }], guard := some (2, true) }) rfl (fun K hK => ?_) (AllReadyH.cons (o := { dst := some 27, op := Go.Op.buildSlice 31 2 #[(0, Go.Operand.tmp 24), (1, Go.Operand.tmp 26)], type := 31, pos := "law.go:18", after := #[{ on := 6, ground := Go.Ground.data }, { on := 8, ground := Go.Ground.data }, { on := 2, ground := Go.Ground.guard }], guard := some (2, true) }) rfl (fun K hK => ?_) AllReadyH.nil))
    go_simp
    refine (hOr.out _ _ lc hst).mono ?_
    rintro e wA ⟨cv, X, HA1, rfl, lA, hA1, enA, hXr, hXo, hXe⟩
    obtain ⟨cv1, cv2, cv3, rfl, _⟩ := hXr.form
    try replace haa := haa.mono lA
    try replace hbb := hbb.mono lA
    try replace hyy := hyy.mono lA
    replace lc := Hp.le_trans lc lA
    replace hst := hA1
    replace en5 := en5.trans enA
    refine hK.out _ _ (kk _ _ _ lc hst) (fun hHeld => ?_)
    clear hK K
    try simp only [Act.put, List.setIfInBounds_toArray, List.set_cons_zero, List.set_cons_succ]
    refine wpAnyH_ready (rs := [9]) (by kernel_rfl) (by simp) ?_
    refine AllReadyH.cons (o := { dst := some 27, op := Go.Op.buildSlice 31 2 #[(0, Go.Operand.tmp 24), (1, Go.Operand.tmp 26)], type := 31, pos := "law.go:18", after := #[{ on := 6, ground := Go.Ground.data }, { on := 8, ground := Go.Ground.data }, { on := 2, ground := Go.Ground.guard }], guard := some (2, true) }) rfl (fun K hK => ?_) AllReadyH.nil
    go_simp
    obtain ⟨HZ, lZ, hZ, enZ, hyy⟩ := lay2 hst haa hbb
    try rw [World.size_alloc] at hyy
    try rw [World.size_alloc] at hyy
    try replace hXr := hXr.mono lZ
    try replace hXo := hXo.mono lZ
    try replace haa := haa.mono lZ
    try replace hbb := hbb.mono lZ
    replace lc := Hp.le_trans lc lZ
    replace hst := hZ
    replace en5 := en5.trans enZ
    refine hK.out _ _ (kk _ _ _ lc hst) (fun hHeld => ?_)
    clear hK K
    try simp only [Act.put, List.setIfInBounds_toArray, List.set_cons_zero, List.set_cons_succ]
    refine wpAnyH_ready (rs := [10]) (by kernel_rfl) (by simp) ?_
    refine AllReadyH.cons (o := { dst := some 28, op := Go.Op.call { callee := Go.Callee.value (Go.Operand.func 12), args := #[Go.Operand.tmp 22, Go.Operand.tmp 27], argTypes := #[31, 31] }, type := 4, pos := "law.go:18", after := #[{ on := 4, ground := Go.Ground.data }, { on := 9, ground := Go.Ground.data }, { on := 4, ground := Go.Ground.chain }, { on := 2, ground := Go.Ground.guard }], guard := some (2, true) }) rfl (fun K hK => ?_) AllReadyH.nil
    go_simp
    refine (same18 hXe ⟨hXr.rw hst, fun x hx => (hXo x hx).rw hst⟩ (hyy.rw hst) (haa.rw hst) (hbb.rw hst)).mono ?_
    rintro e wC ⟨rfl, hbC⟩
    replace hst := hst.below hbC
    replace en5 := en5.trans (bel_env hbC)
    refine hK.out _ _ (kk _ _ _ lc hst) (fun hHeld => ?_)
    clear hK K
    try simp only [Act.put, List.setIfInBounds_toArray, List.set_cons_zero, List.set_cons_succ]
    refine wpAnyH_take (i := 11) (oi := { dst := some 29, op := Go.Op.pick (Go.Operand.tmp 20) (Go.Operand.tmp 28) (Go.Operand.const (Go.Value.bool false)), type := 4, pos := "law.go:18", after := #[{ on := 2, ground := Go.Ground.data }, { on := 10, ground := Go.Ground.data }], guard := none }) (v := ?_) rfl (by kernel_rfl) (by kernel_rfl) (by kernel_rfl) (fun _ _ _ h => h) (Or.inl ⟨by rfl, ?_⟩) (by assumption) ?_
    rotate_left
    · (intro w hSw; (try dsimp only at hSw); go_simp; (try (with_reducible rfl)))
    try simp only [Act.put, List.setIfInBounds_toArray, List.set_cons_zero, List.set_cons_succ]
    refine wpAnyH_take (i := 12) (oi := { dst := some 30, op := Go.Op.move (Go.Operand.tmp 29), type := 4, pos := "law.go:18", after := #[{ on := 11, ground := Go.Ground.data }, { on := 10, ground := Go.Ground.chain }], guard := none }) (v := ?_) rfl (by kernel_rfl) (by kernel_rfl) (by kernel_rfl) (fun _ _ _ h => h) (Or.inl ⟨by rfl, ?_⟩) (by assumption) ?_
    rotate_left
    · (intro w hSw; (try dsimp only at hSw); go_simp; (try (with_reducible rfl)))
    try simp only [Act.put, List.setIfInBounds_toArray, List.set_cons_zero, List.set_cons_succ]
    exact hcut _ _ _ _ ⟨rfl, by kernel_rfl, _, _, _, _, _, rfl, lc, hst, en5⟩
    go_simp
    obtain ⟨HZ, lZ, hZ, enZ, hyy⟩ := lay2 hst haa hbb
    try rw [World.size_alloc] at hyy
    try rw [World.size_alloc] at hyy
    try replace hXr := hXr.mono lZ
    try replace hXo := hXo.mono lZ
    try replace haa := haa.mono lZ
    try replace hbb := hbb.mono lZ
    replace lc := Hp.le_trans lc lZ
    replace hst := hZ
    replace en5 := en5.trans enZ
    refine hK.out _ _ (kk _ _ _ lc hst) (fun hHeld => ?_)
    clear hK K
    try simp only [Act.put, List.setIfInBounds_toArray, List.set_cons_zero, List.set_cons_succ]
    refine wpAnyH_ready (rs := [4]) (by kernel_rfl) (by simp) ?_
    refine AllReadyH.cons (o := { dst := some 22, op := Go.Op.call { callee := Go.Callee.value (Go.Operand.func 30), args := #[Go.Operand.tmp 21], argTypes := #[27] }, type := 31, pos := "law.go:18", after := #[{ on := 3, ground := Go.Ground.data }, { on := 2, ground := Go.Ground.chain }, { on := 2, ground := Go.Ground.guard }], guard := some (2, true) }) rfl (fun K hK => ?_) AllReadyH.nil
    go_simp
    refine (hOr.out _ _ lc hst).mono ?_
    rintro e wA ⟨cv, X, HA1, rfl, lA, hA1, enA, hXr, hXo, hXe⟩
    obtain ⟨cv1, cv2, cv3, rfl, _⟩ := hXr.form
    try replace haa := haa.mono lA
    try replace hbb := hbb.mono lA
    try replace hyy := hyy.mono lA
    replace lc := Hp.le_trans lc lA
    replace hst := hA1
    replace en5 := en5.trans enA
    refine hK.out _ _ (kk _ _ _ lc hst) (fun hHeld => ?_)
    clear hK K
    try simp only [Act.put, List.setIfInBounds_toArray, List.set_cons_zero, List.set_cons_succ]
    refine wpAnyH_ready (rs := [10]) (by kernel_rfl) (by simp) ?_
    refine AllReadyH.cons (o := { dst := some 28, op := Go.Op.call { callee := Go.Callee.value (Go.Operand.func 12), args := #[Go.Operand.tmp 22, Go.Operand.tmp 27], argTypes := #[31, 31] }, type := 4, pos := "law.go:18", after := #[{ on := 4, ground := Go.Ground.data }, { on := 9, ground := Go.Ground.data }, { on := 4, ground := Go.Ground.chain }, { on := 2, ground := Go.Ground.guard }], guard := some (2, true) }) rfl (fun K hK => ?_) AllReadyH.nil
    go_simp
    refine (same18 hXe ⟨hXr.rw hst, fun x hx => (hXo x hx).rw hst⟩ (hyy.rw hst) (haa.rw hst) (hbb.rw hst)).mono ?_
    rintro e wC ⟨rfl, hbC⟩
    replace hst := hst.below hbC
    replace en5 := en5.trans (bel_env hbC)
    refine hK.out _ _ (kk _ _ _ lc hst) (fun hHeld => ?_)
    clear hK K
    try simp only [Act.put, List.setIfInBounds_toArray, List.set_cons_zero, List.set_cons_succ]
    refine wpAnyH_take (i := 11) (oi := { dst := some 29, op := Go.Op.pick (Go.Operand.tmp 20) (Go.Operand.tmp 28) (Go.Operand.const (Go.Value.bool false)), type := 4, pos := "law.go:18", after := #[{ on := 2, ground := Go.Ground.data }, { on := 10, ground := Go.Ground.data }], guard := none }) (v := ?_) rfl (by kernel_rfl) (by kernel_rfl) (by kernel_rfl) (fun _ _ _ h => h) (Or.inl ⟨by rfl, ?_⟩) (by assumption) ?_
    rotate_left
    · (intro w hSw; (try dsimp only at hSw); go_simp; (try (with_reducible rfl)))
    try simp only [Act.put, List.setIfInBounds_toArray, List.set_cons_zero, List.set_cons_succ]
    refine wpAnyH_take (i := 12) (oi := { dst := some 30, op := Go.Op.move (Go.Operand.tmp 29), type := 4, pos := "law.go:18", after := #[{ on := 11, ground := Go.Ground.data }, { on := 10, ground := Go.Ground.chain }], guard := none }) (v := ?_) rfl (by kernel_rfl) (by kernel_rfl) (by kernel_rfl) (fun _ _ _ h => h) (Or.inl ⟨by rfl, ?_⟩) (by assumption) ?_
    rotate_left
    · (intro w hSw; (try dsimp only at hSw); go_simp; (try (with_reducible rfl)))
    try simp only [Act.put, List.setIfInBounds_toArray, List.set_cons_zero, List.set_cons_succ]
    exact hcut _ _ _ _ ⟨rfl, by kernel_rfl, _, _, _, _, _, rfl, lc, hst, en5⟩
  clear hst en5 lc hHeld
  rintro _ _ _ wR ⟨rfl, rfl, v22, v24, v26, v27, HR, rfl, lc, hst, en5⟩
  have hHeld := kk _ _ _ lc hst
  refine region_cut (fun f l a w' => f = 17 ∧ l = #[true, true, true, true, true, true, true, true, true, true, true, true, true, true, true, true, true, true, true, true, true, false, false, false, false, false, false, false, false, false, false, false, false, false, false, false, false, false] ∧ ∃ (v33 v35 : Value) (H' : Hp), a = { tmps := #[.bool false, .pointer (some ⟨g0, 0, none⟩), .pointer (some ⟨g0 + 1, 0, none⟩), grP p, .int .i64 0, .agg #[.int .i64 1, .int .i64 1], .agg #[.int .i64 1, .int .i64 2], .tuple #[grP p, .int .i64 0], .agg #[.int .i64 1, .int .i64 1], .agg #[.int .i64 1, .int .i64 1, .int .i64 9, .slice none 0 0, .slice none 0 0], .agg #[.int .i64 1, .int .i64 2], .agg #[.int .i64 1, .int .i64 1], .slice (some ⟨g0 + 1 + 1, 0, none⟩) 1 1, .agg #[.int .i64 1, .int .i64 2, .int .i64 1, .slice (some ⟨g0 + 1 + 1, 0, none⟩) 1 1, .slice none 0 0], .slice (some ⟨g0 + 1 + 1 + 1, 0, none⟩) 2 2, .tuple #[grP p, .int .i64 0], grP p, .int .i64 0, .int .i64 0, .bool true, .bool true, grP p, v22, .agg #[.int .i64 1, .int .i64 1], v24, .agg #[.int .i64 1, .int .i64 2], v26, v27, .bool true, .bool true, .bool true, grP p, .agg #[.int .i64 1, .int .i64 2], v33, .agg #[.int .i64 1, .int .i64 1], v35, .bool true, .bool true, .bool true, undef, undef, undef, undef, undef, undef, undef, undef, undef, undef, undef, undef, undef, undef, undef, undef], defers := [] } ∧ Hp.le H H' ∧ St H' [GrA p L] w' ∧ Env w4 w') (fun hcut => ?_) ?_
  ·
    refine wpAnyH_take (i := 13) (oi := { dst := some 31, op := Go.Op.move (Go.Operand.tmp 3), type := 27, pos := "law.go:18", after := #[{ on := 12, ground := Go.Ground.guard }], guard := some (12, true) }) (v := ?_) rfl (by kernel_rfl) (by kernel_rfl) (by kernel_rfl) (fun _ _ _ h => h) (Or.inl ⟨by rfl, ?_⟩) (by assumption) ?_
    rotate_left
    · (intro w hSw; (try dsimp only at hSw); go_simp; (try (with_reducible rfl)))
    try simp only [Act.put, List.setIfInBounds_toArray, List.set_cons_zero, List.set_cons_succ]
    refine wpAnyH_take (i := 14) (oi := { dst := some 32, op := Go.Op.load 41 (Go.Operand.tmp 2), type := 41, pos := "law.go:18", after := #[{ on := 12, ground := Go.Ground.guard }], guard := some (12, true) }) (v := ?_) rfl (by kernel_rfl) (by kernel_rfl) (by kernel_rfl) (fun _ _ _ h => h) (Or.inl ⟨by rfl, ?_⟩) (by assumption) ?_
    rotate_left
    · (intro w hSw; (try dsimp only at hSw); go_simp; (try (with_reducible rfl)))
    try simp only [Act.put, List.setIfInBounds_toArray, List.set_cons_zero, List.set_cons_succ]
    refine wpAnyH_take (i := 16) (oi := { dst := some 34, op := Go.Op.load 41 (Go.Operand.tmp 1), type := 41, pos := "law.go:18", after := #[{ on := 12, ground := Go.Ground.guard }], guard := some (12, true) }) (v := ?_) rfl (by kernel_rfl) (by kernel_rfl) (by kernel_rfl) (fun _ _ _ h => h) (Or.inl ⟨by rfl, ?_⟩) (by assumption) ?_
    rotate_left
    · (intro w hSw; (try dsimp only at hSw); go_simp; (try (with_reducible rfl)))
    try simp only [Act.put, List.setIfInBounds_toArray, List.set_cons_zero, List.set_cons_succ]
    refine wpAnyH_ready (rs := [15, 17]) (by kernel_rfl) (by simp) ?_
    refine (AllReadyH.cons (o := { dst := some 33, op := Go.Op.buildSlice 35 1 #[(0, Go.Operand.tmp 32)], type := 35, pos := "law.go:18", after := #[{ on := 14, ground := Go.Ground.data }, { on := 12, ground := Go.Ground.guard }], guard := some (12, true) }) rfl (fun K hK => ?_) (AllReadyH.cons (o := { dst := some 35, op := Go.Op.buildSlice 35 1 #[(0, Go.Operand.tmp 34)], type := 35, pos := "law.go:18", after := #[{ on := 16, ground := Go.Ground.data }, { on := 12, ground := Go.Ground.guard }], guard := some (12, true) }) rfl (fun K hK => ?_) AllReadyH.nil))
    go_simp
    have hA1 := hst.row_lit 41 2 1 #[.int .i64 1, .int .i64 2] rfl (by decide)
    replace en5 := en5.alloc (.cells #[.int .i64 1, .int .i64 2] 41)
    obtain ⟨HA, lA, hA2, hbb⟩ := hA1.row_keep
    try rw [World.size_alloc] at hbb
    replace hbb : Rd HA 2 _ (idl [(1, 2)]) := hbb
    try replace haa := haa.mono lA
    replace lc := Hp.le_trans lc lA
    replace hst := hA2
    refine hK.out _ _ (kk _ _ _ lc hst) (fun hHeld => ?_)
    clear hK K
    try simp only [Act.put, List.setIfInBounds_toArray, List.set_cons_zero, List.set_cons_succ]
    refine wpAnyH_ready (rs := [17]) (by kernel_rfl) (by simp) ?_
    refine AllReadyH.cons (o := { dst := some 35, op := Go.Op.buildSlice 35 1 #[(0, Go.Operand.tmp 34)], type := 35, pos := "law.go:18", after := #[{ on := 16, ground := Go.Ground.data }, { on := 12, ground := Go.Ground.guard }], guard := some (12, true) }) rfl (fun K hK => ?_) AllReadyH.nil
    go_simp
    have hA1 := hst.row_lit 41 2 1 #[.int .i64 1, .int .i64 1] rfl (by decide)
    replace en5 := en5.alloc (.cells #[.int .i64 1, .int .i64 1] 41)
    obtain ⟨HA, lA, hA2, haa⟩ := hA1.row_keep
    try rw [World.size_alloc] at haa
    replace haa : Rd HA 2 _ (idl [(1, 1)]) := haa
    try replace hbb := hbb.mono lA
    replace lc := Hp.le_trans lc lA
    replace hst := hA2
    refine hK.out _ _ (kk _ _ _ lc hst) (fun hHeld => ?_)
    clear hK K
    try simp only [Act.put, List.setIfInBounds_toArray, List.set_cons_zero, List.set_cons_succ]
    refine wpAnyH_ready (rs := [18]) (by kernel_rfl) (by simp) ?_
    refine AllReadyH.cons (o := { dst := some 36, op := Go.Op.call { callee := Go.Callee.value (Go.Operand.func 28), args := #[Go.Operand.tmp 31, Go.Operand.tmp 33, Go.Operand.tmp 35], argTypes := #[27, 35, 35] }, type := 4, pos := "law.go:18", after := #[{ on := 13, ground := Go.Ground.data }, { on := 15, ground := Go.Ground.data }, { on := 17, ground := Go.Ground.data }, { on := 12, ground := Go.Ground.chain }, { on := 12, ground := Go.Ground.guard }], guard := some (12, true) }) rfl (fun K hK => ?_) AllReadyH.nil
    go_simp
    refine (hLe.out _ _ _ _ lc hst hbb haa).mono ?_
    rintro e wD ⟨HD, rfl, lD, hD, enD⟩
    replace lc := Hp.le_trans lc lD
    replace hst := hD
    replace en5 := en5.trans enD
    refine hK.out _ _ (kk _ _ _ lc hst) (fun hHeld => ?_)
    clear hK K
    try simp only [Act.put, List.setIfInBounds_toArray, List.set_cons_zero, List.set_cons_succ]
    refine wpAnyH_take (i := 19) (oi := { dst := some 37, op := Go.Op.pick (Go.Operand.tmp 30) (Go.Operand.tmp 36) (Go.Operand.const (Go.Value.bool false)), type := 4, pos := "law.go:18", after := #[{ on := 12, ground := Go.Ground.data }, { on := 18, ground := Go.Ground.data }], guard := none }) (v := ?_) rfl (by kernel_rfl) (by kernel_rfl) (by kernel_rfl) (fun _ _ _ h => h) (Or.inl ⟨by rfl, ?_⟩) (by assumption) ?_
    rotate_left
    · (intro w hSw; (try dsimp only at hSw); go_simp; (try (with_reducible rfl)))
    try simp only [Act.put, List.setIfInBounds_toArray, List.set_cons_zero, List.set_cons_succ]
    refine wpAnyH_take (i := 20) (oi := { dst := some 38, op := Go.Op.move (Go.Operand.tmp 37), type := 4, pos := "law.go:18", after := #[{ on := 19, ground := Go.Ground.data }, { on := 18, ground := Go.Ground.chain }], guard := none }) (v := ?_) rfl (by kernel_rfl) (by kernel_rfl) (by kernel_rfl) (fun _ _ _ h => h) (Or.inl ⟨by rfl, ?_⟩) (by assumption) ?_
    rotate_left
    · (intro w hSw; (try dsimp only at hSw); go_simp; (try (with_reducible rfl)))
    try simp only [Act.put, List.setIfInBounds_toArray, List.set_cons_zero, List.set_cons_succ]
    exact hcut _ _ _ _ ⟨rfl, by kernel_rfl, _, _, _, rfl, lc, hst, en5⟩
    go_simp
    have hA1 := hst.row_lit 41 2 1 #[.int .i64 1, .int .i64 1] rfl (by decide)
    replace en5 := en5.alloc (.cells #[.int .i64 1, .int .i64 1] 41)
    obtain ⟨HA, lA, hA2, haa⟩ := hA1.row_keep
    try rw [World.size_alloc] at haa
    replace haa : Rd HA 2 _ (idl [(1, 1)]) := haa
    try replace hbb := hbb.mono lA
    replace lc := Hp.le_trans lc lA
    replace hst := hA2
    refine hK.out _ _ (kk _ _ _ lc hst) (fun hHeld => ?_)
    clear hK K
    try simp only [Act.put, List.setIfInBounds_toArray, List.set_cons_zero, List.set_cons_succ]
    refine wpAnyH_ready (rs := [15]) (by kernel_rfl) (by simp) ?_
    refine AllReadyH.cons (o := { dst := some 33, op := Go.Op.buildSlice 35 1 #[(0, Go.Operand.tmp 32)], type := 35, pos := "law.go:18", after := #[{ on := 14, ground := Go.Ground.data }, { on := 12, ground := Go.Ground.guard }], guard := some (12, true) }) rfl (fun K hK => ?_) AllReadyH.nil
    go_simp
    have hA1 := hst.row_lit 41 2 1 #[.int .i64 1, .int .i64 2] rfl (by decide)
    replace en5 := en5.alloc (.cells #[.int .i64 1, .int .i64 2] 41)
    obtain ⟨HA, lA, hA2, hbb⟩ := hA1.row_keep
    try rw [World.size_alloc] at hbb
    replace hbb : Rd HA 2 _ (idl [(1, 2)]) := hbb
    try replace haa := haa.mono lA
    replace lc := Hp.le_trans lc lA
    replace hst := hA2
    refine hK.out _ _ (kk _ _ _ lc hst) (fun hHeld => ?_)
    clear hK K
    try simp only [Act.put, List.setIfInBounds_toArray, List.set_cons_zero, List.set_cons_succ]
    refine wpAnyH_ready (rs := [18]) (by kernel_rfl) (by simp) ?_
    refine AllReadyH.cons (o := { dst := some 36, op := Go.Op.call { callee := Go.Callee.value (Go.Operand.func 28), args := #[Go.Operand.tmp 31, Go.Operand.tmp 33, Go.Operand.tmp 35], argTypes := #[27, 35, 35] }, type := 4, pos := "law.go:18", after := #[{ on := 13, ground := Go.Ground.data }, { on := 15, ground := Go.Ground.data }, { on := 17, ground := Go.Ground.data }, { on := 12, ground := Go.Ground.chain }, { on := 12, ground := Go.Ground.guard }], guard := some (12, true) }) rfl (fun K hK => ?_) AllReadyH.nil
    go_simp
    refine (hLe.out _ _ _ _ lc hst hbb haa).mono ?_
    rintro e wD ⟨HD, rfl, lD, hD, enD⟩
    replace lc := Hp.le_trans lc lD
    replace hst := hD
    replace en5 := en5.trans enD
    refine hK.out _ _ (kk _ _ _ lc hst) (fun hHeld => ?_)
    clear hK K
    try simp only [Act.put, List.setIfInBounds_toArray, List.set_cons_zero, List.set_cons_succ]
    refine wpAnyH_take (i := 19) (oi := { dst := some 37, op := Go.Op.pick (Go.Operand.tmp 30) (Go.Operand.tmp 36) (Go.Operand.const (Go.Value.bool false)), type := 4, pos := "law.go:18", after := #[{ on := 12, ground := Go.Ground.data }, { on := 18, ground := Go.Ground.data }], guard := none }) (v := ?_) rfl (by kernel_rfl) (by kernel_rfl) (by kernel_rfl) (fun _ _ _ h => h) (Or.inl ⟨by rfl, ?_⟩) (by assumption) ?_
    rotate_left
    · (intro w hSw; (try dsimp only at hSw); go_simp; (try (with_reducible rfl)))
    try simp only [Act.put, List.setIfInBounds_toArray, List.set_cons_zero, List.set_cons_succ]
    refine wpAnyH_take (i := 20) (oi := { dst := some 38, op := Go.Op.move (Go.Operand.tmp 37), type := 4, pos := "law.go:18", after := #[{ on := 19, ground := Go.Ground.data }, { on := 18, ground := Go.Ground.chain }], guard := none }) (v := ?_) rfl (by kernel_rfl) (by kernel_rfl) (by kernel_rfl) (fun _ _ _ h => h) (Or.inl ⟨by rfl, ?_⟩) (by assumption) ?_
    rotate_left
    · (intro w hSw; (try dsimp only at hSw); go_simp; (try (with_reducible rfl)))
    try simp only [Act.put, List.setIfInBounds_toArray, List.set_cons_zero, List.set_cons_succ]
    exact hcut _ _ _ _ ⟨rfl, by kernel_rfl, _, _, _, rfl, lc, hst, en5⟩
  clear hst en5 lc hHeld
  rintro _ _ _ wR ⟨rfl, rfl, v33, v35, HR, rfl, lc, hst, en5⟩
  have hHeld := kk _ _ _ lc hst
  refine region_cut (fun f l a w' => f = 7 ∧ l = #[true, true, true, true, true, true, true, true, true, true, true, true, true, true, true, true, true, true, true, true, true, true, true, true, true, true, true, true, true, true, true, false, false, false, false, false, false, false] ∧ ∃ (v40 v42 v43 v44 : Value) (H' : Hp), a = { tmps := #[.bool false, .pointer (some ⟨g0, 0, none⟩), .pointer (some ⟨g0 + 1, 0, none⟩), grP p, .int .i64 0, .agg #[.int .i64 1, .int .i64 1], .agg #[.int .i64 1, .int .i64 2], .tuple #[grP p, .int .i64 0], .agg #[.int .i64 1, .int .i64 1], .agg #[.int .i64 1, .int .i64 1, .int .i64 9, .slice none 0 0, .slice none 0 0], .agg #[.int .i64 1, .int .i64 2], .agg #[.int .i64 1, .int .i64 1], .slice (some ⟨g0 + 1 + 1, 0, none⟩) 1 1, .agg #[.int .i64 1, .int .i64 2, .int .i64 1, .slice (some ⟨g0 + 1 + 1, 0, none⟩) 1 1, .slice none 0 0], .slice (some ⟨g0 + 1 + 1 + 1, 0, none⟩) 2 2, .tuple #[grP p, .int .i64 0], grP p, .int .i64 0, .int .i64 0, .bool true, .bool true, grP p, v22, .agg #[.int .i64 1, .int .i64 1], v24, .agg #[.int .i64 1, .int .i64 2], v26, v27, .bool true, .bool true, .bool true, grP p, .agg #[.int .i64 1, .int .i64 2], v33, .agg #[.int .i64 1, .int .i64 1], v35, .bool true, .bool true, .bool true, .agg #[.int .i64 1, .int .i64 1], v40, .agg #[.int .i64 1, .int .i64 2], v42, v43, v44, .int .i64 2, .bool true, .bool true, .bool true, undef, undef, undef, undef, undef, undef], defers := [] } ∧ Hp.le H H' ∧ St H' [GrA p L] w' ∧ Env w4 w') (fun hcut => ?_) ?_
  ·
    refine wpAnyH_take (i := 21) (oi := { dst := some 39, op := Go.Op.load 41 (Go.Operand.tmp 1), type := 41, pos := "law.go:18", after := #[{ on := 20, ground := Go.Ground.guard }], guard := some (20, true) }) (v := ?_) rfl (by kernel_rfl) (by kernel_rfl) (by kernel_rfl) (fun _ _ _ h => h) (Or.inl ⟨by rfl, ?_⟩) (by assumption) ?_
    rotate_left
    · (intro w hSw; (try dsimp only at hSw); go_simp; (try (with_reducible rfl)))
    try simp only [Act.put, List.setIfInBounds_toArray, List.set_cons_zero, List.set_cons_succ]
    refine wpAnyH_take (i := 23) (oi := { dst := some 41, op := Go.Op.load 41 (Go.Operand.tmp 2), type := 41, pos := "law.go:18", after := #[{ on := 20, ground := Go.Ground.guard }], guard := some (20, true) }) (v := ?_) rfl (by kernel_rfl) (by kernel_rfl) (by kernel_rfl) (fun _ _ _ h => h) (Or.inl ⟨by rfl, ?_⟩) (by assumption) ?_
    rotate_left
    · (intro w hSw; (try dsimp only at hSw); go_simp; (try (with_reducible rfl)))
    try simp only [Act.put, List.setIfInBounds_toArray, List.set_cons_zero, List.set_cons_succ]
    refine wpAnyH_ready (rs := [22, 24]) (by kernel_rfl) (by simp) ?_
    refine (AllReadyH.cons (o := { dst := some 40, op := Go.Op.buildSlice 35 1 #[(0, Go.Operand.tmp 39)], type := 35, pos := "law.go:18", after := #[{ on := 21, ground := Go.Ground.data }, { on := 20, ground := Go.Ground.guard }], guard := some (20, true) }) rfl (fun K hK => ?_) (AllReadyH.cons (o := { dst := some 42, op := Go.Op.buildSlice 35 1 #[(0, Go.Operand.tmp 41)], type := 35, pos := "law.go:18", after := #[{ on := 23, ground := Go.Ground.data }, { on := 20, ground := Go.Ground.guard }], guard := some (20, true) }) rfl (fun K hK => ?_) AllReadyH.nil))
    go_simp
    have hA1 := hst.row_lit 41 2 1 #[.int .i64 1, .int .i64 1] rfl (by decide)
    replace en5 := en5.alloc (.cells #[.int .i64 1, .int .i64 1] 41)
    obtain ⟨HA, lA, hA2, haa⟩ := hA1.row_keep
    try rw [World.size_alloc] at haa
    replace haa : Rd HA 2 _ (idl [(1, 1)]) := haa
    try replace hbb := hbb.mono lA
    replace lc := Hp.le_trans lc lA
    replace hst := hA2
    refine hK.out _ _ (kk _ _ _ lc hst) (fun hHeld => ?_)
    clear hK K
    try simp only [Act.put, List.setIfInBounds_toArray, List.set_cons_zero, List.set_cons_succ]
    refine wpAnyH_ready (rs := [24]) (by kernel_rfl) (by simp) ?_
    refine AllReadyH.cons (o := { dst := some 42, op := Go.Op.buildSlice 35 1 #[(0, Go.Operand.tmp 41)], type := 35, pos := "law.go:18", after := #[{ on := 23, ground := Go.Ground.data }, { on := 20, ground := Go.Ground.guard }], guard := some (20, true) }) rfl (fun K hK => ?_) AllReadyH.nil
    go_simp
    have hA1 := hst.row_lit 41 2 1 #[.int .i64 1, .int .i64 2] rfl (by decide)
    replace en5 := en5.alloc (.cells #[.int .i64 1, .int .i64 2] 41)
    obtain ⟨HA, lA, hA2, hbb⟩ := hA1.row_keep
    try rw [World.size_alloc] at hbb
    replace hbb : Rd HA 2 _ (idl [(1, 2)]) := hbb
    try replace haa := haa.mono lA
    replace lc := Hp.le_trans lc lA
    replace hst := hA2
    refine hK.out _ _ (kk _ _ _ lc hst) (fun hHeld => ?_)
    clear hK K
    try simp only [Act.put, List.setIfInBounds_toArray, List.set_cons_zero, List.set_cons_succ]
    refine wpAnyH_ready (rs := [25]) (by kernel_rfl) (by simp) ?_
    refine AllReadyH.cons (o := { dst := some 43, op := Go.Op.buildSlice 31 2 #[(0, Go.Operand.tmp 40), (1, Go.Operand.tmp 42)], type := 31, pos := "law.go:18", after := #[{ on := 22, ground := Go.Ground.data }, { on := 24, ground := Go.Ground.data }, { on := 20, ground := Go.Ground.guard }], guard := some (20, true) }) rfl (fun K hK => ?_) AllReadyH.nil
    go_simp
    obtain ⟨HZ, lZ, hZ, enZ, hyy⟩ := lay2 hst haa hbb
    try rw [World.size_alloc] at hyy
    try rw [World.size_alloc] at hyy
    try replace haa := haa.mono lZ
    try replace hbb := hbb.mono lZ
    replace lc := Hp.le_trans lc lZ
    replace hst := hZ
    replace en5 := en5.trans enZ
    refine hK.out _ _ (kk _ _ _ lc hst) (fun hHeld => ?_)
    clear hK K
    try simp only [Act.put, List.setIfInBounds_toArray, List.set_cons_zero, List.set_cons_succ]
    refine wpAnyH_ready (rs := [26]) (by kernel_rfl) (by simp) ?_
    refine AllReadyH.cons (o := { dst := some 44, op := Go.Op.call { callee := Go.Callee.value (Go.Operand.func 26), args := #[Go.Operand.tmp 43], argTypes := #[31] }, type := 35, pos := "law.go:18", after := #[{ on := 25, ground := Go.Ground.data }, { on := 20, ground := Go.Ground.chain }, { on := 20, ground := Go.Ground.guard }], guard := some (20, true) }) rfl (fun K hK => ?_) AllReadyH.nil
    go_simp
    refine (flat18 (hyy.rw hst) (haa.rw hst) (hbb.rw hst)).mono ?_
    rintro e wC ⟨fA, fc, rfl, hbC⟩
    replace hst := hst.below hbC
    replace en5 := en5.trans (bel_env hbC)
    refine hK.out _ _ (kk _ _ _ lc hst) (fun hHeld => ?_)
    clear hK K
    try simp only [Act.put, List.setIfInBounds_toArray, List.set_cons_zero, List.set_cons_succ]
    refine wpAnyH_take (i := 27) (oi := { dst := some 45, op := Go.Op.call { callee := Go.Callee.builtin Go.Builtin.len, args := #[Go.Operand.tmp 44], argTypes := #[35] }, type := 3, pos := "law.go:18", after := #[{ on := 26, ground := Go.Ground.data }, { on := 20, ground := Go.Ground.guard }], guard := some (20, true) }) (v := ?_) rfl (by kernel_rfl) (by kernel_rfl) (by kernel_rfl) (fun _ _ _ h => h) (Or.inl ⟨by rfl, ?_⟩) (by assumption) ?_
    rotate_left
    · (intro w hSw; (try dsimp only at hSw); go_simp; (try (with_reducible rfl)))
    try simp only [Act.put, List.setIfInBounds_toArray, List.set_cons_zero, List.set_cons_succ]
    refine wpAnyH_take (i := 28) (oi := { dst := some 46, op := Go.Op.binOp Go.BinOp.eql 3 (Go.Operand.tmp 45) (Go.Operand.const (Go.Value.int Go.IntKind.i64 2)) 3, type := 4, pos := "law.go:18", after := #[{ on := 27, ground := Go.Ground.data }, { on := 20, ground := Go.Ground.guard }], guard := some (20, true) }) (v := ?_) rfl (by kernel_rfl) (by kernel_rfl) (by kernel_rfl) (fun _ _ _ h => h) (Or.inl ⟨by rfl, ?_⟩) (by assumption) ?_
    rotate_left
    · (intro w hSw; (try dsimp only at hSw); go_simp; (try (with_reducible rfl)))
    try simp only [Act.put, List.setIfInBounds_toArray, List.set_cons_zero, List.set_cons_succ]
    refine wpAnyH_take (i := 29) (oi := { dst := some 47, op := Go.Op.pick (Go.Operand.tmp 38) (Go.Operand.tmp 46) (Go.Operand.const (Go.Value.bool false)), type := 4, pos := "law.go:18", after := #[{ on := 20, ground := Go.Ground.data }, { on := 28, ground := Go.Ground.data }], guard := none }) (v := ?_) rfl (by kernel_rfl) (by kernel_rfl) (by kernel_rfl) (fun _ _ _ h => h) (Or.inl ⟨by rfl, ?_⟩) (by assumption) ?_
    rotate_left
    · (intro w hSw; (try dsimp only at hSw); go_simp; (try (with_reducible rfl)))
    try simp only [Act.put, List.setIfInBounds_toArray, List.set_cons_zero, List.set_cons_succ]
    refine wpAnyH_take (i := 30) (oi := { dst := some 48, op := Go.Op.move (Go.Operand.tmp 47), type := 4, pos := "law.go:18", after := #[{ on := 29, ground := Go.Ground.data }, { on := 26, ground := Go.Ground.chain }], guard := none }) (v := ?_) rfl (by kernel_rfl) (by kernel_rfl) (by kernel_rfl) (fun _ _ _ h => h) (Or.inl ⟨by rfl, ?_⟩) (by assumption) ?_
    rotate_left
    · (intro w hSw; (try dsimp only at hSw); go_simp; (try (with_reducible rfl)))
    try simp only [Act.put, List.setIfInBounds_toArray, List.set_cons_zero, List.set_cons_succ]
    exact hcut _ _ _ _ ⟨rfl, by kernel_rfl, _, _, _, _, _, rfl, lc, hst, en5⟩
    go_simp
    have hA1 := hst.row_lit 41 2 1 #[.int .i64 1, .int .i64 2] rfl (by decide)
    replace en5 := en5.alloc (.cells #[.int .i64 1, .int .i64 2] 41)
    obtain ⟨HA, lA, hA2, hbb⟩ := hA1.row_keep
    try rw [World.size_alloc] at hbb
    replace hbb : Rd HA 2 _ (idl [(1, 2)]) := hbb
    try replace haa := haa.mono lA
    replace lc := Hp.le_trans lc lA
    replace hst := hA2
    refine hK.out _ _ (kk _ _ _ lc hst) (fun hHeld => ?_)
    clear hK K
    try simp only [Act.put, List.setIfInBounds_toArray, List.set_cons_zero, List.set_cons_succ]
    refine wpAnyH_ready (rs := [22]) (by kernel_rfl) (by simp) ?_
    refine AllReadyH.cons (o := { dst := some 40, op := Go.Op.buildSlice 35 1 #[(0, Go.Operand.tmp 39)], type := 35, pos := "law.go:18", after := #[{ on := 21, ground := Go.Ground.data }, { on := 20, ground := Go.Ground.guard }], guard := some (20, true) }) rfl (fun K hK => ?_) AllReadyH.nil
    go_simp
    have hA1 := hst.row_lit 41 2 1 #[.int .i64 1, .int .i64 1] rfl (by decide)
    replace en5 := en5.alloc (.cells #[.int .i64 1, .int .i64 1] 41)
    obtain ⟨HA, lA, hA2, haa⟩ := hA1.row_keep
    try rw [World.size_alloc] at haa
    replace haa : Rd HA 2 _ (idl [(1, 1)]) := haa
    try replace hbb := hbb.mono lA
    replace lc := Hp.le_trans lc lA
    replace hst := hA2
    refine hK.out _ _ (kk _ _ _ lc hst) (fun hHeld => ?_)
    clear hK K
    try simp only [Act.put, List.setIfInBounds_toArray, List.set_cons_zero, List.set_cons_succ]
    refine wpAnyH_ready (rs := [25]) (by kernel_rfl) (by simp) ?_
    refine AllReadyH.cons (o := { dst := some 43, op := Go.Op.buildSlice 31 2 #[(0, Go.Operand.tmp 40), (1, Go.Operand.tmp 42)], type := 31, pos := "law.go:18", after := #[{ on := 22, ground := Go.Ground.data }, { on := 24, ground := Go.Ground.data }, { on := 20, ground := Go.Ground.guard }], guard := some (20, true) }) rfl (fun K hK => ?_) AllReadyH.nil
    go_simp
    obtain ⟨HZ, lZ, hZ, enZ, hyy⟩ := lay2 hst haa hbb
    try rw [World.size_alloc] at hyy
    try rw [World.size_alloc] at hyy
    try replace haa := haa.mono lZ
    try replace hbb := hbb.mono lZ
    replace lc := Hp.le_trans lc lZ
    replace hst := hZ
    replace en5 := en5.trans enZ
    refine hK.out _ _ (kk _ _ _ lc hst) (fun hHeld => ?_)
    clear hK K
    try simp only [Act.put, List.setIfInBounds_toArray, List.set_cons_zero, List.set_cons_succ]
    refine wpAnyH_ready (rs := [26]) (by kernel_rfl) (by simp) ?_
    refine AllReadyH.cons (o := { dst := some 44, op := Go.Op.call { callee := Go.Callee.value (Go.Operand.func 26), args := #[Go.Operand.tmp 43], argTypes := #[31] }, type := 35, pos := "law.go:18", after := #[{ on := 25, ground := Go.Ground.data }, { on := 20, ground := Go.Ground.chain }, { on := 20, ground := Go.Ground.guard }], guard := some (20, true) }) rfl (fun K hK => ?_) AllReadyH.nil
    go_simp
    refine (flat18 (hyy.rw hst) (haa.rw hst) (hbb.rw hst)).mono ?_
    rintro e wC ⟨fA, fc, rfl, hbC⟩
    replace hst := hst.below hbC
    replace en5 := en5.trans (bel_env hbC)
    refine hK.out _ _ (kk _ _ _ lc hst) (fun hHeld => ?_)
    clear hK K
    try simp only [Act.put, List.setIfInBounds_toArray, List.set_cons_zero, List.set_cons_succ]
    refine wpAnyH_take (i := 27) (oi := { dst := some 45, op := Go.Op.call { callee := Go.Callee.builtin Go.Builtin.len, args := #[Go.Operand.tmp 44], argTypes := #[35] }, type := 3, pos := "law.go:18", after := #[{ on := 26, ground := Go.Ground.data }, { on := 20, ground := Go.Ground.guard }], guard := some (20, true) }) (v := ?_) rfl (by kernel_rfl) (by kernel_rfl) (by kernel_rfl) (fun _ _ _ h => h) (Or.inl ⟨by rfl, ?_⟩) (by assumption) ?_
    rotate_left
    · (intro w hSw; (try dsimp only at hSw); go_simp; (try (with_reducible rfl)))
    try simp only [Act.put, List.setIfInBounds_toArray, List.set_cons_zero, List.set_cons_succ]
    refine wpAnyH_take (i := 28) (oi := { dst := some 46, op := Go.Op.binOp Go.BinOp.eql 3 (Go.Operand.tmp 45) (Go.Operand.const (Go.Value.int Go.IntKind.i64 2)) 3, type := 4, pos := "law.go:18", after := #[{ on := 27, ground := Go.Ground.data }, { on := 20, ground := Go.Ground.guard }], guard := some (20, true) }) (v := ?_) rfl (by kernel_rfl) (by kernel_rfl) (by kernel_rfl) (fun _ _ _ h => h) (Or.inl ⟨by rfl, ?_⟩) (by assumption) ?_
    rotate_left
    · (intro w hSw; (try dsimp only at hSw); go_simp; (try (with_reducible rfl)))
    try simp only [Act.put, List.setIfInBounds_toArray, List.set_cons_zero, List.set_cons_succ]
    refine wpAnyH_take (i := 29) (oi := { dst := some 47, op := Go.Op.pick (Go.Operand.tmp 38) (Go.Operand.tmp 46) (Go.Operand.const (Go.Value.bool false)), type := 4, pos := "law.go:18", after := #[{ on := 20, ground := Go.Ground.data }, { on := 28, ground := Go.Ground.data }], guard := none }) (v := ?_) rfl (by kernel_rfl) (by kernel_rfl) (by kernel_rfl) (fun _ _ _ h => h) (Or.inl ⟨by rfl, ?_⟩) (by assumption) ?_
    rotate_left
    · (intro w hSw; (try dsimp only at hSw); go_simp; (try (with_reducible rfl)))
    try simp only [Act.put, List.setIfInBounds_toArray, List.set_cons_zero, List.set_cons_succ]
    refine wpAnyH_take (i := 30) (oi := { dst := some 48, op := Go.Op.move (Go.Operand.tmp 47), type := 4, pos := "law.go:18", after := #[{ on := 29, ground := Go.Ground.data }, { on := 26, ground := Go.Ground.chain }], guard := none }) (v := ?_) rfl (by kernel_rfl) (by kernel_rfl) (by kernel_rfl) (fun _ _ _ h => h) (Or.inl ⟨by rfl, ?_⟩) (by assumption) ?_
    rotate_left
    · (intro w hSw; (try dsimp only at hSw); go_simp; (try (with_reducible rfl)))
    try simp only [Act.put, List.setIfInBounds_toArray, List.set_cons_zero, List.set_cons_succ]
    exact hcut _ _ _ _ ⟨rfl, by kernel_rfl, _, _, _, _, _, rfl, lc, hst, en5⟩
  clear hst en5 lc hHeld
  rintro _ _ _ wR ⟨rfl, rfl, v40, v42, v43, v44, HR, rfl, lc, hst, en5⟩
  have hHeld := kk _ _ _ lc hst
  refine wpAnyH_take (i := 31) (oi := { dst := some 49, op := Go.Op.move (Go.Operand.tmp 3), type := 27, pos := "law.go:18", after := #[{ on := 30, ground := Go.Ground.guard }], guard := some (30, true) }) (v := ?_) rfl (by kernel_rfl) (by kernel_rfl) (by kernel_rfl) (fun _ _ _ h => h) (Or.inl ⟨by rfl, ?_⟩) (by assumption) ?_
  rotate_left
  · (intro w hSw; (try dsimp only at hSw); go_simp; (try (with_reducible rfl)))
  try simp only [Act.put, List.setIfInBounds_toArray, List.set_cons_zero, List.set_cons_succ]
  refine wpAnyH_take (i := 32) (oi := { dst := some 50, op := Go.Op.load 41 (Go.Operand.tmp 1), type := 41, pos := "law.go:18", after := #[{ on := 30, ground := Go.Ground.guard }], guard := some (30, true) }) (v := ?_) rfl (by kernel_rfl) (by kernel_rfl) (by kernel_rfl) (fun _ _ _ h => h) (Or.inl ⟨by rfl, ?_⟩) (by assumption) ?_
  rotate_left
  · (intro w hSw; (try dsimp only at hSw); go_simp; (try (with_reducible rfl)))
  try simp only [Act.put, List.setIfInBounds_toArray, List.set_cons_zero, List.set_cons_succ]
  refine wpAnyH_ready (rs := [33]) (by kernel_rfl) (by simp) ?_
  refine AllReadyH.cons (o := { dst := some 51, op := Go.Op.buildSlice 35 1 #[(0, Go.Operand.tmp 50)], type := 35, pos := "law.go:18", after := #[{ on := 32, ground := Go.Ground.data }, { on := 30, ground := Go.Ground.guard }], guard := some (30, true) }) rfl (fun K hK => ?_) AllReadyH.nil
  go_simp
  have hA1 := hst.row_lit 41 2 1 #[.int .i64 1, .int .i64 1] rfl (by decide)
  replace en5 := en5.alloc (.cells #[.int .i64 1, .int .i64 1] 41)
  obtain ⟨HA, lA, hA2, haa⟩ := hA1.row_keep
  try rw [World.size_alloc] at haa
  replace haa : Rd HA 2 _ (idl [(1, 1)]) := haa
  replace lc := Hp.le_trans lc lA
  replace hst := hA2
  refine hK.out _ _ (kk _ _ _ lc hst) (fun hHeld => ?_)
  clear hK K
  try simp only [Act.put, List.setIfInBounds_toArray, List.set_cons_zero, List.set_cons_succ]
  refine wpAnyH_ready (rs := [34]) (by kernel_rfl) (by simp) ?_
  refine AllReadyH.cons (o := { dst := some 52, op := Go.Op.buildSlice 31 1 #[(0, Go.Operand.tmp 51)], type := 31, pos := "law.go:18", after := #[{ on := 33, ground := Go.Ground.data }, { on := 30, ground := Go.Ground.guard }], guard := some (30, true) }) rfl (fun K hK => ?_) AllReadyH.nil
  go_simp
  obtain ⟨HZ, lZ, hZ, enZ, hyy⟩ := lay1 hst haa
  try rw [World.size_alloc] at hyy
  replace haa := haa.mono lZ
  replace lc := Hp.le_trans lc lZ
  replace hst := hZ
  replace en5 := en5.trans enZ
  refine hK.out _ _ (kk _ _ _ lc hst) (fun hHeld => ?_)
  clear hK K
  try simp only [Act.put, List.setIfInBounds_toArray, List.set_cons_zero, List.set_cons_succ]
  refine wpAnyH_ready (rs := [35]) (by kernel_rfl) (by simp) ?_
  refine AllReadyH.cons (o := { dst := some 53, op := Go.Op.call { callee := Go.Callee.value (Go.Operand.func 24), args := #[Go.Operand.tmp 49, Go.Operand.tmp 52], argTypes := #[27, 31] }, type := 4, pos := "law.go:18", after := #[{ on := 31, ground := Go.Ground.data }, { on := 34, ground := Go.Ground.data }, { on := 30, ground := Go.Ground.chain }, { on := 30, ground := Go.Ground.guard }], guard := some (30, true) }) rfl (fun K hK => ?_) AllReadyH.nil
  go_simp
  refine (hRi.out _ _ _ _ lc hst hyy haa).mono ?_
  rintro e wD ⟨HD, rfl, lD, hD, enD⟩
  replace lc := Hp.le_trans lc lD
  replace hst := hD
  replace en5 := en5.trans enD
  refine hK.out _ _ (kk _ _ _ lc hst) (fun hHeld => ?_)
  clear hK K
  try simp only [Act.put, List.setIfInBounds_toArray, List.set_cons_zero, List.set_cons_succ]
  refine wpAnyH_take (i := 36) (oi := { dst := some 54, op := Go.Op.pick (Go.Operand.tmp 48) (Go.Operand.tmp 53) (Go.Operand.const (Go.Value.bool false)), type := 4, pos := "law.go:18", after := #[{ on := 30, ground := Go.Ground.data }, { on := 35, ground := Go.Ground.data }], guard := none }) (v := ?_) rfl (by kernel_rfl) (by kernel_rfl) (by kernel_rfl) (fun _ _ _ h => h) (Or.inl ⟨by rfl, ?_⟩) (by assumption) ?_
  rotate_left
  · (intro w hSw; (try dsimp only at hSw); go_simp; (try (with_reducible rfl)))
  try simp only [Act.put, List.setIfInBounds_toArray, List.set_cons_zero, List.set_cons_succ]
  refine wpAnyH_take (i := 37) (oi := { dst := some 0, op := Go.Op.assign (Go.Operand.tmp 54), type := 4, pos := "law.go:18", after := #[{ on := 36, ground := Go.Ground.data }, { on := 35, ground := Go.Ground.chain }, { on := 0, ground := Go.Ground.phase }, { on := 1, ground := Go.Ground.phase }, { on := 2, ground := Go.Ground.phase }, { on := 3, ground := Go.Ground.phase }, { on := 4, ground := Go.Ground.phase }, { on := 5, ground := Go.Ground.phase }, { on := 6, ground := Go.Ground.phase }, { on := 7, ground := Go.Ground.phase }, { on := 8, ground := Go.Ground.phase }, { on := 9, ground := Go.Ground.phase }, { on := 10, ground := Go.Ground.phase }, { on := 11, ground := Go.Ground.phase }, { on := 12, ground := Go.Ground.phase }, { on := 13, ground := Go.Ground.phase }, { on := 14, ground := Go.Ground.phase }, { on := 15, ground := Go.Ground.phase }, { on := 16, ground := Go.Ground.phase }, { on := 17, ground := Go.Ground.phase }, { on := 18, ground := Go.Ground.phase }, { on := 19, ground := Go.Ground.phase }, { on := 20, ground := Go.Ground.phase }, { on := 21, ground := Go.Ground.phase }, { on := 22, ground := Go.Ground.phase }, { on := 23, ground := Go.Ground.phase }, { on := 24, ground := Go.Ground.phase }, { on := 25, ground := Go.Ground.phase }, { on := 26, ground := Go.Ground.phase }, { on := 27, ground := Go.Ground.phase }, { on := 28, ground := Go.Ground.phase }, { on := 29, ground := Go.Ground.phase }, { on := 30, ground := Go.Ground.phase }, { on := 31, ground := Go.Ground.phase }, { on := 32, ground := Go.Ground.phase }, { on := 33, ground := Go.Ground.phase }, { on := 34, ground := Go.Ground.phase }, { on := 35, ground := Go.Ground.phase }, { on := 36, ground := Go.Ground.phase }], guard := none }) (v := ?_) rfl (by kernel_rfl) (by kernel_rfl) (by kernel_rfl) (fun _ _ _ h => h) (Or.inl ⟨by rfl, ?_⟩) (by assumption) ?_
  rotate_left
  · (intro w hSw; (try dsimp only at hSw); go_simp; (try (with_reducible rfl)))
  try simp only [Act.put, List.setIfInBounds_toArray, List.set_cons_zero, List.set_cons_succ]
  refine wpAnyH_done (by kernel_rfl) ?_ _
  have hz := hfin _ _ _ lc hst en5
  go_wp2_with fail
  go_ret
  exact ⟨rfl, hz.out⟩
end Go.Proofs.YtcbckeoalmjcoaaGreat
