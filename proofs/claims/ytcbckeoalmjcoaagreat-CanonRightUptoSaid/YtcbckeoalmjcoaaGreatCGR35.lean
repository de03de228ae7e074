/- Joined texts: CWorks. -/
import Derived.Test.YtcbckeoalmjcoaaGreatCGR24
import Derived.Test.YtcbckeoalmjcoaaGreatCGR26
import Derived.Test.YtcbckeoalmjcoaaGreatCGR34
/- Law 17: works. -/
set_option linter.unusedVariables false
set_option linter.unusedSimpArgs false
namespace Go.Proofs.YtcbckeoalmjcoaaGreat
open Go.RowKit Go.Cw Go.Fl
attribute [local go_sem ↓] eql_id neq_id
def l17 : List Rp := [((1, 1), 5, [(1, 2)], []), ((1, 2), 3, [(1, 1)], [])]
theorem rch17 {a b : Id} (h : Rch (dpsR l17) [a] b) (ha : a = (1, 1) ∨ a = (1, 2)) : b = (1, 1) ∨ b = (1, 2) := by
  refine h.closed (P := fun a => a = (1, 1) ∨ a = (1, 2)) (fun x hx => by rw [List.mem_singleton] at hx; subst hx; exact ha) ?_
  rintro x (rfl | rfl) b hb
  · have : dpsR l17 (1, 1) = [(1, 2)] := by decide
    rw [this] at hb
    simp at hb
    exact .inr hb
  · have : dpsR l17 (1, 2) = [(1, 1)] := by decide
    rw [this] at hb
    simp at hb
    exact .inl hb
theorem mu17 : muD l17 (1, 1) (1, 2) := ⟨rr_edge (by decide), rr_edge (by decide)⟩
theorem clU17 (a : Id) : clU l17 a ↔ (a = (1, 1) ∨ a = (1, 2)) := by
  constructor
  · rintro ⟨h1, _⟩
    simpa [pids, l17] using h1
  · intro h
    refine ⟨by rcases h with rfl | rfl <;> decide, fun b hb => ?_⟩
    rcases rch17 hb h with rfl | rfl <;> decide
theorem comps17 : CompsOf l17 [[(1, 2), (1, 1)]] := by
  refine ⟨fun c hc => ?_, ?_, fun a ha => ⟨_, List.mem_singleton.2 rfl, ?_⟩⟩
  · rw [List.mem_singleton] at hc
    subst hc
    refine ⟨by simp, ?_, (clU17 _).2 (.inr rfl), fun b => ?_⟩
    · unfold KR KRises
      decide
    · show b ∈ [((1, 2) : Id), (1, 1)] ↔ muD l17 (1, 2) b
      constructor
      · intro h
        simp only [List.mem_cons, List.not_mem_nil, or_false] at h
        rcases h with rfl | rfl
        · exact muD_refl _ _
        · exact muD_symm _ _ mu17
      · intro h
        rcases rch17 h.1 (.inr rfl) with rfl | rfl <;> simp
  · unfold KR KRises
    decide
  · rcases (clU17 a).1 ha with rfl | rfl <;> simp
theorem lay1 {H : Hp} {l : List HA} {w : World} (h : St H l w) {v : Value} {cs : List Value} (hv : Rd H 2 v cs) : ∃ H', Hp.le H H' ∧ St H' l (w.alloc (.cells #[v] 35)) ∧ Env w (w.alloc (.cells #[v] 35)) ∧ Rd H' 1 (.slice (some ⟨w.heap.size, 0, none⟩) 1 1) [v] := by
  have h1 := h.row_lit 35 1 1 #[v] rfl (by decide)
  obtain ⟨H', l', h2, r⟩ := h1.row_keep
  exact ⟨H', l', h2, (Env.refl w).alloc _, r⟩
theorem lay2 {H : Hp} {l : List HA} {w : World} (h : St H l w) {v u : Value} {cs ds : List Value} (hv : Rd H 2 v cs) (hu : Rd H 2 u ds) : ∃ H', Hp.le H H' ∧ St H' l (w.alloc (.cells #[v, u] 35)) ∧ Env w (w.alloc (.cells #[v, u] 35)) ∧ Rd H' 1 (.slice (some ⟨w.heap.size, 0, none⟩) 2 2) [v, u] := by
  have h1 := h.row_lit 35 1 2 #[v, u] rfl (by decide)
  obtain ⟨H', l', h2, r⟩ := h1.row_keep
  exact ⟨H', l', h2, (Env.refl w).alloc _, r⟩
theorem same17 {u v v0 : Value} {X : List Lv} {w : World} (hXe : lists X = [[(1, 2), (1, 1)]]) (hx : LvR w u X) (h1 : Rw w 1 v [v0]) (h2 : Rw w 2 v0 (idl [(1, 2), (1, 1)])) : Calls Tryz.prog 12 #[u, v] w fun e w' => e = .returned (.bool true) ∧ Below w.heap.size w w' := by
  refine (ref17Same_any u v X [([(1, 2), (1, 1)], v0)] w hx ⟨h1, fun x hx => ?_⟩).mono ?_
  · rw [List.mem_singleton] at hx
    subst hx
    exact h2
  · rintro e w' ⟨rfl, hb⟩
    have hE : lists X = lists [([(1, 2), (1, 1)], v0)] := hXe
    exact ⟨by rw [decide_eq_true hE], hb⟩
theorem at17 {v va vb : Value} {w : World} (h1 : Rw w 1 v [va, vb]) (ha : Rw w 2 va (idl [(1, 1)])) (hb : Rw w 2 vb (idl [(1, 2)])) : Calls Tryz.prog 20 #[v, idV (1, 2)] w fun e w' => e = .returned (.int .i64 1) ∧ Below w.heap.size w w' := by
  refine (compsAt_any v [([(1, 1)], va), ([(1, 2)], vb)] (1, 2) w ⟨h1, fun x hx => ?_⟩).mono ?_
  · simp only [List.mem_cons, List.not_mem_nil, or_false] at hx
    rcases hx with rfl | rfl
    · exact ha
    · exact hb
  · rintro e w' ⟨rfl, hb⟩
    exact ⟨rfl, hb⟩
open Classical in
set_option maxRecDepth 100000 in
set_option maxHeartbeats 8000000 in
theorem works17 (w : World) : Calls Tryz.prog 10 #[] w fun e w' => e = .returned (.bool true) ∧ Below w.heap.size w w' := by
  obtain ⟨H1, l1, h1, y1⟩ := (St.start w).box #[.int .i64 1, .int .i64 1] 41
  obtain ⟨H2, l2, h2, y2⟩ := h1.box #[.int .i64 1, .int .i64 2] 41
  rw [World.size_alloc] at y2
  have a0 := Hp.cell_le l2 (y1 0 _ rfl)
  have a1 := Hp.cell_le l2 (y1 1 _ rfl)
  have b0 := y2 0 _ rfl
  have b1 := y2 1 _ rfl
  have en3 := (((Env.refl w).alloc (.cells #[.int .i64 1, .int .i64 1] 41)).alloc (.cells #[.int .i64 1, .int .i64 2] 41))
  have l13 := Hp.le_trans l1 l2
  clear y1 y2 h1
  have h4 := h2.row_lit 41 2 1 #[.int .i64 1, .int .i64 2] rfl (by decide)
  obtain ⟨H4, l4, h5, r4⟩ := h4.row_keep
  have h6 := h5.row_lit 41 2 1 #[.int .i64 1, .int .i64 1] rfl (by decide)
  obtain ⟨H5, l5, h7, r5⟩ := h6.row_keep
  replace r4 := r4.mono l5
  have e0 : ((w.alloc (.cells #[.int .i64 1, .int .i64 1] 41)).alloc (.cells #[.int .i64 1, .int .i64 2] 41)).heap.size = w.heap.size + 1 + 1 := by simp
  rw [World.size_alloc] at r5
  rw [e0] at r4 r5
  have h8 := h7.row_lit 53 5 2 #[.int .i64 1, .int .i64 1, .int .i64 5, .slice (some ⟨w.heap.size + 1 + 1, 0, none⟩) 1 1, .slice none 0 0, .int .i64 1, .int .i64 2, .int .i64 3, .slice (some ⟨w.heap.size + 1 + 1 + 1, 0, none⟩) 1 1, .slice none 0 0] rfl (by decide)
  have en8 := ((en3.alloc (.cells #[.int .i64 1, .int .i64 2] 41)).alloc (.cells #[.int .i64 1, .int .i64 1] 41)).alloc (.cells #[.int .i64 1, .int .i64 1, .int .i64 5, .slice (some ⟨w.heap.size + 1 + 1, 0, none⟩) 1 1, .slice none 0 0, .int .i64 1, .int .i64 2, .int .i64 3, .slice (some ⟨w.heap.size + 1 + 1 + 1, 0, none⟩) 1 1, .slice none 0 0] 53)
  rw [World.size_alloc, World.size_alloc, e0] at h8
  have hN := newGr_any (.slice (some ⟨w.heap.size + 1 + 1 + 1 + 1, 0, none⟩) 2 2) [((1, 1), 5, .slice (some ⟨w.heap.size + 1 + 1, 0, none⟩) 1 1, .slice none 0 0, [(1, 2)], []), ((1, 2), 3, .slice (some ⟨w.heap.size + 1 + 1 + 1, 0, none⟩) 1 1, .slice none 0 0, [(1, 1)], [])] _ (h8.row_rw (by omega)) (fun x hx => by
    simp only [List.mem_cons, List.not_mem_nil, or_false] at hx
    rcases hx with rfl | rfl
    · exact ⟨r4.rw h8, Rw.nil _ _, fun c hc => by simp at hc⟩
    · exact ⟨r5.rw h8, Rw.nil _ _, fun c hc => by simp at hc⟩) (by simp)
  have hN2 := hN.mono (fun e w' h => NewR.ok h (by simp))
  replace hN2 := Lib.hid hN2
  have l15 := Hp.le_trans l13 (Hp.le_trans l4 l5)
  replace a0 := Hp.cell_le (Hp.le_trans l4 l5) a0
  replace a1 := Hp.cell_le (Hp.le_trans l4 l5) a1
  replace b0 := Hp.cell_le (Hp.le_trans l4 l5) b0
  replace b1 := Hp.cell_le (Hp.le_trans l4 l5) b1
  replace h8 := h8.drop
  clear h2 h4 h5 h6 h7 e0 r4 r5 hN en3 l13
  go_enter Tryz.func10, Tryz.ntmps10
  go_wp2_with fail
  refine hN2.out.mono ?_
  rintro e w4 (⟨_, p, L, H, hle, h9, hg, hLm, en4, rfl⟩ | ⟨hno, _⟩)
  case inr => exact absurd rfl hno
  replace hLm : L.map rp = l17 := hLm
  have hlen : L.length = 2 := by have := congrArg List.length hLm; simpa [l17] using this
  have hle5 : Hp.le H5 H := Hp.le_trans (fun k o hk => h8.imm k o hk) hle
  replace a0 := Hp.cell_le hle5 a0
  replace a1 := Hp.cell_le hle5 a1
  replace b0 := Hp.cell_le hle5 b0
  replace b1 := Hp.cell_le hle5 b1
  have l0H := Hp.le_trans l15 hle5
  replace en4 := en8.trans en4
  have kk : ∀ (Hc : Hp) (l' : List HA) (w' : World), Hp.le H Hc → St Hc l' w' → (fun w' : World => w'.cell? ⟨w.heap.size, 0, none⟩ = some (.int .i64 1) ∧ w'.cell? ⟨w.heap.size, 1, none⟩ = some (.int .i64 1) ∧ w'.cell? ⟨w.heap.size + 1, 0, none⟩ = some (.int .i64 1) ∧ w'.cell? ⟨w.heap.size + 1, 1, none⟩ = some (.int .i64 2)) w' := fun Hc l' w' hl h => ⟨h.cell (Hp.cell_le hl a0), h.cell (Hp.cell_le hl a1), h.cell (Hp.cell_le hl b0), h.cell (Hp.cell_le hl b1)⟩
  have gl := World.block_lt_of_cell? _ _ (h9.cell a0)
  have gl1 := World.block_lt_of_cell? _ _ (h9.cell b0)
  simp only at gl gl1
  have hCo := fun (Hc : Hp) (w' : World) (hl : Hp.le H Hc) (h' : St Hc [GrA p L] w') => (comps_any p L Hc [] w' h' (hg.mono hl) (by omega)).mono (R' := fun e w'' => ∃ v X H', e = .returned v ∧ Hp.le Hc H' ∧ St H' [GrA p L] w'' ∧ Env w' w'' ∧ Rd H' 1 v (vals X) ∧ LvOk H' X ∧ lists X = [[(1, 2), (1, 1)]]) (by
    rintro e w'' ⟨v, X, H', rfl, l', h2, en, hok, hco⟩
    obtain ⟨H'', l'', h3, hr⟩ := h2.row_keep
    rw [hLm] at hco
    exact ⟨v, X, H'', rfl, Hp.le_trans l' l'', h3, en, hr, hok.mono l'', compsOf_eq hco comps17⟩)
  have hMu := fun (Hc : Hp) (w' : World) (hl : Hp.le H Hc) (h' : St Hc [GrA p L] w') => mutual_any p L (1, 1) (1, 2) Hc [] w' h' (hg.mono hl) (by omega)
  rw [hLm] at hMu
  rw [decide_eq_true ⟨by rw [← pids_rp, hLm]; decide, by rw [← pids_rp, hLm]; decide, mu17⟩] at hMu
  replace hCo := Lib.hid hCo
  replace hMu := Lib.hid hMu
  have hfin : ∀ (H' : Hp) (l' : List HA) (w' : World), Hp.le H H' → St H' l' w' → Env w4 w' → Hid (Below w.heap.size w w') := fun H' l' w' hl h en => Lib.hid ((h.weaken (Hp.le_trans l0H hl)).toBelow (en4.trans en))
  clear hN2 h8 en8 a0 a1 b0 b1
  go_wp2_with fail
  generalize hg0 : w.heap.size = g0 at *
  have hst := h9.drew
  have en5 := (Env.refl w4).drew
  have lc := Hp.le_refl H
  refine wp_region_held_drew (S := (fun w' : World => w'.cell? ⟨g0, 0, none⟩ = some (.int .i64 1) ∧ w'.cell? ⟨g0, 1, none⟩ = some (.int .i64 1) ∧ w'.cell? ⟨g0 + 1, 0, none⟩ = some (.int .i64 1) ∧ w'.cell? ⟨g0 + 1, 1, none⟩ = some (.int .i64 2))) (by kernel_rfl) (kk _ _ _ lc hst) (fun hHeld => ?_)
  refine wpAnyH_take (i := 0) (oi := { dst := some 20, op := Go.Op.move (Go.Operand.tmp 4), type := 24, pos := "law.go:18", after := #[], guard := none }) (v := ?_) rfl (by kernel_rfl) (by kernel_rfl) (by kernel_rfl) (fun _ _ _ h => h) (Or.inl ⟨by rfl, ?_⟩) (by assumption) ?_
  rotate_left
  · (intro w hSw; (try dsimp only at hSw); go_simp; (try (with_reducible rfl)))
  try simp only [Act.put, List.setIfInBounds_toArray, List.set_cons_zero, List.set_cons_succ]
  refine wpAnyH_take (i := 1) (oi := { dst := some 21, op := Go.Op.binOp Go.BinOp.eql 24 (Go.Operand.tmp 20) (Go.Operand.const (Go.Value.int Go.IntKind.i64 0)) 24, type := 4, pos := "law.go:18", after := #[{ on := 0, ground := Go.Ground.data }], guard := none }) (v := ?_) rfl (by kernel_rfl) (by kernel_rfl) (by kernel_rfl) (fun _ _ _ h => h) (Or.inl ⟨by rfl, ?_⟩) (by assumption) ?_
  rotate_left
  · (intro w hSw; (try dsimp only at hSw); go_simp; (try (with_reducible rfl)))
  try simp only [Act.put, List.setIfInBounds_toArray, List.set_cons_zero, List.set_cons_succ]
  refine wpAnyH_take (i := 2) (oi := { dst := some 22, op := Go.Op.move (Go.Operand.tmp 21), type := 4, pos := "law.go:18", after := #[{ on := 1, ground := Go.Ground.data }], guard := none }) (v := ?_) rfl (by kernel_rfl) (by kernel_rfl) (by kernel_rfl) (fun _ _ _ h => h) (Or.inl ⟨by rfl, ?_⟩) (by assumption) ?_
  rotate_left
  · (intro w hSw; (try dsimp only at hSw); go_simp; (try (with_reducible rfl)))
  try simp only [Act.put, List.setIfInBounds_toArray, List.set_cons_zero, List.set_cons_succ]
  refine wpAnyH_take (i := 3) (oi := { dst := some 23, op := Go.Op.move (Go.Operand.tmp 3), type := 27, pos := "law.go:18", after := #[{ on := 2, ground := Go.Ground.guard }], guard := some (2, true) }) (v := ?_) rfl (by kernel_rfl) (by kernel_rfl) (by kernel_rfl) (fun _ _ _ h => h) (Or.inl ⟨by rfl, ?_⟩) (by assumption) ?_
  rotate_left
  · (intro w hSw; (try dsimp only at hSw); go_simp; (try (with_reducible rfl)))
  try simp only [Act.put, List.setIfInBounds_toArray, List.set_cons_zero, List.set_cons_succ]
  refine wpAnyH_take (i := 5) (oi := { dst := some 25, op := Go.Op.load 41 (Go.Operand.tmp 2), type := 41, pos := "law.go:18", after := #[{ on := 2, ground := Go.Ground.guard }], guard := some (2, true) }) (v := ?_) rfl (by kernel_rfl) (by kernel_rfl) (by kernel_rfl) (fun _ _ _ h => h) (Or.inl ⟨by rfl, ?_⟩) (by assumption) ?_
  rotate_left
  · (intro w hSw; (try dsimp only at hSw); go_simp; (try (with_reducible rfl)))
  try simp only [Act.put, List.setIfInBounds_toArray, List.set_cons_zero, List.set_cons_succ]
  refine wpAnyH_take (i := 6) (oi := { dst := some 26, op := Go.Op.load 41 (Go.Operand.tmp 1), type := 41, pos := "law.go:18", after := #[{ on := 2, ground := Go.Ground.guard }], guard := some (2, true) }) (v := ?_) rfl (by kernel_rfl) (by kernel_rfl) (by kernel_rfl) (fun _ _ _ h => h) (Or.inl ⟨by rfl, ?_⟩) (by assumption) ?_
  rotate_left
  · (intro w hSw; (try dsimp only at hSw); go_simp; (try (with_reducible rfl)))
  try simp only [Act.put, List.setIfInBounds_toArray, List.set_cons_zero, List.set_cons_succ]
  refine wpAnyH_ready (rs := [4, 7]) (by kernel_rfl) (by simp) ?_
  refine (AllReadyH.cons (o := { dst := some 24, op := Go.Op.call { callee := Go.Callee.value (Go.Operand.func 13), args := #[Go.Operand.tmp 23], argTypes := #[27] }, type := 31, pos := "law.go:18", after := #[{ on := 3, ground := Go.Ground.data }, { on := 2, ground := Go.Ground.chain }, { on := 2, ground := Go.Ground.guard }], guard := some (2, true) }) rfl (fun K hK => ?_) (AllReadyH.cons (o := { dst := some 27, op := Go.Op.buildSlice 35 2 #[(0, Go.Operand.tmp 25), (1, Go.Operand.tmp 26)], type := 35, pos := "law.go:18", after := #[{ on := 5, ground := Go.Ground.data }, { on := 6, ground := Go.Ground.data }, { on := 2, ground := Go.Ground.guard }], guard := some (2, true) }) rfl (fun K hK => ?_) AllReadyH.nil))
  go_simp
  refine (hCo.out _ _ lc hst).mono ?_
  rintro e wA ⟨cv, X, HA1, rfl, lA, hA1, enA, hXr, hXo, hXe⟩
  obtain ⟨cv1, cv2, cv3, rfl, _⟩ := hXr.form
  try replace hab := hab.mono lA
  try replace haz := haz.mono lA
  replace lc := Hp.le_trans lc lA
  replace hst := hA1
  replace en5 := en5.trans enA
  refine hK.out _ _ (kk _ _ _ lc hst) (fun hHeld => ?_)
  clear hK K
  try simp only [Act.put, List.setIfInBounds_toArray, List.set_cons_zero, List.set_cons_succ]
  refine wpAnyH_ready (rs := [7]) (by kernel_rfl) (by simp) ?_
  refine AllReadyH.cons (o := { dst := some 27, op := Go.Op.buildSlice 35 2 #[(0, Go.Operand.tmp 25), (1, Go.Operand.tmp 26)], type := 35, pos := "law.go:18", after := #[{ on := 5, ground := Go.Ground.data }, { on := 6, ground := Go.Ground.data }, { on := 2, ground := Go.Ground.guard }], guard := some (2, true) }) rfl (fun K hK => ?_) AllReadyH.nil
  go_simp
  have hB1 := hst.row_lit 41 2 2 #[.int .i64 1, .int .i64 2, .int .i64 1, .int .i64 1] rfl (by decide)
  replace en5 := en5.alloc (.cells #[.int .i64 1, .int .i64 2, .int .i64 1, .int .i64 1] 41)
  obtain ⟨HB, lB, hB2, hab⟩ := hB1.row_keep
  try rw [World.size_alloc] at hab
  replace hab : Rd HB 2 _ (idl [(1, 2), (1, 1)]) := hab
  try replace hXr := hXr.mono lB
  try replace hXo := hXo.mono lB
  replace lc := Hp.le_trans lc lB
  replace hst := hB2
  refine hK.out _ _ (kk _ _ _ lc hst) (fun hHeld => ?_)
  clear hK K
  try simp only [Act.put, List.setIfInBounds_toArray, List.set_cons_zero, List.set_cons_succ]
  refine wpAnyH_ready (rs := [8]) (by kernel_rfl) (by simp) ?_
  refine AllReadyH.cons (o := { dst := some 28, op := Go.Op.buildSlice 31 1 #[(0, Go.Operand.tmp 27)], type := 31, pos := "law.go:18", after := #[{ on := 7, ground := Go.Ground.data }, { on := 2, ground := Go.Ground.guard }], guard := some (2, true) }) rfl (fun K hK => ?_) AllReadyH.nil
  go_simp
  obtain ⟨HZ, lZ, hZ, enZ, haz⟩ := lay1 hst hab
  try rw [World.size_alloc] at haz
  try replace hXr := hXr.mono lZ
  try replace hXo := hXo.mono lZ
  replace hab := hab.mono lZ
  replace lc := Hp.le_trans lc lZ
  replace hst := hZ
  replace en5 := en5.trans enZ
  refine hK.out _ _ (kk _ _ _ lc hst) (fun hHeld => ?_)
  clear hK K
  try simp only [Act.put, List.setIfInBounds_toArray, List.set_cons_zero, List.set_cons_succ]
  refine wpAnyH_ready (rs := [9]) (by kernel_rfl) (by simp) ?_
  refine AllReadyH.cons (o := { dst := some 29, op := Go.Op.call { callee := Go.Callee.value (Go.Operand.func 12), args := #[Go.Operand.tmp 24, Go.Operand.tmp 28], argTypes := #[31, 31] }, type := 4, pos := "law.go:18", after := #[{ on := 4, ground := Go.Ground.data }, { on := 8, ground := Go.Ground.data }, { on := 4, ground := Go.Ground.chain }, { on := 2, ground := Go.Ground.guard }], guard := some (2, true) }) rfl (fun K hK => ?_) AllReadyH.nil
  go_simp
  refine (same17 hXe ⟨hXr.rw hst, fun x hx => (hXo x hx).rw hst⟩ (haz.rw hst) (hab.rw hst)).mono ?_
  rintro e wC ⟨rfl, hbC⟩
  replace hst := hst.below hbC
  replace en5 := en5.trans (bel_env hbC)
  refine hK.out _ _ (kk _ _ _ lc hst) (fun hHeld => ?_)
  clear hK K
  try simp only [Act.put, List.setIfInBounds_toArray, List.set_cons_zero, List.set_cons_succ]
  refine wpAnyH_take (i := 10) (oi := { dst := some 30, op := Go.Op.pick (Go.Operand.tmp 22) (Go.Operand.tmp 29) (Go.Operand.const (Go.Value.bool false)), type := 4, pos := "law.go:18", after := #[{ on := 2, ground := Go.Ground.data }, { on := 9, ground := Go.Ground.data }], guard := none }) (v := ?_) rfl (by kernel_rfl) (by kernel_rfl) (by kernel_rfl) (fun _ _ _ h => h) (Or.inl ⟨by rfl, ?_⟩) (by assumption) ?_
  rotate_left
  · (intro w hSw; (try dsimp only at hSw); go_simp; (try (with_reducible rfl)))
  try simp only [Act.put, List.setIfInBounds_toArray, List.set_cons_zero, List.set_cons_succ]
  refine wpAnyH_take (i := 11) (oi := { dst := some 31, op := Go.Op.move (Go.Operand.tmp 30), type := 4, pos := "law.go:18", after := #[{ on := 10, ground := Go.Ground.data }, { on := 9, ground := Go.Ground.chain }], guard := none }) (v := ?_) rfl (by kernel_rfl) (by kernel_rfl) (by kernel_rfl) (fun _ _ _ h => h) (Or.inl ⟨by rfl, ?_⟩) (by assumption) ?_
  rotate_left
  · (intro w hSw; (try dsimp only at hSw); go_simp; (try (with_reducible rfl)))
  try simp only [Act.put, List.setIfInBounds_toArray, List.set_cons_zero, List.set_cons_succ]
  refine wpAnyH_take (i := 12) (oi := { dst := some 32, op := Go.Op.move (Go.Operand.tmp 3), type := 27, pos := "law.go:18", after := #[{ on := 11, ground := Go.Ground.guard }], guard := some (11, true) }) (v := ?_) rfl (by kernel_rfl) (by kernel_rfl) (by kernel_rfl) (fun _ _ _ h => h) (Or.inl ⟨by rfl, ?_⟩) (by assumption) ?_
  rotate_left
  · (intro w hSw; (try dsimp only at hSw); go_simp; (try (with_reducible rfl)))
  try simp only [Act.put, List.setIfInBounds_toArray, List.set_cons_zero, List.set_cons_succ]
  refine wpAnyH_take (i := 13) (oi := { dst := some 33, op := Go.Op.load 41 (Go.Operand.tmp 1), type := 41, pos := "law.go:18", after := #[{ on := 11, ground := Go.Ground.guard }], guard := some (11, true) }) (v := ?_) rfl (by kernel_rfl) (by kernel_rfl) (by kernel_rfl) (fun _ _ _ h => h) (Or.inl ⟨by rfl, ?_⟩) (by assumption) ?_
  rotate_left
  · (intro w hSw; (try dsimp only at hSw); go_simp; (try (with_reducible rfl)))
  try simp only [Act.put, List.setIfInBounds_toArray, List.set_cons_zero, List.set_cons_succ]
  refine wpAnyH_take (i := 14) (oi := { dst := some 34, op := Go.Op.load 41 (Go.Operand.tmp 2), type := 41, pos := "law.go:18", after := #[{ on := 11, ground := Go.Ground.guard }], guard := some (11, true) }) (v := ?_) rfl (by kernel_rfl) (by kernel_rfl) (by kernel_rfl) (fun _ _ _ h => h) (Or.inl ⟨by rfl, ?_⟩) (by assumption) ?_
  rotate_left
  · (intro w hSw; (try dsimp only at hSw); go_simp; (try (with_reducible rfl)))
  try simp only [Act.put, List.setIfInBounds_toArray, List.set_cons_zero, List.set_cons_succ]
  refine wpAnyH_ready (rs := [15]) (by kernel_rfl) (by simp) ?_
  refine AllReadyH.cons (o := { dst := some 35, op := Go.Op.call { callee := Go.Callee.value (Go.Operand.func 18), args := #[Go.Operand.tmp 32, Go.Operand.tmp 33, Go.Operand.tmp 34], argTypes := #[27, 41, 41] }, type := 4, pos := "law.go:18", after := #[{ on := 12, ground := Go.Ground.data }, { on := 13, ground := Go.Ground.data }, { on := 14, ground := Go.Ground.data }, { on := 11, ground := Go.Ground.chain }, { on := 11, ground := Go.Ground.guard }], guard := some (11, true) }) rfl (fun K hK => ?_) AllReadyH.nil
  go_simp
  refine (hMu.out _ _ lc hst).mono ?_
  rintro e wD ⟨HD, rfl, lD, hD, enD⟩
  replace lc := Hp.le_trans lc lD
  replace hst := hD
  replace en5 := en5.trans enD
  refine hK.out _ _ (kk _ _ _ lc hst) (fun hHeld => ?_)
  clear hK K
  try simp only [Act.put, List.setIfInBounds_toArray, List.set_cons_zero, List.set_cons_succ]
  refine wpAnyH_take (i := 16) (oi := { dst := some 36, op := Go.Op.pick (Go.Operand.tmp 31) (Go.Operand.tmp 35) (Go.Operand.const (Go.Value.bool false)), type := 4, pos := "law.go:18", after := #[{ on := 11, ground := Go.Ground.data }, { on := 15, ground := Go.Ground.data }], guard := none }) (v := ?_) rfl (by kernel_rfl) (by kernel_rfl) (by kernel_rfl) (fun _ _ _ h => h) (Or.inl ⟨by rfl, ?_⟩) (by assumption) ?_
  rotate_left
  · (intro w hSw; (try dsimp only at hSw); go_simp; (try (with_reducible rfl)))
  try simp only [Act.put, List.setIfInBounds_toArray, List.set_cons_zero, List.set_cons_succ]
  refine wpAnyH_take (i := 17) (oi := { dst := some 37, op := Go.Op.move (Go.Operand.tmp 36), type := 4, pos := "law.go:18", after := #[{ on := 16, ground := Go.Ground.data }, { on := 15, ground := Go.Ground.chain }], guard := none }) (v := ?_) rfl (by kernel_rfl) (by kernel_rfl) (by kernel_rfl) (fun _ _ _ h => h) (Or.inl ⟨by rfl, ?_⟩) (by assumption) ?_
  rotate_left
  · (intro w hSw; (try dsimp only at hSw); go_simp; (try (with_reducible rfl)))
  try simp only [Act.put, List.setIfInBounds_toArray, List.set_cons_zero, List.set_cons_succ]
  refine wpAnyH_take (i := 18) (oi := { dst := some 38, op := Go.Op.load 41 (Go.Operand.tmp 1), type := 41, pos := "law.go:18", after := #[{ on := 17, ground := Go.Ground.guard }], guard := some (17, true) }) (v := ?_) rfl (by kernel_rfl) (by kernel_rfl) (by kernel_rfl) (fun _ _ _ h => h) (Or.inl ⟨by rfl, ?_⟩) (by assumption) ?_
  rotate_left
  · (intro w hSw; (try dsimp only at hSw); go_simp; (try (with_reducible rfl)))
  try simp only [Act.put, List.setIfInBounds_toArray, List.set_cons_zero, List.set_cons_succ]
  refine wpAnyH_take (i := 20) (oi := { dst := some 40, op := Go.Op.load 41 (Go.Operand.tmp 2), type := 41, pos := "law.go:18", after := #[{ on := 17, ground := Go.Ground.guard }], guard := some (17, true) }) (v := ?_) rfl (by kernel_rfl) (by kernel_rfl) (by kernel_rfl) (fun _ _ _ h => h) (Or.inl ⟨by rfl, ?_⟩) (by assumption) ?_
  rotate_left
  · (intro w hSw; (try dsimp only at hSw); go_simp; (try (with_reducible rfl)))
  try simp only [Act.put, List.setIfInBounds_toArray, List.set_cons_zero, List.set_cons_succ]
  refine wpAnyH_take (i := 23) (oi := { dst := some 43, op := Go.Op.load 41 (Go.Operand.tmp 2), type := 41, pos := "law.go:18", after := #[{ on := 17, ground := Go.Ground.guard }], guard := some (17, true) }) (v := ?_) rfl (by kernel_rfl) (by kernel_rfl) (by kernel_rfl) (fun _ _ _ h => h) (Or.inl ⟨by rfl, ?_⟩) (by assumption) ?_
  rotate_left
  · (intro w hSw; (try dsimp only at hSw); go_simp; (try (with_reducible rfl)))
  try simp only [Act.put, List.setIfInBounds_toArray, List.set_cons_zero, List.set_cons_succ]
  refine wpAnyH_ready (rs := [19, 21]) (by kernel_rfl) (by simp) ?_
  refine (AllReadyH.cons (o := { dst := some 39, op := Go.Op.buildSlice 35 1 #[(0, Go.Operand.tmp 38)], type := 35, pos := "law.go:18", after := #[{ on := 18, ground := Go.Ground.data }, { on := 17, ground := Go.Ground.guard }], guard := some (17, true) }) rfl (fun K hK => ?_) (AllReadyH.cons (o := { dst := some 41, op := Go.Op.buildSlice 35 1 #[(0, Go.Operand.tmp 40)], type := 35, pos := "law.go:18", after := #[{ on := 20, ground := Go.Ground.data }, { on := 17, ground := Go.Ground.guard }], guard := some (17, true) }) rfl (fun K hK => ?_) AllReadyH.nil))
  go_simp
  have hG1 := hst.row_lit 41 2 1 #[.int .i64 1, .int .i64 1] rfl (by decide)
  replace en5 := en5.alloc (.cells #[.int .i64 1, .int .i64 1] 41)
  obtain ⟨HG, lG, hG2, haa⟩ := hG1.row_keep
  try rw [World.size_alloc] at haa
  replace haa : Rd HG 2 _ (idl [(1, 1)]) := haa
  try replace hbb := hbb.mono lG
  replace lc := Hp.le_trans lc lG
  replace hst := hG2
  refine hK.out _ _ (kk _ _ _ lc hst) (fun hHeld => ?_)
  clear hK K
  try simp only [Act.put, List.setIfInBounds_toArray, List.set_cons_zero, List.set_cons_succ]
  refine wpAnyH_ready (rs := [21]) (by kernel_rfl) (by simp) ?_
  refine AllReadyH.cons (o := { dst := some 41, op := Go.Op.buildSlice 35 1 #[(0, Go.Operand.tmp 40)], type := 35, pos := "law.go:18", after := #[{ on := 20, ground := Go.Ground.data }, { on := 17, ground := Go.Ground.guard }], guard := some (17, true) }) rfl (fun K hK => ?_) AllReadyH.nil
  go_simp
  have hG1 := hst.row_lit 41 2 1 #[.int .i64 1, .int .i64 2] rfl (by decide)
  replace en5 := en5.alloc (.cells #[.int .i64 1, .int .i64 2] 41)
  obtain ⟨HG, lG, hG2, hbb⟩ := hG1.row_keep
  try rw [World.size_alloc] at hbb
  replace hbb : Rd HG 2 _ (idl [(1, 2)]) := hbb
  try replace haa := haa.mono lG
  replace lc := Hp.le_trans lc lG
  replace hst := hG2
  refine hK.out _ _ (kk _ _ _ lc hst) (fun hHeld => ?_)
  clear hK K
  try simp only [Act.put, List.setIfInBounds_toArray, List.set_cons_zero, List.set_cons_succ]
  refine wpAnyH_ready (rs := [22]) (by kernel_rfl) (by simp) ?_
  refine AllReadyH.cons (o := { dst := some 42, op := Go.Op.buildSlice 31 2 #[(0, Go.Operand.tmp 39), (1, Go.Operand.tmp 41)], type := 31, pos := "law.go:18", after := #[{ on := 19, ground := Go.Ground.data }, { on := 21, ground := Go.Ground.data }, { on := 17, ground := Go.Ground.guard }], guard := some (17, true) }) rfl (fun K hK => ?_) AllReadyH.nil
  go_simp
  obtain ⟨HY, lY, hY, enY, hyy⟩ := lay2 hst haa hbb
  try rw [World.size_alloc, World.size_alloc] at hyy
  replace haa := haa.mono lY
  replace hbb := hbb.mono lY
  replace lc := Hp.le_trans lc lY
  replace hst := hY
  replace en5 := en5.trans enY
  refine hK.out _ _ (kk _ _ _ lc hst) (fun hHeld => ?_)
  clear hK K
  try simp only [Act.put, List.setIfInBounds_toArray, List.set_cons_zero, List.set_cons_succ]
  refine wpAnyH_ready (rs := [24]) (by kernel_rfl) (by simp) ?_
  refine AllReadyH.cons (o := { dst := some 44, op := Go.Op.call { callee := Go.Callee.value (Go.Operand.func 20), args := #[Go.Operand.tmp 42, Go.Operand.tmp 43], argTypes := #[31, 41] }, type := 3, pos := "law.go:18", after := #[{ on := 22, ground := Go.Ground.data }, { on := 23, ground := Go.Ground.data }, { on := 17, ground := Go.Ground.chain }, { on := 17, ground := Go.Ground.guard }], guard := some (17, true) }) rfl (fun K hK => ?_) AllReadyH.nil
  go_simp
  refine (at17 (hyy.rw hst) (haa.rw hst) (hbb.rw hst)).mono ?_
  rintro e wF ⟨rfl, hbF⟩
  replace hst := hst.below hbF
  replace en5 := en5.trans (bel_env hbF)
  refine hK.out _ _ (kk _ _ _ lc hst) (fun hHeld => ?_)
  clear hK K
  try simp only [Act.put, List.setIfInBounds_toArray, List.set_cons_zero, List.set_cons_succ]
  refine wpAnyH_take (i := 25) (oi := { dst := some 45, op := Go.Op.binOp Go.BinOp.eql 3 (Go.Operand.tmp 44) (Go.Operand.const (Go.Value.int Go.IntKind.i64 1)) 3, type := 4, pos := "law.go:18", after := #[{ on := 24, ground := Go.Ground.data }, { on := 17, ground := Go.Ground.guard }], guard := some (17, true) }) (v := ?_) rfl (by kernel_rfl) (by kernel_rfl) (by kernel_rfl) (fun _ _ _ h => h) (Or.inl ⟨by rfl, ?_⟩) (by assumption) ?_
  rotate_left
  · (intro w hSw; (try dsimp only at hSw); go_simp; (try (with_reducible rfl)))
  try simp only [Act.put, List.setIfInBounds_toArray, List.set_cons_zero, List.set_cons_succ]
  refine wpAnyH_take (i := 26) (oi := { dst := some 46, op := Go.Op.pick (Go.Operand.tmp 37) (Go.Operand.tmp 45) (Go.Operand.const (Go.Value.bool false)), type := 4, pos := "law.go:18", after := #[{ on := 17, ground := Go.Ground.data }, { on := 25, ground := Go.Ground.data }], guard := none }) (v := ?_) rfl (by kernel_rfl) (by kernel_rfl) (by kernel_rfl) (fun _ _ _ h => h) (Or.inl ⟨by rfl, ?_⟩) (by assumption) ?_
  rotate_left
  · (intro w hSw; (try dsimp only at hSw); go_simp; (try (with_reducible rfl)))
  try simp only [Act.put, List.setIfInBounds_toArray, List.set_cons_zero, List.set_cons_succ]
  refine wpAnyH_take (i := 27) (oi := { dst := some 0, op := Go.Op.assign (Go.Operand.tmp 46), type := 4, pos := "law.go:18", after := #[{ on := 26, ground := Go.Ground.data }, { on := 24, ground := Go.Ground.chain }, { on := 0, ground := Go.Ground.phase }, { on := 1, ground := Go.Ground.phase }, { on := 2, ground := Go.Ground.phase }, { on := 3, ground := Go.Ground.phase }, { on := 4, ground := Go.Ground.phase }, { on := 5, ground := Go.Ground.phase }, { on := 6, ground := Go.Ground.phase }, { on := 7, ground := Go.Ground.phase }, { on := 8, ground := Go.Ground.phase }, { on := 9, ground := Go.Ground.phase }, { on := 10, ground := Go.Ground.phase }, { on := 11, ground := Go.Ground.phase }, { on := 12, ground := Go.Ground.phase }, { on := 13, ground := Go.Ground.phase }, { on := 14, ground := Go.Ground.phase }, { on := 15, ground := Go.Ground.phase }, { on := 16, ground := Go.Ground.phase }, { on := 17, ground := Go.Ground.phase }, { on := 18, ground := Go.Ground.phase }, { on := 19, ground := Go.Ground.phase }, { on := 20, ground := Go.Ground.phase }, { on := 21, ground := Go.Ground.phase }, { on := 22, ground := Go.Ground.phase }, { on := 23, ground := Go.Ground.phase }, { on := 24, ground := Go.Ground.phase }, { on := 25, ground := Go.Ground.phase }, { on := 26, ground := Go.Ground.phase }], guard := none }) (v := ?_) rfl (by kernel_rfl) (by kernel_rfl) (by kernel_rfl) (fun _ _ _ h => h) (Or.inl ⟨by rfl, ?_⟩) (by assumption) ?_
  rotate_left
  · (intro w hSw; (try dsimp only at hSw); go_simp; (try (with_reducible rfl)))
  try simp only [Act.put, List.setIfInBounds_toArray, List.set_cons_zero, List.set_cons_succ]
  refine wpAnyH_done (by kernel_rfl) ?_ _
  rotate_left
  go_simp
  have hG1 := hst.row_lit 41 2 1 #[.int .i64 1, .int .i64 2] rfl (by decide)
  replace en5 := en5.alloc (.cells #[.int .i64 1, .int .i64 2] 41)
  obtain ⟨HG, lG, hG2, hbb⟩ := hG1.row_keep
  try rw [World.size_alloc] at hbb
  replace hbb : Rd HG 2 _ (idl [(1, 2)]) := hbb
  try replace haa := haa.mono lG
  replace lc := Hp.le_trans lc lG
  replace hst := hG2
  refine hK.out _ _ (kk _ _ _ lc hst) (fun hHeld => ?_)
  clear hK K
  try simp only [Act.put, List.setIfInBounds_toArray, List.set_cons_zero, List.set_cons_succ]
  refine wpAnyH_ready (rs := [19]) (by kernel_rfl) (by simp) ?_
  refine AllReadyH.cons (o := { dst := some 39, op := Go.Op.buildSlice 35 1 #[(0, Go.Operand.tmp 38)], type := 35, pos := "law.go:18", after := #[{ on := 18, ground := Go.Ground.data }, { on := 17, ground := Go.Ground.guard }], guard := some (17, true) }) rfl (fun K hK => ?_) AllReadyH.nil
  go_simp
  have hG1 := hst.row_lit 41 2 1 #[.int .i64 1, .int .i64 1] rfl (by decide)
  replace en5 := en5.alloc (.cells #[.int .i64 1, .int .i64 1] 41)
  obtain ⟨HG, lG, hG2, haa⟩ := hG1.row_keep
  try rw [World.size_alloc] at haa
  replace haa : Rd HG 2 _ (idl [(1, 1)]) := haa
  try replace hbb := hbb.mono lG
  replace lc := Hp.le_trans lc lG
  replace hst := hG2
  refine hK.out _ _ (kk _ _ _ lc hst) (fun hHeld => ?_)
  clear hK K
  try simp only [Act.put, List.setIfInBounds_toArray, List.set_cons_zero, List.set_cons_succ]
  refine wpAnyH_ready (rs := [22]) (by kernel_rfl) (by simp) ?_
  refine AllReadyH.cons (o := { dst := some 42, op := Go.Op.buildSlice 31 2 #[(0, Go.Operand.tmp 39), (1, Go.Operand.tmp 41)], type := 31, pos := "law.go:18", after := #[{ on := 19, ground := Go.Ground.data }, { on := 21, ground := Go.Ground.data }, { on := 17, ground := Go.Ground.guard }], guard := some (17, true) }) rfl (fun K hK => ?_) AllReadyH.nil
  go_simp
  obtain ⟨HY, lY, hY, enY, hyy⟩ := lay2 hst haa hbb
  try rw [World.size_alloc, World.size_alloc] at hyy
  replace haa := haa.mono lY
  replace hbb := hbb.mono lY
  replace lc := Hp.le_trans lc lY
  replace hst := hY
  replace en5 := en5.trans enY
  refine hK.out _ _ (kk _ _ _ lc hst) (fun hHeld => ?_)
  clear hK K
  try simp only [Act.put, List.setIfInBounds_toArray, List.set_cons_zero, List.set_cons_succ]
  refine wpAnyH_ready (rs := [24]) (by kernel_rfl) (by simp) ?_
  refine AllReadyH.cons (o := { dst := some 44, op := Go.Op.call { callee := Go.Callee.value (Go.Operand.func 20), args := #[Go.Operand.tmp 42, Go.Operand.tmp 43], argTypes := #[31, 41] }, type := 3, pos := "law.go:18", after := #[{ on := 22, ground := Go.Ground.data }, { on := 23, ground := Go.Ground.data }, { on := 17, ground := Go.Ground.chain }, { on := 17, ground := Go.Ground.guard }], guard := some (17, true) }) rfl (fun K hK => ?_) AllReadyH.nil
  go_simp
  refine (at17 (hyy.rw hst) (haa.rw hst) (hbb.rw hst)).mono ?_
  rintro e wF ⟨rfl, hbF⟩
  replace hst := hst.below hbF
  replace en5 := en5.trans (bel_env hbF)
  refine hK.out _ _ (kk _ _ _ lc hst) (fun hHeld => ?_)
  clear hK K
  try simp only [Act.put, List.setIfInBounds_toArray, List.set_cons_zero, List.set_cons_succ]
  refine wpAnyH_take (i := 25) (oi := { dst := some 45, op := Go.Op.binOp Go.BinOp.eql 3 (Go.Operand.tmp 44) (Go.Operand.const (Go.Value.int Go.IntKind.i64 1)) 3, type := 4, pos := "law.go:18", after := #[{ on := 24, ground := Go.Ground.data }, { on := 17, ground := Go.Ground.guard }], guard := some (17, true) }) (v := ?_) rfl (by kernel_rfl) (by kernel_rfl) (by kernel_rfl) (fun _ _ _ h => h) (Or.inl ⟨by rfl, ?_⟩) (by assumption) ?_
  rotate_left
  · (intro w hSw; (try dsimp only at hSw); go_simp; (try (with_reducible rfl)))
  try simp only [Act.put, List.setIfInBounds_toArray, List.set_cons_zero, List.set_cons_succ]
  refine wpAnyH_take (i := 26) (oi := { dst := some 46, op := Go.Op.pick (Go.Operand.tmp 37) (Go.Operand.tmp 45) (Go.Operand.const (Go.Value.bool false)), type := 4, pos := "law.go:18", after := #[{ on := 17, ground := Go.Ground.data }, { on := 25, ground := Go.Ground.data }], guard := none }) (v := ?_) rfl (by kernel_rfl) (by kernel_rfl) (by kernel_rfl) (fun _ _ _ h => h) (Or.inl ⟨by rfl, ?_⟩) (by assumption) ?_
  rotate_left
  · (intro w hSw; (try dsimp only at hSw); go_simp; (try (with_reducible rfl)))
  try simp only [Act.put, List.setIfInBounds_toArray, List.set_cons_zero, List.set_cons_succ]
  refine wpAnyH_take (i := 27) (oi := { dst := some 0, op := Go.Op.assign (Go.Operand.tmp 46), type := 4, pos := "law.go:18", after := #[{ on := 26, ground := Go.Ground.data }, { on := 24, ground := Go.Ground.chain }, { on := 0, ground := Go.Ground.phase }, { on := 1, ground := Go.Ground.phase }, { on := 2, ground := Go.Ground.phase }, { on := 3, ground := Go.Ground.phase }, { on := 4, ground := Go.Ground.phase }, { on := 5, ground := Go.Ground.phase }, { on := 6, ground := Go.Ground.phase }, { on := 7, ground := Go.Ground.phase }, { on := 8, ground := Go.Ground.phase }, { on := 9, ground := Go.Ground.phase }, { on := 10, ground := Go.Ground.phase }, { on := 11, ground := Go.Ground.phase }, { on := 12, ground := Go.Ground.phase }, { on := 13, ground := Go.Ground.phase }, { on := 14, ground := Go.Ground.phase }, { on := 15, ground := Go.Ground.phase }, { on := 16, ground := Go.Ground.phase }, { on := 17, ground := Go.Ground.phase }, { on := 18, ground := Go.Ground.phase }, { on := 19, ground := Go.Ground.phase }, { on := 20, ground := Go.Ground.phase }, { on := 21, ground := Go.Ground.phase }, { on := 22, ground := Go.Ground.phase }, { on := 23, ground := Go.Ground.phase }, { on := 24, ground := Go.Ground.phase }, { on := 25, ground := Go.Ground.phase }, { on := 26, ground := Go.Ground.phase }], guard := none }) (v := ?_) rfl (by kernel_rfl) (by kernel_rfl) (by kernel_rfl) (fun _ _ _ h => h) (Or.inl ⟨by rfl, ?_⟩) (by assumption) ?_
  rotate_left
  · (intro w hSw; (try dsimp only at hSw); go_simp; (try (with_reducible rfl)))
  try simp only [Act.put, List.setIfInBounds_toArray, List.set_cons_zero, List.set_cons_succ]
  refine wpAnyH_done (by kernel_rfl) ?_ _
  rotate_left
  go_simp
  have hB1 := hst.row_lit 41 2 2 #[.int .i64 1, .int .i64 2, .int .i64 1, .int .i64 1] rfl (by decide)
  replace en5 := en5.alloc (.cells #[.int .i64 1, .int .i64 2, .int .i64 1, .int .i64 1] 41)
  obtain ⟨HB, lB, hB2, hab⟩ := hB1.row_keep
  try rw [World.size_alloc] at hab
  replace hab : Rd HB 2 _ (idl [(1, 2), (1, 1)]) := hab
  try replace hXr := hXr.mono lB
  try replace hXo := hXo.mono lB
  replace lc := Hp.le_trans lc lB
  replace hst := hB2
  refine hK.out _ _ (kk _ _ _ lc hst) (fun hHeld => ?_)
  clear hK K
  try simp only [Act.put, List.setIfInBounds_toArray, List.set_cons_zero, List.set_cons_succ]
  refine wpAnyH_ready (rs := [4, 8]) (by kernel_rfl) (by simp) ?_
  refine (AllReadyH.cons (o := { dst := some 24, op := Go.Op.call { callee := Go.Callee.value (Go.Operand.func 13), args := #[Go.Operand.tmp 23], argTypes := #[27] }, type := 31, pos := "law.go:18", after := #[{ on := 3, ground := Go.Ground.data }, { on := 2, ground := Go.Ground.chain }, { on := 2, ground := Go.Ground.guard }], guard := some (2, true) }) rfl (fun K hK => ?_) (AllReadyH.cons (o := { dst := some 28, op := Go.Op.buildSlice 31 1 #[(0, Go.Operand.tmp 27)], type := 31, pos := "law.go:18", after := #[{ on := 7, ground := Go.Ground.data }, { on := 2, ground := Go.Ground.guard }], guard := some (2, true) }) rfl (fun K hK => ?_) AllReadyH.nil))
  go_simp
  refine (hCo.out _ _ lc hst).mono ?_
  rintro e wA ⟨cv, X, HA1, rfl, lA, hA1, enA, hXr, hXo, hXe⟩
  obtain ⟨cv1, cv2, cv3, rfl, _⟩ := hXr.form
  try replace hab := hab.mono lA
  try replace haz := haz.mono lA
  replace lc := Hp.le_trans lc lA
  replace hst := hA1
  replace en5 := en5.trans enA
  refine hK.out _ _ (kk _ _ _ lc hst) (fun hHeld => ?_)
  clear hK K
  try simp only [Act.put, List.setIfInBounds_toArray, List.set_cons_zero, List.set_cons_succ]
  refine wpAnyH_ready (rs := [8]) (by kernel_rfl) (by simp) ?_
  refine AllReadyH.cons (o := { dst := some 28, op := Go.Op.buildSlice 31 1 #[(0, Go.Operand.tmp 27)], type := 31, pos := "law.go:18", after := #[{ on := 7, ground := Go.Ground.data }, { on := 2, ground := Go.Ground.guard }], guard := some (2, true) }) rfl (fun K hK => ?_) AllReadyH.nil
  go_simp
  obtain ⟨HZ, lZ, hZ, enZ, haz⟩ := lay1 hst hab
  try rw [World.size_alloc] at haz
  try replace hXr := hXr.mono lZ
  try replace hXo := hXo.mono lZ
  replace hab := hab.mono lZ
  replace lc := Hp.le_trans lc lZ
  replace hst := hZ
  replace en5 := en5.trans enZ
  refine hK.out _ _ (kk _ _ _ lc hst) (fun hHeld => ?_)
  clear hK K
  try simp only [Act.put, List.setIfInBounds_toArray, List.set_cons_zero, List.set_cons_succ]
  refine wpAnyH_ready (rs := [9]) (by kernel_rfl) (by simp) ?_
  refine AllReadyH.cons (o := { dst := some 29, op := Go.Op.call { callee := Go.Callee.value (Go.Operand.func 12), args := #[Go.Operand.tmp 24, Go.Operand.tmp 28], argTypes := #[31, 31] }, type := 4, pos := "law.go:18", after := #[{ on := 4, ground := Go.Ground.data }, { on := 8, ground := Go.Ground.data }, { on := 4, ground := Go.Ground.chain }, { on := 2, ground := Go.Ground.guard }], guard := some (2, true) }) rfl (fun K hK => ?_) AllReadyH.nil
  go_simp
  refine (same17 hXe ⟨hXr.rw hst, fun x hx => (hXo x hx).rw hst⟩ (haz.rw hst) (hab.rw hst)).mono ?_
  rintro e wC ⟨rfl, hbC⟩
  replace hst := hst.below hbC
  replace en5 := en5.trans (bel_env hbC)
  refine hK.out _ _ (kk _ _ _ lc hst) (fun hHeld => ?_)
  clear hK K
  try simp only [Act.put, List.setIfInBounds_toArray, List.set_cons_zero, List.set_cons_succ]
  refine wpAnyH_take (i := 10) (oi := { dst := some 30, op := Go.Op.pick (Go.Operand.tmp 22) (Go.Operand.tmp 29) (Go.Operand.const (Go.Value.bool false)), type := 4, pos := "law.go:18", after := #[{ on := 2, ground := Go.Ground.data }, { on := 9, ground := Go.Ground.data }], guard := none }) (v := ?_) rfl (by kernel_rfl) (by kernel_rfl) (by kernel_rfl) (fun _ _ _ h => h) (Or.inl ⟨by rfl, ?_⟩) (by assumption) ?_
  rotate_left
  · (intro w hSw; (try dsimp only at hSw); go_simp; (try (with_reducible rfl)))
  try simp only [Act.put, List.setIfInBounds_toArray, List.set_cons_zero, List.set_cons_succ]
  refine wpAnyH_take (i := 11) (oi := { dst := some 31, op := Go.Op.move (Go.Operand.tmp 30), type := 4, pos := "law.go:18", after := #[{ on := 10, ground := Go.Ground.data }, { on := 9, ground := Go.Ground.chain }], guard := none }) (v := ?_) rfl (by kernel_rfl) (by kernel_rfl) (by kernel_rfl) (fun _ _ _ h => h) (Or.inl ⟨by rfl, ?_⟩) (by assumption) ?_
  rotate_left
  · (intro w hSw; (try dsimp only at hSw); go_simp; (try (with_reducible rfl)))
  try simp only [Act.put, List.setIfInBounds_toArray, List.set_cons_zero, List.set_cons_succ]
  refine wpAnyH_take (i := 12) (oi := { dst := some 32, op := Go.Op.move (Go.Operand.tmp 3), type := 27, pos := "law.go:18", after := #[{ on := 11, ground := Go.Ground.guard }], guard := some (11, true) }) (v := ?_) rfl (by kernel_rfl) (by kernel_rfl) (by kernel_rfl) (fun _ _ _ h => h) (Or.inl ⟨by rfl, ?_⟩) (by assumption) ?_
  rotate_left
  · (intro w hSw; (try dsimp only at hSw); go_simp; (try (with_reducible rfl)))
  try simp only [Act.put, List.setIfInBounds_toArray, List.set_cons_zero, List.set_cons_succ]
  refine wpAnyH_take (i := 13) (oi := { dst := some 33, op := Go.Op.load 41 (Go.Operand.tmp 1), type := 41, pos := "law.go:18", after := #[{ on := 11, ground := Go.Ground.guard }], guard := some (11, true) }) (v := ?_) rfl (by kernel_rfl) (by kernel_rfl) (by kernel_rfl) (fun _ _ _ h => h) (Or.inl ⟨by rfl, ?_⟩) (by assumption) ?_
  rotate_left
  · (intro w hSw; (try dsimp only at hSw); go_simp; (try (with_reducible rfl)))
  try simp only [Act.put, List.setIfInBounds_toArray, List.set_cons_zero, List.set_cons_succ]
  refine wpAnyH_take (i := 14) (oi := { dst := some 34, op := Go.Op.load 41 (Go.Operand.tmp 2), type := 41, pos := "law.go:18", after := #[{ on := 11, ground := Go.Ground.guard }], guard := some (11, true) }) (v := ?_) rfl (by kernel_rfl) (by kernel_rfl) (by kernel_rfl) (fun _ _ _ h => h) (Or.inl ⟨by rfl, ?_⟩) (by assumption) ?_
  rotate_left
  · (intro w hSw; (try dsimp only at hSw); go_simp; (try (with_reducible rfl)))
  try simp only [Act.put, List.setIfInBounds_toArray, List.set_cons_zero, List.set_cons_succ]
  refine wpAnyH_ready (rs := [15]) (by kernel_rfl) (by simp) ?_
  refine AllReadyH.cons (o := { dst := some 35, op := Go.Op.call { callee := Go.Callee.value (Go.Operand.func 18), args := #[Go.Operand.tmp 32, Go.Operand.tmp 33, Go.Operand.tmp 34], argTypes := #[27, 41, 41] }, type := 4, pos := "law.go:18", after := #[{ on := 12, ground := Go.Ground.data }, { on := 13, ground := Go.Ground.data }, { on := 14, ground := Go.Ground.data }, { on := 11, ground := Go.Ground.chain }, { on := 11, ground := Go.Ground.guard }], guard := some (11, true) }) rfl (fun K hK => ?_) AllReadyH.nil
  go_simp
  refine (hMu.out _ _ lc hst).mono ?_
  rintro e wD ⟨HD, rfl, lD, hD, enD⟩
  replace lc := Hp.le_trans lc lD
  replace hst := hD
  replace en5 := en5.trans enD
  refine hK.out _ _ (kk _ _ _ lc hst) (fun hHeld => ?_)
  clear hK K
  try simp only [Act.put, List.setIfInBounds_toArray, List.set_cons_zero, List.set_cons_succ]
  refine wpAnyH_take (i := 16) (oi := { dst := some 36, op := Go.Op.pick (Go.Operand.tmp 31) (Go.Operand.tmp 35) (Go.Operand.const (Go.Value.bool false)), type := 4, pos := "law.go:18", after := #[{ on := 11, ground := Go.Ground.data }, { on := 15, ground := Go.Ground.data }], guard := none }) (v := ?_) rfl (by kernel_rfl) (by kernel_rfl) (by kernel_rfl) (fun _ _ _ h => h) (Or.inl ⟨by rfl, ?_⟩) (by assumption) ?_
  rotate_left
  · (intro w hSw; (try dsimp only at hSw); go_simp; (try (with_reducible rfl)))
  try simp only [Act.put, List.setIfInBounds_toArray, List.set_cons_zero, List.set_cons_succ]
  refine wpAnyH_take (i := 17) (oi := { dst := some 37, op := Go.Op.move (Go.Operand.tmp 36), type := 4, pos := "law.go:18", after := #[{ on := 16, ground := Go.Ground.data }, { on := 15, ground := Go.Ground.chain }], guard := none }) (v := ?_) rfl (by kernel_rfl) (by kernel_rfl) (by kernel_rfl) (fun _ _ _ h => h) (Or.inl ⟨by rfl, ?_⟩) (by assumption) ?_
  rotate_left
  · (intro w hSw; (try dsimp only at hSw); go_simp; (try (with_reducible rfl)))
  try simp only [Act.put, List.setIfInBounds_toArray, List.set_cons_zero, List.set_cons_succ]
  refine wpAnyH_take (i := 18) (oi := { dst := some 38, op := Go.Op.load 41 (Go.Operand.tmp 1), type := 41, pos := "law.go:18", after := #[{ on := 17, ground := Go.Ground.guard }], guard := some (17, true) }) (v := ?_) rfl (by kernel_rfl) (by kernel_rfl) (by kernel_rfl) (fun _ _ _ h => h) (Or.inl ⟨by rfl, ?_⟩) (by assumption) ?_
  rotate_left
  · (intro w hSw; (try dsimp only at hSw); go_simp; (try (with_reducible rfl)))
  try simp only [Act.put, List.setIfInBounds_toArray, List.set_cons_zero, List.set_cons_succ]
  refine wpAnyH_take (i := 20) (oi := { dst := some 40, op := Go.Op.load 41 (Go.Operand.tmp 2), type := 41, pos := "law.go:18", after := #[{ on := 17, ground := Go.Ground.guard }], guard := some (17, true) }) (v := ?_) rfl (by kernel_rfl) (by kernel_rfl) (by kernel_rfl) (fun _ _ _ h => h) (Or.inl ⟨by rfl, ?_⟩) (by assumption) ?_
  rotate_left
  · (intro w hSw; (try dsimp only at hSw); go_simp; (try (with_reducible rfl)))
  try simp only [Act.put, List.setIfInBounds_toArray, List.set_cons_zero, List.set_cons_succ]
  refine wpAnyH_take (i := 23) (oi := { dst := some 43, op := Go.Op.load 41 (Go.Operand.tmp 2), type := 41, pos := "law.go:18", after := #[{ on := 17, ground := Go.Ground.guard }], guard := some (17, true) }) (v := ?_) rfl (by kernel_rfl) (by kernel_rfl) (by kernel_rfl) (fun _ _ _ h => h) (Or.inl ⟨by rfl, ?_⟩) (by assumption) ?_
  rotate_left
  · (intro w hSw; (try dsimp only at hSw); go_simp; (try (with_reducible rfl)))
  try simp only [Act.put, List.setIfInBounds_toArray, List.set_cons_zero, List.set_cons_succ]
  refine wpAnyH_ready (rs := [19, 21]) (by kernel_rfl) (by simp) ?_
  refine (AllReadyH.cons (o := { dst := some 39, op := Go.Op.buildSlice 35 1 #[(0, Go.Operand.tmp 38)], type := 35, pos := "law.go:18", after := #[{ on := 18, ground := Go.Ground.data }, { on := 17, ground := Go.Ground.guard }], guard := some (17, true) }) rfl (fun K hK => ?_) (AllReadyH.cons (o := { dst := some 41, op := Go.Op.buildSlice 35 1 #[(0, Go.Operand.tmp 40)], type := 35, pos := "law.go:18", after := #[{ on := 20, ground := Go.Ground.data }, { on := 17, ground := Go.Ground.guard }], guard := some (17, true) }) rfl (fun K hK => ?_) AllReadyH.nil))
  go_simp
  have hG1 := hst.row_lit 41 2 1 #[.int .i64 1, .int .i64 1] rfl (by decide)
  replace en5 := en5.alloc (.cells #[.int .i64 1, .int .i64 1] 41)
  obtain ⟨HG, lG, hG2, haa⟩ := hG1.row_keep
  try rw [World.size_alloc] at haa
  replace haa : Rd HG 2 _ (idl [(1, 1)]) := haa
  try replace hbb := hbb.mono lG
  replace lc := Hp.le_trans lc lG
  replace hst := hG2
  refine hK.out _ _ (kk _ _ _ lc hst) (fun hHeld => ?_)
  clear hK K
  try simp only [Act.put, List.setIfInBounds_toArray, List.set_cons_zero, List.set_cons_succ]
  refine wpAnyH_ready (rs := [21]) (by kernel_rfl) (by simp) ?_
  refine AllReadyH.cons (o := { dst := some 41, op := Go.Op.buildSlice 35 1 #[(0, Go.Operand.tmp 40)], type := 35, pos := "law.go:18", after := #[{ on := 20, ground := Go.Ground.data }, { on := 17, ground := Go.Ground.guard }], guard := some (17, true) }) rfl (fun K hK => ?_) AllReadyH.nil
  go_simp
  have hG1 := hst.row_lit 41 2 1 #[.int .i64 1, .int .i64 2] rfl (by decide)
  replace en5 := en5.alloc (.cells #[.int .i64 1, .int .i64 2] 41)
  obtain ⟨HG, lG, hG2, hbb⟩ := hG1.row_keep
  try rw [World.size_alloc] at hbb
  replace hbb : Rd HG 2 _ (idl [(1, 2)]) := hbb
  try replace haa := haa.mono lG
  replace lc := Hp.le_trans lc lG
  replace hst := hG2
  refine hK.out _ _ (kk _ _ _ lc hst) (fun hHeld => ?_)
  clear hK K
  try simp only [Act.put, List.setIfInBounds_toArray, List.set_cons_zero, List.set_cons_succ]
  refine wpAnyH_ready (rs := [22]) (by kernel_rfl) (by simp) ?_
  refine AllReadyH.cons (o := { dst := some 42, op := Go.Op.buildSlice 31 2 #[(0, Go.Operand.tmp 39), (1, Go.Operand.tmp 41)], type := 31, pos := "law.go:18", after := #[{ on := 19, ground := Go.Ground.data }, { on := 21, ground := Go.Ground.data }, { on := 17, ground := Go.Ground.guard }], guard := some (17, true) }) rfl (fun K hK => ?_) AllReadyH.nil
  go_simp
  obtain ⟨HY, lY, hY, enY, hyy⟩ := lay2 hst haa hbb
  try rw [World.size_alloc, World.size_alloc] at hyy
  replace haa := haa.mono lY
  replace hbb := hbb.mono lY
  replace lc := Hp.le_trans lc lY
  replace hst := hY
  replace en5 := en5.trans enY
  refine hK.out _ _ (kk _ _ _ lc hst) (fun hHeld => ?_)
  clear hK K
  try simp only [Act.put, List.setIfInBounds_toArray, List.set_cons_zero, List.set_cons_succ]
  refine wpAnyH_ready (rs := [24]) (by kernel_rfl) (by simp) ?_
  refine AllReadyH.cons (o := { dst := some 44, op := Go.Op.call { callee := Go.Callee.value (Go.Operand.func 20), args := #[Go.Operand.tmp 42, Go.Operand.tmp 43], argTypes := #[31, 41] }, type := 3, pos := "law.go:18", after := #[{ on := 22, ground := Go.Ground.data }, { on := 23, ground := Go.Ground.data }, { on := 17, ground := Go.Ground.chain }, { on := 17, ground := Go.Ground.guard }], guard := some (17, true) }) rfl (fun K hK => ?_) AllReadyH.nil
  go_simp
  refine (at17 (hyy.rw hst) (haa.rw hst) (hbb.rw hst)).mono ?_
  rintro e wF ⟨rfl, hbF⟩
  replace hst := hst.below hbF
  replace en5 := en5.trans (bel_env hbF)
  refine hK.out _ _ (kk _ _ _ lc hst) (fun hHeld => ?_)
  clear hK K
  try simp only [Act.put, List.setIfInBounds_toArray, List.set_cons_zero, List.set_cons_succ]
  refine wpAnyH_take (i := 25) (oi := { dst := some 45, op := Go.Op.binOp Go.BinOp.eql 3 (Go.Operand.tmp 44) (Go.Operand.const (Go.Value.int Go.IntKind.i64 1)) 3, type := 4, pos := "law.go:18", after := #[{ on := 24, ground := Go.Ground.data }, { on := 17, ground := Go.Ground.guard }], guard := some (17, true) }) (v := ?_) rfl (by kernel_rfl) (by kernel_rfl) (by kernel_rfl) (fun _ _ _ h => h) (Or.inl ⟨by rfl, ?_⟩) (by assumption) ?_
  rotate_left
  · (intro w hSw; (try dsimp only at hSw); go_simp; (try (with_reducible rfl)))
  try simp only [Act.put, List.setIfInBounds_toArray, List.set_cons_zero, List.set_cons_succ]
  refine wpAnyH_take (i := 26) (oi := { dst := some 46, op := Go.Op.pick (Go.Operand.tmp 37) (Go.Operand.tmp 45) (Go.Operand.const (Go.Value.bool false)), type := 4, pos := "law.go:18", after := #[{ on := 17, ground := Go.Ground.data }, { on := 25, ground := Go.Ground.data }], guard := none }) (v := ?_) rfl (by kernel_rfl) (by kernel_rfl) (by kernel_rfl) (fun _ _ _ h => h) (Or.inl ⟨by rfl, ?_⟩) (by assumption) ?_
  rotate_left
  · (intro w hSw; (try dsimp only at hSw); go_simp; (try (with_reducible rfl)))
  try simp only [Act.put, List.setIfInBounds_toArray, List.set_cons_zero, List.set_cons_succ]
  refine wpAnyH_take (i := 27) (oi := { dst := some 0, op := Go.Op.assign (Go.Operand.tmp 46), type := 4, pos := "law.go:18", after := #[{ on := 26, ground := Go.Ground.data }, { on := 24, ground := Go.Ground.chain }, { on := 0, ground := Go.Ground.phase }, { on := 1, ground := Go.Ground.phase }, { on := 2, ground := Go.Ground.phase }, { on := 3, ground := Go.Ground.phase }, { on := 4, ground := Go.Ground.phase }, { on := 5, ground := Go.Ground.phase }, { on := 6, ground := Go.Ground.phase }, { on := 7, ground := Go.Ground.phase }, { on := 8, ground := Go.Ground.phase }, { on := 9, ground := Go.Ground.phase }, { on := 10, ground := Go.Ground.phase }, { on := 11, ground := Go.Ground.phase }, { on := 12, ground := Go.Ground.phase }, { on := 13, ground := Go.Ground.phase }, { on := 14, ground := Go.Ground.phase }, { on := 15, ground := Go.Ground.phase }, { on := 16, ground := Go.Ground.phase }, { on := 17, ground := Go.Ground.phase }, { on := 18, ground := Go.Ground.phase }, { on := 19, ground := Go.Ground.phase }, { on := 20, ground := Go.Ground.phase }, { on := 21, ground := Go.Ground.phase }, { on := 22, ground := Go.Ground.phase }, { on := 23, ground := Go.Ground.phase }, { on := 24, ground := Go.Ground.phase }, { on := 25, ground := Go.Ground.phase }, { on := 26, ground := Go.Ground.phase }], guard := none }) (v := ?_) rfl (by kernel_rfl) (by kernel_rfl) (by kernel_rfl) (fun _ _ _ h => h) (Or.inl ⟨by rfl, ?_⟩) (by assumption) ?_
  rotate_left
  · (intro w hSw; (try dsimp only at hSw); go_simp; (try (with_reducible rfl)))
  try simp only [Act.put, List.setIfInBounds_toArray, List.set_cons_zero, List.set_cons_succ]
  refine wpAnyH_done (by kernel_rfl) ?_ _
  rotate_left
  go_simp
  have hG1 := hst.row_lit 41 2 1 #[.int .i64 1, .int .i64 2] rfl (by decide)
  replace en5 := en5.alloc (.cells #[.int .i64 1, .int .i64 2] 41)
  obtain ⟨HG, lG, hG2, hbb⟩ := hG1.row_keep
  try rw [World.size_alloc] at hbb
  replace hbb : Rd HG 2 _ (idl [(1, 2)]) := hbb
  try replace haa := haa.mono lG
  replace lc := Hp.le_trans lc lG
  replace hst := hG2
  refine hK.out _ _ (kk _ _ _ lc hst) (fun hHeld => ?_)
  clear hK K
  try simp only [Act.put, List.setIfInBounds_toArray, List.set_cons_zero, List.set_cons_succ]
  refine wpAnyH_ready (rs := [19]) (by kernel_rfl) (by simp) ?_
  refine AllReadyH.cons (o := { dst := some 39, op := Go.Op.buildSlice 35 1 #[(0, Go.Operand.tmp 38)], type := 35, pos := "law.go:18", after := #[{ on := 18, ground := Go.Ground.data }, { on := 17, ground := Go.Ground.guard }], guard := some (17, true) }) rfl (fun K hK => ?_) AllReadyH.nil
  go_simp
  have hG1 := hst.row_lit 41 2 1 #[.int .i64 1, .int .i64 1] rfl (by decide)
  replace en5 := en5.alloc (.cells #[.int .i64 1, .int .i64 1] 41)
  obtain ⟨HG, lG, hG2, haa⟩ := hG1.row_keep
  try rw [World.size_alloc] at haa
  replace haa : Rd HG 2 _ (idl [(1, 1)]) := haa
  try replace hbb := hbb.mono lG
  replace lc := Hp.le_trans lc lG
  replace hst := hG2
  refine hK.out _ _ (kk _ _ _ lc hst) (fun hHeld => ?_)
  clear hK K
  try simp only [Act.put, List.setIfInBounds_toArray, List.set_cons_zero, List.set_cons_succ]
  refine wpAnyH_ready (rs := [22]) (by kernel_rfl) (by simp) ?_
  refine AllReadyH.cons (o := { dst := some 42, op := Go.Op.buildSlice 31 2 #[(0, Go.Operand.tmp 39), (1, Go.Operand.tmp 41)], type := 31, pos := "law.go:18", after := #[{ on := 19, ground := Go.Ground.data }, { on := 21, ground := Go.Ground.data }, { on := 17, ground := Go.Ground.guard }], guard := some (17, true) }) rfl (fun K hK => ?_) AllReadyH.nil
  go_simp
  obtain ⟨HY, lY, hY, enY, hyy⟩ := lay2 hst haa hbb
  try rw [World.size_alloc, World.size_alloc] at hyy
  replace haa := haa.mono lY
  replace hbb := hbb.mono lY
  replace lc := Hp.le_trans lc lY
  replace hst := hY
  replace en5 := en5.trans enY
  refine hK.out _ _ (kk _ _ _ lc hst) (fun hHeld => ?_)
  clear hK K
  try simp only [Act.put, List.setIfInBounds_toArray, List.set_cons_zero, List.set_cons_succ]
  refine wpAnyH_ready (rs := [24]) (by kernel_rfl) (by simp) ?_
  refine AllReadyH.cons (o := { dst := some 44, op := Go.Op.call { callee := Go.Callee.value (Go.Operand.func 20), args := #[Go.Operand.tmp 42, Go.Operand.tmp 43], argTypes := #[31, 41] }, type := 3, pos := "law.go:18", after := #[{ on := 22, ground := Go.Ground.data }, { on := 23, ground := Go.Ground.data }, { on := 17, ground := Go.Ground.chain }, { on := 17, ground := Go.Ground.guard }], guard := some (17, true) }) rfl (fun K hK => ?_) AllReadyH.nil
  go_simp
  refine (at17 (hyy.rw hst) (haa.rw hst) (hbb.rw hst)).mono ?_
  rintro e wF ⟨rfl, hbF⟩
  replace hst := hst.below hbF
  replace en5 := en5.trans (bel_env hbF)
  refine hK.out _ _ (kk _ _ _ lc hst) (fun hHeld => ?_)
  clear hK K
  try simp only [Act.put, List.setIfInBounds_toArray, List.set_cons_zero, List.set_cons_succ]
  refine wpAnyH_take (i := 25) (oi := { dst := some 45, op := Go.Op.binOp Go.BinOp.eql 3 (Go.Operand.tmp 44) (Go.Operand.const (Go.Value.int Go.IntKind.i64 1)) 3, type := 4, pos := "law.go:18", after := #[{ on := 24, ground := Go.Ground.data }, { on := 17, ground := Go.Ground.guard }], guard := some (17, true) }) (v := ?_) rfl (by kernel_rfl) (by kernel_rfl) (by kernel_rfl) (fun _ _ _ h => h) (Or.inl ⟨by rfl, ?_⟩) (by assumption) ?_
  rotate_left
  · (intro w hSw; (try dsimp only at hSw); go_simp; (try (with_reducible rfl)))
  try simp only [Act.put, List.setIfInBounds_toArray, List.set_cons_zero, List.set_cons_succ]
  refine wpAnyH_take (i := 26) (oi := { dst := some 46, op := Go.Op.pick (Go.Operand.tmp 37) (Go.Operand.tmp 45) (Go.Operand.const (Go.Value.bool false)), type := 4, pos := "law.go:18", after := #[{ on := 17, ground := Go.Ground.data }, { on := 25, ground := Go.Ground.data }], guard := none }) (v := ?_) rfl (by kernel_rfl) (by kernel_rfl) (by kernel_rfl) (fun _ _ _ h => h) (Or.inl ⟨by rfl, ?_⟩) (by assumption) ?_
  rotate_left
  · (intro w hSw; (try dsimp only at hSw); go_simp; (try (with_reducible rfl)))
  try simp only [Act.put, List.setIfInBounds_toArray, List.set_cons_zero, List.set_cons_succ]
  refine wpAnyH_take (i := 27) (oi := { dst := some 0, op := Go.Op.assign (Go.Operand.tmp 46), type := 4, pos := "law.go:18", after := #[{ on := 26, ground := Go.Ground.data }, { on := 24, ground := Go.Ground.chain }, { on := 0, ground := Go.Ground.phase }, { on := 1, ground := Go.Ground.phase }, { on := 2, ground := Go.Ground.phase }, { on := 3, ground := Go.Ground.phase }, { on := 4, ground := Go.Ground.phase }, { on := 5, ground := Go.Ground.phase }, { on := 6, ground := Go.Ground.phase }, { on := 7, ground := Go.Ground.phase }, { on := 8, ground := Go.Ground.phase }, { on := 9, ground := Go.Ground.phase }, { on := 10, ground := Go.Ground.phase }, { on := 11, ground := Go.Ground.phase }, { on := 12, ground := Go.Ground.phase }, { on := 13, ground := Go.Ground.phase }, { on := 14, ground := Go.Ground.phase }, { on := 15, ground := Go.Ground.phase }, { on := 16, ground := Go.Ground.phase }, { on := 17, ground := Go.Ground.phase }, { on := 18, ground := Go.Ground.phase }, { on := 19, ground := Go.Ground.phase }, { on := 20, ground := Go.Ground.phase }, { on := 21, ground := Go.Ground.phase }, { on := 22, ground := Go.Ground.phase }, { on := 23, ground := Go.Ground.phase }, { on := 24, ground := Go.Ground.phase }, { on := 25, ground := Go.Ground.phase }, { on := 26, ground := Go.Ground.phase }], guard := none }) (v := ?_) rfl (by kernel_rfl) (by kernel_rfl) (by kernel_rfl) (fun _ _ _ h => h) (Or.inl ⟨by rfl, ?_⟩) (by assumption) ?_
  rotate_left
  · (intro w hSw; (try dsimp only at hSw); go_simp; (try (with_reducible rfl)))
  try simp only [Act.put, List.setIfInBounds_toArray, List.set_cons_zero, List.set_cons_succ]
  refine wpAnyH_done (by kernel_rfl) ?_ _
  rotate_left
  go_simp
  obtain ⟨HZ, lZ, hZ, enZ, haz⟩ := lay1 hst hab
  try rw [World.size_alloc] at haz
  try replace hXr := hXr.mono lZ
  try replace hXo := hXo.mono lZ
  replace hab := hab.mono lZ
  replace lc := Hp.le_trans lc lZ
  replace hst := hZ
  replace en5 := en5.trans enZ
  refine hK.out _ _ (kk _ _ _ lc hst) (fun hHeld => ?_)
  clear hK K
  try simp only [Act.put, List.setIfInBounds_toArray, List.set_cons_zero, List.set_cons_succ]
  refine wpAnyH_ready (rs := [4]) (by kernel_rfl) (by simp) ?_
  refine AllReadyH.cons (o := { dst := some 24, op := Go.Op.call { callee := Go.Callee.value (Go.Operand.func 13), args := #[Go.Operand.tmp 23], argTypes := #[27] }, type := 31, pos := "law.go:18", after := #[{ on := 3, ground := Go.Ground.data }, { on := 2, ground := Go.Ground.chain }, { on := 2, ground := Go.Ground.guard }], guard := some (2, true) }) rfl (fun K hK => ?_) AllReadyH.nil
  go_simp
  refine (hCo.out _ _ lc hst).mono ?_
  rintro e wA ⟨cv, X, HA1, rfl, lA, hA1, enA, hXr, hXo, hXe⟩
  obtain ⟨cv1, cv2, cv3, rfl, _⟩ := hXr.form
  try replace hab := hab.mono lA
  try replace haz := haz.mono lA
  replace lc := Hp.le_trans lc lA
  replace hst := hA1
  replace en5 := en5.trans enA
  refine hK.out _ _ (kk _ _ _ lc hst) (fun hHeld => ?_)
  clear hK K
  try simp only [Act.put, List.setIfInBounds_toArray, List.set_cons_zero, List.set_cons_succ]
  refine wpAnyH_ready (rs := [9]) (by kernel_rfl) (by simp) ?_
  refine AllReadyH.cons (o := { dst := some 29, op := Go.Op.call { callee := Go.Callee.value (Go.Operand.func 12), args := #[Go.Operand.tmp 24, Go.Operand.tmp 28], argTypes := #[31, 31] }, type := 4, pos := "law.go:18", after := #[{ on := 4, ground := Go.Ground.data }, { on := 8, ground := Go.Ground.data }, { on := 4, ground := Go.Ground.chain }, { on := 2, ground := Go.Ground.guard }], guard := some (2, true) }) rfl (fun K hK => ?_) AllReadyH.nil
  go_simp
  refine (same17 hXe ⟨hXr.rw hst, fun x hx => (hXo x hx).rw hst⟩ (haz.rw hst) (hab.rw hst)).mono ?_
  rintro e wC ⟨rfl, hbC⟩
  replace hst := hst.below hbC
  replace en5 := en5.trans (bel_env hbC)
  refine hK.out _ _ (kk _ _ _ lc hst) (fun hHeld => ?_)
  clear hK K
  try simp only [Act.put, List.setIfInBounds_toArray, List.set_cons_zero, List.set_cons_succ]
  refine wpAnyH_take (i := 10) (oi := { dst := some 30, op := Go.Op.pick (Go.Operand.tmp 22) (Go.Operand.tmp 29) (Go.Operand.const (Go.Value.bool false)), type := 4, pos := "law.go:18", after := #[{ on := 2, ground := Go.Ground.data }, { on := 9, ground := Go.Ground.data }], guard := none }) (v := ?_) rfl (by kernel_rfl) (by kernel_rfl) (by kernel_rfl) (fun _ _ _ h => h) (Or.inl ⟨by rfl, ?_⟩) (by assumption) ?_
  rotate_left
  · (intro w hSw; (try dsimp only at hSw); go_simp; (try (with_reducible rfl)))
  try simp only [Act.put, List.setIfInBounds_toArray, List.set_cons_zero, List.set_cons_succ]
  refine wpAnyH_take (i := 11) (oi := { dst := some 31, op := Go.Op.move (Go.Operand.tmp 30), type := 4, pos := "law.go:18", after := #[{ on := 10, ground := Go.Ground.data }, { on := 9, ground := Go.Ground.chain }], guard := none }) (v := ?_) rfl (by kernel_rfl) (by kernel_rfl) (by kernel_rfl) (fun _ _ _ h => h) (Or.inl ⟨by rfl, ?_⟩) (by assumption) ?_
  rotate_left
  · (intro w hSw; (try dsimp only at hSw); go_simp; (try (with_reducible rfl)))
  try simp only [Act.put, List.setIfInBounds_toArray, List.set_cons_zero, List.set_cons_succ]
  refine wpAnyH_take (i := 12) (oi := { dst := some 32, op := Go.Op.move (Go.Operand.tmp 3), type := 27, pos := "law.go:18", after := #[{ on := 11, ground := Go.Ground.guard }], guard := some (11, true) }) (v := ?_) rfl (by kernel_rfl) (by kernel_rfl) (by kernel_rfl) (fun _ _ _ h => h) (Or.inl ⟨by rfl, ?_⟩) (by assumption) ?_
  rotate_left
  · (intro w hSw; (try dsimp only at hSw); go_simp; (try (with_reducible rfl)))
  try simp only [Act.put, List.setIfInBounds_toArray, List.set_cons_zero, List.set_cons_succ]
  refine wpAnyH_take (i := 13) (oi := { dst := some 33, op := Go.Op.load 41 (Go.Operand.tmp 1), type := 41, pos := "law.go:18", after := #[{ on := 11, ground := Go.Ground.guard }], guard := some (11, true) }) (v := ?_) rfl (by kernel_rfl) (by kernel_rfl) (by kernel_rfl) (fun _ _ _ h => h) (Or.inl ⟨by rfl, ?_⟩) (by assumption) ?_
  rotate_left
  · (intro w hSw; (try dsimp only at hSw); go_simp; (try (with_reducible rfl)))
  try simp only [Act.put, List.setIfInBounds_toArray, List.set_cons_zero, List.set_cons_succ]
  refine wpAnyH_take (i := 14) (oi := { dst := some 34, op := Go.Op.load 41 (Go.Operand.tmp 2), type := 41, pos := "law.go:18", after := #[{ on := 11, ground := Go.Ground.guard }], guard := some (11, true) }) (v := ?_) rfl (by kernel_rfl) (by kernel_rfl) (by kernel_rfl) (fun _ _ _ h => h) (Or.inl ⟨by rfl, ?_⟩) (by assumption) ?_
  rotate_left
  · (intro w hSw; (try dsimp only at hSw); go_simp; (try (with_reducible rfl)))
  try simp only [Act.put, List.setIfInBounds_toArray, List.set_cons_zero, List.set_cons_succ]
  refine wpAnyH_ready (rs := [15]) (by kernel_rfl) (by simp) ?_
  refine AllReadyH.cons (o := { dst := some 35, op := Go.Op.call { callee := Go.Callee.value (Go.Operand.func 18), args := #[Go.Operand.tmp 32, Go.Operand.tmp 33, Go.Operand.tmp 34], argTypes := #[27, 41, 41] }, type := 4, pos := "law.go:18", after := #[{ on := 12, ground := Go.Ground.data }, { on := 13, ground := Go.Ground.data }, { on := 14, ground := Go.Ground.data }, { on := 11, ground := Go.Ground.chain }, { on := 11, ground := Go.Ground.guard }], guard := some (11, true) }) rfl (fun K hK => ?_) AllReadyH.nil
  go_simp
  refine (hMu.out _ _ lc hst).mono ?_
  rintro e wD ⟨HD, rfl, lD, hD, enD⟩
  replace lc := Hp.le_trans lc lD
  replace hst := hD
  replace en5 := en5.trans enD
  refine hK.out _ _ (kk _ _ _ lc hst) (fun hHeld => ?_)
  clear hK K
  try simp only [Act.put, List.setIfInBounds_toArray, List.set_cons_zero, List.set_cons_succ]
  refine wpAnyH_take (i := 16) (oi := { dst := some 36, op := Go.Op.pick (Go.Operand.tmp 31) (Go.Operand.tmp 35) (Go.Operand.const (Go.Value.bool false)), type := 4, pos := "law.go:18", after := #[{ on := 11, ground := Go.Ground.data }, { on := 15, ground := Go.Ground.data }], guard := none }) (v := ?_) rfl (by kernel_rfl) (by kernel_rfl) (by kernel_rfl) (fun _ _ _ h => h) (Or.inl ⟨by rfl, ?_⟩) (by assumption) ?_
  rotate_left
  · (intro w hSw; (try dsimp only at hSw); go_simp; (try (with_reducible rfl)))
  try simp only [Act.put, List.setIfInBounds_toArray, List.set_cons_zero, List.set_cons_succ]
  refine wpAnyH_take (i := 17) (oi := { dst := some 37, op := Go.Op.move (Go.Operand.tmp 36), type := 4, pos := "law.go:18", after := #[{ on := 16, ground := Go.Ground.data }, { on := 15, ground := Go.Ground.chain }], guard := none }) (v := ?_) rfl (by kernel_rfl) (by kernel_rfl) (by kernel_rfl) (fun _ _ _ h => h) (Or.inl ⟨by rfl, ?_⟩) (by assumption) ?_
  rotate_left
  · (intro w hSw; (try dsimp only at hSw); go_simp; (try (with_reducible rfl)))
  try simp only [Act.put, List.setIfInBounds_toArray, List.set_cons_zero, List.set_cons_succ]
  refine wpAnyH_take (i := 18) (oi := { dst := some 38, op := Go.Op.load 41 (Go.Operand.tmp 1), type := 41, pos := "law.go:18", after := #[{ on := 17, ground := Go.Ground.guard }], guard := some (17, true) }) (v := ?_) rfl (by kernel_rfl) (by kernel_rfl) (by kernel_rfl) (fun _ _ _ h => h) (Or.inl ⟨by rfl, ?_⟩) (by assumption) ?_
  rotate_left
  · (intro w hSw; (try dsimp only at hSw); go_simp; (try (with_reducible rfl)))
  try simp only [Act.put, List.setIfInBounds_toArray, List.set_cons_zero, List.set_cons_succ]
  refine wpAnyH_take (i := 20) (oi := { dst := some 40, op := Go.Op.load 41 (Go.Operand.tmp 2), type := 41, pos := "law.go:18", after := #[{ on := 17, ground := Go.Ground.guard }], guard := some (17, true) }) (v := ?_) rfl (by kernel_rfl) (by kernel_rfl) (by kernel_rfl) (fun _ _ _ h => h) (Or.inl ⟨by rfl, ?_⟩) (by assumption) ?_
  rotate_left
  · (intro w hSw; (try dsimp only at hSw); go_simp; (try (with_reducible rfl)))
  try simp only [Act.put, List.setIfInBounds_toArray, List.set_cons_zero, List.set_cons_succ]
  refine wpAnyH_take (i := 23) (oi := { dst := some 43, op := Go.Op.load 41 (Go.Operand.tmp 2), type := 41, pos := "law.go:18", after := #[{ on := 17, ground := Go.Ground.guard }], guard := some (17, true) }) (v := ?_) rfl (by kernel_rfl) (by kernel_rfl) (by kernel_rfl) (fun _ _ _ h => h) (Or.inl ⟨by rfl, ?_⟩) (by assumption) ?_
  rotate_left
  · (intro w hSw; (try dsimp only at hSw); go_simp; (try (with_reducible rfl)))
  try simp only [Act.put, List.setIfInBounds_toArray, List.set_cons_zero, List.set_cons_succ]
  refine wpAnyH_ready (rs := [19, 21]) (by kernel_rfl) (by simp) ?_
  refine (AllReadyH.cons (o := { dst := some 39, op := Go.Op.buildSlice 35 1 #[(0, Go.Operand.tmp 38)], type := 35, pos := "law.go:18", after := #[{ on := 18, ground := Go.Ground.data }, { on := 17, ground := Go.Ground.guard }], guard := some (17, true) }) rfl (fun K hK => ?_) (AllReadyH.cons (o := { dst := some 41, op := Go.Op.buildSlice 35 1 #[(0, Go.Operand.tmp 40)], type := 35, pos := "law.go:18", after := #[{ on := 20, ground := Go.Ground.data }, { on := 17, ground := Go.Ground.guard }], guard := some (17, true) }) rfl (fun K hK => ?_) AllReadyH.nil))
  go_simp
  have hG1 := hst.row_lit 41 2 1 #[.int .i64 1, .int .i64 1] rfl (by decide)
  replace en5 := en5.alloc (.cells #[.int .i64 1, .int .i64 1] 41)
  obtain ⟨HG, lG, hG2, haa⟩ := hG1.row_keep
  try rw [World.size_alloc] at haa
  replace haa : Rd HG 2 _ (idl [(1, 1)]) := haa
  try replace hbb := hbb.mono lG
  replace lc := Hp.le_trans lc lG
  replace hst := hG2
  refine hK.out _ _ (kk _ _ _ lc hst) (fun hHeld => ?_)
  clear hK K
  try simp only [Act.put, List.setIfInBounds_toArray, List.set_cons_zero, List.set_cons_succ]
  refine wpAnyH_ready (rs := [21]) (by kernel_rfl) (by simp) ?_
  refine AllReadyH.cons (o := { dst := some 41, op := Go.Op.buildSlice 35 1 #[(0, Go.Operand.tmp 40)], type := 35, pos := "law.go:18", after := #[{ on := 20, ground := Go.Ground.data }, { on := 17, ground := Go.Ground.guard }], guard := some (17, true) }) rfl (fun K hK => ?_) AllReadyH.nil
  go_simp
  have hG1 := hst.row_lit 41 2 1 #[.int .i64 1, .int .i64 2] rfl (by decide)
  replace en5 := en5.alloc (.cells #[.int .i64 1, .int .i64 2] 41)
  obtain ⟨HG, lG, hG2, hbb⟩ := hG1.row_keep
  try rw [World.size_alloc] at hbb
  replace hbb : Rd HG 2 _ (idl [(1, 2)]) := hbb
  try replace haa := haa.mono lG
  replace lc := Hp.le_trans lc lG
  replace hst := hG2
  refine hK.out _ _ (kk _ _ _ lc hst) (fun hHeld => ?_)
  clear hK K
  try simp only [Act.put, List.setIfInBounds_toArray, List.set_cons_zero, List.set_cons_succ]
  refine wpAnyH_ready (rs := [22]) (by kernel_rfl) (by simp) ?_
  refine AllReadyH.cons (o := { dst := some 42, op := Go.Op.buildSlice 31 2 #[(0, Go.Operand.tmp 39), (1, Go.Operand.tmp 41)], type := 31, pos := "law.go:18", after := #[{ on := 19, ground := Go.Ground.data }, { on := 21, ground := Go.Ground.data }, { on := 17, ground := Go.Ground.guard }], guard := some (17, true) }) rfl (fun K hK => ?_) AllReadyH.nil
  go_simp
  obtain ⟨HY, lY, hY, enY, hyy⟩ := lay2 hst haa hbb
  try rw [World.size_alloc, World.size_alloc] at hyy
  replace haa := haa.mono lY
  replace hbb := hbb.mono lY
  replace lc := Hp.le_trans lc lY
  replace hst := hY
  replace en5 := en5.trans enY
  refine hK.out _ _ (kk _ _ _ lc hst) (fun hHeld => ?_)
  clear hK K
  try simp only [Act.put, List.setIfInBounds_toArray, List.set_cons_zero, List.set_cons_succ]
  refine wpAnyH_ready (rs := [24]) (by kernel_rfl) (by simp) ?_
  refine AllReadyH.cons (o := { dst := some 44, op := Go.Op.call { callee := Go.Callee.value (Go.Operand.func 20), args := #[Go.Operand.tmp 42, Go.Operand.tmp 43], argTypes := #[31, 41] }, type := 3, pos := "law.go:18", after := #[{ on := 22, ground := Go.Ground.data }, { on := 23, ground := Go.Ground.data }, { on := 17, ground := Go.Ground.chain }, { on := 17, ground := Go.Ground.guard }], guard := some (17, true) }) rfl (fun K hK => ?_) AllReadyH.nil
  go_simp
  refine (at17 (hyy.rw hst) (haa.rw hst) (hbb.rw hst)).mono ?_
  rintro e wF ⟨rfl, hbF⟩
  replace hst := hst.below hbF
  replace en5 := en5.trans (bel_env hbF)
  refine hK.out _ _ (kk _ _ _ lc hst) (fun hHeld => ?_)
  clear hK K
  try simp only [Act.put, List.setIfInBounds_toArray, List.set_cons_zero, List.set_cons_succ]
  refine wpAnyH_take (i := 25) (oi := { dst := some 45, op := Go.Op.binOp Go.BinOp.eql 3 (Go.Operand.tmp 44) (Go.Operand.const (Go.Value.int Go.IntKind.i64 1)) 3, type := 4, pos := "law.go:18", after := #[{ on := 24, ground := Go.Ground.data }, { on := 17, ground := Go.Ground.guard }], guard := some (17, true) }) (v := ?_) rfl (by kernel_rfl) (by kernel_rfl) (by kernel_rfl) (fun _ _ _ h => h) (Or.inl ⟨by rfl, ?_⟩) (by assumption) ?_
  rotate_left
  · (intro w hSw; (try dsimp only at hSw); go_simp; (try (with_reducible rfl)))
  try simp only [Act.put, List.setIfInBounds_toArray, List.set_cons_zero, List.set_cons_succ]
  refine wpAnyH_take (i := 26) (oi := { dst := some 46, op := Go.Op.pick (Go.Operand.tmp 37) (Go.Operand.tmp 45) (Go.Operand.const (Go.Value.bool false)), type := 4, pos := "law.go:18", after := #[{ on := 17, ground := Go.Ground.data }, { on := 25, ground := Go.Ground.data }], guard := none }) (v := ?_) rfl (by kernel_rfl) (by kernel_rfl) (by kernel_rfl) (fun _ _ _ h => h) (Or.inl ⟨by rfl, ?_⟩) (by assumption) ?_
  rotate_left
  · (intro w hSw; (try dsimp only at hSw); go_simp; (try (with_reducible rfl)))
  try simp only [Act.put, List.setIfInBounds_toArray, List.set_cons_zero, List.set_cons_succ]
  refine wpAnyH_take (i := 27) (oi := { dst := some 0, op := Go.Op.assign (Go.Operand.tmp 46), type := 4, pos := "law.go:18", after := #[{ on := 26, ground := Go.Ground.data }, { on := 24, ground := Go.Ground.chain }, { on := 0, ground := Go.Ground.phase }, { on := 1, ground := Go.Ground.phase }, { on := 2, ground := Go.Ground.phase }, { on := 3, ground := Go.Ground.phase }, { on := 4, ground := Go.Ground.phase }, { on := 5, ground := Go.Ground.phase }, { on := 6, ground := Go.Ground.phase }, { on := 7, ground := Go.Ground.phase }, { on := 8, ground := Go.Ground.phase }, { on := 9, ground := Go.Ground.phase }, { on := 10, ground := Go.Ground.phase }, { on := 11, ground := Go.Ground.phase }, { on := 12, ground := Go.Ground.phase }, { on := 13, ground := Go.Ground.phase }, { on := 14, ground := Go.Ground.phase }, { on := 15, ground := Go.Ground.phase }, { on := 16, ground := Go.Ground.phase }, { on := 17, ground := Go.Ground.phase }, { on := 18, ground := Go.Ground.phase }, { on := 19, ground := Go.Ground.phase }, { on := 20, ground := Go.Ground.phase }, { on := 21, ground := Go.Ground.phase }, { on := 22, ground := Go.Ground.phase }, { on := 23, ground := Go.Ground.phase }, { on := 24, ground := Go.Ground.phase }, { on := 25, ground := Go.Ground.phase }, { on := 26, ground := Go.Ground.phase }], guard := none }) (v := ?_) rfl (by kernel_rfl) (by kernel_rfl) (by kernel_rfl) (fun _ _ _ h => h) (Or.inl ⟨by rfl, ?_⟩) (by assumption) ?_
  rotate_left
  · (intro w hSw; (try dsimp only at hSw); go_simp; (try (with_reducible rfl)))
  try simp only [Act.put, List.setIfInBounds_toArray, List.set_cons_zero, List.set_cons_succ]
  refine wpAnyH_done (by kernel_rfl) ?_ _
  rotate_left
  go_simp
  have hG1 := hst.row_lit 41 2 1 #[.int .i64 1, .int .i64 2] rfl (by decide)
  replace en5 := en5.alloc (.cells #[.int .i64 1, .int .i64 2] 41)
  obtain ⟨HG, lG, hG2, hbb⟩ := hG1.row_keep
  try rw [World.size_alloc] at hbb
  replace hbb : Rd HG 2 _ (idl [(1, 2)]) := hbb
  try replace haa := haa.mono lG
  replace lc := Hp.le_trans lc lG
  replace hst := hG2
  refine hK.out _ _ (kk _ _ _ lc hst) (fun hHeld => ?_)
  clear hK K
  try simp only [Act.put, List.setIfInBounds_toArray, List.set_cons_zero, List.set_cons_succ]
  refine wpAnyH_ready (rs := [19]) (by kernel_rfl) (by simp) ?_
  refine AllReadyH.cons (o := { dst := some 39, op := Go.Op.buildSlice 35 1 #[(0, Go.Operand.tmp 38)], type := 35, pos := "law.go:18", after := #[{ on := 18, ground := Go.Ground.data }, { on := 17, ground := Go.Ground.guard }], guard := some (17, true) }) rfl (fun K hK => ?_) AllReadyH.nil
  go_simp
  have hG1 := hst.row_lit 41 2 1 #[.int .i64 1, .int .i64 1] rfl (by decide)
  replace en5 := en5.alloc (.cells #[.int .i64 1, .int .i64 1] 41)
  obtain ⟨HG, lG, hG2, haa⟩ := hG1.row_keep
  try rw [World.size_alloc] at haa
  replace haa : Rd HG 2 _ (idl [(1, 1)]) := haa
  try replace hbb := hbb.mono lG
  replace lc := Hp.le_trans lc lG
  replace hst := hG2
  refine hK.out _ _ (kk _ _ _ lc hst) (fun hHeld => ?_)
  clear hK K
  try simp only [Act.put, List.setIfInBounds_toArray, List.set_cons_zero, List.set_cons_succ]
  refine wpAnyH_ready (rs := [22]) (by kernel_rfl) (by simp) ?_
  refine AllReadyH.cons (o := { dst := some 42, op := Go.Op.buildSlice 31 2 #[(0, Go.Operand.tmp 39), (1, Go.Operand.tmp 41)], type := 31, pos := "law.go:18", after := #[{ on := 19, ground := Go.Ground.data }, { on := 21, ground := Go.Ground.data }, { on := 17, ground := Go.Ground.guard }], guard := some (17, true) }) rfl (fun K hK => ?_) AllReadyH.nil
  go_simp
  obtain ⟨HY, lY, hY, enY, hyy⟩ := lay2 hst haa hbb
  try rw [World.size_alloc, World.size_alloc] at hyy
  replace haa := haa.mono lY
  replace hbb := hbb.mono lY
  replace lc := Hp.le_trans lc lY
  replace hst := hY
  replace en5 := en5.trans enY
  refine hK.out _ _ (kk _ _ _ lc hst) (fun hHeld => ?_)
  clear hK K
  try simp only [Act.put, List.setIfInBounds_toArray, List.set_cons_zero, List.set_cons_succ]
  refine wpAnyH_ready (rs := [24]) (by kernel_rfl) (by simp) ?_
  refine AllReadyH.cons (o := { dst := some 44, op := Go.Op.call { callee := Go.Callee.value (Go.Operand.func 20), args := #[Go.Operand.tmp 42, Go.Operand.tmp 43], argTypes := #[31, 41] }, type := 3, pos := "law.go:18", after := #[{ on := 22, ground := Go.Ground.data }, { on := 23, ground := Go.Ground.data }, { on := 17, ground := Go.Ground.chain }, { on := 17, ground := Go.Ground.guard }], guard := some (17, true) }) rfl (fun K hK => ?_) AllReadyH.nil
  go_simp
  refine (at17 (hyy.rw hst) (haa.rw hst) (hbb.rw hst)).mono ?_
  rintro e wF ⟨rfl, hbF⟩
  replace hst := hst.below hbF
  replace en5 := en5.trans (bel_env hbF)
  refine hK.out _ _ (kk _ _ _ lc hst) (fun hHeld => ?_)
  clear hK K
  try simp only [Act.put, List.setIfInBounds_toArray, List.set_cons_zero, List.set_cons_succ]
  refine wpAnyH_take (i := 25) (oi := { dst := some 45, op := Go.Op.binOp Go.BinOp.eql 3 (Go.Operand.tmp 44) (Go.Operand.const (Go.Value.int Go.IntKind.i64 1)) 3, type := 4, pos := "law.go:18", after := #[{ on := 24, ground := Go.Ground.data }, { on := 17, ground := Go.Ground.guard }], guard := some (17, true) }) (v := ?_) rfl (by kernel_rfl) (by kernel_rfl) (by kernel_rfl) (fun _ _ _ h => h) (Or.inl ⟨by rfl, ?_⟩) (by assumption) ?_
  rotate_left
  · (intro w hSw; (try dsimp only at hSw); go_simp; (try (with_reducible rfl)))
  try simp only [Act.put, List.setIfInBounds_toArray, List.set_cons_zero, List.set_cons_succ]
  refine wpAnyH_take (i := 26) (oi := { dst := some 46, op := Go.Op.pick (Go.Operand.tmp 37) (Go.Operand.tmp 45) (Go.Operand.const (Go.Value.bool false)), type := 4, pos := "law.go:18", after := #[{ on := 17, ground := Go.Ground.data }, { on := 25, ground := Go.Ground.data }], guard := none }) (v := ?_) rfl (by kernel_rfl) (by kernel_rfl) (by kernel_rfl) (fun _ _ _ h => h) (Or.inl ⟨by rfl, ?_⟩) (by assumption) ?_
  rotate_left
  · (intro w hSw; (try dsimp only at hSw); go_simp; (try (with_reducible rfl)))
  try simp only [Act.put, List.setIfInBounds_toArray, List.set_cons_zero, List.set_cons_succ]
  refine wpAnyH_take (i := 27) (oi := { dst := some 0, op := Go.Op.assign (Go.Operand.tmp 46), type := 4, pos := "law.go:18", after := #[{ on := 26, ground := Go.Ground.data }, { on := 24, ground := Go.Ground.chain }, { on := 0, ground := Go.Ground.phase }, { on := 1, ground := Go.Ground.phase }, { on := 2, ground := Go.Ground.phase }, { on := 3, ground := Go.Ground.phase }, { on := 4, ground := Go.Ground.phase }, { on := 5, ground := Go.Ground.phase }, { on := 6, ground := Go.Ground.phase }, { on := 7, ground := Go.Ground.phase }, { on := 8, ground := Go.Ground.phase }, { on := 9, ground := Go.Ground.phase }, { on := 10, ground := Go.Ground.phase }, { on := 11, ground := Go.Ground.phase }, { on := 12, ground := Go.Ground.phase }, { on := 13, ground := Go.Ground.phase }, { on := 14, ground := Go.Ground.phase }, { on := 15, ground := Go.Ground.phase }, { on := 16, ground := Go.Ground.phase }, { on := 17, ground := Go.Ground.phase }, { on := 18, ground := Go.Ground.phase }, { on := 19, ground := Go.Ground.phase }, { on := 20, ground := Go.Ground.phase }, { on := 21, ground := Go.Ground.phase }, { on := 22, ground := Go.Ground.phase }, { on := 23, ground := Go.Ground.phase }, { on := 24, ground := Go.Ground.phase }, { on := 25, ground := Go.Ground.phase }, { on := 26, ground := Go.Ground.phase }], guard := none }) (v := ?_) rfl (by kernel_rfl) (by kernel_rfl) (by kernel_rfl) (fun _ _ _ h => h) (Or.inl ⟨by rfl, ?_⟩) (by assumption) ?_
  rotate_left
  · (intro w hSw; (try dsimp only at hSw); go_simp; (try (with_reducible rfl)))
  try simp only [Act.put, List.setIfInBounds_toArray, List.set_cons_zero, List.set_cons_succ]
  refine wpAnyH_done (by kernel_rfl) ?_ _
  rotate_left
  all_goals
    have hz := hfin _ _ _ lc hst en5
    go_wp2_with fail
    go_ret
    exact ⟨rfl, hz.out⟩
end Go.Proofs.YtcbckeoalmjcoaaGreat
