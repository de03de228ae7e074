/- Records that are kept: Record. -/
import Derived.Test.YtelmhcbdpimaaaaVert2
import Derived.Test.YtelmhcbdpimaaaaRSame2
set_option linter.unusedVariables false
set_option linter.unusedSimpArgs false
namespace Go.Proofs.Ytelmhcbdpimaaaa
open Go.RowKit Go.Cw Go.Fl
attribute [local go_sem ↓] eql_id neq_id
/-- What Record tells. -/
def VRec (H : Hp) (p : Nat) (room : Int) (K : List Kp) (M : List Id) (low : List Nat) (fr : List HA) (a : Id) (w : World) (e : Ending) (w' : World) : Prop :=
  ∃ (H' : Hp) (y : Rc), Hp.le H H' ∧ St H' (VsA p room K M low :: fr) w' ∧ Env w w' ∧ e = .returned (.tuple #[recV y, .bool (decide (a ∈ kids K))]) ∧ RcD H' y ∧ rp y = rp (lookKp K a).1.1
theorem lookKp_b {H : Hp} {K : List Kp} (h : KpOk H K) (a : Id) : (lookKp K a).1.1.2.2.2.2.1.length ≤ 16 ∧ (lookKp K a).1.1.2.2.2.2.2.length ≤ 8 := by
  cases hb : (lookKp K a).2 with
  | true => exact h.b _ (lookKp_mem hb).1
  | false => rw [lookKp_no hb]; simp
set_option maxRecDepth 100000 in
set_option maxHeartbeats 3200000 in
theorem vsRecord_any (p : Nat) (room : Int) (K : List Kp) (M : List Id) (low : List Nat) (a : Id) (H : Hp) (fr : List HA) (w : World) (h : St H (VsA p room K M low :: fr) w) (hK : KpOk H K) :
    Calls Try.prog 52 #[vsP p, idV a] w (VRec H p room K M low fr a w) := by
  have hld := lookKp_d hK a
  have hlb := lookKp_b hK a
  obtain ⟨d1, d2, d3, b1, b2, b3, hdv, hbv⟩ := kp_form hld
  have hlk := look_at K a
  have hin := lookKp_iff K a
  have hno := fun (hf : (lookKp K a).2 = false) => lookKp_no hf
  obtain ⟨Y, hY⟩ : ∃ Y, (lookKp K a).1.1 = Y := ⟨_, rfl⟩
  obtain ⟨B, hB⟩ : ∃ B, (decide (a ∈ kids K)) = B := ⟨_, rfl⟩
  have hfin : ∀ (H' : Hp) (y : Rc) (w' : World), Hp.le H H' → St H' (VsA p room K M low :: fr) w' → Env w w' → RcD H' y → rp y = rp Y → VRec H p room K M low fr a w (.returned (.tuple #[recV y, .bool B])) w' := fun H' y w' h1 h2 h3 h4 h5 => ⟨H', y, h1, h2, h3, by rw [hB], h4, by rw [h5, hY]⟩
  rw [hB] at hin
  generalize VRec H p room K M low fr a w = Q at *
  replace hno := fun hf => congrArg (fun q : Kp => rp q.1) (hno hf)
  obtain ⟨r, s⟩ := a
  obtain ⟨H1, l1, h1, y⟩ := h.box #[.int .i64 r, .int .i64 s] 28
  have y0 := y 0 _ rfl
  have y1 := y 1 _ rfl
  clear y h
  have h2 := h1.blk #[.int .i64 0, .int .i64 0, .int .i64 0, .slice none 0 0, .slice none 0 0] 32
  have e1 : (w.alloc (.cells #[.int .i64 r, .int .i64 s] 28)).heap.size = w.heap.size + 1 := by simp
  rw [e1] at h2
  have en2 := ((Env.refl w).alloc (.cells #[.int .i64 r, .int .i64 s] 28)).alloc (.cells #[.int .i64 0, .int .i64 0, .int .i64 0, .slice none 0 0, .slice none 0 0] 32)
  clear h1 e1 hB
  generalize lookKp K (r, s) = z at *
  obtain ⟨⟨⟨⟨x0, x1⟩, xq, xd, xb, xD, xB⟩, xo⟩, xk⟩ := z
  try simp only at hdv hbv hlk hin hno hY hlb hld
  subst hdv hbv hY hin
  obtain ⟨g, f, h3⟩ := vsOpen h2.swap
  clear h2
  have kk : ∀ w', St H1 (Blk p (vsC room g f low) 120 :: Mp kpC g (entsK K) :: FrI f M :: Blk (w.heap.size + 1) #[.int .i64 0, .int .i64 0, .int .i64 0, .slice none 0 0, .slice none 0 0] 32 :: fr) w' → (fun w' : World => w'.cell? ⟨p, 1, none⟩ = some (.map (some g)) ∧ w'.cell? ⟨w.heap.size, 0, none⟩ = some (.int .i64 r) ∧ w'.cell? ⟨w.heap.size, 1, none⟩ = some (.int .i64 s) ∧ (Instr.lookup 116 (.map (some g)) (.agg #[.int .i64 r, .int .i64 s]) true).run Try.prog w' = .ok (.tuple #[.agg #[.int .i64 x0, .int .i64 x1, .int .i64 xq, .slice d1 d2 d3, .slice b1 b2 b3, .bool xo], .bool xk]) w') w' := fun w' h' => ⟨h'.blk_cell 1, h'.cell y0, h'.cell y1, by
    have := h'.swap.mp_get true (t := 116) Try.underlying116 (zero_kp _) (r, s)
    rw [hlk] at this
    exact this⟩
  have hD := h3.drew
  have cl := h3.blk_lt
  replace hlk := Lib.hid hlk
  clear hK
  go_enter Try.func52, Try.ntmps52
  go_wp2_with fail
  generalize (w.alloc (.cells #[.int .i64 r, .int .i64 s] 28)).alloc (.cells #[.int .i64 0, .int .i64 0, .int .i64 0, .slice none 0 0, .slice none 0 0] 32) = W2 at *
  generalize w.heap.size + 1 = gr at *
  generalize w.heap.size = gb at *
  generalize hgk : W2.heap.size = gk at *
  refine wp_region_held_drew (S := (fun w' : World => w'.cell? ⟨p, 1, none⟩ = some (.map (some g)) ∧ w'.cell? ⟨gb, 0, none⟩ = some (.int .i64 r) ∧ w'.cell? ⟨gb, 1, none⟩ = some (.int .i64 s) ∧ (Instr.lookup 116 (.map (some g)) (.agg #[.int .i64 r, .int .i64 s]) true).run Try.prog w' = .ok (.tuple #[.agg #[.int .i64 x0, .int .i64 x1, .int .i64 xq, .slice d1 d2 d3, .slice b1 b2 b3, .bool xo], .bool xk]) w')) (by kernel_rfl) (kk _ hD) (fun hHeld => ?_)
  refine wpAnyH_take (i := 0) (oi := { dst := some 12, op := Go.Op.move (Go.Operand.tmp 0), type := 67, pos := "vertex.go:87", after := #[], guard := none }) (v := ?_) rfl (by kernel_rfl) (by kernel_rfl) (by kernel_rfl) (fun _ _ _ h => h) (Or.inl ⟨by rfl, ?_⟩) (by assumption) ?_
  rotate_left
  · (intro w hSw; (try dsimp only at hSw); go_simp; (try (with_reducible rfl)))
  try simp only [Act.put, List.setIfInBounds_toArray, List.set_cons_zero, List.set_cons_succ]
  refine wpAnyH_take (i := 1) (oi := { dst := some 13, op := Go.Op.nilCheck (Go.Operand.tmp 12), type := 0, pos := "vertex.go:87", after := #[{ on := 0, ground := Go.Ground.data }], guard := none }) (v := ?_) rfl (by kernel_rfl) (by kernel_rfl) (by kernel_rfl) (fun _ _ _ h => h) (Or.inl ⟨by rfl, ?_⟩) (by assumption) ?_
  rotate_left
  · (intro w hSw; (try dsimp only at hSw); go_simp; (try (with_reducible rfl)))
  try simp only [Act.put, List.setIfInBounds_toArray, List.set_cons_zero, List.set_cons_succ]
  refine wpAnyH_take (i := 2) (oi := { dst := some 14, op := Go.Op.fieldAddr 120 (Go.Operand.tmp 13) 1, type := 0, pos := "vertex.go:87", after := #[{ on := 1, ground := Go.Ground.data }], guard := none }) (v := ?_) rfl (by kernel_rfl) (by kernel_rfl) (by kernel_rfl) (fun _ _ _ h => h) (Or.inl ⟨by rfl, ?_⟩) (by assumption) ?_
  rotate_left
  · (intro w hSw; (try dsimp only at hSw); go_simp; (try (with_reducible rfl)))
  try simp only [Act.put, List.setIfInBounds_toArray, List.set_cons_zero, List.set_cons_succ]
  refine wpAnyH_take (i := 3) (oi := { dst := some 15, op := Go.Op.load 116 (Go.Operand.tmp 14), type := 116, pos := "vertex.go:87", after := #[{ on := 2, ground := Go.Ground.data }], guard := none }) (v := ?_) rfl (by kernel_rfl) (by kernel_rfl) (by kernel_rfl) (fun _ _ _ h => h) (Or.inl ⟨by rfl, ?_⟩) (by assumption) ?_
  rotate_left
  · (intro w hSw; (try dsimp only at hSw); go_simp; (try (with_reducible rfl)))
  try simp only [Act.put, List.setIfInBounds_toArray, List.set_cons_zero, List.set_cons_succ]
  refine wpAnyH_take (i := 4) (oi := { dst := some 16, op := Go.Op.load 28 (Go.Operand.tmp 3), type := 28, pos := "vertex.go:87", after := #[], guard := none }) (v := ?_) rfl (by kernel_rfl) (by kernel_rfl) (by kernel_rfl) (fun _ _ _ h => h) (Or.inl ⟨by rfl, ?_⟩) (by assumption) ?_
  rotate_left
  · (intro w hSw; (try dsimp only at hSw); go_simp; (try (with_reducible rfl)))
  try simp only [Act.put, List.setIfInBounds_toArray, List.set_cons_zero, List.set_cons_succ]
  refine wpAnyH_take (i := 5) (oi := { dst := some 17, op := Go.Op.lookup 116 (Go.Operand.tmp 15) (Go.Operand.tmp 16) true, type := 123, pos := "vertex.go:87", after := #[{ on := 3, ground := Go.Ground.data }, { on := 4, ground := Go.Ground.data }], guard := none }) (v := ?_) rfl (by kernel_rfl) (by kernel_rfl) (by kernel_rfl) (fun _ _ _ h => h) (Or.inl ⟨by rfl, ?_⟩) (by assumption) ?_
  rotate_left
  · (intro w hSw; (try dsimp only at hSw); go_simp; (try (with_reducible rfl)))
  try simp only [Act.put, List.setIfInBounds_toArray, List.set_cons_zero, List.set_cons_succ]
  refine wpAnyH_take (i := 6) (oi := { dst := some 11, op := Go.Op.move (Go.Operand.tmp 17), type := 123, pos := "vertex.go:87", after := #[{ on := 5, ground := Go.Ground.data }], guard := none }) (v := ?_) rfl (by kernel_rfl) (by kernel_rfl) (by kernel_rfl) (fun _ _ _ h => h) (Or.inl ⟨by rfl, ?_⟩) (by assumption) ?_
  rotate_left
  · (intro w hSw; (try dsimp only at hSw); go_simp; (try (with_reducible rfl)))
  try simp only [Act.put, List.setIfInBounds_toArray, List.set_cons_zero, List.set_cons_succ]
  refine wpAnyH_take (i := 7) (oi := { dst := some 18, op := Go.Op.extract (Go.Operand.tmp 11) 0, type := 122, pos := "vertex.go:87", after := #[{ on := 6, ground := Go.Ground.data }], guard := none }) (v := ?_) rfl (by kernel_rfl) (by kernel_rfl) (by kernel_rfl) (fun _ _ _ h => h) (Or.inl ⟨by rfl, ?_⟩) (by assumption) ?_
  rotate_left
  · (intro w hSw; (try dsimp only at hSw); go_simp; (try (with_reducible rfl)))
  try simp only [Act.put, List.setIfInBounds_toArray, List.set_cons_zero, List.set_cons_succ]
  refine wpAnyH_take (i := 8) (oi := { dst := some 19, op := Go.Op.extract (Go.Operand.tmp 11) 1, type := 4, pos := "vertex.go:87", after := #[{ on := 6, ground := Go.Ground.data }, { on := 10, ground := Go.Ground.gcOnly Go.Departure.lateStores }], guard := none }) (v := ?_) rfl (by kernel_rfl) (by kernel_rfl) (by kernel_rfl) (fun _ _ _ h => h) (Or.inl ⟨by rfl, ?_⟩) (by assumption) ?_
  rotate_left
  · (intro w hSw; (try dsimp only at hSw); go_simp; (try (with_reducible rfl)))
  try simp only [Act.put, List.setIfInBounds_toArray, List.set_cons_zero, List.set_cons_succ]
  refine wpAnyH_ready (rs := [9]) (by kernel_rfl) (by simp) ?_
  refine AllReadyH.cons (o := { dst := some 6, op := Go.Op.alloc 122, type := 0, pos := "vertex.go:87", after := #[], guard := none }) rfl (fun K hK => ?_) AllReadyH.nil
  go_simp
  refine hK.out _ _ (kk _ (hD.alloc _)) (fun hHeld2 => ?_)
  clear hK K hHeld
  try simp only [Act.put, List.setIfInBounds_toArray, List.set_cons_zero, List.set_cons_succ]
  refine wpAnyH_ready (rs := [10]) (by kernel_rfl) (by simp) ?_
  refine AllReadyH.cons (o := { dst := none, op := Go.Op.store 122 (Go.Operand.tmp 6) (Go.Operand.tmp 18), type := 0, pos := "vertex.go:87", after := #[{ on := 9, ground := Go.Ground.data }, { on := 7, ground := Go.Ground.data }, { on := 0, ground := Go.Ground.phase }, { on := 1, ground := Go.Ground.phase }, { on := 2, ground := Go.Ground.phase }, { on := 3, ground := Go.Ground.phase }, { on := 4, ground := Go.Ground.phase }, { on := 5, ground := Go.Ground.phase }, { on := 6, ground := Go.Ground.phase }, { on := 7, ground := Go.Ground.phase }, { on := 8, ground := Go.Ground.textOnly Go.Departure.lateStores }, { on := 9, ground := Go.Ground.phase }], guard := none }) rfl (fun K hK => ?_) AllReadyH.nil
  go_simp
  refine hK.out _ _ (kk _ ((h3.alloc _).drew)) (fun hHeld3 => ?_)
  clear hK K hHeld2
  try simp only [Act.put, List.setIfInBounds_toArray, List.set_cons_zero, List.set_cons_succ]
  refine wpAnyH_take (i := 11) (oi := { dst := some 7, op := Go.Op.assign (Go.Operand.tmp 19), type := 4, pos := "vertex.go:87", after := #[{ on := 8, ground := Go.Ground.data }, { on := 10, ground := Go.Ground.chain }, { on := 0, ground := Go.Ground.phase }, { on := 1, ground := Go.Ground.phase }, { on := 2, ground := Go.Ground.phase }, { on := 3, ground := Go.Ground.phase }, { on := 4, ground := Go.Ground.phase }, { on := 5, ground := Go.Ground.phase }, { on := 6, ground := Go.Ground.phase }, { on := 7, ground := Go.Ground.phase }, { on := 8, ground := Go.Ground.phase }, { on := 9, ground := Go.Ground.phase }, { on := 10, ground := Go.Ground.phase }], guard := none }) (v := ?_) rfl (by kernel_rfl) (by kernel_rfl) (by kernel_rfl) (fun _ _ _ h => h) (Or.inl ⟨by rfl, ?_⟩) (by assumption) ?_
  rotate_left
  · (intro w hSw; (try dsimp only at hSw); go_simp; (try (with_reducible rfl)))
  try simp only [Act.put, List.setIfInBounds_toArray, List.set_cons_zero, List.set_cons_succ]
  refine wpAnyH_done (by kernel_rfl) ?_ _
  obtain ⟨H3, l3, h4, kc⟩ := h3.box #[.int .i64 x0, .int .i64 x1, .int .i64 xq, .slice d1 d2 d3, .slice b1 b2 b3, .bool xo] 122
  have en3 := (en2.alloc (.cells #[.int .i64 x0, .int .i64 x1, .int .i64 xq, .slice d1 d2 d3, .slice b1 b2 b3, .bool xo] 122)).drew
  rw [hgk] at kc
  have m0 := kc 0 _ rfl
  have m1 := kc 1 _ rfl
  have m2 := kc 2 _ rfl
  have m3 := kc 3 _ rfl
  have m4 := kc 4 _ rfl
  have hE := h4.drew
  clear hHeld3 kk hD h4 h3 cl kc en2 hlk
  generalize (W2.alloc (.cells #[.int .i64 x0, .int .i64 x1, .int .i64 xq, .slice d1 d2 d3, .slice b1 b2 b3, .bool xo] 122)).drew = W3 at *
  have hF := hE.pick 3 (by simp)
  have z0 := hF.blk_cell 0
  have z1 := hF.blk_cell 1
  have z2 := hF.blk_cell 2
  have z3 := hF.blk_cell 3
  have z4 := hF.blk_cell 4
  have zf0 := hF.blk_free 0
  have zf1 := hF.blk_free 1
  have zf2 := hF.blk_free 2
  have zf3 := hF.blk_free 3
  have zf4 := hF.blk_free 4
  have zl := hF.blk_lt
  cases xk with
  | false =>
    replace hno := Lib.hid (hno rfl)
    have p7 := ((((hF.blk_set 0 (.int .i64 0)).blk_set 1 (.int .i64 0)).blk_set 2 (.int .i64 0)).blk_set 3 (.slice none 0 0)).blk_set 4 (.slice none 0 0)
    have en7 := (((((en3.setCell ⟨gr, 0, none⟩ (.int .i64 0)).setCell ⟨gr, 1, none⟩ (.int .i64 0)).setCell ⟨gr, 2, none⟩ (.int .i64 0)).setCell ⟨gr, 3, none⟩ (.slice none 0 0)).setCell ⟨gr, 4, none⟩ (.slice none 0 0))
    go_wp2_with fail
    generalize ((((W3.setCell ⟨gr, 0, none⟩ (.int .i64 0)).setCell ⟨gr, 1, none⟩ (.int .i64 0)).setCell ⟨gr, 2, none⟩ (.int .i64 0)).setCell ⟨gr, 3, none⟩ (.slice none 0 0)).setCell ⟨gr, 4, none⟩ (.slice none 0 0) = W9 at *
    have r0 : W9.cell? ⟨gr, 0, none⟩ = some (.int .i64 0) := p7.blk_cell 0
    have r1 : W9.cell? ⟨gr, 1, none⟩ = some (.int .i64 0) := p7.blk_cell 1
    have r2 : W9.cell? ⟨gr, 2, none⟩ = some (.int .i64 0) := p7.blk_cell 2
    have r3 : W9.cell? ⟨gr, 3, none⟩ = some (.slice none 0 0) := p7.blk_cell 3
    have r4 : W9.cell? ⟨gr, 4, none⟩ = some (.slice none 0 0) := p7.blk_cell 4
    have rl := p7.blk_lt
    (try simp only [Exit.inBlock, Exit.then])
    refine bodyPost_ret ((results_cell_tmp rfl _ _ _).trans (?hres : _ = Result.ok (Value.tuple #[recZ, .bool false]) W9)) rfl ?_
    case hres => go_simp
    exact hfin H3 zeroRc _ (Hp.le_trans l1 l3) (vsShut p7.drop) en7 ⟨Rd.nil _ _, Rd.nil _ _, fun c hc => by simp at hc⟩ hno.out.symm
  | true =>
    have c0 := hE.cell m0
    have c1 := hE.cell m1
    have c2 := hE.cell m2
    have c3 := hE.cell m3
    have c4 := hE.cell m4
    have cl := World.block_lt_of_cell? _ _ c0
    have hCp := Lib.hid (recCopy_any ((x0, x1), xq, .slice d1 d2 d3, .slice b1 b2 b3, xD, xB) _ ((hld.mono (Hp.le_trans l1 l3)).rw hE) (by simp only; omega) (by simp only; omega))
    go_wp2_with fail
    refine hCp.out.mono ?_
    rintro e w6 he
    obtain ⟨⟨dv', bv'⟩, rfl, h6, en6⟩ := ResE.lift hE he
    obtain ⟨f1, f2, f3, rfl, _⟩ := h6.row_form
    obtain ⟨g1, g2, g3, rfl, _⟩ := h6.swap.row_form
    obtain ⟨H4, l4, h7, hd⟩ := h6.row_keep
    obtain ⟨H5, l5, h8, hb⟩ := h7.row_keep
    clear hF z0 z1 z2 z3 z4 zf0 zf1 zf2 zf3 zf4 zl c0 c1 c2 c3 c4 cl h6 h7 hE hCp
    have hF := h8.pick 3 (by simp)
    have z0 := hF.blk_cell 0
    have z1 := hF.blk_cell 1
    have z2 := hF.blk_cell 2
    have z3 := hF.blk_cell 3
    have z4 := hF.blk_cell 4
    have zf0 := hF.blk_free 0
    have zf1 := hF.blk_free 1
    have zf2 := hF.blk_free 2
    have zf3 := hF.blk_free 3
    have zf4 := hF.blk_free 4
    have zl := hF.blk_lt
    have p7 := ((((hF.blk_set 0 (.int .i64 x0)).blk_set 1 (.int .i64 x1)).blk_set 2 (.int .i64 xq)).blk_set 3 (.slice f1 f2 f3)).blk_set 4 (.slice g1 g2 g3)
    have en7 := ((((((en3.trans en6).setCell ⟨gr, 0, none⟩ (.int .i64 x0)).setCell ⟨gr, 1, none⟩ (.int .i64 x1)).setCell ⟨gr, 2, none⟩ (.int .i64 xq)).setCell ⟨gr, 3, none⟩ (.slice f1 f2 f3)).setCell ⟨gr, 4, none⟩ (.slice g1 g2 g3))
    go_wp2_with fail
    generalize ((((w6.setCell ⟨gr, 0, none⟩ (.int .i64 x0)).setCell ⟨gr, 1, none⟩ (.int .i64 x1)).setCell ⟨gr, 2, none⟩ (.int .i64 xq)).setCell ⟨gr, 3, none⟩ (.slice f1 f2 f3)).setCell ⟨gr, 4, none⟩ (.slice g1 g2 g3) = W9 at *
    have r0 : W9.cell? ⟨gr, 0, none⟩ = some (.int .i64 x0) := p7.blk_cell 0
    have r1 : W9.cell? ⟨gr, 1, none⟩ = some (.int .i64 x1) := p7.blk_cell 1
    have r2 : W9.cell? ⟨gr, 2, none⟩ = some (.int .i64 xq) := p7.blk_cell 2
    have r3 : W9.cell? ⟨gr, 3, none⟩ = some (.slice f1 f2 f3) := p7.blk_cell 3
    have r4 : W9.cell? ⟨gr, 4, none⟩ = some (.slice g1 g2 g3) := p7.blk_cell 4
    have rl := p7.blk_lt
    (try simp only [Exit.inBlock, Exit.then])
    refine bodyPost_ret ((results_cell_tmp rfl _ _ _).trans (?hres : _ = Result.ok (Value.tuple #[Value.agg #[.int .i64 x0, .int .i64 x1, .int .i64 xq, .slice f1 f2 f3, .slice g1 g2 g3], .bool true]) W9)) rfl ?_
    case hres => go_simp
    exact hfin H5 ((x0, x1), xq, .slice f1 f2 f3, .slice g1 g2 g3, xD, xB) _ (Hp.le_trans (Hp.le_trans l1 l3) (Hp.le_trans l4 l5)) (vsShut p7.drop) en7 ⟨hd.mono l5, hb, hld.ok⟩ rfl
end Go.Proofs.Ytelmhcbdpimaaaa
