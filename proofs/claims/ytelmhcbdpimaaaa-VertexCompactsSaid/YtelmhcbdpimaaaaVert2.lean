/- Records that are kept: Free, Floor, Status. -/
import Derived.Test.YtelmhcbdpimaaaaVert
set_option linter.unusedVariables false
set_option linter.unusedSimpArgs false
namespace Go.Proofs.Ytelmhcbdpimaaaa
open Go.RowKit Go.Cw Go.Fl
attribute [local go_sem ↓] eql_id neq_id
theorem ri {a b : Int} (h : a = b) : Ending.returned (.int .i64 a) = .returned (.int .i64 b) := by rw [h]
theorem kp_form {H : Hp} {x : Kp} (h : RcD H x.1) : ∃ d1 d2 d3 b1 b2 b3, x.1.2.2.1 = .slice d1 d2 d3 ∧ x.1.2.2.2.1 = .slice b1 b2 b3 := by
  obtain ⟨d1, d2, d3, hd, _⟩ := h.d.form
  obtain ⟨b1, b2, b3, hb, _⟩ := h.b.form
  exact ⟨d1, d2, d3, b1, b2, b3, hd, hb⟩
set_option maxRecDepth 100000 in
set_option maxHeartbeats 1600000 in
theorem vsFloor_any (p : Nat) (room : Int) (K : List Kp) (M : List Id) (low : List Nat) (r : Nat) (hr : r < 8) (H : Hp) (fr : List HA) (w : World) (h : St H (VsA p room K M low :: fr) w) :
    Calls Try.prog 47 #[vsP p, .int .i64 (r : Int)] w fun e w' => ∃ n : Nat, e = .returned (.int .i64 (n : Int)) ∧ w = w' ∧ FlP M r n := by
  obtain ⟨g, f, h1⟩ := vsOpen h
  have c2 : w.cell? ⟨p, 2, none⟩ = some (frP f) := h1.blk_cell 2
  have cl := h1.blk_lt
  have hF := frFloor_in f r hr M H _ w (h1.pick 2 (by simp))
  replace hF := Lib.hid hF
  go_enter Try.func47, Try.ntmps47
  go_wp2_with fail
  refine hF.out.mono ?_
  rintro e w2 ⟨n, rfl, rfl, hn⟩
  go_wp2_with fail
  go_ret
  exact ⟨n, rfl, rfl, hn⟩
set_option maxRecDepth 100000 in
set_option maxHeartbeats 1600000 in
theorem vsFloor_out (p : Nat) (room : Int) (K : List Kp) (M : List Id) (low : List Nat) (i : Int) (hi : i < 0 ∨ 8 ≤ i) (H : Hp) (fr : List HA) (w : World) (h : St H (VsA p room K M low :: fr) w) :
    Calls Try.prog 47 #[vsP p, .int .i64 i] w fun e w' => e = .returned (.int .i64 0) ∧ w = w' := by
  obtain ⟨g, f, h1⟩ := vsOpen h
  have c2 : w.cell? ⟨p, 2, none⟩ = some (frP f) := h1.blk_cell 2
  have cl := h1.blk_lt
  have hF := frFloor_out f i hi w
  replace hF := Lib.hid hF
  replace hi := Lib.hid hi
  go_enter Try.func47, Try.ntmps47
  go_wp2_with fail
  refine hF.out.mono ?_
  rintro e w2 ⟨rfl, rfl⟩
  go_wp2_with fail
  go_ret
  exact ⟨rfl, rfl⟩
set_option maxRecDepth 100000 in
set_option maxHeartbeats 1600000 in
theorem vsFree_any (p : Nat) (room : Int) (hroom : 1 ≤ room ∧ room ≤ 4096) (K : List Kp) (hK : K.length ≤ 1000000) (M : List Id) (low : List Nat) (H : Hp) (fr : List HA) (w : World) (h : St H (VsA p room K M low :: fr) w) :
    Calls Try.prog 44 #[vsP p] w fun e w' => e = .returned (.int .i64 (room - (K.length : Int))) ∧ Below w.heap.size w w' := by
  obtain ⟨g, f, h1⟩ := vsOpen h
  have cl := h1.blk_lt
  have hw : IntKind.i64.wrap (room - (K.length : Int)) = room - (K.length : Int) := by rw [IntKind.wrap_i64]; omega
  have kk : ∀ w', St H (Blk p (vsC room g f low) 120 :: Mp kpC g (entsK K) :: FrI f M :: fr) w' → (fun w' : World => w'.cell? ⟨p, 0, none⟩ = some (.int .i64 room) ∧ w'.cell? ⟨p, 1, none⟩ = some (.map (some g)) ∧ (Builtin.len_ #[116] 3 #[.map (some g)]).run Try.prog w' = .ok (.int .i64 (K.length : Int)) w') w' := fun w' h' => ⟨h'.blk_cell 0, h'.blk_cell 1, by
    have := h'.swap.mp_len (ty := 3) (t := 116) Try.underlying116
    rwa [entsK_len] at this⟩
  have hD := h1.drew
  go_enter Try.func44, Try.ntmps44
  go_wp2_with fail
  refine wp_region_held_drew (S := fun w' : World => w'.cell? ⟨p, 0, none⟩ = some (.int .i64 room) ∧ w'.cell? ⟨p, 1, none⟩ = some (.map (some g)) ∧ (Builtin.len_ #[116] 3 #[.map (some g)]).run Try.prog w' = .ok (.int .i64 (K.length : Int)) w') (by kernel_rfl) (kk _ hD) (fun hHeld => ?_)
  refine wpAnyH_take (i := 0) (oi := { dst := some 5, op := Go.Op.move (Go.Operand.tmp 0), type := 67, pos := "vertex.go:139", after := #[], guard := none }) (v := ?_) rfl (by kernel_rfl) (by kernel_rfl) (by kernel_rfl) (fun _ _ _ h => h) (Or.inl ⟨by rfl, ?_⟩) (by assumption) ?_
  rotate_left
  · (intro w hSw; (try dsimp only at hSw); go_simp; (try (with_reducible rfl)))
  try simp only [Act.put, List.setIfInBounds_toArray, List.set_cons_zero, List.set_cons_succ]
  refine wpAnyH_take (i := 1) (oi := { dst := some 6, op := Go.Op.nilCheck (Go.Operand.tmp 5), type := 0, pos := "vertex.go:139", after := #[{ on := 0, ground := Go.Ground.data }], guard := none }) (v := ?_) rfl (by kernel_rfl) (by kernel_rfl) (by kernel_rfl) (fun _ _ _ h => h) (Or.inl ⟨by rfl, ?_⟩) (by assumption) ?_
  rotate_left
  · (intro w hSw; (try dsimp only at hSw); go_simp; (try (with_reducible rfl)))
  try simp only [Act.put, List.setIfInBounds_toArray, List.set_cons_zero, List.set_cons_succ]
  refine wpAnyH_take (i := 2) (oi := { dst := some 7, op := Go.Op.fieldAddr 120 (Go.Operand.tmp 6) 0, type := 0, pos := "vertex.go:139", after := #[{ on := 1, ground := Go.Ground.data }], guard := none }) (v := ?_) rfl (by kernel_rfl) (by kernel_rfl) (by kernel_rfl) (fun _ _ _ h => h) (Or.inl ⟨by rfl, ?_⟩) (by assumption) ?_
  rotate_left
  · (intro w hSw; (try dsimp only at hSw); go_simp; (try (with_reducible rfl)))
  try simp only [Act.put, List.setIfInBounds_toArray, List.set_cons_zero, List.set_cons_succ]
  refine wpAnyH_take (i := 3) (oi := { dst := some 8, op := Go.Op.load 3 (Go.Operand.tmp 7), type := 3, pos := "vertex.go:139", after := #[{ on := 2, ground := Go.Ground.data }], guard := none }) (v := ?_) rfl (by kernel_rfl) (by kernel_rfl) (by kernel_rfl) (fun _ _ _ h => h) (Or.inl ⟨by rfl, ?_⟩) (by assumption) ?_
  rotate_left
  · (intro w hSw; (try dsimp only at hSw); go_simp; (try (with_reducible rfl)))
  try simp only [Act.put, List.setIfInBounds_toArray, List.set_cons_zero, List.set_cons_succ]
  refine wpAnyH_take (i := 4) (oi := { dst := some 9, op := Go.Op.move (Go.Operand.tmp 0), type := 67, pos := "vertex.go:139", after := #[], guard := none }) (v := ?_) rfl (by kernel_rfl) (by kernel_rfl) (by kernel_rfl) (fun _ _ _ h => h) (Or.inl ⟨by rfl, ?_⟩) (by assumption) ?_
  rotate_left
  · (intro w hSw; (try dsimp only at hSw); go_simp; (try (with_reducible rfl)))
  try simp only [Act.put, List.setIfInBounds_toArray, List.set_cons_zero, List.set_cons_succ]
  refine wpAnyH_take (i := 5) (oi := { dst := some 10, op := Go.Op.nilCheck (Go.Operand.tmp 9), type := 0, pos := "vertex.go:139", after := #[{ on := 4, ground := Go.Ground.data }], guard := none }) (v := ?_) rfl (by kernel_rfl) (by kernel_rfl) (by kernel_rfl) (fun _ _ _ h => h) (Or.inl ⟨by rfl, ?_⟩) (by assumption) ?_
  rotate_left
  · (intro w hSw; (try dsimp only at hSw); go_simp; (try (with_reducible rfl)))
  try simp only [Act.put, List.setIfInBounds_toArray, List.set_cons_zero, List.set_cons_succ]
  refine wpAnyH_take (i := 6) (oi := { dst := some 11, op := Go.Op.fieldAddr 120 (Go.Operand.tmp 10) 1, type := 0, pos := "vertex.go:139", after := #[{ on := 5, ground := Go.Ground.data }], guard := none }) (v := ?_) rfl (by kernel_rfl) (by kernel_rfl) (by kernel_rfl) (fun _ _ _ h => h) (Or.inl ⟨by rfl, ?_⟩) (by assumption) ?_
  rotate_left
  · (intro w hSw; (try dsimp only at hSw); go_simp; (try (with_reducible rfl)))
  try simp only [Act.put, List.setIfInBounds_toArray, List.set_cons_zero, List.set_cons_succ]
  refine wpAnyH_take (i := 7) (oi := { dst := some 12, op := Go.Op.load 116 (Go.Operand.tmp 11), type := 116, pos := "vertex.go:139", after := #[{ on := 6, ground := Go.Ground.data }], guard := none }) (v := ?_) rfl (by kernel_rfl) (by kernel_rfl) (by kernel_rfl) (fun _ _ _ h => h) (Or.inl ⟨by rfl, ?_⟩) (by assumption) ?_
  rotate_left
  · (intro w hSw; (try dsimp only at hSw); go_simp; (try (with_reducible rfl)))
  try simp only [Act.put, List.setIfInBounds_toArray, List.set_cons_zero, List.set_cons_succ]
  refine wpAnyH_take (i := 8) (oi := { dst := some 13, op := Go.Op.call { callee := Go.Callee.builtin Go.Builtin.len, args := #[Go.Operand.tmp 12], argTypes := #[116] }, type := 3, pos := "vertex.go:139", after := #[{ on := 7, ground := Go.Ground.data }], guard := none }) (v := ?_) rfl (by kernel_rfl) (by kernel_rfl) (by kernel_rfl) (fun _ _ _ h => h) (Or.inl ⟨by rfl, ?_⟩) (by assumption) ?_
  rotate_left
  · (intro w hSw; (try dsimp only at hSw); go_simp; (try (with_reducible rfl)))
  try simp only [Act.put, List.setIfInBounds_toArray, List.set_cons_zero, List.set_cons_succ]
  refine wpAnyH_take (i := 9) (oi := { dst := some 14, op := Go.Op.binOp Go.BinOp.sub 3 (Go.Operand.tmp 8) (Go.Operand.tmp 13) 3, type := 3, pos := "vertex.go:139", after := #[{ on := 3, ground := Go.Ground.data }, { on := 8, ground := Go.Ground.data }], guard := none }) (v := ?_) rfl (by kernel_rfl) (by kernel_rfl) (by kernel_rfl) (fun _ _ _ h => h) (Or.inl ⟨by rfl, ?_⟩) (by assumption) ?_
  rotate_left
  · (intro w hSw; (try dsimp only at hSw); go_simp; (try (with_reducible rfl)))
  try simp only [Act.put, List.setIfInBounds_toArray, List.set_cons_zero, List.set_cons_succ]
  refine wpAnyH_take (i := 10) (oi := { dst := some 2, op := Go.Op.assign (Go.Operand.tmp 14), type := 3, pos := "vertex.go:139", after := #[{ on := 9, ground := Go.Ground.data }, { on := 8, ground := Go.Ground.chain }, { on := 0, ground := Go.Ground.phase }, { on := 1, ground := Go.Ground.phase }, { on := 2, ground := Go.Ground.phase }, { on := 3, ground := Go.Ground.phase }, { on := 4, ground := Go.Ground.phase }, { on := 5, ground := Go.Ground.phase }, { on := 6, ground := Go.Ground.phase }, { on := 7, ground := Go.Ground.phase }, { on := 8, ground := Go.Ground.phase }, { on := 9, ground := Go.Ground.phase }], guard := none }) (v := ?_) rfl (by kernel_rfl) (by kernel_rfl) (by kernel_rfl) (fun _ _ _ h => h) (Or.inl ⟨by rfl, ?_⟩) (by assumption) ?_
  rotate_left
  · (intro w hSw; (try dsimp only at hSw); go_simp; (try (with_reducible rfl)))
  try simp only [Act.put, List.setIfInBounds_toArray, List.set_cons_zero, List.set_cons_succ]
  refine wpAnyH_done (by kernel_rfl) ?_ _
  clear hHeld
  go_wp2_with fail
  go_ret
  exact ⟨rfl, (Below.refl _ _).drew⟩
set_option maxRecDepth 100000 in
set_option maxHeartbeats 3200000 in
theorem vsStatus_any (p : Nat) (room : Int) (K : List Kp) (M : List Id) (low : List Nat) (a : Id) (H : Hp) (fr : List HA) (w : World) (h : St H (VsA p room K M low :: fr) w) (hK : KpOk H K) :
    Calls Try.prog 46 #[vsP p, idV a] w fun e w' => e = .returned (.int .i64 (stK K M a)) ∧ Below w.heap.size w w' := by
  obtain ⟨R, hR⟩ : ∃ R, Hid (stK K M a = R) := ⟨_, Lib.hid rfl⟩
  rw [hR.out]
  have hR2 := hR.out
  unfold stK at hR2
  have hld := lookKp_d hK a
  obtain ⟨d1, d2, d3, b1, b2, b3, hdv, hbv⟩ := kp_form hld
  have hlk := look_at K a
  obtain ⟨r, s⟩ := a
  obtain ⟨H1, l1, h1, y⟩ := h.box #[.int .i64 r, .int .i64 s] 28
  have bel := boxBelow w (.cells #[.int .i64 r, .int .i64 s] 28)
  have y0 := y 0 _ rfl
  have y1 := y 1 _ rfl
  clear y h
  generalize lookKp K (r, s) = z at *
  obtain ⟨⟨⟨⟨x0, x1⟩, xq, xd, xb, xD, xB⟩, xo⟩, xk⟩ := z
  try simp only at hdv hbv hlk hR2
  subst hdv hbv
  obtain ⟨g, f, h2⟩ := vsOpen h1
  have kk : ∀ w', St H1 (Blk p (vsC room g f low) 120 :: Mp kpC g (entsK K) :: FrI f M :: fr) w' → (fun w' : World => w'.cell? ⟨p, 1, none⟩ = some (.map (some g)) ∧ w'.cell? ⟨w.heap.size, 0, none⟩ = some (.int .i64 r) ∧ w'.cell? ⟨w.heap.size, 1, none⟩ = some (.int .i64 s) ∧ (Instr.lookup 116 (.map (some g)) (.agg #[.int .i64 r, .int .i64 s]) true).run Try.prog w' = .ok (.tuple #[.agg #[.int .i64 x0, .int .i64 x1, .int .i64 xq, .slice d1 d2 d3, .slice b1 b2 b3, .bool xo], .bool xk]) w') w' := fun w' h' => ⟨h'.blk_cell 1, h'.cell y0, h'.cell y1, by
    have := h'.swap.mp_get true (t := 116) Try.underlying116 (zero_kp _) (r, s)
    rw [hlk] at this
    exact this⟩
  have hD := h2.drew
  have cl := h2.blk_lt
  have hHas := fun w' (h' : St H1 (Blk p (vsC room g f low) 120 :: Mp kpC g (entsK K) :: FrI f M :: fr) w') => frHas f M (r, s) H1 _ w' (h'.pick 2 (by simp))
  replace hHas := Lib.hid hHas
  replace hlk := Lib.hid hlk
  replace hR2 := Lib.hid hR2
  clear hld h1 hK
  go_enter Try.func46, Try.ntmps46
  go_wp2_with fail
  refine wp_region_held_drew (S := (fun w' : World => w'.cell? ⟨p, 1, none⟩ = some (.map (some g)) ∧ w'.cell? ⟨w.heap.size, 0, none⟩ = some (.int .i64 r) ∧ w'.cell? ⟨w.heap.size, 1, none⟩ = some (.int .i64 s) ∧ (Instr.lookup 116 (.map (some g)) (.agg #[.int .i64 r, .int .i64 s]) true).run Try.prog w' = .ok (.tuple #[.agg #[.int .i64 x0, .int .i64 x1, .int .i64 xq, .slice d1 d2 d3, .slice b1 b2 b3, .bool xo], .bool xk]) w')) (by kernel_rfl) (kk _ hD) (fun hHeld => ?_)
  refine wpAnyH_take (i := 0) (oi := { dst := some 10, op := Go.Op.move (Go.Operand.tmp 0), type := 67, pos := "vertex.go:70", after := #[], guard := none }) (v := ?_) rfl (by kernel_rfl) (by kernel_rfl) (by kernel_rfl) (fun _ _ _ h => h) (Or.inl ⟨by rfl, ?_⟩) (by assumption) ?_
  rotate_left
  · (intro w hSw; (try dsimp only at hSw); go_simp; (try (with_reducible rfl)))
  try simp only [Act.put, List.setIfInBounds_toArray, List.set_cons_zero, List.set_cons_succ]
  refine wpAnyH_take (i := 1) (oi := { dst := some 11, op := Go.Op.nilCheck (Go.Operand.tmp 10), type := 0, pos := "vertex.go:70", after := #[{ on := 0, ground := Go.Ground.data }], guard := none }) (v := ?_) rfl (by kernel_rfl) (by kernel_rfl) (by kernel_rfl) (fun _ _ _ h => h) (Or.inl ⟨by rfl, ?_⟩) (by assumption) ?_
  rotate_left
  · (intro w hSw; (try dsimp only at hSw); go_simp; (try (with_reducible rfl)))
  try simp only [Act.put, List.setIfInBounds_toArray, List.set_cons_zero, List.set_cons_succ]
  refine wpAnyH_take (i := 2) (oi := { dst := some 12, op := Go.Op.fieldAddr 120 (Go.Operand.tmp 11) 1, type := 0, pos := "vertex.go:70", after := #[{ on := 1, ground := Go.Ground.data }], guard := none }) (v := ?_) rfl (by kernel_rfl) (by kernel_rfl) (by kernel_rfl) (fun _ _ _ h => h) (Or.inl ⟨by rfl, ?_⟩) (by assumption) ?_
  rotate_left
  · (intro w hSw; (try dsimp only at hSw); go_simp; (try (with_reducible rfl)))
  try simp only [Act.put, List.setIfInBounds_toArray, List.set_cons_zero, List.set_cons_succ]
  refine wpAnyH_take (i := 3) (oi := { dst := some 13, op := Go.Op.load 116 (Go.Operand.tmp 12), type := 116, pos := "vertex.go:70", after := #[{ on := 2, ground := Go.Ground.data }], guard := none }) (v := ?_) rfl (by kernel_rfl) (by kernel_rfl) (by kernel_rfl) (fun _ _ _ h => h) (Or.inl ⟨by rfl, ?_⟩) (by assumption) ?_
  rotate_left
  · (intro w hSw; (try dsimp only at hSw); go_simp; (try (with_reducible rfl)))
  try simp only [Act.put, List.setIfInBounds_toArray, List.set_cons_zero, List.set_cons_succ]
  refine wpAnyH_take (i := 4) (oi := { dst := some 14, op := Go.Op.load 28 (Go.Operand.tmp 3), type := 28, pos := "vertex.go:70", after := #[], guard := none }) (v := ?_) rfl (by kernel_rfl) (by kernel_rfl) (by kernel_rfl) (fun _ _ _ h => h) (Or.inl ⟨by rfl, ?_⟩) (by assumption) ?_
  rotate_left
  · (intro w hSw; (try dsimp only at hSw); go_simp; (try (with_reducible rfl)))
  try simp only [Act.put, List.setIfInBounds_toArray, List.set_cons_zero, List.set_cons_succ]
  refine wpAnyH_take (i := 5) (oi := { dst := some 15, op := Go.Op.lookup 116 (Go.Operand.tmp 13) (Go.Operand.tmp 14) true, type := 123, pos := "vertex.go:70", after := #[{ on := 3, ground := Go.Ground.data }, { on := 4, ground := Go.Ground.data }], guard := none }) (v := ?_) rfl (by kernel_rfl) (by kernel_rfl) (by kernel_rfl) (fun _ _ _ h => h) (Or.inl ⟨by rfl, ?_⟩) (by assumption) ?_
  rotate_left
  · (intro w hSw; (try dsimp only at hSw); go_simp; (try (with_reducible rfl)))
  try simp only [Act.put, List.setIfInBounds_toArray, List.set_cons_zero, List.set_cons_succ]
  refine wpAnyH_take (i := 6) (oi := { dst := some 9, op := Go.Op.move (Go.Operand.tmp 15), type := 123, pos := "vertex.go:70", after := #[{ on := 5, ground := Go.Ground.data }], guard := none }) (v := ?_) rfl (by kernel_rfl) (by kernel_rfl) (by kernel_rfl) (fun _ _ _ h => h) (Or.inl ⟨by rfl, ?_⟩) (by assumption) ?_
  rotate_left
  · (intro w hSw; (try dsimp only at hSw); go_simp; (try (with_reducible rfl)))
  try simp only [Act.put, List.setIfInBounds_toArray, List.set_cons_zero, List.set_cons_succ]
  refine wpAnyH_take (i := 7) (oi := { dst := some 16, op := Go.Op.extract (Go.Operand.tmp 9) 0, type := 122, pos := "vertex.go:70", after := #[{ on := 6, ground := Go.Ground.data }], guard := none }) (v := ?_) rfl (by kernel_rfl) (by kernel_rfl) (by kernel_rfl) (fun _ _ _ h => h) (Or.inl ⟨by rfl, ?_⟩) (by assumption) ?_
  rotate_left
  · (intro w hSw; (try dsimp only at hSw); go_simp; (try (with_reducible rfl)))
  try simp only [Act.put, List.setIfInBounds_toArray, List.set_cons_zero, List.set_cons_succ]
  refine wpAnyH_take (i := 8) (oi := { dst := some 17, op := Go.Op.extract (Go.Operand.tmp 9) 1, type := 4, pos := "vertex.go:70", after := #[{ on := 6, ground := Go.Ground.data }, { on := 10, ground := Go.Ground.gcOnly Go.Departure.lateStores }], guard := none }) (v := ?_) rfl (by kernel_rfl) (by kernel_rfl) (by kernel_rfl) (fun _ _ _ h => h) (Or.inl ⟨by rfl, ?_⟩) (by assumption) ?_
  rotate_left
  · (intro w hSw; (try dsimp only at hSw); go_simp; (try (with_reducible rfl)))
  try simp only [Act.put, List.setIfInBounds_toArray, List.set_cons_zero, List.set_cons_succ]
  refine wpAnyH_ready (rs := [9]) (by kernel_rfl) (by simp) ?_
  refine AllReadyH.cons (o := { dst := some 5, op := Go.Op.alloc 122, type := 0, pos := "vertex.go:70", after := #[], guard := none }) rfl (fun K hK => ?_) AllReadyH.nil
  go_simp
  refine hK.out _ _ (kk _ (hD.alloc _)) (fun hHeld2 => ?_)
  clear hK K hHeld
  try simp only [Act.put, List.setIfInBounds_toArray, List.set_cons_zero, List.set_cons_succ]
  refine wpAnyH_ready (rs := [10]) (by kernel_rfl) (by simp) ?_
  refine AllReadyH.cons (o := { dst := none, op := Go.Op.store 122 (Go.Operand.tmp 5) (Go.Operand.tmp 16), type := 0, pos := "vertex.go:70", after := #[{ on := 9, ground := Go.Ground.data }, { on := 7, ground := Go.Ground.data }, { on := 0, ground := Go.Ground.phase }, { on := 1, ground := Go.Ground.phase }, { on := 2, ground := Go.Ground.phase }, { on := 3, ground := Go.Ground.phase }, { on := 4, ground := Go.Ground.phase }, { on := 5, ground := Go.Ground.phase }, { on := 6, ground := Go.Ground.phase }, { on := 7, ground := Go.Ground.phase }, { on := 8, ground := Go.Ground.textOnly Go.Departure.lateStores }, { on := 9, ground := Go.Ground.phase }], guard := none }) rfl (fun K hK => ?_) AllReadyH.nil
  go_simp
  refine hK.out _ _ (kk _ ((h2.alloc _).drew)) (fun hHeld3 => ?_)
  clear hK K hHeld2
  try simp only [Act.put, List.setIfInBounds_toArray, List.set_cons_zero, List.set_cons_succ]
  refine wpAnyH_take (i := 11) (oi := { dst := some 6, op := Go.Op.assign (Go.Operand.tmp 17), type := 4, pos := "vertex.go:70", after := #[{ on := 8, ground := Go.Ground.data }, { on := 10, ground := Go.Ground.chain }, { on := 0, ground := Go.Ground.phase }, { on := 1, ground := Go.Ground.phase }, { on := 2, ground := Go.Ground.phase }, { on := 3, ground := Go.Ground.phase }, { on := 4, ground := Go.Ground.phase }, { on := 5, ground := Go.Ground.phase }, { on := 6, ground := Go.Ground.phase }, { on := 7, ground := Go.Ground.phase }, { on := 8, ground := Go.Ground.phase }, { on := 9, ground := Go.Ground.phase }, { on := 10, ground := Go.Ground.phase }], guard := none }) (v := ?_) rfl (by kernel_rfl) (by kernel_rfl) (by kernel_rfl) (fun _ _ _ h => h) (Or.inl ⟨by rfl, ?_⟩) (by assumption) ?_
  rotate_left
  · (intro w hSw; (try dsimp only at hSw); go_simp; (try (with_reducible rfl)))
  try simp only [Act.put, List.setIfInBounds_toArray, List.set_cons_zero, List.set_cons_succ]
  refine wpAnyH_done (by kernel_rfl) ?_ _
  obtain ⟨H3, l3, h3, kc⟩ := h2.box #[.int .i64 x0, .int .i64 x1, .int .i64 xq, .slice d1 d2 d3, .slice b1 b2 b3, .bool xo] 122
  have e1 : (w.alloc (.cells #[.int .i64 r, .int .i64 s] 28)).heap.size = w.heap.size + 1 := by simp
  rw [e1] at kc
  have bel3 := (bel.alloc (Nat.le_trans (Nat.le_refl _) bel.size) (.cells #[.int .i64 x0, .int .i64 x1, .int .i64 xq, .slice d1 d2 d3, .slice b1 b2 b3, .bool xo] 122)).drew
  have k5 := kc 5 _ rfl
  have hE := h3.drew
  clear hHeld3 kk hD h3 e1 cl kc
  generalize ((w.alloc (.cells #[.int .i64 r, .int .i64 s] 28)).alloc (.cells #[.int .i64 x0, .int .i64 x1, .int .i64 xq, .slice d1 d2 d3, .slice b1 b2 b3, .bool xo] 122)).drew = W3 at *
  have v5 := hE.cell k5
  have vl := World.block_lt_of_cell? _ _ v5
  cases xk with
  | true =>
    cases xo with
    | true =>
      have hRv : Hid (R = 2) := Lib.hid (by rw [← hR2.out]; simp)
      go_wp2_with fail
      go_ret
      exact ⟨ri hRv.out.symm, bel3⟩
    | false =>
      have hRv : Hid (R = 1) := Lib.hid (by rw [← hR2.out]; simp)
      go_wp2_with fail
      go_ret
      exact ⟨ri hRv.out.symm, bel3⟩
  | false =>
    have c2 : W3.cell? ⟨p, 2, none⟩ = some (frP f) := hE.blk_cell 2
    have cl := hE.blk_lt
    have u0 := hE.cell (Hp.cell_le l3 y0)
    have u1 := hE.cell (Hp.cell_le l3 y1)
    have ul := World.block_lt_of_cell? _ _ u0
    have hH3 := hHas.out W3.drew (hE.drew.weaken l3)
    have kk2 : ∀ (l' : List HA) (w' : World), St H3 (Blk p (vsC room g f low) 120 :: l') w' → (fun w' : World => w'.cell? ⟨p, 2, none⟩ = some (frP f) ∧ w'.cell? ⟨w.heap.size, 0, none⟩ = some (.int .i64 r) ∧ w'.cell? ⟨w.heap.size, 1, none⟩ = some (.int .i64 s)) w' := fun l' w' h => ⟨h.blk_cell 2, h.cell (Hp.cell_le l3 y0), h.cell (Hp.cell_le l3 y1)⟩
    by_cases hm : ((r, s) : Id) ∈ M
    · have hRv : Hid (R = 3) := Lib.hid (by rw [← hR2.out]; simp [hm])
      rw [decide_eq_true hm] at hH3
      replace hH3 := Lib.hid hH3
      clear hm
      go_wp2_with fail
      refine wp_region_held_drew (S := fun w' : World => w'.cell? ⟨p, 2, none⟩ = some (frP f) ∧ w'.cell? ⟨w.heap.size, 0, none⟩ = some (.int .i64 r) ∧ w'.cell? ⟨w.heap.size, 1, none⟩ = some (.int .i64 s)) (by kernel_rfl) (kk2 _ _ hE.drew) (fun hHeld => ?_)
      refine wpAnyH_take (i := 0) (oi := { dst := some 27, op := Go.Op.move (Go.Operand.tmp 0), type := 67, pos := "vertex.go:76", after := #[], guard := none }) (v := ?_) rfl (by kernel_rfl) (by kernel_rfl) (by kernel_rfl) (fun _ _ _ h => h) (Or.inl ⟨by rfl, ?_⟩) (by assumption) ?_
      rotate_left
      · (intro w hSw; (try dsimp only at hSw); go_simp; (try (with_reducible rfl)))
      try simp only [Act.put, List.setIfInBounds_toArray, List.set_cons_zero, List.set_cons_succ]
      refine wpAnyH_take (i := 1) (oi := { dst := some 28, op := Go.Op.nilCheck (Go.Operand.tmp 27), type := 0, pos := "vertex.go:76", after := #[{ on := 0, ground := Go.Ground.data }], guard := none }) (v := ?_) rfl (by kernel_rfl) (by kernel_rfl) (by kernel_rfl) (fun _ _ _ h => h) (Or.inl ⟨by rfl, ?_⟩) (by assumption) ?_
      rotate_left
      · (intro w hSw; (try dsimp only at hSw); go_simp; (try (with_reducible rfl)))
      try simp only [Act.put, List.setIfInBounds_toArray, List.set_cons_zero, List.set_cons_succ]
      refine wpAnyH_take (i := 2) (oi := { dst := some 29, op := Go.Op.fieldAddr 120 (Go.Operand.tmp 28) 2, type := 0, pos := "vertex.go:76", after := #[{ on := 1, ground := Go.Ground.data }], guard := none }) (v := ?_) rfl (by kernel_rfl) (by kernel_rfl) (by kernel_rfl) (fun _ _ _ h => h) (Or.inl ⟨by rfl, ?_⟩) (by assumption) ?_
      rotate_left
      · (intro w hSw; (try dsimp only at hSw); go_simp; (try (with_reducible rfl)))
      try simp only [Act.put, List.setIfInBounds_toArray, List.set_cons_zero, List.set_cons_succ]
      refine wpAnyH_take (i := 3) (oi := { dst := some 30, op := Go.Op.load 117 (Go.Operand.tmp 29), type := 117, pos := "vertex.go:76", after := #[{ on := 2, ground := Go.Ground.data }], guard := none }) (v := ?_) rfl (by kernel_rfl) (by kernel_rfl) (by kernel_rfl) (fun _ _ _ h => h) (Or.inl ⟨by rfl, ?_⟩) (by assumption) ?_
      rotate_left
      · (intro w hSw; (try dsimp only at hSw); go_simp; (try (with_reducible rfl)))
      try simp only [Act.put, List.setIfInBounds_toArray, List.set_cons_zero, List.set_cons_succ]
      refine wpAnyH_take (i := 4) (oi := { dst := some 31, op := Go.Op.load 28 (Go.Operand.tmp 3), type := 28, pos := "vertex.go:76", after := #[], guard := none }) (v := ?_) rfl (by kernel_rfl) (by kernel_rfl) (by kernel_rfl) (fun _ _ _ h => h) (Or.inl ⟨by rfl, ?_⟩) (by assumption) ?_
      rotate_left
      · (intro w hSw; (try dsimp only at hSw); go_simp; (try (with_reducible rfl)))
      try simp only [Act.put, List.setIfInBounds_toArray, List.set_cons_zero, List.set_cons_succ]
      refine wpAnyH_ready (rs := [5]) (by kernel_rfl) (by simp) ?_
      refine AllReadyH.cons (o := { dst := some 32, op := Go.Op.call { callee := Go.Callee.value (Go.Operand.func 85), args := #[Go.Operand.tmp 30, Go.Operand.tmp 31], argTypes := #[117, 28] }, type := 4, pos := "vertex.go:76", after := #[{ on := 3, ground := Go.Ground.data }, { on := 4, ground := Go.Ground.data }], guard := none }) rfl (fun K hK => ?_) AllReadyH.nil
      go_simp
      refine hH3.out.mono ?_
      rintro e w4 ⟨rfl, hb4⟩
      refine hK.out _ _ (kk2 _ _ (hE.drew.below hb4)) (fun hHeld2 => ?_)
      clear hK K hHeld
      try simp only [Act.put, List.setIfInBounds_toArray, List.set_cons_zero, List.set_cons_succ]
      refine wpAnyH_take (i := 6) (oi := { dst := some 26, op := Go.Op.assign (Go.Operand.tmp 32), type := 4, pos := "vertex.go:76", after := #[{ on := 5, ground := Go.Ground.data }, { on := 5, ground := Go.Ground.chain }], guard := none }) (v := ?_) rfl (by kernel_rfl) (by kernel_rfl) (by kernel_rfl) (fun _ _ _ h => h) (Or.inl ⟨by rfl, ?_⟩) (by assumption) ?_
      rotate_left
      · (intro w hSw; (try dsimp only at hSw); go_simp; (try (with_reducible rfl)))
      try simp only [Act.put, List.setIfInBounds_toArray, List.set_cons_zero, List.set_cons_succ]
      refine wpAnyH_done (by kernel_rfl) ?_ _
      go_wp2_with fail
      go_ret
      exact ⟨ri hRv.out.symm, bel3.drew.trans (hb4.mono bel3.drew.size)⟩
    · have hRv : Hid (R = 0) := Lib.hid (by rw [← hR2.out]; simp [hm])
      rw [decide_eq_false hm] at hH3
      replace hH3 := Lib.hid hH3
      clear hm
      go_wp2_with fail
      refine wp_region_held_drew (S := fun w' : World => w'.cell? ⟨p, 2, none⟩ = some (frP f) ∧ w'.cell? ⟨w.heap.size, 0, none⟩ = some (.int .i64 r) ∧ w'.cell? ⟨w.heap.size, 1, none⟩ = some (.int .i64 s)) (by kernel_rfl) (kk2 _ _ hE.drew) (fun hHeld => ?_)
      refine wpAnyH_take (i := 0) (oi := { dst := some 27, op := Go.Op.move (Go.Operand.tmp 0), type := 67, pos := "vertex.go:76", after := #[], guard := none }) (v := ?_) rfl (by kernel_rfl) (by kernel_rfl) (by kernel_rfl) (fun _ _ _ h => h) (Or.inl ⟨by rfl, ?_⟩) (by assumption) ?_
      rotate_left
      · (intro w hSw; (try dsimp only at hSw); go_simp; (try (with_reducible rfl)))
      try simp only [Act.put, List.setIfInBounds_toArray, List.set_cons_zero, List.set_cons_succ]
      refine wpAnyH_take (i := 1) (oi := { dst := some 28, op := Go.Op.nilCheck (Go.Operand.tmp 27), type := 0, pos := "vertex.go:76", after := #[{ on := 0, ground := Go.Ground.data }], guard := none }) (v := ?_) rfl (by kernel_rfl) (by kernel_rfl) (by kernel_rfl) (fun _ _ _ h => h) (Or.inl ⟨by rfl, ?_⟩) (by assumption) ?_
      rotate_left
      · (intro w hSw; (try dsimp only at hSw); go_simp; (try (with_reducible rfl)))
      try simp only [Act.put, List.setIfInBounds_toArray, List.set_cons_zero, List.set_cons_succ]
      refine wpAnyH_take (i := 2) (oi := { dst := some 29, op := Go.Op.fieldAddr 120 (Go.Operand.tmp 28) 2, type := 0, pos := "vertex.go:76", after := #[{ on := 1, ground := Go.Ground.data }], guard := none }) (v := ?_) rfl (by kernel_rfl) (by kernel_rfl) (by kernel_rfl) (fun _ _ _ h => h) (Or.inl ⟨by rfl, ?_⟩) (by assumption) ?_
      rotate_left
      · (intro w hSw; (try dsimp only at hSw); go_simp; (try (with_reducible rfl)))
      try simp only [Act.put, List.setIfInBounds_toArray, List.set_cons_zero, List.set_cons_succ]
      refine wpAnyH_take (i := 3) (oi := { dst := some 30, op := Go.Op.load 117 (Go.Operand.tmp 29), type := 117, pos := "vertex.go:76", after := #[{ on := 2, ground := Go.Ground.data }], guard := none }) (v := ?_) rfl (by kernel_rfl) (by kernel_rfl) (by kernel_rfl) (fun _ _ _ h => h) (Or.inl ⟨by rfl, ?_⟩) (by assumption) ?_
      rotate_left
      · (intro w hSw; (try dsimp only at hSw); go_simp; (try (with_reducible rfl)))
      try simp only [Act.put, List.setIfInBounds_toArray, List.set_cons_zero, List.set_cons_succ]
      refine wpAnyH_take (i := 4) (oi := { dst := some 31, op := Go.Op.load 28 (Go.Operand.tmp 3), type := 28, pos := "vertex.go:76", after := #[], guard := none }) (v := ?_) rfl (by kernel_rfl) (by kernel_rfl) (by kernel_rfl) (fun _ _ _ h => h) (Or.inl ⟨by rfl, ?_⟩) (by assumption) ?_
      rotate_left
      · (intro w hSw; (try dsimp only at hSw); go_simp; (try (with_reducible rfl)))
      try simp only [Act.put, List.setIfInBounds_toArray, List.set_cons_zero, List.set_cons_succ]
      refine wpAnyH_ready (rs := [5]) (by kernel_rfl) (by simp) ?_
      refine AllReadyH.cons (o := { dst := some 32, op := Go.Op.call { callee := Go.Callee.value (Go.Operand.func 85), args := #[Go.Operand.tmp 30, Go.Operand.tmp 31], argTypes := #[117, 28] }, type := 4, pos := "vertex.go:76", after := #[{ on := 3, ground := Go.Ground.data }, { on := 4, ground := Go.Ground.data }], guard := none }) rfl (fun K hK => ?_) AllReadyH.nil
      go_simp
      refine hH3.out.mono ?_
      rintro e w4 ⟨rfl, hb4⟩
      refine hK.out _ _ (kk2 _ _ (hE.drew.below hb4)) (fun hHeld2 => ?_)
      clear hK K hHeld
      try simp only [Act.put, List.setIfInBounds_toArray, List.set_cons_zero, List.set_cons_succ]
      refine wpAnyH_take (i := 6) (oi := { dst := some 26, op := Go.Op.assign (Go.Operand.tmp 32), type := 4, pos := "vertex.go:76", after := #[{ on := 5, ground := Go.Ground.data }, { on := 5, ground := Go.Ground.chain }], guard := none }) (v := ?_) rfl (by kernel_rfl) (by kernel_rfl) (by kernel_rfl) (fun _ _ _ h => h) (Or.inl ⟨by rfl, ?_⟩) (by assumption) ?_
      rotate_left
      · (intro w hSw; (try dsimp only at hSw); go_simp; (try (with_reducible rfl)))
      try simp only [Act.put, List.setIfInBounds_toArray, List.set_cons_zero, List.set_cons_succ]
      refine wpAnyH_done (by kernel_rfl) ?_ _
      go_wp2_with fail
      go_ret
      exact ⟨ri hRv.out.symm, bel3.drew.trans (hb4.mono bel3.drew.size)⟩
end Go.Proofs.Ytelmhcbdpimaaaa
