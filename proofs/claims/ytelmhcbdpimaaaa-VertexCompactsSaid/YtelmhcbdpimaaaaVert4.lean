/- Records that are kept: Done. -/
import Derived.Test.YtelmhcbdpimaaaaVert3
set_option linter.unusedVariables false
set_option linter.unusedSimpArgs false
namespace Go.Proofs.Ytelmhcbdpimaaaa
open Go.RowKit Go.Cw Go.Fl
attribute [local go_sem ↓] eql_id neq_id
/-- An id is done. -/
def doneK (a : Id) (K : List Kp) : List Kp := K.map (fun x => if x.1.1 = a then (x.1, true) else x)
theorem doneK_kids (a : Id) (K : List Kp) : kids (doneK a K) = kids K := by
  unfold doneK kids
  rw [List.map_map]
  refine List.map_congr_left (fun x _ => ?_)
  simp only [Function.comp]
  by_cases h : x.1.1 = a
  · rw [if_pos h]
  · rw [if_neg h]
theorem doneK_ok {H : Hp} {K : List Kp} (h : KpOk H K) (a : Id) : KpOk H (doneK a K) := by
  refine ⟨?_, ?_, by unfold doneK; rw [List.length_map]; exact h.n⟩
  · intro y hy
    obtain ⟨x, hx, rfl⟩ := List.mem_map.1 hy
    by_cases hc : x.1.1 = a
    · rw [if_pos hc]; exact h.d x hx
    · rw [if_neg hc]; exact h.d x hx
  · intro y hy
    obtain ⟨x, hx, rfl⟩ := List.mem_map.1 hy
    by_cases hc : x.1.1 = a
    · rw [if_pos hc]; exact h.b x hx
    · rw [if_neg hc]; exact h.b x hx
theorem kids_one {K : List Kp} (hn : (kids K).Nodup) {x y : Kp} (hx : x ∈ K) (hy : y ∈ K) (h : x.1.1 = y.1.1) : x = y := by
  obtain ⟨i, hi, rfl⟩ := List.getElem_of_mem hx
  obtain ⟨j, hj, rfl⟩ := List.getElem_of_mem hy
  have : i = j := (List.getElem_inj (h₀ := by simpa [kids] using hi) (h₁ := by simpa [kids] using hj) hn).1 (by simpa [kids] using h)
  subst this
  rfl
theorem entsK_done {K : List Kp} (hn : (kids K).Nodup) {a : Id} (h : (lookKp K a).2 = true) : mput a ((lookKp K a).1.1, true) (entsK K) = entsK (doneK a K) := by
  obtain ⟨hm, he⟩ := lookKp_mem h
  have hin : a ∈ kids K := List.mem_map.2 ⟨_, hm, he⟩
  unfold mput
  rw [entsK_keys, if_pos hin]
  unfold entsK doneK
  rw [List.map_map, List.map_map]
  refine List.map_congr_left (fun x hx => ?_)
  simp only [Function.comp]
  by_cases hc : x.1.1 = a
  · rw [if_pos hc, if_pos hc]
    have := kids_one hn hx hm (hc.trans he.symm)
    rw [← this, hc]
  · rw [if_neg hc, if_neg hc]
theorem stK_one {K : List Kp} {M : List Id} {a : Id} : stK K M a = 1 ↔ (lookKp K a).2 = true ∧ (lookKp K a).1.2 = false := by
  unfold stK
  cases (lookKp K a).2 <;> cases (lookKp K a).1.2 <;> by_cases hm : a ∈ M <;> simp [hm]
theorem vsDone_no (p : Nat) (room : Int) (K : List Kp) (M : List Id) (low : List Nat) (a : Id) (H : Hp) (fr : List HA) (w : World) (h : St H (VsA p room K M low :: fr) w) (hK : KpOk H K) (hs : stK K M a ≠ 1) :
    Calls Try.prog 42 #[vsP p, idV a] w fun e w' => e = .returned (.bool false) ∧ Below w.heap.size w w' := by
  obtain ⟨H1, l1, h1, y⟩ := h.box #[.int .i64 a.1, .int .i64 a.2] 28
  have bel := boxBelow w (.cells #[.int .i64 a.1, .int .i64 a.2] 28)
  have hS := vsStatus_any p room K M low a H1 fr _ h1 (hK.mono l1)
  replace hS := Lib.hid hS
  obtain ⟨r, s⟩ := a
  have y0 := h1.cell (y 0 _ rfl)
  have y1 := h1.cell (y 1 _ rfl)
  have yl := World.block_lt_of_cell? _ _ y0
  generalize stK K M (r, s) = R at *
  clear y
  go_enter Try.func42, Try.ntmps42
  go_wp2_with fail
  refine hS.out.mono ?_
  rintro e w2 ⟨rfl, hb2⟩
  go_wp2_with fail
  go_ret
  exact ⟨rfl, bel.trans (hb2.mono bel.size)⟩
set_option maxRecDepth 100000 in
set_option maxHeartbeats 3200000 in
theorem vsDone_yes (p : Nat) (room : Int) (K : List Kp) (M : List Id) (low : List Nat) (a : Id) (H : Hp) (fr : List HA) (w : World) (h : St H (VsA p room K M low :: fr) w) (hK : KpOk H K) (hs : stK K M a = 1) :
    Calls Try.prog 42 #[vsP p, idV a] w (Res H fr w (.bool (mayM a M)) [VsA p room (doneK a K) (markL a M) low]) := by
  have hn := vs_nodup h
  obtain ⟨hk2, hkf⟩ := stK_one.1 hs
  have hld := lookKp_d hK a
  have hput := entsK_done hn hk2
  obtain ⟨d1, d2, d3, b1, b2, b3, hdv, hbv⟩ := kp_form hld
  have hlk := look_at0 K a
  obtain ⟨H1, l1, h1, y⟩ := h.box #[.int .i64 a.1, .int .i64 a.2] 28
  have en1 := (Env.refl w).alloc (.cells #[.int .i64 a.1, .int .i64 a.2] 28)
  have hS := vsStatus_any p room K M low a H1 fr _ h1 (hK.mono l1)
  rw [hs] at hS
  replace hS := Lib.hid hS
  have hMk := fun g (w' : World) H' (h' : St H' (FrI g M :: fr) w') => frMark g M a H' fr w' h'
  have hfin : ∀ (w' : World) (H' : Hp), Hp.le H H' → St H' (VsA p room (doneK a K) (markL a M) low :: fr) w' → Env w w' → Res H fr w (.bool (mayM a M)) [VsA p room (doneK a K) (markL a M) low] (.returned (.bool (mayM a M))) w' := fun w' H' hl h2 h3 => ⟨rfl, h2.weaken hl, h3⟩
  generalize Res H fr w (.bool (mayM a M)) [VsA p room (doneK a K) (markL a M) low] = Q at *
  obtain ⟨r, s⟩ := a
  have y0 := y 0 _ rfl
  have y1 := y 1 _ rfl
  have v0 := h1.cell y0
  have v1 := h1.cell y1
  have vl := World.block_lt_of_cell? _ _ v0
  generalize doneK (r, s) K = K' at *
  generalize lookKp K (r, s) = z at *
  obtain ⟨⟨⟨⟨x0, x1⟩, xq, xd, xb, xD, xB⟩, xo⟩, xk⟩ := z
  try simp only at hdv hbv hlk hput hkf hk2
  subst hdv hbv hkf hk2
  replace hput := Lib.hid hput
  replace hlk := Lib.hid hlk
  replace hMk := Lib.hid hMk
  clear y h hn hs hK hld
  go_enter Try.func42, Try.ntmps42
  go_wp2_with fail
  generalize w.alloc (.cells #[.int .i64 r, .int .i64 s] 28) = W1 at *
  generalize w.heap.size = gb at *
  refine hS.out.mono ?_
  rintro e w2 ⟨rfl, hb2⟩
  have h2 := h1.below hb2
  have en2 := en1.trans (bel_env hb2)
  clear v0 v1 vl hS hb2 h1 en1
  obtain ⟨g, f, h3⟩ := vsOpen h2
  clear h2
  have kk : ∀ w', St H1 (Blk p (vsC room g f low) 120 :: Mp kpC g (entsK K) :: FrI f M :: fr) w' → (fun w' : World => w'.cell? ⟨p, 1, none⟩ = some (.map (some g)) ∧ w'.cell? ⟨gb, 0, none⟩ = some (.int .i64 r) ∧ w'.cell? ⟨gb, 1, none⟩ = some (.int .i64 s) ∧ (Instr.lookup 116 (.map (some g)) (.agg #[.int .i64 r, .int .i64 s]) false).run Try.prog w' = .ok (.agg #[.int .i64 x0, .int .i64 x1, .int .i64 xq, .slice d1 d2 d3, .slice b1 b2 b3, .bool false]) w') w' := fun w' h' => ⟨h'.blk_cell 1, h'.cell y0, h'.cell y1, by
    have := h'.swap.mp_get false (t := 116) Try.underlying116 (zero_kp _) (r, s)
    rw [hlk.out] at this
    exact this⟩
  have hD := h3.drew
  have cl := h3.blk_lt
  go_wp2_with fail
  generalize hgk : w2.heap.size = gk at *
  refine wp_region_held_drew (S := (fun w' : World => w'.cell? ⟨p, 1, none⟩ = some (.map (some g)) ∧ w'.cell? ⟨gb, 0, none⟩ = some (.int .i64 r) ∧ w'.cell? ⟨gb, 1, none⟩ = some (.int .i64 s) ∧ (Instr.lookup 116 (.map (some g)) (.agg #[.int .i64 r, .int .i64 s]) false).run Try.prog w' = .ok (.agg #[.int .i64 x0, .int .i64 x1, .int .i64 xq, .slice d1 d2 d3, .slice b1 b2 b3, .bool false]) w')) (by kernel_rfl) (kk _ hD) (fun hHeld => ?_)
  refine wpAnyH_take (i := 0) (oi := { dst := some 10, op := Go.Op.move (Go.Operand.tmp 0), type := 67, pos := "vertex.go:99", after := #[], guard := none }) (v := ?_) rfl (by kernel_rfl) (by kernel_rfl) (by kernel_rfl) (fun _ _ _ h => h) (Or.inl ⟨by rfl, ?_⟩) (by assumption) ?_
  rotate_left
  · (intro w hSw; (try dsimp only at hSw); go_simp; (try (with_reducible rfl)))
  try simp only [Act.put, List.setIfInBounds_toArray, List.set_cons_zero, List.set_cons_succ]
  refine wpAnyH_take (i := 1) (oi := { dst := some 11, op := Go.Op.nilCheck (Go.Operand.tmp 10), type := 0, pos := "vertex.go:99", after := #[{ on := 0, ground := Go.Ground.data }], guard := none }) (v := ?_) rfl (by kernel_rfl) (by kernel_rfl) (by kernel_rfl) (fun _ _ _ h => h) (Or.inl ⟨by rfl, ?_⟩) (by assumption) ?_
  rotate_left
  · (intro w hSw; (try dsimp only at hSw); go_simp; (try (with_reducible rfl)))
  try simp only [Act.put, List.setIfInBounds_toArray, List.set_cons_zero, List.set_cons_succ]
  refine wpAnyH_take (i := 2) (oi := { dst := some 12, op := Go.Op.fieldAddr 120 (Go.Operand.tmp 11) 1, type := 0, pos := "vertex.go:99", after := #[{ on := 1, ground := Go.Ground.data }], guard := none }) (v := ?_) rfl (by kernel_rfl) (by kernel_rfl) (by kernel_rfl) (fun _ _ _ h => h) (Or.inl ⟨by rfl, ?_⟩) (by assumption) ?_
  rotate_left
  · (intro w hSw; (try dsimp only at hSw); go_simp; (try (with_reducible rfl)))
  try simp only [Act.put, List.setIfInBounds_toArray, List.set_cons_zero, List.set_cons_succ]
  refine wpAnyH_take (i := 3) (oi := { dst := some 13, op := Go.Op.load 116 (Go.Operand.tmp 12), type := 116, pos := "vertex.go:99", after := #[{ on := 2, ground := Go.Ground.data }], guard := none }) (v := ?_) rfl (by kernel_rfl) (by kernel_rfl) (by kernel_rfl) (fun _ _ _ h => h) (Or.inl ⟨by rfl, ?_⟩) (by assumption) ?_
  rotate_left
  · (intro w hSw; (try dsimp only at hSw); go_simp; (try (with_reducible rfl)))
  try simp only [Act.put, List.setIfInBounds_toArray, List.set_cons_zero, List.set_cons_succ]
  refine wpAnyH_take (i := 4) (oi := { dst := some 14, op := Go.Op.load 28 (Go.Operand.tmp 3), type := 28, pos := "vertex.go:99", after := #[], guard := none }) (v := ?_) rfl (by kernel_rfl) (by kernel_rfl) (by kernel_rfl) (fun _ _ _ h => h) (Or.inl ⟨by rfl, ?_⟩) (by assumption) ?_
  rotate_left
  · (intro w hSw; (try dsimp only at hSw); go_simp; (try (with_reducible rfl)))
  try simp only [Act.put, List.setIfInBounds_toArray, List.set_cons_zero, List.set_cons_succ]
  refine wpAnyH_take (i := 5) (oi := { dst := some 15, op := Go.Op.lookup 116 (Go.Operand.tmp 13) (Go.Operand.tmp 14) false, type := 122, pos := "vertex.go:99", after := #[{ on := 3, ground := Go.Ground.data }, { on := 4, ground := Go.Ground.data }], guard := none }) (v := ?_) rfl (by kernel_rfl) (by kernel_rfl) (by kernel_rfl) (fun _ _ _ h => h) (Or.inl ⟨by rfl, ?_⟩) (by assumption) ?_
  rotate_left
  · (intro w hSw; (try dsimp only at hSw); go_simp; (try (with_reducible rfl)))
  try simp only [Act.put, List.setIfInBounds_toArray, List.set_cons_zero, List.set_cons_succ]
  refine wpAnyH_ready (rs := [6]) (by kernel_rfl) (by simp) ?_
  refine AllReadyH.cons (o := { dst := some 5, op := Go.Op.alloc 122, type := 0, pos := "vertex.go:99", after := #[], guard := none }) rfl (fun K hK => ?_) AllReadyH.nil
  go_simp
  refine hK.out _ _ (kk _ (hD.alloc _)) (fun hHeld2 => ?_)
  clear hK K hHeld
  try simp only [Act.put, List.setIfInBounds_toArray, List.set_cons_zero, List.set_cons_succ]
  refine wpAnyH_ready (rs := [7]) (by kernel_rfl) (by simp) ?_
  refine AllReadyH.cons (o := { dst := none, op := Go.Op.store 122 (Go.Operand.tmp 5) (Go.Operand.tmp 15), type := 0, pos := "vertex.go:99", after := #[{ on := 6, ground := Go.Ground.data }, { on := 5, ground := Go.Ground.data }, { on := 0, ground := Go.Ground.phase }, { on := 1, ground := Go.Ground.phase }, { on := 2, ground := Go.Ground.phase }, { on := 3, ground := Go.Ground.phase }, { on := 4, ground := Go.Ground.phase }, { on := 5, ground := Go.Ground.phase }, { on := 6, ground := Go.Ground.phase }], guard := none }) rfl (fun K hK => ?_) AllReadyH.nil
  go_simp
  refine hK.out _ _ (kk _ ((h3.alloc _).drew)) (fun hHeld3 => ?_)
  clear hK K hHeld2
  try simp only [Act.put, List.setIfInBounds_toArray, List.set_cons_zero, List.set_cons_succ]
  refine wpAnyH_done (by kernel_rfl) ?_ _
  have h4 := h3.blk #[.int .i64 x0, .int .i64 x1, .int .i64 xq, .slice d1 d2 d3, .slice b1 b2 b3, .bool false] 122
  have en3 := (en2.alloc (.cells #[.int .i64 x0, .int .i64 x1, .int .i64 xq, .slice d1 d2 d3, .slice b1 b2 b3, .bool false] 122)).drew
  rw [hgk] at h4
  have hE := h4.drew
  clear hHeld3 kk hD h4 h3 cl en2 hlk
  generalize (w2.alloc (.cells #[.int .i64 x0, .int .i64 x1, .int .i64 xq, .slice d1 d2 d3, .slice b1 b2 b3, .bool false] 122)).drew = W3 at *
  have u5 := hE.blk_cell 5
  have uf5 := hE.blk_free 5
  have ul := hE.blk_lt
  have hF : St H1 (Blk gk #[.int .i64 x0, .int .i64 x1, .int .i64 xq, .slice d1 d2 d3, .slice b1 b2 b3, .bool true] 122 :: Blk p (vsC room g f low) 120 :: Mp kpC g (entsK K) :: FrI f M :: fr) (W3.setCell ⟨gk, 5, none⟩ (.bool true)) := hE.blk_set 5 (.bool true)
  have en4 := en3.setCell ⟨gk, 5, none⟩ (.bool true)
  obtain ⟨H2, l2, h5, kc⟩ := St.blk_for_good hF
  go_wp2_with fail
  generalize W3.setCell ⟨gk, 5, none⟩ (.bool true) = W5 at *
  clear hF hE u5 uf5 ul en3
  replace y0 := Hp.cell_le l2 y0
  replace y1 := Hp.cell_le l2 y1
  have m0 := kc 0
  have m1 := kc 1
  have m2 := kc 2
  have m3 := kc 3
  have m4 := kc 4
  have m5 := kc 5
  clear kc
  have kk : ∀ (l' : List HA) (w' : World), St H2 (Blk p (vsC room g f low) 120 :: l') w' → (fun w' : World => w'.cell? ⟨p, 1, none⟩ = some (.map (some g)) ∧ w'.cell? ⟨gb, 0, none⟩ = some (.int .i64 r) ∧ w'.cell? ⟨gb, 1, none⟩ = some (.int .i64 s) ∧ w'.cell? ⟨gk, 0, none⟩ = some (.int .i64 x0) ∧ w'.cell? ⟨gk, 1, none⟩ = some (.int .i64 x1) ∧ w'.cell? ⟨gk, 2, none⟩ = some (.int .i64 xq) ∧ w'.cell? ⟨gk, 3, none⟩ = some (.slice d1 d2 d3) ∧ w'.cell? ⟨gk, 4, none⟩ = some (.slice b1 b2 b3) ∧ w'.cell? ⟨gk, 5, none⟩ = some (.bool true)) w' := fun l' w' h => ⟨h.blk_cell 1, h.cell y0, h.cell y1, h.cell m0, h.cell m1, h.cell m2, h.cell m3, h.cell m4, h.cell m5⟩
  have hD := h5.drew
  have cl := h5.blk_lt
  obtain ⟨w6, hmu, h6, en6⟩ := hD.swap.mp_put (t := 116) Try.underlying116 (r, s) (((x0, x1), xq, .slice d1 d2 d3, .slice b1 b2 b3, xD, xB), true)
  change (Instr.mapUpdate 116 (.map (some g)) (.agg #[.int .i64 r, .int .i64 s]) (.agg #[.int .i64 x0, .int .i64 x1, .int .i64 xq, .slice d1 d2 d3, .slice b1 b2 b3, .bool true])).run Try.prog W5.drew = .ok () w6 at hmu
  rw [hput.out] at h6
  refine wp_region_held_drew (S := (fun w' : World => w'.cell? ⟨p, 1, none⟩ = some (.map (some g)) ∧ w'.cell? ⟨gb, 0, none⟩ = some (.int .i64 r) ∧ w'.cell? ⟨gb, 1, none⟩ = some (.int .i64 s) ∧ w'.cell? ⟨gk, 0, none⟩ = some (.int .i64 x0) ∧ w'.cell? ⟨gk, 1, none⟩ = some (.int .i64 x1) ∧ w'.cell? ⟨gk, 2, none⟩ = some (.int .i64 xq) ∧ w'.cell? ⟨gk, 3, none⟩ = some (.slice d1 d2 d3) ∧ w'.cell? ⟨gk, 4, none⟩ = some (.slice b1 b2 b3) ∧ w'.cell? ⟨gk, 5, none⟩ = some (.bool true))) (by kernel_rfl) (kk _ _ hD) (fun hHeld => ?_)
  refine wpAnyH_take (i := 0) (oi := { dst := some 17, op := Go.Op.move (Go.Operand.tmp 0), type := 67, pos := "vertex.go:101", after := #[], guard := none }) (v := ?_) rfl (by kernel_rfl) (by kernel_rfl) (by kernel_rfl) (fun _ _ _ h => h) (Or.inl ⟨by rfl, ?_⟩) (by assumption) ?_
  rotate_left
  · (intro w hSw; (try dsimp only at hSw); go_simp; (try (with_reducible rfl)))
  try simp only [Act.put, List.setIfInBounds_toArray, List.set_cons_zero, List.set_cons_succ]
  refine wpAnyH_take (i := 1) (oi := { dst := some 18, op := Go.Op.nilCheck (Go.Operand.tmp 17), type := 0, pos := "vertex.go:101", after := #[{ on := 0, ground := Go.Ground.data }], guard := none }) (v := ?_) rfl (by kernel_rfl) (by kernel_rfl) (by kernel_rfl) (fun _ _ _ h => h) (Or.inl ⟨by rfl, ?_⟩) (by assumption) ?_
  rotate_left
  · (intro w hSw; (try dsimp only at hSw); go_simp; (try (with_reducible rfl)))
  try simp only [Act.put, List.setIfInBounds_toArray, List.set_cons_zero, List.set_cons_succ]
  refine wpAnyH_take (i := 2) (oi := { dst := some 19, op := Go.Op.fieldAddr 120 (Go.Operand.tmp 18) 1, type := 0, pos := "vertex.go:101", after := #[{ on := 1, ground := Go.Ground.data }], guard := none }) (v := ?_) rfl (by kernel_rfl) (by kernel_rfl) (by kernel_rfl) (fun _ _ _ h => h) (Or.inl ⟨by rfl, ?_⟩) (by assumption) ?_
  rotate_left
  · (intro w hSw; (try dsimp only at hSw); go_simp; (try (with_reducible rfl)))
  try simp only [Act.put, List.setIfInBounds_toArray, List.set_cons_zero, List.set_cons_succ]
  refine wpAnyH_take (i := 3) (oi := { dst := some 20, op := Go.Op.load 116 (Go.Operand.tmp 19), type := 116, pos := "vertex.go:101", after := #[{ on := 2, ground := Go.Ground.data }], guard := none }) (v := ?_) rfl (by kernel_rfl) (by kernel_rfl) (by kernel_rfl) (fun _ _ _ h => h) (Or.inl ⟨by rfl, ?_⟩) (by assumption) ?_
  rotate_left
  · (intro w hSw; (try dsimp only at hSw); go_simp; (try (with_reducible rfl)))
  try simp only [Act.put, List.setIfInBounds_toArray, List.set_cons_zero, List.set_cons_succ]
  refine wpAnyH_take (i := 4) (oi := { dst := some 21, op := Go.Op.load 28 (Go.Operand.tmp 3), type := 28, pos := "vertex.go:101", after := #[], guard := none }) (v := ?_) rfl (by kernel_rfl) (by kernel_rfl) (by kernel_rfl) (fun _ _ _ h => h) (Or.inl ⟨by rfl, ?_⟩) (by assumption) ?_
  rotate_left
  · (intro w hSw; (try dsimp only at hSw); go_simp; (try (with_reducible rfl)))
  try simp only [Act.put, List.setIfInBounds_toArray, List.set_cons_zero, List.set_cons_succ]
  refine wpAnyH_take (i := 5) (oi := { dst := some 22, op := Go.Op.load 122 (Go.Operand.tmp 5), type := 122, pos := "vertex.go:101", after := #[], guard := none }) (v := ?_) rfl (by kernel_rfl) (by kernel_rfl) (by kernel_rfl) (fun _ _ _ h => h) (Or.inl ⟨by rfl, ?_⟩) (by assumption) ?_
  rotate_left
  · (intro w hSw; (try dsimp only at hSw); go_simp; (try (with_reducible rfl)))
  try simp only [Act.put, List.setIfInBounds_toArray, List.set_cons_zero, List.set_cons_succ]
  refine wpAnyH_ready (rs := [6]) (by kernel_rfl) (by simp) ?_
  refine AllReadyH.cons (o := { dst := none, op := Go.Op.mapUpdate 116 (Go.Operand.tmp 20) (Go.Operand.tmp 21) (Go.Operand.tmp 22), type := 0, pos := "vertex.go:101", after := #[{ on := 3, ground := Go.Ground.data }, { on := 4, ground := Go.Ground.data }, { on := 5, ground := Go.Ground.data }, { on := 0, ground := Go.Ground.phase }, { on := 1, ground := Go.Ground.phase }, { on := 2, ground := Go.Ground.phase }, { on := 3, ground := Go.Ground.phase }, { on := 4, ground := Go.Ground.phase }, { on := 5, ground := Go.Ground.phase }], guard := none }) rfl (fun K hK => ?_) AllReadyH.nil
  go_simp
  refine hK.out _ _ (kk _ _ h6.swap) (fun hHeld2 => ?_)
  clear hK K hHeld
  try simp only [Act.put, List.setIfInBounds_toArray, List.set_cons_zero, List.set_cons_succ]
  refine wpAnyH_done (by kernel_rfl) ?_ _
  clear kk hHeld2 hD cl h5 hmu
  have h7 := h6.swap
  have c2 : w6.cell? ⟨p, 2, none⟩ = some (frP f) := h7.blk_cell 2
  have cl := h7.blk_lt
  have v0 := h7.cell y0
  have v1 := h7.cell y1
  have vl := World.block_lt_of_cell? _ _ v0
  have en7 := (en4.trans ((Env.refl W5).drew)).trans en6
  have kk2 : ∀ (l' : List HA) (w' : World), St H2 (Blk p (vsC room g f low) 120 :: l') w' → (fun w' : World => w'.cell? ⟨p, 2, none⟩ = some (frP f) ∧ w'.cell? ⟨gb, 0, none⟩ = some (.int .i64 r) ∧ w'.cell? ⟨gb, 1, none⟩ = some (.int .i64 s)) w' := fun l' w' h => ⟨h.blk_cell 2, h.cell y0, h.cell y1⟩
  have hD := h7.drew
  have hP := frMark f M (r, s) H2 (Blk p (vsC room g f low) 120 :: Mp kpC g (entsK K') :: fr) _ (hD.pick 2 (by simp))
  replace hP := Lib.hid hP
  go_wp2_with fail
  refine wp_region_held_drew (S := fun w' : World => w'.cell? ⟨p, 2, none⟩ = some (frP f) ∧ w'.cell? ⟨gb, 0, none⟩ = some (.int .i64 r) ∧ w'.cell? ⟨gb, 1, none⟩ = some (.int .i64 s)) (by kernel_rfl) (kk2 _ _ hD) (fun hHeld => ?_)
  refine wpAnyH_take (i := 0) (oi := { dst := some 23, op := Go.Op.move (Go.Operand.tmp 0), type := 67, pos := "vertex.go:102", after := #[], guard := none }) (v := ?_) rfl (by kernel_rfl) (by kernel_rfl) (by kernel_rfl) (fun _ _ _ h => h) (Or.inl ⟨by rfl, ?_⟩) (by assumption) ?_
  rotate_left
  · (intro w hSw; (try dsimp only at hSw); go_simp; (try (with_reducible rfl)))
  try simp only [Act.put, List.setIfInBounds_toArray, List.set_cons_zero, List.set_cons_succ]
  refine wpAnyH_take (i := 1) (oi := { dst := some 24, op := Go.Op.nilCheck (Go.Operand.tmp 23), type := 0, pos := "vertex.go:102", after := #[{ on := 0, ground := Go.Ground.data }], guard := none }) (v := ?_) rfl (by kernel_rfl) (by kernel_rfl) (by kernel_rfl) (fun _ _ _ h => h) (Or.inl ⟨by rfl, ?_⟩) (by assumption) ?_
  rotate_left
  · (intro w hSw; (try dsimp only at hSw); go_simp; (try (with_reducible rfl)))
  try simp only [Act.put, List.setIfInBounds_toArray, List.set_cons_zero, List.set_cons_succ]
  refine wpAnyH_take (i := 2) (oi := { dst := some 25, op := Go.Op.fieldAddr 120 (Go.Operand.tmp 24) 2, type := 0, pos := "vertex.go:102", after := #[{ on := 1, ground := Go.Ground.data }], guard := none }) (v := ?_) rfl (by kernel_rfl) (by kernel_rfl) (by kernel_rfl) (fun _ _ _ h => h) (Or.inl ⟨by rfl, ?_⟩) (by assumption) ?_
  rotate_left
  · (intro w hSw; (try dsimp only at hSw); go_simp; (try (with_reducible rfl)))
  try simp only [Act.put, List.setIfInBounds_toArray, List.set_cons_zero, List.set_cons_succ]
  refine wpAnyH_take (i := 3) (oi := { dst := some 26, op := Go.Op.load 117 (Go.Operand.tmp 25), type := 117, pos := "vertex.go:102", after := #[{ on := 2, ground := Go.Ground.data }], guard := none }) (v := ?_) rfl (by kernel_rfl) (by kernel_rfl) (by kernel_rfl) (fun _ _ _ h => h) (Or.inl ⟨by rfl, ?_⟩) (by assumption) ?_
  rotate_left
  · (intro w hSw; (try dsimp only at hSw); go_simp; (try (with_reducible rfl)))
  try simp only [Act.put, List.setIfInBounds_toArray, List.set_cons_zero, List.set_cons_succ]
  refine wpAnyH_take (i := 4) (oi := { dst := some 27, op := Go.Op.load 28 (Go.Operand.tmp 3), type := 28, pos := "vertex.go:102", after := #[], guard := none }) (v := ?_) rfl (by kernel_rfl) (by kernel_rfl) (by kernel_rfl) (fun _ _ _ h => h) (Or.inl ⟨by rfl, ?_⟩) (by assumption) ?_
  rotate_left
  · (intro w hSw; (try dsimp only at hSw); go_simp; (try (with_reducible rfl)))
  try simp only [Act.put, List.setIfInBounds_toArray, List.set_cons_zero, List.set_cons_succ]
  refine wpAnyH_ready (rs := [5]) (by kernel_rfl) (by simp) ?_
  refine AllReadyH.cons (o := { dst := some 28, op := Go.Op.call { callee := Go.Callee.value (Go.Operand.func 83), args := #[Go.Operand.tmp 26, Go.Operand.tmp 27], argTypes := #[117, 28] }, type := 4, pos := "vertex.go:102", after := #[{ on := 3, ground := Go.Ground.data }, { on := 4, ground := Go.Ground.data }], guard := none }) rfl (fun K hK => ?_) AllReadyH.nil
  go_simp
  refine hP.out.mono ?_
  rintro e w8 ⟨rfl, h8, en8⟩
  refine hK.out _ _ (kk2 _ _ h8.swap) (fun hHeld2 => ?_)
  clear hK K hHeld
  try simp only [Act.put, List.setIfInBounds_toArray, List.set_cons_zero, List.set_cons_succ]
  refine wpAnyH_take (i := 6) (oi := { dst := some 4, op := Go.Op.assign (Go.Operand.tmp 28), type := 4, pos := "vertex.go:102", after := #[{ on := 5, ground := Go.Ground.data }, { on := 5, ground := Go.Ground.chain }, { on := 0, ground := Go.Ground.phase }, { on := 1, ground := Go.Ground.phase }, { on := 2, ground := Go.Ground.phase }, { on := 3, ground := Go.Ground.phase }, { on := 4, ground := Go.Ground.phase }, { on := 5, ground := Go.Ground.phase }], guard := none }) (v := ?_) rfl (by kernel_rfl) (by kernel_rfl) (by kernel_rfl) (fun _ _ _ h => h) (Or.inl ⟨by rfl, ?_⟩) (by assumption) ?_
  rotate_left
  · (intro w hSw; (try dsimp only at hSw); go_simp; (try (with_reducible rfl)))
  try simp only [Act.put, List.setIfInBounds_toArray, List.set_cons_zero, List.set_cons_succ]
  refine wpAnyH_done (by kernel_rfl) ?_ _
  have hz := hfin w8 H2 (Hp.le_trans l1 l2) (vsShut (h8.swap.perm (List.Perm.cons _ (List.Perm.swap _ _ _)))) ((en7.trans ((Env.refl w6).drew)).trans en8)
  replace hz := Lib.hid hz
  go_wp2_with fail
  exact hz.out
end Go.Proofs.Ytelmhcbdpimaaaa
