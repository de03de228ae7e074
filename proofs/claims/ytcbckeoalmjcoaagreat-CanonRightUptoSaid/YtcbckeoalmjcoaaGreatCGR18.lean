/- Joined texts: Less. -/
import Derived.Test.YtcbckeoalmjcoaaGreatCGR2
import Derived.Test.YtcbckeoalmjcoaaGreatCGR11
import Derived.Test.YtcbckeoalmjcoaaGreatCGR17
/- Records in their order: record.Less, the closure of comps.Sorted. -/
set_option linter.unusedVariables false
set_option linter.unusedSimpArgs false
namespace Go.Proofs.YtcbckeoalmjcoaaGreat
open Go.RowKit Go.Cw Go.Fl
attribute [local go_sem ↓] eql_id neq_id
/-- A world that has grown alone. -/
def Grw (w w' : World) : Prop := ∃ q os, w' = Go.Sort.grow (w.drewN q) os
theorem Grw.refl (w : World) : Grw w w := ⟨0, #[], by simp [Go.Sort.grow, World.drewN]⟩
theorem Grw.alloc {w w' : World} (h : Grw w w') (o : Obj) : Grw w (w'.alloc o) := by
  obtain ⟨q, os, rfl⟩ := h
  exact ⟨q, os.push o, by simp [Go.Sort.grow, World.alloc, World.drewN]⟩
theorem Grw.drew {w w' : World} (h : Grw w w') : Grw w w'.drew := by
  obtain ⟨q, os, rfl⟩ := h
  exact ⟨q + 1, os, by simp [Go.Sort.grow, World.drew, World.drewN, Nat.add_assoc]⟩
theorem Grw.grow {w w' : World} (h : Grw w w') (q : Nat) (os : Array Obj) : Grw w (Go.Sort.grow (w'.drewN q) os) := by
  obtain ⟨p, os', rfl⟩ := h
  exact ⟨p + q, os' ++ os, by simp [Go.Sort.grow, World.drewN, Nat.add_assoc, Array.append_assoc]⟩
theorem Grw.trans {a b c : World} (h : Grw a b) (k : Grw b c) : Grw a c := by
  obtain ⟨q, os, rfl⟩ := k
  exact h.grow q os
theorem Grw.below {w w' : World} (h : Grw w w') : Below w.heap.size w w' := by
  obtain ⟨q, os, rfl⟩ := h
  refine (bel_drewN (Below.refl _ _) q).trans ?_
  exact ⟨rfl, rfl, rfl, by simp [Go.Sort.grow, World.drewN], fun i hi => by simp only [Go.Sort.grow]; exact Array.getElem?_append_left hi⟩
theorem compareG_any (a b : Id) (w : World) : Calls Tryz.prog 76 #[idV a, idV b] w fun e w' => e = .returned (.int .i64 (cmpId a b)) ∧ Grw w w' := (compare_any a b w).mono (by
  rintro e w' ⟨rfl, q, os, rfl⟩
  exact ⟨rfl, q, os, rfl⟩)
theorem cmpId_dec (a b : Id) : decide (cmpId a b < 0) = idLt a b := by
  have := ltOf_id a b
  unfold ltOf at this
  exact this
/-- A record's key. -/
def ky (x : Rc) : Ky := (x.2.1, x.1)
set_option maxRecDepth 100000 in
set_option maxHeartbeats 1600000 in
theorem recLess_any (x y : Rc) (w : World) : Calls Tryz.prog 45 #[recV x, recV y] w fun e w' => e = .returned (.bool (kLt (ky x) (ky y))) ∧ Grw w w' := by
  obtain ⟨⟨r, s⟩, q, dv, bv, D, B⟩ := x
  obtain ⟨⟨r', s'⟩, q', dv', bv', D', B'⟩ := y
  have hC := Lib.hid (fun w' => compareG_any (r, s) (r', s') w')
  have hcl := cmpId_dec (r, s) (r', s')
  have h1 := ((St.start w).blk #[.int .i64 r, .int .i64 s, .int .i64 q, dv, bv] 53).blk #[.int .i64 r', .int .i64 s', .int .i64 q', dv', bv'] 53
  have g1 := ((Grw.refl w).alloc (.cells #[.int .i64 r, .int .i64 s, .int .i64 q, dv, bv] 53)).alloc (.cells #[.int .i64 r', .int .i64 s', .int .i64 q', dv', bv'] 53)
  have hgs : (w.alloc (.cells #[.int .i64 r, .int .i64 s, .int .i64 q, dv, bv] 53)).heap.size = w.heap.size + 1 := by simp
  rw [hgs] at h1
  have y0 := h1.blk_cell 0
  have y1 := h1.blk_cell 1
  have y2 := h1.blk_cell 2
  have yl := h1.blk_lt
  have h2 := h1.swap
  have x0 := h2.blk_cell 0
  have x1 := h2.blk_cell 1
  have x2 := h2.blk_cell 2
  have xl := h2.blk_lt
  clear h1 h2 hgs
  have hfin : ∀ (b : Bool) (w' : World), kLt (q, (r, s)) (q', (r', s')) = b → Grw w w' → Hid ((Ending.returned (Value.bool b)) = Ending.returned (Value.bool (kLt (ky ((r, s), q, dv, bv, D, B)) (ky ((r', s'), q', dv', bv', D', B')))) ∧ Grw w w') := fun b w' h hg => Lib.hid ⟨by unfold ky; rw [h], hg⟩
  by_cases hq : q = q'
  · have hqb : (q != q') = false := by simp [hq]
    have hk : kLt (q, (r, s)) (q', (r', s')) = idLt (r, s) (r', s') := by unfold kLt; simp [hq]
    rw [← hcl] at hk
    clear hq hcl
    go_enter Tryz.func45, Tryz.ntmps45
    go_wp2_with fail
    refine (hC.out _).mono ?_
    rintro e w3 ⟨rfl, hg3⟩
    have hz := hfin _ _ hk (g1.trans hg3)
    go_wp2_with fail
    go_ret
    exact hz.out
  · have hqb : (q != q') = true := by simpa using hq
    have hk : kLt (q, (r, s)) (q', (r', s')) = decide (q < q') := by unfold kLt; simp [hq]
    clear hq hcl
    go_enter Tryz.func45, Tryz.ntmps45
    have hz := hfin _ _ hk g1
    go_wp2_with fail
    go_ret
    exact hz.out
/-- How two records stand. -/
def cmpRc (x y : Rc) : Int := if kLt (ky x) (ky y) then -1 else if kLt (ky y) (ky x) then 1 else 0
set_option maxRecDepth 100000 in
set_option maxHeartbeats 1600000 in
theorem less1_any (gc m : Nat) (a b : Id) (x y : Rc) (w : World) (hS : ∀ w', Grw w w' → w'.cell? ⟨gc, 0, none⟩ = some (.map (some m)) ∧ (Instr.lookup 56 (.map (some m)) (idV a) false).run Tryz.prog w' = .ok (recV x) w' ∧ (Instr.lookup 56 (.map (some m)) (idV b) false).run Tryz.prog w' = .ok (recV y) w') :
    Calls Tryz.prog 44 #[idV a, idV b, .pointer (some ⟨gc, 0, none⟩)] w fun e w' => e = .returned (.int .i64 (cmpRc x y)) ∧ Grw w w' := by
  obtain ⟨r, s⟩ := a
  obtain ⟨r', s'⟩ := b
  have hL1 := Lib.hid (fun w' => recLess_any x y w')
  have hL2 := Lib.hid (fun w' => recLess_any y x w')
  have h1 := ((St.start w).blk #[.int .i64 r, .int .i64 s] 41).blk #[.int .i64 r', .int .i64 s'] 41
  have g1 := ((Grw.refl w).alloc (.cells #[.int .i64 r, .int .i64 s] 41)).alloc (.cells #[.int .i64 r', .int .i64 s'] 41)
  have hgs : (w.alloc (.cells #[.int .i64 r, .int .i64 s] 41)).heap.size = w.heap.size + 1 := by simp
  rw [hgs] at h1
  obtain ⟨B1, hB1⟩ : ∃ B1, B1 = kLt (ky x) (ky y) := ⟨_, rfl⟩
  obtain ⟨B2, hB2⟩ : ∃ B2, B2 = kLt (ky y) (ky x) := ⟨_, rfl⟩
  have hfin : ∀ (n : Int) (w' : World), (if B1 then -1 else if B2 then 1 else 0) = n → Grw w w' → Hid ((Ending.returned (Value.int .i64 n)) = Ending.returned (Value.int .i64 (cmpRc x y)) ∧ Grw w w') := fun n w' h hg => Lib.hid ⟨by unfold cmpRc; rw [← hB1, ← hB2, h], hg⟩
  rw [← hB1] at hL1
  rw [← hB2] at hL2
  clear hB1 hB2 hgs
  have kk : ∀ w', Grw w w' → St (snap w) [Blk (w.heap.size + 1) #[.int .i64 r', .int .i64 s'] 41, Blk w.heap.size #[.int .i64 r, .int .i64 s] 41] w' → (w'.cell? ⟨gc, 0, none⟩ = some (.map (some m)) ∧ w'.cell? ⟨w.heap.size, 0, none⟩ = some (.int .i64 r) ∧ w'.cell? ⟨w.heap.size, 1, none⟩ = some (.int .i64 s) ∧ w'.cell? ⟨w.heap.size + 1, 0, none⟩ = some (.int .i64 r') ∧ w'.cell? ⟨w.heap.size + 1, 1, none⟩ = some (.int .i64 s') ∧ (Instr.lookup 56 (.map (some m)) (.agg #[.int .i64 r, .int .i64 s]) false).run Tryz.prog w' = .ok (recV x) w' ∧ (Instr.lookup 56 (.map (some m)) (.agg #[.int .i64 r', .int .i64 s']) false).run Tryz.prog w' = .ok (recV y) w') := fun w' hg hst => ⟨(hS w' hg).1, hst.swap.blk_cell 0, hst.swap.blk_cell 1, hst.blk_cell 0, hst.blk_cell 1, (hS w' hg).2.1, (hS w' hg).2.2⟩
  go_enter Tryz.func44, Tryz.ntmps44
  go_wp2_with fail
  generalize ((w.alloc (.cells #[.int .i64 r, .int .i64 s] 41)).alloc (.cells #[.int .i64 r', .int .i64 s'] 41)) = W1 at *
  have h2 := h1.drew
  have g2 := g1.drew
  refine wp_region_held_drew (S := fun w' => w'.cell? ⟨gc, 0, none⟩ = some (.map (some m)) ∧ w'.cell? ⟨w.heap.size, 0, none⟩ = some (.int .i64 r) ∧ w'.cell? ⟨w.heap.size, 1, none⟩ = some (.int .i64 s) ∧ w'.cell? ⟨w.heap.size + 1, 0, none⟩ = some (.int .i64 r') ∧ w'.cell? ⟨w.heap.size + 1, 1, none⟩ = some (.int .i64 s') ∧ (Instr.lookup 56 (.map (some m)) (.agg #[.int .i64 r, .int .i64 s]) false).run Tryz.prog w' = .ok (recV x) w' ∧ (Instr.lookup 56 (.map (some m)) (.agg #[.int .i64 r', .int .i64 s']) false).run Tryz.prog w' = .ok (recV y) w') (by kernel_rfl) (kk _ g2 h2) (fun hHeld => ?_)
  refine wpAnyH_take (i := 0) (oi := { dst := some 7, op := Go.Op.load 56 (Go.Operand.tmp 2), type := 56, pos := "comps.go:27", after := #[], guard := none }) (v := ?_) rfl (by kernel_rfl) (by kernel_rfl) (by kernel_rfl) (fun _ _ _ h => h) (Or.inl ⟨by rfl, ?_⟩) (by assumption) ?_
  rotate_left
  · (intro w hSw; (try dsimp only at hSw); go_simp; (try (with_reducible rfl)))
  try simp only [Act.put, List.setIfInBounds_toArray, List.set_cons_zero, List.set_cons_succ]
  refine wpAnyH_take (i := 1) (oi := { dst := some 8, op := Go.Op.load 41 (Go.Operand.tmp 3), type := 41, pos := "comps.go:27", after := #[], guard := none }) (v := ?_) rfl (by kernel_rfl) (by kernel_rfl) (by kernel_rfl) (fun _ _ _ h => h) (Or.inl ⟨by rfl, ?_⟩) (by assumption) ?_
  rotate_left
  · (intro w hSw; (try dsimp only at hSw); go_simp; (try (with_reducible rfl)))
  try simp only [Act.put, List.setIfInBounds_toArray, List.set_cons_zero, List.set_cons_succ]
  refine wpAnyH_take (i := 2) (oi := { dst := some 9, op := Go.Op.lookup 56 (Go.Operand.tmp 7) (Go.Operand.tmp 8) false, type := 53, pos := "comps.go:27", after := #[{ on := 0, ground := Go.Ground.data }, { on := 1, ground := Go.Ground.data }], guard := none }) (v := ?_) rfl (by kernel_rfl) (by kernel_rfl) (by kernel_rfl) (fun _ _ _ h => h) (Or.inl ⟨by rfl, ?_⟩) (by assumption) ?_
  rotate_left
  · (intro w hSw; (try dsimp only at hSw); go_simp; (try (with_reducible rfl)))
  try simp only [Act.put, List.setIfInBounds_toArray, List.set_cons_zero, List.set_cons_succ]
  refine wpAnyH_take (i := 3) (oi := { dst := some 10, op := Go.Op.load 56 (Go.Operand.tmp 2), type := 56, pos := "comps.go:27", after := #[], guard := none }) (v := ?_) rfl (by kernel_rfl) (by kernel_rfl) (by kernel_rfl) (fun _ _ _ h => h) (Or.inl ⟨by rfl, ?_⟩) (by assumption) ?_
  rotate_left
  · (intro w hSw; (try dsimp only at hSw); go_simp; (try (with_reducible rfl)))
  try simp only [Act.put, List.setIfInBounds_toArray, List.set_cons_zero, List.set_cons_succ]
  refine wpAnyH_take (i := 4) (oi := { dst := some 11, op := Go.Op.load 41 (Go.Operand.tmp 4), type := 41, pos := "comps.go:27", after := #[], guard := none }) (v := ?_) rfl (by kernel_rfl) (by kernel_rfl) (by kernel_rfl) (fun _ _ _ h => h) (Or.inl ⟨by rfl, ?_⟩) (by assumption) ?_
  rotate_left
  · (intro w hSw; (try dsimp only at hSw); go_simp; (try (with_reducible rfl)))
  try simp only [Act.put, List.setIfInBounds_toArray, List.set_cons_zero, List.set_cons_succ]
  refine wpAnyH_take (i := 5) (oi := { dst := some 12, op := Go.Op.lookup 56 (Go.Operand.tmp 10) (Go.Operand.tmp 11) false, type := 53, pos := "comps.go:27", after := #[{ on := 3, ground := Go.Ground.data }, { on := 4, ground := Go.Ground.data }], guard := none }) (v := ?_) rfl (by kernel_rfl) (by kernel_rfl) (by kernel_rfl) (fun _ _ _ h => h) (Or.inl ⟨by rfl, ?_⟩) (by assumption) ?_
  rotate_left
  · (intro w hSw; (try dsimp only at hSw); go_simp; (try (with_reducible rfl)))
  try simp only [Act.put, List.setIfInBounds_toArray, List.set_cons_zero, List.set_cons_succ]
  refine wpAnyH_ready (rs := [6]) (by kernel_rfl) (by simp) ?_
  refine AllReadyH.cons (o := { dst := some 13, op := Go.Op.call { callee := Go.Callee.value (Go.Operand.func 45), args := #[Go.Operand.tmp 9, Go.Operand.tmp 12], argTypes := #[53, 53] }, type := 4, pos := "comps.go:27", after := #[{ on := 2, ground := Go.Ground.data }, { on := 5, ground := Go.Ground.data }], guard := none }) rfl (fun K hK => ?_) AllReadyH.nil
  go_simp
  refine (hL1.out _).mono ?_
  rintro e w3 ⟨rfl, hg3⟩
  have h3 := h2.below hg3.below
  have g3 := g2.trans hg3
  refine hK.out _ _ (kk _ g3 h3) (fun hHeld2 => ?_)
  clear hK K hHeld
  try simp only [Act.put, List.setIfInBounds_toArray, List.set_cons_zero, List.set_cons_succ]
  refine wpAnyH_take (i := 7) (oi := { dst := some 6, op := Go.Op.assign (Go.Operand.tmp 13), type := 4, pos := "comps.go:27", after := #[{ on := 6, ground := Go.Ground.data }, { on := 6, ground := Go.Ground.chain }], guard := none }) (v := ?_) rfl (by kernel_rfl) (by kernel_rfl) (by kernel_rfl) (fun _ _ _ h => h) (Or.inl ⟨by rfl, ?_⟩) (by assumption) ?_
  rotate_left
  · (intro w hSw; (try dsimp only at hSw); go_simp; (try (with_reducible rfl)))
  try simp only [Act.put, List.setIfInBounds_toArray, List.set_cons_zero, List.set_cons_succ]
  refine wpAnyH_done (by kernel_rfl) ?_ _
  clear h2 g2 h1 g1
  cases B1 with
  | true =>
    have hz := hfin (-1) _ rfl g3
    go_wp2_with fail
    go_ret
    exact hz.out
  | false =>
    have h4 := h3.drew
    have g4 := g3.drew
    go_wp2_with fail
    refine wp_region_held_drew (S := fun w' => w'.cell? ⟨gc, 0, none⟩ = some (.map (some m)) ∧ w'.cell? ⟨w.heap.size, 0, none⟩ = some (.int .i64 r) ∧ w'.cell? ⟨w.heap.size, 1, none⟩ = some (.int .i64 s) ∧ w'.cell? ⟨w.heap.size + 1, 0, none⟩ = some (.int .i64 r') ∧ w'.cell? ⟨w.heap.size + 1, 1, none⟩ = some (.int .i64 s') ∧ (Instr.lookup 56 (.map (some m)) (.agg #[.int .i64 r, .int .i64 s]) false).run Tryz.prog w' = .ok (recV x) w' ∧ (Instr.lookup 56 (.map (some m)) (.agg #[.int .i64 r', .int .i64 s']) false).run Tryz.prog w' = .ok (recV y) w') (by kernel_rfl) (kk _ g4 h4) (fun hHeld3 => ?_)
    refine wpAnyH_take (i := 0) (oi := { dst := some 15, op := Go.Op.load 56 (Go.Operand.tmp 2), type := 56, pos := "comps.go:29", after := #[], guard := none }) (v := ?_) rfl (by kernel_rfl) (by kernel_rfl) (by kernel_rfl) (fun _ _ _ h => h) (Or.inl ⟨by rfl, ?_⟩) (by assumption) ?_
    rotate_left
    · (intro w hSw; (try dsimp only at hSw); go_simp; (try (with_reducible rfl)))
    try simp only [Act.put, List.setIfInBounds_toArray, List.set_cons_zero, List.set_cons_succ]
    refine wpAnyH_take (i := 1) (oi := { dst := some 16, op := Go.Op.load 41 (Go.Operand.tmp 4), type := 41, pos := "comps.go:29", after := #[], guard := none }) (v := ?_) rfl (by kernel_rfl) (by kernel_rfl) (by kernel_rfl) (fun _ _ _ h => h) (Or.inl ⟨by rfl, ?_⟩) (by assumption) ?_
    rotate_left
    · (intro w hSw; (try dsimp only at hSw); go_simp; (try (with_reducible rfl)))
    try simp only [Act.put, List.setIfInBounds_toArray, List.set_cons_zero, List.set_cons_succ]
    refine wpAnyH_take (i := 2) (oi := { dst := some 17, op := Go.Op.lookup 56 (Go.Operand.tmp 15) (Go.Operand.tmp 16) false, type := 53, pos := "comps.go:29", after := #[{ on := 0, ground := Go.Ground.data }, { on := 1, ground := Go.Ground.data }], guard := none }) (v := ?_) rfl (by kernel_rfl) (by kernel_rfl) (by kernel_rfl) (fun _ _ _ h => h) (Or.inl ⟨by rfl, ?_⟩) (by assumption) ?_
    rotate_left
    · (intro w hSw; (try dsimp only at hSw); go_simp; (try (with_reducible rfl)))
    try simp only [Act.put, List.setIfInBounds_toArray, List.set_cons_zero, List.set_cons_succ]
    refine wpAnyH_take (i := 3) (oi := { dst := some 18, op := Go.Op.load 56 (Go.Operand.tmp 2), type := 56, pos := "comps.go:29", after := #[], guard := none }) (v := ?_) rfl (by kernel_rfl) (by kernel_rfl) (by kernel_rfl) (fun _ _ _ h => h) (Or.inl ⟨by rfl, ?_⟩) (by assumption) ?_
    rotate_left
    · (intro w hSw; (try dsimp only at hSw); go_simp; (try (with_reducible rfl)))
    try simp only [Act.put, List.setIfInBounds_toArray, List.set_cons_zero, List.set_cons_succ]
    refine wpAnyH_take (i := 4) (oi := { dst := some 19, op := Go.Op.load 41 (Go.Operand.tmp 3), type := 41, pos := "comps.go:29", after := #[], guard := none }) (v := ?_) rfl (by kernel_rfl) (by kernel_rfl) (by kernel_rfl) (fun _ _ _ h => h) (Or.inl ⟨by rfl, ?_⟩) (by assumption) ?_
    rotate_left
    · (intro w hSw; (try dsimp only at hSw); go_simp; (try (with_reducible rfl)))
    try simp only [Act.put, List.setIfInBounds_toArray, List.set_cons_zero, List.set_cons_succ]
    refine wpAnyH_take (i := 5) (oi := { dst := some 20, op := Go.Op.lookup 56 (Go.Operand.tmp 18) (Go.Operand.tmp 19) false, type := 53, pos := "comps.go:29", after := #[{ on := 3, ground := Go.Ground.data }, { on := 4, ground := Go.Ground.data }], guard := none }) (v := ?_) rfl (by kernel_rfl) (by kernel_rfl) (by kernel_rfl) (fun _ _ _ h => h) (Or.inl ⟨by rfl, ?_⟩) (by assumption) ?_
    rotate_left
    · (intro w hSw; (try dsimp only at hSw); go_simp; (try (with_reducible rfl)))
    try simp only [Act.put, List.setIfInBounds_toArray, List.set_cons_zero, List.set_cons_succ]
    refine wpAnyH_ready (rs := [6]) (by kernel_rfl) (by simp) ?_
    refine AllReadyH.cons (o := { dst := some 21, op := Go.Op.call { callee := Go.Callee.value (Go.Operand.func 45), args := #[Go.Operand.tmp 17, Go.Operand.tmp 20], argTypes := #[53, 53] }, type := 4, pos := "comps.go:29", after := #[{ on := 2, ground := Go.Ground.data }, { on := 5, ground := Go.Ground.data }], guard := none }) rfl (fun K hK => ?_) AllReadyH.nil
    go_simp
    refine (hL2.out _).mono ?_
    rintro e w5 ⟨rfl, hg5⟩
    have h5 := h4.below hg5.below
    have g5 := g4.trans hg5
    refine hK.out _ _ (kk _ g5 h5) (fun hHeld4 => ?_)
    clear hK K
    try simp only [Act.put, List.setIfInBounds_toArray, List.set_cons_zero, List.set_cons_succ]
    refine wpAnyH_take (i := 7) (oi := { dst := some 14, op := Go.Op.assign (Go.Operand.tmp 21), type := 4, pos := "comps.go:29", after := #[{ on := 6, ground := Go.Ground.data }, { on := 6, ground := Go.Ground.chain }], guard := none }) (v := ?_) rfl (by kernel_rfl) (by kernel_rfl) (by kernel_rfl) (fun _ _ _ h => h) (Or.inl ⟨by rfl, ?_⟩) (by assumption) ?_
    rotate_left
    · (intro w hSw; (try dsimp only at hSw); go_simp; (try (with_reducible rfl)))
    try simp only [Act.put, List.setIfInBounds_toArray, List.set_cons_zero, List.set_cons_succ]
    refine wpAnyH_done (by kernel_rfl) ?_ _
    cases B2 with
    | true =>
      have hz := hfin 1 _ rfl g5
      go_wp2_with fail
      go_ret
      exact hz.out
    | false =>
      have hz := hfin 0 _ rfl g5
      go_wp2_with fail
      go_ret
      exact hz.out
end Go.Proofs.YtcbckeoalmjcoaaGreat
