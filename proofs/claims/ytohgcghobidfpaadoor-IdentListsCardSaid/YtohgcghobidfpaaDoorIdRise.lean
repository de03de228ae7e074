/- ident.Rising, and the reference's. -/
import Derived.Test.YtohgcghobidfpaaDoorIdWorks
import Derived.Test.YtohgcghobidfpaaDoorSorted
import Derived.Test.YtohgcghobidfpaaDoorCompact
import Derived.Test.YtohgcghobidfpaaDoorHas
set_option linter.unusedVariables false
set_option linter.unusedSimpArgs false
namespace Go.Proofs.YtohgcghobidfpaaDoor
open Go.RowKit Go.Cw
attribute [local go_sem ↓] eql_id neq_id
/-- Does each id stand ahead of the next? -/
theorem cmpId_ge (a b : Id) : decide (0 ≤ cmpId a b) = !idLt a b := by
  have h := ltOf_id a b
  unfold ltOf at h
  rw [← h]
  by_cases k : cmpId a b < 0
  · rw [decide_eq_true k, decide_eq_false (by omega)]; rfl
  · rw [decide_eq_false k, decide_eq_true (by omega)]; rfl
def adjL : List Id → Bool
  | a :: b :: r => idLt a b && adjL (b :: r)
  | _ => true
theorem adjL_step (l : List Id) (k : Nat) (h : k + 1 < l.length) : adjL (l.drop k) = (idLt l[k] l[k + 1] && adjL (l.drop (k + 1))) := by
  rw [List.drop_eq_getElem_cons (show k < l.length by omega), List.drop_eq_getElem_cons h]
  rfl
theorem adjL_end (l : List Id) (k : Nat) (h : l.length ≤ k + 1) : adjL (l.drop k) = true := by
  have : (l.drop k).length ≤ 1 := by rw [List.length_drop]; omega
  match l.drop k, this with
  | [], _ => rfl
  | [_], _ => rfl
theorem adjL_rises : ∀ {l : List Id}, Rises l → adjL l = true
  | [], _ => rfl
  | [_], _ => rfl
  | a :: b :: r, h => by
    obtain ⟨h1, h2⟩ := List.pairwise_cons.1 h
    unfold adjL
    rw [h1 b (by simp), adjL_rises h2]
    rfl
set_option maxRecDepth 100000 in
set_option maxHeartbeats 1600000 in
theorem identRising_any (u : Value) (l : List Id) (w : World) (hx : Rw w 2 u (idl l)) :
    Calls Tryd.prog 32 #[u] w fun e w' => e = .returned (.bool (adjL l)) ∧ Below w.heap.size w w' := by
  obtain ⟨A, n, c, rfl, hl, hn, hc⟩ := hx.form
  rw [idl_len] at hl
  obtain rfl : n = l.length := by omega
  clear hl
  have hfin : ∀ (b : Bool) (w' : World), adjL l = b → Below w.heap.size w w' → Hid ((Ending.returned (Value.bool b)) = Ending.returned (Value.bool (adjL l)) ∧ Below w.heap.size w w') := fun b w' h hb => Lib.hid ⟨by rw [h], hb⟩
  have hstart := Lib.hid (show adjL l = adjL (l.drop 0) from rfl)
  go_enter Tryd.func32, Tryd.ntmps32
  go_wp2_with fail
  go_loopw [3] (fun s3 wr => ∃ (k m : Nat), Hid (m = k + 1) ∧ s3 = .int .i64 (m : Int) ∧ Below w.heap.size w wr ∧ Hid (adjL l = adjL (l.drop k)) ∧ Hid (k ≤ l.length)) (fun s3 _ => l.length - (intOf s3).toNat)
  case atStart => exact ⟨0, 1, Lib.hid rfl, by go_num, Below.refl _ _, hstart, Lib.hid (by omega)⟩
  case round =>
    obtain ⟨k, m, hm, rfl, hb, HI, hk⟩ := hrel
    by_cases hlt : m < l.length
    · have hk1 : k + 1 < l.length := by have := hm.out; omega
      have hS := adjL_step l k hk1
      obtain ⟨b', off', hA, hcr⟩ := (hx.below hb).cells (by omega)
      cases hA
      have p1 := hcr _ _ (idl_fst l k (by omega))
      have p2 := hcr _ _ (idl_snd l k (by omega))
      have q1 := hcr _ _ (idl_fst l (k + 1) hk1)
      have q2 := hcr _ _ (idl_snd l (k + 1) hk1)
      rw [← Nat.add_assoc] at p2 q2
      have e1 : IntKind.i64.wrap ((m : Int) - 1) = (k : Int) := by rw [IntKind.wrap_i64]; have := hm.out; omega
      have e2 : (m : Int) - 1 = (k : Int) := by have := hm.out; omega
      have e3 : IntKind.i64.wrap (k : Int) = (k : Int) := by rw [IntKind.wrap_i64]; omega
      have hC := Lib.hid (fun w' => compare3_any l[k] l[k + 1] w')
      have hlt2 := cmpId_ge l[k] l[k + 1]
      generalize l[k] = x at *
      generalize l[k + 1] = y at *
      rw [← hm.out] at q1 q2
      have pl := World.block_lt_of_cell? _ _ p1
      have hkl : k < l.length := by omega
      have hNext := Lib.hid (show k + 1 ≤ l.length by omega)
      obtain ⟨x0, x1⟩ := x
      obtain ⟨y0, y1⟩ := y
      simp only at p1 p2 q1 q2
      clear hcr
      have l0 : b' < wr.heap.size := pl
      have kk : ∀ w', Below wr.heap.size wr w' → (w'.cell? ⟨b', off' + k * 2, none⟩ = some (.int .i64 x0) ∧ w'.cell? ⟨b', off' + k * 2 + 1, none⟩ = some (.int .i64 x1) ∧ w'.cell? ⟨b', off' + m * 2, none⟩ = some (.int .i64 y0) ∧ w'.cell? ⟨b', off' + m * 2 + 1, none⟩ = some (.int .i64 y1)) := fun w' hw => ⟨by rw [hw.cell (p := ⟨b', _, none⟩) l0]; exact p1, by rw [hw.cell (p := ⟨b', _, none⟩) l0]; exact p2, by rw [hw.cell (p := ⟨b', _, none⟩) l0]; exact q1, by rw [hw.cell (p := ⟨b', _, none⟩) l0]; exact q2⟩
      have hd := bel_drewN (Below.refl wr.heap.size wr) 1
      have hb1 := bel_drewN hb 1
      change Below w.heap.size w wr.drew at hb1
      change Below wr.heap.size wr wr.drew at hd
      clear p1 p2 q1 q2 pl
      go_wp2_with fail
      refine wp_region_held_drew (S := fun w' => w'.cell? ⟨b', off' + k * 2, none⟩ = some (.int .i64 x0) ∧ w'.cell? ⟨b', off' + k * 2 + 1, none⟩ = some (.int .i64 x1) ∧ w'.cell? ⟨b', off' + m * 2, none⟩ = some (.int .i64 y0) ∧ w'.cell? ⟨b', off' + m * 2 + 1, none⟩ = some (.int .i64 y1)) (by kernel_rfl) (kk _ hd) (fun hHeld => ?_)
      refine wpAnyH_take (i := 0) (oi := { dst := some 10, op := Go.Op.move (Go.Operand.tmp 0), type := 48, pos := "ident.go:55", after := #[], guard := none }) (v := ?_) rfl (by kernel_rfl) (by kernel_rfl) (by kernel_rfl) (fun _ _ _ h => h) (Or.inl ⟨by rfl, ?_⟩) (by assumption) ?_
      rotate_left
      · (intro w hSw; (try dsimp only at hSw); go_simp; (try (with_reducible rfl)))
      try simp only [Act.put, List.setIfInBounds_toArray, List.set_cons_zero, List.set_cons_succ]
      refine wpAnyH_take (i := 1) (oi := { dst := some 11, op := Go.Op.move (Go.Operand.tmp 3), type := 3, pos := "ident.go:55", after := #[], guard := none }) (v := ?_) rfl (by kernel_rfl) (by kernel_rfl) (by kernel_rfl) (fun _ _ _ h => h) (Or.inl ⟨by rfl, ?_⟩) (by assumption) ?_
      rotate_left
      · (intro w hSw; (try dsimp only at hSw); go_simp; (try (with_reducible rfl)))
      try simp only [Act.put, List.setIfInBounds_toArray, List.set_cons_zero, List.set_cons_succ]
      refine wpAnyH_take (i := 2) (oi := { dst := some 12, op := Go.Op.binOp Go.BinOp.sub 3 (Go.Operand.tmp 11) (Go.Operand.const (Go.Value.int Go.IntKind.i64 1)) 3, type := 3, pos := "ident.go:55", after := #[{ on := 1, ground := Go.Ground.data }], guard := none }) (v := ?_) rfl (by kernel_rfl) (by kernel_rfl) (by kernel_rfl) (fun _ _ _ h => h) (Or.inl ⟨by rfl, ?_⟩) (by assumption) ?_
      rotate_left
      · (intro w hSw; (try dsimp only at hSw); go_simp; (try (with_reducible rfl)))
      try simp only [Act.put, List.setIfInBounds_toArray, List.set_cons_zero, List.set_cons_succ]
      refine wpAnyH_take (i := 3) (oi := { dst := some 13, op := Go.Op.indexAddr 48 (Go.Operand.tmp 10) (Go.Operand.tmp 12), type := 0, pos := "ident.go:55", after := #[{ on := 0, ground := Go.Ground.data }, { on := 2, ground := Go.Ground.data }], guard := none }) (v := ?_) rfl (by kernel_rfl) (by kernel_rfl) (by kernel_rfl) (fun _ _ _ h => h) (Or.inl ⟨by rfl, ?_⟩) (by assumption) ?_
      rotate_left
      · (intro w hSw; (try dsimp only at hSw); go_simp; (try (with_reducible rfl)))
      try simp only [Act.put, List.setIfInBounds_toArray, List.set_cons_zero, List.set_cons_succ]
      refine wpAnyH_take (i := 4) (oi := { dst := some 14, op := Go.Op.load 23 (Go.Operand.tmp 13), type := 23, pos := "ident.go:55", after := #[{ on := 3, ground := Go.Ground.data }], guard := none }) (v := ?_) rfl (by kernel_rfl) (by kernel_rfl) (by kernel_rfl) (fun _ _ _ h => h) (Or.inl ⟨by rfl, ?_⟩) (by assumption) ?_
      rotate_left
      · (intro w hSw; (try dsimp only at hSw); go_simp; (try (with_reducible rfl)))
      try simp only [Act.put, List.setIfInBounds_toArray, List.set_cons_zero, List.set_cons_succ]
      refine wpAnyH_take (i := 5) (oi := { dst := some 15, op := Go.Op.move (Go.Operand.tmp 0), type := 48, pos := "ident.go:55", after := #[], guard := none }) (v := ?_) rfl (by kernel_rfl) (by kernel_rfl) (by kernel_rfl) (fun _ _ _ h => h) (Or.inl ⟨by rfl, ?_⟩) (by assumption) ?_
      rotate_left
      · (intro w hSw; (try dsimp only at hSw); go_simp; (try (with_reducible rfl)))
      try simp only [Act.put, List.setIfInBounds_toArray, List.set_cons_zero, List.set_cons_succ]
      refine wpAnyH_take (i := 6) (oi := { dst := some 16, op := Go.Op.move (Go.Operand.tmp 3), type := 3, pos := "ident.go:55", after := #[], guard := none }) (v := ?_) rfl (by kernel_rfl) (by kernel_rfl) (by kernel_rfl) (fun _ _ _ h => h) (Or.inl ⟨by rfl, ?_⟩) (by assumption) ?_
      rotate_left
      · (intro w hSw; (try dsimp only at hSw); go_simp; (try (with_reducible rfl)))
      try simp only [Act.put, List.setIfInBounds_toArray, List.set_cons_zero, List.set_cons_succ]
      refine wpAnyH_take (i := 7) (oi := { dst := some 17, op := Go.Op.indexAddr 48 (Go.Operand.tmp 15) (Go.Operand.tmp 16), type := 0, pos := "ident.go:55", after := #[{ on := 5, ground := Go.Ground.data }, { on := 6, ground := Go.Ground.data }], guard := none }) (v := ?_) rfl (by kernel_rfl) (by kernel_rfl) (by kernel_rfl) (fun _ _ _ h => h) (Or.inl ⟨by rfl, ?_⟩) (by assumption) ?_
      rotate_left
      · (intro w hSw; (try dsimp only at hSw); go_simp; (try (with_reducible rfl)))
      try simp only [Act.put, List.setIfInBounds_toArray, List.set_cons_zero, List.set_cons_succ]
      refine wpAnyH_take (i := 8) (oi := { dst := some 18, op := Go.Op.load 23 (Go.Operand.tmp 17), type := 23, pos := "ident.go:55", after := #[{ on := 7, ground := Go.Ground.data }], guard := none }) (v := ?_) rfl (by kernel_rfl) (by kernel_rfl) (by kernel_rfl) (fun _ _ _ h => h) (Or.inl ⟨by rfl, ?_⟩) (by assumption) ?_
      rotate_left
      · (intro w hSw; (try dsimp only at hSw); go_simp; (try (with_reducible rfl)))
      try simp only [Act.put, List.setIfInBounds_toArray, List.set_cons_zero, List.set_cons_succ]
      refine wpAnyH_ready (rs := [9]) (by kernel_rfl) (by simp) ?_
      refine AllReadyH.cons (o := { dst := some 19, op := Go.Op.call { callee := Go.Callee.value (Go.Operand.func 11), args := #[Go.Operand.tmp 14, Go.Operand.tmp 18], argTypes := #[23, 23] }, type := 3, pos := "ident.go:55", after := #[{ on := 4, ground := Go.Ground.data }, { on := 8, ground := Go.Ground.data }], guard := none }) rfl (fun K hK => ?_) AllReadyH.nil
      go_simp
      refine (hC.out _).mono ?_
      rintro e w3 ⟨rfl, hb3⟩
      have hb4 := hb1.trans (hb3.mono hb1.size)
      refine hK.out _ _ (kk _ (hd.trans (hb3.mono hd.size))) (fun hHeld2 => ?_)
      clear hK K hHeld
      try simp only [Act.put, List.setIfInBounds_toArray, List.set_cons_zero, List.set_cons_succ]
      refine wpAnyH_take (i := 10) (oi := { dst := some 20, op := Go.Op.binOp Go.BinOp.geq 3 (Go.Operand.tmp 19) (Go.Operand.const (Go.Value.int Go.IntKind.i64 0)) 3, type := 4, pos := "ident.go:55", after := #[{ on := 9, ground := Go.Ground.data }], guard := none }) (v := ?_) rfl (by kernel_rfl) (by kernel_rfl) (by kernel_rfl) (fun _ _ _ h => h) (Or.inl ⟨by rfl, ?_⟩) (by assumption) ?_
      rotate_left
      · (intro w hSw; (try dsimp only at hSw); go_simp; (try (with_reducible rfl)))
      try simp only [Act.put, List.setIfInBounds_toArray, List.set_cons_zero, List.set_cons_succ]
      refine wpAnyH_done (by kernel_rfl) ?_ _
      cases hB : idLt (x0, x1) (y0, y1) with
      | true =>
        rw [hB] at hS hlt2
        have HN := Lib.hid (HI.out.trans (hS.trans (Bool.true_and _)))
        have hm2 := Lib.hid (show m + 1 = (k + 1) + 1 by have := hm.out; omega)
        clear hS hB
        try rw [hlt2]
        go_wp2_with fail
        go_roundw
        case rel => exact ⟨k + 1, m + 1, hm2, by go_num, hb4, HN, hNext⟩
        case measure => simp [intOf]; omega
      | false =>
        rw [hB] at hS hlt2
        have hz := hfin false _ (HI.out.trans (hS.trans (Bool.false_and _))) hb4
        clear hS hB
        try rw [hlt2]
        go_wp2_with fail
        go_ret
        exact hz.out
    · have hz := hfin true _ (HI.out.trans (adjL_end l k (by have := hm.out; omega))) hb
      go_wp2_with fail
      go_ret
      exact hz.out
set_option maxRecDepth 100000 in
set_option maxHeartbeats 1600000 in
theorem refRising_any (u : Value) (l : List Id) (w : World) (hx : Rw w 2 u (idl l)) :
    Calls Tryd.prog 33 #[u] w fun e w' => e = .returned (.bool (adjL l)) ∧ Below w.heap.size w w' := by
  obtain ⟨A, n, c, rfl, hl, hn, hc⟩ := hx.form
  rw [idl_len] at hl
  obtain rfl : n = l.length := by omega
  clear hl
  have hfin : ∀ (b : Bool) (w' : World), adjL l = b → Below w.heap.size w w' → Hid ((Ending.returned (Value.bool b)) = Ending.returned (Value.bool (adjL l)) ∧ Below w.heap.size w w') := fun b w' h hb => Lib.hid ⟨by rw [h], hb⟩
  have hstart := Lib.hid (show adjL l = adjL (l.drop 0) from rfl)
  go_enter Tryd.func33, Tryd.ntmps33
  go_wp2_with fail
  go_loopw [3] (fun s3 wr => ∃ (k m : Nat), Hid (m = k + 1) ∧ s3 = .int .i64 (m : Int) ∧ Below w.heap.size w wr ∧ Hid (adjL l = adjL (l.drop k)) ∧ Hid (k ≤ l.length)) (fun s3 _ => l.length - (intOf s3).toNat)
  case atStart => exact ⟨0, 1, Lib.hid rfl, by go_num, Below.refl _ _, hstart, Lib.hid (by omega)⟩
  case round =>
    obtain ⟨k, m, hm, rfl, hb, HI, hk⟩ := hrel
    by_cases hlt : m < l.length
    · have hk1 : k + 1 < l.length := by have := hm.out; omega
      have hS := adjL_step l k hk1
      obtain ⟨b', off', hA, hcr⟩ := (hx.below hb).cells (by omega)
      cases hA
      have p1 := hcr _ _ (idl_fst l k (by omega))
      have p2 := hcr _ _ (idl_snd l k (by omega))
      have q1 := hcr _ _ (idl_fst l (k + 1) hk1)
      have q2 := hcr _ _ (idl_snd l (k + 1) hk1)
      rw [← Nat.add_assoc] at p2 q2
      have e1 : IntKind.i64.wrap ((m : Int) - 1) = (k : Int) := by rw [IntKind.wrap_i64]; have := hm.out; omega
      have e2 : (m : Int) - 1 = (k : Int) := by have := hm.out; omega
      have e3 : IntKind.i64.wrap (k : Int) = (k : Int) := by rw [IntKind.wrap_i64]; omega
      have hC := Lib.hid (fun w' => less_any l[k] l[k + 1] w')
      generalize l[k] = x at *
      generalize l[k + 1] = y at *
      rw [← hm.out] at q1 q2
      have pl := World.block_lt_of_cell? _ _ p1
      have hkl : k < l.length := by omega
      have hNext := Lib.hid (show k + 1 ≤ l.length by omega)
      obtain ⟨x0, x1⟩ := x
      obtain ⟨y0, y1⟩ := y
      simp only at p1 p2 q1 q2
      clear hcr
      have l0 : b' < wr.heap.size := pl
      have kk : ∀ w', Below wr.heap.size wr w' → (w'.cell? ⟨b', off' + k * 2, none⟩ = some (.int .i64 x0) ∧ w'.cell? ⟨b', off' + k * 2 + 1, none⟩ = some (.int .i64 x1) ∧ w'.cell? ⟨b', off' + m * 2, none⟩ = some (.int .i64 y0) ∧ w'.cell? ⟨b', off' + m * 2 + 1, none⟩ = some (.int .i64 y1)) := fun w' hw => ⟨by rw [hw.cell (p := ⟨b', _, none⟩) l0]; exact p1, by rw [hw.cell (p := ⟨b', _, none⟩) l0]; exact p2, by rw [hw.cell (p := ⟨b', _, none⟩) l0]; exact q1, by rw [hw.cell (p := ⟨b', _, none⟩) l0]; exact q2⟩
      have hd := bel_drewN (Below.refl wr.heap.size wr) 1
      have hb1 := bel_drewN hb 1
      change Below w.heap.size w wr.drew at hb1
      change Below wr.heap.size wr wr.drew at hd
      clear p1 p2 q1 q2 pl
      go_wp2_with fail
      refine wp_region_held_drew (S := fun w' => w'.cell? ⟨b', off' + k * 2, none⟩ = some (.int .i64 x0) ∧ w'.cell? ⟨b', off' + k * 2 + 1, none⟩ = some (.int .i64 x1) ∧ w'.cell? ⟨b', off' + m * 2, none⟩ = some (.int .i64 y0) ∧ w'.cell? ⟨b', off' + m * 2 + 1, none⟩ = some (.int .i64 y1)) (by kernel_rfl) (kk _ hd) (fun hHeld => ?_)
      refine wpAnyH_take (i := 0) (oi := { dst := some 10, op := Go.Op.move (Go.Operand.tmp 0), type := 48, pos := "ref.go:35", after := #[], guard := none }) (v := ?_) rfl (by kernel_rfl) (by kernel_rfl) (by kernel_rfl) (fun _ _ _ h => h) (Or.inl ⟨by rfl, ?_⟩) (by assumption) ?_
      rotate_left
      · (intro w hSw; (try dsimp only at hSw); go_simp; (try (with_reducible rfl)))
      try simp only [Act.put, List.setIfInBounds_toArray, List.set_cons_zero, List.set_cons_succ]
      refine wpAnyH_take (i := 1) (oi := { dst := some 11, op := Go.Op.move (Go.Operand.tmp 3), type := 3, pos := "ref.go:35", after := #[], guard := none }) (v := ?_) rfl (by kernel_rfl) (by kernel_rfl) (by kernel_rfl) (fun _ _ _ h => h) (Or.inl ⟨by rfl, ?_⟩) (by assumption) ?_
      rotate_left
      · (intro w hSw; (try dsimp only at hSw); go_simp; (try (with_reducible rfl)))
      try simp only [Act.put, List.setIfInBounds_toArray, List.set_cons_zero, List.set_cons_succ]
      refine wpAnyH_take (i := 2) (oi := { dst := some 12, op := Go.Op.binOp Go.BinOp.sub 3 (Go.Operand.tmp 11) (Go.Operand.const (Go.Value.int Go.IntKind.i64 1)) 3, type := 3, pos := "ref.go:35", after := #[{ on := 1, ground := Go.Ground.data }], guard := none }) (v := ?_) rfl (by kernel_rfl) (by kernel_rfl) (by kernel_rfl) (fun _ _ _ h => h) (Or.inl ⟨by rfl, ?_⟩) (by assumption) ?_
      rotate_left
      · (intro w hSw; (try dsimp only at hSw); go_simp; (try (with_reducible rfl)))
      try simp only [Act.put, List.setIfInBounds_toArray, List.set_cons_zero, List.set_cons_succ]
      refine wpAnyH_take (i := 3) (oi := { dst := some 13, op := Go.Op.indexAddr 48 (Go.Operand.tmp 10) (Go.Operand.tmp 12), type := 0, pos := "ref.go:35", after := #[{ on := 0, ground := Go.Ground.data }, { on := 2, ground := Go.Ground.data }], guard := none }) (v := ?_) rfl (by kernel_rfl) (by kernel_rfl) (by kernel_rfl) (fun _ _ _ h => h) (Or.inl ⟨by rfl, ?_⟩) (by assumption) ?_
      rotate_left
      · (intro w hSw; (try dsimp only at hSw); go_simp; (try (with_reducible rfl)))
      try simp only [Act.put, List.setIfInBounds_toArray, List.set_cons_zero, List.set_cons_succ]
      refine wpAnyH_take (i := 4) (oi := { dst := some 14, op := Go.Op.load 23 (Go.Operand.tmp 13), type := 23, pos := "ref.go:35", after := #[{ on := 3, ground := Go.Ground.data }], guard := none }) (v := ?_) rfl (by kernel_rfl) (by kernel_rfl) (by kernel_rfl) (fun _ _ _ h => h) (Or.inl ⟨by rfl, ?_⟩) (by assumption) ?_
      rotate_left
      · (intro w hSw; (try dsimp only at hSw); go_simp; (try (with_reducible rfl)))
      try simp only [Act.put, List.setIfInBounds_toArray, List.set_cons_zero, List.set_cons_succ]
      refine wpAnyH_take (i := 5) (oi := { dst := some 15, op := Go.Op.move (Go.Operand.tmp 0), type := 48, pos := "ref.go:35", after := #[], guard := none }) (v := ?_) rfl (by kernel_rfl) (by kernel_rfl) (by kernel_rfl) (fun _ _ _ h => h) (Or.inl ⟨by rfl, ?_⟩) (by assumption) ?_
      rotate_left
      · (intro w hSw; (try dsimp only at hSw); go_simp; (try (with_reducible rfl)))
      try simp only [Act.put, List.setIfInBounds_toArray, List.set_cons_zero, List.set_cons_succ]
      refine wpAnyH_take (i := 6) (oi := { dst := some 16, op := Go.Op.move (Go.Operand.tmp 3), type := 3, pos := "ref.go:35", after := #[], guard := none }) (v := ?_) rfl (by kernel_rfl) (by kernel_rfl) (by kernel_rfl) (fun _ _ _ h => h) (Or.inl ⟨by rfl, ?_⟩) (by assumption) ?_
      rotate_left
      · (intro w hSw; (try dsimp only at hSw); go_simp; (try (with_reducible rfl)))
      try simp only [Act.put, List.setIfInBounds_toArray, List.set_cons_zero, List.set_cons_succ]
      refine wpAnyH_take (i := 7) (oi := { dst := some 17, op := Go.Op.indexAddr 48 (Go.Operand.tmp 15) (Go.Operand.tmp 16), type := 0, pos := "ref.go:35", after := #[{ on := 5, ground := Go.Ground.data }, { on := 6, ground := Go.Ground.data }], guard := none }) (v := ?_) rfl (by kernel_rfl) (by kernel_rfl) (by kernel_rfl) (fun _ _ _ h => h) (Or.inl ⟨by rfl, ?_⟩) (by assumption) ?_
      rotate_left
      · (intro w hSw; (try dsimp only at hSw); go_simp; (try (with_reducible rfl)))
      try simp only [Act.put, List.setIfInBounds_toArray, List.set_cons_zero, List.set_cons_succ]
      refine wpAnyH_take (i := 8) (oi := { dst := some 18, op := Go.Op.load 23 (Go.Operand.tmp 17), type := 23, pos := "ref.go:35", after := #[{ on := 7, ground := Go.Ground.data }], guard := none }) (v := ?_) rfl (by kernel_rfl) (by kernel_rfl) (by kernel_rfl) (fun _ _ _ h => h) (Or.inl ⟨by rfl, ?_⟩) (by assumption) ?_
      rotate_left
      · (intro w hSw; (try dsimp only at hSw); go_simp; (try (with_reducible rfl)))
      try simp only [Act.put, List.setIfInBounds_toArray, List.set_cons_zero, List.set_cons_succ]
      refine wpAnyH_ready (rs := [9]) (by kernel_rfl) (by simp) ?_
      refine AllReadyH.cons (o := { dst := some 19, op := Go.Op.call { callee := Go.Callee.value (Go.Operand.func 10), args := #[Go.Operand.tmp 14, Go.Operand.tmp 18], argTypes := #[23, 23] }, type := 4, pos := "ref.go:35", after := #[{ on := 4, ground := Go.Ground.data }, { on := 8, ground := Go.Ground.data }], guard := none }) rfl (fun K hK => ?_) AllReadyH.nil
      go_simp
      refine (hC.out _).mono ?_
      rintro e w3 ⟨rfl, hb3⟩
      have hb4 := hb1.trans (hb3.mono hb1.size)
      refine hK.out _ _ (kk _ (hd.trans (hb3.mono hd.size))) (fun hHeld2 => ?_)
      clear hK K hHeld
      try simp only [Act.put, List.setIfInBounds_toArray, List.set_cons_zero, List.set_cons_succ]
      refine wpAnyH_take (i := 10) (oi := { dst := some 20, op := Go.Op.unOp Go.UnOp.not 4 (Go.Operand.tmp 19), type := 4, pos := "ref.go:35", after := #[{ on := 9, ground := Go.Ground.data }], guard := none }) (v := ?_) rfl (by kernel_rfl) (by kernel_rfl) (by kernel_rfl) (fun _ _ _ h => h) (Or.inl ⟨by rfl, ?_⟩) (by assumption) ?_
      rotate_left
      · (intro w hSw; (try dsimp only at hSw); go_simp; (try (with_reducible rfl)))
      try simp only [Act.put, List.setIfInBounds_toArray, List.set_cons_zero, List.set_cons_succ]
      refine wpAnyH_done (by kernel_rfl) ?_ _
      cases hB : idLt (x0, x1) (y0, y1) with
      | true =>
        rw [hB] at hS
        have HN := Lib.hid (HI.out.trans (hS.trans (Bool.true_and _)))
        have hm2 := Lib.hid (show m + 1 = (k + 1) + 1 by have := hm.out; omega)
        clear hS hB
        go_wp2_with fail
        go_roundw
        case rel => exact ⟨k + 1, m + 1, hm2, by go_num, hb4, HN, hNext⟩
        case measure => simp [intOf]; omega
      | false =>
        rw [hB] at hS
        have hz := hfin false _ (HI.out.trans (hS.trans (Bool.false_and _))) hb4
        clear hS hB
        go_wp2_with fail
        go_ret
        exact hz.out
    · have hz := hfin true _ (HI.out.trans (adjL_end l k (by have := hm.out; omega))) hb
      go_wp2_with fail
      go_ret
      exact hz.out
end Go.Proofs.YtohgcghobidfpaaDoor
