/- The texts of ids: the walks of ident.Text and the reference's Text. -/
import Derived.Test.YtohgcghobidfpaaDoorStrc
set_option linter.unusedVariables false
set_option linter.unusedSimpArgs false
namespace Go.Proofs.YtohgcghobidfpaaDoor
open Go.RowKit Go.Cw
attribute [local go_sem ↓] eql_id neq_id
def idErr3 (a : Id) : Int := if 0 ≤ a.1 ∧ a.1 < 8 then (if 1 ≤ a.2 ∧ a.2 ≤ 1048576 then 0 else 8) else 7
theorem idErr3_ok {a : Id} (h : idOk a = true) : idErr3 a = 0 := by
  obtain ⟨h1, h2, h3, h4⟩ := idOk_iff.1 h
  unfold idErr3
  rw [if_pos ⟨h1, h2⟩, if_pos ⟨h3, h4⟩]
theorem idErr3_no {a : Id} (h : idOk a = false) : idErr3 a ≠ 0 := by
  have : ¬ (0 ≤ a.1 ∧ a.1 < 8 ∧ 1 ≤ a.2 ∧ a.2 ≤ 1048576) := fun k => by rw [idOk_iff.2 k] at h; cases h
  unfold idErr3
  split
  · split
    · exfalso; omega
    · decide
  · decide
set_option maxRecDepth 100000 in
set_option maxHeartbeats 800000 in
theorem identCheck3_any (a : Id) (w : World) : Calls Tryd.prog 9 #[idV a] w fun e w' => e = .returned (.int .i64 (idErr3 a)) ∧ Below w.heap.size w w' := by
  obtain ⟨r, s⟩ := a
  have fin : ∀ (n : Int) (w' : World), idErr3 (r, s) = n → Below w.heap.size w w' → ((Ending.returned (Value.int .i64 n)) = Ending.returned (Value.int .i64 (idErr3 (r, s))) ∧ Below w.heap.size w w') := fun n w' h hb => ⟨by rw [h], hb⟩
  by_cases h1 : r < 0
  · have e1 : idErr3 (r, s) = 7 := by unfold idErr3; rw [if_neg (by simp; omega)]
    go_enter Tryd.func9, Tryd.ntmps9
    go_wp2_with fail
    go_ret
    first | exact ⟨rfl, (Below.refl _ _).alloc (Nat.le_refl _) _⟩ | exact fin _ _ e1 ((Below.refl _ _).alloc (Nat.le_refl _) _)
  · by_cases h2 : 8 ≤ r
    · have e1 : idErr3 (r, s) = 7 := by unfold idErr3; rw [if_neg (by simp; omega)]
      go_enter Tryd.func9, Tryd.ntmps9
      go_wp2_with fail
      go_ret
      first | exact ⟨rfl, (Below.refl _ _).alloc (Nat.le_refl _) _⟩ | exact fin _ _ e1 ((Below.refl _ _).alloc (Nat.le_refl _) _)
    · by_cases h3 : s < 1
      · have e1 : idErr3 (r, s) = 8 := by unfold idErr3; rw [if_pos (by simp; omega), if_neg (by simp; omega)]
        go_enter Tryd.func9, Tryd.ntmps9
        go_wp2_with fail
        go_ret
        first | exact ⟨rfl, (Below.refl _ _).alloc (Nat.le_refl _) _⟩ | exact fin _ _ e1 ((Below.refl _ _).alloc (Nat.le_refl _) _)
      · by_cases h4 : 1048576 < s
        · have e1 : idErr3 (r, s) = 8 := by unfold idErr3; rw [if_pos (by simp; omega), if_neg (by simp; omega)]
          go_enter Tryd.func9, Tryd.ntmps9
          go_wp2_with fail
          go_ret
          first | exact ⟨rfl, (Below.refl _ _).alloc (Nat.le_refl _) _⟩ | exact fin _ _ e1 ((Below.refl _ _).alloc (Nat.le_refl _) _)
        · have e1 : idErr3 (r, s) = 0 := by unfold idErr3; rw [if_pos (by simp; omega), if_pos (by simp; omega)]
          go_enter Tryd.func9, Tryd.ntmps9
          go_wp2_with fail
          go_ret
          first | exact ⟨rfl, (Below.refl _ _).alloc (Nat.le_refl _) _⟩ | exact fin _ _ e1 ((Below.refl _ _).alloc (Nat.le_refl _) _)
set_option maxRecDepth 100000 in
set_option maxHeartbeats 1600000 in
theorem identText_no (a : Id) (h : idOk a = false) (w : World) : Calls Tryd.prog 12 #[idV a] w fun e w' => e = .returned (.string ByteArray.empty) ∧ Below w.heap.size w w' := by
  have hk := Lib.hid (idErr3_no h)
  have hC := Lib.hid (identCheck3_any a (w.alloc (.cells #[.int .i64 a.1, .int .i64 a.2] 23)))
  obtain ⟨r, s⟩ := a
  generalize idErr3 (r, s) = n at *
  have c0 : (w.alloc (.cells #[.int .i64 r, .int .i64 s] 23)).cell? ⟨w.heap.size, 0, none⟩ = some (.int .i64 r) := ((St.start w).blk #[.int .i64 r, .int .i64 s] 23).blk_cell 0
  have hne := hk.out
  go_enter Tryd.func12, Tryd.ntmps12
  go_wp2_with fail
  refine hC.out.mono ?_
  rintro e w1 ⟨rfl, hb1⟩
  go_wp2_with fail
  go_ret
  exact ⟨rfl, ((Below.refl _ _).alloc (Nat.le_refl _) _).trans (hb1.mono (by simp))⟩
set_option maxRecDepth 100000 in
set_option maxHeartbeats 1600000 in
theorem identText_ok (r s : Nat) (h : idOk ((r : Int), (s : Int)) = true) (w : World) (hv : Vs w) : Calls Tryd.prog 12 #[idV ((r : Int), (s : Int))] w fun e w' => e = .returned (.string ⟨(idT ((r : Int), (s : Int))).toArray⟩) ∧ Below w.heap.size w w' := by
  have hk := idErr3_ok h
  have hR := idOk_iff.1 h
  have hC := Lib.hid (identCheck3_any ((r : Int), (s : Int)) (w.alloc (.cells #[.int .i64 (r : Int), .int .i64 (s : Int)] 23)))
  rw [hk] at hC
  have c0 : (w.alloc (.cells #[.int .i64 (r : Int), .int .i64 (s : Int)] 23)).cell? ⟨w.heap.size, 0, none⟩ = some (.int .i64 (r : Int)) := ((St.start w).blk #[.int .i64 (r : Int), .int .i64 (s : Int)] 23).blk_cell 0
  have c1 : (w.alloc (.cells #[.int .i64 (r : Int), .int .i64 (s : Int)] 23)).cell? ⟨w.heap.size, 1, none⟩ = some (.int .i64 (s : Int)) := ((St.start w).blk #[.int .i64 (r : Int), .int .i64 (s : Int)] 23).blk_cell 1
  have hv1 := hv.alloc (.cells #[.int .i64 (r : Int), .int .i64 (s : Int)] 23)
  have hb0 : Below w.heap.size w (w.alloc (.cells #[.int .i64 (r : Int), .int .i64 (s : Int)] 23)) := (Below.refl _ _).alloc (Nat.le_refl _) _
  have d1 := dec_len (show r < 9223372036854775808 by simp at hR; omega)
  have d2 := dec_len (show s < 9223372036854775808 by simp at hR; omega)
  have f1 : ¬ 9223372036854775807 < (Lib.decDigits r).length + 1 := by omega
  have f2 : ¬ 9223372036854775807 < (Lib.decDigits r).length + 1 + (Lib.decDigits s).length := by omega
  have hI1 := fun w' hv' => Lib.hid (itoa_any r (by simp at hR; omega) w' hv')
  have hI2 := fun w' hv' => Lib.hid (itoa_any s (by simp at hR; omega) w' hv')
  have hfin : ∀ w', Below w.heap.size w w' → Hid ((Ending.returned (.string (⟨(Lib.decDigits r).toArray⟩ ++ { data := #[46] } ++ ⟨(Lib.decDigits s).toArray⟩)) = Ending.returned (.string ⟨(idT ((r : Int), (s : Int))).toArray⟩)) ∧ Below w.heap.size w w') := fun w' hb => Lib.hid ⟨by
    rw [show ({ data := #[46] } : ByteArray) = ⟨([46] : List UInt8).toArray⟩ from rfl, ba_app, ba_app]
    simp [idT], hb⟩
  clear hR h
  go_enter Tryd.func12, Tryd.ntmps12
  go_wp2_with fail
  refine hC.out.mono ?_
  rintro e w1 ⟨rfl, hb1⟩
  replace hv1 := hv1.below hb1
  have hlt : w.heap.size < (w.alloc (.cells #[.int .i64 (r : Int), .int .i64 (s : Int)] 23)).heap.size := by simp
  rw [← hb1.cell (p := ⟨w.heap.size, 0, none⟩) hlt] at c0
  rw [← hb1.cell (p := ⟨w.heap.size, 1, none⟩) hlt] at c1
  replace hb0 := hb0.trans (hb1.mono (by simp))
  clear hb1 hC hlt
  generalize hg : w.heap.size = gb at *
  have l0 := World.block_lt_of_cell? _ _ c0
  have kk : ∀ w', Below w1.heap.size w1 w' → (w'.cell? ⟨gb, 0, none⟩ = some (.int .i64 (r : Int)) ∧ w'.cell? ⟨gb, 1, none⟩ = some (.int .i64 (s : Int))) := fun w' hb => ⟨by rw [hb.cell (p := ⟨gb, 0, none⟩) l0]; exact c0, by rw [hb.cell (p := ⟨gb, 1, none⟩) l0]; exact c1⟩
  go_wp2_with fail
  have hcur := below_drew w1
  have hvc := hv1.below hcur
  refine wp_region_held_drew (S := fun w' => w'.cell? ⟨gb, 0, none⟩ = some (.int .i64 (r : Int)) ∧ w'.cell? ⟨gb, 1, none⟩ = some (.int .i64 (s : Int))) (by kernel_rfl) (kk _ hcur) (fun hHeld => ?_)
  refine wpAnyH_take (i := 0) (oi := { dst := some 6, op := Go.Op.fieldAddr 23 (Go.Operand.tmp 1) 0, type := 0, pos := "ident.go:37", after := #[], guard := none }) (v := ?_) rfl (by kernel_rfl) (by kernel_rfl) (by kernel_rfl) (fun _ _ _ h => h) (Or.inl ⟨by rfl, ?_⟩) (by assumption) ?_
  rotate_left
  · (intro w hSw; (try dsimp only at hSw); go_simp; (try (with_reducible rfl)))
  try simp only [Act.put, List.setIfInBounds_toArray, List.set_cons_zero, List.set_cons_succ]
  refine wpAnyH_take (i := 1) (oi := { dst := some 7, op := Go.Op.load 3 (Go.Operand.tmp 6), type := 3, pos := "ident.go:37", after := #[{ on := 0, ground := Go.Ground.data }], guard := none }) (v := ?_) rfl (by kernel_rfl) (by kernel_rfl) (by kernel_rfl) (fun _ _ _ h => h) (Or.inl ⟨by rfl, ?_⟩) (by assumption) ?_
  rotate_left
  · (intro w hSw; (try dsimp only at hSw); go_simp; (try (with_reducible rfl)))
  try simp only [Act.put, List.setIfInBounds_toArray, List.set_cons_zero, List.set_cons_succ]
  refine wpAnyH_take (i := 4) (oi := { dst := some 10, op := Go.Op.fieldAddr 23 (Go.Operand.tmp 1) 1, type := 0, pos := "ident.go:37", after := #[], guard := none }) (v := ?_) rfl (by kernel_rfl) (by kernel_rfl) (by kernel_rfl) (fun _ _ _ h => h) (Or.inl ⟨by rfl, ?_⟩) (by assumption) ?_
  rotate_left
  · (intro w hSw; (try dsimp only at hSw); go_simp; (try (with_reducible rfl)))
  try simp only [Act.put, List.setIfInBounds_toArray, List.set_cons_zero, List.set_cons_succ]
  refine wpAnyH_take (i := 5) (oi := { dst := some 11, op := Go.Op.load 3 (Go.Operand.tmp 10), type := 3, pos := "ident.go:37", after := #[{ on := 4, ground := Go.Ground.data }], guard := none }) (v := ?_) rfl (by kernel_rfl) (by kernel_rfl) (by kernel_rfl) (fun _ _ _ h => h) (Or.inl ⟨by rfl, ?_⟩) (by assumption) ?_
  rotate_left
  · (intro w hSw; (try dsimp only at hSw); go_simp; (try (with_reducible rfl)))
  try simp only [Act.put, List.setIfInBounds_toArray, List.set_cons_zero, List.set_cons_succ]
  refine wpAnyH_ready (rs := [2]) (by kernel_rfl) (by simp) ?_
  refine AllReadyH.cons (o := { dst := some 8, op := Go.Op.call { callee := Go.Callee.value (Go.Operand.func 39), args := #[Go.Operand.tmp 7], argTypes := #[3] }, type := 9, pos := "ident.go:37", after := #[{ on := 1, ground := Go.Ground.data }], guard := none }) rfl (fun K hK => ?_) AllReadyH.nil
  go_simp
  refine (hI1 _ hvc).out.mono ?_
  rintro e wA ⟨rfl, hbA⟩
  replace hcur := hcur.trans (hbA.mono hcur.size)
  replace hvc := hvc.below hbA
  refine hK.out _ _ (kk _ hcur) (fun hHeld => ?_)
  clear hK K
  try simp only [Act.put, List.setIfInBounds_toArray, List.set_cons_zero, List.set_cons_succ]
  refine wpAnyH_take (i := 3) (oi := { dst := some 9, op := Go.Op.binOp Go.BinOp.add 9 (Go.Operand.tmp 8) (Go.Operand.const (Go.Value.string { data := #[46] })) 9, type := 9, pos := "ident.go:37", after := #[{ on := 2, ground := Go.Ground.data }], guard := none }) (v := ?_) rfl (by kernel_rfl) (by kernel_rfl) (by kernel_rfl) (fun _ _ _ h => h) (Or.inl ⟨by rfl, ?_⟩) (by assumption) ?_
  rotate_left
  · (intro w hSw; (try dsimp only at hSw); go_simp; (try (with_reducible rfl)))
  try simp only [Act.put, List.setIfInBounds_toArray, List.set_cons_zero, List.set_cons_succ]
  refine wpAnyH_ready (rs := [6]) (by kernel_rfl) (by simp) ?_
  refine AllReadyH.cons (o := { dst := some 12, op := Go.Op.call { callee := Go.Callee.value (Go.Operand.func 39), args := #[Go.Operand.tmp 11], argTypes := #[3] }, type := 9, pos := "ident.go:37", after := #[{ on := 5, ground := Go.Ground.data }, { on := 2, ground := Go.Ground.chain }], guard := none }) rfl (fun K hK => ?_) AllReadyH.nil
  go_simp
  refine (hI2 _ hvc).out.mono ?_
  rintro e wB ⟨rfl, hbB⟩
  replace hcur := hcur.trans (hbB.mono hcur.size)
  replace hvc := hvc.below hbB
  refine hK.out _ _ (kk _ hcur) (fun hHeld => ?_)
  clear hK K
  try simp only [Act.put, List.setIfInBounds_toArray, List.set_cons_zero, List.set_cons_succ]
  refine wpAnyH_take (i := 7) (oi := { dst := some 13, op := Go.Op.binOp Go.BinOp.add 9 (Go.Operand.tmp 9) (Go.Operand.tmp 12) 9, type := 9, pos := "ident.go:37", after := #[{ on := 3, ground := Go.Ground.data }, { on := 6, ground := Go.Ground.data }], guard := none }) (v := ?_) rfl (by kernel_rfl) (by kernel_rfl) (by kernel_rfl) (fun _ _ _ h => h) (Or.inl ⟨by rfl, ?_⟩) (by assumption) ?_
  rotate_left
  · (intro w hSw; (try dsimp only at hSw); go_simp; (try (with_reducible rfl)))
  try simp only [Act.put, List.setIfInBounds_toArray, List.set_cons_zero, List.set_cons_succ]
  refine wpAnyH_take (i := 8) (oi := { dst := some 2, op := Go.Op.assign (Go.Operand.tmp 13), type := 9, pos := "ident.go:37", after := #[{ on := 7, ground := Go.Ground.data }, { on := 6, ground := Go.Ground.chain }, { on := 0, ground := Go.Ground.phase }, { on := 1, ground := Go.Ground.phase }, { on := 2, ground := Go.Ground.phase }, { on := 3, ground := Go.Ground.phase }, { on := 4, ground := Go.Ground.phase }, { on := 5, ground := Go.Ground.phase }, { on := 6, ground := Go.Ground.phase }, { on := 7, ground := Go.Ground.phase }], guard := none }) (v := ?_) rfl (by kernel_rfl) (by kernel_rfl) (by kernel_rfl) (fun _ _ _ h => h) (Or.inl ⟨by rfl, ?_⟩) (by assumption) ?_
  rotate_left
  · (intro w hSw; (try dsimp only at hSw); go_simp; (try (with_reducible rfl)))
  try simp only [Act.put, List.setIfInBounds_toArray, List.set_cons_zero, List.set_cons_succ]
  refine wpAnyH_done (by kernel_rfl) ?_ _
  all_goals
    go_wp2_with fail
    go_ret
    have hz := hfin _ (hb0.trans (hcur.mono (by rw [← hg]; exact hb0.size)))
    refine ⟨?_, by rw [hg]; exact hz.out.2⟩
    rw [← hz.out.1]
    rfl
theorem identText_any (a : Id) (w : World) (hv : Vs w) : Calls Tryd.prog 12 #[idV a] w fun e w' => e = .returned (.string (if idOk a then ⟨(idT a).toArray⟩ else ByteArray.empty)) ∧ Below w.heap.size w w' := by
  cases h : idOk a with
  | false => exact identText_no a h w
  | true =>
    have hR := idOk_iff.1 h
    obtain ⟨r, s⟩ := a
    obtain ⟨r, rfl⟩ : ∃ n : Nat, r = (n : Int) := ⟨r.toNat, by simp at hR; omega⟩
    obtain ⟨s, rfl⟩ : ∃ n : Nat, s = (n : Int) := ⟨s.toNat, by simp at hR; omega⟩
    exact identText_ok r s h w hv
set_option maxRecDepth 100000 in
set_option maxHeartbeats 1600000 in
theorem refText_any (r s : Nat) (hr : r < 9223372036854775808) (hs : s < 9223372036854775808) (w : World) : Calls Tryd.prog 15 #[idV ((r : Int), (s : Int))] w fun e w' => e = .returned (.string ⟨(idT ((r : Int), (s : Int))).toArray⟩) ∧ Below w.heap.size w w' := by
  have c0 : (w.alloc (.cells #[.int .i64 (r : Int), .int .i64 (s : Int)] 23)).cell? ⟨w.heap.size, 0, none⟩ = some (.int .i64 (r : Int)) := ((St.start w).blk #[.int .i64 (r : Int), .int .i64 (s : Int)] 23).blk_cell 0
  have c1 : (w.alloc (.cells #[.int .i64 (r : Int), .int .i64 (s : Int)] 23)).cell? ⟨w.heap.size, 1, none⟩ = some (.int .i64 (s : Int)) := ((St.start w).blk #[.int .i64 (r : Int), .int .i64 (s : Int)] 23).blk_cell 1
  have hb0 : Below w.heap.size w (w.alloc (.cells #[.int .i64 (r : Int), .int .i64 (s : Int)] 23)) := (Below.refl _ _).alloc (Nat.le_refl _) _
  have d1 := dec_len hr
  have d2 := dec_len hs
  have f1 : ¬ 9223372036854775807 < (Lib.decDigits r).length + 1 := by omega
  have f2 : ¬ 9223372036854775807 < (Lib.decDigits r).length + 1 + (Lib.decDigits s).length := by omega
  have hI1 := fun w' => Lib.hid (digits_any r hr w')
  have hI2 := fun w' => Lib.hid (digits_any s hs w')
  have hfin : ∀ w', Below w.heap.size w w' → Hid ((Ending.returned (.string (⟨(Lib.decDigits r).toArray⟩ ++ { data := #[46] } ++ ⟨(Lib.decDigits s).toArray⟩)) = Ending.returned (.string ⟨(idT ((r : Int), (s : Int))).toArray⟩)) ∧ Below w.heap.size w w') := fun w' hb => Lib.hid ⟨by
    rw [show ({ data := #[46] } : ByteArray) = ⟨([46] : List UInt8).toArray⟩ from rfl, ba_app, ba_app]
    simp [idT], hb⟩
  have hlt : w.heap.size < (w.alloc (.cells #[.int .i64 (r : Int), .int .i64 (s : Int)] 23)).heap.size := by simp
  go_enter Tryd.func15, Tryd.ntmps15
  go_wp2_with fail
  generalize (w.alloc (.cells #[.int .i64 (r : Int), .int .i64 (s : Int)] 23)) = w1 at *
  generalize hg : w.heap.size = gb at *
  have kk : ∀ w', Below w1.heap.size w1 w' → (w'.cell? ⟨gb, 0, none⟩ = some (.int .i64 (r : Int)) ∧ w'.cell? ⟨gb, 1, none⟩ = some (.int .i64 (s : Int))) := fun w' hb => ⟨by rw [hb.cell (p := ⟨gb, 0, none⟩) hlt]; exact c0, by rw [hb.cell (p := ⟨gb, 1, none⟩) hlt]; exact c1⟩
  have hcur := below_drew w1
  refine wp_region_held_drew (S := fun w' => w'.cell? ⟨gb, 0, none⟩ = some (.int .i64 (r : Int)) ∧ w'.cell? ⟨gb, 1, none⟩ = some (.int .i64 (s : Int))) (by kernel_rfl) (kk _ hcur) (fun hHeld => ?_)
  refine wpAnyH_take (i := 0) (oi := { dst := some 3, op := Go.Op.fieldAddr 23 (Go.Operand.tmp 1) 0, type := 0, pos := "ref.go:84", after := #[], guard := none }) (v := ?_) rfl (by kernel_rfl) (by kernel_rfl) (by kernel_rfl) (fun _ _ _ h => h) (Or.inl ⟨by rfl, ?_⟩) (by assumption) ?_
  rotate_left
  · (intro w hSw; (try dsimp only at hSw); go_simp; (try (with_reducible rfl)))
  try simp only [Act.put, List.setIfInBounds_toArray, List.set_cons_zero, List.set_cons_succ]
  refine wpAnyH_take (i := 1) (oi := { dst := some 4, op := Go.Op.load 3 (Go.Operand.tmp 3), type := 3, pos := "ref.go:84", after := #[{ on := 0, ground := Go.Ground.data }], guard := none }) (v := ?_) rfl (by kernel_rfl) (by kernel_rfl) (by kernel_rfl) (fun _ _ _ h => h) (Or.inl ⟨by rfl, ?_⟩) (by assumption) ?_
  rotate_left
  · (intro w hSw; (try dsimp only at hSw); go_simp; (try (with_reducible rfl)))
  try simp only [Act.put, List.setIfInBounds_toArray, List.set_cons_zero, List.set_cons_succ]
  refine wpAnyH_take (i := 4) (oi := { dst := some 7, op := Go.Op.fieldAddr 23 (Go.Operand.tmp 1) 1, type := 0, pos := "ref.go:84", after := #[], guard := none }) (v := ?_) rfl (by kernel_rfl) (by kernel_rfl) (by kernel_rfl) (fun _ _ _ h => h) (Or.inl ⟨by rfl, ?_⟩) (by assumption) ?_
  rotate_left
  · (intro w hSw; (try dsimp only at hSw); go_simp; (try (with_reducible rfl)))
  try simp only [Act.put, List.setIfInBounds_toArray, List.set_cons_zero, List.set_cons_succ]
  refine wpAnyH_take (i := 5) (oi := { dst := some 8, op := Go.Op.load 3 (Go.Operand.tmp 7), type := 3, pos := "ref.go:84", after := #[{ on := 4, ground := Go.Ground.data }], guard := none }) (v := ?_) rfl (by kernel_rfl) (by kernel_rfl) (by kernel_rfl) (fun _ _ _ h => h) (Or.inl ⟨by rfl, ?_⟩) (by assumption) ?_
  rotate_left
  · (intro w hSw; (try dsimp only at hSw); go_simp; (try (with_reducible rfl)))
  try simp only [Act.put, List.setIfInBounds_toArray, List.set_cons_zero, List.set_cons_succ]
  refine wpAnyH_ready (rs := [2]) (by kernel_rfl) (by simp) ?_
  refine AllReadyH.cons (o := { dst := some 5, op := Go.Op.call { callee := Go.Callee.value (Go.Operand.func 42), args := #[Go.Operand.tmp 4], argTypes := #[2] }, type := 9, pos := "ref.go:84", after := #[{ on := 1, ground := Go.Ground.data }], guard := none }) rfl (fun K hK => ?_) AllReadyH.nil
  go_simp
  refine (hI1 _).out.mono ?_
  rintro e wA ⟨rfl, hbA⟩
  replace hcur := hcur.trans (hbA.mono hcur.size)
  refine hK.out _ _ (kk _ hcur) (fun hHeld => ?_)
  clear hK K
  try simp only [Act.put, List.setIfInBounds_toArray, List.set_cons_zero, List.set_cons_succ]
  refine wpAnyH_take (i := 3) (oi := { dst := some 6, op := Go.Op.binOp Go.BinOp.add 9 (Go.Operand.tmp 5) (Go.Operand.const (Go.Value.string { data := #[46] })) 9, type := 9, pos := "ref.go:84", after := #[{ on := 2, ground := Go.Ground.data }], guard := none }) (v := ?_) rfl (by kernel_rfl) (by kernel_rfl) (by kernel_rfl) (fun _ _ _ h => h) (Or.inl ⟨by rfl, ?_⟩) (by assumption) ?_
  rotate_left
  · (intro w hSw; (try dsimp only at hSw); go_simp; (try (with_reducible rfl)))
  try simp only [Act.put, List.setIfInBounds_toArray, List.set_cons_zero, List.set_cons_succ]
  refine wpAnyH_ready (rs := [6]) (by kernel_rfl) (by simp) ?_
  refine AllReadyH.cons (o := { dst := some 9, op := Go.Op.call { callee := Go.Callee.value (Go.Operand.func 42), args := #[Go.Operand.tmp 8], argTypes := #[2] }, type := 9, pos := "ref.go:84", after := #[{ on := 5, ground := Go.Ground.data }, { on := 2, ground := Go.Ground.chain }], guard := none }) rfl (fun K hK => ?_) AllReadyH.nil
  go_simp
  refine (hI2 _).out.mono ?_
  rintro e wB ⟨rfl, hbB⟩
  replace hcur := hcur.trans (hbB.mono hcur.size)
  refine hK.out _ _ (kk _ hcur) (fun hHeld => ?_)
  clear hK K
  try simp only [Act.put, List.setIfInBounds_toArray, List.set_cons_zero, List.set_cons_succ]
  refine wpAnyH_take (i := 7) (oi := { dst := some 10, op := Go.Op.binOp Go.BinOp.add 9 (Go.Operand.tmp 6) (Go.Operand.tmp 9) 9, type := 9, pos := "ref.go:84", after := #[{ on := 3, ground := Go.Ground.data }, { on := 6, ground := Go.Ground.data }], guard := none }) (v := ?_) rfl (by kernel_rfl) (by kernel_rfl) (by kernel_rfl) (fun _ _ _ h => h) (Or.inl ⟨by rfl, ?_⟩) (by assumption) ?_
  rotate_left
  · (intro w hSw; (try dsimp only at hSw); go_simp; (try (with_reducible rfl)))
  try simp only [Act.put, List.setIfInBounds_toArray, List.set_cons_zero, List.set_cons_succ]
  refine wpAnyH_take (i := 8) (oi := { dst := some 2, op := Go.Op.assign (Go.Operand.tmp 10), type := 9, pos := "ref.go:84", after := #[{ on := 7, ground := Go.Ground.data }, { on := 6, ground := Go.Ground.chain }, { on := 0, ground := Go.Ground.phase }, { on := 1, ground := Go.Ground.phase }, { on := 2, ground := Go.Ground.phase }, { on := 3, ground := Go.Ground.phase }, { on := 4, ground := Go.Ground.phase }, { on := 5, ground := Go.Ground.phase }, { on := 6, ground := Go.Ground.phase }, { on := 7, ground := Go.Ground.phase }], guard := none }) (v := ?_) rfl (by kernel_rfl) (by kernel_rfl) (by kernel_rfl) (fun _ _ _ h => h) (Or.inl ⟨by rfl, ?_⟩) (by assumption) ?_
  rotate_left
  · (intro w hSw; (try dsimp only at hSw); go_simp; (try (with_reducible rfl)))
  try simp only [Act.put, List.setIfInBounds_toArray, List.set_cons_zero, List.set_cons_succ]
  refine wpAnyH_done (by kernel_rfl) ?_ _
  all_goals
    go_wp2_with fail
    go_ret
    have hz := hfin _ (hb0.trans (hcur.mono (by rw [← hg]; exact hb0.size)))
    refine ⟨?_, by rw [hg]; exact hz.out.2⟩
    rw [← hz.out.1]
    rfl
end Go.Proofs.YtohgcghobidfpaaDoor
