/- Reference 02: a number's digits (0 and above). -/
import Derived.Test.YtcbckeoalmjcoaaDoorIdTxt
set_option linter.unusedVariables false
set_option linter.unusedSimpArgs false
namespace Go.Proofs.YtcbckeoalmjcoaaDoor
open Go.RowKit Go.Cw
theorem ba_app (l m : List UInt8) : (⟨l.toArray⟩ : ByteArray) ++ ⟨m.toArray⟩ = ⟨(l ++ m).toArray⟩ := by
  apply ByteArray.ext
  rw [ByteArray.data_append]
  simp
abbrev tens : ByteArray := { data := #[48, 49, 50, 51, 52, 53, 54, 55, 56, 57] }
theorem tens_one : ∀ i : Fin 10, tens.extract i.val (i.val + 1) = ⟨#[UInt8.ofNat (48 + i.val)]⟩ := by decide +kernel
theorem tens_dec {u : Nat} (h : u < 10) : tens.extract u (u + 1) = ⟨(Lib.decDigits u).toArray⟩ := by
  rw [Lib.decDigits_one h]
  exact tens_one ⟨u, h⟩
theorem dec_len {u : Nat} (h : u < 9223372036854775808) : (Lib.decDigits u).length ≤ 19 := by
  rw [Lib.decDigits_length]
  exact nDigits_le (by omega) (by omega)
theorem below_drew (w : World) : Below w.heap.size w w.drew := bel_drewN (Below.refl _ _) 1
set_option maxRecDepth 100000 in
set_option maxHeartbeats 1600000 in
theorem digits_any (u : Nat) (hu : u < 9223372036854775808) (w : World) :
    Calls Tryd.prog 42 #[.int .i64 (u : Int)] w fun e w' => e = .returned (.string ⟨(Lib.decDigits u).toArray⟩) ∧ Below w.heap.size w w' := by
  induction u using Nat.strongRecOn generalizing w with
  | _ u ih =>
    by_cases h : u < 10
    · have h1 : ¬ (u : Int) < -9 := by omega
      have h2 : ¬ (u : Int) < 0 := by omega
      have h3 : (u : Int) < 10 := by omega
      have ht := tens_dec h
      go_enter Tryd.func42, Tryd.ntmps42
      go_wp2_with fail
      go_ret
      exact ⟨rfl, Below.refl _ _⟩
    · have h1 : ¬ (u : Int) < -9 := by omega
      have h2 : ¬ (u : Int) < 0 := by omega
      have h3 : ¬ (u : Int) < 10 := by omega
      have hE : Lib.decDigits u = Lib.decDigits (u / 10) ++ Lib.decDigits (u % 10) := by
        rw [Lib.decDigits_one (show u % 10 < 10 by omega)]
        exact (Lib.decDigits.eq_1 u).trans (dif_neg h)
      have ihq := fun w => ih (u / 10) (by omega) (by omega) w
      obtain ⟨q, hq⟩ : ∃ q, q = u / 10 := ⟨_, rfl⟩
      obtain ⟨d, hd⟩ : ∃ d, d = u % 10 := ⟨_, rfl⟩
      have e1 : IntKind.i64.wrap ((u : Int) / 10) = (q : Int) := by rw [IntKind.wrap_i64]; omega
      have e2 : (u : Int).tmod 10 = (d : Int) := by rw [hd, Int.tmod_eq_emod_of_nonneg (by omega)]; omega
      have hd10 : d < 10 := by omega
      have e3 : IntKind.i64.wrap ((d : Int) + 1) = (d : Int) + 1 := by rw [IntKind.wrap_i64]; omega
      have ht := tens_dec hd10
      have f1 : (d : Int) + 1 ≤ 10 := by omega
      have f2 : (0 : Int) ≤ (d : Int) + 1 := by omega
      have f4 : ¬ 9223372036854775807 < (Lib.decDigits q).length + (Lib.decDigits d).length := by
        have h5 := dec_len (show q < 9223372036854775808 by omega)
        have h6 := dec_len (show d < 9223372036854775808 by omega)
        omega
      have f3 : (d : Int) ≤ (d : Int) + 1 := by omega
      rw [← hq, ← hd] at hE
      rw [← hq] at ihq
      have hz : ∀ w', Below w.heap.size w w' → Hid ((Ending.returned (.string (⟨(Lib.decDigits q).toArray⟩ ++ ⟨(Lib.decDigits d).toArray⟩)) = Ending.returned (.string ⟨(Lib.decDigits u).toArray⟩)) ∧ Below w.heap.size w w') := fun w' hb => Lib.hid ⟨by rw [ba_app, hE], hb⟩
      replace ihq := Lib.hid ihq
      clear ih hE hq hd h1 h2
      have h1 : ¬ (u : Int) < -9 := by omega
      have h2 : ¬ (u : Int) < 0 := by omega
      go_enter Tryd.func42, Tryd.ntmps42
      go_wp2_with fail
      refine wp_region_held_drew (S := fun _ => True) (by kernel_rfl) trivial (fun hHeld => ?_)
      refine wpAnyH_take (i := 0) (oi := { dst := some 25, op := Go.Op.move (Go.Operand.tmp 0), type := 2, pos := "ref.go:18", after := #[], guard := none }) (v := ?_) rfl (by kernel_rfl) (by kernel_rfl) (by kernel_rfl) (fun _ _ _ h => h) (Or.inl ⟨by rfl, ?_⟩) (by assumption) ?_
      rotate_left
      · (intro w hSw; (try dsimp only at hSw); go_simp; (try (with_reducible rfl)))
      try simp only [Act.put, List.setIfInBounds_toArray, List.set_cons_zero, List.set_cons_succ]
      refine wpAnyH_take (i := 1) (oi := { dst := some 26, op := Go.Op.binOp Go.BinOp.quo 2 (Go.Operand.tmp 25) (Go.Operand.const (Go.Value.int Go.IntKind.i64 10)) 2, type := 2, pos := "ref.go:18", after := #[{ on := 0, ground := Go.Ground.data }], guard := none }) (v := ?_) rfl (by kernel_rfl) (by kernel_rfl) (by kernel_rfl) (fun _ _ _ h => h) (Or.inl ⟨by rfl, ?_⟩) (by assumption) ?_
      rotate_left
      · (intro w hSw; (try dsimp only at hSw); go_simp; (try (with_reducible rfl)))
      try simp only [Act.put, List.setIfInBounds_toArray, List.set_cons_zero, List.set_cons_succ]
      refine wpAnyH_take (i := 3) (oi := { dst := some 28, op := Go.Op.move (Go.Operand.tmp 0), type := 2, pos := "ref.go:18", after := #[], guard := none }) (v := ?_) rfl (by kernel_rfl) (by kernel_rfl) (by kernel_rfl) (fun _ _ _ h => h) (Or.inl ⟨by rfl, ?_⟩) (by assumption) ?_
      rotate_left
      · (intro w hSw; (try dsimp only at hSw); go_simp; (try (with_reducible rfl)))
      try simp only [Act.put, List.setIfInBounds_toArray, List.set_cons_zero, List.set_cons_succ]
      refine wpAnyH_take (i := 4) (oi := { dst := some 29, op := Go.Op.binOp Go.BinOp.rem 2 (Go.Operand.tmp 28) (Go.Operand.const (Go.Value.int Go.IntKind.i64 10)) 2, type := 2, pos := "ref.go:18", after := #[{ on := 3, ground := Go.Ground.data }], guard := none }) (v := ?_) rfl (by kernel_rfl) (by kernel_rfl) (by kernel_rfl) (fun _ _ _ h => h) (Or.inl ⟨by rfl, ?_⟩) (by assumption) ?_
      rotate_left
      · (intro w hSw; (try dsimp only at hSw); go_simp; (try (with_reducible rfl)))
      try simp only [Act.put, List.setIfInBounds_toArray, List.set_cons_zero, List.set_cons_succ]
      refine wpAnyH_take (i := 5) (oi := { dst := some 30, op := Go.Op.move (Go.Operand.tmp 0), type := 2, pos := "ref.go:18", after := #[], guard := none }) (v := ?_) rfl (by kernel_rfl) (by kernel_rfl) (by kernel_rfl) (fun _ _ _ h => h) (Or.inl ⟨by rfl, ?_⟩) (by assumption) ?_
      rotate_left
      · (intro w hSw; (try dsimp only at hSw); go_simp; (try (with_reducible rfl)))
      try simp only [Act.put, List.setIfInBounds_toArray, List.set_cons_zero, List.set_cons_succ]
      refine wpAnyH_take (i := 6) (oi := { dst := some 31, op := Go.Op.binOp Go.BinOp.rem 2 (Go.Operand.tmp 30) (Go.Operand.const (Go.Value.int Go.IntKind.i64 10)) 2, type := 2, pos := "ref.go:18", after := #[{ on := 5, ground := Go.Ground.data }], guard := none }) (v := ?_) rfl (by kernel_rfl) (by kernel_rfl) (by kernel_rfl) (fun _ _ _ h => h) (Or.inl ⟨by rfl, ?_⟩) (by assumption) ?_
      rotate_left
      · (intro w hSw; (try dsimp only at hSw); go_simp; (try (with_reducible rfl)))
      try simp only [Act.put, List.setIfInBounds_toArray, List.set_cons_zero, List.set_cons_succ]
      refine wpAnyH_take (i := 7) (oi := { dst := some 32, op := Go.Op.binOp Go.BinOp.add 2 (Go.Operand.tmp 31) (Go.Operand.const (Go.Value.int Go.IntKind.i64 1)) 2, type := 2, pos := "ref.go:18", after := #[{ on := 6, ground := Go.Ground.data }], guard := none }) (v := ?_) rfl (by kernel_rfl) (by kernel_rfl) (by kernel_rfl) (fun _ _ _ h => h) (Or.inl ⟨by rfl, ?_⟩) (by assumption) ?_
      rotate_left
      · (intro w hSw; (try dsimp only at hSw); go_simp; (try (with_reducible rfl)))
      try simp only [Act.put, List.setIfInBounds_toArray, List.set_cons_zero, List.set_cons_succ]
      refine wpAnyH_take (i := 8) (oi := { dst := some 33, op := Go.Op.slice 9 (Go.Operand.const (Go.Value.string { data := #[48, 49, 50, 51, 52, 53, 54, 55, 56, 57] })) (some (Go.Operand.tmp 29)) (some (Go.Operand.tmp 32)) none, type := 9, pos := "ref.go:18", after := #[{ on := 4, ground := Go.Ground.data }, { on := 7, ground := Go.Ground.data }], guard := none }) (v := ?_) rfl (by kernel_rfl) (by kernel_rfl) (by kernel_rfl) (fun _ _ _ h => h) (Or.inl ⟨by rfl, ?_⟩) (by assumption) ?_
      rotate_left
      · (intro w hSw; (try dsimp only at hSw); go_simp; (try (with_reducible rfl)))
      try simp only [Act.put, List.setIfInBounds_toArray, List.set_cons_zero, List.set_cons_succ]
      refine wpAnyH_ready (rs := [2]) (by kernel_rfl) (by simp) ?_
      refine AllReadyH.cons (o := { dst := some 27, op := Go.Op.call { callee := Go.Callee.value (Go.Operand.func 42), args := #[Go.Operand.tmp 26], argTypes := #[2] }, type := 9, pos := "ref.go:18", after := #[{ on := 1, ground := Go.Ground.data }], guard := none }) rfl (fun K hK => ?_) AllReadyH.nil
      go_simp
      refine (ihq.out _).mono ?_
      rintro e w2 ⟨rfl, hb2⟩
      refine hK.out _ _ trivial (fun hHeld2 => ?_)
      clear hK K hHeld
      try simp only [Act.put, List.setIfInBounds_toArray, List.set_cons_zero, List.set_cons_succ]
      refine wpAnyH_take (i := 9) (oi := { dst := some 34, op := Go.Op.binOp Go.BinOp.add 9 (Go.Operand.tmp 27) (Go.Operand.tmp 33) 9, type := 9, pos := "ref.go:18", after := #[{ on := 2, ground := Go.Ground.data }, { on := 8, ground := Go.Ground.data }], guard := none }) (v := ?_) rfl (by kernel_rfl) (by kernel_rfl) (by kernel_rfl) (fun _ _ _ h => h) (Or.inl ⟨by rfl, ?_⟩) (by assumption) ?_
      rotate_left
      · (intro w hSw; (try dsimp only at hSw); go_simp; (try (with_reducible rfl)))
      try simp only [Act.put, List.setIfInBounds_toArray, List.set_cons_zero, List.set_cons_succ]
      refine wpAnyH_take (i := 10) (oi := { dst := some 2, op := Go.Op.assign (Go.Operand.tmp 34), type := 9, pos := "ref.go:18", after := #[{ on := 9, ground := Go.Ground.data }, { on := 2, ground := Go.Ground.chain }, { on := 0, ground := Go.Ground.phase }, { on := 1, ground := Go.Ground.phase }, { on := 2, ground := Go.Ground.phase }, { on := 3, ground := Go.Ground.phase }, { on := 4, ground := Go.Ground.phase }, { on := 5, ground := Go.Ground.phase }, { on := 6, ground := Go.Ground.phase }, { on := 7, ground := Go.Ground.phase }, { on := 8, ground := Go.Ground.phase }, { on := 9, ground := Go.Ground.phase }], guard := none }) (v := ?_) rfl (by kernel_rfl) (by kernel_rfl) (by kernel_rfl) (fun _ _ _ h => h) (Or.inl ⟨by rfl, ?_⟩) (by assumption) ?_
      rotate_left
      · (intro w hSw; (try dsimp only at hSw); go_simp; (try (with_reducible rfl)))
      try simp only [Act.put, List.setIfInBounds_toArray, List.set_cons_zero, List.set_cons_succ]
      refine wpAnyH_done (by kernel_rfl) ?_ _
      go_wp2_with fail
      go_ret
      exact (hz _ ((below_drew w).trans hb2)).out
end Go.Proofs.YtcbckeoalmjcoaaDoor
