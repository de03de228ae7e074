/- The reference's logs. -/
import Derived.Test.YtelmhcbdpimaaaaWrit
set_option linter.unusedVariables false
set_option linter.unusedSimpArgs false
namespace Go.Proofs.Ytelmhcbdpimaaaa
open Go.RowKit Go.Cw Go.Fl
theorem eqIn_wr (e : Nat) (a b x c d y : Int) (w : World) : (Op.equalIn (e + 3) 107 (.agg #[.int .i64 a, .int .i64 b, .int .i64 x]) (.agg #[.int .i64 c, .int .i64 d, .int .i64 y])).run Try.prog w = .ok (idEq a b c d && x == y) w := by
  have u3 := Try.underlying3
  have a3 := Try.isAgg3
  have z3 := Try.sizeOf3
  have hS : Try.prog.underlying 107 = some (.struct (Try.prog.fieldsOf 107)) := by kernel_rfl
  have hp : Try.prog.stoodInHeld 107 = false := by kernel_rfl
  have hS2 : Try.prog.underlying 28 = some (.struct (Try.prog.fieldsOf 28)) := by kernel_rfl
  have hp2 : Try.prog.stoodInHeld 28 = false := by kernel_rfl
  have a4 := Try.isAgg28
  have z4 := Try.sizeOf28
  rw [show e + 3 = (e + 1 + 1) + 1 from rfl, run_equalIn_agg w _ 107 _ _ hS hp]
  simp only [Program.fieldsOf, Try.underlying107, idEq]
  have hI : ∀ w', (Op.equalIn (e + 1 + 1) 28 (.agg #[.int .i64 a, .int .i64 b]) (.agg #[.int .i64 c, .int .i64 d])).run Try.prog w' = .ok (a == c && b == d) w' := fun w' => by
    rw [run_equalIn_agg w' _ 28 _ _ hS2 hp2]
    simp only [Program.fieldsOf, Try.underlying28]
    go_simp
    by_cases h1 : a = c <;> by_cases h2 : b = d <;> simp [h1, h2]
  clear hS2 hp2
  go_simp
  by_cases h1 : a = c <;> by_cases h2 : b = d <;> by_cases h3 : x = y <;> simp [h1, h2, h3]
theorem neq_wr (a b x c d y : Int) (w : World) : (binOp .neq 107 (.agg #[.int .i64 a, .int .i64 b, .int .i64 x]) (.agg #[.int .i64 c, .int .i64 d, .int .i64 y])).run Try.prog w = .ok (.bool (!(idEq a b c d && x == y))) w := by
  rw [run_neq_struct, show (10000 : Nat) = 9997 + 3 from rfl, eqIn_wr]
  rfl
attribute [local go_sem ↓] eql_id neq_id neq_wr
attribute [local go_sem] run_store_float
theorem dec_wrs (xs ys : List Wr) (k : Nat) (h : k < xs.length) (h' : k < ys.length) : decide (xs.drop k = ys.drop k) = (decide (xs[k] = ys[k]) && decide (xs.drop (k + 1) = ys.drop (k + 1))) := by
  rw [List.drop_eq_getElem_cons h, List.drop_eq_getElem_cons h', Bool.eq_iff_iff]
  simp only [decide_eq_true_eq, Bool.and_eq_true, List.cons.injEq]
set_option maxRecDepth 100000 in
set_option maxHeartbeats 3200000 in
theorem sameLog_any (u v : Value) (xs ys : List Wr) (w : World) (hx : Rw w 3 u (wrl xs)) (hy : Rw w 3 v (wrl ys)) :
    Calls Try.prog 27 #[u, v] w fun e w' => e = .returned (.bool (decide (xs = ys))) ∧ Below w.heap.size w w' := by
  obtain ⟨A1, n1, c1, rfl, hn1, hc1, hc1'⟩ := hx.form
  obtain ⟨A2, n2, c2, rfl, hn2, hc2, hc2'⟩ := hy.form
  rw [wrl_len] at hn1 hn2
  obtain rfl : n1 = xs.length := by omega
  obtain rfl : n2 = ys.length := by omega
  clear hn1 hn2
  by_cases hlen : xs.length = ys.length
  · obtain ⟨G, hG⟩ : ∃ G, Hid (decide (xs.drop 0 = ys.drop 0) = G) := ⟨_, Lib.hid rfl⟩
    have hG2 : decide (xs = ys) = G := by rw [← hG.out]; simp
    rw [hG2]
    have hxr := hx.rd
    have hyr := hy.rd
    have hd := fun k h h' => dec_wrs xs ys k h h'
    replace hd := Lib.hid hd
    rw [← hlen] at hyr hc2 ⊢
    replace hlen := Lib.hid hlen
    clear hG2 hx hy
    go_enter Try.func27, Try.ntmps27
    go_wp2_with fail
    go_loopw [5] (fun i wr => ∃ k : Nat, k ≤ xs.length ∧ i = .int .i64 (k : Int) ∧ St (snap w) [] wr ∧ Env w wr ∧ Hid (decide (xs.drop k = ys.drop k) = G)) (fun i _ => xs.length - (intOf i).toNat)
    case atStart => exact ⟨0, by omega, by go_num, St.start w, Env.refl w, hG⟩
    case round =>
      clear hG
      obtain ⟨k, hk, rfl, hst, hen, hg⟩ := hrel
      by_cases hlt : k < xs.length
      · have hlt2 : k < ys.length := by rw [← hlen.out]; exact hlt
        obtain ⟨xb, xo, hA, hcx⟩ := rd_at hxr (by omega)
        cases hA
        obtain ⟨yb, yo, hA, hcy⟩ := rd_at hyr (by omega)
        cases hA
        obtain ⟨p0, p1, p2⟩ := wrl_get xs k hlt
        obtain ⟨q0, q1, q2⟩ := wrl_get ys k hlt2
        replace p0 := hcx _ _ p0
        replace p1 := hcx _ _ p1
        replace p2 := hcx _ _ p2
        replace q0 := hcy _ _ q0
        replace q1 := hcy _ _ q1
        replace q2 := hcy _ _ q2
        rw [← Nat.add_assoc] at p1 p2 q1 q2
        clear hcx hcy
        have hst2 := hd.out k hlt hlt2
        rw [hg.out] at hst2
        generalize xs[k] = x at *
        generalize ys[k] = y at *
        obtain ⟨⟨r, s⟩, a⟩ := x
        obtain ⟨⟨r', s'⟩, a'⟩ := y
        try simp only at p0 p1 p2 q0 q1 q2
        have kk : (fun w' : World => w'.cell? ⟨xb, xo + k * 3, none⟩ = some (.int .i64 r) ∧ w'.cell? ⟨xb, xo + k * 3 + 1, none⟩ = some (.int .i64 s) ∧ w'.cell? ⟨xb, xo + k * 3 + 2, none⟩ = some (.int .i64 a) ∧ w'.cell? ⟨yb, yo + k * 3, none⟩ = some (.int .i64 r') ∧ w'.cell? ⟨yb, yo + k * 3 + 1, none⟩ = some (.int .i64 s') ∧ w'.cell? ⟨yb, yo + k * 3 + 2, none⟩ = some (.int .i64 a')) wr.drew := ⟨hst.drew.cell p0, hst.drew.cell p1, hst.drew.cell p2, hst.drew.cell q0, hst.drew.cell q1, hst.drew.cell q2⟩
        have hk0 : (0 : Int) ≤ (k : Int) := by omega
        have hkl : (k : Int) < (xs.length : Int) := by omega
        by_cases h1 : ((r, s) : Id) = (r', s')
        · have hb1 := idEq_of h1
          try simp only at hb1
          by_cases h2 : a = a'
          · have hb2 : (a == a') = true := by simpa using h2
            have hgn : Hid (decide (xs.drop (k + 1) = ys.drop (k + 1)) = G) := Lib.hid (by rw [hst2, show decide (((r, s), a) = ((r', s'), a')) = true from decide_eq_true (by rw [h1, h2]), Bool.true_and])
            clear h1 h2 hst2 hg p0 p1 p2 q0 q1 q2
            go_wp2_with fail
            refine wp_region_held_drew (S := (fun w' : World => w'.cell? ⟨xb, xo + k * 3, none⟩ = some (.int .i64 r) ∧ w'.cell? ⟨xb, xo + k * 3 + 1, none⟩ = some (.int .i64 s) ∧ w'.cell? ⟨xb, xo + k * 3 + 2, none⟩ = some (.int .i64 a) ∧ w'.cell? ⟨yb, yo + k * 3, none⟩ = some (.int .i64 r') ∧ w'.cell? ⟨yb, yo + k * 3 + 1, none⟩ = some (.int .i64 s') ∧ w'.cell? ⟨yb, yo + k * 3 + 2, none⟩ = some (.int .i64 a'))) (by kernel_rfl) kk (fun hHeld => ?_)
            refine wpAnyH_take (i := 0) (oi := { dst := some 17, op := Go.Op.move (Go.Operand.tmp 0), type := 54, pos := "ref.go:95", after := #[], guard := none }) (v := ?_) rfl (by kernel_rfl) (by kernel_rfl) (by kernel_rfl) (fun _ _ _ h => h) (Or.inl ⟨by rfl, ?_⟩) (by assumption) ?_
            rotate_left
            · (intro w hSw; (try dsimp only at hSw); go_simp; (try (with_reducible rfl)))
            try simp only [Act.put, List.setIfInBounds_toArray, List.set_cons_zero, List.set_cons_succ]
            refine wpAnyH_take (i := 1) (oi := { dst := some 18, op := Go.Op.move (Go.Operand.tmp 5), type := 3, pos := "ref.go:95", after := #[], guard := none }) (v := ?_) rfl (by kernel_rfl) (by kernel_rfl) (by kernel_rfl) (fun _ _ _ h => h) (Or.inl ⟨by rfl, ?_⟩) (by assumption) ?_
            rotate_left
            · (intro w hSw; (try dsimp only at hSw); go_simp; (try (with_reducible rfl)))
            try simp only [Act.put, List.setIfInBounds_toArray, List.set_cons_zero, List.set_cons_succ]
            refine wpAnyH_take (i := 2) (oi := { dst := some 19, op := Go.Op.indexAddr 54 (Go.Operand.tmp 17) (Go.Operand.tmp 18), type := 0, pos := "ref.go:95", after := #[{ on := 0, ground := Go.Ground.data }, { on := 1, ground := Go.Ground.data }], guard := none }) (v := ?_) rfl (by kernel_rfl) (by kernel_rfl) (by kernel_rfl) (fun _ _ _ h => h) (Or.inl ⟨by rfl, ?_⟩) (by assumption) ?_
            rotate_left
            · (intro w hSw; (try dsimp only at hSw); go_simp; (try (with_reducible rfl)))
            try simp only [Act.put, List.setIfInBounds_toArray, List.set_cons_zero, List.set_cons_succ]
            refine wpAnyH_take (i := 3) (oi := { dst := some 20, op := Go.Op.load 107 (Go.Operand.tmp 19), type := 107, pos := "ref.go:95", after := #[{ on := 2, ground := Go.Ground.data }], guard := none }) (v := ?_) rfl (by kernel_rfl) (by kernel_rfl) (by kernel_rfl) (fun _ _ _ h => h) (Or.inl ⟨by rfl, ?_⟩) (by assumption) ?_
            rotate_left
            · (intro w hSw; (try dsimp only at hSw); go_simp; (try (with_reducible rfl)))
            try simp only [Act.put, List.setIfInBounds_toArray, List.set_cons_zero, List.set_cons_succ]
            refine wpAnyH_take (i := 4) (oi := { dst := some 21, op := Go.Op.move (Go.Operand.tmp 1), type := 54, pos := "ref.go:95", after := #[], guard := none }) (v := ?_) rfl (by kernel_rfl) (by kernel_rfl) (by kernel_rfl) (fun _ _ _ h => h) (Or.inl ⟨by rfl, ?_⟩) (by assumption) ?_
            rotate_left
            · (intro w hSw; (try dsimp only at hSw); go_simp; (try (with_reducible rfl)))
            try simp only [Act.put, List.setIfInBounds_toArray, List.set_cons_zero, List.set_cons_succ]
            refine wpAnyH_take (i := 5) (oi := { dst := some 22, op := Go.Op.move (Go.Operand.tmp 5), type := 3, pos := "ref.go:95", after := #[], guard := none }) (v := ?_) rfl (by kernel_rfl) (by kernel_rfl) (by kernel_rfl) (fun _ _ _ h => h) (Or.inl ⟨by rfl, ?_⟩) (by assumption) ?_
            rotate_left
            · (intro w hSw; (try dsimp only at hSw); go_simp; (try (with_reducible rfl)))
            try simp only [Act.put, List.setIfInBounds_toArray, List.set_cons_zero, List.set_cons_succ]
            refine wpAnyH_take (i := 6) (oi := { dst := some 23, op := Go.Op.indexAddr 54 (Go.Operand.tmp 21) (Go.Operand.tmp 22), type := 0, pos := "ref.go:95", after := #[{ on := 4, ground := Go.Ground.data }, { on := 5, ground := Go.Ground.data }], guard := none }) (v := ?_) rfl (by kernel_rfl) (by kernel_rfl) (by kernel_rfl) (fun _ _ _ h => h) (Or.inl ⟨by rfl, ?_⟩) (by assumption) ?_
            rotate_left
            · (intro w hSw; (try dsimp only at hSw); go_simp; (try (with_reducible rfl)))
            try simp only [Act.put, List.setIfInBounds_toArray, List.set_cons_zero, List.set_cons_succ]
            refine wpAnyH_take (i := 7) (oi := { dst := some 24, op := Go.Op.load 107 (Go.Operand.tmp 23), type := 107, pos := "ref.go:95", after := #[{ on := 6, ground := Go.Ground.data }], guard := none }) (v := ?_) rfl (by kernel_rfl) (by kernel_rfl) (by kernel_rfl) (fun _ _ _ h => h) (Or.inl ⟨by rfl, ?_⟩) (by assumption) ?_
            rotate_left
            · (intro w hSw; (try dsimp only at hSw); go_simp; (try (with_reducible rfl)))
            try simp only [Act.put, List.setIfInBounds_toArray, List.set_cons_zero, List.set_cons_succ]
            refine wpAnyH_take (i := 8) (oi := { dst := some 25, op := Go.Op.binOp Go.BinOp.neq 107 (Go.Operand.tmp 20) (Go.Operand.tmp 24) 107, type := 4, pos := "ref.go:95", after := #[{ on := 3, ground := Go.Ground.data }, { on := 7, ground := Go.Ground.data }], guard := none }) (v := ?_) rfl (by kernel_rfl) (by kernel_rfl) (by kernel_rfl) (fun _ _ _ h => h) (Or.inl ⟨by rfl, ?_⟩) (by assumption) ?_
            rotate_left
            · (intro w hSw; (try dsimp only at hSw); go_simp; (try (with_reducible rfl)))
            try simp only [Act.put, List.setIfInBounds_toArray, List.set_cons_zero, List.set_cons_succ]
            refine wpAnyH_done (by kernel_rfl) ?_ _
            clear hHeld kk hb1 hb2 hk0 hkl
            go_wp2_with fail
            go_roundw
            case rel => exact ⟨k + 1, by omega, by go_num, hst.drew, hen.drew, hgn⟩
            case measure => simp [intOf]; omega
          · have hb2 : (a == a') = false := by simpa using h2
            have hgn : Hid (G = false) := Lib.hid (by rw [hst2, show decide (((r, s), a) = ((r', s'), a')) = false from decide_eq_false (by simp [h2]), Bool.false_and])
            clear h1 h2 hst2 hg p0 p1 p2 q0 q1 q2
            go_wp2_with fail
            refine wp_region_held_drew (S := (fun w' : World => w'.cell? ⟨xb, xo + k * 3, none⟩ = some (.int .i64 r) ∧ w'.cell? ⟨xb, xo + k * 3 + 1, none⟩ = some (.int .i64 s) ∧ w'.cell? ⟨xb, xo + k * 3 + 2, none⟩ = some (.int .i64 a) ∧ w'.cell? ⟨yb, yo + k * 3, none⟩ = some (.int .i64 r') ∧ w'.cell? ⟨yb, yo + k * 3 + 1, none⟩ = some (.int .i64 s') ∧ w'.cell? ⟨yb, yo + k * 3 + 2, none⟩ = some (.int .i64 a'))) (by kernel_rfl) kk (fun hHeld => ?_)
            refine wpAnyH_take (i := 0) (oi := { dst := some 17, op := Go.Op.move (Go.Operand.tmp 0), type := 54, pos := "ref.go:95", after := #[], guard := none }) (v := ?_) rfl (by kernel_rfl) (by kernel_rfl) (by kernel_rfl) (fun _ _ _ h => h) (Or.inl ⟨by rfl, ?_⟩) (by assumption) ?_
            rotate_left
            · (intro w hSw; (try dsimp only at hSw); go_simp; (try (with_reducible rfl)))
            try simp only [Act.put, List.setIfInBounds_toArray, List.set_cons_zero, List.set_cons_succ]
            refine wpAnyH_take (i := 1) (oi := { dst := some 18, op := Go.Op.move (Go.Operand.tmp 5), type := 3, pos := "ref.go:95", after := #[], guard := none }) (v := ?_) rfl (by kernel_rfl) (by kernel_rfl) (by kernel_rfl) (fun _ _ _ h => h) (Or.inl ⟨by rfl, ?_⟩) (by assumption) ?_
            rotate_left
            · (intro w hSw; (try dsimp only at hSw); go_simp; (try (with_reducible rfl)))
            try simp only [Act.put, List.setIfInBounds_toArray, List.set_cons_zero, List.set_cons_succ]
            refine wpAnyH_take (i := 2) (oi := { dst := some 19, op := Go.Op.indexAddr 54 (Go.Operand.tmp 17) (Go.Operand.tmp 18), type := 0, pos := "ref.go:95", after := #[{ on := 0, ground := Go.Ground.data }, { on := 1, ground := Go.Ground.data }], guard := none }) (v := ?_) rfl (by kernel_rfl) (by kernel_rfl) (by kernel_rfl) (fun _ _ _ h => h) (Or.inl ⟨by rfl, ?_⟩) (by assumption) ?_
            rotate_left
            · (intro w hSw; (try dsimp only at hSw); go_simp; (try (with_reducible rfl)))
            try simp only [Act.put, List.setIfInBounds_toArray, List.set_cons_zero, List.set_cons_succ]
            refine wpAnyH_take (i := 3) (oi := { dst := some 20, op := Go.Op.load 107 (Go.Operand.tmp 19), type := 107, pos := "ref.go:95", after := #[{ on := 2, ground := Go.Ground.data }], guard := none }) (v := ?_) rfl (by kernel_rfl) (by kernel_rfl) (by kernel_rfl) (fun _ _ _ h => h) (Or.inl ⟨by rfl, ?_⟩) (by assumption) ?_
            rotate_left
            · (intro w hSw; (try dsimp only at hSw); go_simp; (try (with_reducible rfl)))
            try simp only [Act.put, List.setIfInBounds_toArray, List.set_cons_zero, List.set_cons_succ]
            refine wpAnyH_take (i := 4) (oi := { dst := some 21, op := Go.Op.move (Go.Operand.tmp 1), type := 54, pos := "ref.go:95", after := #[], guard := none }) (v := ?_) rfl (by kernel_rfl) (by kernel_rfl) (by kernel_rfl) (fun _ _ _ h => h) (Or.inl ⟨by rfl, ?_⟩) (by assumption) ?_
            rotate_left
            · (intro w hSw; (try dsimp only at hSw); go_simp; (try (with_reducible rfl)))
            try simp only [Act.put, List.setIfInBounds_toArray, List.set_cons_zero, List.set_cons_succ]
            refine wpAnyH_take (i := 5) (oi := { dst := some 22, op := Go.Op.move (Go.Operand.tmp 5), type := 3, pos := "ref.go:95", after := #[], guard := none }) (v := ?_) rfl (by kernel_rfl) (by kernel_rfl) (by kernel_rfl) (fun _ _ _ h => h) (Or.inl ⟨by rfl, ?_⟩) (by assumption) ?_
            rotate_left
            · (intro w hSw; (try dsimp only at hSw); go_simp; (try (with_reducible rfl)))
            try simp only [Act.put, List.setIfInBounds_toArray, List.set_cons_zero, List.set_cons_succ]
            refine wpAnyH_take (i := 6) (oi := { dst := some 23, op := Go.Op.indexAddr 54 (Go.Operand.tmp 21) (Go.Operand.tmp 22), type := 0, pos := "ref.go:95", after := #[{ on := 4, ground := Go.Ground.data }, { on := 5, ground := Go.Ground.data }], guard := none }) (v := ?_) rfl (by kernel_rfl) (by kernel_rfl) (by kernel_rfl) (fun _ _ _ h => h) (Or.inl ⟨by rfl, ?_⟩) (by assumption) ?_
            rotate_left
            · (intro w hSw; (try dsimp only at hSw); go_simp; (try (with_reducible rfl)))
            try simp only [Act.put, List.setIfInBounds_toArray, List.set_cons_zero, List.set_cons_succ]
            refine wpAnyH_take (i := 7) (oi := { dst := some 24, op := Go.Op.load 107 (Go.Operand.tmp 23), type := 107, pos := "ref.go:95", after := #[{ on := 6, ground := Go.Ground.data }], guard := none }) (v := ?_) rfl (by kernel_rfl) (by kernel_rfl) (by kernel_rfl) (fun _ _ _ h => h) (Or.inl ⟨by rfl, ?_⟩) (by assumption) ?_
            rotate_left
            · (intro w hSw; (try dsimp only at hSw); go_simp; (try (with_reducible rfl)))
            try simp only [Act.put, List.setIfInBounds_toArray, List.set_cons_zero, List.set_cons_succ]
            refine wpAnyH_take (i := 8) (oi := { dst := some 25, op := Go.Op.binOp Go.BinOp.neq 107 (Go.Operand.tmp 20) (Go.Operand.tmp 24) 107, type := 4, pos := "ref.go:95", after := #[{ on := 3, ground := Go.Ground.data }, { on := 7, ground := Go.Ground.data }], guard := none }) (v := ?_) rfl (by kernel_rfl) (by kernel_rfl) (by kernel_rfl) (fun _ _ _ h => h) (Or.inl ⟨by rfl, ?_⟩) (by assumption) ?_
            rotate_left
            · (intro w hSw; (try dsimp only at hSw); go_simp; (try (with_reducible rfl)))
            try simp only [Act.put, List.setIfInBounds_toArray, List.set_cons_zero, List.set_cons_succ]
            refine wpAnyH_done (by kernel_rfl) ?_ _
            clear hHeld kk
            go_wp2_with fail
            go_ret
            exact ⟨rb hgn.out.symm, hst.drew.toBelow hen.drew⟩
        · have hb1 := idEq_not h1
          try simp only at hb1
          have hgn : Hid (G = false) := Lib.hid (by rw [hst2, show decide (((r, s), a) = ((r', s'), a')) = false from decide_eq_false (by intro e; exact h1 (congrArg Prod.fst e)), Bool.false_and])
          clear h1 hst2 hg p0 p1 p2 q0 q1 q2
          go_wp2_with fail
          refine wp_region_held_drew (S := (fun w' : World => w'.cell? ⟨xb, xo + k * 3, none⟩ = some (.int .i64 r) ∧ w'.cell? ⟨xb, xo + k * 3 + 1, none⟩ = some (.int .i64 s) ∧ w'.cell? ⟨xb, xo + k * 3 + 2, none⟩ = some (.int .i64 a) ∧ w'.cell? ⟨yb, yo + k * 3, none⟩ = some (.int .i64 r') ∧ w'.cell? ⟨yb, yo + k * 3 + 1, none⟩ = some (.int .i64 s') ∧ w'.cell? ⟨yb, yo + k * 3 + 2, none⟩ = some (.int .i64 a'))) (by kernel_rfl) kk (fun hHeld => ?_)
          refine wpAnyH_take (i := 0) (oi := { dst := some 17, op := Go.Op.move (Go.Operand.tmp 0), type := 54, pos := "ref.go:95", after := #[], guard := none }) (v := ?_) rfl (by kernel_rfl) (by kernel_rfl) (by kernel_rfl) (fun _ _ _ h => h) (Or.inl ⟨by rfl, ?_⟩) (by assumption) ?_
          rotate_left
          · (intro w hSw; (try dsimp only at hSw); go_simp; (try (with_reducible rfl)))
          try simp only [Act.put, List.setIfInBounds_toArray, List.set_cons_zero, List.set_cons_succ]
          refine wpAnyH_take (i := 1) (oi := { dst := some 18, op := Go.Op.move (Go.Operand.tmp 5), type := 3, pos := "ref.go:95", after := #[], guard := none }) (v := ?_) rfl (by kernel_rfl) (by kernel_rfl) (by kernel_rfl) (fun _ _ _ h => h) (Or.inl ⟨by rfl, ?_⟩) (by assumption) ?_
          rotate_left
          · (intro w hSw; (try dsimp only at hSw); go_simp; (try (with_reducible rfl)))
          try simp only [Act.put, List.setIfInBounds_toArray, List.set_cons_zero, List.set_cons_succ]
          refine wpAnyH_take (i := 2) (oi := { dst := some 19, op := Go.Op.indexAddr 54 (Go.Operand.tmp 17) (Go.Operand.tmp 18), type := 0, pos := "ref.go:95", after := #[{ on := 0, ground := Go.Ground.data }, { on := 1, ground := Go.Ground.data }], guard := none }) (v := ?_) rfl (by kernel_rfl) (by kernel_rfl) (by kernel_rfl) (fun _ _ _ h => h) (Or.inl ⟨by rfl, ?_⟩) (by assumption) ?_
          rotate_left
          · (intro w hSw; (try dsimp only at hSw); go_simp; (try (with_reducible rfl)))
          try simp only [Act.put, List.setIfInBounds_toArray, List.set_cons_zero, List.set_cons_succ]
          refine wpAnyH_take (i := 3) (oi := { dst := some 20, op := Go.Op.load 107 (Go.Operand.tmp 19), type := 107, pos := "ref.go:95", after := #[{ on := 2, ground := Go.Ground.data }], guard := none }) (v := ?_) rfl (by kernel_rfl) (by kernel_rfl) (by kernel_rfl) (fun _ _ _ h => h) (Or.inl ⟨by rfl, ?_⟩) (by assumption) ?_
          rotate_left
          · (intro w hSw; (try dsimp only at hSw); go_simp; (try (with_reducible rfl)))
          try simp only [Act.put, List.setIfInBounds_toArray, List.set_cons_zero, List.set_cons_succ]
          refine wpAnyH_take (i := 4) (oi := { dst := some 21, op := Go.Op.move (Go.Operand.tmp 1), type := 54, pos := "ref.go:95", after := #[], guard := none }) (v := ?_) rfl (by kernel_rfl) (by kernel_rfl) (by kernel_rfl) (fun _ _ _ h => h) (Or.inl ⟨by rfl, ?_⟩) (by assumption) ?_
          rotate_left
          · (intro w hSw; (try dsimp only at hSw); go_simp; (try (with_reducible rfl)))
          try simp only [Act.put, List.setIfInBounds_toArray, List.set_cons_zero, List.set_cons_succ]
          refine wpAnyH_take (i := 5) (oi := { dst := some 22, op := Go.Op.move (Go.Operand.tmp 5), type := 3, pos := "ref.go:95", after := #[], guard := none }) (v := ?_) rfl (by kernel_rfl) (by kernel_rfl) (by kernel_rfl) (fun _ _ _ h => h) (Or.inl ⟨by rfl, ?_⟩) (by assumption) ?_
          rotate_left
          · (intro w hSw; (try dsimp only at hSw); go_simp; (try (with_reducible rfl)))
          try simp only [Act.put, List.setIfInBounds_toArray, List.set_cons_zero, List.set_cons_succ]
          refine wpAnyH_take (i := 6) (oi := { dst := some 23, op := Go.Op.indexAddr 54 (Go.Operand.tmp 21) (Go.Operand.tmp 22), type := 0, pos := "ref.go:95", after := #[{ on := 4, ground := Go.Ground.data }, { on := 5, ground := Go.Ground.data }], guard := none }) (v := ?_) rfl (by kernel_rfl) (by kernel_rfl) (by kernel_rfl) (fun _ _ _ h => h) (Or.inl ⟨by rfl, ?_⟩) (by assumption) ?_
          rotate_left
          · (intro w hSw; (try dsimp only at hSw); go_simp; (try (with_reducible rfl)))
          try simp only [Act.put, List.setIfInBounds_toArray, List.set_cons_zero, List.set_cons_succ]
          refine wpAnyH_take (i := 7) (oi := { dst := some 24, op := Go.Op.load 107 (Go.Operand.tmp 23), type := 107, pos := "ref.go:95", after := #[{ on := 6, ground := Go.Ground.data }], guard := none }) (v := ?_) rfl (by kernel_rfl) (by kernel_rfl) (by kernel_rfl) (fun _ _ _ h => h) (Or.inl ⟨by rfl, ?_⟩) (by assumption) ?_
          rotate_left
          · (intro w hSw; (try dsimp only at hSw); go_simp; (try (with_reducible rfl)))
          try simp only [Act.put, List.setIfInBounds_toArray, List.set_cons_zero, List.set_cons_succ]
          refine wpAnyH_take (i := 8) (oi := { dst := some 25, op := Go.Op.binOp Go.BinOp.neq 107 (Go.Operand.tmp 20) (Go.Operand.tmp 24) 107, type := 4, pos := "ref.go:95", after := #[{ on := 3, ground := Go.Ground.data }, { on := 7, ground := Go.Ground.data }], guard := none }) (v := ?_) rfl (by kernel_rfl) (by kernel_rfl) (by kernel_rfl) (fun _ _ _ h => h) (Or.inl ⟨by rfl, ?_⟩) (by assumption) ?_
          rotate_left
          · (intro w hSw; (try dsimp only at hSw); go_simp; (try (with_reducible rfl)))
          try simp only [Act.put, List.setIfInBounds_toArray, List.set_cons_zero, List.set_cons_succ]
          refine wpAnyH_done (by kernel_rfl) ?_ _
          clear hHeld kk
          go_wp2_with fail
          go_ret
          exact ⟨rb hgn.out.symm, hst.drew.toBelow hen.drew⟩
      · obtain rfl : k = xs.length := by omega
        have hgn : Hid (G = true) := Lib.hid (by rw [← hg.out, List.drop_length, List.drop_eq_nil_of_le (by rw [← hlen.out]; omega)]; rfl)
        go_wp2_with fail
        go_ret
        exact ⟨rb hgn.out.symm, hst.toBelow hen⟩
  · have hne : decide (xs = ys) = false := decide_eq_false (fun e => hlen (by rw [e]))
    rw [hne]
    have hl : ((xs.length : Int) != (ys.length : Int)) = true := by rw [bne_iff_ne]; omega
    have hl2 : (xs.length == ys.length) = false := by simpa using hlen
    clear hne hlen
    go_enter Try.func27, Try.ntmps27
    go_wp2_with fail
    go_ret
    exact ⟨rfl, Below.refl _ _⟩
/-- An item: an id, its batch. -/
abbrev It := Id × Value × List Cm
def itc (x : It) : List Value := [.int .i64 x.1.1, .int .i64 x.1.2, x.2.1]
def itl (l : List It) : List Value := l.flatMap itc
theorem itl_len (l : List It) : (itl l).length = l.length * 3 := flat_len itc 3 (fun _ => rfl) l
theorem itl_append (l m : List It) : itl (l ++ m) = itl l ++ itl m := by simp [itl, List.flatMap_append]
theorem itl_get (l : List It) (k : Nat) (h : k < l.length) : (itl l)[k * 3]? = some (.int .i64 l[k].1.1) ∧ (itl l)[k * 3 + 1]? = some (.int .i64 l[k].1.2) ∧ (itl l)[k * 3 + 2]? = some l[k].2.1 := by
  have f := fun j hj => flat_get itc 3 (fun _ => rfl) l k j h hj
  exact ⟨f 0 (by omega), f 1 (by omega), f 2 (by omega)⟩
theorem info_it : (Try.prog.info? 52).map (fun i => (i.zero, i.size, i.bytes)) = some (some (.agg #[.int .i64 0, .int .i64 0, .slice none 0 0]), 3, 40) := by kernel_rfl
structure ItD (H : Hp) (x : It) : Prop where
  b : Rd H 3 x.2.1 (cml x.2.2)
  ok : ∀ c ∈ x.2.2, CmW c
/-- The reference's log of a key. -/
def logAll (l : List It) (key : ByteArray) : List Wr := l.flatMap (fun x => (wrF key x.2.2 0).map (fun k => (x.1, k)))
set_option maxRecDepth 100000 in
set_option maxHeartbeats 6400000 in
theorem refLog_any (u : Value) (l : List It) (key : ByteArray) (H : Hp) (fr : List HA) (w : World) (h : St H fr w) (hu : Rd H 3 u (itl l)) (hd : ∀ x ∈ l, ItD H x) (hl : l.length ≤ 10000) (hb : ∀ x ∈ l, x.2.2.length ≤ 100) :
    Calls Try.prog 29 #[u, .string key] w fun e w' => ∃ v, e = .returned v ∧ St H (Row 107 3 v (wrl (logAll l key)) :: fr) w' ∧ Env w w' := by
  obtain ⟨A, n, c, rfl, hn, hnc, hc⟩ := hu.form
  rw [itl_len] at hn
  obtain rfl : n = l.length := by omega
  clear hn
  simp only [maxLen] at hc
  have h0 := h.row_lit 107 3 0 #[] rfl (by decide)
  have en0 := (Env.refl w).alloc (.cells #[] 107)
  replace hd := Lib.hid hd
  replace hb := Lib.hid hb
  go_enter Try.func29, Try.ntmps29
  go_wp2_with fail
  go_loopw [5, 6] (fun lv i wr => ∃ k : Nat, k ≤ l.length ∧ i = .int .i64 (k : Int) ∧ St H (Row 107 3 lv (wrl (logAll (l.take k) key)) :: fr) wr ∧ Env w wr ∧ (logAll (l.take k) key).length ≤ 100 * k) (fun _ i _ => l.length - (intOf i).toNat)
  case atStart => exact ⟨0, by omega, by go_num, by simpa [logAll, wrl] using h0, en0, by simp [logAll]⟩
  case round =>
    clear h0 h en0
    obtain ⟨k, hk, rfl, h1, en1, hlb⟩ := hrel
    obtain ⟨wo, rfl⟩ : ∃ wo : World, wo = wr := ⟨_, rfl⟩
    by_cases hlt : k < l.length
    · obtain ⟨ib, io, hA, hcr⟩ := rd_at hu (by omega)
      cases hA
      obtain ⟨p0, p1, p2⟩ := itl_get l k hlt
      replace p0 := hcr _ _ p0
      replace p1 := hcr _ _ p1
      replace p2 := hcr _ _ p2
      rw [← Nat.add_assoc] at p1 p2
      clear hcr
      have hstp : Hid (logAll (l.take (k + 1)) key = logAll (l.take k) key ++ (wrF key l[k].2.2 0).map (fun j => (l[k].1, j))) := Lib.hid (by
        unfold logAll
        rw [List.take_add_one, List.getElem?_eq_getElem hlt, List.flatMap_append]
        simp)
      have hxD := Lib.hid (hd.out l[k] (List.getElem_mem hlt))
      have hx100 := hb.out l[k] (List.getElem_mem hlt)
      generalize l[k] = x at *
      generalize logAll (l.take k) key = Q at *
      obtain ⟨b1, b2, b3, hbv, hb4, hb5, hb6⟩ := hxD.out.b.form
      obtain ⟨⟨r, s⟩, xb, B⟩ := x
      try simp only at p0 p1 p2 hbv hb4 hx100
      subst hbv
      rw [cml_len] at hb4
      obtain rfl : b2 = B.length := by omega
      simp only [maxLen] at hb6
      clear hb4
      go_wp2_with fail
      go_loopw [5, 7] (fun lv j wr => ∃ m : Nat, m ≤ B.length ∧ j = .int .i64 (m : Int) ∧ St H (Row 107 3 lv (wrl (Q ++ (wrF key (B.take m) 0).map (fun j => (((r, s) : Id), j)))) :: fr) wr ∧ Env w wr) (fun _ j _ => B.length - (intOf j).toNat)
      case atStart => exact ⟨0, by omega, by go_num, by simpa [wrF] using h1, en1⟩
      case round =>
        clear h1 en1
        obtain ⟨m, hm, rfl, hst, hen⟩ := hrel
        have i0 := hst.cell p0
        have i1 := hst.cell p1
        have i2 := hst.cell p2
        have il := World.block_lt_of_cell? _ _ i0
        by_cases hlt2 : m < B.length
        · obtain ⟨cb, co, hA, hcr⟩ := rd_at hxD.out.b (by omega)
          cases hA
          obtain ⟨q0, q1, q2⟩ := cml_get B m hlt2
          replace q0 := hcr _ _ q0
          replace q1 := hcr _ _ q1
          replace q2 := hcr _ _ q2
          rw [← Nat.add_assoc] at q1 q2
          clear hcr
          have f0 := hst.cell q0
          have f1 := hst.cell q1
          have f2 := hst.cell q2
          have fl := World.block_lt_of_cell? _ _ f0
          have hwt := wrF_take key B m hlt2
          have hwl := wrF_len key (B.take m) 0
          rw [List.length_take] at hwl
          have hR := fun w => right6_any B[m] (hxD.out.ok B[m] (List.getElem_mem hlt2)) w
          generalize wrF key (B.take m) 0 = P at *
          generalize B[m] = y at *
          obtain ⟨y0, y1, y2⟩ := y
          try simp only at q0 q1 q2 f0 f1 f2
          unfold wrOne cmWr at hwt
          try simp only at hwt
          by_cases hk1 : y1 = key
          · rw [decide_eq_true hk1, Bool.true_and] at hwt
            subst hk1
            cases hok : cmOk (y0, y1, y2) with
            | false =>
              rw [hok, Bool.false_and, if_neg (by simp), List.append_nil] at hwt
              simp only [hok] at hR
              replace hR := Lib.hid hR
              replace hwt := Lib.hid hwt
              clear hok
              go_wp2_with fail
              refine (hR.out _).mono ?_
              rintro e w2 ⟨rfl, hb2⟩
              go_wp2_with fail
              go_roundw
              case rel => exact ⟨m + 1, by omega, by go_num, by rw [hwt.out]; exact hst.below hb2, hen.trans (bel_env hb2)⟩
              case measure => simp [intOf]; omega
            | true =>
              rw [hok, Bool.true_and] at hwt
              simp only [hok] at hR
              replace hR := Lib.hid hR
              clear hok
              by_cases hk2 : y0 = 1
              · subst hk2
                rw [if_neg (by simp), List.append_nil] at hwt
                replace hwt := Lib.hid hwt
                go_wp2_with fail
                refine (hR.out _).mono ?_
                rintro e w2 ⟨rfl, hb2⟩
                have h2 := hst.below hb2
                clear i0 i1 i2 il f0 f1 f2 fl
                have i0 := h2.cell p0
                have i1 := h2.cell p1
                have i2 := h2.cell p2
                have il := World.block_lt_of_cell? _ _ i0
                have f0 := h2.cell q0
                have fl := World.block_lt_of_cell? _ _ f0
                go_wp2_with fail
                go_roundw
                case rel => exact ⟨m + 1, by omega, by go_num, by rw [hwt.out]; exact h2, hen.trans (bel_env hb2)⟩
                case measure => simp [intOf]; omega
              · rw [if_pos (by simpa using hk2)] at hwt
                have hk3 : (y0 != 1) = true := by simpa using hk2
                replace hwt := Lib.hid hwt
                clear hk2
                go_wp2_with fail
                refine (hR.out _).mono ?_
                rintro e w2 ⟨rfl, hb2⟩
                have h2 := hst.below hb2
                clear i0 i1 i2 il f0 f1 f2 fl
                have i0 := h2.cell p0
                have i1 := h2.cell p1
                have i2 := h2.cell p2
                have il := World.block_lt_of_cell? _ _ i0
                have f0 := h2.cell q0
                have fl := World.block_lt_of_cell? _ _ f0
                go_wp2_with (at_builtin; refine wpList_append rfl (.tmp 59) (.tmp 67) 54 54 rfl Try.underlying54 (.inl ⟨_, Try.underlying54⟩) (.agg #[.int .i64 0, .int .i64 0, .int .i64 0]) 24 info_wr rfl (by decide) (by decide) rfl rfl (h2.alloc _) (news_at _ _ 1 #[.int .i64 r, .int .i64 s, .int .i64 (m : Int)] rfl (by simp [Value.oneCell']) rfl) ?apB1 ?apK1)
                try case apB1 => first | omega | (simp; omega) | (simp [wrl_len]; omega) | skip
                intro v' w7 h7 en7
                go_wp2_with fail
                go_roundw
                case rel => exact ⟨m + 1, by omega, by go_num, by rw [hwt.out, List.map_append, ← List.append_assoc, wrl_append]; exact h7, ((hen.trans (bel_env hb2)).alloc _).trans en7⟩
                case measure => simp [intOf]; omega
          · rw [decide_eq_false hk1, Bool.false_and, if_neg (by simp), List.append_nil] at hwt
            have hkl : ¬ y1.toList = key.toList := fun h => hk1 (ba_ext h)
            replace hwt := Lib.hid hwt
            clear hR hk1
            go_wp2_with fail
            go_roundw
            case rel => exact ⟨m + 1, by omega, by go_num, by rw [hwt.out]; exact hst, hen⟩
            case measure => simp [intOf]; omega
        · obtain rfl : m = B.length := by omega
          rw [List.take_length] at hst
          have hwl := wrF_len key B 0
          try simp only at hstp
          generalize wrF key B 0 = T at *
          go_wp2_with fail
          go_roundw
          case rel => exact ⟨k + 1, by omega, by go_num, by rw [hstp.out]; exact hst, hen, by rw [hstp.out]; simp; omega⟩
          case measure => simp [intOf]; omega
    · obtain rfl : k = l.length := by omega
      rw [List.take_length] at h1
      go_wp2_with fail
      go_ret
      exact ⟨_, rfl, h1, en1⟩
end Go.Proofs.Ytelmhcbdpimaaaa
