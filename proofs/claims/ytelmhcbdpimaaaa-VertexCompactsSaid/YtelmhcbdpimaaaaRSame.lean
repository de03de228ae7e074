/- Whether two records are the same: the program's. -/
import Derived.Test.YtelmhcbdpimaaaaGraph
set_option linter.unusedVariables false
set_option linter.unusedSimpArgs false
namespace Go.Proofs.Ytelmhcbdpimaaaa
open Go.RowKit Go.Cw Go.Fl
attribute [local go_sem ↓] eql_id neq_id
attribute [local go_sem] run_store_float
set_option maxRecDepth 100000 in
set_option maxHeartbeats 1600000 in
theorem cmdSame_any (a b : Cm) (w : World) : Calls Try.prog 138 #[cmV a, cmV b] w fun e w' => e = .returned (.bool (cmSame a b)) ∧ Below w.heap.size w w' := by
  obtain ⟨k, s, n⟩ := a
  obtain ⟨k', s', n'⟩ := b
  have hS := fun w => realSame_any n n' w
  replace hS := Lib.hid hS
  have bel := ((Below.refl w.heap.size w).alloc (Nat.le_refl _) (.cells #[.int .i64 k, .string s, .float .f64 n] 90)).alloc (by simp) (.cells #[.int .i64 k', .string s', .float .f64 n'] 90)
  by_cases h1 : k = k'
  · subst h1
    by_cases h2 : s = s'
    · subst h2
      have hR : Hid (cmSame (k, s, n) (k, s, n') = decide (bitsOf n = bitsOf n')) := Lib.hid (by unfold cmSame; simp)
      go_enter Try.func138, Try.ntmps138
      go_wp2_with fail
      refine (hS.out _).mono ?_
      rintro e w1 ⟨rfl, rfl⟩
      go_wp2_with fail
      go_ret
      exact ⟨rb hR.out.symm, bel⟩
    · have hR : Hid (cmSame (k, s, n) (k, s', n') = false) := Lib.hid (by unfold cmSame; simp [h2])
      have b2 : ¬ s.toList = s'.toList := fun h => h2 (ba_ext h)
      clear h2
      go_enter Try.func138, Try.ntmps138
      go_wp2_with fail
      go_ret
      exact ⟨rb hR.out.symm, bel⟩
  · have hR : Hid (cmSame (k, s, n) (k', s', n') = false) := Lib.hid (by unfold cmSame; simp [h1])
    have b1 : (k == k') = false := by simpa using h1
    go_enter Try.func138, Try.ntmps138
    go_wp2_with fail
    go_ret
    exact ⟨rb hR.out.symm, bel⟩
set_option maxRecDepth 100000 in
set_option maxHeartbeats 3200000 in
theorem eqFuncCm_any (u v : Value) (xs ys : List Cm) (w : World) (hx : Rw w 3 u (cml xs)) (hy : Rw w 3 v (cml ys)) :
    Calls Try.prog 137 #[u, v, .func (.func 138) #[] #[]] w fun e w' => e = .returned (.bool (cmdsSame xs ys)) ∧ Below w.heap.size w w' := by
  obtain ⟨A, n, c, rfl, hl, hnc, hcM⟩ := hx.form
  rw [cml_len] at hl
  obtain rfl : n = xs.length := by omega
  obtain ⟨A', n', c', rfl, hl', hnc', hcM'⟩ := hy.form
  rw [cml_len] at hl'
  obtain rfl : n' = ys.length := by omega
  clear hl hl'
  have eg : ∀ args w, (callFunc 138 args).run Try.prog w = .ok (.enter 138 args) w := enters_of Try.func138 (by kernel_rfl) rfl
  by_cases hlen : xs.length = ys.length
  · have hR : cmdsSame xs ys = (xs.zip ys).all (fun p => cmSame p.1 p.2) := by unfold cmdsSame; rw [decide_eq_true hlen, Bool.true_and]
    rw [hR]
    clear hR
    have hrx := hx.rd
    have hry := hy.rd
    generalize hG : (xs.zip ys).all (fun p => cmSame p.1 p.2) = G at *
    replace hG := Lib.hid hG
    rw [← hlen] at hry hnc' ⊢
    replace hlen := Lib.hid hlen
    clear hx hy
    go_enter Try.func137, Try.ntmps137
    go_wp2_with fail
    go_loopw [17] (fun s5 wr => ∃ k : Nat, k ≤ xs.length ∧ s5 = .int .i64 (k : Int) ∧ St (snap w) [] wr ∧ Env w wr ∧ Hid (((xs.drop k).zip (ys.drop k)).all (fun p => cmSame p.1 p.2) = G)) (fun s5 _ => xs.length - (intOf s5).toNat)
    case atStart => exact ⟨0, by omega, rfl, St.start w, Env.refl w, hG⟩
    case round =>
      obtain ⟨k, hk, rfl, hst, hen, hall⟩ := hrel
      clear hG
      by_cases hlt : k < xs.length
      · have hlt2 : k < ys.length := by rw [← hlen.out]; exact hlt
        obtain ⟨b, off, rfl, hcx⟩ := hrx.cells hst (by omega)
        obtain ⟨b', off', rfl, hcy⟩ := hry.cells hst (by omega)
        have q0 := hcx _ _ (cml_get xs k hlt).1
        have q1 := hcx _ _ (cml_get xs k hlt).2.1
        have q2 := hcx _ _ (cml_get xs k hlt).2.2
        have r0 := hcy _ _ (cml_get ys k hlt2).1
        have r1 := hcy _ _ (cml_get ys k hlt2).2.1
        have r2 := hcy _ _ (cml_get ys k hlt2).2.2
        rw [← Nat.add_assoc] at q1 q2 r1 r2
        clear hcx hcy
        have hst2 := hall.out
        rw [zip_step xs ys k hlt hlt2] at hst2
        have ql := World.block_lt_of_cell? _ _ q0
        have rl := World.block_lt_of_cell? _ _ r0
        have hC := fun w => cmdSame_any xs[k] ys[k] w
        generalize xs[k] = x at *
        generalize ys[k] = y at *
        obtain ⟨x0, x1, x2⟩ := x
        obtain ⟨y0, y1, y2⟩ := y
        try simp only at q0 q1 q2 r0 r1 r2 hst2
        obtain ⟨H1, l1, h1, a⟩ := hst.box #[.int .i64 x0, .string x1, .float .f64 x2] 90
        obtain ⟨H2, l2, h2, z⟩ := h1.box #[.int .i64 y0, .string y1, .float .f64 y2] 90
        have e1 : (wr.alloc (.cells #[.int .i64 x0, .string x1, .float .f64 x2] 90)).heap.size = wr.heap.size + 1 := by simp
        rw [e1] at z
        have en2 := (hen.alloc (.cells #[.int .i64 x0, .string x1, .float .f64 x2] 90)).alloc (.cells #[.int .i64 y0, .string y1, .float .f64 y2] 90)
        have a0 := h2.cell (Hp.cell_le l2 (a 0 _ rfl))
        have a1 := h2.cell (Hp.cell_le l2 (a 1 _ rfl))
        have a2 := h2.cell (Hp.cell_le l2 (a 2 _ rfl))
        have z0 := h2.cell (z 0 _ rfl)
        have z1 := h2.cell (z 1 _ rfl)
        have z2 := h2.cell (z 2 _ rfl)
        have al := World.block_lt_of_cell? _ _ a0
        have zl := World.block_lt_of_cell? _ _ z0
        clear a z h1 e1
        cases hok : cmSame (x0, x1, x2) (y0, y1, y2) with
        | false =>
          rw [hok, Bool.false_and] at hst2
          simp only [hok] at hC
          replace hC := Lib.hid hC
          replace hst2 := Lib.hid hst2
          clear hok
          go_wp2_with fail
          refine (hC.out _).mono ?_
          rintro e w2 ⟨rfl, hb2⟩
          go_wp2_with fail
          go_ret
          exact ⟨rb hst2.out, ((h2.below hb2).weaken (Hp.le_trans l1 l2)).toBelow (en2.trans (bel_env hb2))⟩
        | true =>
          rw [hok, Bool.true_and] at hst2
          simp only [hok] at hC
          replace hC := Lib.hid hC
          replace hst2 := Lib.hid hst2
          clear hok
          go_wp2_with fail
          refine (hC.out _).mono ?_
          rintro e w2 ⟨rfl, hb2⟩
          go_wp2_with fail
          go_roundw
          case rel => exact ⟨k + 1, by omega, by go_num, (h2.below hb2).weaken (Hp.le_trans l1 l2), en2.trans (bel_env hb2), hst2⟩
          case measure => simp [intOf]; omega
      · obtain rfl : k = xs.length := by omega
        have hg : Hid (G = true) := Lib.hid (by rw [← hall.out, List.drop_length]; rfl)
        go_wp2_with fail
        go_ret
        exact ⟨rb hg.out.symm, hst.toBelow hen⟩
  · have hR : cmdsSame xs ys = false := by unfold cmdsSame; rw [decide_eq_false hlen, Bool.false_and]
    rw [hR]
    have hl : ((xs.length : Int) != (ys.length : Int)) = true := by rw [bne_iff_ne]; omega
    have hl2 : (xs.length == ys.length) = false := by simpa using hlen
    clear hR hlen
    go_enter Try.func137, Try.ntmps137
    go_wp2_with fail
    go_ret
    exact ⟨rfl, Below.refl _ _⟩
set_option maxRecDepth 100000 in
set_option maxHeartbeats 800000 in
theorem batSame_any (u v : Value) (xs ys : List Cm) (w : World) (hx : Rw w 3 u (cml xs)) (hy : Rw w 3 v (cml ys)) :
    Calls Try.prog 113 #[u, v] w fun e w' => e = .returned (.bool (cmdsSame xs ys)) ∧ Below w.heap.size w w' := by
  have hE := eqFuncCm_any u v xs ys w hx hy
  obtain ⟨A, n, c, rfl, -⟩ := hx.form
  obtain ⟨A', n', c', rfl, -⟩ := hy.form
  replace hE := Lib.hid hE
  clear hx hy
  go_enter Try.func113, Try.ntmps113
  go_wp2_with fail
  refine hE.out.mono ?_
  rintro e w2 ⟨rfl, hb2⟩
  go_wp2_with fail
  go_ret
  exact ⟨rfl, hb2⟩
set_option maxRecDepth 100000 in
set_option maxHeartbeats 3200000 in
theorem equalIds_any (u v : Value) (xs ys : List Id) (w : World) (hx : Rw w 2 u (idl xs)) (hy : Rw w 2 v (idl ys)) :
    Calls Try.prog 112 #[u, v] w fun e w' => e = .returned (.bool (decide (xs = ys))) ∧ Below w.heap.size w w' := by
  obtain ⟨A1, n1, c1, rfl, hn1, hc1, hc1'⟩ := hx.form
  obtain ⟨A2, n2, c2, rfl, hn2, hc2, hc2'⟩ := hy.form
  rw [idl_len] at hn1 hn2
  obtain rfl : n1 = xs.length := by omega
  obtain rfl : n2 = ys.length := by omega
  clear hn1 hn2
  by_cases hlen : xs.length = ys.length
  · obtain ⟨G, hG⟩ : ∃ G, Hid (decide (xs.drop 0 = ys.drop 0) = G) := ⟨_, Lib.hid rfl⟩
    have hG2 : decide (xs = ys) = G := by rw [← hG.out]; simp
    rw [hG2]
    have hxr := hx.rd
    have hyr := hy.rd
    have hd := fun k h h' => dec_ids xs ys k h h'
    replace hd := Lib.hid hd
    rw [← hlen] at hyr hc2 ⊢
    replace hlen := Lib.hid hlen
    clear hG2 hx hy
    go_enter Try.func112, Try.ntmps112
    go_wp2_with fail
    go_loopw [13] (fun i wr => ∃ k : Nat, k ≤ xs.length ∧ i = .int .i64 (k : Int) ∧ St (snap w) [] wr ∧ Env w wr ∧ Hid (decide (xs.drop k = ys.drop k) = G)) (fun i _ => xs.length - (intOf i).toNat)
    case atStart => exact ⟨0, by omega, by go_num, St.start w, Env.refl w, hG⟩
    case round =>
      clear hG
      obtain ⟨k, hk, rfl, hst, hen, hg⟩ := hrel
      by_cases hlt : k < xs.length
      · have hlt2 : k < ys.length := by rw [← hlen.out]; exact hlt
        obtain ⟨xb, xo, hA, hcx⟩ := rd_at hxr (by omega)
        cases hA
        obtain ⟨yb, yo, hA, hcy⟩ := rd_at hyr (by omega)
        cases hA
        have p0 := hcx _ _ (idl_fst xs k hlt)
        have p1 := hcx _ _ (idl_snd xs k hlt)
        have q0 := hcy _ _ (idl_fst ys k hlt2)
        have q1 := hcy _ _ (idl_snd ys k hlt2)
        rw [← Nat.add_assoc] at p1 q1
        clear hcx hcy
        have hst2 := hd.out k hlt hlt2
        rw [hg.out] at hst2
        generalize xs[k] = x at *
        generalize ys[k] = y at *
        have kk : (fun w' : World => w'.cell? ⟨xb, xo + k * 2, none⟩ = some (.int .i64 x.1) ∧ w'.cell? ⟨xb, xo + k * 2 + 1, none⟩ = some (.int .i64 x.2) ∧ w'.cell? ⟨yb, yo + k * 2, none⟩ = some (.int .i64 y.1) ∧ w'.cell? ⟨yb, yo + k * 2 + 1, none⟩ = some (.int .i64 y.2)) wr.drew := ⟨hst.drew.cell p0, hst.drew.cell p1, hst.drew.cell q0, hst.drew.cell q1⟩
        have hk0 : (0 : Int) ≤ (k : Int) := by omega
        have hkl : (k : Int) < (xs.length : Int) := by omega
        by_cases h1 : x = y
        · have hb1 := idEq_of h1
          have hgn : Hid (decide (xs.drop (k + 1) = ys.drop (k + 1)) = G) := Lib.hid (by rw [hst2, show decide (x = y) = true from decide_eq_true h1, Bool.true_and])
          replace h1 := Lib.hid h1
          clear hst2 hg p0 p1 q0 q1
          obtain ⟨r, s⟩ := x
          obtain ⟨r', s'⟩ := y
          try simp only at hb1 kk
          go_wp2_with fail
          refine wp_region_held_drew (S := fun w' : World => w'.cell? ⟨xb, xo + k * 2, none⟩ = some (.int .i64 r) ∧ w'.cell? ⟨xb, xo + k * 2 + 1, none⟩ = some (.int .i64 s) ∧ w'.cell? ⟨yb, yo + k * 2, none⟩ = some (.int .i64 r') ∧ w'.cell? ⟨yb, yo + k * 2 + 1, none⟩ = some (.int .i64 s')) (by kernel_rfl) kk (fun hHeld => ?_)
          refine wpAnyH_take (i := 0) (oi := { dst := some 16, op := Go.Op.move (Go.Operand.tmp 0), type := 29, pos := "slices.go:25", after := #[], guard := none }) (v := ?_) rfl (by kernel_rfl) (by kernel_rfl) (by kernel_rfl) (fun _ _ _ h => h) (Or.inl ⟨by rfl, ?_⟩) (by assumption) ?_
          rotate_left
          · (intro w hSw; (try dsimp only at hSw); go_simp; (try (with_reducible rfl)))
          try simp only [Act.put, List.setIfInBounds_toArray, List.set_cons_zero, List.set_cons_succ]
          refine wpAnyH_take (i := 1) (oi := { dst := some 17, op := Go.Op.move (Go.Operand.tmp 5), type := 3, pos := "slices.go:25", after := #[], guard := none }) (v := ?_) rfl (by kernel_rfl) (by kernel_rfl) (by kernel_rfl) (fun _ _ _ h => h) (Or.inl ⟨by rfl, ?_⟩) (by assumption) ?_
          rotate_left
          · (intro w hSw; (try dsimp only at hSw); go_simp; (try (with_reducible rfl)))
          try simp only [Act.put, List.setIfInBounds_toArray, List.set_cons_zero, List.set_cons_succ]
          refine wpAnyH_take (i := 2) (oi := { dst := some 18, op := Go.Op.indexAddr 29 (Go.Operand.tmp 16) (Go.Operand.tmp 17), type := 0, pos := "slices.go:25", after := #[{ on := 0, ground := Go.Ground.data }, { on := 1, ground := Go.Ground.data }], guard := none }) (v := ?_) rfl (by kernel_rfl) (by kernel_rfl) (by kernel_rfl) (fun _ _ _ h => h) (Or.inl ⟨by rfl, ?_⟩) (by assumption) ?_
          rotate_left
          · (intro w hSw; (try dsimp only at hSw); go_simp; (try (with_reducible rfl)))
          try simp only [Act.put, List.setIfInBounds_toArray, List.set_cons_zero, List.set_cons_succ]
          refine wpAnyH_take (i := 3) (oi := { dst := some 19, op := Go.Op.load 28 (Go.Operand.tmp 18), type := 28, pos := "slices.go:25", after := #[{ on := 2, ground := Go.Ground.data }], guard := none }) (v := ?_) rfl (by kernel_rfl) (by kernel_rfl) (by kernel_rfl) (fun _ _ _ h => h) (Or.inl ⟨by rfl, ?_⟩) (by assumption) ?_
          rotate_left
          · (intro w hSw; (try dsimp only at hSw); go_simp; (try (with_reducible rfl)))
          try simp only [Act.put, List.setIfInBounds_toArray, List.set_cons_zero, List.set_cons_succ]
          refine wpAnyH_take (i := 4) (oi := { dst := some 20, op := Go.Op.move (Go.Operand.tmp 1), type := 29, pos := "slices.go:25", after := #[], guard := none }) (v := ?_) rfl (by kernel_rfl) (by kernel_rfl) (by kernel_rfl) (fun _ _ _ h => h) (Or.inl ⟨by rfl, ?_⟩) (by assumption) ?_
          rotate_left
          · (intro w hSw; (try dsimp only at hSw); go_simp; (try (with_reducible rfl)))
          try simp only [Act.put, List.setIfInBounds_toArray, List.set_cons_zero, List.set_cons_succ]
          refine wpAnyH_take (i := 5) (oi := { dst := some 21, op := Go.Op.move (Go.Operand.tmp 5), type := 3, pos := "slices.go:25", after := #[], guard := none }) (v := ?_) rfl (by kernel_rfl) (by kernel_rfl) (by kernel_rfl) (fun _ _ _ h => h) (Or.inl ⟨by rfl, ?_⟩) (by assumption) ?_
          rotate_left
          · (intro w hSw; (try dsimp only at hSw); go_simp; (try (with_reducible rfl)))
          try simp only [Act.put, List.setIfInBounds_toArray, List.set_cons_zero, List.set_cons_succ]
          refine wpAnyH_take (i := 6) (oi := { dst := some 22, op := Go.Op.indexAddr 29 (Go.Operand.tmp 20) (Go.Operand.tmp 21), type := 0, pos := "slices.go:25", after := #[{ on := 4, ground := Go.Ground.data }, { on := 5, ground := Go.Ground.data }], guard := none }) (v := ?_) rfl (by kernel_rfl) (by kernel_rfl) (by kernel_rfl) (fun _ _ _ h => h) (Or.inl ⟨by rfl, ?_⟩) (by assumption) ?_
          rotate_left
          · (intro w hSw; (try dsimp only at hSw); go_simp; (try (with_reducible rfl)))
          try simp only [Act.put, List.setIfInBounds_toArray, List.set_cons_zero, List.set_cons_succ]
          refine wpAnyH_take (i := 7) (oi := { dst := some 23, op := Go.Op.load 28 (Go.Operand.tmp 22), type := 28, pos := "slices.go:25", after := #[{ on := 6, ground := Go.Ground.data }], guard := none }) (v := ?_) rfl (by kernel_rfl) (by kernel_rfl) (by kernel_rfl) (fun _ _ _ h => h) (Or.inl ⟨by rfl, ?_⟩) (by assumption) ?_
          rotate_left
          · (intro w hSw; (try dsimp only at hSw); go_simp; (try (with_reducible rfl)))
          try simp only [Act.put, List.setIfInBounds_toArray, List.set_cons_zero, List.set_cons_succ]
          refine wpAnyH_take (i := 8) (oi := { dst := some 24, op := Go.Op.binOp Go.BinOp.neq 28 (Go.Operand.tmp 19) (Go.Operand.tmp 23) 28, type := 4, pos := "slices.go:25", after := #[{ on := 3, ground := Go.Ground.data }, { on := 7, ground := Go.Ground.data }], guard := none }) (v := ?_) rfl (by kernel_rfl) (by kernel_rfl) (by kernel_rfl) (fun _ _ _ h => h) (Or.inl ⟨by rfl, ?_⟩) (by assumption) ?_
          rotate_left
          · (intro w hSw; (try dsimp only at hSw); go_simp; (try (with_reducible rfl)))
          try simp only [Act.put, List.setIfInBounds_toArray, List.set_cons_zero, List.set_cons_succ]
          refine wpAnyH_done (by kernel_rfl) ?_ _
          clear hHeld kk hb1 hk0 hkl
          go_wp2_with fail
          go_roundw
          case rel => exact ⟨k + 1, by omega, by go_num, hst.drew, hen.drew, hgn⟩
          case measure => simp [intOf]; omega
        · have hb1 := idEq_not h1
          have hgn : Hid (G = false) := Lib.hid (by rw [hst2, show decide (x = y) = false from decide_eq_false h1, Bool.false_and])
          clear hst2 hg p0 p1 q0 q1 h1
          obtain ⟨r, s⟩ := x
          obtain ⟨r', s'⟩ := y
          try simp only at hb1 kk
          go_wp2_with fail
          refine wp_region_held_drew (S := fun w' : World => w'.cell? ⟨xb, xo + k * 2, none⟩ = some (.int .i64 r) ∧ w'.cell? ⟨xb, xo + k * 2 + 1, none⟩ = some (.int .i64 s) ∧ w'.cell? ⟨yb, yo + k * 2, none⟩ = some (.int .i64 r') ∧ w'.cell? ⟨yb, yo + k * 2 + 1, none⟩ = some (.int .i64 s')) (by kernel_rfl) kk (fun hHeld => ?_)
          refine wpAnyH_take (i := 0) (oi := { dst := some 16, op := Go.Op.move (Go.Operand.tmp 0), type := 29, pos := "slices.go:25", after := #[], guard := none }) (v := ?_) rfl (by kernel_rfl) (by kernel_rfl) (by kernel_rfl) (fun _ _ _ h => h) (Or.inl ⟨by rfl, ?_⟩) (by assumption) ?_
          rotate_left
          · (intro w hSw; (try dsimp only at hSw); go_simp; (try (with_reducible rfl)))
          try simp only [Act.put, List.setIfInBounds_toArray, List.set_cons_zero, List.set_cons_succ]
          refine wpAnyH_take (i := 1) (oi := { dst := some 17, op := Go.Op.move (Go.Operand.tmp 5), type := 3, pos := "slices.go:25", after := #[], guard := none }) (v := ?_) rfl (by kernel_rfl) (by kernel_rfl) (by kernel_rfl) (fun _ _ _ h => h) (Or.inl ⟨by rfl, ?_⟩) (by assumption) ?_
          rotate_left
          · (intro w hSw; (try dsimp only at hSw); go_simp; (try (with_reducible rfl)))
          try simp only [Act.put, List.setIfInBounds_toArray, List.set_cons_zero, List.set_cons_succ]
          refine wpAnyH_take (i := 2) (oi := { dst := some 18, op := Go.Op.indexAddr 29 (Go.Operand.tmp 16) (Go.Operand.tmp 17), type := 0, pos := "slices.go:25", after := #[{ on := 0, ground := Go.Ground.data }, { on := 1, ground := Go.Ground.data }], guard := none }) (v := ?_) rfl (by kernel_rfl) (by kernel_rfl) (by kernel_rfl) (fun _ _ _ h => h) (Or.inl ⟨by rfl, ?_⟩) (by assumption) ?_
          rotate_left
          · (intro w hSw; (try dsimp only at hSw); go_simp; (try (with_reducible rfl)))
          try simp only [Act.put, List.setIfInBounds_toArray, List.set_cons_zero, List.set_cons_succ]
          refine wpAnyH_take (i := 3) (oi := { dst := some 19, op := Go.Op.load 28 (Go.Operand.tmp 18), type := 28, pos := "slices.go:25", after := #[{ on := 2, ground := Go.Ground.data }], guard := none }) (v := ?_) rfl (by kernel_rfl) (by kernel_rfl) (by kernel_rfl) (fun _ _ _ h => h) (Or.inl ⟨by rfl, ?_⟩) (by assumption) ?_
          rotate_left
          · (intro w hSw; (try dsimp only at hSw); go_simp; (try (with_reducible rfl)))
          try simp only [Act.put, List.setIfInBounds_toArray, List.set_cons_zero, List.set_cons_succ]
          refine wpAnyH_take (i := 4) (oi := { dst := some 20, op := Go.Op.move (Go.Operand.tmp 1), type := 29, pos := "slices.go:25", after := #[], guard := none }) (v := ?_) rfl (by kernel_rfl) (by kernel_rfl) (by kernel_rfl) (fun _ _ _ h => h) (Or.inl ⟨by rfl, ?_⟩) (by assumption) ?_
          rotate_left
          · (intro w hSw; (try dsimp only at hSw); go_simp; (try (with_reducible rfl)))
          try simp only [Act.put, List.setIfInBounds_toArray, List.set_cons_zero, List.set_cons_succ]
          refine wpAnyH_take (i := 5) (oi := { dst := some 21, op := Go.Op.move (Go.Operand.tmp 5), type := 3, pos := "slices.go:25", after := #[], guard := none }) (v := ?_) rfl (by kernel_rfl) (by kernel_rfl) (by kernel_rfl) (fun _ _ _ h => h) (Or.inl ⟨by rfl, ?_⟩) (by assumption) ?_
          rotate_left
          · (intro w hSw; (try dsimp only at hSw); go_simp; (try (with_reducible rfl)))
          try simp only [Act.put, List.setIfInBounds_toArray, List.set_cons_zero, List.set_cons_succ]
          refine wpAnyH_take (i := 6) (oi := { dst := some 22, op := Go.Op.indexAddr 29 (Go.Operand.tmp 20) (Go.Operand.tmp 21), type := 0, pos := "slices.go:25", after := #[{ on := 4, ground := Go.Ground.data }, { on := 5, ground := Go.Ground.data }], guard := none }) (v := ?_) rfl (by kernel_rfl) (by kernel_rfl) (by kernel_rfl) (fun _ _ _ h => h) (Or.inl ⟨by rfl, ?_⟩) (by assumption) ?_
          rotate_left
          · (intro w hSw; (try dsimp only at hSw); go_simp; (try (with_reducible rfl)))
          try simp only [Act.put, List.setIfInBounds_toArray, List.set_cons_zero, List.set_cons_succ]
          refine wpAnyH_take (i := 7) (oi := { dst := some 23, op := Go.Op.load 28 (Go.Operand.tmp 22), type := 28, pos := "slices.go:25", after := #[{ on := 6, ground := Go.Ground.data }], guard := none }) (v := ?_) rfl (by kernel_rfl) (by kernel_rfl) (by kernel_rfl) (fun _ _ _ h => h) (Or.inl ⟨by rfl, ?_⟩) (by assumption) ?_
          rotate_left
          · (intro w hSw; (try dsimp only at hSw); go_simp; (try (with_reducible rfl)))
          try simp only [Act.put, List.setIfInBounds_toArray, List.set_cons_zero, List.set_cons_succ]
          refine wpAnyH_take (i := 8) (oi := { dst := some 24, op := Go.Op.binOp Go.BinOp.neq 28 (Go.Operand.tmp 19) (Go.Operand.tmp 23) 28, type := 4, pos := "slices.go:25", after := #[{ on := 3, ground := Go.Ground.data }, { on := 7, ground := Go.Ground.data }], guard := none }) (v := ?_) rfl (by kernel_rfl) (by kernel_rfl) (by kernel_rfl) (fun _ _ _ h => h) (Or.inl ⟨by rfl, ?_⟩) (by assumption) ?_
          rotate_left
          · (intro w hSw; (try dsimp only at hSw); go_simp; (try (with_reducible rfl)))
          try simp only [Act.put, List.setIfInBounds_toArray, List.set_cons_zero, List.set_cons_succ]
          refine wpAnyH_done (by kernel_rfl) ?_ _
          clear hHeld kk
          go_wp2_with fail
          go_ret
          exact ⟨rb hgn.out.symm, hst.drew.toBelow hen.drew⟩
      · obtain rfl : k = xs.length := by omega
        have hgn : Hid (G = true) := Lib.hid (by rw [← hg.out, List.drop_length, List.drop_eq_nil_of_le (by rw [← hlen.out]; omega)]; rfl)
        go_wp2_with fail
        go_ret
        exact ⟨rb hgn.out.symm, hst.toBelow hen⟩
  · have hne : decide (xs = ys) = false := decide_eq_false (fun e => hlen (by rw [e]))
    rw [hne]
    have hl : ((xs.length : Int) != (ys.length : Int)) = true := by rw [bne_iff_ne]; omega
    have hl2 : (xs.length == ys.length) = false := by simpa using hlen
    clear hne hlen
    go_enter Try.func112, Try.ntmps112
    go_wp2_with fail
    go_ret
    exact ⟨rfl, Below.refl _ _⟩
end Go.Proofs.Ytelmhcbdpimaaaa
