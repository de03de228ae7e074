/- Joined texts: Vert5, Vert6. -/
import Derived.Test.YtelmhcbdpimaaaaVA12
/- Records that are kept: Put. -/
set_option linter.unusedVariables false
set_option linter.unusedSimpArgs false
namespace Go.Proofs.Ytelmhcbdpimaaaa
open Go.RowKit Go.Cw Go.Fl
attribute [local go_sem ↓] eql_id neq_id
/-- What a Put is told. -/
def putE (room : Int) (K : List Kp) (low : List Nat) (x : Rp) : Int :=
  if recErr x ≠ 0 then recErr x else if x.1.2 ≤ ((low.getD x.1.1.toNat 0 : Nat) : Int) then 14 else if x.1 ∈ kids K then (if recSame (rp (lookKp K x.1).1.1) x then 16 else 15) else if room ≤ (K.length : Int) then 13 else 0
theorem idErr_ok (a : Id) (h : idErr a = 0) : idOk a = true := by
  rw [idOk_iff]
  rcases idErr_cases a with h1 | h1 | h1 | h1 | h1 <;> omega
/-- What a Put does. -/
def VPut (H : Hp) (p : Nat) (room : Int) (K : List Kp) (M : List Id) (low : List Nat) (fr : List HA) (x : Rp) (w : World) (e : Ending) (w' : World) : Prop :=
  e = .returned (.int .i64 (putE room K low x)) ∧ Env w w' ∧ ∃ H', Hp.le H H' ∧ ((putE room K low x ≠ 0 ∧ St H' (VsA p room K M low :: fr) w') ∨ (putE room K low x = 0 ∧ ∃ y, RcD H' y ∧ rp y = x ∧ St H' (VsA p room (K ++ [(y, false)]) M low :: fr) w'))
theorem recErr_id (x : Rp) (h : recErr x = 0) : idOk x.1 = true := by
  refine idErr_ok _ ?_
  unfold recErr ownErr at h
  by_cases h1 : idErr x.1 = 0
  · exact h1
  · rw [if_pos h1, if_pos h1] at h
    exact absurd h h1
theorem entsK_put {K : List Kp} {y : Rc} (h : y.1 ∉ kids K) : mput y.1 (y, false) (entsK K) = entsK (K ++ [(y, false)]) := by
  unfold mput
  rw [entsK_keys, if_neg h]
  simp [entsK]
set_option maxRecDepth 100000 in
set_option maxHeartbeats 3200000 in
theorem vsPut_any (p : Nat) (room : Int) (K : List Kp) (M : List Id) (low : List Nat) (hlow : low.length = 8) (x : Rc) (H : Hp) (fr : List HA) (w : World) (h : St H (VsA p room K M low :: fr) w) (hK : KpOk H K) (hx : RcD H x) :
    Calls Try.prog 41 #[vsP p, recV x] w (VPut H p room K M low fr (rp x) w) := by
  have hbad : ∀ (E : Int) (H' : Hp) (w' : World), putE room K low (rp x) = E → E ≠ 0 → Hp.le H H' → St H' (VsA p room K M low :: fr) w' → Env w w' → VPut H p room K M low fr (rp x) w (.returned (.int .i64 E)) w' := fun E H' w' h1 h2 h3 h4 h5 => ⟨by rw [h1], h5, H', h3, .inl ⟨by rw [h1]; exact h2, h4⟩⟩
  have hgood : ∀ (H' : Hp) (y : Rc) (w' : World), putE room K low (rp x) = 0 → Hp.le H H' → RcD H' y → rp y = rp x → St H' (VsA p room (K ++ [(y, false)]) M low :: fr) w' → Env w w' → VPut H p room K M low fr (rp x) w (.returned (.int .i64 0)) w' := fun H' y w' h1 h2 h3 h4 h5 h6 => ⟨by rw [h1], h6, H', h2, .inr ⟨h1, y, h3, h4, h5⟩⟩
  generalize VPut H p room K M low fr (rp x) w = Q at *
  obtain ⟨E, hE⟩ : ∃ E, putE room K low (rp x) = E := ⟨_, rfl⟩
  rw [hE] at hbad hgood
  unfold putE at hE
  have hri := recErr_id (rp x)
  have hrl := recErr_len (rp x)
  obtain ⟨d1, d2, d3, hdv, _⟩ := hx.d.form
  obtain ⟨b1, b2, b3, hbv, _⟩ := hx.b.form
  obtain ⟨H1, l1, h1, a⟩ := St.rcBox h x
  have en1 := (Env.refl w).alloc (.cells (rcA x) 32)
  have hC := Lib.hid (recCheck_any x _ ((hx.mono l1).rw h1))
  obtain ⟨⟨r, s⟩, q, dv, bv, xD, xB⟩ := x
  simp only at hdv hbv en1 h1
  subst hdv hbv
  have u0 := h1.cell a.1
  have u1 := h1.cell a.2.1
  have u2 := h1.cell a.2.2.1
  have u3 := h1.cell a.2.2.2.1
  have u4 := h1.cell a.2.2.2.2
  have ul := World.block_lt_of_cell? _ _ u0
  simp only at u0 u1 u2 u3 u4
  clear h
  go_enter Try.func41, Try.ntmps41
  go_wp2_with fail
  refine hC.out.mono ?_
  rintro e w2 ⟨rfl, hb2⟩
  clear u0 u1 u2 u3 u4 ul
  have h2 := h1.below hb2
  have en2 := en1.trans (bel_env hb2)
  clear hC h1 en1 hb2
  generalize w.heap.size = gb at *
  by_cases hre : recErr (rp ((r, s), q, .slice d1 d2 d3, .slice b1 b2 b3, xD, xB)) = 0
  · obtain ⟨hr0, hr8, hs1, hs2⟩ := (idOk_iff _).1 (hri hre)
    obtain ⟨hlD, hlB⟩ := hrl hre
    simp only [rp] at hr0 hr8 hs1 hs2 hlD hlB
    rw [if_neg (by simpa using hre)] at hE
    rw [hre]
    obtain ⟨n, rfl⟩ : ∃ n : Nat, r = (n : Int) := ⟨r.toNat, by omega⟩
    have hn8 : n < 8 := by omega
    simp only [rp, Int.toNat_natCast] at hE
    obtain ⟨lo, hlo⟩ : ∃ lo : Nat, low.getD n 0 = lo := ⟨_, rfl⟩
    rw [hlo] at hE
    obtain ⟨g, f, h3⟩ := vsOpen h2
    clear h2
    have kk : ∀ (l' : List HA) (w' : World), St H1 (Blk p (vsC room g f low) 120 :: l') w' → (fun w' : World => w'.cell? ⟨gb, 0, none⟩ = some (.int .i64 (n : Int)) ∧ w'.cell? ⟨gb, 1, none⟩ = some (.int .i64 s) ∧ w'.cell? ⟨p, 3 + n, none⟩ = some (.int .i64 (lo : Int))) w' := fun l' w' h => ⟨h.cell a.1, h.cell a.2.1, by have := h.blk_cell (3 + n); rw [vsC_low _ _ _ _ _ (by omega), hlo] at this; exact this⟩
    have hD := h3.drew
    have cl := h3.blk_lt
    have hn8' : (n : Int) < 8 := hr8
    go_wp2_with fail
    refine wp_region_held_drew (S := fun w' : World => w'.cell? ⟨gb, 0, none⟩ = some (.int .i64 (n : Int)) ∧ w'.cell? ⟨gb, 1, none⟩ = some (.int .i64 s) ∧ w'.cell? ⟨p, 3 + n, none⟩ = some (.int .i64 (lo : Int))) (by kernel_rfl) (kk _ _ hD) (fun hHeld => ?_)
    refine wpAnyH_take (i := 0) (oi := { dst := some 15, op := Go.Op.fieldAddr 32 (Go.Operand.tmp 3) 0, type := 0, pos := "vertex.go:49", after := #[], guard := none }) (v := ?_) rfl (by kernel_rfl) (by kernel_rfl) (by kernel_rfl) (fun _ _ _ h => h) (Or.inl ⟨by rfl, ?_⟩) (by assumption) ?_
    rotate_left
    · (intro w hSw; (try dsimp only at hSw); go_simp; (try (with_reducible rfl)))
    try simp only [Act.put, List.setIfInBounds_toArray, List.set_cons_zero, List.set_cons_succ]
    refine wpAnyH_take (i := 1) (oi := { dst := some 16, op := Go.Op.fieldAddr 28 (Go.Operand.tmp 15) 1, type := 0, pos := "vertex.go:49", after := #[{ on := 0, ground := Go.Ground.data }], guard := none }) (v := ?_) rfl (by kernel_rfl) (by kernel_rfl) (by kernel_rfl) (fun _ _ _ h => h) (Or.inl ⟨by rfl, ?_⟩) (by assumption) ?_
    rotate_left
    · (intro w hSw; (try dsimp only at hSw); go_simp; (try (with_reducible rfl)))
    try simp only [Act.put, List.setIfInBounds_toArray, List.set_cons_zero, List.set_cons_succ]
    refine wpAnyH_take (i := 2) (oi := { dst := some 17, op := Go.Op.load 3 (Go.Operand.tmp 16), type := 3, pos := "vertex.go:49", after := #[{ on := 1, ground := Go.Ground.data }], guard := none }) (v := ?_) rfl (by kernel_rfl) (by kernel_rfl) (by kernel_rfl) (fun _ _ _ h => h) (Or.inl ⟨by rfl, ?_⟩) (by assumption) ?_
    rotate_left
    · (intro w hSw; (try dsimp only at hSw); go_simp; (try (with_reducible rfl)))
    try simp only [Act.put, List.setIfInBounds_toArray, List.set_cons_zero, List.set_cons_succ]
    refine wpAnyH_take (i := 3) (oi := { dst := some 18, op := Go.Op.move (Go.Operand.tmp 0), type := 67, pos := "vertex.go:49", after := #[], guard := none }) (v := ?_) rfl (by kernel_rfl) (by kernel_rfl) (by kernel_rfl) (fun _ _ _ h => h) (Or.inl ⟨by rfl, ?_⟩) (by assumption) ?_
    rotate_left
    · (intro w hSw; (try dsimp only at hSw); go_simp; (try (with_reducible rfl)))
    try simp only [Act.put, List.setIfInBounds_toArray, List.set_cons_zero, List.set_cons_succ]
    refine wpAnyH_take (i := 4) (oi := { dst := some 19, op := Go.Op.fieldAddr 32 (Go.Operand.tmp 3) 0, type := 0, pos := "vertex.go:49", after := #[], guard := none }) (v := ?_) rfl (by kernel_rfl) (by kernel_rfl) (by kernel_rfl) (fun _ _ _ h => h) (Or.inl ⟨by rfl, ?_⟩) (by assumption) ?_
    rotate_left
    · (intro w hSw; (try dsimp only at hSw); go_simp; (try (with_reducible rfl)))
    try simp only [Act.put, List.setIfInBounds_toArray, List.set_cons_zero, List.set_cons_succ]
    refine wpAnyH_take (i := 5) (oi := { dst := some 20, op := Go.Op.fieldAddr 28 (Go.Operand.tmp 19) 0, type := 0, pos := "vertex.go:49", after := #[{ on := 4, ground := Go.Ground.data }], guard := none }) (v := ?_) rfl (by kernel_rfl) (by kernel_rfl) (by kernel_rfl) (fun _ _ _ h => h) (Or.inl ⟨by rfl, ?_⟩) (by assumption) ?_
    rotate_left
    · (intro w hSw; (try dsimp only at hSw); go_simp; (try (with_reducible rfl)))
    try simp only [Act.put, List.setIfInBounds_toArray, List.set_cons_zero, List.set_cons_succ]
    refine wpAnyH_take (i := 6) (oi := { dst := some 21, op := Go.Op.load 3 (Go.Operand.tmp 20), type := 3, pos := "vertex.go:49", after := #[{ on := 5, ground := Go.Ground.data }], guard := none }) (v := ?_) rfl (by kernel_rfl) (by kernel_rfl) (by kernel_rfl) (fun _ _ _ h => h) (Or.inl ⟨by rfl, ?_⟩) (by assumption) ?_
    rotate_left
    · (intro w hSw; (try dsimp only at hSw); go_simp; (try (with_reducible rfl)))
    try simp only [Act.put, List.setIfInBounds_toArray, List.set_cons_zero, List.set_cons_succ]
    refine wpAnyH_take (i := 7) (oi := { dst := some 22, op := Go.Op.nilCheck (Go.Operand.tmp 18), type := 0, pos := "vertex.go:49", after := #[{ on := 3, ground := Go.Ground.data }], guard := none }) (v := ?_) rfl (by kernel_rfl) (by kernel_rfl) (by kernel_rfl) (fun _ _ _ h => h) (Or.inl ⟨by rfl, ?_⟩) (by assumption) ?_
    rotate_left
    · (intro w hSw; (try dsimp only at hSw); go_simp; (try (with_reducible rfl)))
    try simp only [Act.put, List.setIfInBounds_toArray, List.set_cons_zero, List.set_cons_succ]
    refine wpAnyH_take (i := 8) (oi := { dst := some 23, op := Go.Op.fieldAddr 120 (Go.Operand.tmp 22) 3, type := 0, pos := "vertex.go:49", after := #[{ on := 7, ground := Go.Ground.data }], guard := none }) (v := ?_) rfl (by kernel_rfl) (by kernel_rfl) (by kernel_rfl) (fun _ _ _ h => h) (Or.inl ⟨by rfl, ?_⟩) (by assumption) ?_
    rotate_left
    · (intro w hSw; (try dsimp only at hSw); go_simp; (try (with_reducible rfl)))
    try simp only [Act.put, List.setIfInBounds_toArray, List.set_cons_zero, List.set_cons_succ]
    refine wpAnyH_take (i := 9) (oi := { dst := some 24, op := Go.Op.indexAddr 79 (Go.Operand.tmp 23) (Go.Operand.tmp 21), type := 0, pos := "vertex.go:49", after := #[{ on := 8, ground := Go.Ground.data }, { on := 6, ground := Go.Ground.data }], guard := none }) (v := ?_) rfl (by kernel_rfl) (by kernel_rfl) (by kernel_rfl) (fun _ _ _ h => h) (Or.inl ⟨by rfl, ?_⟩) (by assumption) ?_
    rotate_left
    · (intro w hSw; (try dsimp only at hSw); go_simp; (try (with_reducible rfl)))
    try simp only [Act.put, List.setIfInBounds_toArray, List.set_cons_zero, List.set_cons_succ]
    refine wpAnyH_take (i := 10) (oi := { dst := some 25, op := Go.Op.load 3 (Go.Operand.tmp 24), type := 3, pos := "vertex.go:49", after := #[{ on := 9, ground := Go.Ground.data }], guard := none }) (v := ?_) rfl (by kernel_rfl) (by kernel_rfl) (by kernel_rfl) (fun _ _ _ h => h) (Or.inl ⟨by rfl, ?_⟩) (by assumption) ?_
    rotate_left
    · (intro w hSw; (try dsimp only at hSw); go_simp; (try (with_reducible rfl)))
    try simp only [Act.put, List.setIfInBounds_toArray, List.set_cons_zero, List.set_cons_succ]
    refine wpAnyH_take (i := 11) (oi := { dst := some 26, op := Go.Op.binOp Go.BinOp.leq 3 (Go.Operand.tmp 17) (Go.Operand.tmp 25) 3, type := 4, pos := "vertex.go:49", after := #[{ on := 2, ground := Go.Ground.data }, { on := 10, ground := Go.Ground.data }], guard := none }) (v := ?_) rfl (by kernel_rfl) (by kernel_rfl) (by kernel_rfl) (fun _ _ _ h => h) (Or.inl ⟨by rfl, ?_⟩) (by assumption) ?_
    rotate_left
    · (intro w hSw; (try dsimp only at hSw); go_simp; (try (with_reducible rfl)))
    try simp only [Act.put, List.setIfInBounds_toArray, List.set_cons_zero, List.set_cons_succ]
    refine wpAnyH_done (by kernel_rfl) ?_ _
    clear hHeld kk cl
    have en3 := en2.drew
    by_cases hsl : s ≤ (lo : Int)
    · rw [if_pos hsl] at hE
      have hq := Lib.hid (hbad 14 H1 _ hE.symm (by decide) l1 (vsShut hD) en3)
      have ht : decide (s ≤ (lo : Int)) = true := decide_eq_true hsl
      go_wp2_with fail
      exact hq.out
    · rw [if_neg hsl] at hE
      have ht : decide (s ≤ (lo : Int)) = false := decide_eq_false hsl
      have hlk := look_at K ((n : Int), s)
      have hin := lookKp_iff K ((n : Int), s)
      have hld := lookKp_d hK ((n : Int), s)
      have hlb := lookKp_b hK ((n : Int), s)
      have hout : ∀ y : Rc, y.1 = ((n : Int), s) → ((n : Int), s) ∉ kids K → mput ((n : Int), s) (y, false) (entsK K) = entsK (K ++ [(y, false)]) := fun y h1 h2 => by have := entsK_put (y := y) (by rw [h1]; exact h2); rwa [h1] at this
      obtain ⟨e1, e2, e3, f1, f2, f3, hev, hfv⟩ := kp_form hld
      have hKn : K.length ≤ 1000000 := hK.n
      have hKe : (entsK K).length = K.length := entsK_len K
      generalize lookKp K ((n : Int), s) = z at *
      obtain ⟨⟨⟨⟨x0, x1⟩, xq, xd, xb, yD, yB⟩, xo⟩, xk⟩ := z
      try simp only at hev hfv hlk hin hlb hld hE
      subst hev hfv
      replace hlk := Lib.hid hlk
      generalize hW2 : w2.drew = W2 at *
      clear hW2 h3 w2 en2
      have kk : ∀ w', St H1 (Blk p (vsC room g f low) 120 :: Mp kpC g (entsK K) :: FrI f M :: fr) w' → (fun w' : World => w'.cell? ⟨p, 1, none⟩ = some (.map (some g)) ∧ w'.cell? ⟨gb, 0, none⟩ = some (.int .i64 (n : Int)) ∧ w'.cell? ⟨gb, 1, none⟩ = some (.int .i64 s) ∧ (Instr.lookup 116 (.map (some g)) (.agg #[.int .i64 (n : Int), .int .i64 s]) true).run Try.prog w' = .ok (.tuple #[.agg #[.int .i64 x0, .int .i64 x1, .int .i64 xq, .slice e1 e2 e3, .slice f1 f2 f3, .bool xo], .bool xk]) w') w' := fun w' h' => ⟨h'.blk_cell 1, h'.cell a.1, h'.cell a.2.1, by
        have := h'.swap.mp_get true (t := 116) Try.underlying116 (zero_kp _) ((n : Int), s)
        rw [hlk.out] at this
        exact this⟩
      have hD2 := hD.drew
      have cl := hD.blk_lt
      go_wp2_with fail
      generalize hgk : W2.heap.size = gk at *
      refine wp_region_held_drew (S := (fun w' : World => w'.cell? ⟨p, 1, none⟩ = some (.map (some g)) ∧ w'.cell? ⟨gb, 0, none⟩ = some (.int .i64 (n : Int)) ∧ w'.cell? ⟨gb, 1, none⟩ = some (.int .i64 s) ∧ (Instr.lookup 116 (.map (some g)) (.agg #[.int .i64 (n : Int), .int .i64 s]) true).run Try.prog w' = .ok (.tuple #[.agg #[.int .i64 x0, .int .i64 x1, .int .i64 xq, .slice e1 e2 e3, .slice f1 f2 f3, .bool xo], .bool xk]) w')) (by kernel_rfl) (kk _ hD2) (fun hHeld => ?_)
      refine wpAnyH_take (i := 0) (oi := { dst := some 28, op := Go.Op.move (Go.Operand.tmp 0), type := 67, pos := "vertex.go:52", after := #[], guard := none }) (v := ?_) rfl (by kernel_rfl) (by kernel_rfl) (by kernel_rfl) (fun _ _ _ h => h) (Or.inl ⟨by rfl, ?_⟩) (by assumption) ?_
      rotate_left
      · (intro w hSw; (try dsimp only at hSw); go_simp; (try (with_reducible rfl)))
      try simp only [Act.put, List.setIfInBounds_toArray, List.set_cons_zero, List.set_cons_succ]
      refine wpAnyH_take (i := 1) (oi := { dst := some 29, op := Go.Op.nilCheck (Go.Operand.tmp 28), type := 0, pos := "vertex.go:52", after := #[{ on := 0, ground := Go.Ground.data }], guard := none }) (v := ?_) rfl (by kernel_rfl) (by kernel_rfl) (by kernel_rfl) (fun _ _ _ h => h) (Or.inl ⟨by rfl, ?_⟩) (by assumption) ?_
      rotate_left
      · (intro w hSw; (try dsimp only at hSw); go_simp; (try (with_reducible rfl)))
      try simp only [Act.put, List.setIfInBounds_toArray, List.set_cons_zero, List.set_cons_succ]
      refine wpAnyH_take (i := 2) (oi := { dst := some 30, op := Go.Op.fieldAddr 120 (Go.Operand.tmp 29) 1, type := 0, pos := "vertex.go:52", after := #[{ on := 1, ground := Go.Ground.data }], guard := none }) (v := ?_) rfl (by kernel_rfl) (by kernel_rfl) (by kernel_rfl) (fun _ _ _ h => h) (Or.inl ⟨by rfl, ?_⟩) (by assumption) ?_
      rotate_left
      · (intro w hSw; (try dsimp only at hSw); go_simp; (try (with_reducible rfl)))
      try simp only [Act.put, List.setIfInBounds_toArray, List.set_cons_zero, List.set_cons_succ]
      refine wpAnyH_take (i := 3) (oi := { dst := some 31, op := Go.Op.load 116 (Go.Operand.tmp 30), type := 116, pos := "vertex.go:52", after := #[{ on := 2, ground := Go.Ground.data }], guard := none }) (v := ?_) rfl (by kernel_rfl) (by kernel_rfl) (by kernel_rfl) (fun _ _ _ h => h) (Or.inl ⟨by rfl, ?_⟩) (by assumption) ?_
      rotate_left
      · (intro w hSw; (try dsimp only at hSw); go_simp; (try (with_reducible rfl)))
      try simp only [Act.put, List.setIfInBounds_toArray, List.set_cons_zero, List.set_cons_succ]
      refine wpAnyH_take (i := 4) (oi := { dst := some 32, op := Go.Op.fieldAddr 32 (Go.Operand.tmp 3) 0, type := 0, pos := "vertex.go:52", after := #[], guard := none }) (v := ?_) rfl (by kernel_rfl) (by kernel_rfl) (by kernel_rfl) (fun _ _ _ h => h) (Or.inl ⟨by rfl, ?_⟩) (by assumption) ?_
      rotate_left
      · (intro w hSw; (try dsimp only at hSw); go_simp; (try (with_reducible rfl)))
      try simp only [Act.put, List.setIfInBounds_toArray, List.set_cons_zero, List.set_cons_succ]
      refine wpAnyH_take (i := 5) (oi := { dst := some 33, op := Go.Op.load 28 (Go.Operand.tmp 32), type := 28, pos := "vertex.go:52", after := #[{ on := 4, ground := Go.Ground.data }], guard := none }) (v := ?_) rfl (by kernel_rfl) (by kernel_rfl) (by kernel_rfl) (fun _ _ _ h => h) (Or.inl ⟨by rfl, ?_⟩) (by assumption) ?_
      rotate_left
      · (intro w hSw; (try dsimp only at hSw); go_simp; (try (with_reducible rfl)))
      try simp only [Act.put, List.setIfInBounds_toArray, List.set_cons_zero, List.set_cons_succ]
      refine wpAnyH_take (i := 6) (oi := { dst := some 34, op := Go.Op.lookup 116 (Go.Operand.tmp 31) (Go.Operand.tmp 33) true, type := 123, pos := "vertex.go:52", after := #[{ on := 3, ground := Go.Ground.data }, { on := 5, ground := Go.Ground.data }], guard := none }) (v := ?_) rfl (by kernel_rfl) (by kernel_rfl) (by kernel_rfl) (fun _ _ _ h => h) (Or.inl ⟨by rfl, ?_⟩) (by assumption) ?_
      rotate_left
      · (intro w hSw; (try dsimp only at hSw); go_simp; (try (with_reducible rfl)))
      try simp only [Act.put, List.setIfInBounds_toArray, List.set_cons_zero, List.set_cons_succ]
      refine wpAnyH_take (i := 7) (oi := { dst := some 27, op := Go.Op.move (Go.Operand.tmp 34), type := 123, pos := "vertex.go:52", after := #[{ on := 6, ground := Go.Ground.data }], guard := none }) (v := ?_) rfl (by kernel_rfl) (by kernel_rfl) (by kernel_rfl) (fun _ _ _ h => h) (Or.inl ⟨by rfl, ?_⟩) (by assumption) ?_
      rotate_left
      · (intro w hSw; (try dsimp only at hSw); go_simp; (try (with_reducible rfl)))
      try simp only [Act.put, List.setIfInBounds_toArray, List.set_cons_zero, List.set_cons_succ]
      refine wpAnyH_take (i := 8) (oi := { dst := some 35, op := Go.Op.extract (Go.Operand.tmp 27) 0, type := 122, pos := "vertex.go:52", after := #[{ on := 7, ground := Go.Ground.data }], guard := none }) (v := ?_) rfl (by kernel_rfl) (by kernel_rfl) (by kernel_rfl) (fun _ _ _ h => h) (Or.inl ⟨by rfl, ?_⟩) (by assumption) ?_
      rotate_left
      · (intro w hSw; (try dsimp only at hSw); go_simp; (try (with_reducible rfl)))
      try simp only [Act.put, List.setIfInBounds_toArray, List.set_cons_zero, List.set_cons_succ]
      refine wpAnyH_take (i := 9) (oi := { dst := some 36, op := Go.Op.extract (Go.Operand.tmp 27) 1, type := 4, pos := "vertex.go:52", after := #[{ on := 7, ground := Go.Ground.data }, { on := 11, ground := Go.Ground.gcOnly Go.Departure.lateStores }], guard := none }) (v := ?_) rfl (by kernel_rfl) (by kernel_rfl) (by kernel_rfl) (fun _ _ _ h => h) (Or.inl ⟨by rfl, ?_⟩) (by assumption) ?_
      rotate_left
      · (intro w hSw; (try dsimp only at hSw); go_simp; (try (with_reducible rfl)))
      try simp only [Act.put, List.setIfInBounds_toArray, List.set_cons_zero, List.set_cons_succ]
      refine wpAnyH_ready (rs := [10]) (by kernel_rfl) (by simp) ?_
      refine AllReadyH.cons (o := { dst := some 6, op := Go.Op.alloc 122, type := 0, pos := "vertex.go:52", after := #[], guard := none }) rfl (fun K hK => ?_) AllReadyH.nil
      go_simp
      refine hK.out _ _ (kk _ (hD2.alloc _)) (fun hHeld2 => ?_)
      clear hK K hHeld
      try simp only [Act.put, List.setIfInBounds_toArray, List.set_cons_zero, List.set_cons_succ]
      refine wpAnyH_ready (rs := [11]) (by kernel_rfl) (by simp) ?_
      refine AllReadyH.cons (o := { dst := none, op := Go.Op.store 122 (Go.Operand.tmp 6) (Go.Operand.tmp 35), type := 0, pos := "vertex.go:52", after := #[{ on := 10, ground := Go.Ground.data }, { on := 8, ground := Go.Ground.data }, { on := 0, ground := Go.Ground.phase }, { on := 1, ground := Go.Ground.phase }, { on := 2, ground := Go.Ground.phase }, { on := 3, ground := Go.Ground.phase }, { on := 4, ground := Go.Ground.phase }, { on := 5, ground := Go.Ground.phase }, { on := 6, ground := Go.Ground.phase }, { on := 7, ground := Go.Ground.phase }, { on := 8, ground := Go.Ground.phase }, { on := 9, ground := Go.Ground.textOnly Go.Departure.lateStores }, { on := 10, ground := Go.Ground.phase }], guard := none }) rfl (fun K hK => ?_) AllReadyH.nil
      go_simp
      refine hK.out _ _ (kk _ ((hD.alloc _).drew)) (fun hHeld3 => ?_)
      clear hK K hHeld2
      try simp only [Act.put, List.setIfInBounds_toArray, List.set_cons_zero, List.set_cons_succ]
      refine wpAnyH_take (i := 12) (oi := { dst := some 7, op := Go.Op.assign (Go.Operand.tmp 36), type := 4, pos := "vertex.go:52", after := #[{ on := 9, ground := Go.Ground.data }, { on := 11, ground := Go.Ground.chain }, { on := 0, ground := Go.Ground.phase }, { on := 1, ground := Go.Ground.phase }, { on := 2, ground := Go.Ground.phase }, { on := 3, ground := Go.Ground.phase }, { on := 4, ground := Go.Ground.phase }, { on := 5, ground := Go.Ground.phase }, { on := 6, ground := Go.Ground.phase }, { on := 7, ground := Go.Ground.phase }, { on := 8, ground := Go.Ground.phase }, { on := 9, ground := Go.Ground.phase }, { on := 10, ground := Go.Ground.phase }, { on := 11, ground := Go.Ground.phase }], guard := none }) (v := ?_) rfl (by kernel_rfl) (by kernel_rfl) (by kernel_rfl) (fun _ _ _ h => h) (Or.inl ⟨by rfl, ?_⟩) (by assumption) ?_
      rotate_left
      · (intro w hSw; (try dsimp only at hSw); go_simp; (try (with_reducible rfl)))
      try simp only [Act.put, List.setIfInBounds_toArray, List.set_cons_zero, List.set_cons_succ]
      refine wpAnyH_done (by kernel_rfl) ?_ _
      obtain ⟨H3, l3, h4, kc⟩ := hD.box #[.int .i64 x0, .int .i64 x1, .int .i64 xq, .slice e1 e2 e3, .slice f1 f2 f3, .bool xo] 122
      have en4 := (en3.alloc (.cells #[.int .i64 x0, .int .i64 x1, .int .i64 xq, .slice e1 e2 e3, .slice f1 f2 f3, .bool xo] 122)).drew
      rw [hgk] at kc
      have m0 := kc 0 _ rfl
      have m1 := kc 1 _ rfl
      have m2 := kc 2 _ rfl
      have m3 := kc 3 _ rfl
      have m4 := kc 4 _ rfl
      have hE4 := h4.drew
      clear hHeld3 kk hD2 hD h4 cl kc en3 hlk
      generalize (W2.alloc (.cells #[.int .i64 x0, .int .i64 x1, .int .i64 xq, .slice e1 e2 e3, .slice f1 f2 f3, .bool xo] 122)).drew = W4 at *
      have a3 := RcAt.mono a l3
      have hx3 := hx.mono (Hp.le_trans l1 l3)
      have l13 := Hp.le_trans l1 l3
      have hld3 := hld.mono (Hp.le_trans l1 l3)
      by_cases hm : ((n : Int), s) ∈ kids K
      · rw [if_pos hm] at hE
        rw [decide_eq_true hm]
        have hSm := Lib.hid (recordSame_any ((x0, x1), xq, .slice e1 e2 e3, .slice f1 f2 f3, yD, yB) (((n : Int), s), q, .slice d1 d2 d3, .slice b1 b2 b3, xD, xB) W4 (hld3.rw hE4) (hx3.rw hE4))
        have c0 := hE4.cell m0
        have c1 := hE4.cell m1
        have c2 := hE4.cell m2
        have c3 := hE4.cell m3
        have c4 := hE4.cell m4
        have cl := World.block_lt_of_cell? _ _ c0
        have u0 := hE4.cell a3.1
        have u1 := hE4.cell a3.2.1
        have u2 := hE4.cell a3.2.2.1
        have u3 := hE4.cell a3.2.2.2.1
        have u4 := hE4.cell a3.2.2.2.2
        have ul := World.block_lt_of_cell? _ _ u0
        simp only at u0 u1 u2 u3 u4
        have hfin : ∀ (b : Bool) (w' : World), recSame (rp ((x0, x1), xq, .slice e1 e2 e3, .slice f1 f2 f3, yD, yB)) (rp (((n : Int), s), q, .slice d1 d2 d3, .slice b1 b2 b3, xD, xB)) = b → Below W4.heap.size W4 w' → Q (.returned (.int .i64 (if b then 16 else 15))) w' := fun b w' hb hbel => by
          refine hbad _ H3 w' ?_ ?_ l13 (vsShut (hE4.below hbel)) (en4.trans (bel_env hbel))
          · rw [← hE, hb]
          · cases b <;> decide
        replace hfin := Lib.hid hfin
        clear hE hm hbad hgood
        go_wp2_with fail
        refine hSm.out.mono ?_
        rintro e w5 ⟨rfl, hb5⟩
        obtain ⟨b, hb⟩ : ∃ b, recSame (rp ((x0, x1), xq, .slice e1 e2 e3, .slice f1 f2 f3, yD, yB)) (rp (((n : Int), s), q, .slice d1 d2 d3, .slice b1 b2 b3, xD, xB)) = b := ⟨_, rfl⟩
        have hq := Lib.hid (hfin.out b w5 hb hb5)
        rw [hb]
        clear hb c0 c1 c2 c3 c4 cl
        clear u0 u1 u2 u3 u4 ul
        cases b with
        | true =>
          go_wp2_with fail
          exact hq.out
        | false =>
          go_wp2_with fail
          exact hq.out
      · rw [if_neg hm] at hE
        rw [decide_eq_false hm]
        have hK2 := Lib.hid (fun (y : Rc) (hy : y.1 = ((n : Int), s)) => hout y hy hm)
        clear m0 m1 m2 m3 m4
        have kk : ∀ w', St H3 (Blk p (vsC room g f low) 120 :: Mp kpC g (entsK K) :: FrI f M :: fr) w' → (fun w' : World => w'.cell? ⟨p, 0, none⟩ = some (.int .i64 room) ∧ w'.cell? ⟨p, 1, none⟩ = some (.map (some g)) ∧ (Builtin.len_ #[116] 3 #[.map (some g)]).run Try.prog w' = .ok (.int .i64 (K.length : Int)) w') w' := fun w' h' => ⟨h'.blk_cell 0, h'.blk_cell 1, by
          have := h'.swap.mp_len (ty := 3) (t := 116) Try.underlying116
          rwa [hKe] at this⟩
        have hD := hE4.drew
        have cl := hE4.blk_lt
        go_wp2_with fail
        refine wp_region_held_drew (S := fun w' : World => w'.cell? ⟨p, 0, none⟩ = some (.int .i64 room) ∧ w'.cell? ⟨p, 1, none⟩ = some (.map (some g)) ∧ (Builtin.len_ #[116] 3 #[.map (some g)]).run Try.prog w' = .ok (.int .i64 (K.length : Int)) w') (by kernel_rfl) (kk _ hD) (fun hHeld => ?_)
        refine wpAnyH_take (i := 0) (oi := { dst := some 42, op := Go.Op.move (Go.Operand.tmp 0), type := 67, pos := "vertex.go:58", after := #[], guard := none }) (v := ?_) rfl (by kernel_rfl) (by kernel_rfl) (by kernel_rfl) (fun _ _ _ h => h) (Or.inl ⟨by rfl, ?_⟩) (by assumption) ?_
        rotate_left
        · (intro w hSw; (try dsimp only at hSw); go_simp; (try (with_reducible rfl)))
        try simp only [Act.put, List.setIfInBounds_toArray, List.set_cons_zero, List.set_cons_succ]
        refine wpAnyH_take (i := 1) (oi := { dst := some 43, op := Go.Op.nilCheck (Go.Operand.tmp 42), type := 0, pos := "vertex.go:58", after := #[{ on := 0, ground := Go.Ground.data }], guard := none }) (v := ?_) rfl (by kernel_rfl) (by kernel_rfl) (by kernel_rfl) (fun _ _ _ h => h) (Or.inl ⟨by rfl, ?_⟩) (by assumption) ?_
        rotate_left
        · (intro w hSw; (try dsimp only at hSw); go_simp; (try (with_reducible rfl)))
        try simp only [Act.put, List.setIfInBounds_toArray, List.set_cons_zero, List.set_cons_succ]
        refine wpAnyH_take (i := 2) (oi := { dst := some 44, op := Go.Op.fieldAddr 120 (Go.Operand.tmp 43) 1, type := 0, pos := "vertex.go:58", after := #[{ on := 1, ground := Go.Ground.data }], guard := none }) (v := ?_) rfl (by kernel_rfl) (by kernel_rfl) (by kernel_rfl) (fun _ _ _ h => h) (Or.inl ⟨by rfl, ?_⟩) (by assumption) ?_
        rotate_left
        · (intro w hSw; (try dsimp only at hSw); go_simp; (try (with_reducible rfl)))
        try simp only [Act.put, List.setIfInBounds_toArray, List.set_cons_zero, List.set_cons_succ]
        refine wpAnyH_take (i := 3) (oi := { dst := some 45, op := Go.Op.load 116 (Go.Operand.tmp 44), type := 116, pos := "vertex.go:58", after := #[{ on := 2, ground := Go.Ground.data }], guard := none }) (v := ?_) rfl (by kernel_rfl) (by kernel_rfl) (by kernel_rfl) (fun _ _ _ h => h) (Or.inl ⟨by rfl, ?_⟩) (by assumption) ?_
        rotate_left
        · (intro w hSw; (try dsimp only at hSw); go_simp; (try (with_reducible rfl)))
        try simp only [Act.put, List.setIfInBounds_toArray, List.set_cons_zero, List.set_cons_succ]
        refine wpAnyH_take (i := 4) (oi := { dst := some 46, op := Go.Op.call { callee := Go.Callee.builtin Go.Builtin.len, args := #[Go.Operand.tmp 45], argTypes := #[116] }, type := 3, pos := "vertex.go:58", after := #[{ on := 3, ground := Go.Ground.data }], guard := none }) (v := ?_) rfl (by kernel_rfl) (by kernel_rfl) (by kernel_rfl) (fun _ _ _ h => h) (Or.inl ⟨by rfl, ?_⟩) (by assumption) ?_
        rotate_left
        · (intro w hSw; (try dsimp only at hSw); go_simp; (try (with_reducible rfl)))
        try simp only [Act.put, List.setIfInBounds_toArray, List.set_cons_zero, List.set_cons_succ]
        refine wpAnyH_take (i := 5) (oi := { dst := some 47, op := Go.Op.move (Go.Operand.tmp 0), type := 67, pos := "vertex.go:58", after := #[], guard := none }) (v := ?_) rfl (by kernel_rfl) (by kernel_rfl) (by kernel_rfl) (fun _ _ _ h => h) (Or.inl ⟨by rfl, ?_⟩) (by assumption) ?_
        rotate_left
        · (intro w hSw; (try dsimp only at hSw); go_simp; (try (with_reducible rfl)))
        try simp only [Act.put, List.setIfInBounds_toArray, List.set_cons_zero, List.set_cons_succ]
        refine wpAnyH_take (i := 6) (oi := { dst := some 48, op := Go.Op.nilCheck (Go.Operand.tmp 47), type := 0, pos := "vertex.go:58", after := #[{ on := 5, ground := Go.Ground.data }], guard := none }) (v := ?_) rfl (by kernel_rfl) (by kernel_rfl) (by kernel_rfl) (fun _ _ _ h => h) (Or.inl ⟨by rfl, ?_⟩) (by assumption) ?_
        rotate_left
        · (intro w hSw; (try dsimp only at hSw); go_simp; (try (with_reducible rfl)))
        try simp only [Act.put, List.setIfInBounds_toArray, List.set_cons_zero, List.set_cons_succ]
        refine wpAnyH_take (i := 7) (oi := { dst := some 49, op := Go.Op.fieldAddr 120 (Go.Operand.tmp 48) 0, type := 0, pos := "vertex.go:58", after := #[{ on := 6, ground := Go.Ground.data }], guard := none }) (v := ?_) rfl (by kernel_rfl) (by kernel_rfl) (by kernel_rfl) (fun _ _ _ h => h) (Or.inl ⟨by rfl, ?_⟩) (by assumption) ?_
        rotate_left
        · (intro w hSw; (try dsimp only at hSw); go_simp; (try (with_reducible rfl)))
        try simp only [Act.put, List.setIfInBounds_toArray, List.set_cons_zero, List.set_cons_succ]
        refine wpAnyH_take (i := 8) (oi := { dst := some 50, op := Go.Op.load 3 (Go.Operand.tmp 49), type := 3, pos := "vertex.go:58", after := #[{ on := 7, ground := Go.Ground.data }], guard := none }) (v := ?_) rfl (by kernel_rfl) (by kernel_rfl) (by kernel_rfl) (fun _ _ _ h => h) (Or.inl ⟨by rfl, ?_⟩) (by assumption) ?_
        rotate_left
        · (intro w hSw; (try dsimp only at hSw); go_simp; (try (with_reducible rfl)))
        try simp only [Act.put, List.setIfInBounds_toArray, List.set_cons_zero, List.set_cons_succ]
        refine wpAnyH_take (i := 9) (oi := { dst := some 51, op := Go.Op.binOp Go.BinOp.geq 3 (Go.Operand.tmp 46) (Go.Operand.tmp 50) 3, type := 4, pos := "vertex.go:58", after := #[{ on := 4, ground := Go.Ground.data }, { on := 8, ground := Go.Ground.data }], guard := none }) (v := ?_) rfl (by kernel_rfl) (by kernel_rfl) (by kernel_rfl) (fun _ _ _ h => h) (Or.inl ⟨by rfl, ?_⟩) (by assumption) ?_
        rotate_left
        · (intro w hSw; (try dsimp only at hSw); go_simp; (try (with_reducible rfl)))
        try simp only [Act.put, List.setIfInBounds_toArray, List.set_cons_zero, List.set_cons_succ]
        refine wpAnyH_done (by kernel_rfl) ?_ _
        clear hHeld kk hE4 cl
        have en5 := en4.drew
        generalize W4.drew = W5 at *
        by_cases hr : room ≤ (K.length : Int)
        · rw [if_pos hr] at hE
          have hq := Lib.hid (hbad 13 H3 _ hE.symm (by decide) l13 (vsShut hD) en5)
          have ht : decide (room ≤ (K.length : Int)) = true := decide_eq_true hr
          go_wp2_with fail
          exact hq.out
        · rw [if_neg hr] at hE
          subst hE
          have ht : decide (room ≤ (K.length : Int)) = false := decide_eq_false hr
          have hCp := Lib.hid (recCopy_any (((n : Int), s), q, .slice d1 d2 d3, .slice b1 b2 b3, xD, xB) _ (hx3.rw hD.drew) (by simp only; omega) (by simp only; omega))
          have hD2 := hD.drew
          have kk : ∀ (l' : List HA) (H' : Hp) (w' : World), Hp.le H3 H' → St H' (Blk p (vsC room g f low) 120 :: l') w' → (fun w' : World => w'.cell? ⟨p, 1, none⟩ = some (.map (some g)) ∧ w'.cell? ⟨gb, 0, none⟩ = some (.int .i64 (n : Int)) ∧ w'.cell? ⟨gb, 1, none⟩ = some (.int .i64 s) ∧ w'.cell? ⟨gb, 2, none⟩ = some (.int .i64 q) ∧ w'.cell? ⟨gb, 3, none⟩ = some (.slice d1 d2 d3) ∧ w'.cell? ⟨gb, 4, none⟩ = some (.slice b1 b2 b3)) w' := fun l' H' w' hl h => ⟨h.blk_cell 1, h.cell (a3.mono hl).1, h.cell (a3.mono hl).2.1, h.cell (a3.mono hl).2.2.1, h.cell (a3.mono hl).2.2.2.1, h.cell (a3.mono hl).2.2.2.2⟩
          have cl := hD.blk_lt
          have hal := World.block_lt_of_cell? _ _ (hD.cell a3.1)
          go_wp2_with fail
          refine wp_region_held_drew (S := fun w' : World => w'.cell? ⟨p, 1, none⟩ = some (.map (some g)) ∧ w'.cell? ⟨gb, 0, none⟩ = some (.int .i64 (n : Int)) ∧ w'.cell? ⟨gb, 1, none⟩ = some (.int .i64 s) ∧ w'.cell? ⟨gb, 2, none⟩ = some (.int .i64 q) ∧ w'.cell? ⟨gb, 3, none⟩ = some (.slice d1 d2 d3) ∧ w'.cell? ⟨gb, 4, none⟩ = some (.slice b1 b2 b3)) (by kernel_rfl) (kk _ _ _ (Hp.le_refl _) hD2) (fun hHeld => ?_)
          refine wpAnyH_take (i := 0) (oi := { dst := some 52, op := Go.Op.move (Go.Operand.tmp 0), type := 67, pos := "vertex.go:61", after := #[], guard := none }) (v := ?_) rfl (by kernel_rfl) (by kernel_rfl) (by kernel_rfl) (fun _ _ _ h => h) (Or.inl ⟨by rfl, ?_⟩) (by assumption) ?_
          rotate_left
          · (intro w hSw; (try dsimp only at hSw); go_simp; (try (with_reducible rfl)))
          try simp only [Act.put, List.setIfInBounds_toArray, List.set_cons_zero, List.set_cons_succ]
          refine wpAnyH_take (i := 1) (oi := { dst := some 53, op := Go.Op.nilCheck (Go.Operand.tmp 52), type := 0, pos := "vertex.go:61", after := #[{ on := 0, ground := Go.Ground.data }], guard := none }) (v := ?_) rfl (by kernel_rfl) (by kernel_rfl) (by kernel_rfl) (fun _ _ _ h => h) (Or.inl ⟨by rfl, ?_⟩) (by assumption) ?_
          rotate_left
          · (intro w hSw; (try dsimp only at hSw); go_simp; (try (with_reducible rfl)))
          try simp only [Act.put, List.setIfInBounds_toArray, List.set_cons_zero, List.set_cons_succ]
          refine wpAnyH_take (i := 2) (oi := { dst := some 54, op := Go.Op.fieldAddr 120 (Go.Operand.tmp 53) 1, type := 0, pos := "vertex.go:61", after := #[{ on := 1, ground := Go.Ground.data }], guard := none }) (v := ?_) rfl (by kernel_rfl) (by kernel_rfl) (by kernel_rfl) (fun _ _ _ h => h) (Or.inl ⟨by rfl, ?_⟩) (by assumption) ?_
          rotate_left
          · (intro w hSw; (try dsimp only at hSw); go_simp; (try (with_reducible rfl)))
          try simp only [Act.put, List.setIfInBounds_toArray, List.set_cons_zero, List.set_cons_succ]
          refine wpAnyH_take (i := 3) (oi := { dst := some 55, op := Go.Op.load 116 (Go.Operand.tmp 54), type := 116, pos := "vertex.go:61", after := #[{ on := 2, ground := Go.Ground.data }], guard := none }) (v := ?_) rfl (by kernel_rfl) (by kernel_rfl) (by kernel_rfl) (fun _ _ _ h => h) (Or.inl ⟨by rfl, ?_⟩) (by assumption) ?_
          rotate_left
          · (intro w hSw; (try dsimp only at hSw); go_simp; (try (with_reducible rfl)))
          try simp only [Act.put, List.setIfInBounds_toArray, List.set_cons_zero, List.set_cons_succ]
          refine wpAnyH_take (i := 4) (oi := { dst := some 56, op := Go.Op.fieldAddr 32 (Go.Operand.tmp 3) 0, type := 0, pos := "vertex.go:61", after := #[], guard := none }) (v := ?_) rfl (by kernel_rfl) (by kernel_rfl) (by kernel_rfl) (fun _ _ _ h => h) (Or.inl ⟨by rfl, ?_⟩) (by assumption) ?_
          rotate_left
          · (intro w hSw; (try dsimp only at hSw); go_simp; (try (with_reducible rfl)))
          try simp only [Act.put, List.setIfInBounds_toArray, List.set_cons_zero, List.set_cons_succ]
          refine wpAnyH_take (i := 5) (oi := { dst := some 57, op := Go.Op.load 28 (Go.Operand.tmp 56), type := 28, pos := "vertex.go:61", after := #[{ on := 4, ground := Go.Ground.data }], guard := none }) (v := ?_) rfl (by kernel_rfl) (by kernel_rfl) (by kernel_rfl) (fun _ _ _ h => h) (Or.inl ⟨by rfl, ?_⟩) (by assumption) ?_
          rotate_left
          · (intro w hSw; (try dsimp only at hSw); go_simp; (try (with_reducible rfl)))
          try simp only [Act.put, List.setIfInBounds_toArray, List.set_cons_zero, List.set_cons_succ]
          refine wpAnyH_take (i := 6) (oi := { dst := some 58, op := Go.Op.load 32 (Go.Operand.tmp 3), type := 32, pos := "vertex.go:61", after := #[], guard := none }) (v := ?_) rfl (by kernel_rfl) (by kernel_rfl) (by kernel_rfl) (fun _ _ _ h => h) (Or.inl ⟨by rfl, ?_⟩) (by assumption) ?_
          rotate_left
          · (intro w hSw; (try dsimp only at hSw); go_simp; (try (with_reducible rfl)))
          try simp only [Act.put, List.setIfInBounds_toArray, List.set_cons_zero, List.set_cons_succ]
          refine wpAnyH_ready (rs := [7]) (by kernel_rfl) (by simp) ?_
          refine AllReadyH.cons (o := { dst := some 59, op := Go.Op.call { callee := Go.Callee.value (Go.Operand.func 56), args := #[Go.Operand.tmp 58], argTypes := #[32] }, type := 32, pos := "vertex.go:61", after := #[{ on := 6, ground := Go.Ground.data }], guard := none }) rfl (fun K hK => ?_) AllReadyH.nil
          go_simp
          refine hCp.out.mono ?_
          rintro e w6 he
          obtain ⟨⟨dv', bv'⟩, rfl, h6, en6⟩ := ResE.lift hD2 he
          obtain ⟨i1, i2, i3, rfl, _⟩ := h6.row_form
          obtain ⟨j1, j2, j3, rfl, _⟩ := h6.swap.row_form
          obtain ⟨H4, l4, h7, hd⟩ := h6.row_keep
          obtain ⟨H5, l5, h8, hb⟩ := h7.row_keep
          refine hK.out _ _ (kk _ _ _ (Hp.le_trans l4 l5) h8) (fun hHeld2 => ?_)
          clear hK K hHeld
          try simp only [Act.put, List.setIfInBounds_toArray, List.set_cons_zero, List.set_cons_succ]
          refine wpAnyH_take (i := 8) (oi := { dst := some 60, op := Go.Op.build 122 #[(0, Go.Operand.tmp 59)], type := 122, pos := "vertex.go:61", after := #[{ on := 7, ground := Go.Ground.data }], guard := none }) (v := ?_) rfl (by kernel_rfl) (by kernel_rfl) (by kernel_rfl) (fun _ _ _ h => h) (Or.inl ⟨by rfl, ?_⟩) (by assumption) ?_
          rotate_left
          · (intro w hSw; (try dsimp only at hSw); go_simp; (try (with_reducible rfl)))
          try simp only [Act.put, List.setIfInBounds_toArray, List.set_cons_zero, List.set_cons_succ]
          refine wpAnyH_ready (rs := [9]) (by kernel_rfl) (by simp) ?_
          refine AllReadyH.cons (o := { dst := none, op := Go.Op.mapUpdate 116 (Go.Operand.tmp 55) (Go.Operand.tmp 57) (Go.Operand.tmp 60), type := 0, pos := "vertex.go:61", after := #[{ on := 3, ground := Go.Ground.data }, { on := 5, ground := Go.Ground.data }, { on := 8, ground := Go.Ground.data }, { on := 7, ground := Go.Ground.chain }, { on := 0, ground := Go.Ground.phase }, { on := 1, ground := Go.Ground.phase }, { on := 2, ground := Go.Ground.phase }, { on := 3, ground := Go.Ground.phase }, { on := 4, ground := Go.Ground.phase }, { on := 5, ground := Go.Ground.phase }, { on := 6, ground := Go.Ground.phase }, { on := 7, ground := Go.Ground.phase }, { on := 8, ground := Go.Ground.phase }], guard := none }) rfl (fun K hK => ?_) AllReadyH.nil
          obtain ⟨w7, hmu, h9, en7⟩ := h8.swap.mp_put (t := 116) Try.underlying116 ((n : Int), s) ((((n : Int), s), q, .slice i1 i2 i3, .slice j1 j2 j3, xD, xB), false)
          change (Instr.mapUpdate 116 (.map (some g)) (.agg #[.int .i64 (n : Int), .int .i64 s]) (.agg #[.int .i64 (n : Int), .int .i64 s, .int .i64 q, .slice i1 i2 i3, .slice j1 j2 j3, .bool false])).run Try.prog w6 = .ok () w7 at hmu
          go_simp
          refine hK.out _ _ (kk _ _ _ (Hp.le_trans l4 l5) h9.swap) (fun hHeld3 => ?_)
          clear hK K hHeld2
          try simp only [Act.put, List.setIfInBounds_toArray, List.set_cons_zero, List.set_cons_succ]
          refine wpAnyH_done (by kernel_rfl) ?_ _
          rw [hK2.out _ rfl] at h9
          have hz := Lib.hid (hgood H5 (((n : Int), s), q, .slice i1 i2 i3, .slice j1 j2 j3, xD, xB) w7 (by trivial) (Hp.le_trans l13 (Hp.le_trans l4 l5)) ⟨hd.mono l5, hb, hx.ok⟩ rfl (vsShut h9.swap) ((en5.drew.trans en6).trans en7))
          go_wp2_with fail
          exact hz.out
  · rw [if_pos hre] at hE
    have hq := hbad _ H1 w2 hE.symm hre l1 h2 en2
    replace hq := Lib.hid hq
    generalize recErr (rp ((r, s), q, .slice d1 d2 d3, .slice b1 b2 b3, xD, xB)) = R at *
    clear hE hbad hgood
    go_wp2_with fail
    exact hq.out
end Go.Proofs.Ytelmhcbdpimaaaa

/- Records that are kept: Kept; what is taken out of a map under a range. -/
set_option linter.unusedVariables false
set_option linter.unusedSimpArgs false
namespace Go.Proofs.Ytelmhcbdpimaaaa
open Go.RowKit Go.Cw Go.Fl
attribute [local go_sem ↓] eql_id neq_id
theorem filter_erase {α : Type} (p : α → Bool) (l : List α) (j : Nat) (x : α) (h : l[j]? = some x) (hp : p x = false) : (l.eraseIdx j).filter p = l.filter p := by
  induction l generalizing j with
  | nil => simp
  | cons y r ih =>
    cases j with
    | zero =>
      simp only [List.getElem?_cons_zero, Option.some.injEq] at h
      subst h
      rw [List.eraseIdx_cons_zero, List.filter_cons, if_neg (by simp [hp])]
    | succ j =>
      rw [List.getElem?_cons_succ] at h
      rw [List.eraseIdx_cons_succ, List.filter_cons, List.filter_cons, ih j h]
theorem mem_erase {α : Type} {l : List α} {j : Nat} {x : α} (h : x ∈ l.eraseIdx j) : x ∈ l := (List.eraseIdx_sublist l j).subset h
section
open Go.MapKept
open Go.ChangeMaps (setBlock)
/-- What came already is taken out of a map under a range. -/
theorem St.rg_del {P : Program} {k e t : TypeId} {κ ν : Type} [DecidableEq κ] {C : Go.Cw.Code P k κ ν} {g r : Nat} {l left : List (κ × ν)} {H : Hp} {fr : List HA} {w : World} {ty : TypeId}
    (h : St H (Rg C g r l left :: fr) w) (ht : P.underlying t = some (.map k e)) (a : κ) (ha : a ∉ left.map (·.1)) :
    ∃ w', (Builtin.delete_ #[t, k] ty #[.map (some g), C.kv a]).run P w = .ok (.tuple #[]) w' ∧ St H (Rg C g r (mdel a l) left :: fr) w' ∧ Env w w' := by
  obtain ⟨hne, es, clock, since, seen, c0, hb, hst, he, hr, hold, hsc, hsk, hleft⟩ := h.get (φ := g ≠ r ∧ ∃ es clock since seen c0, w.heap[g]? = some (.map es clock) ∧ Stamped es clock ∧ es.toList.map ent = l.map C.enc ∧ w.heap[r]? = some (.mapIter (some g) since seen c0) ∧
    (∀ x ∈ es.toList, x.born < since) ∧ since ≤ c0 ∧ since ≤ clock ∧ (leftOf es seen).toList.map ent = left.map C.enc) (fun S hS => hS.1)
  have key : ∀ es' : Array MapEntry, Stamped es' clock → es'.toList.map ent = (mdel a l).map C.enc → (∀ x ∈ es'.toList, x ∈ es.toList) → (leftOf es' seen).toList = (leftOf es seen).toList → St H (Rg C g r (mdel a l) left :: fr) (setBlock w g (.map es' clock)) := by
    intro es' h1 h2 h3 h4
    refine h.turn (by simp [setBlock]) (fun S hS => ⟨S, ⟨⟨hne, es', clock, since, seen, c0, Go.ChangeMaps.heap_setBlock_same hb _, h1, h2, ?_, fun x hx => hold x (h3 x hx), hsc, hsk, by rw [h4]; exact hleft⟩, hS.2⟩, fun j hj => .inl hj, fun j _ hj => ?_⟩)
    · exact (Go.ChangeMaps.heap_setBlock_other hb _ (Ne.symm hne)).trans hr
    · exact Go.ChangeMaps.heap_setBlock_other hb _ (fun e => hj ((hS.2 j).2 (.inl e)))
  rcases C.kinds.find w ⟨a, rfl⟩ es.toList (keys_of he) with ⟨h1, h2⟩ | ⟨j, e0, h1, h2, h3⟩
  · refine ⟨setBlock w g (.map es clock), ?_, key es hst ?_ (fun _ hx => hx) rfl, env_setBlock _ _ _⟩
    · simp [Builtin.delete_, run_underlying ht, MapKept.run_getObj_map hb, C.kinds.check w _ ⟨a, rfl⟩, h1, MapKept.run_setObj_map _ hb, Result.andThen, setBlock]
    · have hn := none_of he h2
      have hfs : mdel a l = l := List.filter_eq_self.2 (fun q hq => decide_eq_true (fun (e' : q.1 = a) => hn (e' ▸ (List.mem_map.2 ⟨q, hq, rfl⟩ : q.1 ∈ l.map (·.1)))))
      rw [hfs, he]
  · obtain ⟨y, hx, hv⟩ := some_of he h2 h3
    have hjl : j < es.toList.length := (List.getElem?_eq_some_iff.1 h2).1
    have hjs : j < es.size := by simpa using hjl
    have hsub : (es.eraseIdxIfInBounds j).toList = es.toList.eraseIdx j := by
      unfold Array.eraseIdxIfInBounds
      rw [dif_pos hjs]
      simp
    refine ⟨setBlock w g (.map (es.eraseIdxIfInBounds j) clock), ?_, key _ (stamped_erase hst j) ?_ (fun x hx => by rw [hsub] at hx; exact mem_erase hx) ?_, env_setBlock _ _ _⟩
    · simp [Builtin.delete_, run_underlying ht, MapKept.run_getObj_map hb, C.kinds.check w _ ⟨a, rfl⟩, h1, MapKept.run_setObj_map _ hb, Result.andThen, setBlock]
    · rw [hsub, filter_del (nodup_of hst he) hx, Go.ChangeMaps.map_eraseIdx, Go.ChangeMaps.map_eraseIdx, he]
    · unfold leftOf at hleft ⊢
      rw [Array.toList_filter] at hleft
      rw [Array.toList_filter, Array.toList_filter, hsub]
      refine filter_erase _ _ _ _ h2 ?_
      cases hc : (!seen.contains e0.born) with
      | false => rfl
      | true =>
        exfalso
        have hm : ent e0 ∈ left.map C.enc := hleft ▸ List.mem_map.2 ⟨e0, List.mem_filter.2 ⟨List.mem_of_getElem? h2, hc⟩, rfl⟩
        obtain ⟨q, hq, hqe⟩ := List.mem_map.1 hm
        exact ha (List.mem_map.2 ⟨q, hq, C.inj _ _ ((congrArg Prod.fst hqe).trans h3)⟩)
end
theorem entsK_split {L : List Kp} {pre post : List (Id × Kp)} {p : Id × Kp} (h : entsK L = pre ++ p :: post) : ∃ A x B, L = A ++ x :: B ∧ p = (x.1.1, x) ∧ pre = entsK A ∧ post = entsK B := by
  unfold entsK at h
  obtain ⟨A, q, rfl, hA, hq⟩ := List.map_eq_append_iff.1 h
  obtain ⟨x, B, rfl, hx, hB⟩ := List.map_eq_cons_iff.1 hq
  exact ⟨A, x, B, rfl, hx.symm, hA.symm, hB.symm⟩
/-- What came out of a range, and what is left. -/
def Came (left pre post : List Kp) (x : Id) (v : Value) : Prop := ∃ y : Kp, y.1.1 = x ∧ kpV y = v ∧ left = pre ++ y :: post
theorem wpList_knext {H : Hp} {fr : List HA} {w : World} {g r : Nat} {L left : List Kp} {ops : Array Oper} {rest : List Oper} {o : Oper} {a : Act} {Q : Exit → Act → World → Prop}
    (hst : St H (Rg kpC g r (entsK L) (entsK left) :: fr) w) (hg : o.guard = none) (it : Operand) (hop : o.op = Op.next it false) (hit : a.eval it = .pointer (some ⟨r, 0, none⟩))
    (hDone : left = [] → wpList Try.prog ops Q rest (a.put o.dst (.tuple #[.bool false])) w)
    (hMore : ∀ (pre post : List Kp) (x : Id) (v : Value) (w' : World), Came left pre post x v → St H (Rg kpC g r (entsK L) (entsK (pre ++ post)) :: fr) w' → Env w w' → (Instr.entry (.pointer (some ⟨r, 0, none⟩))).run Try.prog w' = .ok (.tuple #[idV x, v]) w' →
      wpList Try.prog ops Q rest (a.put o.dst (.tuple #[.bool true, idV x, v])) w') : wpList Try.prog ops Q (o :: rest) a w := by
  refine wpList_mnext hst hg it hop hit (fun h => hDone (by cases left with | nil => rfl | cons x l => simp [entsK] at h)) ?_
  intro pre post p w' hl h' en hen
  obtain ⟨A, x, B, rfl, rfl, rfl, rfl⟩ := entsK_split hl
  refine hMore A B x.1.1 (kpV x) w' ⟨x, rfl, rfl, rfl⟩ ?_ en hen
  unfold entsK at *
  rw [List.map_append]
  exact h'
theorem rgk_left {H : Hp} {fr : List HA} {w : World} {g r : Nat} {L left : List Kp} (h : St H (Rg kpC g r (entsK L) (entsK left) :: fr) w) : w.rangeLeft g r = left.length := h.get (fun S hS => by
  obtain ⟨⟨hne, es, clock, since, seen, c0, h1, h2, h3, h4, h5, h6, h7, h8⟩, hS⟩ := hS
  have := congrArg List.length h8
  simp only [List.length_map, entsK_len] at this
  simp only [World.rangeLeft, h1, h4]
  simpa using this)
set_option maxRecDepth 100000 in
set_option maxHeartbeats 3200000 in
theorem vsKept_any (p : Nat) (room : Int) (K : List Kp) (M : List Id) (low : List Nat) (H : Hp) (fr : List HA) (w : World) (h : St H (VsA p room K M low :: fr) w) (hKl : K.length ≤ 1000000) :
    Calls Try.prog 43 #[vsP p] w fun e w' => ∃ v, e = .returned v ∧ St H (Row 28 2 v (idl (sortL (kids K))) :: VsA p room K M low :: fr) w' ∧ Env w w' := by
  have hnd := vs_nodup h
  obtain ⟨g, f, h1⟩ := vsOpen h
  have hc : w.cell? ⟨p, 1, none⟩ = some (.map (some g)) := h1.blk_cell 1
  have hl := h1.blk_lt
  go_enter Try.func43, Try.ntmps43
  go_wp2_with (at_range; refine wpList_mrange h1.swap rfl (.tmp 10) rfl Try.underlying116 rfl ?_; intro w2 h2 en2)
  go_frame
  have h3 := (h2.row_nil 28 2)
  generalize w.heap.size = r at *
  go_loopw [3] (fun lv wr => ∃ (out : List Id) (left : List Kp), St H (Row 28 2 lv (idl out) :: Rg kpC g r (entsK K) (entsK left) :: Blk p (vsC room g f low) 120 :: FrI f M :: fr) wr ∧ Env w wr ∧ Hid ((out ++ kids left).Perm (kids K))) (fun _ wr => wr.rangeLeft g r)
  case atStart => exact ⟨[], K, h3, en2, Lib.hid (List.Perm.refl _)⟩
  case round =>
    clear h h1 h2 h3 hc hl en2
    obtain ⟨out, left, hst, hen, HP⟩ := hrel
    go_wp2_with (at_next; refine wpList_knext hst.swap rfl (.tmp 11) rfl rfl ?_ ?_)
    · intro hl0
      subst hl0
      have hperm : out.Perm (kids K) := by simpa [kids] using HP.out
      have hno : out.Nodup := hperm.nodup_iff.2 hnd
      have hlo : out.length ≤ K.length := by rw [hperm.length_eq]; simp [kids]
      go_wp2_with fail
      refine (identSorted_nodup _ out _ (hst.row_rw (by omega)) hno (by omega)).mono ?_
      rintro e w6 he
      obtain ⟨v, rfl, h6, en6⟩ := ResE.lift hst he
      have hso : idSort out = sortL (kids K) := rises_eq (idSort_rises hno) (sortL_rises _) (fun a => by
        rw [show (a ∈ idSort out ↔ a ∈ out) from (List.mergeSort_perm out _).mem_iff, hperm.mem_iff, sortL_mem])
      rw [hso] at h6
      have a1 : St H (Row 28 2 v (idl (sortL (kids K))) :: Rg kpC g r (entsK K) (entsK []) :: Blk p (vsC room g f low) 120 :: FrI f M :: fr) w6 := h6.swap.drop
      have a2 := a1.swap.rg_end
      have a3 : St H (Blk p (vsC room g f low) 120 :: Mp kpC g (entsK K) :: FrI f M :: Row 28 2 v (idl (sortL (kids K))) :: fr) w6 := (a2.pick 2 (by simp)).perm (by
        refine List.Perm.cons _ (List.Perm.cons _ ?_)
        exact List.Perm.swap _ _ _)
      have hz := Lib.hid (And.intro (vsShut a3).swap (hen.trans en6))
      go_wp2_with fail
      go_ret
      exact ⟨v, rfl, hz.out.1, hz.out.2⟩
    · intro pre post xa xb vv w5 hlf h5 en5 hent
      obtain ⟨y, hyx, hyv, hleft⟩ := hlf
      clear hyv
      have hent : (Instr.entry (.pointer (some ⟨r, 0, none⟩))).run Try.prog w5 = .ok (.tuple #[.agg #[.int .i64 xa, .int .i64 xb], vv]) w5 := hent
      obtain ⟨H', hle, h6, hy⟩ := h5.box #[.int .i64 xa, .int .i64 xb] 28
      have x0 := h6.cell (hy 0 _ rfl)
      have x1 := h6.cell (hy 1 _ rfl)
      have xl := World.block_lt_of_cell? _ _ x0
      have en6 := (hen.trans en5).alloc (.cells #[.int .i64 xa, .int .i64 xb] 28)
      have hms := Lib.hid (rgk_left hst.swap)
      have HN : Hid (((out ++ [(xa, xb)]) ++ kids (pre ++ post)).Perm (kids K)) := Lib.hid (by
        refine List.Perm.trans ?_ HP.out
        rw [hleft]
        simp only [kids, List.map_append, List.map_cons, List.append_assoc, List.singleton_append, hyx]
        refine List.Perm.append_left out ?_
        exact (List.perm_middle).symm)
      have hol : (out ++ [(xa, xb)]).length ≤ K.length := by
        have h1 := HN.out.length_eq
        rw [List.length_append] at h1
        simp only [kids, List.length_map] at h1
        omega
      rw [List.length_append] at hol
      replace hleft := Lib.hid hleft
      clear hy HP hyx
      have h8 := h6.swap
      have e1 : (w5.alloc (.cells #[.int .i64 xa, .int .i64 xb] 28)).heap.size = w5.heap.size + 1 := by simp
      go_wp2_with (at_builtin; refine wpList_append rfl (.tmp 16) (.tmp 18) 29 29 rfl Try.underlying29 (.inl ⟨_, Try.underlying29⟩) (.agg #[.int .i64 0, .int .i64 0]) 16 info_id rfl (by decide) (by decide) rfl rfl (h8.alloc _) (news_at _ _ 1 #[.int .i64 xa, .int .i64 xb] rfl (by simp [Value.oneCell']) e1) ?apB1 ?apK1)
      try case apB1 => first | omega | (simp; omega) | (simp [idl_len]; omega) | skip
      intro v' w9 h9 en9
      go_wp2_with fail
      go_roundw
      case rel => exact ⟨out ++ [(xa, xb)], pre ++ post, by simpa [idl, idc] using h9.weaken hle, (en6.alloc _).trans en9, HN⟩
      case measure => rw [rgk_left h9.swap, hms.out, hleft.out]; simp
end Go.Proofs.Ytelmhcbdpimaaaa
