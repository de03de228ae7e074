/- Joined texts: Model22, Model23. -/
import Derived.Test.YtelmhcbdpimaaaaVA16
import Derived.Test.YtelmhcbdpimaaaaVA18
/- Law 21's model: put. -/
set_option linter.unusedVariables false
set_option linter.unusedSimpArgs false
namespace Go.Proofs.Ytelmhcbdpimaaaa
open Go.RowKit Go.Cw Go.Fl
attribute [local go_sem ↓] eql_id neq_id
/-- What the model's put is told. -/
def mdE (room : Int) (L : List Rc) (low : List Nat) (x : Rp) : Int :=
  if recErr x ≠ 0 then recErr x else if x.1.2 ≤ ((low.getD x.1.1.toNat 0 : Nat) : Int) then 14 else if x.1 ∈ rids L then (if recSame (lookR (L.map rp) x.1) x then 16 else 15) else if room ≤ (L.length : Int) then 13 else 0
/-- What the model's put does. -/
def MPut (H : Hp) (p : Nat) (room : Int) (L : List Rc) (D : List Id) (low : List Nat) (fr : List HA) (x : Rc) (w : World) (e : Ending) (w' : World) : Prop :=
  e = .returned (.int .i64 (mdE room L low (rp x))) ∧ Env w w' ∧ St H (MdA p room (if mdE room L low (rp x) = 0 then L ++ [x] else L) D low :: fr) w'
set_option maxRecDepth 100000 in
set_option maxHeartbeats 6400000 in
theorem mdPut_any (p : Nat) (room : Int) (L : List Rc) (D : List Id) (low : List Nat) (hlow : low.length = 8) (x : Rc) (H : Hp) (fr : List HA) (w : World) (h : St H (MdA p room L D low :: fr) w) (hx : RcD H x) (hL : ∀ y ∈ L, RcD H y) (hLn : L.length ≤ 1000) :
    Calls Try.prog 48 #[mdP p, recV x] w (MPut H p room L D low fr x w) := by
  have hbad : ∀ (E : Int) (w' : World), mdE room L low (rp x) = E → E ≠ 0 → St H (MdA p room L D low :: fr) w' → Env w w' → MPut H p room L D low fr x w (.returned (.int .i64 E)) w' := fun E w' h1 h2 h3 h4 => ⟨by rw [h1], h4, by rw [h1, if_neg h2]; exact h3⟩
  have hgood : ∀ (w' : World), mdE room L low (rp x) = 0 → St H (MdA p room (L ++ [x]) D low :: fr) w' → Env w w' → MPut H p room L D low fr x w (.returned (.int .i64 0)) w' := fun w' h1 h3 h4 => ⟨by rw [h1], h4, by rw [h1, if_pos rfl]; exact h3⟩
  generalize MPut H p room L D low fr x w = Q at *
  obtain ⟨E, hE⟩ : ∃ E, mdE room L low (rp x) = E := ⟨_, rfl⟩
  rw [hE] at hbad hgood
  unfold mdE at hE
  have hri := recErr_id (rp x)
  have hone := rec_one x hx
  obtain ⟨lv, dv, h0⟩ := mdOpen h
  obtain ⟨la, ln, lc, rfl, hln, _⟩ := h0.swap.row_form
  rw [recs_len] at hln
  obtain rfl : ln = L.length := by omega
  obtain ⟨d1, d2, d3, hdv, _⟩ := hx.d.form
  obtain ⟨b1, b2, b3, hbv, _⟩ := hx.b.form
  obtain ⟨H1, l1, h1, a⟩ := St.rcBox h0 x
  have en1 := (Env.refl w).alloc (.cells (rcA x) 32)
  have hC := fun (w' : World) (h' : St H1 (Blk p (mdC room (.slice la L.length lc) dv low) 81 :: Row 32 5 (.slice la L.length lc) (recs L) :: Row 28 2 dv (idl D) :: fr) w') => refRec_any x w' ((hx.mono l1).rw h')
  replace hC := Lib.hid hC
  have happ : ∀ m : List Value, m = recc x → recs L ++ m = recs (L ++ [x]) := fun m hm => by rw [hm, recs_append]; simp [recs]
  obtain ⟨⟨r, s⟩, q, dv', bv', xD, xB⟩ := x
  simp only at hdv hbv en1 h1
  subst hdv hbv
  have u0 := h1.cell a.1
  have u1 := h1.cell a.2.1
  have u2 := h1.cell a.2.2.1
  have u3 := h1.cell a.2.2.2.1
  have u4 := h1.cell a.2.2.2.2
  have ul := World.block_lt_of_cell? _ _ u0
  simp only at u0 u1 u2 u3 u4
  clear h h0
  go_enter Try.func48, Try.ntmps48
  go_wp2_with fail
  refine (hC.out _ h1).mono ?_
  rintro e w2 ⟨rfl, hb2⟩
  clear u0 u1 u2 u3 u4 ul
  have h2 := h1.below hb2
  have en2 := en1.trans (bel_env hb2)
  clear h1 en1 hb2
  generalize w.heap.size = gb at *
  by_cases hre : recErr (rp ((r, s), q, .slice d1 d2 d3, .slice b1 b2 b3, xD, xB)) = 0
  · obtain ⟨hr0, hr8, hs1, hs2⟩ := (idOk_iff _).1 (hri hre)
    simp only [rp] at hr0 hr8 hs1 hs2
    rw [if_neg (by simpa using hre)] at hE
    rw [hre]
    obtain ⟨n, rfl⟩ : ∃ n : Nat, r = (n : Int) := ⟨r.toNat, by omega⟩
    have hn8 : n < 8 := by omega
    simp only [rp, Int.toNat_natCast] at hE
    obtain ⟨lo, hlo⟩ : ∃ lo : Nat, low.getD n 0 = lo := ⟨_, rfl⟩
    rw [hlo] at hE
    clear hC
    have kk : ∀ (l' : List HA) (w' : World), St H1 (Blk p (mdC room (.slice la L.length lc) dv low) 81 :: l') w' → (fun w' : World => w'.cell? ⟨gb, 0, none⟩ = some (.int .i64 (n : Int)) ∧ w'.cell? ⟨gb, 1, none⟩ = some (.int .i64 s) ∧ w'.cell? ⟨gb, 2, none⟩ = some (.int .i64 q) ∧ w'.cell? ⟨gb, 3, none⟩ = some (.slice d1 d2 d3) ∧ w'.cell? ⟨gb, 4, none⟩ = some (.slice b1 b2 b3) ∧ w'.cell? ⟨p, 3 + n, none⟩ = some (.int .i64 (lo : Int)) ∧ w'.cell? ⟨p, 1, none⟩ = some (.slice la L.length lc) ∧ w'.cell? ⟨p, 0, none⟩ = some (.int .i64 room)) w' := fun l' w' h => ⟨h.cell a.1, h.cell a.2.1, h.cell a.2.2.1, h.cell a.2.2.2.1, h.cell a.2.2.2.2, by have := h.blk_cell (3 + n); rw [mdC_low _ _ _ _ _ (by omega), hlo] at this; exact this, h.blk_cell 1, h.blk_cell 0⟩
    have hD := h2.drew
    have cl := h2.blk_lt
    have ul := World.block_lt_of_cell? _ _ (h2.cell a.1)
    go_wp2_with fail
    refine wp_region_held_drew (S := fun w' : World => w'.cell? ⟨gb, 0, none⟩ = some (.int .i64 (n : Int)) ∧ w'.cell? ⟨gb, 1, none⟩ = some (.int .i64 s) ∧ w'.cell? ⟨gb, 2, none⟩ = some (.int .i64 q) ∧ w'.cell? ⟨gb, 3, none⟩ = some (.slice d1 d2 d3) ∧ w'.cell? ⟨gb, 4, none⟩ = some (.slice b1 b2 b3) ∧ w'.cell? ⟨p, 3 + n, none⟩ = some (.int .i64 (lo : Int)) ∧ w'.cell? ⟨p, 1, none⟩ = some (.slice la L.length lc) ∧ w'.cell? ⟨p, 0, none⟩ = some (.int .i64 room)) (by kernel_rfl) (kk _ _ hD) (fun hHeld => ?_)
    refine wpAnyH_take (i := 0) (oi := { dst := some 11, op := Go.Op.fieldAddr 32 (Go.Operand.tmp 3) 0, type := 0, pos := "law.go:46", after := #[], guard := none }) (v := ?_) rfl (by kernel_rfl) (by kernel_rfl) (by kernel_rfl) (fun _ _ _ h => h) (Or.inl ⟨by rfl, ?_⟩) (by assumption) ?_
    rotate_left
    · (intro w hSw; (try dsimp only at hSw); go_simp; (try (with_reducible rfl)))
    try simp only [Act.put, List.setIfInBounds_toArray, List.set_cons_zero, List.set_cons_succ]
    refine wpAnyH_take (i := 1) (oi := { dst := some 12, op := Go.Op.fieldAddr 28 (Go.Operand.tmp 11) 1, type := 0, pos := "law.go:46", after := #[{ on := 0, ground := Go.Ground.data }], guard := none }) (v := ?_) rfl (by kernel_rfl) (by kernel_rfl) (by kernel_rfl) (fun _ _ _ h => h) (Or.inl ⟨by rfl, ?_⟩) (by assumption) ?_
    rotate_left
    · (intro w hSw; (try dsimp only at hSw); go_simp; (try (with_reducible rfl)))
    try simp only [Act.put, List.setIfInBounds_toArray, List.set_cons_zero, List.set_cons_succ]
    refine wpAnyH_take (i := 2) (oi := { dst := some 13, op := Go.Op.load 3 (Go.Operand.tmp 12), type := 3, pos := "law.go:46", after := #[{ on := 1, ground := Go.Ground.data }], guard := none }) (v := ?_) rfl (by kernel_rfl) (by kernel_rfl) (by kernel_rfl) (fun _ _ _ h => h) (Or.inl ⟨by rfl, ?_⟩) (by assumption) ?_
    rotate_left
    · (intro w hSw; (try dsimp only at hSw); go_simp; (try (with_reducible rfl)))
    try simp only [Act.put, List.setIfInBounds_toArray, List.set_cons_zero, List.set_cons_succ]
    refine wpAnyH_take (i := 3) (oi := { dst := some 14, op := Go.Op.move (Go.Operand.tmp 0), type := 78, pos := "law.go:46", after := #[], guard := none }) (v := ?_) rfl (by kernel_rfl) (by kernel_rfl) (by kernel_rfl) (fun _ _ _ h => h) (Or.inl ⟨by rfl, ?_⟩) (by assumption) ?_
    rotate_left
    · (intro w hSw; (try dsimp only at hSw); go_simp; (try (with_reducible rfl)))
    try simp only [Act.put, List.setIfInBounds_toArray, List.set_cons_zero, List.set_cons_succ]
    refine wpAnyH_take (i := 4) (oi := { dst := some 15, op := Go.Op.fieldAddr 32 (Go.Operand.tmp 3) 0, type := 0, pos := "law.go:46", after := #[], guard := none }) (v := ?_) rfl (by kernel_rfl) (by kernel_rfl) (by kernel_rfl) (fun _ _ _ h => h) (Or.inl ⟨by rfl, ?_⟩) (by assumption) ?_
    rotate_left
    · (intro w hSw; (try dsimp only at hSw); go_simp; (try (with_reducible rfl)))
    try simp only [Act.put, List.setIfInBounds_toArray, List.set_cons_zero, List.set_cons_succ]
    refine wpAnyH_take (i := 5) (oi := { dst := some 16, op := Go.Op.fieldAddr 28 (Go.Operand.tmp 15) 0, type := 0, pos := "law.go:46", after := #[{ on := 4, ground := Go.Ground.data }], guard := none }) (v := ?_) rfl (by kernel_rfl) (by kernel_rfl) (by kernel_rfl) (fun _ _ _ h => h) (Or.inl ⟨by rfl, ?_⟩) (by assumption) ?_
    rotate_left
    · (intro w hSw; (try dsimp only at hSw); go_simp; (try (with_reducible rfl)))
    try simp only [Act.put, List.setIfInBounds_toArray, List.set_cons_zero, List.set_cons_succ]
    refine wpAnyH_take (i := 6) (oi := { dst := some 17, op := Go.Op.load 3 (Go.Operand.tmp 16), type := 3, pos := "law.go:46", after := #[{ on := 5, ground := Go.Ground.data }], guard := none }) (v := ?_) rfl (by kernel_rfl) (by kernel_rfl) (by kernel_rfl) (fun _ _ _ h => h) (Or.inl ⟨by rfl, ?_⟩) (by assumption) ?_
    rotate_left
    · (intro w hSw; (try dsimp only at hSw); go_simp; (try (with_reducible rfl)))
    try simp only [Act.put, List.setIfInBounds_toArray, List.set_cons_zero, List.set_cons_succ]
    refine wpAnyH_take (i := 7) (oi := { dst := some 18, op := Go.Op.nilCheck (Go.Operand.tmp 14), type := 0, pos := "law.go:46", after := #[{ on := 3, ground := Go.Ground.data }], guard := none }) (v := ?_) rfl (by kernel_rfl) (by kernel_rfl) (by kernel_rfl) (fun _ _ _ h => h) (Or.inl ⟨by rfl, ?_⟩) (by assumption) ?_
    rotate_left
    · (intro w hSw; (try dsimp only at hSw); go_simp; (try (with_reducible rfl)))
    try simp only [Act.put, List.setIfInBounds_toArray, List.set_cons_zero, List.set_cons_succ]
    refine wpAnyH_take (i := 8) (oi := { dst := some 19, op := Go.Op.fieldAddr 81 (Go.Operand.tmp 18) 3, type := 0, pos := "law.go:46", after := #[{ on := 7, ground := Go.Ground.data }], guard := none }) (v := ?_) rfl (by kernel_rfl) (by kernel_rfl) (by kernel_rfl) (fun _ _ _ h => h) (Or.inl ⟨by rfl, ?_⟩) (by assumption) ?_
    rotate_left
    · (intro w hSw; (try dsimp only at hSw); go_simp; (try (with_reducible rfl)))
    try simp only [Act.put, List.setIfInBounds_toArray, List.set_cons_zero, List.set_cons_succ]
    refine wpAnyH_take (i := 9) (oi := { dst := some 20, op := Go.Op.indexAddr 79 (Go.Operand.tmp 19) (Go.Operand.tmp 17), type := 0, pos := "law.go:46", after := #[{ on := 8, ground := Go.Ground.data }, { on := 6, ground := Go.Ground.data }], guard := none }) (v := ?_) rfl (by kernel_rfl) (by kernel_rfl) (by kernel_rfl) (fun _ _ _ h => h) (Or.inl ⟨by rfl, ?_⟩) (by assumption) ?_
    rotate_left
    · (intro w hSw; (try dsimp only at hSw); go_simp; (try (with_reducible rfl)))
    try simp only [Act.put, List.setIfInBounds_toArray, List.set_cons_zero, List.set_cons_succ]
    refine wpAnyH_take (i := 10) (oi := { dst := some 21, op := Go.Op.load 3 (Go.Operand.tmp 20), type := 3, pos := "law.go:46", after := #[{ on := 9, ground := Go.Ground.data }], guard := none }) (v := ?_) rfl (by kernel_rfl) (by kernel_rfl) (by kernel_rfl) (fun _ _ _ h => h) (Or.inl ⟨by rfl, ?_⟩) (by assumption) ?_
    rotate_left
    · (intro w hSw; (try dsimp only at hSw); go_simp; (try (with_reducible rfl)))
    try simp only [Act.put, List.setIfInBounds_toArray, List.set_cons_zero, List.set_cons_succ]
    refine wpAnyH_take (i := 11) (oi := { dst := some 22, op := Go.Op.binOp Go.BinOp.leq 3 (Go.Operand.tmp 13) (Go.Operand.tmp 21) 3, type := 4, pos := "law.go:46", after := #[{ on := 2, ground := Go.Ground.data }, { on := 10, ground := Go.Ground.data }], guard := none }) (v := ?_) rfl (by kernel_rfl) (by kernel_rfl) (by kernel_rfl) (fun _ _ _ h => h) (Or.inl ⟨by rfl, ?_⟩) (by assumption) ?_
    rotate_left
    · (intro w hSw; (try dsimp only at hSw); go_simp; (try (with_reducible rfl)))
    try simp only [Act.put, List.setIfInBounds_toArray, List.set_cons_zero, List.set_cons_succ]
    refine wpAnyH_done (by kernel_rfl) ?_ _
    clear hHeld cl ul
    have en3 := en2.drew
    by_cases hsl : s ≤ (lo : Int)
    · rw [if_pos hsl] at hE
      have hq := Lib.hid (hbad 14 _ hE.symm (by decide) (mdShut (hD.weaken l1)) en3)
      have ht : decide (s ≤ (lo : Int)) = true := decide_eq_true hsl
      go_wp2_with fail
      exact hq.out
    · rw [if_neg hsl] at hE
      have ht : decide (s ≤ (lo : Int)) = false := decide_eq_false hsl
      have hFind := Lib.hid (find_any (.slice la L.length lc) L ((n : Int), s) _ (hD.drew.swap.row_rw (by decide)))
      obtain ⟨F, hF⟩ : ∃ F, findAt ((n : Int), s) (rids L) 0 = F := ⟨_, rfl⟩
      have hFp := findAt_pos ((n : Int), s) (rids L) 0 (by omega)
      have hFl := findAt_look ((n : Int), s) L 0
      rw [hF] at hFp hFind hFl
      generalize hW2 : w2.drew = W2 at *
      clear hW2 h2 w2 en2
      have hD2 := hD.drew
      have cl := hD.blk_lt
      have ul := World.block_lt_of_cell? _ _ (hD.cell a.1)
      go_wp2_with fail
      refine wp_region_held_drew (S := fun w' : World => w'.cell? ⟨gb, 0, none⟩ = some (.int .i64 (n : Int)) ∧ w'.cell? ⟨gb, 1, none⟩ = some (.int .i64 s) ∧ w'.cell? ⟨gb, 2, none⟩ = some (.int .i64 q) ∧ w'.cell? ⟨gb, 3, none⟩ = some (.slice d1 d2 d3) ∧ w'.cell? ⟨gb, 4, none⟩ = some (.slice b1 b2 b3) ∧ w'.cell? ⟨p, 3 + n, none⟩ = some (.int .i64 (lo : Int)) ∧ w'.cell? ⟨p, 1, none⟩ = some (.slice la L.length lc) ∧ w'.cell? ⟨p, 0, none⟩ = some (.int .i64 room)) (by kernel_rfl) (kk _ _ hD2) (fun hHeld => ?_)
      refine wpAnyH_take (i := 0) (oi := { dst := some 23, op := Go.Op.move (Go.Operand.tmp 0), type := 78, pos := "law.go:49", after := #[], guard := none }) (v := ?_) rfl (by kernel_rfl) (by kernel_rfl) (by kernel_rfl) (fun _ _ _ h => h) (Or.inl ⟨by rfl, ?_⟩) (by assumption) ?_
      rotate_left
      · (intro w hSw; (try dsimp only at hSw); go_simp; (try (with_reducible rfl)))
      try simp only [Act.put, List.setIfInBounds_toArray, List.set_cons_zero, List.set_cons_succ]
      refine wpAnyH_take (i := 1) (oi := { dst := some 24, op := Go.Op.nilCheck (Go.Operand.tmp 23), type := 0, pos := "law.go:49", after := #[{ on := 0, ground := Go.Ground.data }], guard := none }) (v := ?_) rfl (by kernel_rfl) (by kernel_rfl) (by kernel_rfl) (fun _ _ _ h => h) (Or.inl ⟨by rfl, ?_⟩) (by assumption) ?_
      rotate_left
      · (intro w hSw; (try dsimp only at hSw); go_simp; (try (with_reducible rfl)))
      try simp only [Act.put, List.setIfInBounds_toArray, List.set_cons_zero, List.set_cons_succ]
      refine wpAnyH_take (i := 2) (oi := { dst := some 25, op := Go.Op.fieldAddr 81 (Go.Operand.tmp 24) 1, type := 0, pos := "law.go:49", after := #[{ on := 1, ground := Go.Ground.data }], guard := none }) (v := ?_) rfl (by kernel_rfl) (by kernel_rfl) (by kernel_rfl) (fun _ _ _ h => h) (Or.inl ⟨by rfl, ?_⟩) (by assumption) ?_
      rotate_left
      · (intro w hSw; (try dsimp only at hSw); go_simp; (try (with_reducible rfl)))
      try simp only [Act.put, List.setIfInBounds_toArray, List.set_cons_zero, List.set_cons_succ]
      refine wpAnyH_take (i := 3) (oi := { dst := some 26, op := Go.Op.load 22 (Go.Operand.tmp 25), type := 22, pos := "law.go:49", after := #[{ on := 2, ground := Go.Ground.data }], guard := none }) (v := ?_) rfl (by kernel_rfl) (by kernel_rfl) (by kernel_rfl) (fun _ _ _ h => h) (Or.inl ⟨by rfl, ?_⟩) (by assumption) ?_
      rotate_left
      · (intro w hSw; (try dsimp only at hSw); go_simp; (try (with_reducible rfl)))
      try simp only [Act.put, List.setIfInBounds_toArray, List.set_cons_zero, List.set_cons_succ]
      refine wpAnyH_take (i := 4) (oi := { dst := some 27, op := Go.Op.fieldAddr 32 (Go.Operand.tmp 3) 0, type := 0, pos := "law.go:49", after := #[], guard := none }) (v := ?_) rfl (by kernel_rfl) (by kernel_rfl) (by kernel_rfl) (fun _ _ _ h => h) (Or.inl ⟨by rfl, ?_⟩) (by assumption) ?_
      rotate_left
      · (intro w hSw; (try dsimp only at hSw); go_simp; (try (with_reducible rfl)))
      try simp only [Act.put, List.setIfInBounds_toArray, List.set_cons_zero, List.set_cons_succ]
      refine wpAnyH_take (i := 5) (oi := { dst := some 28, op := Go.Op.load 28 (Go.Operand.tmp 27), type := 28, pos := "law.go:49", after := #[{ on := 4, ground := Go.Ground.data }], guard := none }) (v := ?_) rfl (by kernel_rfl) (by kernel_rfl) (by kernel_rfl) (fun _ _ _ h => h) (Or.inl ⟨by rfl, ?_⟩) (by assumption) ?_
      rotate_left
      · (intro w hSw; (try dsimp only at hSw); go_simp; (try (with_reducible rfl)))
      try simp only [Act.put, List.setIfInBounds_toArray, List.set_cons_zero, List.set_cons_succ]
      refine wpAnyH_ready (rs := [6]) (by kernel_rfl) (by simp) ?_
      refine AllReadyH.cons (o := { dst := some 29, op := Go.Op.call { callee := Go.Callee.value (Go.Operand.func 24), args := #[Go.Operand.tmp 26, Go.Operand.tmp 28], argTypes := #[22, 28] }, type := 3, pos := "law.go:49", after := #[{ on := 3, ground := Go.Ground.data }, { on := 5, ground := Go.Ground.data }], guard := none }) rfl (fun K hK => ?_) AllReadyH.nil
      go_simp
      refine hFind.out.mono ?_
      rintro e w3 ⟨rfl, hb3⟩
      have h3 := hD2.below hb3
      refine hK.out _ _ (kk _ _ h3) (fun hHeld2 => ?_)
      clear hK K hHeld
      try simp only [Act.put, List.setIfInBounds_toArray, List.set_cons_zero, List.set_cons_succ]
      refine wpAnyH_take (i := 7) (oi := { dst := some 5, op := Go.Op.assign (Go.Operand.tmp 29), type := 3, pos := "law.go:49", after := #[{ on := 6, ground := Go.Ground.data }, { on := 6, ground := Go.Ground.chain }, { on := 0, ground := Go.Ground.phase }, { on := 1, ground := Go.Ground.phase }, { on := 2, ground := Go.Ground.phase }, { on := 3, ground := Go.Ground.phase }, { on := 4, ground := Go.Ground.phase }, { on := 5, ground := Go.Ground.phase }, { on := 6, ground := Go.Ground.phase }], guard := none }) (v := ?_) rfl (by kernel_rfl) (by kernel_rfl) (by kernel_rfl) (fun _ _ _ h => h) (Or.inl ⟨by rfl, ?_⟩) (by assumption) ?_
      rotate_left
      · (intro w hSw; (try dsimp only at hSw); go_simp; (try (with_reducible rfl)))
      try simp only [Act.put, List.setIfInBounds_toArray, List.set_cons_zero, List.set_cons_succ]
      refine wpAnyH_done (by kernel_rfl) ?_ _
      have en4 := en3.drew.trans (bel_env hb3)
      clear hHeld2 hD2 hD en3 hb3 hFind
      by_cases hin : ((n : Int), s) ∈ rids L
      · rw [if_pos hin] at hE
        obtain ⟨i, hi, hFi, hLi, hLr⟩ := hFl hin
        have hF0 : F = (i : Int) := by omega
        have hF1 : 0 ≤ F := by omega
        have hil : (i : Int) < (L.length : Int) := by omega
        obtain ⟨lb, lof, hA, -⟩ := (h3.swap.row_rw (by decide)).cells (by omega)
        cases hA
        have hzd := hL L[i] (List.getElem_mem hi)
        have kz : ∀ w', St H1 (Blk p (mdC room (.slice (some ⟨lb, lof, none⟩) L.length lc) dv low) 81 :: Row 32 5 (.slice (some ⟨lb, lof, none⟩) L.length lc) (recs L) :: Row 28 2 dv (idl D) :: fr) w' → (w'.cell? ⟨lb, lof + i * 5, none⟩ = some (.int .i64 L[i].1.1) ∧ w'.cell? ⟨lb, lof + i * 5 + 1, none⟩ = some (.int .i64 L[i].1.2) ∧ w'.cell? ⟨lb, lof + i * 5 + 2, none⟩ = some (.int .i64 L[i].2.1) ∧ w'.cell? ⟨lb, lof + i * 5 + 3, none⟩ = some L[i].2.2.1 ∧ w'.cell? ⟨lb, lof + i * 5 + 4, none⟩ = some L[i].2.2.2.1) := fun w' h' => by
          obtain ⟨b', off', hA', hcr⟩ := (h'.swap.row_rw (by decide)).cells (by omega)
          cases hA'
          obtain ⟨q0, q1, q2, q3, q4⟩ := recs_get L i hi
          refine ⟨hcr _ _ q0, ?_, ?_, ?_, ?_⟩
          · rw [Nat.add_assoc]; exact hcr _ _ q1
          · rw [Nat.add_assoc]; exact hcr _ _ q2
          · rw [Nat.add_assoc]; exact hcr _ _ q3
          · rw [Nat.add_assoc]; exact hcr _ _ q4
        rw [← hLr] at hE
        generalize L[i] = z at *
        obtain ⟨e1, e2, e3, hev, _⟩ := hzd.d.form
        obtain ⟨f1, f2, f3, hfv, _⟩ := hzd.b.form
        obtain ⟨⟨z0, z1⟩, zq, zd, zb, zD, zB⟩ := z
        simp only at hev hfv kz
        subst hev hfv
        have hSm := fun (w' : World) (h' : St H1 (Blk p (mdC room (.slice (some ⟨lb, lof, none⟩) L.length lc) dv low) 81 :: Row 32 5 (.slice (some ⟨lb, lof, none⟩) L.length lc) (recs L) :: Row 28 2 dv (idl D) :: fr) w') => refRecSame_any ((z0, z1), zq, .slice e1 e2 e3, .slice f1 f2 f3, zD, zB) (((n : Int), s), q, .slice d1 d2 d3, .slice b1 b2 b3, xD, xB) w' ((hzd.mono l1).rw h') ((hx.mono l1).rw h')
        obtain ⟨B, hB⟩ : ∃ B, recSame (rp ((z0, z1), zq, .slice e1 e2 e3, .slice f1 f2 f3, zD, zB)) (rp (((n : Int), s), q, .slice d1 d2 d3, .slice b1 b2 b3, xD, xB)) = B := ⟨_, rfl⟩
        have hEB : (if B then (16 : Int) else 15) = E := by rw [← hB]; exact hE
        rw [hB] at hSm
        replace hSm := Lib.hid hSm
        replace hzd := Lib.hid hzd
        have kk7 : ∀ (w' : World), St H1 (Blk p (mdC room (.slice (some ⟨lb, lof, none⟩) L.length lc) dv low) 81 :: Row 32 5 (.slice (some ⟨lb, lof, none⟩) L.length lc) (recs L) :: Row 28 2 dv (idl D) :: fr) w' → (fun w' : World => w'.cell? ⟨gb, 0, none⟩ = some (.int .i64 (n : Int)) ∧ w'.cell? ⟨gb, 1, none⟩ = some (.int .i64 s) ∧ w'.cell? ⟨gb, 2, none⟩ = some (.int .i64 q) ∧ w'.cell? ⟨gb, 3, none⟩ = some (.slice d1 d2 d3) ∧ w'.cell? ⟨gb, 4, none⟩ = some (.slice b1 b2 b3) ∧ w'.cell? ⟨p, 1, none⟩ = some (.slice (some ⟨lb, lof, none⟩) L.length lc) ∧ w'.cell? ⟨lb, lof + i * 5, none⟩ = some (.int .i64 z0) ∧ w'.cell? ⟨lb, lof + i * 5 + 1, none⟩ = some (.int .i64 z1) ∧ w'.cell? ⟨lb, lof + i * 5 + 2, none⟩ = some (.int .i64 zq) ∧ w'.cell? ⟨lb, lof + i * 5 + 3, none⟩ = some (.slice e1 e2 e3) ∧ w'.cell? ⟨lb, lof + i * 5 + 4, none⟩ = some (.slice f1 f2 f3)) w' := fun w' h => ⟨h.cell a.1, h.cell a.2.1, h.cell a.2.2.1, h.cell a.2.2.2.1, h.cell a.2.2.2.2, h.blk_cell 1, kz w' h⟩
        have hfin : ∀ w', St H1 (Blk p (mdC room (.slice (some ⟨lb, lof, none⟩) L.length lc) dv low) 81 :: Row 32 5 (.slice (some ⟨lb, lof, none⟩) L.length lc) (recs L) :: Row 28 2 dv (idl D) :: fr) w' → Env w w' → Hid (Q (.returned (.int .i64 E)) w') := fun w' h' en' => Lib.hid (hbad E w' rfl (by rw [← hEB]; cases B <;> decide) (mdShut (h'.weaken l1)) en')
        subst hF0
        have hF1' : decide (0 ≤ (i : Int)) = true := decide_eq_true hF1
        have hD2 := h3.drew
        have cl := h3.blk_lt
        have ul := World.block_lt_of_cell? _ _ (h3.cell a.1)
        replace hEB := Lib.hid hEB
        clear hE hB hbad hgood hFp hFl hLr hLi kz hin hF hFi hri hre hone happ hL hx hr0 hF1 hlo
        go_wp2_with fail
        refine wp_region_held_drew (S := fun w' : World => w'.cell? ⟨gb, 0, none⟩ = some (.int .i64 (n : Int)) ∧ w'.cell? ⟨gb, 1, none⟩ = some (.int .i64 s) ∧ w'.cell? ⟨gb, 2, none⟩ = some (.int .i64 q) ∧ w'.cell? ⟨gb, 3, none⟩ = some (.slice d1 d2 d3) ∧ w'.cell? ⟨gb, 4, none⟩ = some (.slice b1 b2 b3) ∧ w'.cell? ⟨p, 1, none⟩ = some (.slice (some ⟨lb, lof, none⟩) L.length lc) ∧ w'.cell? ⟨lb, lof + i * 5, none⟩ = some (.int .i64 z0) ∧ w'.cell? ⟨lb, lof + i * 5 + 1, none⟩ = some (.int .i64 z1) ∧ w'.cell? ⟨lb, lof + i * 5 + 2, none⟩ = some (.int .i64 zq) ∧ w'.cell? ⟨lb, lof + i * 5 + 3, none⟩ = some (.slice e1 e2 e3) ∧ w'.cell? ⟨lb, lof + i * 5 + 4, none⟩ = some (.slice f1 f2 f3)) (by kernel_rfl) (kk7 _ hD2) (fun hHeld => ?_)
        refine wpAnyH_take (i := 0) (oi := { dst := some 32, op := Go.Op.move (Go.Operand.tmp 0), type := 78, pos := "law.go:50", after := #[], guard := none }) (v := ?_) rfl (by kernel_rfl) (by kernel_rfl) (by kernel_rfl) (fun _ _ _ h => h) (Or.inl ⟨by rfl, ?_⟩) (by assumption) ?_
        rotate_left
        · (intro w hSw; (try dsimp only at hSw); go_simp; (try (with_reducible rfl)))
        try simp only [Act.put, List.setIfInBounds_toArray, List.set_cons_zero, List.set_cons_succ]
        refine wpAnyH_take (i := 1) (oi := { dst := some 33, op := Go.Op.nilCheck (Go.Operand.tmp 32), type := 0, pos := "law.go:50", after := #[{ on := 0, ground := Go.Ground.data }], guard := none }) (v := ?_) rfl (by kernel_rfl) (by kernel_rfl) (by kernel_rfl) (fun _ _ _ h => h) (Or.inl ⟨by rfl, ?_⟩) (by assumption) ?_
        rotate_left
        · (intro w hSw; (try dsimp only at hSw); go_simp; (try (with_reducible rfl)))
        try simp only [Act.put, List.setIfInBounds_toArray, List.set_cons_zero, List.set_cons_succ]
        refine wpAnyH_take (i := 2) (oi := { dst := some 34, op := Go.Op.fieldAddr 81 (Go.Operand.tmp 33) 1, type := 0, pos := "law.go:50", after := #[{ on := 1, ground := Go.Ground.data }], guard := none }) (v := ?_) rfl (by kernel_rfl) (by kernel_rfl) (by kernel_rfl) (fun _ _ _ h => h) (Or.inl ⟨by rfl, ?_⟩) (by assumption) ?_
        rotate_left
        · (intro w hSw; (try dsimp only at hSw); go_simp; (try (with_reducible rfl)))
        try simp only [Act.put, List.setIfInBounds_toArray, List.set_cons_zero, List.set_cons_succ]
        refine wpAnyH_take (i := 3) (oi := { dst := some 35, op := Go.Op.load 22 (Go.Operand.tmp 34), type := 22, pos := "law.go:50", after := #[{ on := 2, ground := Go.Ground.data }], guard := none }) (v := ?_) rfl (by kernel_rfl) (by kernel_rfl) (by kernel_rfl) (fun _ _ _ h => h) (Or.inl ⟨by rfl, ?_⟩) (by assumption) ?_
        rotate_left
        · (intro w hSw; (try dsimp only at hSw); go_simp; (try (with_reducible rfl)))
        try simp only [Act.put, List.setIfInBounds_toArray, List.set_cons_zero, List.set_cons_succ]
        refine wpAnyH_take (i := 4) (oi := { dst := some 36, op := Go.Op.move (Go.Operand.tmp 5), type := 3, pos := "law.go:50", after := #[], guard := none }) (v := ?_) rfl (by kernel_rfl) (by kernel_rfl) (by kernel_rfl) (fun _ _ _ h => h) (Or.inl ⟨by rfl, ?_⟩) (by assumption) ?_
        rotate_left
        · (intro w hSw; (try dsimp only at hSw); go_simp; (try (with_reducible rfl)))
        try simp only [Act.put, List.setIfInBounds_toArray, List.set_cons_zero, List.set_cons_succ]
        refine wpAnyH_take (i := 5) (oi := { dst := some 37, op := Go.Op.indexAddr 22 (Go.Operand.tmp 35) (Go.Operand.tmp 36), type := 0, pos := "law.go:50", after := #[{ on := 3, ground := Go.Ground.data }, { on := 4, ground := Go.Ground.data }], guard := none }) (v := ?_) rfl (by kernel_rfl) (by kernel_rfl) (by kernel_rfl) (fun _ _ _ h => h) (Or.inl ⟨by rfl, ?_⟩) (by assumption) ?_
        rotate_left
        · (intro w hSw; (try dsimp only at hSw); go_simp; (try (with_reducible rfl)))
        try simp only [Act.put, List.setIfInBounds_toArray, List.set_cons_zero, List.set_cons_succ]
        refine wpAnyH_take (i := 6) (oi := { dst := some 38, op := Go.Op.load 32 (Go.Operand.tmp 37), type := 32, pos := "law.go:50", after := #[{ on := 5, ground := Go.Ground.data }], guard := none }) (v := ?_) rfl (by kernel_rfl) (by kernel_rfl) (by kernel_rfl) (fun _ _ _ h => h) (Or.inl ⟨by rfl, ?_⟩) (by assumption) ?_
        rotate_left
        · (intro w hSw; (try dsimp only at hSw); go_simp; (try (with_reducible rfl)))
        try simp only [Act.put, List.setIfInBounds_toArray, List.set_cons_zero, List.set_cons_succ]
        refine wpAnyH_take (i := 7) (oi := { dst := some 39, op := Go.Op.load 32 (Go.Operand.tmp 3), type := 32, pos := "law.go:50", after := #[], guard := none }) (v := ?_) rfl (by kernel_rfl) (by kernel_rfl) (by kernel_rfl) (fun _ _ _ h => h) (Or.inl ⟨by rfl, ?_⟩) (by assumption) ?_
        rotate_left
        · (intro w hSw; (try dsimp only at hSw); go_simp; (try (with_reducible rfl)))
        try simp only [Act.put, List.setIfInBounds_toArray, List.set_cons_zero, List.set_cons_succ]
        refine wpAnyH_ready (rs := [8]) (by kernel_rfl) (by simp) ?_
        refine AllReadyH.cons (o := { dst := some 40, op := Go.Op.call { callee := Go.Callee.value (Go.Operand.func 14), args := #[Go.Operand.tmp 38, Go.Operand.tmp 39], argTypes := #[32, 32] }, type := 4, pos := "law.go:50", after := #[{ on := 6, ground := Go.Ground.data }, { on := 7, ground := Go.Ground.data }], guard := none }) rfl (fun K hK => ?_) AllReadyH.nil
        go_simp
        refine (hSm.out _ hD2).mono ?_
        rintro e w5 ⟨rfl, hb5⟩
        have h5 := hD2.below hb5
        refine hK.out _ _ (kk7 _ h5) (fun hHeld2 => ?_)
        clear hK K hHeld
        try simp only [Act.put, List.setIfInBounds_toArray, List.set_cons_zero, List.set_cons_succ]
        refine wpAnyH_done (by kernel_rfl) ?_ _
        have hz := hfin _ h5 (en4.drew.trans (bel_env hb5))
        clear hHeld2 hD2 hSm hfin
        cases B with
        | true =>
          have hEB := hEB.out
          rw [if_pos rfl] at hEB
          subst hEB
          go_wp2_with fail
          exact hz.out
        | false =>
          have hEB := hEB.out
          rw [if_neg (by decide)] at hEB
          subst hEB
          go_wp2_with fail
          exact hz.out
      · rw [if_neg hin] at hE
        have hF0 : ¬ 0 ≤ F := fun h => hin (hFp.1 h)
        have hF0' : decide (0 ≤ F) = false := decide_eq_false hF0
        have hD2 := h3.drew
        have cl := h3.blk_lt
        clear hFp hFl hin hF
        go_wp2_with fail
        refine wp_region_held_drew (S := fun w' : World => w'.cell? ⟨gb, 0, none⟩ = some (.int .i64 (n : Int)) ∧ w'.cell? ⟨gb, 1, none⟩ = some (.int .i64 s) ∧ w'.cell? ⟨gb, 2, none⟩ = some (.int .i64 q) ∧ w'.cell? ⟨gb, 3, none⟩ = some (.slice d1 d2 d3) ∧ w'.cell? ⟨gb, 4, none⟩ = some (.slice b1 b2 b3) ∧ w'.cell? ⟨p, 3 + n, none⟩ = some (.int .i64 (lo : Int)) ∧ w'.cell? ⟨p, 1, none⟩ = some (.slice la L.length lc) ∧ w'.cell? ⟨p, 0, none⟩ = some (.int .i64 room)) (by kernel_rfl) (kk _ _ hD2) (fun hHeld => ?_)
        refine wpAnyH_take (i := 0) (oi := { dst := some 41, op := Go.Op.move (Go.Operand.tmp 0), type := 78, pos := "law.go:55", after := #[], guard := none }) (v := ?_) rfl (by kernel_rfl) (by kernel_rfl) (by kernel_rfl) (fun _ _ _ h => h) (Or.inl ⟨by rfl, ?_⟩) (by assumption) ?_
        rotate_left
        · (intro w hSw; (try dsimp only at hSw); go_simp; (try (with_reducible rfl)))
        try simp only [Act.put, List.setIfInBounds_toArray, List.set_cons_zero, List.set_cons_succ]
        refine wpAnyH_take (i := 1) (oi := { dst := some 42, op := Go.Op.nilCheck (Go.Operand.tmp 41), type := 0, pos := "law.go:55", after := #[{ on := 0, ground := Go.Ground.data }], guard := none }) (v := ?_) rfl (by kernel_rfl) (by kernel_rfl) (by kernel_rfl) (fun _ _ _ h => h) (Or.inl ⟨by rfl, ?_⟩) (by assumption) ?_
        rotate_left
        · (intro w hSw; (try dsimp only at hSw); go_simp; (try (with_reducible rfl)))
        try simp only [Act.put, List.setIfInBounds_toArray, List.set_cons_zero, List.set_cons_succ]
        refine wpAnyH_take (i := 2) (oi := { dst := some 43, op := Go.Op.fieldAddr 81 (Go.Operand.tmp 42) 1, type := 0, pos := "law.go:55", after := #[{ on := 1, ground := Go.Ground.data }], guard := none }) (v := ?_) rfl (by kernel_rfl) (by kernel_rfl) (by kernel_rfl) (fun _ _ _ h => h) (Or.inl ⟨by rfl, ?_⟩) (by assumption) ?_
        rotate_left
        · (intro w hSw; (try dsimp only at hSw); go_simp; (try (with_reducible rfl)))
        try simp only [Act.put, List.setIfInBounds_toArray, List.set_cons_zero, List.set_cons_succ]
        refine wpAnyH_take (i := 3) (oi := { dst := some 44, op := Go.Op.load 22 (Go.Operand.tmp 43), type := 22, pos := "law.go:55", after := #[{ on := 2, ground := Go.Ground.data }], guard := none }) (v := ?_) rfl (by kernel_rfl) (by kernel_rfl) (by kernel_rfl) (fun _ _ _ h => h) (Or.inl ⟨by rfl, ?_⟩) (by assumption) ?_
        rotate_left
        · (intro w hSw; (try dsimp only at hSw); go_simp; (try (with_reducible rfl)))
        try simp only [Act.put, List.setIfInBounds_toArray, List.set_cons_zero, List.set_cons_succ]
        refine wpAnyH_take (i := 4) (oi := { dst := some 45, op := Go.Op.call { callee := Go.Callee.builtin Go.Builtin.len, args := #[Go.Operand.tmp 44], argTypes := #[22] }, type := 3, pos := "law.go:55", after := #[{ on := 3, ground := Go.Ground.data }], guard := none }) (v := ?_) rfl (by kernel_rfl) (by kernel_rfl) (by kernel_rfl) (fun _ _ _ h => h) (Or.inl ⟨by rfl, ?_⟩) (by assumption) ?_
        rotate_left
        · (intro w hSw; (try dsimp only at hSw); go_simp; (try (with_reducible rfl)))
        try simp only [Act.put, List.setIfInBounds_toArray, List.set_cons_zero, List.set_cons_succ]
        refine wpAnyH_take (i := 5) (oi := { dst := some 46, op := Go.Op.move (Go.Operand.tmp 0), type := 78, pos := "law.go:55", after := #[], guard := none }) (v := ?_) rfl (by kernel_rfl) (by kernel_rfl) (by kernel_rfl) (fun _ _ _ h => h) (Or.inl ⟨by rfl, ?_⟩) (by assumption) ?_
        rotate_left
        · (intro w hSw; (try dsimp only at hSw); go_simp; (try (with_reducible rfl)))
        try simp only [Act.put, List.setIfInBounds_toArray, List.set_cons_zero, List.set_cons_succ]
        refine wpAnyH_take (i := 6) (oi := { dst := some 47, op := Go.Op.nilCheck (Go.Operand.tmp 46), type := 0, pos := "law.go:55", after := #[{ on := 5, ground := Go.Ground.data }], guard := none }) (v := ?_) rfl (by kernel_rfl) (by kernel_rfl) (by kernel_rfl) (fun _ _ _ h => h) (Or.inl ⟨by rfl, ?_⟩) (by assumption) ?_
        rotate_left
        · (intro w hSw; (try dsimp only at hSw); go_simp; (try (with_reducible rfl)))
        try simp only [Act.put, List.setIfInBounds_toArray, List.set_cons_zero, List.set_cons_succ]
        refine wpAnyH_take (i := 7) (oi := { dst := some 48, op := Go.Op.fieldAddr 81 (Go.Operand.tmp 47) 0, type := 0, pos := "law.go:55", after := #[{ on := 6, ground := Go.Ground.data }], guard := none }) (v := ?_) rfl (by kernel_rfl) (by kernel_rfl) (by kernel_rfl) (fun _ _ _ h => h) (Or.inl ⟨by rfl, ?_⟩) (by assumption) ?_
        rotate_left
        · (intro w hSw; (try dsimp only at hSw); go_simp; (try (with_reducible rfl)))
        try simp only [Act.put, List.setIfInBounds_toArray, List.set_cons_zero, List.set_cons_succ]
        refine wpAnyH_take (i := 8) (oi := { dst := some 49, op := Go.Op.load 3 (Go.Operand.tmp 48), type := 3, pos := "law.go:55", after := #[{ on := 7, ground := Go.Ground.data }], guard := none }) (v := ?_) rfl (by kernel_rfl) (by kernel_rfl) (by kernel_rfl) (fun _ _ _ h => h) (Or.inl ⟨by rfl, ?_⟩) (by assumption) ?_
        rotate_left
        · (intro w hSw; (try dsimp only at hSw); go_simp; (try (with_reducible rfl)))
        try simp only [Act.put, List.setIfInBounds_toArray, List.set_cons_zero, List.set_cons_succ]
        refine wpAnyH_take (i := 9) (oi := { dst := some 50, op := Go.Op.binOp Go.BinOp.geq 3 (Go.Operand.tmp 45) (Go.Operand.tmp 49) 3, type := 4, pos := "law.go:55", after := #[{ on := 4, ground := Go.Ground.data }, { on := 8, ground := Go.Ground.data }], guard := none }) (v := ?_) rfl (by kernel_rfl) (by kernel_rfl) (by kernel_rfl) (fun _ _ _ h => h) (Or.inl ⟨by rfl, ?_⟩) (by assumption) ?_
        rotate_left
        · (intro w hSw; (try dsimp only at hSw); go_simp; (try (with_reducible rfl)))
        try simp only [Act.put, List.setIfInBounds_toArray, List.set_cons_zero, List.set_cons_succ]
        refine wpAnyH_done (by kernel_rfl) ?_ _
        have en5 := en4.drew
        clear hHeld en4 cl
        by_cases hr : room ≤ (L.length : Int)
        · rw [if_pos hr] at hE
          have hq := Lib.hid (hbad 13 _ hE.symm (by decide) (mdShut (hD2.weaken l1)) en5)
          have ht2 : decide (room ≤ (L.length : Int)) = true := decide_eq_true hr
          go_wp2_with fail
          exact hq.out
        · rw [if_neg hr] at hE
          subst hE
          have ht2 : decide (room ≤ (L.length : Int)) = false := decide_eq_false hr
          have hgd := Lib.hid hgood
          clear hgood hbad
          generalize w3.drew = W4 at *
          obtain ⟨H5, l5, h5, y5⟩ := hD2.box #[.int .i64 (n : Int), .int .i64 s, .int .i64 q, .slice d1 d2 d3, .slice b1 b2 b3] 32
          have en6 := (en5.alloc (.cells #[.int .i64 (n : Int), .int .i64 s, .int .i64 q, .slice d1 d2 d3, .slice b1 b2 b3] 32)).drew
          have hE5 := h5.drew
          obtain ⟨v', w8, hrun, h8, en8⟩ := St.append_run hE5.swap 22 22 22 recZ 72 Try.underlying22 (.inl ⟨_, Try.underlying22⟩) info_rec rfl (by decide) (x := .slice (some ⟨W4.heap.size, 0, none⟩) 1 1) (m := 1) (news := recc (((n : Int), s), q, .slice d1 d2 d3, .slice b1 b2 b3, xD, xB)) (News.slice rfl (fun _ => ⟨_, rfl, fun j u hj => by rw [add_lit, Nat.zero_add]; exact hE5.cell (y5 j u (by simpa [recc] using hj))⟩) hone) (by rw [recs_len]; simp [recc]; omega) (by decide)
          rw [happ _ rfl] at h8
          obtain ⟨va, vn, vc, rfl, _⟩ := h8.row_form
          have h9 : St H5 (Blk p (mdC room (.slice va vn vc) dv low) 81 :: Row 32 5 (.slice va vn vc) (recs (L ++ [(((n : Int), s), q, .slice d1 d2 d3, .slice b1 b2 b3, xD, xB)])) :: Row 28 2 dv (idl D) :: fr) (w8.setCell ⟨p, 1, none⟩ (.slice va vn vc)) := h8.swap.blk_set 1 (.slice va vn vc)
          have hz := hgd.out _ (by trivial) (mdShut (h9.weaken (Hp.le_trans l1 l5))) ((en6.trans en8).setCell ⟨p, 1, none⟩ (.slice va vn vc))
          replace hz := Lib.hid hz
          have sc : w8.cell? ⟨p, 1, none⟩ = some (.slice la L.length lc) := h8.swap.blk_cell 1
          have sf := h8.swap.blk_free 1
          have sl := h8.swap.blk_lt
          have cl4 := hD2.blk_lt
          have a5 := RcAt.mono a l5
          have kq : ∀ (l' : List HA) (w' : World), St H5 l' w' → (fun w' : World => w'.cell? ⟨gb, 0, none⟩ = some (.int .i64 (n : Int)) ∧ w'.cell? ⟨gb, 1, none⟩ = some (.int .i64 s) ∧ w'.cell? ⟨gb, 2, none⟩ = some (.int .i64 q) ∧ w'.cell? ⟨gb, 3, none⟩ = some (.slice d1 d2 d3) ∧ w'.cell? ⟨gb, 4, none⟩ = some (.slice b1 b2 b3)) w' := fun l' w' h => ⟨h.cell a5.1, h.cell a5.2.1, h.cell a5.2.2.1, h.cell a5.2.2.2.1, h.cell a5.2.2.2.2⟩
          have ul4 := World.block_lt_of_cell? _ _ (hD2.cell a.1)
          have hD4 := hD2.drew
          have lc1 : W4.cell? ⟨p, 1, none⟩ = some (.slice la L.length lc) := hD2.blk_cell 1
          have kq0 : (fun w' : World => w'.cell? ⟨gb, 0, none⟩ = some (.int .i64 (n : Int)) ∧ w'.cell? ⟨gb, 1, none⟩ = some (.int .i64 s) ∧ w'.cell? ⟨gb, 2, none⟩ = some (.int .i64 q) ∧ w'.cell? ⟨gb, 3, none⟩ = some (.slice d1 d2 d3) ∧ w'.cell? ⟨gb, 4, none⟩ = some (.slice b1 b2 b3)) W4.drew := ⟨hD4.cell a.1, hD4.cell a.2.1, hD4.cell a.2.2.1, hD4.cell a.2.2.2.1, hD4.cell a.2.2.2.2⟩
          replace kk := Lib.hid kk
          go_wp2_with fail
          generalize hgn : W4.heap.size = gn at *
          refine wp_region_held_drew (S := fun w' : World => w'.cell? ⟨gb, 0, none⟩ = some (.int .i64 (n : Int)) ∧ w'.cell? ⟨gb, 1, none⟩ = some (.int .i64 s) ∧ w'.cell? ⟨gb, 2, none⟩ = some (.int .i64 q) ∧ w'.cell? ⟨gb, 3, none⟩ = some (.slice d1 d2 d3) ∧ w'.cell? ⟨gb, 4, none⟩ = some (.slice b1 b2 b3)) (by kernel_rfl) kq0 (fun hHeld => ?_)
          refine wpAnyH_take (i := 0) (oi := { dst := some 51, op := Go.Op.move (Go.Operand.tmp 0), type := 78, pos := "law.go:58", after := #[], guard := none }) (v := ?_) rfl (by kernel_rfl) (by kernel_rfl) (by kernel_rfl) (fun _ _ _ h => h) (Or.inl ⟨by rfl, ?_⟩) (by assumption) ?_
          rotate_left
          · (intro w hSw; (try dsimp only at hSw); go_simp; (try (with_reducible rfl)))
          try simp only [Act.put, List.setIfInBounds_toArray, List.set_cons_zero, List.set_cons_succ]
          refine wpAnyH_take (i := 1) (oi := { dst := some 52, op := Go.Op.move (Go.Operand.tmp 0), type := 78, pos := "law.go:58", after := #[], guard := none }) (v := ?_) rfl (by kernel_rfl) (by kernel_rfl) (by kernel_rfl) (fun _ _ _ h => h) (Or.inl ⟨by rfl, ?_⟩) (by assumption) ?_
          rotate_left
          · (intro w hSw; (try dsimp only at hSw); go_simp; (try (with_reducible rfl)))
          try simp only [Act.put, List.setIfInBounds_toArray, List.set_cons_zero, List.set_cons_succ]
          refine wpAnyH_take (i := 2) (oi := { dst := some 53, op := Go.Op.nilCheck (Go.Operand.tmp 52), type := 0, pos := "law.go:58", after := #[{ on := 1, ground := Go.Ground.data }], guard := none }) (v := ?_) rfl (by kernel_rfl) (by kernel_rfl) (by kernel_rfl) (fun _ _ _ h => h) (Or.inl ⟨by rfl, ?_⟩) (by assumption) ?_
          rotate_left
          · (intro w hSw; (try dsimp only at hSw); go_simp; (try (with_reducible rfl)))
          try simp only [Act.put, List.setIfInBounds_toArray, List.set_cons_zero, List.set_cons_succ]
          refine wpAnyH_take (i := 3) (oi := { dst := some 54, op := Go.Op.fieldAddr 81 (Go.Operand.tmp 53) 1, type := 0, pos := "law.go:58", after := #[{ on := 2, ground := Go.Ground.data }], guard := none }) (v := ?_) rfl (by kernel_rfl) (by kernel_rfl) (by kernel_rfl) (fun _ _ _ h => h) (Or.inl ⟨by rfl, ?_⟩) (by assumption) ?_
          rotate_left
          · (intro w hSw; (try dsimp only at hSw); go_simp; (try (with_reducible rfl)))
          try simp only [Act.put, List.setIfInBounds_toArray, List.set_cons_zero, List.set_cons_succ]
          refine wpAnyH_take (i := 5) (oi := { dst := some 56, op := Go.Op.load 32 (Go.Operand.tmp 3), type := 32, pos := "law.go:58", after := #[], guard := none }) (v := ?_) rfl (by kernel_rfl) (by kernel_rfl) (by kernel_rfl) (fun _ _ _ h => h) (Or.inl ⟨by rfl, ?_⟩) (by assumption) ?_
          rotate_left
          · (intro w hSw; (try dsimp only at hSw); go_simp; (try (with_reducible rfl)))
          try simp only [Act.put, List.setIfInBounds_toArray, List.set_cons_zero, List.set_cons_succ]
          refine wpAnyH_ready (rs := [4, 6]) (by kernel_rfl) (by simp) ?_
          refine (AllReadyH.cons (o := { dst := some 55, op := Go.Op.load 22 (Go.Operand.tmp 54), type := 22, pos := "law.go:58", after := #[{ on := 3, ground := Go.Ground.data }], guard := none }) rfl (fun K hK => ?_) (AllReadyH.cons (o := { dst := some 57, op := Go.Op.buildSlice 22 1 #[(0, Go.Operand.tmp 56)], type := 22, pos := "law.go:58", after := #[{ on := 5, ground := Go.Ground.data }], guard := none }) rfl (fun K hK => ?_) AllReadyH.nil))
          go_simp
          refine hK.out _ _ (by first | (with_reducible exact kq0) | (with_reducible exact kq _ _ hE5)) (fun hHeld1 => ?_)
          clear hK K
          try simp only [Act.put, List.setIfInBounds_toArray, List.set_cons_zero, List.set_cons_succ]
          refine wpAnyH_ready (rs := [6]) (by kernel_rfl) (by simp) ?_
          refine AllReadyH.cons (o := { dst := some 57, op := Go.Op.buildSlice 22 1 #[(0, Go.Operand.tmp 56)], type := 22, pos := "law.go:58", after := #[{ on := 5, ground := Go.Ground.data }], guard := none }) rfl (fun K hK => ?_) AllReadyH.nil
          go_simp
          refine hK.out _ _ (kq _ _ hE5) (fun hHeld2 => ?_)
          clear hK K
          try simp only [Act.put, List.setIfInBounds_toArray, List.set_cons_zero, List.set_cons_succ]
          refine wpAnyH_ready (rs := [7]) (by kernel_rfl) (by simp) ?_
          refine AllReadyH.cons (o := { dst := some 58, op := Go.Op.call { callee := Go.Callee.builtin Go.Builtin.append, args := #[Go.Operand.tmp 55, Go.Operand.tmp 57], argTypes := #[22, 22] }, type := 22, pos := "law.go:58", after := #[{ on := 4, ground := Go.Ground.data }, { on := 6, ground := Go.Ground.data }], guard := none }) rfl (fun K hK => ?_) AllReadyH.nil
          rw [if_pos (by rfl)]
          refine oper_append_at (.tmp 55) (.tmp 57) 22 22 22 hrun rfl rfl rfl rfl ?_
          refine hK.out _ _ (kq _ _ h8) (fun hHeld3 => ?_)
          clear hK K
          try simp only [Act.put, List.setIfInBounds_toArray, List.set_cons_zero, List.set_cons_succ]
          refine wpAnyH_take (i := 8) (oi := { dst := some 59, op := Go.Op.nilCheck (Go.Operand.tmp 51), type := 0, pos := "law.go:58", after := #[{ on := 0, ground := Go.Ground.data }, { on := 0, ground := Go.Ground.phase }, { on := 1, ground := Go.Ground.phase }, { on := 2, ground := Go.Ground.phase }, { on := 3, ground := Go.Ground.phase }, { on := 4, ground := Go.Ground.phase }, { on := 5, ground := Go.Ground.phase }, { on := 6, ground := Go.Ground.phase }, { on := 7, ground := Go.Ground.phase }], guard := none }) (v := ?_) rfl (by kernel_rfl) (by kernel_rfl) (by kernel_rfl) (fun _ _ _ h => h) (Or.inl ⟨by rfl, ?_⟩) (by assumption) ?_
          rotate_left
          · (intro w hSw; (try dsimp only at hSw); go_simp; (try (with_reducible rfl)))
          try simp only [Act.put, List.setIfInBounds_toArray, List.set_cons_zero, List.set_cons_succ]
          refine wpAnyH_take (i := 9) (oi := { dst := some 60, op := Go.Op.fieldAddr 81 (Go.Operand.tmp 59) 1, type := 0, pos := "law.go:58", after := #[{ on := 8, ground := Go.Ground.data }, { on := 0, ground := Go.Ground.phase }, { on := 1, ground := Go.Ground.phase }, { on := 2, ground := Go.Ground.phase }, { on := 3, ground := Go.Ground.phase }, { on := 4, ground := Go.Ground.phase }, { on := 5, ground := Go.Ground.phase }, { on := 6, ground := Go.Ground.phase }, { on := 7, ground := Go.Ground.phase }], guard := none }) (v := ?_) rfl (by kernel_rfl) (by kernel_rfl) (by kernel_rfl) (fun _ _ _ h => h) (Or.inl ⟨by rfl, ?_⟩) (by assumption) ?_
          rotate_left
          · (intro w hSw; (try dsimp only at hSw); go_simp; (try (with_reducible rfl)))
          try simp only [Act.put, List.setIfInBounds_toArray, List.set_cons_zero, List.set_cons_succ]
          refine wpAnyH_ready (rs := [10]) (by kernel_rfl) (by simp) ?_
          refine AllReadyH.cons (o := { dst := none, op := Go.Op.store 22 (Go.Operand.tmp 60) (Go.Operand.tmp 58), type := 0, pos := "law.go:58", after := #[{ on := 9, ground := Go.Ground.data }, { on := 7, ground := Go.Ground.data }, { on := 7, ground := Go.Ground.chain }, { on := 0, ground := Go.Ground.phase }, { on := 1, ground := Go.Ground.phase }, { on := 2, ground := Go.Ground.phase }, { on := 3, ground := Go.Ground.phase }, { on := 4, ground := Go.Ground.phase }, { on := 5, ground := Go.Ground.phase }, { on := 6, ground := Go.Ground.phase }, { on := 7, ground := Go.Ground.phase }], guard := none }) rfl (fun K hK => ?_) AllReadyH.nil
          go_simp
          refine hK.out _ _ (kq _ _ h9) (fun hHeld4 => ?_)
          clear hK K
          try simp only [Act.put, List.setIfInBounds_toArray, List.set_cons_zero, List.set_cons_succ]
          refine wpAnyH_done (by kernel_rfl) ?_ _
          rotate_left
          go_simp
          refine hK.out _ _ (kq _ _ hE5) (fun hHeld2 => ?_)
          clear hK K
          try simp only [Act.put, List.setIfInBounds_toArray, List.set_cons_zero, List.set_cons_succ]
          refine wpAnyH_ready (rs := [4]) (by kernel_rfl) (by simp) ?_
          refine AllReadyH.cons (o := { dst := some 55, op := Go.Op.load 22 (Go.Operand.tmp 54), type := 22, pos := "law.go:58", after := #[{ on := 3, ground := Go.Ground.data }], guard := none }) rfl (fun K hK => ?_) AllReadyH.nil
          go_simp
          refine hK.out _ _ (by first | (with_reducible exact kq0) | (with_reducible exact kq _ _ hE5)) (fun hHeld1 => ?_)
          clear hK K
          try simp only [Act.put, List.setIfInBounds_toArray, List.set_cons_zero, List.set_cons_succ]
          refine wpAnyH_ready (rs := [7]) (by kernel_rfl) (by simp) ?_
          refine AllReadyH.cons (o := { dst := some 58, op := Go.Op.call { callee := Go.Callee.builtin Go.Builtin.append, args := #[Go.Operand.tmp 55, Go.Operand.tmp 57], argTypes := #[22, 22] }, type := 22, pos := "law.go:58", after := #[{ on := 4, ground := Go.Ground.data }, { on := 6, ground := Go.Ground.data }], guard := none }) rfl (fun K hK => ?_) AllReadyH.nil
          rw [if_pos (by rfl)]
          refine oper_append_at (.tmp 55) (.tmp 57) 22 22 22 hrun rfl rfl rfl rfl ?_
          refine hK.out _ _ (kq _ _ h8) (fun hHeld3 => ?_)
          clear hK K
          try simp only [Act.put, List.setIfInBounds_toArray, List.set_cons_zero, List.set_cons_succ]
          refine wpAnyH_take (i := 8) (oi := { dst := some 59, op := Go.Op.nilCheck (Go.Operand.tmp 51), type := 0, pos := "law.go:58", after := #[{ on := 0, ground := Go.Ground.data }, { on := 0, ground := Go.Ground.phase }, { on := 1, ground := Go.Ground.phase }, { on := 2, ground := Go.Ground.phase }, { on := 3, ground := Go.Ground.phase }, { on := 4, ground := Go.Ground.phase }, { on := 5, ground := Go.Ground.phase }, { on := 6, ground := Go.Ground.phase }, { on := 7, ground := Go.Ground.phase }], guard := none }) (v := ?_) rfl (by kernel_rfl) (by kernel_rfl) (by kernel_rfl) (fun _ _ _ h => h) (Or.inl ⟨by rfl, ?_⟩) (by assumption) ?_
          rotate_left
          · (intro w hSw; (try dsimp only at hSw); go_simp; (try (with_reducible rfl)))
          try simp only [Act.put, List.setIfInBounds_toArray, List.set_cons_zero, List.set_cons_succ]
          refine wpAnyH_take (i := 9) (oi := { dst := some 60, op := Go.Op.fieldAddr 81 (Go.Operand.tmp 59) 1, type := 0, pos := "law.go:58", after := #[{ on := 8, ground := Go.Ground.data }, { on := 0, ground := Go.Ground.phase }, { on := 1, ground := Go.Ground.phase }, { on := 2, ground := Go.Ground.phase }, { on := 3, ground := Go.Ground.phase }, { on := 4, ground := Go.Ground.phase }, { on := 5, ground := Go.Ground.phase }, { on := 6, ground := Go.Ground.phase }, { on := 7, ground := Go.Ground.phase }], guard := none }) (v := ?_) rfl (by kernel_rfl) (by kernel_rfl) (by kernel_rfl) (fun _ _ _ h => h) (Or.inl ⟨by rfl, ?_⟩) (by assumption) ?_
          rotate_left
          · (intro w hSw; (try dsimp only at hSw); go_simp; (try (with_reducible rfl)))
          try simp only [Act.put, List.setIfInBounds_toArray, List.set_cons_zero, List.set_cons_succ]
          refine wpAnyH_ready (rs := [10]) (by kernel_rfl) (by simp) ?_
          refine AllReadyH.cons (o := { dst := none, op := Go.Op.store 22 (Go.Operand.tmp 60) (Go.Operand.tmp 58), type := 0, pos := "law.go:58", after := #[{ on := 9, ground := Go.Ground.data }, { on := 7, ground := Go.Ground.data }, { on := 7, ground := Go.Ground.chain }, { on := 0, ground := Go.Ground.phase }, { on := 1, ground := Go.Ground.phase }, { on := 2, ground := Go.Ground.phase }, { on := 3, ground := Go.Ground.phase }, { on := 4, ground := Go.Ground.phase }, { on := 5, ground := Go.Ground.phase }, { on := 6, ground := Go.Ground.phase }, { on := 7, ground := Go.Ground.phase }], guard := none }) rfl (fun K hK => ?_) AllReadyH.nil
          go_simp
          refine hK.out _ _ (kq _ _ h9) (fun hHeld4 => ?_)
          clear hK K
          try simp only [Act.put, List.setIfInBounds_toArray, List.set_cons_zero, List.set_cons_succ]
          refine wpAnyH_done (by kernel_rfl) ?_ _
          rotate_left
          all_goals
            go_wp2_with fail
            exact hz.out
  · rw [if_pos hre] at hE
    have hfin : ∀ w', St H1 (Blk p (mdC room (.slice la L.length lc) dv low) 81 :: Row 32 5 (.slice la L.length lc) (recs L) :: Row 28 2 dv (idl D) :: fr) w' → Env w w' → Hid (Q (.returned (.int .i64 E)) w') := fun w' h' en' => Lib.hid (hbad E w' rfl (by rw [← hE]; exact hre) (mdShut (h'.weaken l1)) en')
    rw [hE] at hC ⊢
    have hE0 : E ≠ 0 := by rw [← hE]; exact hre
    have u0 := h2.cell a.1
    have u1 := h2.cell a.2.1
    have u2 := h2.cell a.2.2.1
    have u3 := h2.cell a.2.2.2.1
    have u4 := h2.cell a.2.2.2.2
    have ul := World.block_lt_of_cell? _ _ u0
    simp only at u0 u1 u2 u3 u4
    clear hE hbad hgood hri hre
    go_wp2_with fail
    refine (hC.out _ h2).mono ?_
    rintro e w3 ⟨rfl, hb3⟩
    have hz := hfin _ (h2.below hb3) (en2.trans (bel_env hb3))
    go_wp2_with fail
    exact hz.out
end Go.Proofs.Ytelmhcbdpimaaaa

/- Law 21's model: kept. -/
set_option linter.unusedVariables false
set_option linter.unusedSimpArgs false
namespace Go.Proofs.Ytelmhcbdpimaaaa
open Go.RowKit Go.Cw Go.Fl
attribute [local go_sem ↓] eql_id neq_id
set_option maxRecDepth 100000 in
set_option maxHeartbeats 3200000 in
theorem mdKept_open (p : Nat) (room : Int) (L : List Rc) (D : List Id) (low : List Nat) (lv dv : Value) (H : Hp) (fr : List HA) (w : World) (h0 : St H (Blk p (mdC room lv dv low) 81 :: Row 32 5 lv (recs L) :: Row 28 2 dv (idl D) :: fr) w) (hLn : L.length ≤ 1000) :
    Calls Try.prog 53 #[mdP p] w fun e w' => ∃ v, e = .returned v ∧ St H (Row 28 2 v (idl (sortL (rids L))) :: Blk p (mdC room lv dv low) 81 :: Row 32 5 lv (recs L) :: Row 28 2 dv (idl D) :: fr) w' ∧ Env w w' := by
  obtain ⟨la, ln, lc, rfl, hln, hlc, hlm⟩ := h0.swap.row_form
  rw [recs_len] at hln
  obtain rfl : ln = L.length := by omega
  have h1 := h0.row_lit 28 2 0 #[] rfl (by decide)
  have en1 := (Env.refl w).alloc (.cells #[] 28)
  have kp : ∀ (l' : List HA) (w' : World) (A : HA), St H (A :: Blk p (mdC room (.slice la L.length lc) dv low) 81 :: l') w' → w'.cell? ⟨p, 1, none⟩ = some (.slice la L.length lc) ∧ p < w'.heap.size := fun l' w' A h => ⟨h.swap.blk_cell 1, h.swap.blk_lt⟩
  replace kp := Lib.hid kp
  have cl := h0.blk_lt
  clear hln
  go_enter Try.func53, Try.ntmps53
  go_wp2_with fail
  go_loopw [3, 4] (fun lv i wr => ∃ k : Nat, k ≤ L.length ∧ i = .int .i64 k ∧ St H (Row 28 2 lv (idl (sortL (rids (L.take k)))) :: Blk p (mdC room (.slice la L.length lc) dv low) 81 :: Row 32 5 (.slice la L.length lc) (recs L) :: Row 28 2 dv (idl D) :: fr) wr ∧ Env w wr) (fun _ i _ => L.length - (intOf i).toNat)
  case atStart => exact ⟨0, Nat.zero_le _, rfl, h1, en1⟩
  case round =>
    clear h1 en1 h0 cl
    obtain ⟨k, hk, rfl, hst, hen⟩ := hrel
    obtain ⟨c1, cl⟩ := kp.out _ _ _ hst
    by_cases hlt : k < L.length
    · have htk : rids (L.take (k + 1)) = rids (L.take k) ++ [L[k].1] := by unfold rids; rw [List.take_add_one, List.getElem?_eq_getElem hlt, List.map_append]; rfl
      have hsl : (sortL (rids (L.take k))).length ≤ k := by
        have := sortL_len (rids (L.take k))
        have h2 : (rids (L.take k)).length ≤ k := by rw [List.length_map, List.length_take]; omega
        omega
      have hlt' : (k : Int) < (L.length : Int) := by omega
      obtain ⟨b, off, hA, hcr⟩ := ((hst.pick 2 (by simp)).row_rw (by decide)).cells (by omega)
      cases hA
      obtain ⟨p0, p1, -, -, -⟩ := recs_get L k hlt
      replace p0 := hcr _ _ p0
      replace p1 := hcr _ _ p1
      rw [← Nat.add_assoc] at p1
      clear hcr
      have pl := World.block_lt_of_cell? _ _ p0
      generalize L[k].1 = x at *
      obtain ⟨x0, x1⟩ := x
      have HN : Hid (putL (x0, x1) (sortL (rids (L.take k))) = sortL (rids (L.take (k + 1)))) := Lib.hid (by rw [htk, sortL_push])
      clear htk
      go_wp2_with fail
      refine (put_own _ _ (x0, x1) _ _ _ hst (by omega)).mono ?_
      rintro e w3 ⟨v', rfl, h3, en3⟩
      rw [HN.out] at h3
      go_wp2_with fail
      go_roundw
      case rel => exact ⟨k + 1, by omega, by go_num, h3, hen.trans en3⟩
      case measure => simp [intOf]; omega
    · obtain rfl : k = L.length := by omega
      rw [List.take_length] at hst
      have hz := hst
      go_wp2_with fail
      go_ret
      exact ⟨_, rfl, hz, hen⟩
theorem mdKept_any (p : Nat) (room : Int) (L : List Rc) (D : List Id) (low : List Nat) (H : Hp) (fr : List HA) (w : World) (h : St H (MdA p room L D low :: fr) w) (hLn : L.length ≤ 1000) :
    Calls Try.prog 53 #[mdP p] w fun e w' => ∃ v, e = .returned v ∧ St H (Row 28 2 v (idl (sortL (rids L))) :: MdA p room L D low :: fr) w' ∧ Env w w' := by
  obtain ⟨lv, dv, h0⟩ := mdOpen h
  refine (mdKept_open p room L D low lv dv H fr w h0 hLn).mono ?_
  rintro e w' ⟨v, rfl, h1, en⟩
  exact ⟨v, rfl, (mdShut (h1.perm (List.perm_append_comm (l₁ := [Row 28 2 v (idl (sortL (rids L)))]) (l₂ := [_, _, _]) |>.append_right fr))).swap, en⟩
end Go.Proofs.Ytelmhcbdpimaaaa
