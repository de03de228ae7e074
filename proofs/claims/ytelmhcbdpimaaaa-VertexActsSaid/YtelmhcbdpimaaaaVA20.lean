/- Joined texts: Model24, VertRel. -/
import Derived.Test.YtelmhcbdpimaaaaVA19
/- Law 21's model: compact. -/
set_option linter.unusedVariables false
set_option linter.unusedSimpArgs false
namespace Go.Proofs.Ytelmhcbdpimaaaa
open Go.RowKit Go.Cw Go.Fl
attribute [local go_sem ↓] eql_id neq_id
def keepR (low : List Nat) (L : List Rc) : List Rc := L.filter (fun x => aboveL low x.1)
theorem keepR_snoc (low : List Nat) (L : List Rc) (k : Nat) (h : k < L.length) : keepR low (L.take (k + 1)) = if aboveL low L[k].1 = true then keepR low (L.take k) ++ [L[k]] else keepR low (L.take k) := by
  unfold keepR
  rw [List.take_add_one, List.getElem?_eq_getElem h, List.filter_append]
  by_cases hm : aboveL low L[k].1 = true <;> simp [hm]
theorem keepR_le (low : List Nat) (L : List Rc) : (keepR low L).length ≤ L.length := List.length_filter_le ..
/-- What the model's compact does. -/
def MCom (H : Hp) (p : Nat) (room : Int) (L : List Rc) (D : List Id) (fr : List HA) (w : World) (e : Ending) (w' : World) : Prop :=
  ∃ low : List Nat, low.length = 8 ∧ FlL D low ∧ e = .returned (.int .i64 ((L.length : Int) - ((keepR low L).length : Int))) ∧ St H (MdA p room (keepR low L) D low :: fr) w' ∧ Env w w'
set_option maxRecDepth 100000 in
set_option maxHeartbeats 6400000 in
theorem mdCompact_any (p : Nat) (room : Int) (L : List Rc) (D : List Id) (low : List Nat) (hlow : low.length = 8) (H : Hp) (fr : List HA) (w : World) (h : St H (MdA p room L D low :: fr) w) (hLn : L.length ≤ 1000) (hDn : D.length ≤ 1000) (hid : ∀ x ∈ L, idOk x.1 = true) (hL : ∀ x ∈ L, RcD H x) :
    Calls Try.prog 51 #[mdP p] w (MCom H p room L D fr w) := by
  have h1 := h.row_lit 32 5 0 #[] rfl (by decide)
  have en1 := (Env.refl w).alloc (.cells #[] 32)
  replace hid := Lib.hid hid
  replace hL := Lib.hid hL
  clear h
  go_enter Try.func51, Try.ntmps51
  go_wp2_with fail
  generalize w.heap.size = ga at *
  go_loopw [4] (fun iv wr => ∃ (i : Nat) (lw : List Nat), i ≤ 8 ∧ iv = .int .i64 (i : Int) ∧ lw.length = 8 ∧ St H (Row 32 5 (.slice (some ⟨ga, 0, none⟩) 0 0) [] :: MdA p room L D lw :: fr) wr ∧ Env w wr ∧ Hid (∀ r : Nat, r < i → FlP D (r : Int) (lw.getD r 0))) (fun a _ => 8 - (intOf a).toNat)
  case atStart => exact ⟨0, low, by omega, by go_num, hlow, h1, en1, Lib.hid (fun r hr => absurd hr (Nat.not_lt_zero r))⟩
  case round =>
    clear h1 en1 hlow low
    obtain ⟨i, lw, hi, rfl, hlw, hst, hen, HF⟩ := hrel
    rcases Nat.lt_or_ge i 8 with hlt | hge
    · obtain ⟨lv, dv, h1⟩ := mdOpen hst.swap
      have hD := h1.drew
      have hF := Lib.hid (mdFloor_any p room L D lw (i : Int) H _ _ (mdShut hD) hDn)
      have hlt' : (i : Int) < 8 := by omega
      go_wp2_with fail
      refine wp_region_held_drew (S := fun w' : World => True) (by kernel_rfl) trivial (fun hHeld => ?_)
      refine wpAnyH_take (i := 0) (oi := { dst := some 12, op := Go.Op.move (Go.Operand.tmp 0), type := 78, pos := "law.go:80", after := #[], guard := none }) (v := ?_) rfl (by kernel_rfl) (by kernel_rfl) (by kernel_rfl) (fun _ _ _ h => h) (Or.inl ⟨by rfl, ?_⟩) (by assumption) ?_
      rotate_left
      · (intro w hSw; (try dsimp only at hSw); go_simp; (try (with_reducible rfl)))
      try simp only [Act.put, List.setIfInBounds_toArray, List.set_cons_zero, List.set_cons_succ]
      refine wpAnyH_take (i := 1) (oi := { dst := some 13, op := Go.Op.move (Go.Operand.tmp 4), type := 3, pos := "law.go:80", after := #[], guard := none }) (v := ?_) rfl (by kernel_rfl) (by kernel_rfl) (by kernel_rfl) (fun _ _ _ h => h) (Or.inl ⟨by rfl, ?_⟩) (by assumption) ?_
      rotate_left
      · (intro w hSw; (try dsimp only at hSw); go_simp; (try (with_reducible rfl)))
      try simp only [Act.put, List.setIfInBounds_toArray, List.set_cons_zero, List.set_cons_succ]
      refine wpAnyH_take (i := 2) (oi := { dst := some 14, op := Go.Op.move (Go.Operand.tmp 0), type := 78, pos := "law.go:80", after := #[], guard := none }) (v := ?_) rfl (by kernel_rfl) (by kernel_rfl) (by kernel_rfl) (fun _ _ _ h => h) (Or.inl ⟨by rfl, ?_⟩) (by assumption) ?_
      rotate_left
      · (intro w hSw; (try dsimp only at hSw); go_simp; (try (with_reducible rfl)))
      try simp only [Act.put, List.setIfInBounds_toArray, List.set_cons_zero, List.set_cons_succ]
      refine wpAnyH_take (i := 3) (oi := { dst := some 15, op := Go.Op.move (Go.Operand.tmp 4), type := 3, pos := "law.go:80", after := #[], guard := none }) (v := ?_) rfl (by kernel_rfl) (by kernel_rfl) (by kernel_rfl) (fun _ _ _ h => h) (Or.inl ⟨by rfl, ?_⟩) (by assumption) ?_
      rotate_left
      · (intro w hSw; (try dsimp only at hSw); go_simp; (try (with_reducible rfl)))
      try simp only [Act.put, List.setIfInBounds_toArray, List.set_cons_zero, List.set_cons_succ]
      refine wpAnyH_take (i := 5) (oi := { dst := some 17, op := Go.Op.nilCheck (Go.Operand.tmp 12), type := 0, pos := "law.go:80", after := #[{ on := 0, ground := Go.Ground.data }], guard := none }) (v := ?_) rfl (by kernel_rfl) (by kernel_rfl) (by kernel_rfl) (fun _ _ _ h => h) (Or.inl ⟨by rfl, ?_⟩) (by assumption) ?_
      rotate_left
      · (intro w hSw; (try dsimp only at hSw); go_simp; (try (with_reducible rfl)))
      try simp only [Act.put, List.setIfInBounds_toArray, List.set_cons_zero, List.set_cons_succ]
      refine wpAnyH_take (i := 6) (oi := { dst := some 18, op := Go.Op.fieldAddr 81 (Go.Operand.tmp 17) 3, type := 0, pos := "law.go:80", after := #[{ on := 5, ground := Go.Ground.data }], guard := none }) (v := ?_) rfl (by kernel_rfl) (by kernel_rfl) (by kernel_rfl) (fun _ _ _ h => h) (Or.inl ⟨by rfl, ?_⟩) (by assumption) ?_
      rotate_left
      · (intro w hSw; (try dsimp only at hSw); go_simp; (try (with_reducible rfl)))
      try simp only [Act.put, List.setIfInBounds_toArray, List.set_cons_zero, List.set_cons_succ]
      refine wpAnyH_ready (rs := [4]) (by kernel_rfl) (by simp) ?_
      refine AllReadyH.cons (o := { dst := some 16, op := Go.Op.call { callee := Go.Callee.value (Go.Operand.func 54), args := #[Go.Operand.tmp 14, Go.Operand.tmp 15], argTypes := #[78, 3] }, type := 3, pos := "law.go:80", after := #[{ on := 2, ground := Go.Ground.data }, { on := 3, ground := Go.Ground.data }], guard := none }) rfl (fun K hK => ?_) AllReadyH.nil
      go_simp
      refine hF.out.mono ?_
      rintro e w2 ⟨n, rfl, hb2, hn⟩
      have h2 := hD.below hb2
      have cl := h2.blk_lt
      have sc := h2.blk_cell (3 + i)
      rw [mdC_low _ _ _ _ _ (by omega)] at sc
      have sf := h2.blk_free (3 + i)
      have h3 := h2.blk_set (3 + i) (.int .i64 (n : Int))
      rw [mdC_set _ _ _ _ _ _ (by omega)] at h3
      refine hK.out _ _ trivial (fun hHeld2 => ?_)
      clear hK K
      try simp only [Act.put, List.setIfInBounds_toArray, List.set_cons_zero, List.set_cons_succ]
      refine wpAnyH_take (i := 7) (oi := { dst := some 19, op := Go.Op.indexAddr 79 (Go.Operand.tmp 18) (Go.Operand.tmp 13), type := 0, pos := "law.go:80", after := #[{ on := 6, ground := Go.Ground.data }, { on := 1, ground := Go.Ground.data }, { on := 0, ground := Go.Ground.phase }, { on := 1, ground := Go.Ground.phase }, { on := 2, ground := Go.Ground.phase }, { on := 3, ground := Go.Ground.phase }, { on := 4, ground := Go.Ground.phase }], guard := none }) (v := ?_) rfl (by kernel_rfl) (by kernel_rfl) (by kernel_rfl) (fun _ _ _ h => h) (Or.inl ⟨by rfl, ?_⟩) (by assumption) ?_
      rotate_left
      · (intro w hSw; (try dsimp only at hSw); go_simp; (try (with_reducible rfl)))
      try simp only [Act.put, List.setIfInBounds_toArray, List.set_cons_zero, List.set_cons_succ]
      refine wpAnyH_ready (rs := [8]) (by kernel_rfl) (by simp) ?_
      refine AllReadyH.cons (o := { dst := none, op := Go.Op.store 3 (Go.Operand.tmp 19) (Go.Operand.tmp 16), type := 0, pos := "law.go:80", after := #[{ on := 7, ground := Go.Ground.data }, { on := 4, ground := Go.Ground.data }, { on := 4, ground := Go.Ground.chain }, { on := 0, ground := Go.Ground.phase }, { on := 1, ground := Go.Ground.phase }, { on := 2, ground := Go.Ground.phase }, { on := 3, ground := Go.Ground.phase }, { on := 4, ground := Go.Ground.phase }], guard := none }) rfl (fun K hK => ?_) AllReadyH.nil
      go_simp
      refine hK.out _ _ trivial (fun hHeld3 => ?_)
      clear hK K
      try simp only [Act.put, List.setIfInBounds_toArray, List.set_cons_zero, List.set_cons_succ]
      refine wpAnyH_done (by kernel_rfl) ?_ _
      have hz := (mdShut h3).swap
      have enz := ((hen.drew.trans (bel_env hb2)).setCell ⟨p, 3 + i, none⟩ (.int .i64 (n : Int)))
      have HF' : Hid (∀ r : Nat, r < i + 1 → FlP D (r : Int) ((lw.set i n).getD r 0)) := Lib.hid (fun r hr => by
        rw [getD_set _ _ _ _ (by omega)]
        by_cases hri : r = i
        · rw [if_pos hri, hri]; exact hn
        · rw [if_neg hri]; exact HF.out r (by omega))
      clear hHeld3 hn sc sf h2 h3 h1 hD hF
      go_wp2_with fail
      go_roundw
      case rel => exact ⟨i + 1, lw.set i n, by omega, by go_num, by rw [List.length_set]; exact hlw, hz, enz, HF'⟩
      case measure => simp [intOf]; omega
    · obtain rfl : i = 8 := by omega
      obtain ⟨lv, dv, h1⟩ := mdOpen hst.swap
      obtain ⟨la, ln, lc, rfl, hln, hlc, hlm⟩ := h1.swap.row_form
      rw [recs_len] at hln
      obtain rfl : ln = L.length := by omega
      have h2 : St H (Row 32 5 (.slice (some ⟨ga, 0, none⟩) 0 0) [] :: Blk p (mdC room (.slice la L.length lc) dv lw) 81 :: Row 32 5 (.slice la L.length lc) (recs L) :: Row 28 2 dv (idl D) :: fr) wr := h1.pick 3 (by simp)
      have kp : ∀ (l' : List HA) (w' : World) (A : HA), St H (A :: Blk p (mdC room (.slice la L.length lc) dv lw) 81 :: l') w' → w'.cell? ⟨p, 1, none⟩ = some (.slice la L.length lc) ∧ p < w'.heap.size := fun l' w' A h => ⟨h.swap.blk_cell 1, h.swap.blk_lt⟩
      replace kp := Lib.hid kp
      clear hln h1 hst
      go_wp2_with fail
      go_loopw [3, 5] (fun lv i wr => ∃ k : Nat, k ≤ L.length ∧ i = .int .i64 k ∧ St H (Row 32 5 lv (recs (keepR lw (L.take k))) :: Blk p (mdC room (.slice la L.length lc) dv lw) 81 :: Row 32 5 (.slice la L.length lc) (recs L) :: Row 28 2 dv (idl D) :: fr) wr ∧ Env w wr) (fun _ i _ => L.length - (intOf i).toNat)
      case atStart => exact ⟨0, Nat.zero_le _, rfl, h2, hen⟩
      case round =>
        clear h2 hen
        obtain ⟨k, hk, rfl, hst, hen⟩ := hrel
        obtain ⟨c1, cl⟩ := kp.out _ _ _ hst
        by_cases hlt : k < L.length
        · have hlt' : (k : Int) < (L.length : Int) := by omega
          obtain ⟨lb, lof, hA, -⟩ := ((hst.pick 2 (by simp)).row_rw (by decide)).cells (by omega)
          cases hA
          have kz : ∀ (B : HA) (w' : World), St H (B :: Blk p (mdC room (.slice (some ⟨lb, lof, none⟩) L.length lc) dv lw) 81 :: Row 32 5 (.slice (some ⟨lb, lof, none⟩) L.length lc) (recs L) :: Row 28 2 dv (idl D) :: fr) w' → (w'.cell? ⟨lb, lof + k * 5, none⟩ = some (.int .i64 L[k].1.1) ∧ w'.cell? ⟨lb, lof + k * 5 + 1, none⟩ = some (.int .i64 L[k].1.2) ∧ w'.cell? ⟨lb, lof + k * 5 + 2, none⟩ = some (.int .i64 L[k].2.1) ∧ w'.cell? ⟨lb, lof + k * 5 + 3, none⟩ = some L[k].2.2.1 ∧ w'.cell? ⟨lb, lof + k * 5 + 4, none⟩ = some L[k].2.2.2.1) := fun B w' h' => by
            obtain ⟨b', off', hA', hcr⟩ := ((h'.pick 2 (by simp)).row_rw (by decide)).cells (by omega)
            cases hA'
            obtain ⟨q0, q1, q2, q3, q4⟩ := recs_get L k hlt
            refine ⟨hcr _ _ q0, ?_, ?_, ?_, ?_⟩
            · rw [Nat.add_assoc]; exact hcr _ _ q1
            · rw [Nat.add_assoc]; exact hcr _ _ q2
            · rw [Nat.add_assoc]; exact hcr _ _ q3
            · rw [Nat.add_assoc]; exact hcr _ _ q4
          have hsn := keepR_snoc lw L k hlt
          have hkl := keepR_le lw (L.take (k + 1))
          have hki := hid.out L[k] (List.getElem_mem hlt)
          have hkd := hL.out L[k] (List.getElem_mem hlt)
          generalize L[k] = x at *
          obtain ⟨d1, d2, d3, hdv, _⟩ := hkd.d.form
          obtain ⟨b1, b2, b3, hbv, _⟩ := hkd.b.form
          have hone := rec_one x hkd
          obtain ⟨⟨xr, xs⟩, xq, xd, xb, xD, xB⟩ := x
          simp only at hdv hbv kz hki
          subst hdv hbv
          obtain ⟨hr0, hr8, hs1, hs2⟩ := (idOk_iff _).1 hki
          simp only at hr0 hr8 hs1 hs2
          obtain ⟨n, rfl⟩ : ∃ n : Nat, xr = (n : Int) := ⟨xr.toNat, by omega⟩
          have hn8 : n < 8 := by omega
          obtain ⟨lo, hlo⟩ : ∃ lo : Nat, lw.getD n 0 = lo := ⟨_, rfl⟩
          have hab : aboveL lw ((n : Int), xs) = !decide (xs ≤ (lo : Int)) := by unfold aboveL; simp only [Int.toNat_natCast, hlo]
          simp only [hab] at hsn
          have kk : ∀ (B : HA) (w' : World), St H (B :: Blk p (mdC room (.slice (some ⟨lb, lof, none⟩) L.length lc) dv lw) 81 :: Row 32 5 (.slice (some ⟨lb, lof, none⟩) L.length lc) (recs L) :: Row 28 2 dv (idl D) :: fr) w' → (fun w' : World => w'.cell? ⟨p, 1, none⟩ = some (.slice (some ⟨lb, lof, none⟩) L.length lc) ∧ w'.cell? ⟨lb, lof + k * 5, none⟩ = some (.int .i64 (n : Int)) ∧ w'.cell? ⟨lb, lof + k * 5 + 1, none⟩ = some (.int .i64 xs) ∧ w'.cell? ⟨p, 3 + n, none⟩ = some (.int .i64 (lo : Int))) w' := fun B w' h => ⟨h.swap.blk_cell 1, (kz B w' h).1, (kz B w' h).2.1, by have := h.swap.blk_cell (3 + n); rw [mdC_low _ _ _ _ _ (by omega), hlo] at this; exact this⟩
          have hD := hst.drew
          go_wp2_with fail
          refine wp_region_held_drew (S := fun w' : World => w'.cell? ⟨p, 1, none⟩ = some (.slice (some ⟨lb, lof, none⟩) L.length lc) ∧ w'.cell? ⟨lb, lof + k * 5, none⟩ = some (.int .i64 (n : Int)) ∧ w'.cell? ⟨lb, lof + k * 5 + 1, none⟩ = some (.int .i64 xs) ∧ w'.cell? ⟨p, 3 + n, none⟩ = some (.int .i64 (lo : Int))) (by kernel_rfl) (kk _ _ hD) (fun hHeld => ?_)
          refine wpAnyH_take (i := 0) (oi := { dst := some 29, op := Go.Op.move (Go.Operand.tmp 0), type := 78, pos := "law.go:83", after := #[], guard := none }) (v := ?_) rfl (by kernel_rfl) (by kernel_rfl) (by kernel_rfl) (fun _ _ _ h => h) (Or.inl ⟨by rfl, ?_⟩) (by assumption) ?_
          rotate_left
          · (intro w hSw; (try dsimp only at hSw); go_simp; (try (with_reducible rfl)))
          try simp only [Act.put, List.setIfInBounds_toArray, List.set_cons_zero, List.set_cons_succ]
          refine wpAnyH_take (i := 1) (oi := { dst := some 30, op := Go.Op.nilCheck (Go.Operand.tmp 29), type := 0, pos := "law.go:83", after := #[{ on := 0, ground := Go.Ground.data }], guard := none }) (v := ?_) rfl (by kernel_rfl) (by kernel_rfl) (by kernel_rfl) (fun _ _ _ h => h) (Or.inl ⟨by rfl, ?_⟩) (by assumption) ?_
          rotate_left
          · (intro w hSw; (try dsimp only at hSw); go_simp; (try (with_reducible rfl)))
          try simp only [Act.put, List.setIfInBounds_toArray, List.set_cons_zero, List.set_cons_succ]
          refine wpAnyH_take (i := 2) (oi := { dst := some 31, op := Go.Op.fieldAddr 81 (Go.Operand.tmp 30) 1, type := 0, pos := "law.go:83", after := #[{ on := 1, ground := Go.Ground.data }], guard := none }) (v := ?_) rfl (by kernel_rfl) (by kernel_rfl) (by kernel_rfl) (fun _ _ _ h => h) (Or.inl ⟨by rfl, ?_⟩) (by assumption) ?_
          rotate_left
          · (intro w hSw; (try dsimp only at hSw); go_simp; (try (with_reducible rfl)))
          try simp only [Act.put, List.setIfInBounds_toArray, List.set_cons_zero, List.set_cons_succ]
          refine wpAnyH_take (i := 3) (oi := { dst := some 32, op := Go.Op.load 22 (Go.Operand.tmp 31), type := 22, pos := "law.go:83", after := #[{ on := 2, ground := Go.Ground.data }], guard := none }) (v := ?_) rfl (by kernel_rfl) (by kernel_rfl) (by kernel_rfl) (fun _ _ _ h => h) (Or.inl ⟨by rfl, ?_⟩) (by assumption) ?_
          rotate_left
          · (intro w hSw; (try dsimp only at hSw); go_simp; (try (with_reducible rfl)))
          try simp only [Act.put, List.setIfInBounds_toArray, List.set_cons_zero, List.set_cons_succ]
          refine wpAnyH_take (i := 4) (oi := { dst := some 33, op := Go.Op.move (Go.Operand.tmp 5), type := 3, pos := "law.go:83", after := #[], guard := none }) (v := ?_) rfl (by kernel_rfl) (by kernel_rfl) (by kernel_rfl) (fun _ _ _ h => h) (Or.inl ⟨by rfl, ?_⟩) (by assumption) ?_
          rotate_left
          · (intro w hSw; (try dsimp only at hSw); go_simp; (try (with_reducible rfl)))
          try simp only [Act.put, List.setIfInBounds_toArray, List.set_cons_zero, List.set_cons_succ]
          refine wpAnyH_take (i := 5) (oi := { dst := some 34, op := Go.Op.indexAddr 22 (Go.Operand.tmp 32) (Go.Operand.tmp 33), type := 0, pos := "law.go:83", after := #[{ on := 3, ground := Go.Ground.data }, { on := 4, ground := Go.Ground.data }], guard := none }) (v := ?_) rfl (by kernel_rfl) (by kernel_rfl) (by kernel_rfl) (fun _ _ _ h => h) (Or.inl ⟨by rfl, ?_⟩) (by assumption) ?_
          rotate_left
          · (intro w hSw; (try dsimp only at hSw); go_simp; (try (with_reducible rfl)))
          try simp only [Act.put, List.setIfInBounds_toArray, List.set_cons_zero, List.set_cons_succ]
          refine wpAnyH_take (i := 6) (oi := { dst := some 35, op := Go.Op.fieldAddr 32 (Go.Operand.tmp 34) 0, type := 0, pos := "law.go:83", after := #[{ on := 5, ground := Go.Ground.data }], guard := none }) (v := ?_) rfl (by kernel_rfl) (by kernel_rfl) (by kernel_rfl) (fun _ _ _ h => h) (Or.inl ⟨by rfl, ?_⟩) (by assumption) ?_
          rotate_left
          · (intro w hSw; (try dsimp only at hSw); go_simp; (try (with_reducible rfl)))
          try simp only [Act.put, List.setIfInBounds_toArray, List.set_cons_zero, List.set_cons_succ]
          refine wpAnyH_take (i := 7) (oi := { dst := some 36, op := Go.Op.fieldAddr 28 (Go.Operand.tmp 35) 1, type := 0, pos := "law.go:83", after := #[{ on := 6, ground := Go.Ground.data }], guard := none }) (v := ?_) rfl (by kernel_rfl) (by kernel_rfl) (by kernel_rfl) (fun _ _ _ h => h) (Or.inl ⟨by rfl, ?_⟩) (by assumption) ?_
          rotate_left
          · (intro w hSw; (try dsimp only at hSw); go_simp; (try (with_reducible rfl)))
          try simp only [Act.put, List.setIfInBounds_toArray, List.set_cons_zero, List.set_cons_succ]
          refine wpAnyH_take (i := 8) (oi := { dst := some 37, op := Go.Op.load 3 (Go.Operand.tmp 36), type := 3, pos := "law.go:83", after := #[{ on := 7, ground := Go.Ground.data }], guard := none }) (v := ?_) rfl (by kernel_rfl) (by kernel_rfl) (by kernel_rfl) (fun _ _ _ h => h) (Or.inl ⟨by rfl, ?_⟩) (by assumption) ?_
          rotate_left
          · (intro w hSw; (try dsimp only at hSw); go_simp; (try (with_reducible rfl)))
          try simp only [Act.put, List.setIfInBounds_toArray, List.set_cons_zero, List.set_cons_succ]
          refine wpAnyH_take (i := 9) (oi := { dst := some 38, op := Go.Op.move (Go.Operand.tmp 0), type := 78, pos := "law.go:83", after := #[], guard := none }) (v := ?_) rfl (by kernel_rfl) (by kernel_rfl) (by kernel_rfl) (fun _ _ _ h => h) (Or.inl ⟨by rfl, ?_⟩) (by assumption) ?_
          rotate_left
          · (intro w hSw; (try dsimp only at hSw); go_simp; (try (with_reducible rfl)))
          try simp only [Act.put, List.setIfInBounds_toArray, List.set_cons_zero, List.set_cons_succ]
          refine wpAnyH_take (i := 10) (oi := { dst := some 39, op := Go.Op.move (Go.Operand.tmp 0), type := 78, pos := "law.go:83", after := #[], guard := none }) (v := ?_) rfl (by kernel_rfl) (by kernel_rfl) (by kernel_rfl) (fun _ _ _ h => h) (Or.inl ⟨by rfl, ?_⟩) (by assumption) ?_
          rotate_left
          · (intro w hSw; (try dsimp only at hSw); go_simp; (try (with_reducible rfl)))
          try simp only [Act.put, List.setIfInBounds_toArray, List.set_cons_zero, List.set_cons_succ]
          refine wpAnyH_take (i := 11) (oi := { dst := some 40, op := Go.Op.nilCheck (Go.Operand.tmp 39), type := 0, pos := "law.go:83", after := #[{ on := 10, ground := Go.Ground.data }], guard := none }) (v := ?_) rfl (by kernel_rfl) (by kernel_rfl) (by kernel_rfl) (fun _ _ _ h => h) (Or.inl ⟨by rfl, ?_⟩) (by assumption) ?_
          rotate_left
          · (intro w hSw; (try dsimp only at hSw); go_simp; (try (with_reducible rfl)))
          try simp only [Act.put, List.setIfInBounds_toArray, List.set_cons_zero, List.set_cons_succ]
          refine wpAnyH_take (i := 12) (oi := { dst := some 41, op := Go.Op.fieldAddr 81 (Go.Operand.tmp 40) 1, type := 0, pos := "law.go:83", after := #[{ on := 11, ground := Go.Ground.data }], guard := none }) (v := ?_) rfl (by kernel_rfl) (by kernel_rfl) (by kernel_rfl) (fun _ _ _ h => h) (Or.inl ⟨by rfl, ?_⟩) (by assumption) ?_
          rotate_left
          · (intro w hSw; (try dsimp only at hSw); go_simp; (try (with_reducible rfl)))
          try simp only [Act.put, List.setIfInBounds_toArray, List.set_cons_zero, List.set_cons_succ]
          refine wpAnyH_take (i := 13) (oi := { dst := some 42, op := Go.Op.load 22 (Go.Operand.tmp 41), type := 22, pos := "law.go:83", after := #[{ on := 12, ground := Go.Ground.data }], guard := none }) (v := ?_) rfl (by kernel_rfl) (by kernel_rfl) (by kernel_rfl) (fun _ _ _ h => h) (Or.inl ⟨by rfl, ?_⟩) (by assumption) ?_
          rotate_left
          · (intro w hSw; (try dsimp only at hSw); go_simp; (try (with_reducible rfl)))
          try simp only [Act.put, List.setIfInBounds_toArray, List.set_cons_zero, List.set_cons_succ]
          refine wpAnyH_take (i := 14) (oi := { dst := some 43, op := Go.Op.move (Go.Operand.tmp 5), type := 3, pos := "law.go:83", after := #[], guard := none }) (v := ?_) rfl (by kernel_rfl) (by kernel_rfl) (by kernel_rfl) (fun _ _ _ h => h) (Or.inl ⟨by rfl, ?_⟩) (by assumption) ?_
          rotate_left
          · (intro w hSw; (try dsimp only at hSw); go_simp; (try (with_reducible rfl)))
          try simp only [Act.put, List.setIfInBounds_toArray, List.set_cons_zero, List.set_cons_succ]
          refine wpAnyH_take (i := 15) (oi := { dst := some 44, op := Go.Op.indexAddr 22 (Go.Operand.tmp 42) (Go.Operand.tmp 43), type := 0, pos := "law.go:83", after := #[{ on := 13, ground := Go.Ground.data }, { on := 14, ground := Go.Ground.data }], guard := none }) (v := ?_) rfl (by kernel_rfl) (by kernel_rfl) (by kernel_rfl) (fun _ _ _ h => h) (Or.inl ⟨by rfl, ?_⟩) (by assumption) ?_
          rotate_left
          · (intro w hSw; (try dsimp only at hSw); go_simp; (try (with_reducible rfl)))
          try simp only [Act.put, List.setIfInBounds_toArray, List.set_cons_zero, List.set_cons_succ]
          refine wpAnyH_take (i := 16) (oi := { dst := some 45, op := Go.Op.fieldAddr 32 (Go.Operand.tmp 44) 0, type := 0, pos := "law.go:83", after := #[{ on := 15, ground := Go.Ground.data }], guard := none }) (v := ?_) rfl (by kernel_rfl) (by kernel_rfl) (by kernel_rfl) (fun _ _ _ h => h) (Or.inl ⟨by rfl, ?_⟩) (by assumption) ?_
          rotate_left
          · (intro w hSw; (try dsimp only at hSw); go_simp; (try (with_reducible rfl)))
          try simp only [Act.put, List.setIfInBounds_toArray, List.set_cons_zero, List.set_cons_succ]
          refine wpAnyH_take (i := 17) (oi := { dst := some 46, op := Go.Op.fieldAddr 28 (Go.Operand.tmp 45) 0, type := 0, pos := "law.go:83", after := #[{ on := 16, ground := Go.Ground.data }], guard := none }) (v := ?_) rfl (by kernel_rfl) (by kernel_rfl) (by kernel_rfl) (fun _ _ _ h => h) (Or.inl ⟨by rfl, ?_⟩) (by assumption) ?_
          rotate_left
          · (intro w hSw; (try dsimp only at hSw); go_simp; (try (with_reducible rfl)))
          try simp only [Act.put, List.setIfInBounds_toArray, List.set_cons_zero, List.set_cons_succ]
          refine wpAnyH_take (i := 18) (oi := { dst := some 47, op := Go.Op.load 3 (Go.Operand.tmp 46), type := 3, pos := "law.go:83", after := #[{ on := 17, ground := Go.Ground.data }], guard := none }) (v := ?_) rfl (by kernel_rfl) (by kernel_rfl) (by kernel_rfl) (fun _ _ _ h => h) (Or.inl ⟨by rfl, ?_⟩) (by assumption) ?_
          rotate_left
          · (intro w hSw; (try dsimp only at hSw); go_simp; (try (with_reducible rfl)))
          try simp only [Act.put, List.setIfInBounds_toArray, List.set_cons_zero, List.set_cons_succ]
          refine wpAnyH_take (i := 19) (oi := { dst := some 48, op := Go.Op.nilCheck (Go.Operand.tmp 38), type := 0, pos := "law.go:83", after := #[{ on := 9, ground := Go.Ground.data }], guard := none }) (v := ?_) rfl (by kernel_rfl) (by kernel_rfl) (by kernel_rfl) (fun _ _ _ h => h) (Or.inl ⟨by rfl, ?_⟩) (by assumption) ?_
          rotate_left
          · (intro w hSw; (try dsimp only at hSw); go_simp; (try (with_reducible rfl)))
          try simp only [Act.put, List.setIfInBounds_toArray, List.set_cons_zero, List.set_cons_succ]
          refine wpAnyH_take (i := 20) (oi := { dst := some 49, op := Go.Op.fieldAddr 81 (Go.Operand.tmp 48) 3, type := 0, pos := "law.go:83", after := #[{ on := 19, ground := Go.Ground.data }], guard := none }) (v := ?_) rfl (by kernel_rfl) (by kernel_rfl) (by kernel_rfl) (fun _ _ _ h => h) (Or.inl ⟨by rfl, ?_⟩) (by assumption) ?_
          rotate_left
          · (intro w hSw; (try dsimp only at hSw); go_simp; (try (with_reducible rfl)))
          try simp only [Act.put, List.setIfInBounds_toArray, List.set_cons_zero, List.set_cons_succ]
          refine wpAnyH_take (i := 21) (oi := { dst := some 50, op := Go.Op.indexAddr 79 (Go.Operand.tmp 49) (Go.Operand.tmp 47), type := 0, pos := "law.go:83", after := #[{ on := 20, ground := Go.Ground.data }, { on := 18, ground := Go.Ground.data }], guard := none }) (v := ?_) rfl (by kernel_rfl) (by kernel_rfl) (by kernel_rfl) (fun _ _ _ h => h) (Or.inl ⟨by rfl, ?_⟩) (by assumption) ?_
          rotate_left
          · (intro w hSw; (try dsimp only at hSw); go_simp; (try (with_reducible rfl)))
          try simp only [Act.put, List.setIfInBounds_toArray, List.set_cons_zero, List.set_cons_succ]
          refine wpAnyH_take (i := 22) (oi := { dst := some 51, op := Go.Op.load 3 (Go.Operand.tmp 50), type := 3, pos := "law.go:83", after := #[{ on := 21, ground := Go.Ground.data }], guard := none }) (v := ?_) rfl (by kernel_rfl) (by kernel_rfl) (by kernel_rfl) (fun _ _ _ h => h) (Or.inl ⟨by rfl, ?_⟩) (by assumption) ?_
          rotate_left
          · (intro w hSw; (try dsimp only at hSw); go_simp; (try (with_reducible rfl)))
          try simp only [Act.put, List.setIfInBounds_toArray, List.set_cons_zero, List.set_cons_succ]
          refine wpAnyH_take (i := 23) (oi := { dst := some 52, op := Go.Op.binOp Go.BinOp.gtr 3 (Go.Operand.tmp 37) (Go.Operand.tmp 51) 3, type := 4, pos := "law.go:83", after := #[{ on := 8, ground := Go.Ground.data }, { on := 22, ground := Go.Ground.data }], guard := none }) (v := ?_) rfl (by kernel_rfl) (by kernel_rfl) (by kernel_rfl) (fun _ _ _ h => h) (Or.inl ⟨by rfl, ?_⟩) (by assumption) ?_
          rotate_left
          · (intro w hSw; (try dsimp only at hSw); go_simp; (try (with_reducible rfl)))
          try simp only [Act.put, List.setIfInBounds_toArray, List.set_cons_zero, List.set_cons_succ]
          refine wpAnyH_done (by kernel_rfl) ?_ _
          clear hHeld hst cl c1
          have en2 := hen.drew
          generalize wr.drew = W2 at *
          replace en2 := Lib.hid en2
          by_cases hsl : xs ≤ (lo : Int)
          · have ht : decide ((lo : Int) < xs) = false := decide_eq_false (by omega)
            have hsl' : ¬ (lo : Int) < xs := by omega
            rw [if_neg (by rw [decide_eq_true hsl]; simp)] at hsn
            replace hsn := Lib.hid hsn
            go_wp2_with fail
            go_roundw
            case rel => exact ⟨k + 1, by omega, by go_num, by rw [hsn.out]; exact hD, en2.out⟩
            case measure => simp [intOf]; omega
          · have ht : decide ((lo : Int) < xs) = true := decide_eq_true (by omega)
            have hsl' : (lo : Int) < xs := by omega
            rw [if_pos (by rw [decide_eq_false hsl]; rfl)] at hsn
            have hrl : (keepR lw (L.take k)).length + 1 ≤ k + 1 := by
              rw [hsn, List.length_append, List.length_take] at hkl
              simp only [List.length_cons, List.length_nil] at hkl
              omega
            obtain ⟨p0, p1, p2, p3, p4⟩ := kz _ _ hD
            have pl := World.block_lt_of_cell? _ _ p0
            have c1 := hD.swap.blk_cell 1
            have cl := hD.swap.blk_lt
            have hap : recs (keepR lw (L.take k)) ++ recc (((n : Int), xs), xq, .slice d1 d2 d3, .slice b1 b2 b3, xD, xB) = recs (keepR lw (L.take (k + 1))) := by rw [hsn, recs_append]; simp [recs]
            replace hap := Lib.hid hap
            replace hsn := Lib.hid hsn
            have hrl2 : (recs (keepR lw (L.take k))).length ≤ 5000 := by rw [recs_len]; omega
            change W2.cell? ⟨p, 1, none⟩ = some (.slice (some ⟨lb, lof, none⟩) L.length lc) at c1
            clear kz kk
            go_wp2_with (at_builtin; refine wpList_append rfl (.tmp 53) (.tmp 61) 22 22 rfl Try.underlying22 (.inl ⟨_, Try.underlying22⟩) (recZ) 72 info_rec rfl (by decide) (by decide) rfl rfl (hD.alloc _) (News.new W2 _ 1 #[.int .i64 (n : Int), .int .i64 xs, .int .i64 xq, .slice d1 d2 d3, .slice b1 b2 b3] rfl (by simp [Value.oneCell'])) ?apB1 ?apK1)
            try case apB1 => first | omega | (simp; omega) | (simp [recs_len]; omega) | skip
            intro v' w9 h9 en9
            go_wp2_with fail
            go_roundw
            case rel =>
              iterate 45 (apply Exists.intro)
              refine ⟨?_, rfl⟩
              refine ⟨k + 1, by omega, ?_, ?_, ?_⟩
              · simp
              · rw [← hap.out]
                exact h9
              · exact (en2.out.alloc _).trans en9
            case measure => simp [intOf]; omega
        · obtain rfl : k = L.length := by omega
          rw [List.take_length] at hst
          have hkl := keepR_le lw L
          have hw : IntKind.i64.wrap ((L.length : Int) - ((keepR lw L).length : Int)) = (L.length : Int) - ((keepR lw L).length : Int) := by rw [IntKind.wrap_i64]; omega
          obtain ⟨va, vn, vc, rfl, hvn, _⟩ := hst.row_form
          rw [recs_len] at hvn
          obtain rfl : vn = (keepR lw L).length := by omega
          have h5 : St H (Blk p (mdC room (.slice va (keepR lw L).length vc) dv lw) 81 :: Row 32 5 (.slice va (keepR lw L).length vc) (recs (keepR lw L)) :: Row 32 5 (.slice la L.length lc) (recs L) :: Row 28 2 dv (idl D) :: fr) (wr.setCell ⟨p, 1, none⟩ (.slice va (keepR lw L).length vc)) := hst.swap.blk_set 1 (.slice va (keepR lw L).length vc)
          have h6 := mdShut ((h5.pick 2 (by simp)).drop)
          have sf := hst.swap.blk_free 1
          have hfin : MCom H p room L D fr w (.returned (.int .i64 ((L.length : Int) - ((keepR lw L).length : Int)))) (wr.setCell ⟨p, 1, none⟩ (.slice va (keepR lw L).length vc)) := ⟨lw, hlw, fun r hr => HF.out r hr, rfl, h6, hen.setCell _ _⟩
          generalize MCom H p room L D fr w = Q at *
          replace hfin := Lib.hid hfin
          clear h5 h6 hst hvn
          go_wp2_with fail
          exact hfin.out
end Go.Proofs.Ytelmhcbdpimaaaa

/- Law 21: the store and its model. -/
set_option linter.unusedVariables false
set_option linter.unusedSimpArgs false
namespace Go.Proofs.Ytelmhcbdpimaaaa
open Go.RowKit Go.Cw Go.Fl
/-- A store's content and its model's are the same. -/
structure Rel21 (K : List Kp) (M : List Id) (low : List Nat) (L : List Rc) : Prop where
  same : K.map (fun x => rp x.1) = L.map rp
  flag : ∀ x ∈ K, x.2 = decide (x.1.1 ∈ M)
  idk : ∀ x ∈ K, idOk x.1.1 = true
  idm : ∀ a ∈ M, idOk a = true
  old : ∀ a ∈ M, a ∉ kids K → aboveL low a = false
  fl : ∀ r m : Nat, 1 ≤ m → m ≤ low.getD r 0 → ((r : Int), (m : Int)) ∈ M
  len : low.length = 8
theorem kids_rp (K : List Kp) : kids K = (K.map (fun x => rp x.1)).map (fun z : Rp => z.1) := by
  rw [List.map_map]; rfl
theorem Rel21.kids {K : List Kp} {M : List Id} {low : List Nat} {L : List Rc} (h : Rel21 K M low L) : kids K = rids L := by
  rw [kids_rp, h.same, List.map_map]; rfl
theorem Rel21.length {K : List Kp} {M : List Id} {low : List Nat} {L : List Rc} (h : Rel21 K M low L) : K.length = L.length := by
  have := congrArg List.length h.same
  simpa using this
theorem look_rp : ∀ (K : List Kp) (a : Id), a ∈ kids K → rp (lookKp K a).1.1 = lookR (K.map (fun x => rp x.1)) a
  | [], _, h => by simp [Go.Proofs.Ytelmhcbdpimaaaa.kids] at h
  | x :: r, a, h => by
    by_cases hx : x.1.1 = a
    · unfold lookKp lookR
      rw [List.find?_cons_of_pos (by simpa using hx), List.map_cons, List.find?_cons_of_pos (by simpa using hx)]
      rfl
    · have h2 : a ∈ Go.Proofs.Ytelmhcbdpimaaaa.kids r := by
        simp only [Go.Proofs.Ytelmhcbdpimaaaa.kids, List.map_cons, List.mem_cons] at h
        exact h.resolve_left (fun e => hx e.symm)
      have ih := look_rp r a h2
      unfold lookKp lookR at *
      rw [List.find?_cons_of_neg (by simpa using hx), List.map_cons, List.find?_cons_of_neg (by simpa using hx)]
      exact ih
theorem Rel21.put {K : List Kp} {M : List Id} {low : List Nat} {L : List Rc} (h : Rel21 K M low L) (room : Int) (x : Rp) : putE room K low x = mdE room L low x := by
  unfold putE mdE
  rw [h.kids, h.length]
  by_cases hm : x.1 ∈ rids L
  · rw [if_pos hm, if_pos hm, look_rp K x.1 (by rw [h.kids]; exact hm), h.same]
  · rw [if_neg hm, if_neg hm]
theorem Rel21.status {K : List Kp} {M : List Id} {low : List Nat} {L : List Rc} (h : Rel21 K M low L) (a : Id) : stK K M a = stM L M a := by
  unfold stK stM
  rw [lookKp_iff, ← h.kids]
  by_cases hm : a ∈ Go.Proofs.Ytelmhcbdpimaaaa.kids K
  · rw [decide_eq_true hm, if_pos rfl, if_pos hm]
    have hb : (lookKp K a).2 = true := by rw [lookKp_iff, decide_eq_true hm]
    obtain ⟨h1, h2⟩ := lookKp_mem hb
    rw [h.flag _ h1, h2]
    by_cases hM : a ∈ M <;> simp [hM]
  · rw [decide_eq_false hm, if_neg (by simp), if_neg hm]
theorem mdE_zero {room : Int} {L : List Rc} {low : List Nat} {x : Rp} (h : mdE room L low x = 0) : recErr x = 0 ∧ x.1 ∉ rids L ∧ aboveL low x.1 = true := by
  unfold mdE at h
  by_cases h1 : recErr x = 0
  · rw [if_neg (by simpa using h1)] at h
    by_cases h2 : x.1.2 ≤ ((low.getD x.1.1.toNat 0 : Nat) : Int)
    · rw [if_pos h2] at h; omega
    · rw [if_neg h2] at h
      by_cases h3 : x.1 ∈ rids L
      · rw [if_pos h3] at h
        by_cases h4 : recSame (lookR (L.map rp) x.1) x = true
        · rw [if_pos h4] at h; omega
        · rw [if_neg h4] at h; omega
      · exact ⟨h1, h3, by unfold aboveL; rw [decide_eq_false h2]; rfl⟩
  · rw [if_pos (by simpa using h1)] at h
    exact absurd h h1
theorem Rel21.putOk {K : List Kp} {M : List Id} {low : List Nat} {L : List Rc} (h : Rel21 K M low L) {room : Int} {x y : Rc} (hy : rp y = rp x) (he : mdE room L low (rp x) = 0) : Rel21 (K ++ [(y, false)]) M low (L ++ [x]) := by
  obtain ⟨h1, h2, h3⟩ := mdE_zero he
  have hyx : y.1 = x.1 := rp_id hy
  have hnM : y.1 ∉ M := fun hm => by
    have := h.old _ hm (by rw [h.kids, hyx]; exact h2)
    rw [hyx] at this
    rw [show (rp x).1 = x.1 from rfl, this] at h3
    cases h3
  refine ⟨by simp [h.same, hy], ?_, ?_, h.idm, ?_, h.fl, h.len⟩
  · intro z hz
    rcases List.mem_append.1 hz with hz | hz
    · exact h.flag z hz
    · rw [List.mem_singleton] at hz
      subst hz
      exact (decide_eq_false hnM).symm
  · intro z hz
    rcases List.mem_append.1 hz with hz | hz
    · exact h.idk z hz
    · rw [List.mem_singleton] at hz
      subst hz
      show idOk y.1 = true
      rw [hyx]
      exact recErr_id _ h1
  · intro a ha hn
    exact h.old a ha (fun hk => hn (by simp only [Go.Proofs.Ytelmhcbdpimaaaa.kids, List.map_append, List.mem_append]; exact .inl hk))
theorem doneK_same (a : Id) (K : List Kp) : (doneK a K).map (fun x => rp x.1) = K.map (fun x => rp x.1) := by
  unfold doneK
  rw [List.map_map]
  refine List.map_congr_left (fun x _ => ?_)
  simp only [Function.comp]
  by_cases h : x.1.1 = a
  · rw [if_pos h]
  · rw [if_neg h]
theorem Rel21.may {K : List Kp} {M : List Id} {low : List Nat} {L : List Rc} (h : Rel21 K M low L) {a : Id} (hs : stK K M a = 1) : mayM a M = true ∧ a ∈ Go.Proofs.Ytelmhcbdpimaaaa.kids K ∧ a ∉ M := by
  obtain ⟨h1, h2⟩ := stK_one.1 hs
  obtain ⟨h3, h4⟩ := lookKp_mem h1
  have h5 := h.flag _ h3
  rw [h2, h4] at h5
  have h6 : a ∉ M := by simpa using h5.symm
  have h7 := h.idk _ h3
  rw [h4] at h7
  exact ⟨by unfold mayM; rw [h7, decide_eq_false h6]; rfl, List.mem_map.2 ⟨_, h3, h4⟩, h6⟩
theorem Rel21.done {K : List Kp} {M : List Id} {low : List Nat} {L : List Rc} (h : Rel21 K M low L) {a : Id} (hs : stK K M a = 1) : Rel21 (doneK a K) (ins a M) low L := by
  obtain ⟨h1, h2, h3⟩ := h.may hs
  refine ⟨by rw [doneK_same]; exact h.same, ?_, doneK_idOk h.idk, ?_, ?_, fun r m hm1 hm2 => (ins_mem _ _ _).2 (.inr (h.fl r m hm1 hm2)), h.len⟩
  · intro z hz
    obtain ⟨x, hx, rfl⟩ := List.mem_map.1 hz
    by_cases hc : x.1.1 = a
    · rw [if_pos hc]
      exact (decide_eq_true ((ins_mem _ _ _).2 (.inl hc))).symm
    · rw [if_neg hc, h.flag x hx, decide_eq_decide, ins_mem]
      simp [hc]
  · intro b hb
    rcases (ins_mem _ _ _).1 hb with rfl | hb
    · obtain ⟨x, hx, rfl⟩ := List.mem_map.1 h2
      exact h.idk x hx
    · exact h.idm b hb
  · intro b hb hn
    rw [doneK_kids] at hn
    rcases (ins_mem _ _ _).1 hb with rfl | hb
    · exact absurd h2 hn
    · exact h.old b hb hn
theorem keep_same {low : List Nat} : ∀ {K : List Kp} {L : List Rc}, K.map (fun x => rp x.1) = L.map rp → (keepK low K).map (fun x => rp x.1) = (keepR low L).map rp
  | [], [], _ => rfl
  | [], y :: M, h => by simp at h
  | x :: K, [], h => by simp at h
  | x :: K, y :: L, h => by
    simp only [List.map_cons, List.cons.injEq] at h
    have ih := keep_same (low := low) h.2
    have hid : x.1.1 = y.1 := rp_id h.1
    unfold keepK keepR at *
    rw [List.filter_cons, List.filter_cons, hid]
    by_cases hc : aboveL low y.1 = true
    · rw [if_pos hc, if_pos hc, List.map_cons, List.map_cons, ih, h.1]
    · rw [if_neg hc, if_neg hc]; exact ih
theorem Rel21.compact {K : List Kp} {M : List Id} {low low2 : List Nat} {L : List Rc} (h : Rel21 K M low L) (hl : low2.length = 8) (hf : FlL M low2) : Rel21 (keepK low2 K) M low2 (keepR low2 L) := by
  refine ⟨keep_same h.same, fun x hx => h.flag x (List.mem_filter.1 hx).1, fun x hx => h.idk x (List.mem_filter.1 hx).1, h.idm, ?_, ?_, hl⟩
  · intro a ha hn
    cases hc : aboveL low2 a with
    | false => rfl
    | true =>
      exfalso
      have hk : a ∉ Go.Proofs.Ytelmhcbdpimaaaa.kids K := fun hk => hn ((kids_keep low2 K a).2 ⟨hk, hc⟩)
      have ho := h.old a ha hk
      obtain ⟨g1, g2, g3, g4⟩ := (idOk_iff _).1 (h.idm a ha)
      obtain ⟨r, s⟩ := a
      simp only at g1 g2 g3 g4
      obtain ⟨n, rfl⟩ : ∃ n : Nat, r = (n : Int) := ⟨r.toNat, by omega⟩
      obtain ⟨m, rfl⟩ : ∃ m : Nat, s = (m : Int) := ⟨s.toNat, by omega⟩
      unfold aboveL at ho hc
      simp only [Int.toNat_natCast, Bool.not_eq_eq_eq_not, Bool.not_false, Bool.not_true, decide_eq_true_eq, decide_eq_false_iff_not] at ho hc
      have hm : low2.getD n 0 + 1 ≤ low.getD n 0 := by omega
      exact (hf n (by omega)).2 (h.fl n _ (by omega) hm)
  · intro r m h1 h2
    by_cases hr : r < 8
    · exact (hf r hr).1 m h1 h2
    · rw [List.getD_eq_getElem?_getD, List.getElem?_eq_none (by omega)] at h2
      simp at h2
      omega
end Go.Proofs.Ytelmhcbdpimaaaa
