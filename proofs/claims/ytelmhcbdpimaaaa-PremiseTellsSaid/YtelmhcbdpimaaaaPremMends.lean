/- The premise: the law of what is mended. -/
import Derived.Test.YtelmhcbdpimaaaaPremWorks
set_option linter.unusedVariables false
set_option linter.unusedSimpArgs false
namespace Go.Proofs.Ytelmhcbdpimaaaa
open Go.RowKit Go.Cw Go.Fl
attribute [local go_sem ↓] eql_id neq_id
def fullL (M : List Rc) : Bool := M.any (fun x => decide (16 ≤ x.2.2.2.2.1.length))
theorem fullL_take (M : List Rc) (k : Nat) (h : k < M.length) : fullL (M.take (k + 1)) = (fullL (M.take k) || decide (16 ≤ M[k].2.2.2.2.1.length)) := by
  unfold fullL
  rw [List.take_add_one, List.getElem?_eq_getElem h, List.any_append]
  simp
theorem St.up {H : Hp} {fr : List HA} {w : World} {H' : Hp} (h : St H fr w) (hle : Hp.le (snap w) H') : Hp.le H H' := Hp.le_trans (fun k o hk => h.imm k o hk) hle
set_option maxRecDepth 100000 in
set_option maxHeartbeats 12800000 in
theorem premMends_any (u : Value) (l : List Rc) (w : World) (hx : Rw w 5 u (recs l)) (hl : ∀ x ∈ l, RcR w x) :
    Calls Try.prog 3 #[u] w fun e w' => e = .returned (.bool true) ∧ Below w.heap.size w w' := by
  have hFew := few15_any u l 14 _ hx hl
  obtain ⟨A, m, c, rfl, hn, hnc, hc⟩ := hx.form
  rw [recs_len] at hn
  obtain rfl : m = l.length := by omega
  clear hn
  have hrd := hx.rd
  have hld : ∀ x ∈ l, RcD (snap w) x := fun x hm => ⟨(hl x hm).d.rd, (hl x hm).b.rd, (hl x hm).ok⟩
  clear hx hl
  cases hfew : (fewR l && decide ((l.length : Int) ≤ 14)) with
  | false =>
    rw [hfew] at hFew
    replace hFew := Lib.hid hFew
    replace hld := Lib.hid hld
    clear hfew
    go_enter Try.func3, Try.ntmps3
    go_wp2_with fail
    refine hFew.out.mono ?_
    rintro e w2 ⟨rfl, hb2⟩
    go_wp2_with fail
    refine (works20 _).mono ?_
    rintro e w3 ⟨rfl, hb3⟩
    go_wp2_with fail
    go_ret
    exact ⟨rfl, hb2.trans (hb3.mono hb2.size)⟩
  | true =>
    rw [hfew] at hFew
    have hl14 : l.length ≤ 14 := by
      simp only [Bool.and_eq_true, decide_eq_true_eq] at hfew
      omega
    replace hFew := Lib.hid hFew
    have hMe := fun w2 (h2 : St (snap w) [] w2) => mend_any (.slice A l.length c) l w2 (hrd.rw h2) (fun x hm => (hld x hm).rw h2) (by omega)
    have hRf := fun (H : Hp) (fr : List HA) (hle : Hp.le (snap w) H) w2 (h2 : St H fr w2) => refMend_any (.slice A l.length c) l w2 ((hrd.mono hle).rw h2) (fun x hm => ((hld x hm).mono hle).rw h2) (by omega)
    replace hMe := Lib.hid hMe
    replace hRf := Lib.hid hRf
    replace hld := Lib.hid hld
    have hX := mendL_ok (fineL (l.map rp)) (fineL_fits _)
    have hXl : (mendL (fineL (l.map rp))).length ≤ 14 := by
      rw [mendL_len, ← fineC_rp, List.length_map]
      have := fineC_len l []
      change (fineC l).length ≤ _ at this
      simp at this
      omega
    obtain ⟨X, hXe⟩ : ∃ X, Hid (X = mendL (fineL (l.map rp))) := ⟨_, Lib.hid rfl⟩
    rw [← hXe.out] at hX hXl
    replace hX := Lib.hid hX
    clear hfew
    go_enter Try.func3, Try.ntmps3
    go_wp2_with fail
    refine hFew.out.mono ?_
    rintro e w2 ⟨rfl, hb2⟩
    have h2 := (St.start w).below hb2
    have en2 := bel_env hb2
    clear hFew hb2
    go_wp2_with fail
    refine (hMe.out _ h2).mono ?_
    rintro e w3 ⟨mv, M, H3, rfl, l3, h3, en3, hMr, hMd⟩
    have l3' := St.up h2 l3
    obtain ⟨H4, l4, h4, hmR⟩ := h3.row_keep
    have en4 := en2.trans en3
    clear hMe h2 h3 en2 en3
    go_wp2_with fail
    refine (hRf.out _ _ (Hp.le_trans l3' l4) _ h4).mono ?_
    rintro e w5 ⟨nv, N, H5, rfl, l5, h5, en5, hNr, hNd⟩
    have l5' := St.up h4 l5
    obtain ⟨H6, l6, h6, hnR⟩ := h5.row_keep
    have en6 := en4.trans en5
    have lw : Hp.le (snap w) H6 := Hp.le_trans l3' (Hp.le_trans l4 (Hp.le_trans l5' l6))
    have hmR6 := hmR.mono (Hp.le_trans l5' l6)
    have hMd6 : ∀ x ∈ M, RcD H6 x := fun x hx => (hMd x hx).mono (Hp.le_trans l4 (Hp.le_trans l5' l6))
    have hNd6 : ∀ x ∈ N, RcD H6 x := fun x hx => (hNd x hx).mono l6
    rw [← hXe.out] at hMr hNr
    have hMl : M.length = X.length := by rw [← hMr, List.length_map]
    have hNl : N.length = X.length := by rw [← hNr, List.length_map]
    obtain ⟨mA, m2, m3, rfl, hm4, hm5, hm6⟩ := hmR6.form
    obtain ⟨nA, n2, n3, rfl, hn4, hn5, hn6⟩ := hnR.form
    rw [recs_len] at hm4 hn4
    obtain rfl : m2 = M.length := by omega
    obtain rfl : n2 = N.length := by omega
    have hNM : N.length = M.length := by omega
    rw [hNM] at hnR hn5 ⊢
    have hM14 : M.length ≤ 14 := by omega
    have hsame : Hid (∀ k (hk : k < M.length), ∃ hk2 : k < N.length, rp N[k] = rp M[k]) := Lib.hid (fun k hk => ⟨by omega, by
      have e : M.map rp = N.map rp := by rw [hMr, hNr]
      have := congrArg (fun m : List Rp => m[k]?) e
      simp only [List.getElem?_map] at this
      rw [List.getElem?_eq_getElem hk, List.getElem?_eq_getElem (by omega)] at this
      simpa using this.symm⟩)
    replace hMd6 := Lib.hid hMd6
    replace hNd6 := Lib.hid hNd6
    replace hMr := Lib.hid hMr
    clear hRf h4 h5 en4 en5 hmR hMd hNd hNr hMl hNl hNM hm4 hn4 l3 l4 l5 l6 l3' l5'
    go_wp2_with fail
    go_loopw [5, 6] (fun s5 i wr => ∃ k : Nat, k ≤ M.length ∧ s5 = .bool (fullL (M.take k)) ∧ i = .int .i64 (k : Int) ∧ St H6 [] wr ∧ Env w wr) (fun _ i _ => M.length - (intOf i).toNat)
    case atStart => exact ⟨0, by omega, rfl, by go_num, h6, en6⟩
    case round =>
      clear h6 en6
      obtain ⟨k, hk, rfl, rfl, hst, hen⟩ := hrel
      by_cases hlt : k < M.length
      · obtain ⟨hlt2, hrpe⟩ := hsame.out k hlt
        obtain ⟨mb, mo, hA, hcr⟩ := rd_at hmR6 (by omega)
        cases hA
        obtain ⟨p0, p1, p2, p3, p4⟩ := recs_get M k hlt
        replace p0 := hcr _ _ p0
        replace p1 := hcr _ _ p1
        replace p2 := hcr _ _ p2
        replace p3 := hcr _ _ p3
        replace p4 := hcr _ _ p4
        rw [← Nat.add_assoc] at p1 p2 p3 p4
        clear hcr
        obtain ⟨nb, no, hA, hcr⟩ := rd_at hnR (by omega)
        cases hA
        obtain ⟨q0, q1, q2, q3, q4⟩ := recs_get N k hlt2
        replace q0 := hcr _ _ q0
        replace q1 := hcr _ _ q1
        replace q2 := hcr _ _ q2
        replace q3 := hcr _ _ q3
        replace q4 := hcr _ _ q4
        rw [← Nat.add_assoc] at q1 q2 q3 q4
        clear hcr
        have hfl := fullL_take M k hlt
        have hxD := Lib.hid (hMd6.out M[k] (List.getElem_mem hlt))
        have hyD := Lib.hid (hNd6.out N[k] (List.getElem_mem hlt2))
        generalize fullL (M.take k) = F at *
        generalize hxk : M[k] = x at *
        generalize hyk : N[k] = y at *
        clear hxk hyk
        have hSm := fun w' (h' : St H6 [] w') => refRecSame_any x y w' (hxD.out.rw h') (hyD.out.rw h')
        rw [hrpe] at hSm
        simp only [recSame_refl] at hSm
        obtain ⟨d1, d2, d3, hdv, hd4, _⟩ := hxD.out.d.form
        obtain ⟨b1, b2, b3, hbv, _⟩ := hxD.out.b.form
        obtain ⟨e1, e2, e3, hev, _⟩ := hyD.out.d.form
        obtain ⟨f1, f2, f3, hfv, _⟩ := hyD.out.b.form
        obtain ⟨⟨r, s⟩, q, xd, xb, xD, xB⟩ := x
        obtain ⟨⟨r', s'⟩, q', yd, yb, yD, yB⟩ := y
        try simp only at hdv hbv hev hfv p0 p1 p2 p3 p4 q0 q1 q2 q3 q4 hfl hd4
        subst hdv hbv hev hfv
        rw [idl_len] at hd4
        obtain rfl : d2 = xD.length := by omega
        clear hd4 hrpe
        have kk : ∀ (w' : World), St H6 [] w' → (fun w' : World => w'.cell? ⟨mb, mo + k * 5, none⟩ = some (.int .i64 r) ∧ w'.cell? ⟨mb, mo + k * 5 + 1, none⟩ = some (.int .i64 s) ∧ w'.cell? ⟨mb, mo + k * 5 + 2, none⟩ = some (.int .i64 q) ∧ w'.cell? ⟨mb, mo + k * 5 + 3, none⟩ = some (.slice d1 xD.length d3) ∧ w'.cell? ⟨mb, mo + k * 5 + 4, none⟩ = some (.slice b1 b2 b3) ∧ w'.cell? ⟨nb, no + k * 5, none⟩ = some (.int .i64 r') ∧ w'.cell? ⟨nb, no + k * 5 + 1, none⟩ = some (.int .i64 s') ∧ w'.cell? ⟨nb, no + k * 5 + 2, none⟩ = some (.int .i64 q') ∧ w'.cell? ⟨nb, no + k * 5 + 3, none⟩ = some (.slice e1 e2 e3) ∧ w'.cell? ⟨nb, no + k * 5 + 4, none⟩ = some (.slice f1 f2 f3)) w' := fun w' h => ⟨h.cell p0, h.cell p1, h.cell p2, h.cell p3, h.cell p4, h.cell q0, h.cell q1, h.cell q2, h.cell q3, h.cell q4⟩
        have hk0 : (0 : Int) ≤ (k : Int) := by omega
        have hkl : (k : Int) < (M.length : Int) := by omega
        have hD := hst.drew
        have enD := hen.drew
        replace hSm := Lib.hid hSm
        clear hst hen q0 q1 q2 q3 q4
        replace hfl := Lib.hid hfl
        go_wp2_with fail
        refine wp_region_held_drew (S := (fun w' : World => w'.cell? ⟨mb, mo + k * 5, none⟩ = some (.int .i64 r) ∧ w'.cell? ⟨mb, mo + k * 5 + 1, none⟩ = some (.int .i64 s) ∧ w'.cell? ⟨mb, mo + k * 5 + 2, none⟩ = some (.int .i64 q) ∧ w'.cell? ⟨mb, mo + k * 5 + 3, none⟩ = some (.slice d1 xD.length d3) ∧ w'.cell? ⟨mb, mo + k * 5 + 4, none⟩ = some (.slice b1 b2 b3) ∧ w'.cell? ⟨nb, no + k * 5, none⟩ = some (.int .i64 r') ∧ w'.cell? ⟨nb, no + k * 5 + 1, none⟩ = some (.int .i64 s') ∧ w'.cell? ⟨nb, no + k * 5 + 2, none⟩ = some (.int .i64 q') ∧ w'.cell? ⟨nb, no + k * 5 + 3, none⟩ = some (.slice e1 e2 e3) ∧ w'.cell? ⟨nb, no + k * 5 + 4, none⟩ = some (.slice f1 f2 f3))) (by kernel_rfl) (kk _ hD) (fun hHeld => ?_)
        refine wpAnyH_take (i := 0) (oi := { dst := some 31, op := Go.Op.move (Go.Operand.tmp 3), type := 22, pos := "law.go:59", after := #[], guard := none }) (v := ?_) rfl (by kernel_rfl) (by kernel_rfl) (by kernel_rfl) (fun _ _ _ h => h) (Or.inl ⟨by rfl, ?_⟩) (by assumption) ?_
        rotate_left
        · (intro w hSw; (try dsimp only at hSw); go_simp; (try (with_reducible rfl)))
        try simp only [Act.put, List.setIfInBounds_toArray, List.set_cons_zero, List.set_cons_succ]
        refine wpAnyH_take (i := 1) (oi := { dst := some 32, op := Go.Op.move (Go.Operand.tmp 6), type := 3, pos := "law.go:59", after := #[], guard := none }) (v := ?_) rfl (by kernel_rfl) (by kernel_rfl) (by kernel_rfl) (fun _ _ _ h => h) (Or.inl ⟨by rfl, ?_⟩) (by assumption) ?_
        rotate_left
        · (intro w hSw; (try dsimp only at hSw); go_simp; (try (with_reducible rfl)))
        try simp only [Act.put, List.setIfInBounds_toArray, List.set_cons_zero, List.set_cons_succ]
        refine wpAnyH_take (i := 2) (oi := { dst := some 33, op := Go.Op.indexAddr 22 (Go.Operand.tmp 31) (Go.Operand.tmp 32), type := 0, pos := "law.go:59", after := #[{ on := 0, ground := Go.Ground.data }, { on := 1, ground := Go.Ground.data }], guard := none }) (v := ?_) rfl (by kernel_rfl) (by kernel_rfl) (by kernel_rfl) (fun _ _ _ h => h) (Or.inl ⟨by rfl, ?_⟩) (by assumption) ?_
        rotate_left
        · (intro w hSw; (try dsimp only at hSw); go_simp; (try (with_reducible rfl)))
        try simp only [Act.put, List.setIfInBounds_toArray, List.set_cons_zero, List.set_cons_succ]
        refine wpAnyH_take (i := 3) (oi := { dst := some 34, op := Go.Op.load 32 (Go.Operand.tmp 33), type := 32, pos := "law.go:59", after := #[{ on := 2, ground := Go.Ground.data }], guard := none }) (v := ?_) rfl (by kernel_rfl) (by kernel_rfl) (by kernel_rfl) (fun _ _ _ h => h) (Or.inl ⟨by rfl, ?_⟩) (by assumption) ?_
        rotate_left
        · (intro w hSw; (try dsimp only at hSw); go_simp; (try (with_reducible rfl)))
        try simp only [Act.put, List.setIfInBounds_toArray, List.set_cons_zero, List.set_cons_succ]
        refine wpAnyH_take (i := 4) (oi := { dst := some 35, op := Go.Op.move (Go.Operand.tmp 4), type := 22, pos := "law.go:59", after := #[], guard := none }) (v := ?_) rfl (by kernel_rfl) (by kernel_rfl) (by kernel_rfl) (fun _ _ _ h => h) (Or.inl ⟨by rfl, ?_⟩) (by assumption) ?_
        rotate_left
        · (intro w hSw; (try dsimp only at hSw); go_simp; (try (with_reducible rfl)))
        try simp only [Act.put, List.setIfInBounds_toArray, List.set_cons_zero, List.set_cons_succ]
        refine wpAnyH_take (i := 5) (oi := { dst := some 36, op := Go.Op.move (Go.Operand.tmp 6), type := 3, pos := "law.go:59", after := #[], guard := none }) (v := ?_) rfl (by kernel_rfl) (by kernel_rfl) (by kernel_rfl) (fun _ _ _ h => h) (Or.inl ⟨by rfl, ?_⟩) (by assumption) ?_
        rotate_left
        · (intro w hSw; (try dsimp only at hSw); go_simp; (try (with_reducible rfl)))
        try simp only [Act.put, List.setIfInBounds_toArray, List.set_cons_zero, List.set_cons_succ]
        refine wpAnyH_take (i := 6) (oi := { dst := some 37, op := Go.Op.indexAddr 22 (Go.Operand.tmp 35) (Go.Operand.tmp 36), type := 0, pos := "law.go:59", after := #[{ on := 4, ground := Go.Ground.data }, { on := 5, ground := Go.Ground.data }], guard := none }) (v := ?_) rfl (by kernel_rfl) (by kernel_rfl) (by kernel_rfl) (fun _ _ _ h => h) (Or.inl ⟨by rfl, ?_⟩) (by assumption) ?_
        rotate_left
        · (intro w hSw; (try dsimp only at hSw); go_simp; (try (with_reducible rfl)))
        try simp only [Act.put, List.setIfInBounds_toArray, List.set_cons_zero, List.set_cons_succ]
        refine wpAnyH_take (i := 7) (oi := { dst := some 38, op := Go.Op.load 32 (Go.Operand.tmp 37), type := 32, pos := "law.go:59", after := #[{ on := 6, ground := Go.Ground.data }], guard := none }) (v := ?_) rfl (by kernel_rfl) (by kernel_rfl) (by kernel_rfl) (fun _ _ _ h => h) (Or.inl ⟨by rfl, ?_⟩) (by assumption) ?_
        rotate_left
        · (intro w hSw; (try dsimp only at hSw); go_simp; (try (with_reducible rfl)))
        try simp only [Act.put, List.setIfInBounds_toArray, List.set_cons_zero, List.set_cons_succ]
        refine wpAnyH_ready (rs := [8]) (by kernel_rfl) (by simp) ?_
        refine AllReadyH.cons (o := { dst := some 39, op := Go.Op.call { callee := Go.Callee.value (Go.Operand.func 14), args := #[Go.Operand.tmp 34, Go.Operand.tmp 38], argTypes := #[32, 32] }, type := 4, pos := "law.go:59", after := #[{ on := 3, ground := Go.Ground.data }, { on := 7, ground := Go.Ground.data }], guard := none }) rfl (fun K hK => ?_) AllReadyH.nil
        go_simp
        refine (hSm.out _ hD).mono ?_
        rintro e w7 ⟨rfl, hb7⟩
        replace hD := hD.below hb7
        replace enD := enD.trans (bel_env hb7)
        refine hK.out _ _ (kk _ hD) (fun hHeld2 => ?_)
        clear hK K hHeld
        try simp only [Act.put, List.setIfInBounds_toArray, List.set_cons_zero, List.set_cons_succ]
        refine wpAnyH_take (i := 9) (oi := { dst := some 40, op := Go.Op.unOp Go.UnOp.not 4 (Go.Operand.tmp 39), type := 4, pos := "law.go:59", after := #[{ on := 8, ground := Go.Ground.data }], guard := none }) (v := ?_) rfl (by kernel_rfl) (by kernel_rfl) (by kernel_rfl) (fun _ _ _ h => h) (Or.inl ⟨by rfl, ?_⟩) (by assumption) ?_
        rotate_left
        · (intro w hSw; (try dsimp only at hSw); go_simp; (try (with_reducible rfl)))
        try simp only [Act.put, List.setIfInBounds_toArray, List.set_cons_zero, List.set_cons_succ]
        refine wpAnyH_done (by kernel_rfl) ?_ _
        clear hHeld2 hSm kk
        have v3 := hD.cell p3
        have vl := World.block_lt_of_cell? _ _ v3
        cases F with
        | true =>
          have hft : Hid (fullL (M.take (k + 1)) = true) := Lib.hid (by rw [hfl.out, Bool.true_or])
          go_wp2_with fail
          go_roundw
          case rel => exact ⟨k + 1, by omega, by rw [hft.out], by go_num, hD, enD⟩
          case measure => simp [intOf]; omega
        | false =>
          by_cases h16 : 16 ≤ xD.length
          · have hft : Hid (fullL (M.take (k + 1)) = true) := Lib.hid (by rw [hfl.out, Bool.false_or, decide_eq_true h16])
            have h16i : (16 : Int) ≤ (xD.length : Int) := by omega
            go_wp2_with fail
            go_roundw
            case rel => exact ⟨k + 1, by omega, by rw [hft.out], by go_num, hD, enD⟩
            case measure => simp [intOf]; omega
          · have hft : Hid (fullL (M.take (k + 1)) = false) := Lib.hid (by rw [hfl.out, Bool.false_or, decide_eq_false h16])
            have h16i : ¬ (16 : Int) ≤ (xD.length : Int) := by omega
            go_wp2_with fail
            go_roundw
            case rel => exact ⟨k + 1, by omega, by rw [hft.out], by go_num, hD, enD⟩
            case measure => simp [intOf]; omega
      · obtain rfl : k = M.length := by omega
        rw [List.take_length]
        have hN := newGr_any (.slice mA M.length m3) M wr (hmR6.rw hst) (fun x hx => (hMd6.out x hx).rw hst) (by omega)
        rw [hMr.out] at hN
        have hE0 : gErr [] X = 0 := (gErr_fits X []).2 ⟨hX.out.1.1, hX.out.1.2, by simp⟩
        replace hN := Lib.hid hN
        replace hE0 := Lib.hid hE0
        go_wp2_with fail
        refine hN.out.mono ?_
        intro e w7 he
        obtain ⟨-, p, L, H8, l8, h8, hG, hLm, en8, rfl⟩ := (NewR.ok he (by omega)).resolve_right (fun h => h.1 hE0.out)
        have l8' := St.up hst l8
        replace en8 := hen.trans en8
        have hOk : fullL M = false → holdsR (grS L) = ((0, 0), (0, 0), true) := fun hF => holds_mended (by rw [hLm]; exact hX.out.2.1) (by rw [rids_rp, hLm]; exact hX.out.1.2) (fun x hx => by
          rw [hLm, ← hMr.out] at hx
          obtain ⟨y, hy, rfl⟩ := List.mem_map.1 hx
          have := List.any_eq_false.1 hF y hy
          simpa using this)
        replace hOk := Lib.hid hOk
        replace hLm := Lib.hid hLm
        clear hN he hst hen l8
        go_wp2_with fail
        refine (holds_any p L H8 [] w7 h8 hG).mono ?_
        rintro e w9 ⟨H9, a, b, ok, hr, l9, h9, en9, rfl⟩
        obtain ⟨a0, a1⟩ := a
        obtain ⟨b0, b1⟩ := b
        have hok : fullL M = false → ok = true := fun hF => by
          rw [hOk.out hF] at hr
          simp only [Prod.mk.injEq] at hr
          exact hr.2.2.symm
        replace en9 := en8.trans en9
        have h10 := (h9.alloc (.cells #[.int .i64 a0, .int .i64 a1] 28)).alloc (.cells #[.int .i64 b0, .int .i64 b1] 28)
        have en10 := (en9.alloc (.cells #[.int .i64 a0, .int .i64 a1] 28)).alloc (.cells #[.int .i64 b0, .int .i64 b1] 28)
        have lw9 := Hp.le_trans lw (Hp.le_trans l8' l9)
        generalize fullL M = F at *
        clear hOk hr h8 en8
        cases F with
        | true =>
          clear hok
          cases ok with
          | true =>
            go_wp2_with fail
            refine (works20 _).mono ?_
            rintro e w11 ⟨rfl, hb11⟩
            go_wp2_with fail
            go_ret
            exact ⟨rfl, ((h10.below hb11).weaken lw9).toBelow (en10.trans (bel_env hb11))⟩
          | false =>
            go_wp2_with fail
            refine (works20 _).mono ?_
            rintro e w11 ⟨rfl, hb11⟩
            go_wp2_with fail
            go_ret
            exact ⟨rfl, ((h10.below hb11).weaken lw9).toBelow (en10.trans (bel_env hb11))⟩
        | false =>
          obtain rfl := hok rfl
          clear hok
          go_wp2_with fail
          refine (works20 _).mono ?_
          rintro e w11 ⟨rfl, hb11⟩
          go_wp2_with fail
          go_ret
          exact ⟨rfl, ((h10.below hb11).weaken lw9).toBelow (en10.trans (bel_env hb11))⟩
end Go.Proofs.Ytelmhcbdpimaaaa
