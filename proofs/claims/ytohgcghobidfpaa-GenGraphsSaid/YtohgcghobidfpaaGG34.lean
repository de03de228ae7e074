/- Joined texts: GenGraphs. -/
import Derived.Test.YtohgcghobidfpaaGG23
import Derived.Test.YtohgcghobidfpaaGG30
import Derived.Test.YtohgcghobidfpaaGG31
import Derived.Test.YtohgcghobidfpaaGG32
import Derived.Test.YtohgcghobidfpaaGG33
/- Law 32: GenGraphs. -/
set_option linter.unusedVariables false
set_option linter.unusedSimpArgs false
namespace Go.Proofs.Ytohgcghobidfpaa
open Go.RowKit Go.Cw Go.Fl
attribute [local go_sem ↓] eql_id neq_id
set_option maxRecDepth 100000 in
set_option maxHeartbeats 8000000 in
theorem genOut_any (seed n keys : Int) (hb : n < 1 ∨ 64 < n ∨ keys < 1 ∨ 9 < keys) (w : World) :
    Calls Try.prog 3 #[.int .u64 seed, .int .i64 n, .int .i64 keys] w fun e w' => e = .returned (.bool true) ∧ Below w.heap.size w w' := by
  have hG := Lib.hid (graph_out seed n keys hb w)
  by_cases h1 : n < 1
  · go_enter Try.func3, Try.ntmps3
    go_wp2_with fail
    refine hG.out.mono ?_
    rintro e w1 ⟨rfl, rfl⟩
    go_wp2_with fail
    refine hG.out.mono ?_
    rintro e w1 ⟨rfl, rfl⟩
    go_wp2_with fail
    refine (works32 _).mono ?_
    rintro e w1 ⟨rfl, hb1⟩
    go_wp2_with fail
    go_ret
    exact ⟨rfl, hb1⟩
  · by_cases h2 : 64 < n
    · go_enter Try.func3, Try.ntmps3
      go_wp2_with fail
      refine hG.out.mono ?_
      rintro e w1 ⟨rfl, rfl⟩
      go_wp2_with fail
      refine hG.out.mono ?_
      rintro e w1 ⟨rfl, rfl⟩
      go_wp2_with fail
      refine (works32 _).mono ?_
      rintro e w1 ⟨rfl, hb1⟩
      go_wp2_with fail
      go_ret
      exact ⟨rfl, hb1⟩
    · by_cases h3 : keys < 1
      · go_enter Try.func3, Try.ntmps3
        go_wp2_with fail
        refine hG.out.mono ?_
        rintro e w1 ⟨rfl, rfl⟩
        go_wp2_with fail
        refine hG.out.mono ?_
        rintro e w1 ⟨rfl, rfl⟩
        go_wp2_with fail
        refine (works32 _).mono ?_
        rintro e w1 ⟨rfl, hb1⟩
        go_wp2_with fail
        go_ret
        exact ⟨rfl, hb1⟩
      · have h4 : 9 < keys := by omega
        go_enter Try.func3, Try.ntmps3
        go_wp2_with fail
        refine hG.out.mono ?_
        rintro e w1 ⟨rfl, rfl⟩
        go_wp2_with fail
        refine hG.out.mono ?_
        rintro e w1 ⟨rfl, rfl⟩
        go_wp2_with fail
        refine (works32 _).mono ?_
        rintro e w1 ⟨rfl, hb1⟩
        go_wp2_with fail
        go_ret
        exact ⟨rfl, hb1⟩
def GraphX (X : List Rp) (w : World) (e : Ending) (w' : World) : Prop :=
  ∃ (v : Value) (M : List Rc) (H : Hp), e = .returned v ∧ Hp.le (snap w) H ∧ St H [Row 33 5 v (recs M)] w' ∧ Env w w' ∧ M.map rp = X ∧ ∀ x ∈ M, RcD H x
theorem upGG {H : Hp} {fr : List HA} {w : World} {H' : Hp} (h : St H fr w) (hle : Hp.le (snap w) H') : Hp.le H H' := Hp.le_trans (fun k o hk => h.imm k o hk) hle
/-- The commands taken so far. -/
structure Took (X : List Rp) (k : Nat) (L : List Cm) : Prop where
  len : L.length ≤ k
  of : ∀ c ∈ L, ∃ y ∈ X, c ∈ y.2.2.2
theorem Took.go {X : List Rp} {k : Nat} {L : List Cm} (h : Took X k L) {y : Rp} (hy : y ∈ X) (h1 : y.2.2.2.length ≤ 1) : Took X (k + 1) (L ++ y.2.2.2) := by
  refine ⟨by have := h.len; rw [List.length_append]; omega, fun c hc => ?_⟩
  rcases List.mem_append.1 hc with hc | hc
  · exact h.of c hc
  · exact ⟨y, hy, hc⟩
set_option maxRecDepth 100000 in
set_option maxHeartbeats 16000000 in
theorem genIn_any (seed : Int) (N KN : Nat) (hN1 : 1 ≤ N) (hN2 : N ≤ 64) (hK1 : 1 ≤ KN) (hK2 : KN ≤ 9) (X : List Rp) (hM : Made N KN X) (hG : Hid (∀ w, Calls Try.prog 4 #[.int .u64 seed, .int .i64 (N : Int), .int .i64 (KN : Int)] w (GraphX X w))) (w : World) :
    Calls Try.prog 3 #[.int .u64 seed, .int .i64 (N : Int), .int .i64 (KN : Int)] w fun e w' => e = .returned (.bool true) ∧ Below w.heap.size w w' := by
  replace hM := Lib.hid hM
  have hfin : ∀ w' : World, St (snap w) [] w' → Env w w' → Hid ((fun (e : Ending) (w' : World) => e = .returned (.bool true) ∧ Below w.heap.size w w') (.returned (.bool true)) w') := fun w' h he => Lib.hid ⟨rfl, h.toBelow he⟩
  generalize (fun (e : Ending) (w' : World) => e = .returned (.bool true) ∧ Below w.heap.size w w') = Q at *
  go_enter Try.func3, Try.ntmps3
  go_wp2_with fail
  refine (hG.out w).mono ?_
  rintro e w1 ⟨v, M, H1, rfl, l1, h1, en1, hMr, hMd⟩
  obtain ⟨H2, l2, h2, hmR⟩ := h1.row_keep
  clear h1
  go_wp2_with fail
  refine (hG.out w1).mono ?_
  rintro e w3 ⟨v', M', H3, rfl, l3, h3, en3, hNr, hNd⟩
  have l3' := upGG h2 l3
  obtain ⟨H4, l4, h4, hnR⟩ := h3.row_keep
  have en4 := en1.trans en3
  have l24 := Hp.le_trans l3' l4
  have lw := Hp.le_trans l1 (Hp.le_trans l2 l24)
  replace hmR := hmR.mono l24
  have hMd4 : Hid (∀ x ∈ M, RcD H4 x) := Lib.hid (fun x hx => (hMd x hx).mono (Hp.le_trans l2 l24))
  have hNd4 : Hid (∀ x ∈ M', RcD H4 x) := Lib.hid (fun x hx => (hNd x hx).mono l4)
  obtain ⟨mA, m2, m3, rfl, hm4, hm5, hm6⟩ := hmR.form
  obtain ⟨nA, n2, n3, rfl, hn4, hn5, hn6⟩ := hnR.form
  rw [recs_len] at hm4 hn4
  have hMl : M.length = N := by rw [← hM.out.len, ← hMr, List.length_map]
  have hNl : M'.length = N := by rw [← hM.out.len, ← hNr, List.length_map]
  obtain rfl : N = m2 := by omega
  obtain rfl : N = n2 := by omega
  have hsame : Hid (∀ k (hk : k < M.length), ∃ hk2 : k < M'.length, rp M'[k] = rp M[k]) := Lib.hid (fun k hk => ⟨by omega, by
    have e : M.map rp = M'.map rp := by rw [hMr, hNr]
    have := congrArg (fun m : List Rp => m[k]?) e
    simp only [List.getElem?_map] at this
    rw [List.getElem?_eq_getElem hk, List.getElem?_eq_getElem (by omega)] at this
    simpa using this.symm⟩)
  have hFi := Lib.hid (refFine_any _ M w3 (hmR.rw h4) (fun x hx => (hMd4.out x hx).rw h4) (by omega))
  have hFl : (fineC M).length = N := by
    rw [← hMl, ← List.length_map (f := rp), fineC_rp, hMr, hM.out.fine, ← hMr, List.length_map]
  replace hMr := Lib.hid hMr
  clear hMd hNd hNr hm4 hn4 h2 h3 en1 en3 l1 l2 l3 l3' l4 l24
  go_wp2_with fail
  refine hFi.out.mono ?_
  rintro e w5 hq
  obtain ⟨v5, rfl, h5, en5⟩ := ResE.lift h4 hq
  obtain ⟨fA, fn, fc, rfl, hfn, hfc, hfm⟩ := h5.row_form
  rw [recs_len, hFl] at hfn
  obtain rfl : N = fn := by omega
  replace h5 := h5.drop
  replace en5 := en4.trans en5
  clear hq hFi hFl hfn h4 en4
  have h6 := h5.row_lit 47 3 0 #[] rfl (by decide)
  have en6 := en5.alloc (.cells #[] 47)
  clear h5 en5
  go_wp2_with fail
  go_loopw [9, 10] (fun s9 s10 wr => ∃ (k : Nat) (L : List Cm), k ≤ N ∧ s10 = .int .i64 (k : Int) ∧ St H4 [Row 47 3 s9 (cml L)] wr ∧ Env w wr ∧ Hid (Took X k L)) (fun _ s10 _ => N - (intOf s10).toNat)
  case atStart => exact ⟨0, [], by omega, by go_num, h6, en6, Lib.hid ⟨by simp, by simp⟩⟩
  case round =>
    clear h6 en6
    obtain ⟨k, L, hk, rfl, hst, hen, hT⟩ := hrel
    by_cases hlt : k < N
    · obtain ⟨hlt2, hrpe⟩ := hsame.out k (by omega)
      have hltM : k < M.length := by omega
      obtain ⟨mb, mo, hA, hcr⟩ := rd_at hmR (by omega)
      cases hA
      obtain ⟨p0, p1, p2, p3, p4⟩ := recs_get M k hltM
      replace p0 := hcr _ _ p0
      replace p1 := hcr _ _ p1
      replace p2 := hcr _ _ p2
      replace p3 := hcr _ _ p3
      replace p4 := hcr _ _ p4
      rw [← Nat.add_assoc] at p1 p2 p3 p4
      clear hcr
      obtain ⟨nb, no, hA, hcr⟩ := rd_at hnR (by omega)
      cases hA
      obtain ⟨q0, q1, q2, q3, q4⟩ := recs_get M' k hlt2
      replace q0 := hcr _ _ q0
      replace q1 := hcr _ _ q1
      replace q2 := hcr _ _ q2
      replace q3 := hcr _ _ q3
      replace q4 := hcr _ _ q4
      rw [← Nat.add_assoc] at q1 q2 q3 q4
      clear hcr
      have hxD := Lib.hid (hMd4.out M[k] (List.getElem_mem hltM))
      have hyD := Lib.hid (hNd4.out M'[k] (List.getElem_mem hlt2))
      have hxX : rp M[k] ∈ X := by rw [← hMr.out]; exact List.mem_map.2 ⟨_, List.getElem_mem hltM, rfl⟩
      have hTk := Lib.hid (hT.out.go hxX (hM.out.one _ hxX))
      have hx1 := hM.out.one _ hxX
      have hTl := hT.out.len
      generalize hxk : M[k] = x at *
      generalize hyk : M'[k] = y at *
      clear hxk hyk hxX
      have hSm := fun (fr : List HA) w' (h' : St H4 fr w') => refRecSame_any x y w' (hxD.out.rw h') (hyD.out.rw h')
      rw [hrpe] at hSm
      simp only [recSame_refl] at hSm
      obtain ⟨d1, d2, d3, hdv, hd4, _⟩ := hxD.out.d.form
      have hxb := hxD.out.b
      obtain ⟨b1, b2, b3, hbv, hb4, _⟩ := hxD.out.b.form
      obtain ⟨e1, e2, e3, hev, _⟩ := hyD.out.d.form
      obtain ⟨f1, f2, f3, hfv, _⟩ := hyD.out.b.form
      obtain ⟨⟨r, s⟩, q, xd, xb, xD, xB⟩ := x
      obtain ⟨⟨r', s'⟩, q', yd, yb, yD, yB⟩ := y
      try simp only [rp] at hb4 hdv hbv hev hfv p0 p1 p2 p3 p4 q0 q1 q2 q3 q4 hd4 hxb hTk hx1
      subst hdv hbv hev hfv
      have hb2 : b2 ≤ 1 := by rw [cml_len] at hb4; omega
      clear hd4 hrpe hb4
      have kk : ∀ (fr : List HA) (w' : World), St H4 fr w' → (fun w' : World => w'.cell? ⟨mb, mo + k * 5, none⟩ = some (.int .i64 r) ∧ w'.cell? ⟨mb, mo + k * 5 + 1, none⟩ = some (.int .i64 s) ∧ w'.cell? ⟨mb, mo + k * 5 + 2, none⟩ = some (.int .i64 q) ∧ w'.cell? ⟨mb, mo + k * 5 + 3, none⟩ = some (.slice d1 d2 d3) ∧ w'.cell? ⟨mb, mo + k * 5 + 4, none⟩ = some (.slice b1 b2 b3) ∧ w'.cell? ⟨nb, no + k * 5, none⟩ = some (.int .i64 r') ∧ w'.cell? ⟨nb, no + k * 5 + 1, none⟩ = some (.int .i64 s') ∧ w'.cell? ⟨nb, no + k * 5 + 2, none⟩ = some (.int .i64 q') ∧ w'.cell? ⟨nb, no + k * 5 + 3, none⟩ = some (.slice e1 e2 e3) ∧ w'.cell? ⟨nb, no + k * 5 + 4, none⟩ = some (.slice f1 f2 f3)) w' := fun fr w' h => ⟨h.cell p0, h.cell p1, h.cell p2, h.cell p3, h.cell p4, h.cell q0, h.cell q1, h.cell q2, h.cell q3, h.cell q4⟩
      have hk0 : (0 : Int) ≤ (k : Int) := by omega
      have hkl : (k : Int) < (N : Int) := by omega
      have hk1 := Lib.hid (show k + 1 ≤ N by omega)
      have hD := hst.drew
      have enD := hen.drew
      replace hSm := Lib.hid hSm
      clear hst hen q0 q1 q2 q3 q4
      go_wp2_with fail
      refine wp_region_held_drew (S := (fun w' : World => w'.cell? ⟨mb, mo + k * 5, none⟩ = some (.int .i64 r) ∧ w'.cell? ⟨mb, mo + k * 5 + 1, none⟩ = some (.int .i64 s) ∧ w'.cell? ⟨mb, mo + k * 5 + 2, none⟩ = some (.int .i64 q) ∧ w'.cell? ⟨mb, mo + k * 5 + 3, none⟩ = some (.slice d1 d2 d3) ∧ w'.cell? ⟨mb, mo + k * 5 + 4, none⟩ = some (.slice b1 b2 b3) ∧ w'.cell? ⟨nb, no + k * 5, none⟩ = some (.int .i64 r') ∧ w'.cell? ⟨nb, no + k * 5 + 1, none⟩ = some (.int .i64 s') ∧ w'.cell? ⟨nb, no + k * 5 + 2, none⟩ = some (.int .i64 q') ∧ w'.cell? ⟨nb, no + k * 5 + 3, none⟩ = some (.slice e1 e2 e3) ∧ w'.cell? ⟨nb, no + k * 5 + 4, none⟩ = some (.slice f1 f2 f3))) (by kernel_rfl) (kk _ _ hD) (fun hHeld => ?_)
      refine wpAnyH_take (i := 0) (oi := { dst := some 65, op := Go.Op.move (Go.Operand.tmp 7), type := 23, pos := "law.go:62", after := #[], guard := none }) (v := ?_) rfl (by kernel_rfl) (by kernel_rfl) (by kernel_rfl) (fun _ _ _ h => h) (Or.inl ⟨by rfl, ?_⟩) (by assumption) ?_
      rotate_left
      · (intro w hSw; (try dsimp only at hSw); go_simp; (try (with_reducible rfl)))
      try simp only [Act.put, List.setIfInBounds_toArray, List.set_cons_zero, List.set_cons_succ]
      refine wpAnyH_take (i := 1) (oi := { dst := some 66, op := Go.Op.move (Go.Operand.tmp 10), type := 3, pos := "law.go:62", after := #[], guard := none }) (v := ?_) rfl (by kernel_rfl) (by kernel_rfl) (by kernel_rfl) (fun _ _ _ h => h) (Or.inl ⟨by rfl, ?_⟩) (by assumption) ?_
      rotate_left
      · (intro w hSw; (try dsimp only at hSw); go_simp; (try (with_reducible rfl)))
      try simp only [Act.put, List.setIfInBounds_toArray, List.set_cons_zero, List.set_cons_succ]
      refine wpAnyH_take (i := 2) (oi := { dst := some 67, op := Go.Op.indexAddr 23 (Go.Operand.tmp 65) (Go.Operand.tmp 66), type := 0, pos := "law.go:62", after := #[{ on := 0, ground := Go.Ground.data }, { on := 1, ground := Go.Ground.data }], guard := none }) (v := ?_) rfl (by kernel_rfl) (by kernel_rfl) (by kernel_rfl) (fun _ _ _ h => h) (Or.inl ⟨by rfl, ?_⟩) (by assumption) ?_
      rotate_left
      · (intro w hSw; (try dsimp only at hSw); go_simp; (try (with_reducible rfl)))
      try simp only [Act.put, List.setIfInBounds_toArray, List.set_cons_zero, List.set_cons_succ]
      refine wpAnyH_take (i := 3) (oi := { dst := some 68, op := Go.Op.load 33 (Go.Operand.tmp 67), type := 33, pos := "law.go:62", after := #[{ on := 2, ground := Go.Ground.data }], guard := none }) (v := ?_) rfl (by kernel_rfl) (by kernel_rfl) (by kernel_rfl) (fun _ _ _ h => h) (Or.inl ⟨by rfl, ?_⟩) (by assumption) ?_
      rotate_left
      · (intro w hSw; (try dsimp only at hSw); go_simp; (try (with_reducible rfl)))
      try simp only [Act.put, List.setIfInBounds_toArray, List.set_cons_zero, List.set_cons_succ]
      refine wpAnyH_take (i := 4) (oi := { dst := some 69, op := Go.Op.move (Go.Operand.tmp 8), type := 23, pos := "law.go:62", after := #[], guard := none }) (v := ?_) rfl (by kernel_rfl) (by kernel_rfl) (by kernel_rfl) (fun _ _ _ h => h) (Or.inl ⟨by rfl, ?_⟩) (by assumption) ?_
      rotate_left
      · (intro w hSw; (try dsimp only at hSw); go_simp; (try (with_reducible rfl)))
      try simp only [Act.put, List.setIfInBounds_toArray, List.set_cons_zero, List.set_cons_succ]
      refine wpAnyH_take (i := 5) (oi := { dst := some 70, op := Go.Op.move (Go.Operand.tmp 10), type := 3, pos := "law.go:62", after := #[], guard := none }) (v := ?_) rfl (by kernel_rfl) (by kernel_rfl) (by kernel_rfl) (fun _ _ _ h => h) (Or.inl ⟨by rfl, ?_⟩) (by assumption) ?_
      rotate_left
      · (intro w hSw; (try dsimp only at hSw); go_simp; (try (with_reducible rfl)))
      try simp only [Act.put, List.setIfInBounds_toArray, List.set_cons_zero, List.set_cons_succ]
      refine wpAnyH_take (i := 6) (oi := { dst := some 71, op := Go.Op.indexAddr 23 (Go.Operand.tmp 69) (Go.Operand.tmp 70), type := 0, pos := "law.go:62", after := #[{ on := 4, ground := Go.Ground.data }, { on := 5, ground := Go.Ground.data }], guard := none }) (v := ?_) rfl (by kernel_rfl) (by kernel_rfl) (by kernel_rfl) (fun _ _ _ h => h) (Or.inl ⟨by rfl, ?_⟩) (by assumption) ?_
      rotate_left
      · (intro w hSw; (try dsimp only at hSw); go_simp; (try (with_reducible rfl)))
      try simp only [Act.put, List.setIfInBounds_toArray, List.set_cons_zero, List.set_cons_succ]
      refine wpAnyH_take (i := 7) (oi := { dst := some 72, op := Go.Op.load 33 (Go.Operand.tmp 71), type := 33, pos := "law.go:62", after := #[{ on := 6, ground := Go.Ground.data }], guard := none }) (v := ?_) rfl (by kernel_rfl) (by kernel_rfl) (by kernel_rfl) (fun _ _ _ h => h) (Or.inl ⟨by rfl, ?_⟩) (by assumption) ?_
      rotate_left
      · (intro w hSw; (try dsimp only at hSw); go_simp; (try (with_reducible rfl)))
      try simp only [Act.put, List.setIfInBounds_toArray, List.set_cons_zero, List.set_cons_succ]
      refine wpAnyH_ready (rs := [8]) (by kernel_rfl) (by simp) ?_
      refine AllReadyH.cons (o := { dst := some 73, op := Go.Op.call { callee := Go.Callee.value (Go.Operand.func 7), args := #[Go.Operand.tmp 68, Go.Operand.tmp 72], argTypes := #[33, 33] }, type := 4, pos := "law.go:62", after := #[{ on := 3, ground := Go.Ground.data }, { on := 7, ground := Go.Ground.data }], guard := none }) rfl (fun K hK => ?_) AllReadyH.nil
      go_simp
      refine (hSm.out _ _ hD).mono ?_
      rintro e w7 ⟨rfl, hb7⟩
      replace hD := hD.below hb7
      replace enD := enD.trans (bel_env hb7)
      refine hK.out _ _ (kk _ _ hD) (fun hHeld2 => ?_)
      clear hK K hHeld
      try simp only [Act.put, List.setIfInBounds_toArray, List.set_cons_zero, List.set_cons_succ]
      refine wpAnyH_take (i := 9) (oi := { dst := some 74, op := Go.Op.unOp Go.UnOp.not 4 (Go.Operand.tmp 73), type := 4, pos := "law.go:62", after := #[{ on := 8, ground := Go.Ground.data }], guard := none }) (v := ?_) rfl (by kernel_rfl) (by kernel_rfl) (by kernel_rfl) (fun _ _ _ h => h) (Or.inl ⟨by rfl, ?_⟩) (by assumption) ?_
      rotate_left
      · (intro w hSw; (try dsimp only at hSw); go_simp; (try (with_reducible rfl)))
      try simp only [Act.put, List.setIfInBounds_toArray, List.set_cons_zero, List.set_cons_succ]
      refine wpAnyH_done (by kernel_rfl) ?_ _
      clear hHeld2 hSm kk
      have v4 := hD.cell p4
      have vl := World.block_lt_of_cell? _ _ v4
      have hnw := News.rw (P := Try.prog) (hxb.rw hD) (cml_one xB)
      go_wp2_with (at_builtin; refine wpList_append rfl (.tmp 75) (.tmp 80) 27 27 rfl Try.underlying27 (.inl ⟨_, Try.underlying27⟩) (.agg #[.int .i64 0, .string ByteArray.empty, .float .f64 0]) 32 info_cm rfl (by decide) (by decide) rfl rfl hD hnw ?apB ?apK)
      case apB => rw [cml_len]; try rw [cml_len]
                  omega
      case apK =>
        intro v8 w8 h8 en8
        replace en8 := enD.trans en8
        replace h8 : St H4 [Row 47 3 v8 (cml (L ++ xB))] w8 := by rw [show cml (L ++ xB) = cml L ++ cml xB from List.flatMap_append]; exact h8
        go_wp2_with fail
        go_roundw
        case rel => exact ⟨k + 1, L ++ xB, hk1.out, by go_num, h8, en8, hTk⟩
        case measure => simp [intOf]; omega
    · obtain rfl : N = k := by omega
      have hTl := hT.out.len
      obtain ⟨H5, l5, h5, hall⟩ := hst.row_keep
      have hKy := Lib.hid (keys_any _ L H5 [] wr h5 hall (by omega))
      obtain ⟨aA, an, ac, rfl, _⟩ := hall.form
      clear hst
      go_wp2_with fail
      refine hKy.out.mono ?_
      rintro e w6 ⟨v6, K, H6, rfl, l6, h6, en6, hKS⟩
      have hKl := hM.out.keys hT.out.of hKS
      obtain ⟨kA, kn, kc, rfl, hkn, hkc, hkm⟩ := h6.row_form
      rw [strl_len] at hkn
      obtain rfl : kn = K.length := by omega
      clear hkn hKy
      replace h6 := h6.drop
      replace en6 := hen.trans en6
      have hkg : ¬ (KN : Int) < (K.length : Int) := by omega
      have l46 := Hp.le_trans l5 l6
      have hmR6 := hmR.mono l46
      have hHo := Lib.hid (refHolds_any _ M w6 (hmR6.rw h6) (fun x hx => ((hMd4.out x hx).mono l46).rw h6) (by omega))
      have hHe := holds_mended (L := M) (by rw [hMr.out]; exact hM.out.mend) (by have := hM.out.fits.2; rw [← hMr.out] at this; rwa [pids, ← rids_rp] at this) (by rw [hMr.out]; exact hM.out.few)
      go_wp2_with fail
      refine hHo.out.mono ?_
      rintro e w7 ⟨a, b, ok, hab, rfl, hb7⟩
      rw [hHe] at hab
      cases hab
      have h7 := h6.below hb7
      have en7 := en6.trans (bel_env hb7)
      have h8 := (h7.alloc (.cells #[.int .i64 0, .int .i64 0] 30)).alloc (.cells #[.int .i64 0, .int .i64 0] 30)
      have en8 := (en7.alloc (.cells #[.int .i64 0, .int .i64 0] 30)).alloc (.cells #[.int .i64 0, .int .i64 0] 30)
      have lw6 := Hp.le_trans lw l46
      clear hHe hHo h6 en6 hb7
      by_cases h20 : (20 : Int) < (N : Int)
      · go_wp2_with fail
        refine (works32 _).mono ?_
        rintro e w9 ⟨rfl, hb9⟩
        have hz := hfin w9 ((h8.below hb9).weaken lw6) (en8.trans (bel_env hb9))
        go_wp2_with fail
        exact hz.out
      · have hCl := Lib.hid (refClosed_any _ M H6 [] _ h8 hmR6 (fun x hx => (hMd4.out x hx).mono l46) (fun x hx => by have := hM.out.few (rp x) (by rw [← hMr.out]; exact List.mem_map.2 ⟨x, hx, rfl⟩); exact Nat.le_of_lt this) (by omega))
        have hMc := Lib.hid (hMr.out ▸ hM.out : Made N KN (M.map rp))
        go_wp2_with fail
        refine hCl.out.mono ?_
        rintro e w9 ⟨v9, C, H9, rfl, l9, h9, en9, hr9, hC9⟩
        have hCn := hMc.out.closed hr9 hC9
        obtain ⟨cA, cn, cc, rfl, hcn, hcc, hcm⟩ := h9.row_form
        rw [idl_len] at hcn
        obtain rfl : N = cn := by omega
        clear hcn hCl hC9
        go_wp2_with fail
        refine (works32 _).mono ?_
        rintro e w10 ⟨rfl, hb10⟩
        have hz := hfin w10 ((h9.drop.below hb10).weaken (Hp.le_trans lw6 l9)) ((en8.trans en9).trans (bel_env hb10))
        go_wp2_with fail
        exact hz.out
set_option maxRecDepth 100000 in
theorem genGraphs_any (seed n keys : Int) (w : World) :
    Calls Try.prog 3 #[.int .u64 seed, .int .i64 n, .int .i64 keys] w fun e w' => e = .returned (.bool true) ∧ Below w.heap.size w w' := by
  by_cases hb : n < 1 ∨ 64 < n ∨ keys < 1 ∨ 9 < keys
  · exact genOut_any seed n keys hb w
  · obtain ⟨N, rfl⟩ : ∃ N : Nat, n = (N : Int) := ⟨n.toNat, by omega⟩
    obtain ⟨KN, rfl⟩ : ∃ KN : Nat, keys = (KN : Int) := ⟨keys.toNat, by omega⟩
    have hN1 : 1 ≤ N := by omega
    have hN2 : N ≤ 64 := by omega
    have hK1 : 1 ≤ KN := by omega
    have hK2 : KN ≤ 9 := by omega
    have hG := fun w => graph_any seed (N : Int) (KN : Int) (by omega) (by omega) (by omega) (by omega) w
    unfold GraphR at hG
    simp only [Int.toNat_natCast] at hG
    have hM := made N KN hN1 hN2 hK1 hK2 (bits .xor .u64 seed 11400714819323198485)
    generalize bits .xor .u64 seed 11400714819323198485 = s0 at *
    generalize mendL (fineL (genM (N : Int) (KN : Int) s0 N).2.2) = X at *
    exact genIn_any seed N KN hN1 hN2 hK1 hK2 X hM (Lib.hid hG) w
end Go.Proofs.Ytohgcghobidfpaa
