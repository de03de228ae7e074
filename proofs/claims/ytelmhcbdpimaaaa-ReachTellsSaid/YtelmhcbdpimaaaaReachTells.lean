/- Law 16: ReachTells. -/
import Derived.Test.YtelmhcbdpimaaaaReachWorks
set_option linter.unusedVariables false
set_option linter.unusedSimpArgs false
namespace Go.Proofs.Ytelmhcbdpimaaaa
open Go.RowKit Go.Cw Go.Fl
attribute [local go_sem ↓] eql_id neq_id
theorem sub_rd {H : Hp} {b off n c : Nat} {f : List Id} {k : Nat} (hk : k < f.length) (h : ∀ j u, (idl f)[j]? = some u → H.cell b (off + j) = some u) (hc : n ≤ c) (hf : f.length = n) (hm : c ≤ 9223372036854775807) : Rd H 2 (.slice (some ⟨b, off + k * 2, none⟩) 1 (c - k)) (idl [f[k]]) :=
  ⟨some ⟨b, off + k * 2, none⟩, 1, c - k, rfl, rfl, by omega, by simp [maxLen]; omega, fun _ => ⟨b, off + k * 2, rfl, fun j u hj => by
    have hj2 : j < 2 := by
      have := (List.getElem?_eq_some_iff.1 hj).1
      simpa [idl, idc] using this
    rcases (show j = 0 ∨ j = 1 by omega) with rfl | rfl
    · have := idl_fst f k hk
      have e := h _ _ this
      simp [idl, idc] at hj
      rw [← hj]
      simpa using e
    · have := idl_snd f k hk
      have e := h _ _ this
      simp [idl, idc] at hj
      rw [← hj, Nat.add_assoc]
      exact e⟩⟩
open Classical in
set_option maxRecDepth 100000 in
set_option maxHeartbeats 40000000 in
theorem reachTells_any (u v : Value) (l : List Rc) (f : List Id) (b : Id) (w : World) (hx : Rw w 5 u (recs l)) (hl : ∀ x ∈ l, RcR w x) (hv : Rw w 2 v (idl f)) :
    Calls Try.prog 7 #[u, v, idV b] w fun e w' => e = .returned (.bool true) ∧ Below w.heap.size w w' := by
  obtain ⟨A, n, c, rfl, hn, hnc, hc⟩ := hx.form
  rw [recs_len] at hn
  obtain rfl : n = l.length := by omega
  obtain ⟨A2, n2, c2, rfl, hn2, hnc2, hc2⟩ := hv.form
  rw [idl_len] at hn2
  obtain rfl : n2 = f.length := by omega
  clear hn hn2
  have hrd := hx.rd
  have hvd := hv.rd
  have hld : Hid (∀ x ∈ l, RcD (snap w) x) := Lib.hid (fun x hm => ⟨(hl x hm).d.rd, (hl x hm).b.rd, (hl x hm).ok⟩)
  obtain ⟨H1, l1, h1, y1⟩ := (St.start w).box #[.int .i64 b.1, .int .i64 b.2] 28
  have y10 := y1 0 _ rfl
  have y11 := y1 1 _ rfl
  have en1 := (Env.refl w).alloc (.cells #[.int .i64 b.1, .int .i64 b.2] 28)
  have hFew := few15_any (.slice A l.length c) l 20 _ ((hrd.mono l1).rw h1) (fun x hm => ((hld.out x hm).mono l1).rw h1)
  obtain ⟨B, hB⟩ : ∃ B, (fewR l && decide ((l.length : Int) ≤ 20)) = B := ⟨_, rfl⟩
  rw [hB] at hFew
  replace hFew := Lib.hid hFew
  have hck := Lib.hid (fun (w' : World) (h' : St H1 [] w') => refGr_any (.slice A l.length c) l w' ((hrd.mono l1).rw h') (fun x hm => ((hld.out x hm).mono l1).rw h'))
  clear hx hl hv y1
  have hwk : ∀ (H' : Hp) (l' : List HA) (w' w'' : World), Hp.le (snap w) H' → St H' l' w' → Env w w' → Below w'.heap.size w' w'' → Hid (Below w.heap.size w w'') := fun H' l' w' w'' hl h en hb => Lib.hid ((h.weaken hl |>.below hb).toBelow (en.trans (bel_env hb)))
  obtain ⟨br, bs⟩ := b
  simp only at y10 y11
  go_enter Try.func7, Try.ntmps7
  go_wp2_with fail
  refine hFew.out.mono ?_
  rintro e w2 ⟨rfl, hb2⟩
  have h2 := h1.below hb2
  have en2 := en1.trans (bel_env hb2)
  clear hFew
  have work : ∀ (w' : World), St H1 [] w' → Env w w' → Calls Try.prog 30 #[] w' fun e w'' => e = .returned (.bool true) ∧ Hid (Below w.heap.size w w'') := fun w' h' en => (works16 w').mono (by
    rintro e w'' ⟨rfl, hb⟩
    exact ⟨rfl, hwk H1 [] w' w'' l1 h' en hb⟩)
  replace work := Lib.hid work
  cases B with
  | false =>
    go_wp2_with fail
    refine (work.out _ h2 en2).mono ?_
    rintro e w3 ⟨rfl, hz⟩
    go_wp2_with fail
    go_ret
    exact ⟨rfl, hz.out⟩
  | true =>
    have hl20 : l.length ≤ 20 := by
      rw [Bool.and_eq_true, decide_eq_true_eq] at hB
      omega
    by_cases hf20 : (20 : Int) < (f.length : Int)
    · go_wp2_with fail
      refine (work.out _ h2 en2).mono ?_
      rintro e w3 ⟨rfl, hz⟩
      go_wp2_with fail
      go_ret
      exact ⟨rfl, hz.out⟩
    · have hf20' : f.length ≤ 20 := by omega
      go_wp2_with fail
      refine (hck.out _ h2).mono ?_
      rintro e w3 ⟨rfl, hb3⟩
      have h3 := h2.below hb3
      have en3 := en2.trans (bel_env hb3)
      by_cases hE : gErr [] (l.map rp) = 0
      · have hok : ∀ x ∈ l, recErr (rp x) = 0 := fun x hm => gErr_zero _ _ hE (rp x) (List.mem_map.2 ⟨x, hm, rfl⟩)
        have hl16 : ∀ x ∈ l, x.2.2.2.2.1.length ≤ 16 := fun x hm => (recErr_len _ (hok x hm)).1
        have hN := Lib.hid ((newGr_any (.slice A l.length c) l w3 ((hrd.mono l1).rw h3) (fun x hm => ((hld.out x hm).mono l1).rw h3) (by omega)).mono (fun e w' h => NewR.ok h (by rw [List.length_map]; omega)))
        rw [hE]
        go_wp2_with fail
        refine hN.out.mono ?_
        rintro e w4 (⟨_, p, L, H, hle, h4, hg, hLm, en4, rfl⟩ | ⟨hno, _⟩)
        case inr => exact absurd hE hno
        have hlen : L.length = l.length := by have := congrArg List.length hLm; simpa using this
        have l1H : Hp.le H1 H := Hp.le_trans (fun k o hk => h3.imm k o hk) hle
        replace en4 := en3.trans en4
        have hde : dpsR (L.map rp) = dpsR (l.map rp) := by rw [hLm]
        have l0H := Hp.le_trans l1 l1H
        replace y10 := Hp.cell_le l1H y10
        replace y11 := Hp.cell_le l1H y11
        have hrd2 := hrd.mono l0H
        have hvd2 := hvd.mono l0H
        have hldH : Hid (∀ x ∈ l, RcD H x) := Lib.hid (fun x hm => (hld.out x hm).mono l0H)
        have hFr := from_any (some ⟨p, 0, none⟩) (GrA p L) (dpsR (L.map rp)) f (allU (L.map rp) f) _ H [] w4 h4 (fun x hx => rch_allU hx) (allU_bound hg (by omega) f (by omega)) (by omega) (dps16 hg) (recOf_gr hg) hvd2
        rw [hde] at hFr
        have hRf := fun (Hc : Hp) (fr : List HA) (w' : World) (sv : Value) (src : List Id) (hl : Hp.le H Hc) (h' : St Hc fr w') (hs : Rd Hc 2 sv (idl src)) (hsl : src.length ≤ 1000) => refFrom_any (.slice A l.length c) sv l src Hc fr w' h' (hrd2.mono hl) (fun x hm => (hldH.out x hm).mono hl) hl16 (by omega) hs hsl
        have hPa := fun (a : Id) (Hc : Hp) (fr : List HA) (w' : World) (hl : Hp.le H Hc) (h' : St Hc (GrA p L :: fr) w') => path_any (some ⟨p, 0, none⟩) (GrA p L) (dpsR (L.map rp)) a (br, bs) (allU (L.map rp) [a]) Hc fr w' h' (fun x hx => rch_allU hx) (allU_bound hg (by omega) _ (by simp)) (dps16 hg) (recOf_gr (hg.mono hl))
        rw [hde] at hPa
        replace hFr := Lib.hid hFr
        replace hRf := Lib.hid hRf
        replace hPa := Lib.hid hPa
        clear hN hck hld hrd hvd h3 en3 hb3 hb2 h2 en2 hE hok hB h1 en1
        go_wp2_with fail
        refine hFr.out.mono ?_
        rintro e w5 ⟨fv, R, H5, rfl, l5, h5, en5, hrs, hrm⟩
        obtain ⟨fv1, fv2, fv3, rfl, _⟩ := h5.row_form
        obtain ⟨H6, l6, h6, hfr⟩ := h5.row_keep
        replace en5 := en4.trans en5
        have l56 := Hp.le_trans l5 l6
        go_wp2_with fail
        refine (hRf.out H6 _ w5 _ f l56 h6 (hvd2.mono l56) (by omega)).mono ?_
        rintro e w6 ⟨rv, R2, H7, rfl, l7, h7, en7, hr2, hrs2, hrm2⟩
        obtain ⟨rv1, rv2, rv3, rfl, _⟩ := hr2.form
        obtain rfl : R = R2 := rises_eq hrs hrs2 (fun a => by rw [hrm, hrm2])
        replace en7 := en5.trans en7
        have l57 := Hp.le_trans l56 l7
        have hS := sameIds_any _ _ R R _ ((hfr.mono l7).rw h7) (hr2.rw h7)
        rw [decide_eq_true rfl] at hS
        replace hS := Lib.hid hS
        clear hFr h5 h6 hfr hr2 hrs hrm hrs2 hrm2 en5 h4 en4
        go_wp2_with fail
        refine hS.out.mono ?_
        rintro e w8 ⟨rfl, hb8⟩
        have h8 := h7.below hb8
        have en8 := en7.trans (bel_env hb8)
        clear hS h7 en7 hb8
        go_wp2_with fail
        go_loopw [9] (fun s9 wr => ∃ (k : Nat) (H' : Hp), k ≤ f.length ∧ s9 = .int .i64 (k : Int) ∧ Hp.le H H' ∧ St H' [GrA p L] wr ∧ Env w wr) (fun s9 _ => f.length - (intOf s9).toNat)
        case atStart => exact ⟨0, H7, by omega, by go_num, l57, h8, en8⟩
        case round =>
          clear h8 en8
          obtain ⟨k, H8, hk, rfl, l8, hst, hen⟩ := hrel
          by_cases hlt : k < f.length
          · obtain ⟨fb, fo, hA, hcr⟩ := rd_at (hvd2.mono l8) (by omega)
            cases hA
            have hsub := sub_rd (n := f.length) (c := c2) hlt hcr (by omega) rfl hc2
            have q0 := hcr _ _ (idl_fst f k hlt)
            have q1 := hcr _ _ (idl_snd f k hlt)
            rw [← Nat.add_assoc] at q1
            clear hcr
            generalize f[k] = x at *
            have hPx := hPa.out x H8 [] wr.drew l8 hst.drew
            have hRx := fun (Hc : Hp) (fr : List HA) (w' : World) (hl : Hp.le H8 Hc) (h' : St Hc fr w') => hRf.out Hc fr w' _ [x] (Hp.le_trans l8 hl) h' (hsub.mono hl) (by simp)
            obtain ⟨P, hP⟩ : ∃ P, decide (Rch (dpsR (l.map rp)) [x] (br, bs)) = P := ⟨_, rfl⟩
            rw [hP] at hPx
            have z0 := Hp.cell_le l8 y10
            have z1 := Hp.cell_le l8 y11
            have kk : ∀ (Hc : Hp) (l' : List HA) (w' : World), Hp.le H8 Hc → St Hc l' w' → (fun w' : World => w'.cell? ⟨fb, fo + k * 2, none⟩ = some (.int .i64 x.1) ∧ w'.cell? ⟨fb, fo + k * 2 + 1, none⟩ = some (.int .i64 x.2) ∧ w'.cell? ⟨w.heap.size, 0, none⟩ = some (.int .i64 br) ∧ w'.cell? ⟨w.heap.size, 1, none⟩ = some (.int .i64 bs)) w' := fun Hc l' w' hl h => ⟨h.cell (Hp.cell_le hl q0), h.cell (Hp.cell_le hl q1), h.cell (Hp.cell_le hl z0), h.cell (Hp.cell_le hl z1)⟩
            have ql := World.block_lt_of_cell? _ _ (hst.cell q0)
            have zl := World.block_lt_of_cell? _ _ (hst.cell z0)
            simp only at ql zl
            have hk' : (k : Int) < (f.length : Int) := by omega
            have hw1 : IntKind.i64.wrap ((k : Int) + 1) = (k : Int) + 1 := by rw [IntKind.wrap_i64]; omega
            have hk1 : (k : Int) + 1 ≤ (c2 : Int) := by omega
            have hkc : ¬ c2 = k := by omega
            have hk2 : (k : Int) ≤ (k : Int) + 1 := by omega
            have hk3 : (k : Int) + 1 - (k : Int) = 1 := by omega
            replace hPx := Lib.hid hPx
            replace hRx := Lib.hid hRx
            replace hP := Lib.hid hP
            obtain ⟨x0, x1⟩ := x
            simp only at kk
            clear hsub q0 q1 z0 z1
            go_wp2_with fail
            refine wp_region_held_drew (S := (fun w' : World => w'.cell? ⟨fb, fo + k * 2, none⟩ = some (.int .i64 x0) ∧ w'.cell? ⟨fb, fo + k * 2 + 1, none⟩ = some (.int .i64 x1) ∧ w'.cell? ⟨w.heap.size, 0, none⟩ = some (.int .i64 br) ∧ w'.cell? ⟨w.heap.size, 1, none⟩ = some (.int .i64 bs))) (by kernel_rfl) (kk _ _ _ (Hp.le_refl _) hst.drew) (fun hHeld => ?_)
            refine wpAnyH_take (i := 0) (oi := { dst := some 47, op := Go.Op.move (Go.Operand.tmp 7), type := 33, pos := "law.go:30", after := #[], guard := none }) (v := ?_) rfl (by kernel_rfl) (by kernel_rfl) (by kernel_rfl) (fun _ _ _ h => h) (Or.inl ⟨by rfl, ?_⟩) (by assumption) ?_
            rotate_left
            · (intro w hSw; (try dsimp only at hSw); go_simp; (try (with_reducible rfl)))
            try simp only [Act.put, List.setIfInBounds_toArray, List.set_cons_zero, List.set_cons_succ]
            refine wpAnyH_take (i := 1) (oi := { dst := some 48, op := Go.Op.move (Go.Operand.tmp 1), type := 29, pos := "law.go:30", after := #[], guard := none }) (v := ?_) rfl (by kernel_rfl) (by kernel_rfl) (by kernel_rfl) (fun _ _ _ h => h) (Or.inl ⟨by rfl, ?_⟩) (by assumption) ?_
            rotate_left
            · (intro w hSw; (try dsimp only at hSw); go_simp; (try (with_reducible rfl)))
            try simp only [Act.put, List.setIfInBounds_toArray, List.set_cons_zero, List.set_cons_succ]
            refine wpAnyH_take (i := 2) (oi := { dst := some 49, op := Go.Op.move (Go.Operand.tmp 9), type := 3, pos := "law.go:30", after := #[], guard := none }) (v := ?_) rfl (by kernel_rfl) (by kernel_rfl) (by kernel_rfl) (fun _ _ _ h => h) (Or.inl ⟨by rfl, ?_⟩) (by assumption) ?_
            rotate_left
            · (intro w hSw; (try dsimp only at hSw); go_simp; (try (with_reducible rfl)))
            try simp only [Act.put, List.setIfInBounds_toArray, List.set_cons_zero, List.set_cons_succ]
            refine wpAnyH_take (i := 3) (oi := { dst := some 50, op := Go.Op.indexAddr 29 (Go.Operand.tmp 48) (Go.Operand.tmp 49), type := 0, pos := "law.go:30", after := #[{ on := 1, ground := Go.Ground.data }, { on := 2, ground := Go.Ground.data }], guard := none }) (v := ?_) rfl (by kernel_rfl) (by kernel_rfl) (by kernel_rfl) (fun _ _ _ h => h) (Or.inl ⟨by rfl, ?_⟩) (by assumption) ?_
            rotate_left
            · (intro w hSw; (try dsimp only at hSw); go_simp; (try (with_reducible rfl)))
            try simp only [Act.put, List.setIfInBounds_toArray, List.set_cons_zero, List.set_cons_succ]
            refine wpAnyH_take (i := 4) (oi := { dst := some 51, op := Go.Op.load 28 (Go.Operand.tmp 50), type := 28, pos := "law.go:30", after := #[{ on := 3, ground := Go.Ground.data }], guard := none }) (v := ?_) rfl (by kernel_rfl) (by kernel_rfl) (by kernel_rfl) (fun _ _ _ h => h) (Or.inl ⟨by rfl, ?_⟩) (by assumption) ?_
            rotate_left
            · (intro w hSw; (try dsimp only at hSw); go_simp; (try (with_reducible rfl)))
            try simp only [Act.put, List.setIfInBounds_toArray, List.set_cons_zero, List.set_cons_succ]
            refine wpAnyH_take (i := 5) (oi := { dst := some 52, op := Go.Op.load 28 (Go.Operand.tmp 5), type := 28, pos := "law.go:30", after := #[], guard := none }) (v := ?_) rfl (by kernel_rfl) (by kernel_rfl) (by kernel_rfl) (fun _ _ _ h => h) (Or.inl ⟨by rfl, ?_⟩) (by assumption) ?_
            rotate_left
            · (intro w hSw; (try dsimp only at hSw); go_simp; (try (with_reducible rfl)))
            try simp only [Act.put, List.setIfInBounds_toArray, List.set_cons_zero, List.set_cons_succ]
            refine wpAnyH_take (i := 7) (oi := { dst := some 54, op := Go.Op.move (Go.Operand.tmp 0), type := 22, pos := "law.go:30", after := #[], guard := none }) (v := ?_) rfl (by kernel_rfl) (by kernel_rfl) (by kernel_rfl) (fun _ _ _ h => h) (Or.inl ⟨by rfl, ?_⟩) (by assumption) ?_
            rotate_left
            · (intro w hSw; (try dsimp only at hSw); go_simp; (try (with_reducible rfl)))
            try simp only [Act.put, List.setIfInBounds_toArray, List.set_cons_zero, List.set_cons_succ]
            refine wpAnyH_take (i := 8) (oi := { dst := some 55, op := Go.Op.move (Go.Operand.tmp 1), type := 29, pos := "law.go:30", after := #[], guard := none }) (v := ?_) rfl (by kernel_rfl) (by kernel_rfl) (by kernel_rfl) (fun _ _ _ h => h) (Or.inl ⟨by rfl, ?_⟩) (by assumption) ?_
            rotate_left
            · (intro w hSw; (try dsimp only at hSw); go_simp; (try (with_reducible rfl)))
            try simp only [Act.put, List.setIfInBounds_toArray, List.set_cons_zero, List.set_cons_succ]
            refine wpAnyH_take (i := 9) (oi := { dst := some 56, op := Go.Op.move (Go.Operand.tmp 9), type := 3, pos := "law.go:30", after := #[], guard := none }) (v := ?_) rfl (by kernel_rfl) (by kernel_rfl) (by kernel_rfl) (fun _ _ _ h => h) (Or.inl ⟨by rfl, ?_⟩) (by assumption) ?_
            rotate_left
            · (intro w hSw; (try dsimp only at hSw); go_simp; (try (with_reducible rfl)))
            try simp only [Act.put, List.setIfInBounds_toArray, List.set_cons_zero, List.set_cons_succ]
            refine wpAnyH_take (i := 10) (oi := { dst := some 57, op := Go.Op.move (Go.Operand.tmp 9), type := 3, pos := "law.go:30", after := #[], guard := none }) (v := ?_) rfl (by kernel_rfl) (by kernel_rfl) (by kernel_rfl) (fun _ _ _ h => h) (Or.inl ⟨by rfl, ?_⟩) (by assumption) ?_
            rotate_left
            · (intro w hSw; (try dsimp only at hSw); go_simp; (try (with_reducible rfl)))
            try simp only [Act.put, List.setIfInBounds_toArray, List.set_cons_zero, List.set_cons_succ]
            refine wpAnyH_take (i := 11) (oi := { dst := some 58, op := Go.Op.binOp Go.BinOp.add 3 (Go.Operand.tmp 57) (Go.Operand.const (Go.Value.int Go.IntKind.i64 1)) 3, type := 3, pos := "law.go:30", after := #[{ on := 10, ground := Go.Ground.data }], guard := none }) (v := ?_) rfl (by kernel_rfl) (by kernel_rfl) (by kernel_rfl) (fun _ _ _ h => h) (Or.inl ⟨by rfl, ?_⟩) (by assumption) ?_
            rotate_left
            · (intro w hSw; (try dsimp only at hSw); go_simp; (try (with_reducible rfl)))
            try simp only [Act.put, List.setIfInBounds_toArray, List.set_cons_zero, List.set_cons_succ]
            refine wpAnyH_take (i := 12) (oi := { dst := some 59, op := Go.Op.slice 29 (Go.Operand.tmp 55) (some (Go.Operand.tmp 56)) (some (Go.Operand.tmp 58)) none, type := 29, pos := "law.go:30", after := #[{ on := 8, ground := Go.Ground.data }, { on := 9, ground := Go.Ground.data }, { on := 11, ground := Go.Ground.data }], guard := none }) (v := ?_) rfl (by kernel_rfl) (by kernel_rfl) (by kernel_rfl) (fun _ _ _ h => h) (Or.inl ⟨by rfl, ?_⟩) (by assumption) ?_
            rotate_left
            · (intro w hSw; (try dsimp only at hSw); go_simp; (try (with_reducible rfl)))
            try simp only [Act.put, List.setIfInBounds_toArray, List.set_cons_zero, List.set_cons_succ]
            refine wpAnyH_take (i := 14) (oi := { dst := some 61, op := Go.Op.load 28 (Go.Operand.tmp 5), type := 28, pos := "law.go:30", after := #[], guard := none }) (v := ?_) rfl (by kernel_rfl) (by kernel_rfl) (by kernel_rfl) (fun _ _ _ h => h) (Or.inl ⟨by rfl, ?_⟩) (by assumption) ?_
            rotate_left
            · (intro w hSw; (try dsimp only at hSw); go_simp; (try (with_reducible rfl)))
            try simp only [Act.put, List.setIfInBounds_toArray, List.set_cons_zero, List.set_cons_succ]
            refine wpAnyH_ready (rs := [6]) (by kernel_rfl) (by simp) ?_
            refine AllReadyH.cons (o := { dst := some 53, op := Go.Op.call { callee := Go.Callee.value (Go.Operand.func 38), args := #[Go.Operand.tmp 47, Go.Operand.tmp 51, Go.Operand.tmp 52], argTypes := #[33, 28, 28] }, type := 4, pos := "law.go:30", after := #[{ on := 0, ground := Go.Ground.data }, { on := 4, ground := Go.Ground.data }, { on := 5, ground := Go.Ground.data }], guard := none }) rfl (fun K hK => ?_) AllReadyH.nil
            go_simp
            refine hPx.out.mono ?_
            rintro e wA ⟨HA, rfl, lA, hA, enA⟩
            refine hK.out _ _ (kk _ _ _ lA hA) (fun hHeld => ?_)
            clear hK K
            try simp only [Act.put, List.setIfInBounds_toArray, List.set_cons_zero, List.set_cons_succ]
            refine wpAnyH_ready (rs := [13]) (by kernel_rfl) (by simp) ?_
            refine AllReadyH.cons (o := { dst := some 60, op := Go.Op.call { callee := Go.Callee.value (Go.Operand.func 37), args := #[Go.Operand.tmp 54, Go.Operand.tmp 59], argTypes := #[22, 29] }, type := 29, pos := "law.go:30", after := #[{ on := 7, ground := Go.Ground.data }, { on := 12, ground := Go.Ground.data }, { on := 6, ground := Go.Ground.chain }], guard := none }) rfl (fun K hK => ?_) AllReadyH.nil
            go_simp
            refine (hRx.out _ _ _ lA hA).mono ?_
            rintro e wB ⟨sv, R3, HB, rfl, lB, hB, enB, hr3, hrs3, hrm3⟩
            obtain ⟨sv1, sv2, sv3, rfl, _⟩ := hr3.form
            have lAB := Hp.le_trans lA lB
            refine hK.out _ _ (kk _ _ _ lAB hB) (fun hHeld => ?_)
            clear hK K
            try simp only [Act.put, List.setIfInBounds_toArray, List.set_cons_zero, List.set_cons_succ]
            refine wpAnyH_ready (rs := [15]) (by kernel_rfl) (by simp) ?_
            refine AllReadyH.cons (o := { dst := some 62, op := Go.Op.call { callee := Go.Callee.value (Go.Operand.func 34), args := #[Go.Operand.tmp 60, Go.Operand.tmp 61], argTypes := #[29, 28] }, type := 4, pos := "law.go:30", after := #[{ on := 13, ground := Go.Ground.data }, { on := 14, ground := Go.Ground.data }, { on := 13, ground := Go.Ground.chain }], guard := none }) rfl (fun K hK => ?_) AllReadyH.nil
            go_simp
            refine (hasIds_any _ R3 (br, bs) _ (hr3.rw hB)).mono ?_
            rintro e wC ⟨rfl, hbC⟩
            have hPP : decide ((br, bs) ∈ R3) = P := by rw [← hP.out, decide_eq_decide, hrm3]
            rw [hPP]
            have hC := hB.below hbC
            refine hK.out _ _ (kk _ _ _ lAB hC) (fun hHeld => ?_)
            clear hK K
            try simp only [Act.put, List.setIfInBounds_toArray, List.set_cons_zero, List.set_cons_succ]
            refine wpAnyH_take (i := 16) (oi := { dst := some 63, op := Go.Op.binOp Go.BinOp.neq 4 (Go.Operand.tmp 53) (Go.Operand.tmp 62) 4, type := 4, pos := "law.go:30", after := #[{ on := 6, ground := Go.Ground.data }, { on := 15, ground := Go.Ground.data }], guard := none }) (v := ?_) rfl (by kernel_rfl) (by kernel_rfl) (by kernel_rfl) (fun _ _ _ h => h) (Or.inl ⟨by rfl, ?_⟩) (by assumption) ?_
            rotate_left
            · (intro w hSw; (try dsimp only at hSw); go_simp; (try (with_reducible rfl)))
            try simp only [Act.put, List.setIfInBounds_toArray, List.set_cons_zero, List.set_cons_succ]
            refine wpAnyH_done (by kernel_rfl) ?_ _
            have enC := ((hen.drew.trans enA).trans enB).trans (bel_env hbC)
            have l8C := Hp.le_trans l8 lAB
            clear hHeld hPP hrm3 hr3 hrs3
            go_wp2_with fail
            go_roundw
            case rel => exact ⟨k + 1, HB, by omega, by go_num, l8C, hC, enC⟩
            case measure => simp [intOf]; omega
          · obtain rfl : k = f.length := by omega
            have hwz := Lib.hid ((works16 wr).mono (R' := fun e w'' => e = .returned (.bool true) ∧ Hid (Below w.heap.size w w'')) (by
              rintro e w'' ⟨rfl, hb⟩
              exact ⟨rfl, hwk H8 _ wr w'' (Hp.le_trans l0H l8) hst hen hb⟩))
            go_wp2_with fail
            refine hwz.out.mono ?_
            rintro e w9 ⟨rfl, hz⟩
            go_wp2_with fail
            go_ret
            exact ⟨rfl, hz.out⟩
      · have hE' : (gErr [] (l.map rp) != 0) = true := by simpa using hE
        go_wp2_with fail
        refine (work.out _ h3 en3).mono ?_
        rintro e w4 ⟨rfl, hz⟩
        go_wp2_with fail
        go_ret
        exact ⟨rfl, hz.out⟩
end Go.Proofs.Ytelmhcbdpimaaaa
