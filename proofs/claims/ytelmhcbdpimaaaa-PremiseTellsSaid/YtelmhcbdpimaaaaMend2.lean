/- The premise: the reference's Mend. -/
import Derived.Test.YtelmhcbdpimaaaaFine
set_option linter.unusedVariables false
set_option linter.unusedSimpArgs false
namespace Go.Proofs.Ytelmhcbdpimaaaa
open Go.RowKit Go.Cw Go.Fl
attribute [local go_sem ↓] eql_id neq_id
theorem St.row_at {H : Hp} {l : List HA} {w : World} {e : TypeId} {sz b off n c : Nat} {cs : List Value} (h : St H (Row e sz (.slice (some ⟨b, off, none⟩) n c) cs :: l) w) {j : Nat} {u : Value} (hj : cs[j]? = some u) : w.cell? ⟨b, off + j, none⟩ = some u := by
  obtain ⟨g, o, hA, hc, _⟩ := h.row_cell hj
  cases hA
  exact hc
/-- Put into a list that is only read. -/
theorem put_rd (v : Value) (l : List Id) (id : Id) (H : Hp) (fr : List HA) (w : World) (h : St H fr w) (hv : Rd H 2 v (idl l)) (hlen : (l.length + 1) * 16 ≤ 140737488355328) :
    Calls Try.prog 50 #[v, idV id] w fun e w' => ∃ v' H', e = .returned v' ∧ Hp.le H H' ∧ St H' fr w' ∧ Env w w' ∧ Rd H' 2 v' (idl (putL id l)) := by
  by_cases hin : id ∈ l
  · refine (put_has v l id w (hv.rw h) hin).mono ?_
    rintro e w' ⟨rfl, hb⟩
    exact ⟨v, H, rfl, Hp.le_refl _, h.below hb, bel_env hb, by unfold putL; rw [if_pos hin]; exact hv⟩
  · refine (put_new v l id w (hv.rw h) hin hlen).mono ?_
    rintro e w' he
    obtain ⟨v', rfl, h2, en2⟩ := ResE.lift h he
    obtain ⟨H', hle, h3, hr⟩ := h2.row_keep
    exact ⟨v', H', rfl, hle, h3, en2, by unfold putL; rw [if_neg hin]; exact hr⟩
theorem mendL_take (F : List Rp) (k : Nat) (h : k < F.length) : mendL (F.take (k + 1)) = mendL (F.take k) ++ [mendOne (mendL (F.take k)) F[k]] := by
  unfold mendL
  rw [List.take_add_one, List.getElem?_eq_getElem h, List.foldl_append]
  rfl
theorem mendL_len (F : List Rp) : (mendL F).length = F.length := by
  unfold mendL
  have : ∀ acc : List Rp, (F.foldl mendStep acc).length = acc.length + F.length := by
    induction F with
    | nil => exact fun acc => by simp
    | cons x r ih =>
      intro acc
      rw [List.foldl_cons, ih]
      unfold mendStep
      simp
      omega
  simpa using this []
set_option maxRecDepth 100000 in
set_option maxHeartbeats 12800000 in
theorem refMend_any (u : Value) (l : List Rc) (w : World) (hx : Rw w 5 u (recs l)) (hl : ∀ x ∈ l, RcR w x) (hlen : l.length ≤ 1000000) :
    Calls Try.prog 13 #[u] w fun e w' => ∃ (v : Value) (M : List Rc) (H : Hp), e = .returned v ∧ Hp.le (snap w) H ∧ St H [Row 32 5 v (recs M)] w' ∧ Env w w' ∧ M.map rp = mendL (fineL (l.map rp)) ∧ ∀ x ∈ M, RcD H x := by
  have hld : ∀ x ∈ l, RcD (snap w) x := fun x hm => ⟨(hl x hm).d.rd, (hl x hm).b.rd, (hl x hm).ok⟩
  have h1 := (St.start w).row_lit 32 5 0 #[] rfl (by decide)
  have en1 := (Env.refl w).alloc (.cells #[] 32)
  have hFi := refFine_any u l _ (hx.alloc (.cells #[] 32)) (fun x hm => (hl x hm).below (boxBelow w _)) hlen
  have hFl := fineC_len l []
  change (fineC l).length ≤ _ at hFl
  rw [List.length_nil, Nat.zero_add] at hFl
  have hFd : ∀ x ∈ fineC l, RcD (snap w) x := fun x hm => hld x (fineC_mem hm)
  have hFo : ∀ x ∈ fineC l, x.2.2.2.2.1.length ≤ 16 := fun x hm => by
    have h1 : ∀ F : List Rp, FineOk F → ∀ m : List Rp, FineOk (m.foldl fineStep F) := fun F h m => by
      induction m generalizing F with
      | nil => exact h
      | cons y r ih => exact ih _ (fineStep_ok h y)
    have h2 := (h1 [] ⟨by simp, by simp⟩ (l.map rp)).len (rp x) (by show _ ∈ fineL (l.map rp); rw [← fineC_rp]; exact List.mem_map.2 ⟨x, hm, rfl⟩)
    exact h2.1
  have hFe : mendL (fineL (l.map rp)) = mendL ((fineC l).map rp) := by rw [fineC_rp]
  rw [hFe]
  generalize fineC l = F at *
  replace hFd := Lib.hid hFd
  replace hFo := Lib.hid hFo
  replace hFi := Lib.hid hFi
  obtain ⟨A, n, c, rfl, -⟩ := hx.form
  clear hx hl hld hFe
  go_enter Try.func13, Try.ntmps13
  go_wp2_with fail
  refine hFi.out.mono ?_
  rintro e w2 he
  obtain ⟨fv, rfl, h2, en2⟩ := ResE.lift h1 he
  replace en2 := en1.trans en2
  obtain ⟨H2, l2, h3, hfR⟩ := h2.row_keep
  obtain ⟨fA, fn, fc, rfl, hfl, hfc, hfM⟩ := hfR.form
  rw [recs_len] at hfl
  obtain rfl : fn = F.length := by omega
  simp only [maxLen] at hfM
  clear hFi h1 en1 he h2 hfl
  go_wp2_with fail
  go_loopw [3, 5] (fun lv i wr => ∃ (k : Nat) (M : List Rc) (H : Hp), k ≤ F.length ∧ i = .int .i64 (k : Int) ∧ Hp.le H2 H ∧ St H (Row 32 5 lv (recs M) :: []) wr ∧ Env w wr ∧ Hid (M.map rp = mendL ((F.take k).map rp) ∧ (∀ x ∈ M, RcD H x) ∧ M.length = k)) (fun _ i _ => F.length - (intOf i).toNat)
  case atStart => exact ⟨0, [], H2, by omega, by go_num, Hp.le_refl _, h3, en2, Lib.hid ⟨rfl, by simp, rfl⟩⟩
  case round =>
    clear h3 en2
    obtain ⟨k, M, H, hk, rfl, le1, h1, en1, hI⟩ := hrel
    obtain ⟨wo, rfl⟩ : ∃ wo : World, wo = wr := ⟨_, rfl⟩
    obtain ⟨LA, Ln, Lc, rfl, hLl, hLc, hLM⟩ := h1.row_form
    rw [recs_len] at hLl
    obtain rfl : Ln = M.length := by omega
    simp only [maxLen] at hLM
    clear hLl
    by_cases hlt : k < F.length
    · obtain ⟨lb, lo, hA, hcr⟩ := ((hfR.mono le1).rw h1).cells (by omega)
      cases hA
      obtain ⟨p0, p1, p2, p3, p4⟩ := recs_get F k hlt
      replace p0 := hcr _ _ p0
      replace p1 := hcr _ _ p1
      replace p2 := hcr _ _ p2
      replace p3 := hcr _ _ p3
      replace p4 := hcr _ _ p4
      rw [← Nat.add_assoc] at p1 p2 p3 p4
      clear hcr
      have pl := World.block_lt_of_cell? _ _ p0
      have hml := mendL_take (F.map rp) k (by rwa [List.length_map])
      rw [← List.map_take, ← List.map_take, List.getElem_map, ← hI.out.1] at hml
      replace hml := Lib.hid hml
      have hxD := Lib.hid ((hFd.out F[k] (List.getElem_mem hlt)).mono (Hp.le_trans l2 le1))
      have hx16 := hFo.out F[k] (List.getElem_mem hlt)
      generalize F[k] = x at *
      obtain ⟨d1, d2, d3, hdv, hd4, _⟩ := hxD.out.d.form
      obtain ⟨b1, b2, b3, hbv, _⟩ := hxD.out.b.form
      obtain ⟨⟨r, s⟩, q, xd, xb, xD, xB⟩ := x
      try simp only at hdv hbv p0 p1 p2 p3 p4 hml hx16 hd4
      subst hdv hbv
      rw [idl_len] at hd4
      obtain rfl : d2 = xD.length := by omega
      clear hd4
      have h2 := h1.blk #[.int .i64 r, .int .i64 s, .int .i64 q, .slice d1 xD.length d3, .slice b1 b2 b3] 32
      have en2 := en1.alloc (.cells #[.int .i64 r, .int .i64 s, .int .i64 q, .slice d1 xD.length d3, .slice b1 b2 b3] 32)
      have hMk : M.length = k := hI.out.2.2
      have hMd : Hid (∀ y ∈ M, RcD H y) := Lib.hid hI.out.2.1
      replace hMk := Lib.hid hMk
      go_wp2_with fail
      generalize wo.alloc (.cells #[.int .i64 r, .int .i64 s, .int .i64 q, .slice d1 xD.length d3, .slice b1 b2 b3] 32) = W2 at *
      generalize wo.heap.size = g6 at *
      clear p0 p1 p2 p3 p4 pl h1 en1
      go_loopw [7] (fun j wr => ∃ (m : Nat) (D : List Id) (f1 : Option Addr) (f3 : Nat) (H' : Hp), m ≤ M.length ∧ j = .int .i64 (m : Int) ∧ Hp.le H H' ∧ St H' (Blk g6 #[.int .i64 r, .int .i64 s, .int .i64 q, .slice f1 D.length f3, .slice b1 b2 b3] 32 :: Row 32 5 (.slice LA M.length Lc) (recs M) :: []) wr ∧ Env w wr ∧ Hid (((M.map rp).take m).foldl mend1 ((r, s), q, xD, xB) = ((r, s), q, D, xB) ∧ D.length ≤ 16 ∧ Rd H' 2 (.slice f1 D.length f3) (idl D))) (fun j _ => M.length - (intOf j).toNat)
      case atStart => exact ⟨0, xD, d1, d3, H, by omega, by go_num, Hp.le_refl _, h2, en2, Lib.hid ⟨rfl, hx16, hxD.out.d⟩⟩
      case round =>
        clear h2 en2
        obtain ⟨m, D, f1, f3, H3, hm, rfl, le3, hst, hen, hJ⟩ := hrel
        by_cases hlt2 : m < M.length
        · obtain ⟨ob, oo, hA, -⟩ := ((hst.swap).row_rw (by omega)).cells (by omega)
          cases hA
          obtain ⟨q0, q1, q2, q3, q4⟩ := recs_get M m hlt2
          have hyD := Lib.hid ((hMd.out M[m] (List.getElem_mem hlt2)).mono le3)
          have hfs : Hid (((M.map rp).take (m + 1)).foldl mend1 ((r, s), q, xD, xB) = mend1 ((r, s), q, D, xB) (rp M[m])) := Lib.hid (by
            rw [List.take_add_one, List.getElem?_map, List.getElem?_eq_getElem hlt2, List.foldl_append, hJ.out.1]; rfl)
          generalize M[m] = y at *
          obtain ⟨e1, e2, e3, hev, _⟩ := hyD.out.d.form
          obtain ⟨c1, c2, c3, hcv, _⟩ := hyD.out.b.form
          obtain ⟨⟨r', s'⟩, q', yd, yb, yD, yB⟩ := y
          try simp only at hev hcv q0 q1 q2 q3 q4 hfs
          subst hev hcv
          have kk : ∀ (w' : World), St H3 (Blk g6 #[.int .i64 r, .int .i64 s, .int .i64 q, .slice f1 D.length f3, .slice b1 b2 b3] 32 :: Row 32 5 (.slice (some ⟨ob, oo, none⟩) M.length Lc) (recs M) :: []) w' → (fun w' : World => w'.cell? ⟨g6, 0, none⟩ = some (.int .i64 r) ∧ w'.cell? ⟨g6, 1, none⟩ = some (.int .i64 s) ∧ w'.cell? ⟨g6, 2, none⟩ = some (.int .i64 q) ∧ w'.cell? ⟨g6, 3, none⟩ = some (.slice f1 D.length f3) ∧ w'.cell? ⟨g6, 4, none⟩ = some (.slice b1 b2 b3) ∧ w'.cell? ⟨ob, oo + m * 5, none⟩ = some (.int .i64 r') ∧ w'.cell? ⟨ob, oo + m * 5 + 1, none⟩ = some (.int .i64 s') ∧ w'.cell? ⟨ob, oo + m * 5 + 2, none⟩ = some (.int .i64 q') ∧ w'.cell? ⟨ob, oo + m * 5 + 3, none⟩ = some (.slice e1 e2 e3) ∧ w'.cell? ⟨ob, oo + m * 5 + 4, none⟩ = some (.slice c1 c2 c3)) w' := fun w' h => by
            have g := h.swap
            exact ⟨h.blk_cell 0, h.blk_cell 1, h.blk_cell 2, h.blk_cell 3, h.blk_cell 4, St.row_at g q0, by rw [Nat.add_assoc]; exact St.row_at g q1, by rw [Nat.add_assoc]; exact St.row_at g q2, by rw [Nat.add_assoc]; exact St.row_at g q3, by rw [Nat.add_assoc]; exact St.row_at g q4⟩
          have hm0 : (0 : Int) ≤ (m : Int) := by omega
          have hml0 : (m : Int) < (M.length : Int) := by omega
          obtain ⟨hJ1, hJ2, hJ3⟩ := hJ.out
          have hD := hst.drew
          have enD := hen.drew
          have hLk := fun w' (h' : St H3 (Blk g6 #[.int .i64 r, .int .i64 s, .int .i64 q, .slice f1 D.length f3, .slice b1 b2 b3] 32 :: Row 32 5 (.slice (some ⟨ob, oo, none⟩) M.length Lc) (recs M) :: []) w') => refLacks_any ((r, s), q, .slice f1 D.length f3, .slice b1 b2 b3, D, xB) ((r', s'), q', .slice e1 e2 e3, .slice c1 c2 c3, yD, yB) w' ⟨hJ3.rw h', (hxD.out.b.mono le3).rw h', hxD.out.ok⟩ (hyD.out.rw h')
          try simp only [rp] at hLk
          clear hst hen hJ1 hJ
          cases hlk : lackR ((r, s), q, D, xB) ((r', s'), q', yD, yB) with
          | false =>
            have hfs2 : Hid (((M.map rp).take (m + 1)).foldl mend1 ((r, s), q, xD, xB) = ((r, s), q, D, xB)) := Lib.hid (by rw [hfs.out]; unfold mend1; rw [if_neg (fun h => by rw [hlk] at h; cases h.2)])
            simp only [hlk] at hLk
            replace hLk := Lib.hid hLk
            replace hJ3 := Lib.hid hJ3
            clear hlk hfs
            go_wp2_with fail
            refine wp_region_held_drew (S := (fun w' : World => w'.cell? ⟨g6, 0, none⟩ = some (.int .i64 r) ∧ w'.cell? ⟨g6, 1, none⟩ = some (.int .i64 s) ∧ w'.cell? ⟨g6, 2, none⟩ = some (.int .i64 q) ∧ w'.cell? ⟨g6, 3, none⟩ = some (.slice f1 D.length f3) ∧ w'.cell? ⟨g6, 4, none⟩ = some (.slice b1 b2 b3) ∧ w'.cell? ⟨ob, oo + m * 5, none⟩ = some (.int .i64 r') ∧ w'.cell? ⟨ob, oo + m * 5 + 1, none⟩ = some (.int .i64 s') ∧ w'.cell? ⟨ob, oo + m * 5 + 2, none⟩ = some (.int .i64 q') ∧ w'.cell? ⟨ob, oo + m * 5 + 3, none⟩ = some (.slice e1 e2 e3) ∧ w'.cell? ⟨ob, oo + m * 5 + 4, none⟩ = some (.slice c1 c2 c3))) (by kernel_rfl) (kk _ hD) (fun hHeld => ?_)
            refine wpAnyH_take (i := 0) (oi := { dst := some 27, op := Go.Op.load 32 (Go.Operand.tmp 6), type := 32, pos := "ref.go:38", after := #[], guard := none }) (v := ?_) rfl (by kernel_rfl) (by kernel_rfl) (by kernel_rfl) (fun _ _ _ h => h) (Or.inl ⟨by rfl, ?_⟩) (by assumption) ?_
            rotate_left
            · (intro w hSw; (try dsimp only at hSw); go_simp; (try (with_reducible rfl)))
            try simp only [Act.put, List.setIfInBounds_toArray, List.set_cons_zero, List.set_cons_succ]
            refine wpAnyH_take (i := 1) (oi := { dst := some 28, op := Go.Op.move (Go.Operand.tmp 3), type := 22, pos := "ref.go:38", after := #[], guard := none }) (v := ?_) rfl (by kernel_rfl) (by kernel_rfl) (by kernel_rfl) (fun _ _ _ h => h) (Or.inl ⟨by rfl, ?_⟩) (by assumption) ?_
            rotate_left
            · (intro w hSw; (try dsimp only at hSw); go_simp; (try (with_reducible rfl)))
            try simp only [Act.put, List.setIfInBounds_toArray, List.set_cons_zero, List.set_cons_succ]
            refine wpAnyH_take (i := 2) (oi := { dst := some 29, op := Go.Op.move (Go.Operand.tmp 7), type := 3, pos := "ref.go:38", after := #[], guard := none }) (v := ?_) rfl (by kernel_rfl) (by kernel_rfl) (by kernel_rfl) (fun _ _ _ h => h) (Or.inl ⟨by rfl, ?_⟩) (by assumption) ?_
            rotate_left
            · (intro w hSw; (try dsimp only at hSw); go_simp; (try (with_reducible rfl)))
            try simp only [Act.put, List.setIfInBounds_toArray, List.set_cons_zero, List.set_cons_succ]
            refine wpAnyH_take (i := 3) (oi := { dst := some 30, op := Go.Op.indexAddr 22 (Go.Operand.tmp 28) (Go.Operand.tmp 29), type := 0, pos := "ref.go:38", after := #[{ on := 1, ground := Go.Ground.data }, { on := 2, ground := Go.Ground.data }], guard := none }) (v := ?_) rfl (by kernel_rfl) (by kernel_rfl) (by kernel_rfl) (fun _ _ _ h => h) (Or.inl ⟨by rfl, ?_⟩) (by assumption) ?_
            rotate_left
            · (intro w hSw; (try dsimp only at hSw); go_simp; (try (with_reducible rfl)))
            try simp only [Act.put, List.setIfInBounds_toArray, List.set_cons_zero, List.set_cons_succ]
            refine wpAnyH_take (i := 4) (oi := { dst := some 31, op := Go.Op.load 32 (Go.Operand.tmp 30), type := 32, pos := "ref.go:38", after := #[{ on := 3, ground := Go.Ground.data }], guard := none }) (v := ?_) rfl (by kernel_rfl) (by kernel_rfl) (by kernel_rfl) (fun _ _ _ h => h) (Or.inl ⟨by rfl, ?_⟩) (by assumption) ?_
            rotate_left
            · (intro w hSw; (try dsimp only at hSw); go_simp; (try (with_reducible rfl)))
            try simp only [Act.put, List.setIfInBounds_toArray, List.set_cons_zero, List.set_cons_succ]
            refine wpAnyH_ready (rs := [5]) (by kernel_rfl) (by simp) ?_
            refine AllReadyH.cons (o := { dst := some 32, op := Go.Op.call { callee := Go.Callee.value (Go.Operand.func 59), args := #[Go.Operand.tmp 27, Go.Operand.tmp 31], argTypes := #[32, 32] }, type := 4, pos := "ref.go:38", after := #[{ on := 0, ground := Go.Ground.data }, { on := 4, ground := Go.Ground.data }], guard := none }) rfl (fun K hK => ?_) AllReadyH.nil
            go_simp
            refine (hLk.out _ hD).mono ?_
            rintro e w5 ⟨rfl, hb5⟩
            replace hD := hD.below hb5
            replace enD := enD.trans (bel_env hb5)
            refine hK.out _ _ (kk _ hD) (fun hHeld2 => ?_)
            clear hK K hHeld
            try simp only [Act.put, List.setIfInBounds_toArray, List.set_cons_zero, List.set_cons_succ]
            refine wpAnyH_take (i := 6) (oi := { dst := some 33, op := Go.Op.move (Go.Operand.tmp 32), type := 4, pos := "ref.go:38", after := #[{ on := 5, ground := Go.Ground.data }, { on := 5, ground := Go.Ground.chain }], guard := none }) (v := ?_) rfl (by kernel_rfl) (by kernel_rfl) (by kernel_rfl) (fun _ _ _ h => h) (Or.inl ⟨by rfl, ?_⟩) (by assumption) ?_
            rotate_left
            · (intro w hSw; (try dsimp only at hSw); go_simp; (try (with_reducible rfl)))
            try simp only [Act.put, List.setIfInBounds_toArray, List.set_cons_zero, List.set_cons_succ]
            refine wpAnyH_take (i := 7) (oi := { dst := some 34, op := Go.Op.fieldAddr 32 (Go.Operand.tmp 6) 2, type := 0, pos := "ref.go:38", after := #[{ on := 6, ground := Go.Ground.guard }], guard := some (6, true) }) (v := undef) rfl (by kernel_rfl) (by kernel_rfl) (by kernel_rfl) (fun _ _ _ h => h) (Or.inr ⟨by rfl, rfl⟩) (by assumption) ?_
            try simp only [Act.put, List.setIfInBounds_toArray, List.set_cons_zero, List.set_cons_succ]
            refine wpAnyH_take (i := 8) (oi := { dst := some 35, op := Go.Op.load 29 (Go.Operand.tmp 34), type := 29, pos := "ref.go:38", after := #[{ on := 7, ground := Go.Ground.data }, { on := 6, ground := Go.Ground.guard }], guard := some (6, true) }) (v := undef) rfl (by kernel_rfl) (by kernel_rfl) (by kernel_rfl) (fun _ _ _ h => h) (Or.inr ⟨by rfl, rfl⟩) (by assumption) ?_
            try simp only [Act.put, List.setIfInBounds_toArray, List.set_cons_zero, List.set_cons_succ]
            refine wpAnyH_take (i := 9) (oi := { dst := some 36, op := Go.Op.call { callee := Go.Callee.builtin Go.Builtin.len, args := #[Go.Operand.tmp 35], argTypes := #[29] }, type := 3, pos := "ref.go:38", after := #[{ on := 8, ground := Go.Ground.data }, { on := 6, ground := Go.Ground.guard }], guard := some (6, true) }) (v := undef) rfl (by kernel_rfl) (by kernel_rfl) (by kernel_rfl) (fun _ _ _ h => h) (Or.inr ⟨by rfl, rfl⟩) (by assumption) ?_
            try simp only [Act.put, List.setIfInBounds_toArray, List.set_cons_zero, List.set_cons_succ]
            refine wpAnyH_take (i := 10) (oi := { dst := some 37, op := Go.Op.binOp Go.BinOp.lss 3 (Go.Operand.tmp 36) (Go.Operand.const (Go.Value.int Go.IntKind.i64 16)) 3, type := 4, pos := "ref.go:38", after := #[{ on := 9, ground := Go.Ground.data }, { on := 6, ground := Go.Ground.guard }], guard := some (6, true) }) (v := undef) rfl (by kernel_rfl) (by kernel_rfl) (by kernel_rfl) (fun _ _ _ h => h) (Or.inr ⟨by rfl, rfl⟩) (by assumption) ?_
            try simp only [Act.put, List.setIfInBounds_toArray, List.set_cons_zero, List.set_cons_succ]
            refine wpAnyH_take (i := 11) (oi := { dst := some 38, op := Go.Op.pick (Go.Operand.tmp 33) (Go.Operand.tmp 37) (Go.Operand.const (Go.Value.bool false)), type := 4, pos := "ref.go:38", after := #[{ on := 6, ground := Go.Ground.data }, { on := 10, ground := Go.Ground.data }], guard := none }) (v := ?_) rfl (by kernel_rfl) (by kernel_rfl) (by kernel_rfl) (fun _ _ _ h => h) (Or.inl ⟨by rfl, ?_⟩) (by assumption) ?_
            rotate_left
            · (intro w hSw; (try dsimp only at hSw); go_simp; (try (with_reducible rfl)))
            try simp only [Act.put, List.setIfInBounds_toArray, List.set_cons_zero, List.set_cons_succ]
            refine wpAnyH_done (by kernel_rfl) ?_ _
            clear hHeld2 hm0 hml0
            go_wp2_with fail
            go_roundw
            case rel => exact ⟨m + 1, D, f1, f3, H3, by omega, by go_num, le3, hD, enD, Lib.hid ⟨hfs2.out, hJ2, hJ3.out⟩⟩
            case measure => simp [intOf]; omega
          | true =>
            simp only [hlk] at hLk
            replace hLk := Lib.hid hLk
            by_cases h16 : D.length < 16
            · have hfs2 : Hid (((M.map rp).take (m + 1)).foldl mend1 ((r, s), q, xD, xB) = ((r, s), q, putL (r', s') D, xB)) := Lib.hid (by rw [hfs.out]; unfold mend1; rw [if_pos ⟨h16, hlk⟩])
              have hpl := putL_len (r', s') D
              have hdec : decide (D.length < 16) = true := decide_eq_true h16
              have hdec2 : decide ((D.length : Int) < 16) = true := decide_eq_true (by omega)
              have k2 : ∀ (w' : World), St H3 (Blk g6 #[.int .i64 r, .int .i64 s, .int .i64 q, .slice f1 D.length f3, .slice b1 b2 b3] 32 :: Row 32 5 (.slice (some ⟨ob, oo, none⟩) M.length Lc) (recs M) :: []) w' → (fun w' : World => w'.cell? ⟨ob, oo + m * 5, none⟩ = some (.int .i64 r') ∧ w'.cell? ⟨ob, oo + m * 5 + 1, none⟩ = some (.int .i64 s')) w' := fun w' h => ⟨(kk w' h).2.2.2.2.2.1, (kk w' h).2.2.2.2.2.2.1⟩
              have hP := fun w' (h' : St H3 (Blk g6 #[.int .i64 r, .int .i64 s, .int .i64 q, .slice f1 D.length f3, .slice b1 b2 b3] 32 :: Row 32 5 (.slice (some ⟨ob, oo, none⟩) M.length Lc) (recs M) :: []) w') => put_rd (.slice f1 D.length f3) D (r', s') H3 _ w' h' hJ3 (by omega)
              replace hP := Lib.hid hP
              clear hlk hfs hJ3
              go_wp2_with fail
              refine wp_region_held_drew (S := (fun w' : World => w'.cell? ⟨g6, 0, none⟩ = some (.int .i64 r) ∧ w'.cell? ⟨g6, 1, none⟩ = some (.int .i64 s) ∧ w'.cell? ⟨g6, 2, none⟩ = some (.int .i64 q) ∧ w'.cell? ⟨g6, 3, none⟩ = some (.slice f1 D.length f3) ∧ w'.cell? ⟨g6, 4, none⟩ = some (.slice b1 b2 b3) ∧ w'.cell? ⟨ob, oo + m * 5, none⟩ = some (.int .i64 r') ∧ w'.cell? ⟨ob, oo + m * 5 + 1, none⟩ = some (.int .i64 s') ∧ w'.cell? ⟨ob, oo + m * 5 + 2, none⟩ = some (.int .i64 q') ∧ w'.cell? ⟨ob, oo + m * 5 + 3, none⟩ = some (.slice e1 e2 e3) ∧ w'.cell? ⟨ob, oo + m * 5 + 4, none⟩ = some (.slice c1 c2 c3))) (by kernel_rfl) (kk _ hD) (fun hHeld => ?_)
              refine wpAnyH_take (i := 0) (oi := { dst := some 27, op := Go.Op.load 32 (Go.Operand.tmp 6), type := 32, pos := "ref.go:38", after := #[], guard := none }) (v := ?_) rfl (by kernel_rfl) (by kernel_rfl) (by kernel_rfl) (fun _ _ _ h => h) (Or.inl ⟨by rfl, ?_⟩) (by assumption) ?_
              rotate_left
              · (intro w hSw; (try dsimp only at hSw); go_simp; (try (with_reducible rfl)))
              try simp only [Act.put, List.setIfInBounds_toArray, List.set_cons_zero, List.set_cons_succ]
              refine wpAnyH_take (i := 1) (oi := { dst := some 28, op := Go.Op.move (Go.Operand.tmp 3), type := 22, pos := "ref.go:38", after := #[], guard := none }) (v := ?_) rfl (by kernel_rfl) (by kernel_rfl) (by kernel_rfl) (fun _ _ _ h => h) (Or.inl ⟨by rfl, ?_⟩) (by assumption) ?_
              rotate_left
              · (intro w hSw; (try dsimp only at hSw); go_simp; (try (with_reducible rfl)))
              try simp only [Act.put, List.setIfInBounds_toArray, List.set_cons_zero, List.set_cons_succ]
              refine wpAnyH_take (i := 2) (oi := { dst := some 29, op := Go.Op.move (Go.Operand.tmp 7), type := 3, pos := "ref.go:38", after := #[], guard := none }) (v := ?_) rfl (by kernel_rfl) (by kernel_rfl) (by kernel_rfl) (fun _ _ _ h => h) (Or.inl ⟨by rfl, ?_⟩) (by assumption) ?_
              rotate_left
              · (intro w hSw; (try dsimp only at hSw); go_simp; (try (with_reducible rfl)))
              try simp only [Act.put, List.setIfInBounds_toArray, List.set_cons_zero, List.set_cons_succ]
              refine wpAnyH_take (i := 3) (oi := { dst := some 30, op := Go.Op.indexAddr 22 (Go.Operand.tmp 28) (Go.Operand.tmp 29), type := 0, pos := "ref.go:38", after := #[{ on := 1, ground := Go.Ground.data }, { on := 2, ground := Go.Ground.data }], guard := none }) (v := ?_) rfl (by kernel_rfl) (by kernel_rfl) (by kernel_rfl) (fun _ _ _ h => h) (Or.inl ⟨by rfl, ?_⟩) (by assumption) ?_
              rotate_left
              · (intro w hSw; (try dsimp only at hSw); go_simp; (try (with_reducible rfl)))
              try simp only [Act.put, List.setIfInBounds_toArray, List.set_cons_zero, List.set_cons_succ]
              refine wpAnyH_take (i := 4) (oi := { dst := some 31, op := Go.Op.load 32 (Go.Operand.tmp 30), type := 32, pos := "ref.go:38", after := #[{ on := 3, ground := Go.Ground.data }], guard := none }) (v := ?_) rfl (by kernel_rfl) (by kernel_rfl) (by kernel_rfl) (fun _ _ _ h => h) (Or.inl ⟨by rfl, ?_⟩) (by assumption) ?_
              rotate_left
              · (intro w hSw; (try dsimp only at hSw); go_simp; (try (with_reducible rfl)))
              try simp only [Act.put, List.setIfInBounds_toArray, List.set_cons_zero, List.set_cons_succ]
              refine wpAnyH_ready (rs := [5]) (by kernel_rfl) (by simp) ?_
              refine AllReadyH.cons (o := { dst := some 32, op := Go.Op.call { callee := Go.Callee.value (Go.Operand.func 59), args := #[Go.Operand.tmp 27, Go.Operand.tmp 31], argTypes := #[32, 32] }, type := 4, pos := "ref.go:38", after := #[{ on := 0, ground := Go.Ground.data }, { on := 4, ground := Go.Ground.data }], guard := none }) rfl (fun K hK => ?_) AllReadyH.nil
              go_simp
              refine (hLk.out _ hD).mono ?_
              rintro e w5 ⟨rfl, hb5⟩
              replace hD := hD.below hb5
              replace enD := enD.trans (bel_env hb5)
              refine hK.out _ _ (kk _ hD) (fun hHeld2 => ?_)
              clear hK K hHeld
              try simp only [Act.put, List.setIfInBounds_toArray, List.set_cons_zero, List.set_cons_succ]
              refine wpAnyH_take (i := 6) (oi := { dst := some 33, op := Go.Op.move (Go.Operand.tmp 32), type := 4, pos := "ref.go:38", after := #[{ on := 5, ground := Go.Ground.data }, { on := 5, ground := Go.Ground.chain }], guard := none }) (v := ?_) rfl (by kernel_rfl) (by kernel_rfl) (by kernel_rfl) (fun _ _ _ h => h) (Or.inl ⟨by rfl, ?_⟩) (by assumption) ?_
              rotate_left
              · (intro w hSw; (try dsimp only at hSw); go_simp; (try (with_reducible rfl)))
              try simp only [Act.put, List.setIfInBounds_toArray, List.set_cons_zero, List.set_cons_succ]
              refine wpAnyH_take (i := 7) (oi := { dst := some 34, op := Go.Op.fieldAddr 32 (Go.Operand.tmp 6) 2, type := 0, pos := "ref.go:38", after := #[{ on := 6, ground := Go.Ground.guard }], guard := some (6, true) }) (v := ?_) rfl (by kernel_rfl) (by kernel_rfl) (by kernel_rfl) (fun _ _ _ h => h) (Or.inl ⟨by rfl, ?_⟩) (by assumption) ?_
              rotate_left
              · (intro w hSw; (try dsimp only at hSw); go_simp; (try (with_reducible rfl)))
              try simp only [Act.put, List.setIfInBounds_toArray, List.set_cons_zero, List.set_cons_succ]
              refine wpAnyH_take (i := 8) (oi := { dst := some 35, op := Go.Op.load 29 (Go.Operand.tmp 34), type := 29, pos := "ref.go:38", after := #[{ on := 7, ground := Go.Ground.data }, { on := 6, ground := Go.Ground.guard }], guard := some (6, true) }) (v := ?_) rfl (by kernel_rfl) (by kernel_rfl) (by kernel_rfl) (fun _ _ _ h => h) (Or.inl ⟨by rfl, ?_⟩) (by assumption) ?_
              rotate_left
              · (intro w hSw; (try dsimp only at hSw); go_simp; (try (with_reducible rfl)))
              try simp only [Act.put, List.setIfInBounds_toArray, List.set_cons_zero, List.set_cons_succ]
              refine wpAnyH_take (i := 9) (oi := { dst := some 36, op := Go.Op.call { callee := Go.Callee.builtin Go.Builtin.len, args := #[Go.Operand.tmp 35], argTypes := #[29] }, type := 3, pos := "ref.go:38", after := #[{ on := 8, ground := Go.Ground.data }, { on := 6, ground := Go.Ground.guard }], guard := some (6, true) }) (v := ?_) rfl (by kernel_rfl) (by kernel_rfl) (by kernel_rfl) (fun _ _ _ h => h) (Or.inl ⟨by rfl, ?_⟩) (by assumption) ?_
              rotate_left
              · (intro w hSw; (try dsimp only at hSw); go_simp; (try (with_reducible rfl)))
              try simp only [Act.put, List.setIfInBounds_toArray, List.set_cons_zero, List.set_cons_succ]
              refine wpAnyH_take (i := 10) (oi := { dst := some 37, op := Go.Op.binOp Go.BinOp.lss 3 (Go.Operand.tmp 36) (Go.Operand.const (Go.Value.int Go.IntKind.i64 16)) 3, type := 4, pos := "ref.go:38", after := #[{ on := 9, ground := Go.Ground.data }, { on := 6, ground := Go.Ground.guard }], guard := some (6, true) }) (v := ?_) rfl (by kernel_rfl) (by kernel_rfl) (by kernel_rfl) (fun _ _ _ h => h) (Or.inl ⟨by rfl, ?_⟩) (by assumption) ?_
              rotate_left
              · (intro w hSw; (try dsimp only at hSw); go_simp; (try (with_reducible rfl)))
              try simp only [Act.put, List.setIfInBounds_toArray, List.set_cons_zero, List.set_cons_succ]
              refine wpAnyH_take (i := 11) (oi := { dst := some 38, op := Go.Op.pick (Go.Operand.tmp 33) (Go.Operand.tmp 37) (Go.Operand.const (Go.Value.bool false)), type := 4, pos := "ref.go:38", after := #[{ on := 6, ground := Go.Ground.data }, { on := 10, ground := Go.Ground.data }], guard := none }) (v := ?_) rfl (by kernel_rfl) (by kernel_rfl) (by kernel_rfl) (fun _ _ _ h => h) (Or.inl ⟨by rfl, ?_⟩) (by assumption) ?_
              rotate_left
              · (intro w hSw; (try dsimp only at hSw); go_simp; (try (with_reducible rfl)))
              try simp only [Act.put, List.setIfInBounds_toArray, List.set_cons_zero, List.set_cons_succ]
              refine wpAnyH_done (by kernel_rfl) ?_ _
              clear hHeld2 hdec hdec2
              have hD5 := hD.drew
              have enD5 := enD.drew
              have a3 := hD.blk_cell 3
              have al := hD.blk_lt
              go_wp2_with fail
              refine wp_region_held_drew (S := fun w' : World => w'.cell? ⟨ob, oo + m * 5, none⟩ = some (.int .i64 r') ∧ w'.cell? ⟨ob, oo + m * 5 + 1, none⟩ = some (.int .i64 s')) (by kernel_rfl) (k2 _ hD5) (fun hHeld => ?_)
              refine wpAnyH_take (i := 0) (oi := { dst := some 39, op := Go.Op.fieldAddr 32 (Go.Operand.tmp 6) 2, type := 0, pos := "ref.go:39", after := #[], guard := none }) (v := ?_) rfl (by kernel_rfl) (by kernel_rfl) (by kernel_rfl) (fun _ _ _ h => h) (Or.inl ⟨by rfl, ?_⟩) (by assumption) ?_
              rotate_left
              · (intro w hSw; (try dsimp only at hSw); go_simp; (try (with_reducible rfl)))
              try simp only [Act.put, List.setIfInBounds_toArray, List.set_cons_zero, List.set_cons_succ]
              refine wpAnyH_take (i := 2) (oi := { dst := some 41, op := Go.Op.move (Go.Operand.tmp 3), type := 22, pos := "ref.go:39", after := #[], guard := none }) (v := ?_) rfl (by kernel_rfl) (by kernel_rfl) (by kernel_rfl) (fun _ _ _ h => h) (Or.inl ⟨by rfl, ?_⟩) (by assumption) ?_
              rotate_left
              · (intro w hSw; (try dsimp only at hSw); go_simp; (try (with_reducible rfl)))
              try simp only [Act.put, List.setIfInBounds_toArray, List.set_cons_zero, List.set_cons_succ]
              refine wpAnyH_take (i := 3) (oi := { dst := some 42, op := Go.Op.move (Go.Operand.tmp 7), type := 3, pos := "ref.go:39", after := #[], guard := none }) (v := ?_) rfl (by kernel_rfl) (by kernel_rfl) (by kernel_rfl) (fun _ _ _ h => h) (Or.inl ⟨by rfl, ?_⟩) (by assumption) ?_
              rotate_left
              · (intro w hSw; (try dsimp only at hSw); go_simp; (try (with_reducible rfl)))
              try simp only [Act.put, List.setIfInBounds_toArray, List.set_cons_zero, List.set_cons_succ]
              refine wpAnyH_take (i := 4) (oi := { dst := some 43, op := Go.Op.indexAddr 22 (Go.Operand.tmp 41) (Go.Operand.tmp 42), type := 0, pos := "ref.go:39", after := #[{ on := 2, ground := Go.Ground.data }, { on := 3, ground := Go.Ground.data }], guard := none }) (v := ?_) rfl (by kernel_rfl) (by kernel_rfl) (by kernel_rfl) (fun _ _ _ h => h) (Or.inl ⟨by rfl, ?_⟩) (by assumption) ?_
              rotate_left
              · (intro w hSw; (try dsimp only at hSw); go_simp; (try (with_reducible rfl)))
              try simp only [Act.put, List.setIfInBounds_toArray, List.set_cons_zero, List.set_cons_succ]
              refine wpAnyH_take (i := 5) (oi := { dst := some 44, op := Go.Op.fieldAddr 32 (Go.Operand.tmp 43) 0, type := 0, pos := "ref.go:39", after := #[{ on := 4, ground := Go.Ground.data }], guard := none }) (v := ?_) rfl (by kernel_rfl) (by kernel_rfl) (by kernel_rfl) (fun _ _ _ h => h) (Or.inl ⟨by rfl, ?_⟩) (by assumption) ?_
              rotate_left
              · (intro w hSw; (try dsimp only at hSw); go_simp; (try (with_reducible rfl)))
              try simp only [Act.put, List.setIfInBounds_toArray, List.set_cons_zero, List.set_cons_succ]
              refine wpAnyH_take (i := 6) (oi := { dst := some 45, op := Go.Op.load 28 (Go.Operand.tmp 44), type := 28, pos := "ref.go:39", after := #[{ on := 5, ground := Go.Ground.data }], guard := none }) (v := ?_) rfl (by kernel_rfl) (by kernel_rfl) (by kernel_rfl) (fun _ _ _ h => h) (Or.inl ⟨by rfl, ?_⟩) (by assumption) ?_
              rotate_left
              · (intro w hSw; (try dsimp only at hSw); go_simp; (try (with_reducible rfl)))
              try simp only [Act.put, List.setIfInBounds_toArray, List.set_cons_zero, List.set_cons_succ]
              refine wpAnyH_ready (rs := [1]) (by kernel_rfl) (by simp) ?_
              refine AllReadyH.cons (o := { dst := some 40, op := Go.Op.load 29 (Go.Operand.tmp 39), type := 29, pos := "ref.go:39", after := #[{ on := 0, ground := Go.Ground.data }], guard := none }) rfl (fun K hK => ?_) AllReadyH.nil
              go_simp
              refine hK.out _ _ (k2 _ hD5) (fun hHeld2 => ?_)
              clear hK K hHeld
              try simp only [Act.put, List.setIfInBounds_toArray, List.set_cons_zero, List.set_cons_succ]
              refine wpAnyH_ready (rs := [7]) (by kernel_rfl) (by simp) ?_
              refine AllReadyH.cons (o := { dst := some 46, op := Go.Op.call { callee := Go.Callee.value (Go.Operand.func 50), args := #[Go.Operand.tmp 40, Go.Operand.tmp 45], argTypes := #[29, 28] }, type := 29, pos := "ref.go:39", after := #[{ on := 1, ground := Go.Ground.data }, { on := 6, ground := Go.Ground.data }], guard := none }) rfl (fun K hK => ?_) AllReadyH.nil
              go_simp
              refine (hP.out _ hD5).mono ?_
              rintro e w6 ⟨v', H4, rfl, le4, h6, en6, hv'⟩
              replace en6 := enD5.trans en6
              have g0 := St.row_at h6.swap q0
              have g1 := St.row_at h6.swap q1
              rw [← Nat.add_assoc] at g1
              refine hK.out _ _ ⟨g0, g1⟩ (fun hHeld3 => ?_)
              obtain ⟨t1, t2, t3, rfl, ht4, _⟩ := hv'.form
              rw [idl_len] at ht4
              obtain rfl : t2 = (putL (r', s') D).length := by omega
              have a3 := h6.blk_cell 3
              have af3 := h6.blk_free 3
              have al := h6.blk_lt
              have h7 := h6.blk_set 3 (.slice t1 (putL (r', s') D).length t3)
              have f0 := St.row_at h7.swap q0
              have f1' := St.row_at h7.swap q1
              rw [← Nat.add_assoc] at f1'
              clear hK K hHeld2 ht4
              try simp only [Act.put, List.setIfInBounds_toArray, List.set_cons_zero, List.set_cons_succ]
              refine wpAnyH_take (i := 8) (oi := { dst := some 47, op := Go.Op.fieldAddr 32 (Go.Operand.tmp 6) 2, type := 0, pos := "ref.go:39", after := #[{ on := 0, ground := Go.Ground.phase }, { on := 1, ground := Go.Ground.phase }, { on := 2, ground := Go.Ground.phase }, { on := 3, ground := Go.Ground.phase }, { on := 4, ground := Go.Ground.phase }, { on := 5, ground := Go.Ground.phase }, { on := 6, ground := Go.Ground.phase }, { on := 7, ground := Go.Ground.phase }], guard := none }) (v := ?_) rfl (by kernel_rfl) (by kernel_rfl) (by kernel_rfl) (fun _ _ _ h => h) (Or.inl ⟨by rfl, ?_⟩) (by assumption) ?_
              rotate_left
              · (intro w hSw; (try dsimp only at hSw); go_simp; (try (with_reducible rfl)))
              try simp only [Act.put, List.setIfInBounds_toArray, List.set_cons_zero, List.set_cons_succ]
              refine wpAnyH_ready (rs := [9]) (by kernel_rfl) (by simp) ?_
              refine AllReadyH.cons (o := { dst := none, op := Go.Op.store 29 (Go.Operand.tmp 47) (Go.Operand.tmp 46), type := 0, pos := "ref.go:39", after := #[{ on := 8, ground := Go.Ground.data }, { on := 7, ground := Go.Ground.data }, { on := 7, ground := Go.Ground.chain }, { on := 0, ground := Go.Ground.phase }, { on := 1, ground := Go.Ground.phase }, { on := 2, ground := Go.Ground.phase }, { on := 3, ground := Go.Ground.phase }, { on := 4, ground := Go.Ground.phase }, { on := 5, ground := Go.Ground.phase }, { on := 6, ground := Go.Ground.phase }, { on := 7, ground := Go.Ground.phase }], guard := none }) rfl (fun K hK => ?_) AllReadyH.nil
              go_simp
              refine hK.out _ _ ⟨f0, f1'⟩ (fun hHeld4 => ?_)
              clear hK K hHeld3
              try simp only [Act.put, List.setIfInBounds_toArray, List.set_cons_zero, List.set_cons_succ]
              refine wpAnyH_done (by kernel_rfl) ?_ _
              clear hHeld4 f0 f1' g0 g1 a3 af3 hm0 hml0
              replace hv' := Lib.hid hv'
              go_wp2_with fail
              go_roundw
              case rel => exact ⟨m + 1, putL (r', s') D, t1, t3, H4, by omega, by go_num, Hp.le_trans le3 le4, h7, en6.setCell _ _, Lib.hid ⟨hfs2.out, by omega, hv'.out⟩⟩
              case measure => simp [intOf]; omega
            · have hfs2 : Hid (((M.map rp).take (m + 1)).foldl mend1 ((r, s), q, xD, xB) = ((r, s), q, D, xB)) := Lib.hid (by rw [hfs.out]; unfold mend1; rw [if_neg (fun h => h16 h.1)])
              have hdec : decide (D.length < 16) = false := decide_eq_false h16
              have hdec2 : decide ((D.length : Int) < 16) = false := decide_eq_false (by omega)
              replace hJ3 := Lib.hid hJ3
              clear hlk hfs
              go_wp2_with fail
              refine wp_region_held_drew (S := (fun w' : World => w'.cell? ⟨g6, 0, none⟩ = some (.int .i64 r) ∧ w'.cell? ⟨g6, 1, none⟩ = some (.int .i64 s) ∧ w'.cell? ⟨g6, 2, none⟩ = some (.int .i64 q) ∧ w'.cell? ⟨g6, 3, none⟩ = some (.slice f1 D.length f3) ∧ w'.cell? ⟨g6, 4, none⟩ = some (.slice b1 b2 b3) ∧ w'.cell? ⟨ob, oo + m * 5, none⟩ = some (.int .i64 r') ∧ w'.cell? ⟨ob, oo + m * 5 + 1, none⟩ = some (.int .i64 s') ∧ w'.cell? ⟨ob, oo + m * 5 + 2, none⟩ = some (.int .i64 q') ∧ w'.cell? ⟨ob, oo + m * 5 + 3, none⟩ = some (.slice e1 e2 e3) ∧ w'.cell? ⟨ob, oo + m * 5 + 4, none⟩ = some (.slice c1 c2 c3))) (by kernel_rfl) (kk _ hD) (fun hHeld => ?_)
              refine wpAnyH_take (i := 0) (oi := { dst := some 27, op := Go.Op.load 32 (Go.Operand.tmp 6), type := 32, pos := "ref.go:38", after := #[], guard := none }) (v := ?_) rfl (by kernel_rfl) (by kernel_rfl) (by kernel_rfl) (fun _ _ _ h => h) (Or.inl ⟨by rfl, ?_⟩) (by assumption) ?_
              rotate_left
              · (intro w hSw; (try dsimp only at hSw); go_simp; (try (with_reducible rfl)))
              try simp only [Act.put, List.setIfInBounds_toArray, List.set_cons_zero, List.set_cons_succ]
              refine wpAnyH_take (i := 1) (oi := { dst := some 28, op := Go.Op.move (Go.Operand.tmp 3), type := 22, pos := "ref.go:38", after := #[], guard := none }) (v := ?_) rfl (by kernel_rfl) (by kernel_rfl) (by kernel_rfl) (fun _ _ _ h => h) (Or.inl ⟨by rfl, ?_⟩) (by assumption) ?_
              rotate_left
              · (intro w hSw; (try dsimp only at hSw); go_simp; (try (with_reducible rfl)))
              try simp only [Act.put, List.setIfInBounds_toArray, List.set_cons_zero, List.set_cons_succ]
              refine wpAnyH_take (i := 2) (oi := { dst := some 29, op := Go.Op.move (Go.Operand.tmp 7), type := 3, pos := "ref.go:38", after := #[], guard := none }) (v := ?_) rfl (by kernel_rfl) (by kernel_rfl) (by kernel_rfl) (fun _ _ _ h => h) (Or.inl ⟨by rfl, ?_⟩) (by assumption) ?_
              rotate_left
              · (intro w hSw; (try dsimp only at hSw); go_simp; (try (with_reducible rfl)))
              try simp only [Act.put, List.setIfInBounds_toArray, List.set_cons_zero, List.set_cons_succ]
              refine wpAnyH_take (i := 3) (oi := { dst := some 30, op := Go.Op.indexAddr 22 (Go.Operand.tmp 28) (Go.Operand.tmp 29), type := 0, pos := "ref.go:38", after := #[{ on := 1, ground := Go.Ground.data }, { on := 2, ground := Go.Ground.data }], guard := none }) (v := ?_) rfl (by kernel_rfl) (by kernel_rfl) (by kernel_rfl) (fun _ _ _ h => h) (Or.inl ⟨by rfl, ?_⟩) (by assumption) ?_
              rotate_left
              · (intro w hSw; (try dsimp only at hSw); go_simp; (try (with_reducible rfl)))
              try simp only [Act.put, List.setIfInBounds_toArray, List.set_cons_zero, List.set_cons_succ]
              refine wpAnyH_take (i := 4) (oi := { dst := some 31, op := Go.Op.load 32 (Go.Operand.tmp 30), type := 32, pos := "ref.go:38", after := #[{ on := 3, ground := Go.Ground.data }], guard := none }) (v := ?_) rfl (by kernel_rfl) (by kernel_rfl) (by kernel_rfl) (fun _ _ _ h => h) (Or.inl ⟨by rfl, ?_⟩) (by assumption) ?_
              rotate_left
              · (intro w hSw; (try dsimp only at hSw); go_simp; (try (with_reducible rfl)))
              try simp only [Act.put, List.setIfInBounds_toArray, List.set_cons_zero, List.set_cons_succ]
              refine wpAnyH_ready (rs := [5]) (by kernel_rfl) (by simp) ?_
              refine AllReadyH.cons (o := { dst := some 32, op := Go.Op.call { callee := Go.Callee.value (Go.Operand.func 59), args := #[Go.Operand.tmp 27, Go.Operand.tmp 31], argTypes := #[32, 32] }, type := 4, pos := "ref.go:38", after := #[{ on := 0, ground := Go.Ground.data }, { on := 4, ground := Go.Ground.data }], guard := none }) rfl (fun K hK => ?_) AllReadyH.nil
              go_simp
              refine (hLk.out _ hD).mono ?_
              rintro e w5 ⟨rfl, hb5⟩
              replace hD := hD.below hb5
              replace enD := enD.trans (bel_env hb5)
              refine hK.out _ _ (kk _ hD) (fun hHeld2 => ?_)
              clear hK K hHeld
              try simp only [Act.put, List.setIfInBounds_toArray, List.set_cons_zero, List.set_cons_succ]
              refine wpAnyH_take (i := 6) (oi := { dst := some 33, op := Go.Op.move (Go.Operand.tmp 32), type := 4, pos := "ref.go:38", after := #[{ on := 5, ground := Go.Ground.data }, { on := 5, ground := Go.Ground.chain }], guard := none }) (v := ?_) rfl (by kernel_rfl) (by kernel_rfl) (by kernel_rfl) (fun _ _ _ h => h) (Or.inl ⟨by rfl, ?_⟩) (by assumption) ?_
              rotate_left
              · (intro w hSw; (try dsimp only at hSw); go_simp; (try (with_reducible rfl)))
              try simp only [Act.put, List.setIfInBounds_toArray, List.set_cons_zero, List.set_cons_succ]
              refine wpAnyH_take (i := 7) (oi := { dst := some 34, op := Go.Op.fieldAddr 32 (Go.Operand.tmp 6) 2, type := 0, pos := "ref.go:38", after := #[{ on := 6, ground := Go.Ground.guard }], guard := some (6, true) }) (v := ?_) rfl (by kernel_rfl) (by kernel_rfl) (by kernel_rfl) (fun _ _ _ h => h) (Or.inl ⟨by rfl, ?_⟩) (by assumption) ?_
              rotate_left
              · (intro w hSw; (try dsimp only at hSw); go_simp; (try (with_reducible rfl)))
              try simp only [Act.put, List.setIfInBounds_toArray, List.set_cons_zero, List.set_cons_succ]
              refine wpAnyH_take (i := 8) (oi := { dst := some 35, op := Go.Op.load 29 (Go.Operand.tmp 34), type := 29, pos := "ref.go:38", after := #[{ on := 7, ground := Go.Ground.data }, { on := 6, ground := Go.Ground.guard }], guard := some (6, true) }) (v := ?_) rfl (by kernel_rfl) (by kernel_rfl) (by kernel_rfl) (fun _ _ _ h => h) (Or.inl ⟨by rfl, ?_⟩) (by assumption) ?_
              rotate_left
              · (intro w hSw; (try dsimp only at hSw); go_simp; (try (with_reducible rfl)))
              try simp only [Act.put, List.setIfInBounds_toArray, List.set_cons_zero, List.set_cons_succ]
              refine wpAnyH_take (i := 9) (oi := { dst := some 36, op := Go.Op.call { callee := Go.Callee.builtin Go.Builtin.len, args := #[Go.Operand.tmp 35], argTypes := #[29] }, type := 3, pos := "ref.go:38", after := #[{ on := 8, ground := Go.Ground.data }, { on := 6, ground := Go.Ground.guard }], guard := some (6, true) }) (v := ?_) rfl (by kernel_rfl) (by kernel_rfl) (by kernel_rfl) (fun _ _ _ h => h) (Or.inl ⟨by rfl, ?_⟩) (by assumption) ?_
              rotate_left
              · (intro w hSw; (try dsimp only at hSw); go_simp; (try (with_reducible rfl)))
              try simp only [Act.put, List.setIfInBounds_toArray, List.set_cons_zero, List.set_cons_succ]
              refine wpAnyH_take (i := 10) (oi := { dst := some 37, op := Go.Op.binOp Go.BinOp.lss 3 (Go.Operand.tmp 36) (Go.Operand.const (Go.Value.int Go.IntKind.i64 16)) 3, type := 4, pos := "ref.go:38", after := #[{ on := 9, ground := Go.Ground.data }, { on := 6, ground := Go.Ground.guard }], guard := some (6, true) }) (v := ?_) rfl (by kernel_rfl) (by kernel_rfl) (by kernel_rfl) (fun _ _ _ h => h) (Or.inl ⟨by rfl, ?_⟩) (by assumption) ?_
              rotate_left
              · (intro w hSw; (try dsimp only at hSw); go_simp; (try (with_reducible rfl)))
              try simp only [Act.put, List.setIfInBounds_toArray, List.set_cons_zero, List.set_cons_succ]
              refine wpAnyH_take (i := 11) (oi := { dst := some 38, op := Go.Op.pick (Go.Operand.tmp 33) (Go.Operand.tmp 37) (Go.Operand.const (Go.Value.bool false)), type := 4, pos := "ref.go:38", after := #[{ on := 6, ground := Go.Ground.data }, { on := 10, ground := Go.Ground.data }], guard := none }) (v := ?_) rfl (by kernel_rfl) (by kernel_rfl) (by kernel_rfl) (fun _ _ _ h => h) (Or.inl ⟨by rfl, ?_⟩) (by assumption) ?_
              rotate_left
              · (intro w hSw; (try dsimp only at hSw); go_simp; (try (with_reducible rfl)))
              try simp only [Act.put, List.setIfInBounds_toArray, List.set_cons_zero, List.set_cons_succ]
              refine wpAnyH_done (by kernel_rfl) ?_ _
              clear hHeld2 hdec hdec2 hm0 hml0
              go_wp2_with fail
              go_roundw
              case rel => exact ⟨m + 1, D, f1, f3, H3, by omega, by go_num, le3, hD, enD, Lib.hid ⟨hfs2.out, hJ2, hJ3.out⟩⟩
              case measure => simp [intOf]; omega
        · obtain rfl : m = M.length := by omega
          obtain ⟨hJ1, hJ2, hJ3⟩ := hJ.out
          rw [List.take_of_length_le (by simp)] at hJ1
          have a0 := hst.blk_cell 0
          have a1 := hst.blk_cell 1
          have a2 := hst.blk_cell 2
          have a3 := hst.blk_cell 3
          have a4 := hst.blk_cell 4
          have al := hst.blk_lt
          have hbR := (hxD.out.b.mono le3)
          have hone := rec_one ((r, s), q, .slice f1 D.length f3, .slice b1 b2 b3, D, xB) ⟨hJ3, hbR, hxD.out.ok⟩
          have hM2 : Hid ((M ++ [((r, s), q, Value.slice f1 D.length f3, Value.slice b1 b2 b3, D, xB)]).map rp = mendL ((F.take (k + 1)).map rp) ∧ ∀ y ∈ M ++ [((r, s), q, Value.slice f1 D.length f3, Value.slice b1 b2 b3, D, xB)], RcD H3 y) := Lib.hid ⟨by
            rw [hml.out, List.map_append]
            unfold mendOne
            rw [hJ1]
            rfl, fun y hy => by
            rcases List.mem_append.1 hy with hy | hy
            · exact (hMd.out y hy).mono le3
            · obtain rfl := List.mem_singleton.1 hy
              exact ⟨hJ3, hbR, hxD.out.ok⟩⟩
          have hra : recs (M ++ [((r, s), q, Value.slice f1 D.length f3, Value.slice b1 b2 b3, D, xB)]) = recs M ++ recc ((r, s), q, Value.slice f1 D.length f3, Value.slice b1 b2 b3, D, xB) := by rw [recs_append]; simp [recs]
          replace hra := Lib.hid hra
          have hMb : M.length ≤ 1000000 := by have := hMk.out; omega
          clear hJ1 hJ3
          go_wp2_with (at_builtin; refine wpList_append rfl (.tmp 48) (.tmp 50) 22 22 rfl Try.underlying22 (.inl ⟨_, Try.underlying22⟩) (.agg #[.int .i64 0, .int .i64 0, .int .i64 0, .slice none 0 0, .slice none 0 0]) 72 info_rec rfl (by decide) (by decide) rfl rfl (hst.swap.alloc _) (news_at _ _ 1 #[.int .i64 r, .int .i64 s, .int .i64 q, .slice f1 D.length f3, .slice b1 b2 b3] rfl (by simpa [recc] using hone) rfl) ?apB1 ?apK1)
          try case apB1 => first | omega | (simp; omega) | (simp [recs_len]; omega) | skip
          intro v' w9 h9 en9
          clear hMb
          go_wp2_with fail
          go_roundw
          case rel => exact ⟨k + 1, M ++ [((r, s), q, Value.slice f1 D.length f3, Value.slice b1 b2 b3, D, xB)], H3, by omega, by go_num, Hp.le_trans le1 le3, by rw [hra.out]; exact h9.swap.drop, (hen.alloc _).trans en9, Lib.hid ⟨hM2.out.1, hM2.out.2, by rw [List.length_append, hMk.out]; rfl⟩⟩
          case measure => simp [intOf]; omega
    · obtain rfl : k = F.length := by omega
      have hF : Hid (M.map rp = mendL (F.map rp)) := Lib.hid (by rw [hI.out.1, List.take_length])
      have hMd := hI.out.2.1
      replace hMd := Lib.hid hMd
      go_wp2_with fail
      go_ret
      exact ⟨_, M, H, rfl, Hp.le_trans l2 le1, h1, en1, hF.out, hMd.out⟩
end Go.Proofs.Ytelmhcbdpimaaaa
