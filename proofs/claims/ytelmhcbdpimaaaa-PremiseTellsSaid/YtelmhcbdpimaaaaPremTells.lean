/- The premise: the law of what is told. -/
import Derived.Test.YtelmhcbdpimaaaaPremMends
import Derived.Test.YtelmhcbdpimaaaaLog
import Derived.Test.YtelmhcbdpimaaaaMapEntry
set_option linter.unusedVariables false
set_option linter.unusedSimpArgs false
namespace Go.Proofs.Ytelmhcbdpimaaaa
open Go.RowKit Go.Cw Go.Fl
attribute [local go_sem ↓] eql_id neq_id
theorem grS_rp {L l : List Rc} (h : L.map rp = l.map rp) : grS L = grS l := by unfold grS; rw [rids_rp, rids_rp, h]
theorem rids_of_rp {L l : List Rc} (h : L.map rp = l.map rp) : rids L = rids l := by rw [rids_rp, rids_rp, h]
theorem logAll_snoc (l : List It) (x : It) (key : ByteArray) : logAll (l ++ [x]) key = logAll l key ++ (wrF key x.2.2 0).map (fun k => (x.1, k)) := by unfold logAll; rw [List.flatMap_append]; simp
theorem wrAll_take (l : List Rp) (S : List Id) (key : ByteArray) (k : Nat) (h : k < S.length) : wrAll l (S.take (k + 1)) key = wrAll l (S.take k) key ++ (wrF key (lookR l S[k]).2.2.2 0).map (fun j => (S[k], j)) := by
  unfold wrAll
  rw [List.take_add_one, List.getElem?_eq_getElem h, List.flatMap_append]
  simp
theorem not_mem_neg (a : Id) (l : List Id) (h : a ∉ l) : findAt a l 0 < 0 := by
  rcases Int.lt_or_le (findAt a l 0) 0 with h2 | h2
  · exact h2
  · exact absurd ((findAt_pos a l 0 (by omega)).1 h2) h
set_option maxRecDepth 100000 in
set_option maxHeartbeats 40000000 in
theorem premTells_any (u v : Value) (l : List Rc) (S : List Id) (key : ByteArray) (w : World) (hx : Rw w 5 u (recs l)) (hl : ∀ x ∈ l, RcR w x) (hv : Rw w 2 v (idl S)) :
    Calls Try.prog 5 #[u, v, .string key] w fun e w' => e = .returned (.bool true) ∧ Below w.heap.size w w' := by
  have hFew := few15_any u l 14 _ hx hl
  obtain ⟨A, m, c, rfl, hn, hnc, hc⟩ := hx.form
  rw [recs_len] at hn
  obtain rfl : m = l.length := by omega
  clear hn
  obtain ⟨A2, m2, c2, rfl, hn2, hnc2, hc2⟩ := hv.form
  rw [idl_len] at hn2
  obtain rfl : m2 = S.length := by omega
  clear hn2
  have hrd := hx.rd
  have hsd := hv.rd
  have hld : ∀ x ∈ l, RcD (snap w) x := fun x hm => ⟨(hl x hm).d.rd, (hl x hm).b.rd, (hl x hm).ok⟩
  clear hx hl hv
  cases hfew : (fewR l && decide ((l.length : Int) ≤ 14)) with
  | false =>
    rw [hfew] at hFew
    replace hFew := Lib.hid hFew
    replace hld := Lib.hid hld
    clear hfew
    go_enter Try.func5, Try.ntmps5
    go_wp2_with fail
    refine hFew.out.mono ?_
    rintro e w2 ⟨rfl, hb2⟩
    go_wp2_with fail
    refine (works20 _).mono ?_
    rintro e w3 ⟨rfl, hb3⟩
    go_wp2_with fail
    go_ret
    exact ⟨rfl, hb2.trans (hb3.mono hb2.size)⟩
  | true =>
    rw [hfew] at hFew
    have hl14 : l.length ≤ 14 := by
      simp only [Bool.and_eq_true, decide_eq_true_eq] at hfew
      omega
    replace hFew := Lib.hid hFew
    clear hfew
    by_cases hS : S.length ≤ 14
    case neg =>
      have hS1 : 14 < S.length := by omega
      have hS2 : (14 : Int) < (S.length : Int) := by omega
      replace hld := Lib.hid hld
      clear hS
      go_enter Try.func5, Try.ntmps5
      go_wp2_with fail
      refine hFew.out.mono ?_
      rintro e w2 ⟨rfl, hb2⟩
      go_wp2_with fail
      refine (works20 _).mono ?_
      rintro e w3 ⟨rfl, hb3⟩
      go_wp2_with fail
      go_ret
      exact ⟨rfl, hb2.trans (hb3.mono hb2.size)⟩
    case pos =>
    have hS2 : ¬ (14 : Int) < (S.length : Int) := by omega
    have hCk := fun w2 (h2 : St (snap w) [] w2) => refGr_any (.slice A l.length c) l w2 (hrd.rw h2) (fun x hm => (hld x hm).rw h2)
    by_cases hE : gErr [] (l.map rp) = 0
    case neg =>
      have hne : (gErr [] (l.map rp) != 0) = true := by simpa using hE
      generalize gErr [] (l.map rp) = E at *
      replace hCk := Lib.hid hCk
      replace hld := Lib.hid hld
      clear hE
      go_enter Try.func5, Try.ntmps5
      go_wp2_with fail
      refine hFew.out.mono ?_
      rintro e w2 ⟨rfl, hb2⟩
      go_wp2_with fail
      refine (hCk.out _ ((St.start w).below hb2)).mono ?_
      rintro e w3 ⟨rfl, hb3⟩
      go_wp2_with fail
      refine (works20 _).mono ?_
      rintro e w4 ⟨rfl, hb4⟩
      go_wp2_with fail
      go_ret
      exact ⟨rfl, (hb2.trans (hb3.mono hb2.size)).trans (hb4.mono (Nat.le_trans hb2.size hb3.size))⟩
    case pos =>
    rw [hE] at hCk
    have hNw := fun w2 (h2 : St (snap w) [] w2) => newGr_any (.slice A l.length c) l w2 (hrd.rw h2) (fun x hm => (hld x hm).rw h2) (by omega)
    have hRH := fun (H : Hp) (fr : List HA) (hle : Hp.le (snap w) H) w2 (h2 : St H fr w2) => refHolds_any (.slice A l.length c) l w2 ((hrd.mono hle).rw h2) (fun x hm => ((hld x hm).mono hle).rw h2) (by omega)
    replace hCk := Lib.hid hCk
    replace hNw := Lib.hid hNw
    replace hRH := Lib.hid hRH
    replace hld := Lib.hid hld
    replace hE := Lib.hid hE
    go_enter Try.func5, Try.ntmps5
    go_wp2_with fail
    refine hFew.out.mono ?_
    rintro e w2 ⟨rfl, hb2⟩
    have h2 := (St.start w).below hb2
    have en2 := bel_env hb2
    go_wp2_with fail
    refine (hCk.out _ h2).mono ?_
    rintro e w3 ⟨rfl, hb3⟩
    have h3 := h2.below hb3
    have en3 := en2.trans (bel_env hb3)
    clear hFew hCk hb2 hb3 h2 en2
    go_wp2_with fail
    refine (hNw.out _ h3).mono ?_
    intro e w4 he
    obtain ⟨-, p, L, H4, l4, h4, hG, hLm, en4, rfl⟩ := (NewR.ok he (by rw [List.length_map]; omega)).resolve_right (fun h => h.1 hE.out)
    have l4' := St.up h3 l4
    replace en4 := en3.trans en4
    have hgS : Hid (grS L = grS l) := Lib.hid (grS_rp hLm)
    have hrid : Hid (rids L = rids l) := Lib.hid (rids_of_rp hLm)
    replace hLm := Lib.hid hLm
    clear hNw he h3 en3 l4 hE
    go_wp2_with fail
    refine (holds_any p L H4 [] w4 h4 hG).mono ?_
    rintro e w5 ⟨H5, a, b, ok, hr, l5, h5, en5, rfl⟩
    obtain ⟨a0, a1⟩ := a
    obtain ⟨b0, b1⟩ := b
    replace en5 := en4.trans en5
    rw [hgS.out] at hr
    replace hr := Lib.hid hr
    obtain ⟨H6, l6, h6, ya⟩ := h5.box #[.int .i64 a0, .int .i64 a1] 28
    obtain ⟨H7, l7, h7, yb⟩ := h6.box #[.int .i64 b0, .int .i64 b1] 28
    have e1 : (w5.alloc (.cells #[.int .i64 a0, .int .i64 a1] 28)).heap.size = w5.heap.size + 1 := by simp
    rw [e1] at yb
    have en7 := (en5.alloc (.cells #[.int .i64 a0, .int .i64 a1] 28)).alloc (.cells #[.int .i64 b0, .int .i64 b1] 28)
    have ya0 := Hp.cell_le l7 (ya 0 _ rfl)
    have ya1 := Hp.cell_le l7 (ya 1 _ rfl)
    have yb0 := yb 0 _ rfl
    have yb1 := yb 1 _ rfl
    have l7' := Hp.le_trans l4' (Hp.le_trans l5 (Hp.le_trans l6 l7))
    have hG7 := hG.mono (Hp.le_trans l5 (Hp.le_trans l6 l7))
    clear ya yb e1 h4 h5 h6 en4 en5 hgS
    go_wp2_with fail
    generalize (w5.alloc (.cells #[.int .i64 a0, .int .i64 a1] 28)).alloc (.cells #[.int .i64 b0, .int .i64 b1] 28) = W7 at *
    generalize w5.heap.size + 1 = gb at *
    generalize w5.heap.size = ga at *
    refine (hRH.out _ _ l7' _ h7).mono ?_
    rintro e w8 ⟨a', b', ok', hr', rfl, hb8⟩
    rw [hr.out] at hr'
    simp only [Prod.mk.injEq] at hr'
    obtain ⟨rfl, rfl, rfl⟩ := hr'
    have h8 := h7.below hb8
    have en8 := en7.trans (bel_env hb8)
    obtain ⟨H9, l9, h9, xa⟩ := h8.box #[.int .i64 a0, .int .i64 a1] 28
    obtain ⟨H10, l10, h10, xb⟩ := h9.box #[.int .i64 b0, .int .i64 b1] 28
    have e1 : (w8.alloc (.cells #[.int .i64 a0, .int .i64 a1] 28)).heap.size = w8.heap.size + 1 := by simp
    rw [e1] at xb
    have en10 := (en8.alloc (.cells #[.int .i64 a0, .int .i64 a1] 28)).alloc (.cells #[.int .i64 b0, .int .i64 b1] 28)
    have l710 := Hp.le_trans l9 l10
    have s0 := h10.cell (Hp.cell_le l710 ya0)
    have s1 := h10.cell (Hp.cell_le l710 ya1)
    have sl := World.block_lt_of_cell? _ _ s0
    have t0 := h10.cell (Hp.cell_le l710 yb0)
    have t1 := h10.cell (Hp.cell_le l710 yb1)
    have tl := World.block_lt_of_cell? _ _ t0
    have r0 := h10.cell (Hp.cell_le l10 (xa 0 _ rfl))
    have r1 := h10.cell (Hp.cell_le l10 (xa 1 _ rfl))
    have rl := World.block_lt_of_cell? _ _ r0
    have q0 := h10.cell (xb 0 _ rfl)
    have q1 := h10.cell (xb 1 _ rfl)
    have ql := World.block_lt_of_cell? _ _ q0
    have s0' := h8.cell ya0
    have s1' := h8.cell ya1
    have sl' := World.block_lt_of_cell? _ _ s0'
    have t0' := h8.cell yb0
    have t1' := h8.cell yb1
    have tl' := World.block_lt_of_cell? _ _ t0'
    have hia : idEq a0 a1 a0 a1 = true := idEq_of (a := (a0, a1)) rfl
    have hib : idEq b0 b1 b0 b1 = true := idEq_of (a := (b0, b1)) rfl
    have hob : (ok != ok) = false := by simp
    have l10' := Hp.le_trans l7' l710
    have hG10 := hG7.mono l710
    have h11 := h10.row_lit 52 3 0 #[] rfl (by decide)
    have e2 : ((w8.alloc (.cells #[.int .i64 a0, .int .i64 a1] 28)).alloc (.cells #[.int .i64 b0, .int .i64 b1] 28)).heap.size = w8.heap.size + 1 + 1 := by simp
    rw [e2] at h11
    have en11 := en10.alloc (.cells #[] 52)
    clear hRH hr e1 e2 h7 en7 hb8
    go_wp2_with fail
    clear s0 s1 sl t0 t1 tl r0 r1 rl q0 q1 ql s0' s1' sl' t0' t1' tl' hia hib hob xa xb ya0 ya1 yb0 yb1 h8 h9 h10 en8 en10
    generalize ((w8.alloc (.cells #[.int .i64 a0, .int .i64 a1] 28)).alloc (.cells #[.int .i64 b0, .int .i64 b1] 28)).alloc (.cells #[] 52) = W11 at *
    have hrd10 := hrd.mono l10'
    have hsd10 := hsd.mono l10'
    have hld10 : Hid (∀ x ∈ l, RcD H10 x) := Lib.hid (fun x hm => (hld.out x hm).mono l10')
    have hll := Lib.hid (lookR_len hG10)
    go_loopw [15, 16] (fun iv i wr => ∃ (k : Nat) (IT : List It) (H' : Hp), k ≤ S.length ∧ i = .int .i64 (k : Int) ∧ Hp.le H10 H' ∧ St H' (Row 52 3 iv (itl IT) :: GrA p L :: []) wr ∧ Env w wr ∧ Hid (logAll IT key = wrAll (L.map rp) (S.take k) key ∧ (∀ x ∈ IT, ItD H' x ∧ x.2.2.length ≤ 100) ∧ IT.length ≤ k)) (fun _ i _ => S.length - (intOf i).toNat)
    case atStart => exact ⟨0, [], H10, by omega, by go_num, Hp.le_refl _, h11, en11, Lib.hid ⟨rfl, by simp, by simp⟩⟩
    case round =>
      clear h11 en11
      obtain ⟨k, IT, H, hk, rfl, le1, h1, en1, hI⟩ := hrel
      obtain ⟨wo, rfl⟩ : ∃ wo : World, wo = wr := ⟨_, rfl⟩
      by_cases hlt : k < S.length
      · obtain ⟨sb, so, hA, hcs⟩ := rd_at (hsd10.mono le1) (by omega)
        cases hA
        have p0 := hcs _ _ (idl_fst S 0 (by omega))
        have p1 := hcs _ _ (idl_snd S 0 (by omega))
        have q0 := hcs _ _ (idl_fst S k hlt)
        have q1 := hcs _ _ (idl_snd S k hlt)
        rw [Nat.zero_mul, Nat.add_zero] at p0
        rw [Nat.zero_mul, Nat.zero_add] at p1
        rw [← Nat.add_assoc] at q1
        clear hcs
        have hwt := wrAll_take (L.map rp) S key k hlt
        have hfa := fun w' (hh : Rw w' 5 (.slice A l.length c) (recs l)) => find_any (.slice A l.length c) l S[0] w' hh
        have hfb := fun w' (hh : Rw w' 5 (.slice A l.length c) (recs l)) => find_any (.slice A l.length c) l S[k] w' hh
        obtain ⟨ra, hra⟩ : ∃ a, Hid (a = S[0]) := ⟨_, Lib.hid rfl⟩
        rw [← hra.out] at hfa p0 p1
        clear hra
        generalize S[k] = sk at *
        have hEg := fun (fr : List HA) w' (h' : St H (GrA p L :: fr) w') => premEdge_any p L ra sk H fr w' h' (hG10.mono le1)
        have hla := findAt_look ra l 0
        have hlb := findAt_look sk l 0
        have hna := not_mem_neg ra (rids l)
        have hnb := not_mem_neg sk (rids l)
        unfold edgeG at hEg
        rw [pids_rp, hrid.out, hLm.out] at hEg
        rw [hLm.out] at hwt
        have hll8 := (hll.out sk).2
        rw [hLm.out] at hll8
        have hz : sk ∉ rids l → lookR (l.map rp) sk = zeroRp := fun h => lookR_none (by rw [pids_rp]; exact h)
        obtain ⟨ra0, ra1⟩ := ra
        obtain ⟨sk0, sk1⟩ := sk
        try simp only at p0 p1 q0 q1
        have kk : ∀ (Hx : Hp) (l' : List HA) (w' : World), Hp.le H Hx → St Hx l' w' → (fun w' : World => w'.cell? ⟨sb, so, none⟩ = some (.int .i64 ra0) ∧ w'.cell? ⟨sb, so + 1, none⟩ = some (.int .i64 ra1) ∧ w'.cell? ⟨sb, so + k * 2, none⟩ = some (.int .i64 sk0) ∧ w'.cell? ⟨sb, so + k * 2 + 1, none⟩ = some (.int .i64 sk1)) w' := fun Hx l' w' hl h => ⟨h.cell (Hp.cell_le hl p0), h.cell (Hp.cell_le hl p1), h.cell (Hp.cell_le hl q0), h.cell (Hp.cell_le hl q1)⟩
        have hk0 : (0 : Int) ≤ (k : Int) := by omega
        have hkl : (k : Int) < (S.length : Int) := by omega
        have hSpos : (0 : Int) < (S.length : Int) := by omega
        have hSn : 0 < S.length := by omega
        have hD := h1.drew
        have enD := en1.drew
        have hrdH := hrd10.mono le1
        have hldH : Hid (∀ x ∈ l, RcD H x) := Lib.hid (fun x hm => (hld10.out x hm).mono le1)
        obtain ⟨pa, hpa⟩ : ∃ pa, Hid (findAt (ra0, ra1) (rids l) 0 = pa) := ⟨_, Lib.hid rfl⟩
        obtain ⟨qb, hqb⟩ : ∃ qb, Hid (findAt (sk0, sk1) (rids l) 0 = qb) := ⟨_, Lib.hid rfl⟩
        rw [hpa.out] at hfa hna hla
        rw [hqb.out] at hfb hnb hlb
        replace hfa := Lib.hid hfa
        replace hfb := Lib.hid hfb
        replace hEg := Lib.hid hEg
        replace hla := Lib.hid hla
        replace hlb := Lib.hid hlb
        replace hna := Lib.hid hna
        replace hnb := Lib.hid hnb
        replace hwt := Lib.hid hwt
        replace hz := Lib.hid hz
        clear h1 en1 hpa hqb
        go_wp2_with fail
        refine wp_region_held_drew (S := fun w' : World => w'.cell? ⟨sb, so, none⟩ = some (.int .i64 ra0) ∧ w'.cell? ⟨sb, so + 1, none⟩ = some (.int .i64 ra1) ∧ w'.cell? ⟨sb, so + k * 2, none⟩ = some (.int .i64 sk0) ∧ w'.cell? ⟨sb, so + k * 2 + 1, none⟩ = some (.int .i64 sk1)) (by kernel_rfl) (kk _ _ _ (Hp.le_refl _) hD) (fun hHeld => ?_)
        refine wpAnyH_take (i := 0) (oi := { dst := some 74, op := Go.Op.move (Go.Operand.tmp 0), type := 22, pos := "law.go:37", after := #[], guard := none }) (v := ?_) rfl (by kernel_rfl) (by kernel_rfl) (by kernel_rfl) (fun _ _ _ h => h) (Or.inl ⟨by rfl, ?_⟩) (by assumption) ?_
        rotate_left
        · (intro w hSw; (try dsimp only at hSw); go_simp; (try (with_reducible rfl)))
        try simp only [Act.put, List.setIfInBounds_toArray, List.set_cons_zero, List.set_cons_succ]
        refine wpAnyH_take (i := 1) (oi := { dst := some 75, op := Go.Op.move (Go.Operand.tmp 1), type := 29, pos := "law.go:37", after := #[], guard := none }) (v := ?_) rfl (by kernel_rfl) (by kernel_rfl) (by kernel_rfl) (fun _ _ _ h => h) (Or.inl ⟨by rfl, ?_⟩) (by assumption) ?_
        rotate_left
        · (intro w hSw; (try dsimp only at hSw); go_simp; (try (with_reducible rfl)))
        try simp only [Act.put, List.setIfInBounds_toArray, List.set_cons_zero, List.set_cons_succ]
        refine wpAnyH_take (i := 2) (oi := { dst := some 76, op := Go.Op.indexAddr 29 (Go.Operand.tmp 75) (Go.Operand.const (Go.Value.int Go.IntKind.i64 0)), type := 0, pos := "law.go:37", after := #[{ on := 1, ground := Go.Ground.data }], guard := none }) (v := ?_) rfl (by kernel_rfl) (by kernel_rfl) (by kernel_rfl) (fun _ _ _ h => h) (Or.inl ⟨by rfl, ?_⟩) (by assumption) ?_
        rotate_left
        · (intro w hSw; (try dsimp only at hSw); go_simp; (try (with_reducible rfl)))
        try simp only [Act.put, List.setIfInBounds_toArray, List.set_cons_zero, List.set_cons_succ]
        refine wpAnyH_take (i := 3) (oi := { dst := some 77, op := Go.Op.load 28 (Go.Operand.tmp 76), type := 28, pos := "law.go:37", after := #[{ on := 2, ground := Go.Ground.data }], guard := none }) (v := ?_) rfl (by kernel_rfl) (by kernel_rfl) (by kernel_rfl) (fun _ _ _ h => h) (Or.inl ⟨by rfl, ?_⟩) (by assumption) ?_
        rotate_left
        · (intro w hSw; (try dsimp only at hSw); go_simp; (try (with_reducible rfl)))
        try simp only [Act.put, List.setIfInBounds_toArray, List.set_cons_zero, List.set_cons_succ]
        refine wpAnyH_take (i := 5) (oi := { dst := some 79, op := Go.Op.move (Go.Operand.tmp 0), type := 22, pos := "law.go:37", after := #[], guard := none }) (v := ?_) rfl (by kernel_rfl) (by kernel_rfl) (by kernel_rfl) (fun _ _ _ h => h) (Or.inl ⟨by rfl, ?_⟩) (by assumption) ?_
        rotate_left
        · (intro w hSw; (try dsimp only at hSw); go_simp; (try (with_reducible rfl)))
        try simp only [Act.put, List.setIfInBounds_toArray, List.set_cons_zero, List.set_cons_succ]
        refine wpAnyH_take (i := 6) (oi := { dst := some 80, op := Go.Op.move (Go.Operand.tmp 1), type := 29, pos := "law.go:37", after := #[], guard := none }) (v := ?_) rfl (by kernel_rfl) (by kernel_rfl) (by kernel_rfl) (fun _ _ _ h => h) (Or.inl ⟨by rfl, ?_⟩) (by assumption) ?_
        rotate_left
        · (intro w hSw; (try dsimp only at hSw); go_simp; (try (with_reducible rfl)))
        try simp only [Act.put, List.setIfInBounds_toArray, List.set_cons_zero, List.set_cons_succ]
        refine wpAnyH_take (i := 7) (oi := { dst := some 81, op := Go.Op.move (Go.Operand.tmp 16), type := 3, pos := "law.go:37", after := #[], guard := none }) (v := ?_) rfl (by kernel_rfl) (by kernel_rfl) (by kernel_rfl) (fun _ _ _ h => h) (Or.inl ⟨by rfl, ?_⟩) (by assumption) ?_
        rotate_left
        · (intro w hSw; (try dsimp only at hSw); go_simp; (try (with_reducible rfl)))
        try simp only [Act.put, List.setIfInBounds_toArray, List.set_cons_zero, List.set_cons_succ]
        refine wpAnyH_take (i := 8) (oi := { dst := some 82, op := Go.Op.indexAddr 29 (Go.Operand.tmp 80) (Go.Operand.tmp 81), type := 0, pos := "law.go:37", after := #[{ on := 6, ground := Go.Ground.data }, { on := 7, ground := Go.Ground.data }], guard := none }) (v := ?_) rfl (by kernel_rfl) (by kernel_rfl) (by kernel_rfl) (fun _ _ _ h => h) (Or.inl ⟨by rfl, ?_⟩) (by assumption) ?_
        rotate_left
        · (intro w hSw; (try dsimp only at hSw); go_simp; (try (with_reducible rfl)))
        try simp only [Act.put, List.setIfInBounds_toArray, List.set_cons_zero, List.set_cons_succ]
        refine wpAnyH_take (i := 9) (oi := { dst := some 83, op := Go.Op.load 28 (Go.Operand.tmp 82), type := 28, pos := "law.go:37", after := #[{ on := 8, ground := Go.Ground.data }], guard := none }) (v := ?_) rfl (by kernel_rfl) (by kernel_rfl) (by kernel_rfl) (fun _ _ _ h => h) (Or.inl ⟨by rfl, ?_⟩) (by assumption) ?_
        rotate_left
        · (intro w hSw; (try dsimp only at hSw); go_simp; (try (with_reducible rfl)))
        try simp only [Act.put, List.setIfInBounds_toArray, List.set_cons_zero, List.set_cons_succ]
        refine wpAnyH_ready (rs := [4]) (by kernel_rfl) (by simp) ?_
        refine AllReadyH.cons (o := { dst := some 78, op := Go.Op.call { callee := Go.Callee.value (Go.Operand.func 24), args := #[Go.Operand.tmp 74, Go.Operand.tmp 77], argTypes := #[22, 28] }, type := 3, pos := "law.go:37", after := #[{ on := 0, ground := Go.Ground.data }, { on := 3, ground := Go.Ground.data }], guard := none }) rfl (fun K hK => ?_) AllReadyH.nil
        go_simp
        refine (hfa.out _ (hrdH.rw hD)).mono ?_
        rintro e w12 ⟨rfl, hb12⟩
        replace hD := hD.below hb12
        replace enD := enD.trans (bel_env hb12)
        refine hK.out _ _ (kk _ _ _ (Hp.le_refl _) hD) (fun hHeld2 => ?_)
        clear hK K hHeld
        try simp only [Act.put, List.setIfInBounds_toArray, List.set_cons_zero, List.set_cons_succ]
        refine wpAnyH_ready (rs := [10]) (by kernel_rfl) (by simp) ?_
        refine AllReadyH.cons (o := { dst := some 84, op := Go.Op.call { callee := Go.Callee.value (Go.Operand.func 24), args := #[Go.Operand.tmp 79, Go.Operand.tmp 83], argTypes := #[22, 28] }, type := 3, pos := "law.go:37", after := #[{ on := 5, ground := Go.Ground.data }, { on := 9, ground := Go.Ground.data }, { on := 4, ground := Go.Ground.chain }], guard := none }) rfl (fun K hK => ?_) AllReadyH.nil
        go_simp
        refine (hfb.out _ (hrdH.rw hD)).mono ?_
        rintro e w13 ⟨rfl, hb13⟩
        replace hD := hD.below hb13
        replace enD := enD.trans (bel_env hb13)
        refine hK.out _ _ (kk _ _ _ (Hp.le_refl _) hD) (fun hHeld => ?_)
        clear hK K hHeld2
        try simp only [Act.put, List.setIfInBounds_toArray, List.set_cons_zero, List.set_cons_succ]
        refine wpAnyH_take (i := 11) (oi := { dst := some 17, op := Go.Op.assign (Go.Operand.tmp 78), type := 3, pos := "law.go:37", after := #[{ on := 4, ground := Go.Ground.data }, { on := 10, ground := Go.Ground.chain }, { on := 0, ground := Go.Ground.phase }, { on := 1, ground := Go.Ground.phase }, { on := 2, ground := Go.Ground.phase }, { on := 3, ground := Go.Ground.phase }, { on := 4, ground := Go.Ground.phase }, { on := 5, ground := Go.Ground.textOnly Go.Departure.lateStores }, { on := 6, ground := Go.Ground.textOnly Go.Departure.lateStores }, { on := 7, ground := Go.Ground.textOnly Go.Departure.lateStores }, { on := 8, ground := Go.Ground.textOnly Go.Departure.lateStores }, { on := 9, ground := Go.Ground.textOnly Go.Departure.lateStores }, { on := 10, ground := Go.Ground.textOnly Go.Departure.lateStoresUnsure }], guard := none }) (v := ?_) rfl (by kernel_rfl) (by kernel_rfl) (by kernel_rfl) (fun _ _ _ h => h) (Or.inl ⟨by rfl, ?_⟩) (by assumption) ?_
        rotate_left
        · (intro w hSw; (try dsimp only at hSw); go_simp; (try (with_reducible rfl)))
        try simp only [Act.put, List.setIfInBounds_toArray, List.set_cons_zero, List.set_cons_succ]
        refine wpAnyH_take (i := 12) (oi := { dst := some 18, op := Go.Op.assign (Go.Operand.tmp 84), type := 3, pos := "law.go:37", after := #[{ on := 10, ground := Go.Ground.data }, { on := 11, ground := Go.Ground.chain }, { on := 0, ground := Go.Ground.phase }, { on := 1, ground := Go.Ground.phase }, { on := 2, ground := Go.Ground.phase }, { on := 3, ground := Go.Ground.phase }, { on := 4, ground := Go.Ground.phase }, { on := 5, ground := Go.Ground.phase }, { on := 6, ground := Go.Ground.phase }, { on := 7, ground := Go.Ground.phase }, { on := 8, ground := Go.Ground.phase }, { on := 9, ground := Go.Ground.phase }, { on := 10, ground := Go.Ground.phase }, { on := 11, ground := Go.Ground.phase }], guard := none }) (v := ?_) rfl (by kernel_rfl) (by kernel_rfl) (by kernel_rfl) (fun _ _ _ h => h) (Or.inl ⟨by rfl, ?_⟩) (by assumption) ?_
        rotate_left
        · (intro w hSw; (try dsimp only at hSw); go_simp; (try (with_reducible rfl)))
        try simp only [Act.put, List.setIfInBounds_toArray, List.set_cons_zero, List.set_cons_succ]
        refine wpAnyH_done (by kernel_rfl) ?_ _
        clear hHeld hfa hfb
        by_cases ha : ((ra0, ra1) : Id) ∈ rids l
        case neg =>
          have hpn : decide (0 ≤ pa) = false := decide_eq_false (by have := hna.out ha; omega)
          have hE2 := hEg.out
          rw [decide_eq_false ha, Bool.false_and] at hE2
          replace hEg := Lib.hid hE2
          clear hE2
          by_cases hb : ((sk0, sk1) : Id) ∈ rids l
          case neg =>
            go_wp2_with fail
            refine wp_region_held_drew (S := (fun w' : World => w'.cell? ⟨sb, so, none⟩ = some (.int .i64 ra0) ∧ w'.cell? ⟨sb, so + 1, none⟩ = some (.int .i64 ra1) ∧ w'.cell? ⟨sb, so + k * 2, none⟩ = some (.int .i64 sk0) ∧ w'.cell? ⟨sb, so + k * 2 + 1, none⟩ = some (.int .i64 sk1))) (by kernel_rfl) (kk _ _ _ (Hp.le_refl _) hD.drew) (fun hHeld => ?_)
            refine wpAnyH_take (i := 0) (oi := { dst := some 85, op := Go.Op.move (Go.Operand.tmp 7), type := 33, pos := "law.go:38", after := #[], guard := none }) (v := ?_) rfl (by kernel_rfl) (by kernel_rfl) (by kernel_rfl) (fun _ _ _ h => h) (Or.inl ⟨by rfl, ?_⟩) (by assumption) ?_
            rotate_left
            · (intro w hSw; (try dsimp only at hSw); go_simp; (try (with_reducible rfl)))
            try simp only [Act.put, List.setIfInBounds_toArray, List.set_cons_zero, List.set_cons_succ]
            refine wpAnyH_take (i := 1) (oi := { dst := some 86, op := Go.Op.move (Go.Operand.tmp 1), type := 29, pos := "law.go:38", after := #[], guard := none }) (v := ?_) rfl (by kernel_rfl) (by kernel_rfl) (by kernel_rfl) (fun _ _ _ h => h) (Or.inl ⟨by rfl, ?_⟩) (by assumption) ?_
            rotate_left
            · (intro w hSw; (try dsimp only at hSw); go_simp; (try (with_reducible rfl)))
            try simp only [Act.put, List.setIfInBounds_toArray, List.set_cons_zero, List.set_cons_succ]
            refine wpAnyH_take (i := 2) (oi := { dst := some 87, op := Go.Op.indexAddr 29 (Go.Operand.tmp 86) (Go.Operand.const (Go.Value.int Go.IntKind.i64 0)), type := 0, pos := "law.go:38", after := #[{ on := 1, ground := Go.Ground.data }], guard := none }) (v := ?_) rfl (by kernel_rfl) (by kernel_rfl) (by kernel_rfl) (fun _ _ _ h => h) (Or.inl ⟨by rfl, ?_⟩) (by assumption) ?_
            rotate_left
            · (intro w hSw; (try dsimp only at hSw); go_simp; (try (with_reducible rfl)))
            try simp only [Act.put, List.setIfInBounds_toArray, List.set_cons_zero, List.set_cons_succ]
            refine wpAnyH_take (i := 3) (oi := { dst := some 88, op := Go.Op.load 28 (Go.Operand.tmp 87), type := 28, pos := "law.go:38", after := #[{ on := 2, ground := Go.Ground.data }], guard := none }) (v := ?_) rfl (by kernel_rfl) (by kernel_rfl) (by kernel_rfl) (fun _ _ _ h => h) (Or.inl ⟨by rfl, ?_⟩) (by assumption) ?_
            rotate_left
            · (intro w hSw; (try dsimp only at hSw); go_simp; (try (with_reducible rfl)))
            try simp only [Act.put, List.setIfInBounds_toArray, List.set_cons_zero, List.set_cons_succ]
            refine wpAnyH_take (i := 4) (oi := { dst := some 89, op := Go.Op.move (Go.Operand.tmp 1), type := 29, pos := "law.go:38", after := #[], guard := none }) (v := ?_) rfl (by kernel_rfl) (by kernel_rfl) (by kernel_rfl) (fun _ _ _ h => h) (Or.inl ⟨by rfl, ?_⟩) (by assumption) ?_
            rotate_left
            · (intro w hSw; (try dsimp only at hSw); go_simp; (try (with_reducible rfl)))
            try simp only [Act.put, List.setIfInBounds_toArray, List.set_cons_zero, List.set_cons_succ]
            refine wpAnyH_take (i := 5) (oi := { dst := some 90, op := Go.Op.move (Go.Operand.tmp 16), type := 3, pos := "law.go:38", after := #[], guard := none }) (v := ?_) rfl (by kernel_rfl) (by kernel_rfl) (by kernel_rfl) (fun _ _ _ h => h) (Or.inl ⟨by rfl, ?_⟩) (by assumption) ?_
            rotate_left
            · (intro w hSw; (try dsimp only at hSw); go_simp; (try (with_reducible rfl)))
            try simp only [Act.put, List.setIfInBounds_toArray, List.set_cons_zero, List.set_cons_succ]
            refine wpAnyH_take (i := 6) (oi := { dst := some 91, op := Go.Op.indexAddr 29 (Go.Operand.tmp 89) (Go.Operand.tmp 90), type := 0, pos := "law.go:38", after := #[{ on := 4, ground := Go.Ground.data }, { on := 5, ground := Go.Ground.data }], guard := none }) (v := ?_) rfl (by kernel_rfl) (by kernel_rfl) (by kernel_rfl) (fun _ _ _ h => h) (Or.inl ⟨by rfl, ?_⟩) (by assumption) ?_
            rotate_left
            · (intro w hSw; (try dsimp only at hSw); go_simp; (try (with_reducible rfl)))
            try simp only [Act.put, List.setIfInBounds_toArray, List.set_cons_zero, List.set_cons_succ]
            refine wpAnyH_take (i := 7) (oi := { dst := some 92, op := Go.Op.load 28 (Go.Operand.tmp 91), type := 28, pos := "law.go:38", after := #[{ on := 6, ground := Go.Ground.data }], guard := none }) (v := ?_) rfl (by kernel_rfl) (by kernel_rfl) (by kernel_rfl) (fun _ _ _ h => h) (Or.inl ⟨by rfl, ?_⟩) (by assumption) ?_
            rotate_left
            · (intro w hSw; (try dsimp only at hSw); go_simp; (try (with_reducible rfl)))
            try simp only [Act.put, List.setIfInBounds_toArray, List.set_cons_zero, List.set_cons_succ]
            refine wpAnyH_take (i := 9) (oi := { dst := some 94, op := Go.Op.move (Go.Operand.tmp 17), type := 3, pos := "law.go:38", after := #[], guard := none }) (v := ?_) rfl (by kernel_rfl) (by kernel_rfl) (by kernel_rfl) (fun _ _ _ h => h) (Or.inl ⟨by rfl, ?_⟩) (by assumption) ?_
            rotate_left
            · (intro w hSw; (try dsimp only at hSw); go_simp; (try (with_reducible rfl)))
            try simp only [Act.put, List.setIfInBounds_toArray, List.set_cons_zero, List.set_cons_succ]
            refine wpAnyH_take (i := 10) (oi := { dst := some 95, op := Go.Op.binOp Go.BinOp.geq 3 (Go.Operand.tmp 94) (Go.Operand.const (Go.Value.int Go.IntKind.i64 0)) 3, type := 4, pos := "law.go:38", after := #[{ on := 9, ground := Go.Ground.data }], guard := none }) (v := ?_) rfl (by kernel_rfl) (by kernel_rfl) (by kernel_rfl) (fun _ _ _ h => h) (Or.inl ⟨by rfl, ?_⟩) (by assumption) ?_
            rotate_left
            · (intro w hSw; (try dsimp only at hSw); go_simp; (try (with_reducible rfl)))
            try simp only [Act.put, List.setIfInBounds_toArray, List.set_cons_zero, List.set_cons_succ]
            refine wpAnyH_ready (rs := [8]) (by kernel_rfl) (by simp) ?_
            refine AllReadyH.cons (o := { dst := some 93, op := Go.Op.call { callee := Go.Callee.value (Go.Operand.func 25), args := #[Go.Operand.tmp 85, Go.Operand.tmp 88, Go.Operand.tmp 92], argTypes := #[33, 28, 28] }, type := 4, pos := "law.go:38", after := #[{ on := 0, ground := Go.Ground.data }, { on := 3, ground := Go.Ground.data }, { on := 7, ground := Go.Ground.data }], guard := none }) rfl (fun K hK => ?_) AllReadyH.nil
            go_simp
            refine (hEg.out _ _ hD.drew.swap).mono ?_
            rintro e w14 ⟨H2, le2, h2, en2, rfl⟩
            replace en2 := enD.drew.trans en2
            refine hK.out _ _ (kk _ _ _ le2 h2) (fun hHeld2 => ?_)
            clear hK K hHeld
            try simp only [Act.put, List.setIfInBounds_toArray, List.set_cons_zero, List.set_cons_succ]
            refine wpAnyH_take (i := 11) (oi := { dst := some 96, op := Go.Op.move (Go.Operand.tmp 95), type := 4, pos := "law.go:38", after := #[{ on := 10, ground := Go.Ground.data }, { on := 8, ground := Go.Ground.chain }], guard := none }) (v := ?_) rfl (by kernel_rfl) (by kernel_rfl) (by kernel_rfl) (fun _ _ _ h => h) (Or.inl ⟨by rfl, ?_⟩) (by assumption) ?_
            rotate_left
            · (intro w hSw; (try dsimp only at hSw); go_simp; (try (with_reducible rfl)))
            try simp only [Act.put, List.setIfInBounds_toArray, List.set_cons_zero, List.set_cons_succ]
            refine wpAnyH_take (i := 12) (oi := { dst := some 97, op := Go.Op.move (Go.Operand.tmp 18), type := 3, pos := "law.go:38", after := #[{ on := 11, ground := Go.Ground.guard }], guard := some (11, true) }) (v := undef) rfl (by kernel_rfl) (by kernel_rfl) (by kernel_rfl) (fun _ _ _ h => h) (Or.inr ⟨by rfl, rfl⟩) (by assumption) ?_
            try simp only [Act.put, List.setIfInBounds_toArray, List.set_cons_zero, List.set_cons_succ]
            refine wpAnyH_take (i := 13) (oi := { dst := some 98, op := Go.Op.binOp Go.BinOp.geq 3 (Go.Operand.tmp 97) (Go.Operand.const (Go.Value.int Go.IntKind.i64 0)) 3, type := 4, pos := "law.go:38", after := #[{ on := 12, ground := Go.Ground.data }, { on := 11, ground := Go.Ground.guard }], guard := some (11, true) }) (v := undef) rfl (by kernel_rfl) (by kernel_rfl) (by kernel_rfl) (fun _ _ _ h => h) (Or.inr ⟨by rfl, rfl⟩) (by assumption) ?_
            try simp only [Act.put, List.setIfInBounds_toArray, List.set_cons_zero, List.set_cons_succ]
            refine wpAnyH_take (i := 14) (oi := { dst := some 99, op := Go.Op.pick (Go.Operand.tmp 96) (Go.Operand.tmp 98) (Go.Operand.const (Go.Value.bool false)), type := 4, pos := "law.go:38", after := #[{ on := 11, ground := Go.Ground.data }, { on := 13, ground := Go.Ground.data }], guard := none }) (v := ?_) rfl (by kernel_rfl) (by kernel_rfl) (by kernel_rfl) (fun _ _ _ h => h) (Or.inl ⟨by rfl, ?_⟩) (by assumption) ?_
            rotate_left
            · (intro w hSw; (try dsimp only at hSw); go_simp; (try (with_reducible rfl)))
            try simp only [Act.put, List.setIfInBounds_toArray, List.set_cons_zero, List.set_cons_succ]
            refine wpAnyH_take (i := 15) (oi := { dst := some 100, op := Go.Op.move (Go.Operand.tmp 99), type := 4, pos := "law.go:38", after := #[{ on := 14, ground := Go.Ground.data }, { on := 11, ground := Go.Ground.chain }], guard := none }) (v := ?_) rfl (by kernel_rfl) (by kernel_rfl) (by kernel_rfl) (fun _ _ _ h => h) (Or.inl ⟨by rfl, ?_⟩) (by assumption) ?_
            rotate_left
            · (intro w hSw; (try dsimp only at hSw); go_simp; (try (with_reducible rfl)))
            try simp only [Act.put, List.setIfInBounds_toArray, List.set_cons_zero, List.set_cons_succ]
            refine wpAnyH_take (i := 16) (oi := { dst := some 101, op := Go.Op.move (Go.Operand.tmp 0), type := 22, pos := "law.go:38", after := #[{ on := 15, ground := Go.Ground.guard }], guard := some (15, true) }) (v := undef) rfl (by kernel_rfl) (by kernel_rfl) (by kernel_rfl) (fun _ _ _ h => h) (Or.inr ⟨by rfl, rfl⟩) (by assumption) ?_
            try simp only [Act.put, List.setIfInBounds_toArray, List.set_cons_zero, List.set_cons_succ]
            refine wpAnyH_take (i := 17) (oi := { dst := some 102, op := Go.Op.move (Go.Operand.tmp 17), type := 3, pos := "law.go:38", after := #[{ on := 15, ground := Go.Ground.guard }], guard := some (15, true) }) (v := undef) rfl (by kernel_rfl) (by kernel_rfl) (by kernel_rfl) (fun _ _ _ h => h) (Or.inr ⟨by rfl, rfl⟩) (by assumption) ?_
            try simp only [Act.put, List.setIfInBounds_toArray, List.set_cons_zero, List.set_cons_succ]
            refine wpAnyH_take (i := 18) (oi := { dst := some 103, op := Go.Op.indexAddr 22 (Go.Operand.tmp 101) (Go.Operand.tmp 102), type := 0, pos := "law.go:38", after := #[{ on := 16, ground := Go.Ground.data }, { on := 17, ground := Go.Ground.data }, { on := 15, ground := Go.Ground.guard }], guard := some (15, true) }) (v := undef) rfl (by kernel_rfl) (by kernel_rfl) (by kernel_rfl) (fun _ _ _ h => h) (Or.inr ⟨by rfl, rfl⟩) (by assumption) ?_
            try simp only [Act.put, List.setIfInBounds_toArray, List.set_cons_zero, List.set_cons_succ]
            refine wpAnyH_take (i := 19) (oi := { dst := some 104, op := Go.Op.load 32 (Go.Operand.tmp 103), type := 32, pos := "law.go:38", after := #[{ on := 18, ground := Go.Ground.data }, { on := 15, ground := Go.Ground.guard }], guard := some (15, true) }) (v := undef) rfl (by kernel_rfl) (by kernel_rfl) (by kernel_rfl) (fun _ _ _ h => h) (Or.inr ⟨by rfl, rfl⟩) (by assumption) ?_
            try simp only [Act.put, List.setIfInBounds_toArray, List.set_cons_zero, List.set_cons_succ]
            refine wpAnyH_take (i := 20) (oi := { dst := some 105, op := Go.Op.move (Go.Operand.tmp 0), type := 22, pos := "law.go:38", after := #[{ on := 15, ground := Go.Ground.guard }], guard := some (15, true) }) (v := undef) rfl (by kernel_rfl) (by kernel_rfl) (by kernel_rfl) (fun _ _ _ h => h) (Or.inr ⟨by rfl, rfl⟩) (by assumption) ?_
            try simp only [Act.put, List.setIfInBounds_toArray, List.set_cons_zero, List.set_cons_succ]
            refine wpAnyH_take (i := 21) (oi := { dst := some 106, op := Go.Op.move (Go.Operand.tmp 18), type := 3, pos := "law.go:38", after := #[{ on := 15, ground := Go.Ground.guard }], guard := some (15, true) }) (v := undef) rfl (by kernel_rfl) (by kernel_rfl) (by kernel_rfl) (fun _ _ _ h => h) (Or.inr ⟨by rfl, rfl⟩) (by assumption) ?_
            try simp only [Act.put, List.setIfInBounds_toArray, List.set_cons_zero, List.set_cons_succ]
            refine wpAnyH_take (i := 22) (oi := { dst := some 107, op := Go.Op.indexAddr 22 (Go.Operand.tmp 105) (Go.Operand.tmp 106), type := 0, pos := "law.go:38", after := #[{ on := 20, ground := Go.Ground.data }, { on := 21, ground := Go.Ground.data }, { on := 15, ground := Go.Ground.guard }], guard := some (15, true) }) (v := undef) rfl (by kernel_rfl) (by kernel_rfl) (by kernel_rfl) (fun _ _ _ h => h) (Or.inr ⟨by rfl, rfl⟩) (by assumption) ?_
            try simp only [Act.put, List.setIfInBounds_toArray, List.set_cons_zero, List.set_cons_succ]
            refine wpAnyH_take (i := 23) (oi := { dst := some 108, op := Go.Op.load 32 (Go.Operand.tmp 107), type := 32, pos := "law.go:38", after := #[{ on := 22, ground := Go.Ground.data }, { on := 15, ground := Go.Ground.guard }], guard := some (15, true) }) (v := undef) rfl (by kernel_rfl) (by kernel_rfl) (by kernel_rfl) (fun _ _ _ h => h) (Or.inr ⟨by rfl, rfl⟩) (by assumption) ?_
            try simp only [Act.put, List.setIfInBounds_toArray, List.set_cons_zero, List.set_cons_succ]
            refine wpAnyH_take (i := 24) (oi := { dst := some 109, op := Go.Op.call { callee := Go.Callee.value (Go.Operand.func 26), args := #[Go.Operand.tmp 104, Go.Operand.tmp 108], argTypes := #[32, 32] }, type := 4, pos := "law.go:38", after := #[{ on := 19, ground := Go.Ground.data }, { on := 23, ground := Go.Ground.data }, { on := 15, ground := Go.Ground.chain }, { on := 15, ground := Go.Ground.guard }], guard := some (15, true) }) (v := undef) rfl (by kernel_rfl) (by kernel_rfl) (by kernel_rfl) (fun _ _ _ h => h) (Or.inr ⟨by rfl, rfl⟩) (by assumption) ?_
            try simp only [Act.put, List.setIfInBounds_toArray, List.set_cons_zero, List.set_cons_succ]
            refine wpAnyH_take (i := 25) (oi := { dst := some 110, op := Go.Op.pick (Go.Operand.tmp 100) (Go.Operand.tmp 109) (Go.Operand.const (Go.Value.bool false)), type := 4, pos := "law.go:38", after := #[{ on := 15, ground := Go.Ground.data }, { on := 24, ground := Go.Ground.data }], guard := none }) (v := ?_) rfl (by kernel_rfl) (by kernel_rfl) (by kernel_rfl) (fun _ _ _ h => h) (Or.inl ⟨by rfl, ?_⟩) (by assumption) ?_
            rotate_left
            · (intro w hSw; (try dsimp only at hSw); go_simp; (try (with_reducible rfl)))
            try simp only [Act.put, List.setIfInBounds_toArray, List.set_cons_zero, List.set_cons_succ]
            refine wpAnyH_take (i := 26) (oi := { dst := some 111, op := Go.Op.binOp Go.BinOp.neq 4 (Go.Operand.tmp 93) (Go.Operand.tmp 110) 4, type := 4, pos := "law.go:38", after := #[{ on := 8, ground := Go.Ground.data }, { on := 25, ground := Go.Ground.data }], guard := none }) (v := ?_) rfl (by kernel_rfl) (by kernel_rfl) (by kernel_rfl) (fun _ _ _ h => h) (Or.inl ⟨by rfl, ?_⟩) (by assumption) ?_
            rotate_left
            · (intro w hSw; (try dsimp only at hSw); go_simp; (try (with_reducible rfl)))
            try simp only [Act.put, List.setIfInBounds_toArray, List.set_cons_zero, List.set_cons_succ]
            refine wpAnyH_done (by kernel_rfl) ?_ _
            clear hHeld2
            clear hpn
            have hIT : Hid (logAll IT key = wrAll (L.map rp) (S.take (k + 1)) key ∧ (∀ x ∈ IT, ItD H2 x ∧ x.2.2.length ≤ 100) ∧ IT.length ≤ k + 1) := Lib.hid ⟨by rw [hLm.out, hwt.out, hz.out hb, hI.out.1, hLm.out]; simp [wrF], fun x hx => ⟨⟨(hI.out.2.1 x hx).1.b.mono le2, (hI.out.2.1 x hx).1.ok⟩, (hI.out.2.1 x hx).2⟩, by have := hI.out.2.2; omega⟩
            have hqn : ¬ 0 ≤ qb := by have := hnb.out hb; omega
            clear hk0 hkl hSpos hSn
            go_wp2_with fail
            go_roundw
            case rel => exact ⟨k + 1, IT, H2, by omega, by go_num, Hp.le_trans le1 le2, h2.swap, en2, hIT⟩
            case measure => simp [intOf]; omega
          case pos =>
            obtain ⟨j, hj, hje, hj1, hjl⟩ := hlb.out hb
            obtain rfl : qb = (j : Int) := by omega
            clear hlb hnb hje
            go_wp2_with fail
            refine wp_region_held_drew (S := (fun w' : World => w'.cell? ⟨sb, so, none⟩ = some (.int .i64 ra0) ∧ w'.cell? ⟨sb, so + 1, none⟩ = some (.int .i64 ra1) ∧ w'.cell? ⟨sb, so + k * 2, none⟩ = some (.int .i64 sk0) ∧ w'.cell? ⟨sb, so + k * 2 + 1, none⟩ = some (.int .i64 sk1))) (by kernel_rfl) (kk _ _ _ (Hp.le_refl _) hD.drew) (fun hHeld => ?_)
            refine wpAnyH_take (i := 0) (oi := { dst := some 85, op := Go.Op.move (Go.Operand.tmp 7), type := 33, pos := "law.go:38", after := #[], guard := none }) (v := ?_) rfl (by kernel_rfl) (by kernel_rfl) (by kernel_rfl) (fun _ _ _ h => h) (Or.inl ⟨by rfl, ?_⟩) (by assumption) ?_
            rotate_left
            · (intro w hSw; (try dsimp only at hSw); go_simp; (try (with_reducible rfl)))
            try simp only [Act.put, List.setIfInBounds_toArray, List.set_cons_zero, List.set_cons_succ]
            refine wpAnyH_take (i := 1) (oi := { dst := some 86, op := Go.Op.move (Go.Operand.tmp 1), type := 29, pos := "law.go:38", after := #[], guard := none }) (v := ?_) rfl (by kernel_rfl) (by kernel_rfl) (by kernel_rfl) (fun _ _ _ h => h) (Or.inl ⟨by rfl, ?_⟩) (by assumption) ?_
            rotate_left
            · (intro w hSw; (try dsimp only at hSw); go_simp; (try (with_reducible rfl)))
            try simp only [Act.put, List.setIfInBounds_toArray, List.set_cons_zero, List.set_cons_succ]
            refine wpAnyH_take (i := 2) (oi := { dst := some 87, op := Go.Op.indexAddr 29 (Go.Operand.tmp 86) (Go.Operand.const (Go.Value.int Go.IntKind.i64 0)), type := 0, pos := "law.go:38", after := #[{ on := 1, ground := Go.Ground.data }], guard := none }) (v := ?_) rfl (by kernel_rfl) (by kernel_rfl) (by kernel_rfl) (fun _ _ _ h => h) (Or.inl ⟨by rfl, ?_⟩) (by assumption) ?_
            rotate_left
            · (intro w hSw; (try dsimp only at hSw); go_simp; (try (with_reducible rfl)))
            try simp only [Act.put, List.setIfInBounds_toArray, List.set_cons_zero, List.set_cons_succ]
            refine wpAnyH_take (i := 3) (oi := { dst := some 88, op := Go.Op.load 28 (Go.Operand.tmp 87), type := 28, pos := "law.go:38", after := #[{ on := 2, ground := Go.Ground.data }], guard := none }) (v := ?_) rfl (by kernel_rfl) (by kernel_rfl) (by kernel_rfl) (fun _ _ _ h => h) (Or.inl ⟨by rfl, ?_⟩) (by assumption) ?_
            rotate_left
            · (intro w hSw; (try dsimp only at hSw); go_simp; (try (with_reducible rfl)))
            try simp only [Act.put, List.setIfInBounds_toArray, List.set_cons_zero, List.set_cons_succ]
            refine wpAnyH_take (i := 4) (oi := { dst := some 89, op := Go.Op.move (Go.Operand.tmp 1), type := 29, pos := "law.go:38", after := #[], guard := none }) (v := ?_) rfl (by kernel_rfl) (by kernel_rfl) (by kernel_rfl) (fun _ _ _ h => h) (Or.inl ⟨by rfl, ?_⟩) (by assumption) ?_
            rotate_left
            · (intro w hSw; (try dsimp only at hSw); go_simp; (try (with_reducible rfl)))
            try simp only [Act.put, List.setIfInBounds_toArray, List.set_cons_zero, List.set_cons_succ]
            refine wpAnyH_take (i := 5) (oi := { dst := some 90, op := Go.Op.move (Go.Operand.tmp 16), type := 3, pos := "law.go:38", after := #[], guard := none }) (v := ?_) rfl (by kernel_rfl) (by kernel_rfl) (by kernel_rfl) (fun _ _ _ h => h) (Or.inl ⟨by rfl, ?_⟩) (by assumption) ?_
            rotate_left
            · (intro w hSw; (try dsimp only at hSw); go_simp; (try (with_reducible rfl)))
            try simp only [Act.put, List.setIfInBounds_toArray, List.set_cons_zero, List.set_cons_succ]
            refine wpAnyH_take (i := 6) (oi := { dst := some 91, op := Go.Op.indexAddr 29 (Go.Operand.tmp 89) (Go.Operand.tmp 90), type := 0, pos := "law.go:38", after := #[{ on := 4, ground := Go.Ground.data }, { on := 5, ground := Go.Ground.data }], guard := none }) (v := ?_) rfl (by kernel_rfl) (by kernel_rfl) (by kernel_rfl) (fun _ _ _ h => h) (Or.inl ⟨by rfl, ?_⟩) (by assumption) ?_
            rotate_left
            · (intro w hSw; (try dsimp only at hSw); go_simp; (try (with_reducible rfl)))
            try simp only [Act.put, List.setIfInBounds_toArray, List.set_cons_zero, List.set_cons_succ]
            refine wpAnyH_take (i := 7) (oi := { dst := some 92, op := Go.Op.load 28 (Go.Operand.tmp 91), type := 28, pos := "law.go:38", after := #[{ on := 6, ground := Go.Ground.data }], guard := none }) (v := ?_) rfl (by kernel_rfl) (by kernel_rfl) (by kernel_rfl) (fun _ _ _ h => h) (Or.inl ⟨by rfl, ?_⟩) (by assumption) ?_
            rotate_left
            · (intro w hSw; (try dsimp only at hSw); go_simp; (try (with_reducible rfl)))
            try simp only [Act.put, List.setIfInBounds_toArray, List.set_cons_zero, List.set_cons_succ]
            refine wpAnyH_take (i := 9) (oi := { dst := some 94, op := Go.Op.move (Go.Operand.tmp 17), type := 3, pos := "law.go:38", after := #[], guard := none }) (v := ?_) rfl (by kernel_rfl) (by kernel_rfl) (by kernel_rfl) (fun _ _ _ h => h) (Or.inl ⟨by rfl, ?_⟩) (by assumption) ?_
            rotate_left
            · (intro w hSw; (try dsimp only at hSw); go_simp; (try (with_reducible rfl)))
            try simp only [Act.put, List.setIfInBounds_toArray, List.set_cons_zero, List.set_cons_succ]
            refine wpAnyH_take (i := 10) (oi := { dst := some 95, op := Go.Op.binOp Go.BinOp.geq 3 (Go.Operand.tmp 94) (Go.Operand.const (Go.Value.int Go.IntKind.i64 0)) 3, type := 4, pos := "law.go:38", after := #[{ on := 9, ground := Go.Ground.data }], guard := none }) (v := ?_) rfl (by kernel_rfl) (by kernel_rfl) (by kernel_rfl) (fun _ _ _ h => h) (Or.inl ⟨by rfl, ?_⟩) (by assumption) ?_
            rotate_left
            · (intro w hSw; (try dsimp only at hSw); go_simp; (try (with_reducible rfl)))
            try simp only [Act.put, List.setIfInBounds_toArray, List.set_cons_zero, List.set_cons_succ]
            refine wpAnyH_ready (rs := [8]) (by kernel_rfl) (by simp) ?_
            refine AllReadyH.cons (o := { dst := some 93, op := Go.Op.call { callee := Go.Callee.value (Go.Operand.func 25), args := #[Go.Operand.tmp 85, Go.Operand.tmp 88, Go.Operand.tmp 92], argTypes := #[33, 28, 28] }, type := 4, pos := "law.go:38", after := #[{ on := 0, ground := Go.Ground.data }, { on := 3, ground := Go.Ground.data }, { on := 7, ground := Go.Ground.data }], guard := none }) rfl (fun K hK => ?_) AllReadyH.nil
            go_simp
            refine (hEg.out _ _ hD.drew.swap).mono ?_
            rintro e w14 ⟨H2, le2, h2, en2, rfl⟩
            replace en2 := enD.drew.trans en2
            refine hK.out _ _ (kk _ _ _ le2 h2) (fun hHeld2 => ?_)
            clear hK K hHeld
            try simp only [Act.put, List.setIfInBounds_toArray, List.set_cons_zero, List.set_cons_succ]
            refine wpAnyH_take (i := 11) (oi := { dst := some 96, op := Go.Op.move (Go.Operand.tmp 95), type := 4, pos := "law.go:38", after := #[{ on := 10, ground := Go.Ground.data }, { on := 8, ground := Go.Ground.chain }], guard := none }) (v := ?_) rfl (by kernel_rfl) (by kernel_rfl) (by kernel_rfl) (fun _ _ _ h => h) (Or.inl ⟨by rfl, ?_⟩) (by assumption) ?_
            rotate_left
            · (intro w hSw; (try dsimp only at hSw); go_simp; (try (with_reducible rfl)))
            try simp only [Act.put, List.setIfInBounds_toArray, List.set_cons_zero, List.set_cons_succ]
            refine wpAnyH_take (i := 12) (oi := { dst := some 97, op := Go.Op.move (Go.Operand.tmp 18), type := 3, pos := "law.go:38", after := #[{ on := 11, ground := Go.Ground.guard }], guard := some (11, true) }) (v := undef) rfl (by kernel_rfl) (by kernel_rfl) (by kernel_rfl) (fun _ _ _ h => h) (Or.inr ⟨by rfl, rfl⟩) (by assumption) ?_
            try simp only [Act.put, List.setIfInBounds_toArray, List.set_cons_zero, List.set_cons_succ]
            refine wpAnyH_take (i := 13) (oi := { dst := some 98, op := Go.Op.binOp Go.BinOp.geq 3 (Go.Operand.tmp 97) (Go.Operand.const (Go.Value.int Go.IntKind.i64 0)) 3, type := 4, pos := "law.go:38", after := #[{ on := 12, ground := Go.Ground.data }, { on := 11, ground := Go.Ground.guard }], guard := some (11, true) }) (v := undef) rfl (by kernel_rfl) (by kernel_rfl) (by kernel_rfl) (fun _ _ _ h => h) (Or.inr ⟨by rfl, rfl⟩) (by assumption) ?_
            try simp only [Act.put, List.setIfInBounds_toArray, List.set_cons_zero, List.set_cons_succ]
            refine wpAnyH_take (i := 14) (oi := { dst := some 99, op := Go.Op.pick (Go.Operand.tmp 96) (Go.Operand.tmp 98) (Go.Operand.const (Go.Value.bool false)), type := 4, pos := "law.go:38", after := #[{ on := 11, ground := Go.Ground.data }, { on := 13, ground := Go.Ground.data }], guard := none }) (v := ?_) rfl (by kernel_rfl) (by kernel_rfl) (by kernel_rfl) (fun _ _ _ h => h) (Or.inl ⟨by rfl, ?_⟩) (by assumption) ?_
            rotate_left
            · (intro w hSw; (try dsimp only at hSw); go_simp; (try (with_reducible rfl)))
            try simp only [Act.put, List.setIfInBounds_toArray, List.set_cons_zero, List.set_cons_succ]
            refine wpAnyH_take (i := 15) (oi := { dst := some 100, op := Go.Op.move (Go.Operand.tmp 99), type := 4, pos := "law.go:38", after := #[{ on := 14, ground := Go.Ground.data }, { on := 11, ground := Go.Ground.chain }], guard := none }) (v := ?_) rfl (by kernel_rfl) (by kernel_rfl) (by kernel_rfl) (fun _ _ _ h => h) (Or.inl ⟨by rfl, ?_⟩) (by assumption) ?_
            rotate_left
            · (intro w hSw; (try dsimp only at hSw); go_simp; (try (with_reducible rfl)))
            try simp only [Act.put, List.setIfInBounds_toArray, List.set_cons_zero, List.set_cons_succ]
            refine wpAnyH_take (i := 16) (oi := { dst := some 101, op := Go.Op.move (Go.Operand.tmp 0), type := 22, pos := "law.go:38", after := #[{ on := 15, ground := Go.Ground.guard }], guard := some (15, true) }) (v := undef) rfl (by kernel_rfl) (by kernel_rfl) (by kernel_rfl) (fun _ _ _ h => h) (Or.inr ⟨by rfl, rfl⟩) (by assumption) ?_
            try simp only [Act.put, List.setIfInBounds_toArray, List.set_cons_zero, List.set_cons_succ]
            refine wpAnyH_take (i := 17) (oi := { dst := some 102, op := Go.Op.move (Go.Operand.tmp 17), type := 3, pos := "law.go:38", after := #[{ on := 15, ground := Go.Ground.guard }], guard := some (15, true) }) (v := undef) rfl (by kernel_rfl) (by kernel_rfl) (by kernel_rfl) (fun _ _ _ h => h) (Or.inr ⟨by rfl, rfl⟩) (by assumption) ?_
            try simp only [Act.put, List.setIfInBounds_toArray, List.set_cons_zero, List.set_cons_succ]
            refine wpAnyH_take (i := 18) (oi := { dst := some 103, op := Go.Op.indexAddr 22 (Go.Operand.tmp 101) (Go.Operand.tmp 102), type := 0, pos := "law.go:38", after := #[{ on := 16, ground := Go.Ground.data }, { on := 17, ground := Go.Ground.data }, { on := 15, ground := Go.Ground.guard }], guard := some (15, true) }) (v := undef) rfl (by kernel_rfl) (by kernel_rfl) (by kernel_rfl) (fun _ _ _ h => h) (Or.inr ⟨by rfl, rfl⟩) (by assumption) ?_
            try simp only [Act.put, List.setIfInBounds_toArray, List.set_cons_zero, List.set_cons_succ]
            refine wpAnyH_take (i := 19) (oi := { dst := some 104, op := Go.Op.load 32 (Go.Operand.tmp 103), type := 32, pos := "law.go:38", after := #[{ on := 18, ground := Go.Ground.data }, { on := 15, ground := Go.Ground.guard }], guard := some (15, true) }) (v := undef) rfl (by kernel_rfl) (by kernel_rfl) (by kernel_rfl) (fun _ _ _ h => h) (Or.inr ⟨by rfl, rfl⟩) (by assumption) ?_
            try simp only [Act.put, List.setIfInBounds_toArray, List.set_cons_zero, List.set_cons_succ]
            refine wpAnyH_take (i := 20) (oi := { dst := some 105, op := Go.Op.move (Go.Operand.tmp 0), type := 22, pos := "law.go:38", after := #[{ on := 15, ground := Go.Ground.guard }], guard := some (15, true) }) (v := undef) rfl (by kernel_rfl) (by kernel_rfl) (by kernel_rfl) (fun _ _ _ h => h) (Or.inr ⟨by rfl, rfl⟩) (by assumption) ?_
            try simp only [Act.put, List.setIfInBounds_toArray, List.set_cons_zero, List.set_cons_succ]
            refine wpAnyH_take (i := 21) (oi := { dst := some 106, op := Go.Op.move (Go.Operand.tmp 18), type := 3, pos := "law.go:38", after := #[{ on := 15, ground := Go.Ground.guard }], guard := some (15, true) }) (v := undef) rfl (by kernel_rfl) (by kernel_rfl) (by kernel_rfl) (fun _ _ _ h => h) (Or.inr ⟨by rfl, rfl⟩) (by assumption) ?_
            try simp only [Act.put, List.setIfInBounds_toArray, List.set_cons_zero, List.set_cons_succ]
            refine wpAnyH_take (i := 22) (oi := { dst := some 107, op := Go.Op.indexAddr 22 (Go.Operand.tmp 105) (Go.Operand.tmp 106), type := 0, pos := "law.go:38", after := #[{ on := 20, ground := Go.Ground.data }, { on := 21, ground := Go.Ground.data }, { on := 15, ground := Go.Ground.guard }], guard := some (15, true) }) (v := undef) rfl (by kernel_rfl) (by kernel_rfl) (by kernel_rfl) (fun _ _ _ h => h) (Or.inr ⟨by rfl, rfl⟩) (by assumption) ?_
            try simp only [Act.put, List.setIfInBounds_toArray, List.set_cons_zero, List.set_cons_succ]
            refine wpAnyH_take (i := 23) (oi := { dst := some 108, op := Go.Op.load 32 (Go.Operand.tmp 107), type := 32, pos := "law.go:38", after := #[{ on := 22, ground := Go.Ground.data }, { on := 15, ground := Go.Ground.guard }], guard := some (15, true) }) (v := undef) rfl (by kernel_rfl) (by kernel_rfl) (by kernel_rfl) (fun _ _ _ h => h) (Or.inr ⟨by rfl, rfl⟩) (by assumption) ?_
            try simp only [Act.put, List.setIfInBounds_toArray, List.set_cons_zero, List.set_cons_succ]
            refine wpAnyH_take (i := 24) (oi := { dst := some 109, op := Go.Op.call { callee := Go.Callee.value (Go.Operand.func 26), args := #[Go.Operand.tmp 104, Go.Operand.tmp 108], argTypes := #[32, 32] }, type := 4, pos := "law.go:38", after := #[{ on := 19, ground := Go.Ground.data }, { on := 23, ground := Go.Ground.data }, { on := 15, ground := Go.Ground.chain }, { on := 15, ground := Go.Ground.guard }], guard := some (15, true) }) (v := undef) rfl (by kernel_rfl) (by kernel_rfl) (by kernel_rfl) (fun _ _ _ h => h) (Or.inr ⟨by rfl, rfl⟩) (by assumption) ?_
            try simp only [Act.put, List.setIfInBounds_toArray, List.set_cons_zero, List.set_cons_succ]
            refine wpAnyH_take (i := 25) (oi := { dst := some 110, op := Go.Op.pick (Go.Operand.tmp 100) (Go.Operand.tmp 109) (Go.Operand.const (Go.Value.bool false)), type := 4, pos := "law.go:38", after := #[{ on := 15, ground := Go.Ground.data }, { on := 24, ground := Go.Ground.data }], guard := none }) (v := ?_) rfl (by kernel_rfl) (by kernel_rfl) (by kernel_rfl) (fun _ _ _ h => h) (Or.inl ⟨by rfl, ?_⟩) (by assumption) ?_
            rotate_left
            · (intro w hSw; (try dsimp only at hSw); go_simp; (try (with_reducible rfl)))
            try simp only [Act.put, List.setIfInBounds_toArray, List.set_cons_zero, List.set_cons_succ]
            refine wpAnyH_take (i := 26) (oi := { dst := some 111, op := Go.Op.binOp Go.BinOp.neq 4 (Go.Operand.tmp 93) (Go.Operand.tmp 110) 4, type := 4, pos := "law.go:38", after := #[{ on := 8, ground := Go.Ground.data }, { on := 25, ground := Go.Ground.data }], guard := none }) (v := ?_) rfl (by kernel_rfl) (by kernel_rfl) (by kernel_rfl) (fun _ _ _ h => h) (Or.inl ⟨by rfl, ?_⟩) (by assumption) ?_
            rotate_left
            · (intro w hSw; (try dsimp only at hSw); go_simp; (try (with_reducible rfl)))
            try simp only [Act.put, List.setIfInBounds_toArray, List.set_cons_zero, List.set_cons_succ]
            refine wpAnyH_done (by kernel_rfl) ?_ _
            clear hHeld2
            clear hpn
            have hjt : (0 : Int) ≤ (j : Int) := by omega
            obtain ⟨lb, lo, hA, hcl⟩ := rd_at (hrdH.mono le2) (by omega)
            cases hA
            have g4 := hcl _ _ (recs_get l j hj).2.2.2.2
            rw [← Nat.add_assoc] at g4
            clear hcl
            have hyD := (hldH.out l[j] (List.getElem_mem hj)).mono le2
            have hwt2 := hwt.out
            rw [← hjl] at hwt2 hll8
            generalize l[j] = y at *
            obtain ⟨f1, f2, f3, hfv, _⟩ := hyD.b.form
            obtain ⟨yi, yq, yd, yb, yD, yB⟩ := y
            try simp only at hfv g4 hwt2 hll8
            subst hfv
            have hIT : Hid (logAll (IT ++ [((sk0, sk1), Value.slice f1 f2 f3, yB)]) key = wrAll (L.map rp) (S.take (k + 1)) key ∧ (∀ x ∈ IT ++ [((sk0, sk1), Value.slice f1 f2 f3, yB)], ItD H2 x ∧ x.2.2.length ≤ 100) ∧ (IT ++ [((sk0, sk1), Value.slice f1 f2 f3, yB)]).length ≤ k + 1) := Lib.hid ⟨by rw [logAll_snoc, hI.out.1, hLm.out, hwt2], fun x hx => by
              rcases List.mem_append.1 hx with hx | hx
              · exact ⟨⟨(hI.out.2.1 x hx).1.b.mono le2, (hI.out.2.1 x hx).1.ok⟩, (hI.out.2.1 x hx).2⟩
              · obtain rfl := List.mem_singleton.1 hx
                exact ⟨⟨hyD.b, hyD.ok⟩, by simp only; omega⟩, by have := hI.out.2.2; simp; omega⟩
            have hITl : IT.length ≤ k := hI.out.2.2
            have k16 : ∀ (l' : List HA) (w' : World), St H2 l' w' → (fun w' : World => w'.cell? ⟨sb, so + k * 2, none⟩ = some (.int .i64 sk0) ∧ w'.cell? ⟨sb, so + k * 2 + 1, none⟩ = some (.int .i64 sk1) ∧ w'.cell? ⟨lb, lo + j * 5 + 4, none⟩ = some (.slice f1 f2 f3)) w' := fun l' w' h => ⟨h.cell (Hp.cell_le le2 q0), h.cell (Hp.cell_le le2 q1), h.cell g4⟩
            have hj0 : (0 : Int) ≤ (j : Int) := by omega
            have hjl2 : (j : Int) < (l.length : Int) := by omega
            have hrow := h2.swap
            replace hyD := Lib.hid hyD
            clear hwt2 hI
            go_wp2_with fail
            refine wp_region_held_drew (S := (fun w' : World => w'.cell? ⟨sb, so + k * 2, none⟩ = some (.int .i64 sk0) ∧ w'.cell? ⟨sb, so + k * 2 + 1, none⟩ = some (.int .i64 sk1) ∧ w'.cell? ⟨lb, lo + j * 5 + 4, none⟩ = some (.slice f1 f2 f3))) (by kernel_rfl) (k16 _ _ h2.drew) (fun hHeld => ?_)
            refine wpAnyH_take (i := 0) (oi := { dst := some 114, op := Go.Op.move (Go.Operand.tmp 15), type := 48, pos := "law.go:42", after := #[], guard := none }) (v := ?_) rfl (by kernel_rfl) (by kernel_rfl) (by kernel_rfl) (fun _ _ _ h => h) (Or.inl ⟨by rfl, ?_⟩) (by assumption) ?_
            rotate_left
            · (intro w hSw; (try dsimp only at hSw); go_simp; (try (with_reducible rfl)))
            try simp only [Act.put, List.setIfInBounds_toArray, List.set_cons_zero, List.set_cons_succ]
            refine wpAnyH_take (i := 1) (oi := { dst := some 115, op := Go.Op.move (Go.Operand.tmp 1), type := 29, pos := "law.go:42", after := #[], guard := none }) (v := ?_) rfl (by kernel_rfl) (by kernel_rfl) (by kernel_rfl) (fun _ _ _ h => h) (Or.inl ⟨by rfl, ?_⟩) (by assumption) ?_
            rotate_left
            · (intro w hSw; (try dsimp only at hSw); go_simp; (try (with_reducible rfl)))
            try simp only [Act.put, List.setIfInBounds_toArray, List.set_cons_zero, List.set_cons_succ]
            refine wpAnyH_take (i := 2) (oi := { dst := some 116, op := Go.Op.move (Go.Operand.tmp 16), type := 3, pos := "law.go:42", after := #[], guard := none }) (v := ?_) rfl (by kernel_rfl) (by kernel_rfl) (by kernel_rfl) (fun _ _ _ h => h) (Or.inl ⟨by rfl, ?_⟩) (by assumption) ?_
            rotate_left
            · (intro w hSw; (try dsimp only at hSw); go_simp; (try (with_reducible rfl)))
            try simp only [Act.put, List.setIfInBounds_toArray, List.set_cons_zero, List.set_cons_succ]
            refine wpAnyH_take (i := 3) (oi := { dst := some 117, op := Go.Op.indexAddr 29 (Go.Operand.tmp 115) (Go.Operand.tmp 116), type := 0, pos := "law.go:42", after := #[{ on := 1, ground := Go.Ground.data }, { on := 2, ground := Go.Ground.data }], guard := none }) (v := ?_) rfl (by kernel_rfl) (by kernel_rfl) (by kernel_rfl) (fun _ _ _ h => h) (Or.inl ⟨by rfl, ?_⟩) (by assumption) ?_
            rotate_left
            · (intro w hSw; (try dsimp only at hSw); go_simp; (try (with_reducible rfl)))
            try simp only [Act.put, List.setIfInBounds_toArray, List.set_cons_zero, List.set_cons_succ]
            refine wpAnyH_take (i := 4) (oi := { dst := some 118, op := Go.Op.load 28 (Go.Operand.tmp 117), type := 28, pos := "law.go:42", after := #[{ on := 3, ground := Go.Ground.data }], guard := none }) (v := ?_) rfl (by kernel_rfl) (by kernel_rfl) (by kernel_rfl) (fun _ _ _ h => h) (Or.inl ⟨by rfl, ?_⟩) (by assumption) ?_
            rotate_left
            · (intro w hSw; (try dsimp only at hSw); go_simp; (try (with_reducible rfl)))
            try simp only [Act.put, List.setIfInBounds_toArray, List.set_cons_zero, List.set_cons_succ]
            refine wpAnyH_take (i := 5) (oi := { dst := some 119, op := Go.Op.move (Go.Operand.tmp 0), type := 22, pos := "law.go:42", after := #[], guard := none }) (v := ?_) rfl (by kernel_rfl) (by kernel_rfl) (by kernel_rfl) (fun _ _ _ h => h) (Or.inl ⟨by rfl, ?_⟩) (by assumption) ?_
            rotate_left
            · (intro w hSw; (try dsimp only at hSw); go_simp; (try (with_reducible rfl)))
            try simp only [Act.put, List.setIfInBounds_toArray, List.set_cons_zero, List.set_cons_succ]
            refine wpAnyH_take (i := 6) (oi := { dst := some 120, op := Go.Op.move (Go.Operand.tmp 18), type := 3, pos := "law.go:42", after := #[], guard := none }) (v := ?_) rfl (by kernel_rfl) (by kernel_rfl) (by kernel_rfl) (fun _ _ _ h => h) (Or.inl ⟨by rfl, ?_⟩) (by assumption) ?_
            rotate_left
            · (intro w hSw; (try dsimp only at hSw); go_simp; (try (with_reducible rfl)))
            try simp only [Act.put, List.setIfInBounds_toArray, List.set_cons_zero, List.set_cons_succ]
            refine wpAnyH_take (i := 7) (oi := { dst := some 121, op := Go.Op.indexAddr 22 (Go.Operand.tmp 119) (Go.Operand.tmp 120), type := 0, pos := "law.go:42", after := #[{ on := 5, ground := Go.Ground.data }, { on := 6, ground := Go.Ground.data }], guard := none }) (v := ?_) rfl (by kernel_rfl) (by kernel_rfl) (by kernel_rfl) (fun _ _ _ h => h) (Or.inl ⟨by rfl, ?_⟩) (by assumption) ?_
            rotate_left
            · (intro w hSw; (try dsimp only at hSw); go_simp; (try (with_reducible rfl)))
            try simp only [Act.put, List.setIfInBounds_toArray, List.set_cons_zero, List.set_cons_succ]
            refine wpAnyH_take (i := 8) (oi := { dst := some 122, op := Go.Op.fieldAddr 32 (Go.Operand.tmp 121) 3, type := 0, pos := "law.go:42", after := #[{ on := 7, ground := Go.Ground.data }], guard := none }) (v := ?_) rfl (by kernel_rfl) (by kernel_rfl) (by kernel_rfl) (fun _ _ _ h => h) (Or.inl ⟨by rfl, ?_⟩) (by assumption) ?_
            rotate_left
            · (intro w hSw; (try dsimp only at hSw); go_simp; (try (with_reducible rfl)))
            try simp only [Act.put, List.setIfInBounds_toArray, List.set_cons_zero, List.set_cons_succ]
            refine wpAnyH_take (i := 9) (oi := { dst := some 123, op := Go.Op.load 30 (Go.Operand.tmp 122), type := 30, pos := "law.go:42", after := #[{ on := 8, ground := Go.Ground.data }], guard := none }) (v := ?_) rfl (by kernel_rfl) (by kernel_rfl) (by kernel_rfl) (fun _ _ _ h => h) (Or.inl ⟨by rfl, ?_⟩) (by assumption) ?_
            rotate_left
            · (intro w hSw; (try dsimp only at hSw); go_simp; (try (with_reducible rfl)))
            try simp only [Act.put, List.setIfInBounds_toArray, List.set_cons_zero, List.set_cons_succ]
            refine wpAnyH_take (i := 10) (oi := { dst := some 124, op := Go.Op.build 52 #[(0, Go.Operand.tmp 118), (1, Go.Operand.tmp 123)], type := 52, pos := "law.go:42", after := #[{ on := 4, ground := Go.Ground.data }, { on := 9, ground := Go.Ground.data }], guard := none }) (v := ?_) rfl (by kernel_rfl) (by kernel_rfl) (by kernel_rfl) (fun _ _ _ h => h) (Or.inl ⟨by rfl, ?_⟩) (by assumption) ?_
            rotate_left
            · (intro w hSw; (try dsimp only at hSw); go_simp; (try (with_reducible rfl)))
            try simp only [Act.put, List.setIfInBounds_toArray, List.set_cons_zero, List.set_cons_succ]
            refine wpAnyH_ready (rs := [11]) (by kernel_rfl) (by simp) ?_
            refine AllReadyH.cons (o := { dst := some 125, op := Go.Op.buildSlice 48 1 #[(0, Go.Operand.tmp 124)], type := 48, pos := "law.go:42", after := #[{ on := 10, ground := Go.Ground.data }], guard := none }) rfl (fun K hK => ?_) AllReadyH.nil
            go_simp
            refine hK.out _ _ (k16 _ _ (h2.drew.alloc _)) (fun hHeld2 => ?_)
            clear hK K hHeld
            obtain ⟨v', w9, hrun, h9, en9⟩ := (hrow.drew.alloc (.cells #[.int .i64 sk0, .int .i64 sk1, .slice f1 f2 f3] 52)).append_run 48 48 48 (.agg #[.int .i64 0, .int .i64 0, .slice none 0 0]) 40 Try.underlying48 (.inl ⟨_, Try.underlying48⟩) info_it rfl (by decide) (news_at (P := Try.prog) _ 52 1 #[.int .i64 sk0, .int .i64 sk1, .slice f1 f2 f3] rfl (by simp [Value.oneCell']) rfl) (by rw [itl_len]; simp; omega) (by decide)
            try simp only [Act.put, List.setIfInBounds_toArray, List.set_cons_zero, List.set_cons_succ]
            refine wpAnyH_ready (rs := [12]) (by kernel_rfl) (by simp) ?_
            refine AllReadyH.cons (o := { dst := some 126, op := Go.Op.call { callee := Go.Callee.builtin Go.Builtin.append, args := #[Go.Operand.tmp 114, Go.Operand.tmp 125], argTypes := #[48, 48] }, type := 48, pos := "law.go:42", after := #[{ on := 0, ground := Go.Ground.data }, { on := 11, ground := Go.Ground.data }], guard := none }) rfl (fun K hK => ?_) AllReadyH.nil
            rw [if_pos (by rfl)]
            refine oper_append_at (.tmp 114) (.tmp 125) 48 48 48 hrun rfl rfl rfl rfl ?_
            refine hK.out _ _ (k16 _ _ h9) (fun hHeld3 => ?_)
            clear hK K hHeld2
            try simp only [Act.put, List.setIfInBounds_toArray, List.set_cons_zero, List.set_cons_succ]
            refine wpAnyH_take (i := 13) (oi := { dst := some 15, op := Go.Op.assign (Go.Operand.tmp 126), type := 48, pos := "law.go:42", after := #[{ on := 12, ground := Go.Ground.data }, { on := 12, ground := Go.Ground.chain }, { on := 0, ground := Go.Ground.phase }, { on := 1, ground := Go.Ground.phase }, { on := 2, ground := Go.Ground.phase }, { on := 3, ground := Go.Ground.phase }, { on := 4, ground := Go.Ground.phase }, { on := 5, ground := Go.Ground.phase }, { on := 6, ground := Go.Ground.phase }, { on := 7, ground := Go.Ground.phase }, { on := 8, ground := Go.Ground.phase }, { on := 9, ground := Go.Ground.phase }, { on := 10, ground := Go.Ground.phase }, { on := 11, ground := Go.Ground.phase }, { on := 12, ground := Go.Ground.phase }], guard := none }) (v := ?_) rfl (by kernel_rfl) (by kernel_rfl) (by kernel_rfl) (fun _ _ _ h => h) (Or.inl ⟨by rfl, ?_⟩) (by assumption) ?_
            rotate_left
            · (intro w hSw; (try dsimp only at hSw); go_simp; (try (with_reducible rfl)))
            try simp only [Act.put, List.setIfInBounds_toArray, List.set_cons_zero, List.set_cons_succ]
            refine wpAnyH_done (by kernel_rfl) ?_ _
            clear hHeld3 hrun hj0 hjl2 hk0 hkl hSpos hSn
            go_wp2_with fail
            go_roundw
            case rel => exact ⟨k + 1, IT ++ [((sk0, sk1), Value.slice f1 f2 f3, yB)], H2, by omega, by go_num, Hp.le_trans le1 le2, by rw [itl_append]; exact h9, ((en2.drew.alloc _).trans en9), hIT⟩
            case measure => simp [intOf]; omega
        case pos =>
          obtain ⟨i, hi, hie, hi1, hil⟩ := hla.out ha
          obtain rfl : pa = (i : Int) := by omega
          clear hla hna hie
          by_cases hb : ((sk0, sk1) : Id) ∈ rids l
          case neg =>
            have hpt : decide ((0 : Int) ≤ (i : Int)) = true := decide_eq_true (by omega)
            have hqn' : decide (0 ≤ qb) = false := decide_eq_false (by have := hnb.out hb; omega)
            have hE2 := hEg.out
            rw [decide_eq_false hb, Bool.false_and, Bool.and_false] at hE2
            replace hEg := Lib.hid hE2
            clear hE2
            go_wp2_with fail
            refine wp_region_held_drew (S := (fun w' : World => w'.cell? ⟨sb, so, none⟩ = some (.int .i64 ra0) ∧ w'.cell? ⟨sb, so + 1, none⟩ = some (.int .i64 ra1) ∧ w'.cell? ⟨sb, so + k * 2, none⟩ = some (.int .i64 sk0) ∧ w'.cell? ⟨sb, so + k * 2 + 1, none⟩ = some (.int .i64 sk1))) (by kernel_rfl) (kk _ _ _ (Hp.le_refl _) hD.drew) (fun hHeld => ?_)
            refine wpAnyH_take (i := 0) (oi := { dst := some 85, op := Go.Op.move (Go.Operand.tmp 7), type := 33, pos := "law.go:38", after := #[], guard := none }) (v := ?_) rfl (by kernel_rfl) (by kernel_rfl) (by kernel_rfl) (fun _ _ _ h => h) (Or.inl ⟨by rfl, ?_⟩) (by assumption) ?_
            rotate_left
            · (intro w hSw; (try dsimp only at hSw); go_simp; (try (with_reducible rfl)))
            try simp only [Act.put, List.setIfInBounds_toArray, List.set_cons_zero, List.set_cons_succ]
            refine wpAnyH_take (i := 1) (oi := { dst := some 86, op := Go.Op.move (Go.Operand.tmp 1), type := 29, pos := "law.go:38", after := #[], guard := none }) (v := ?_) rfl (by kernel_rfl) (by kernel_rfl) (by kernel_rfl) (fun _ _ _ h => h) (Or.inl ⟨by rfl, ?_⟩) (by assumption) ?_
            rotate_left
            · (intro w hSw; (try dsimp only at hSw); go_simp; (try (with_reducible rfl)))
            try simp only [Act.put, List.setIfInBounds_toArray, List.set_cons_zero, List.set_cons_succ]
            refine wpAnyH_take (i := 2) (oi := { dst := some 87, op := Go.Op.indexAddr 29 (Go.Operand.tmp 86) (Go.Operand.const (Go.Value.int Go.IntKind.i64 0)), type := 0, pos := "law.go:38", after := #[{ on := 1, ground := Go.Ground.data }], guard := none }) (v := ?_) rfl (by kernel_rfl) (by kernel_rfl) (by kernel_rfl) (fun _ _ _ h => h) (Or.inl ⟨by rfl, ?_⟩) (by assumption) ?_
            rotate_left
            · (intro w hSw; (try dsimp only at hSw); go_simp; (try (with_reducible rfl)))
            try simp only [Act.put, List.setIfInBounds_toArray, List.set_cons_zero, List.set_cons_succ]
            refine wpAnyH_take (i := 3) (oi := { dst := some 88, op := Go.Op.load 28 (Go.Operand.tmp 87), type := 28, pos := "law.go:38", after := #[{ on := 2, ground := Go.Ground.data }], guard := none }) (v := ?_) rfl (by kernel_rfl) (by kernel_rfl) (by kernel_rfl) (fun _ _ _ h => h) (Or.inl ⟨by rfl, ?_⟩) (by assumption) ?_
            rotate_left
            · (intro w hSw; (try dsimp only at hSw); go_simp; (try (with_reducible rfl)))
            try simp only [Act.put, List.setIfInBounds_toArray, List.set_cons_zero, List.set_cons_succ]
            refine wpAnyH_take (i := 4) (oi := { dst := some 89, op := Go.Op.move (Go.Operand.tmp 1), type := 29, pos := "law.go:38", after := #[], guard := none }) (v := ?_) rfl (by kernel_rfl) (by kernel_rfl) (by kernel_rfl) (fun _ _ _ h => h) (Or.inl ⟨by rfl, ?_⟩) (by assumption) ?_
            rotate_left
            · (intro w hSw; (try dsimp only at hSw); go_simp; (try (with_reducible rfl)))
            try simp only [Act.put, List.setIfInBounds_toArray, List.set_cons_zero, List.set_cons_succ]
            refine wpAnyH_take (i := 5) (oi := { dst := some 90, op := Go.Op.move (Go.Operand.tmp 16), type := 3, pos := "law.go:38", after := #[], guard := none }) (v := ?_) rfl (by kernel_rfl) (by kernel_rfl) (by kernel_rfl) (fun _ _ _ h => h) (Or.inl ⟨by rfl, ?_⟩) (by assumption) ?_
            rotate_left
            · (intro w hSw; (try dsimp only at hSw); go_simp; (try (with_reducible rfl)))
            try simp only [Act.put, List.setIfInBounds_toArray, List.set_cons_zero, List.set_cons_succ]
            refine wpAnyH_take (i := 6) (oi := { dst := some 91, op := Go.Op.indexAddr 29 (Go.Operand.tmp 89) (Go.Operand.tmp 90), type := 0, pos := "law.go:38", after := #[{ on := 4, ground := Go.Ground.data }, { on := 5, ground := Go.Ground.data }], guard := none }) (v := ?_) rfl (by kernel_rfl) (by kernel_rfl) (by kernel_rfl) (fun _ _ _ h => h) (Or.inl ⟨by rfl, ?_⟩) (by assumption) ?_
            rotate_left
            · (intro w hSw; (try dsimp only at hSw); go_simp; (try (with_reducible rfl)))
            try simp only [Act.put, List.setIfInBounds_toArray, List.set_cons_zero, List.set_cons_succ]
            refine wpAnyH_take (i := 7) (oi := { dst := some 92, op := Go.Op.load 28 (Go.Operand.tmp 91), type := 28, pos := "law.go:38", after := #[{ on := 6, ground := Go.Ground.data }], guard := none }) (v := ?_) rfl (by kernel_rfl) (by kernel_rfl) (by kernel_rfl) (fun _ _ _ h => h) (Or.inl ⟨by rfl, ?_⟩) (by assumption) ?_
            rotate_left
            · (intro w hSw; (try dsimp only at hSw); go_simp; (try (with_reducible rfl)))
            try simp only [Act.put, List.setIfInBounds_toArray, List.set_cons_zero, List.set_cons_succ]
            refine wpAnyH_take (i := 9) (oi := { dst := some 94, op := Go.Op.move (Go.Operand.tmp 17), type := 3, pos := "law.go:38", after := #[], guard := none }) (v := ?_) rfl (by kernel_rfl) (by kernel_rfl) (by kernel_rfl) (fun _ _ _ h => h) (Or.inl ⟨by rfl, ?_⟩) (by assumption) ?_
            rotate_left
            · (intro w hSw; (try dsimp only at hSw); go_simp; (try (with_reducible rfl)))
            try simp only [Act.put, List.setIfInBounds_toArray, List.set_cons_zero, List.set_cons_succ]
            refine wpAnyH_take (i := 10) (oi := { dst := some 95, op := Go.Op.binOp Go.BinOp.geq 3 (Go.Operand.tmp 94) (Go.Operand.const (Go.Value.int Go.IntKind.i64 0)) 3, type := 4, pos := "law.go:38", after := #[{ on := 9, ground := Go.Ground.data }], guard := none }) (v := ?_) rfl (by kernel_rfl) (by kernel_rfl) (by kernel_rfl) (fun _ _ _ h => h) (Or.inl ⟨by rfl, ?_⟩) (by assumption) ?_
            rotate_left
            · (intro w hSw; (try dsimp only at hSw); go_simp; (try (with_reducible rfl)))
            try simp only [Act.put, List.setIfInBounds_toArray, List.set_cons_zero, List.set_cons_succ]
            refine wpAnyH_ready (rs := [8]) (by kernel_rfl) (by simp) ?_
            refine AllReadyH.cons (o := { dst := some 93, op := Go.Op.call { callee := Go.Callee.value (Go.Operand.func 25), args := #[Go.Operand.tmp 85, Go.Operand.tmp 88, Go.Operand.tmp 92], argTypes := #[33, 28, 28] }, type := 4, pos := "law.go:38", after := #[{ on := 0, ground := Go.Ground.data }, { on := 3, ground := Go.Ground.data }, { on := 7, ground := Go.Ground.data }], guard := none }) rfl (fun K hK => ?_) AllReadyH.nil
            go_simp
            refine (hEg.out _ _ hD.drew.swap).mono ?_
            rintro e w14 ⟨H2, le2, h2, en2, rfl⟩
            replace en2 := enD.drew.trans en2
            refine hK.out _ _ (kk _ _ _ le2 h2) (fun hHeld2 => ?_)
            clear hK K hHeld
            try simp only [Act.put, List.setIfInBounds_toArray, List.set_cons_zero, List.set_cons_succ]
            refine wpAnyH_take (i := 11) (oi := { dst := some 96, op := Go.Op.move (Go.Operand.tmp 95), type := 4, pos := "law.go:38", after := #[{ on := 10, ground := Go.Ground.data }, { on := 8, ground := Go.Ground.chain }], guard := none }) (v := ?_) rfl (by kernel_rfl) (by kernel_rfl) (by kernel_rfl) (fun _ _ _ h => h) (Or.inl ⟨by rfl, ?_⟩) (by assumption) ?_
            rotate_left
            · (intro w hSw; (try dsimp only at hSw); go_simp; (try (with_reducible rfl)))
            try simp only [Act.put, List.setIfInBounds_toArray, List.set_cons_zero, List.set_cons_succ]
            refine wpAnyH_take (i := 12) (oi := { dst := some 97, op := Go.Op.move (Go.Operand.tmp 18), type := 3, pos := "law.go:38", after := #[{ on := 11, ground := Go.Ground.guard }], guard := some (11, true) }) (v := ?_) rfl (by kernel_rfl) (by kernel_rfl) (by kernel_rfl) (fun _ _ _ h => h) (Or.inl ⟨by rfl, ?_⟩) (by assumption) ?_
            rotate_left
            · (intro w hSw; (try dsimp only at hSw); go_simp; (try (with_reducible rfl)))
            try simp only [Act.put, List.setIfInBounds_toArray, List.set_cons_zero, List.set_cons_succ]
            refine wpAnyH_take (i := 13) (oi := { dst := some 98, op := Go.Op.binOp Go.BinOp.geq 3 (Go.Operand.tmp 97) (Go.Operand.const (Go.Value.int Go.IntKind.i64 0)) 3, type := 4, pos := "law.go:38", after := #[{ on := 12, ground := Go.Ground.data }, { on := 11, ground := Go.Ground.guard }], guard := some (11, true) }) (v := ?_) rfl (by kernel_rfl) (by kernel_rfl) (by kernel_rfl) (fun _ _ _ h => h) (Or.inl ⟨by rfl, ?_⟩) (by assumption) ?_
            rotate_left
            · (intro w hSw; (try dsimp only at hSw); go_simp; (try (with_reducible rfl)))
            try simp only [Act.put, List.setIfInBounds_toArray, List.set_cons_zero, List.set_cons_succ]
            refine wpAnyH_take (i := 14) (oi := { dst := some 99, op := Go.Op.pick (Go.Operand.tmp 96) (Go.Operand.tmp 98) (Go.Operand.const (Go.Value.bool false)), type := 4, pos := "law.go:38", after := #[{ on := 11, ground := Go.Ground.data }, { on := 13, ground := Go.Ground.data }], guard := none }) (v := ?_) rfl (by kernel_rfl) (by kernel_rfl) (by kernel_rfl) (fun _ _ _ h => h) (Or.inl ⟨by rfl, ?_⟩) (by assumption) ?_
            rotate_left
            · (intro w hSw; (try dsimp only at hSw); go_simp; (try (with_reducible rfl)))
            try simp only [Act.put, List.setIfInBounds_toArray, List.set_cons_zero, List.set_cons_succ]
            refine wpAnyH_take (i := 15) (oi := { dst := some 100, op := Go.Op.move (Go.Operand.tmp 99), type := 4, pos := "law.go:38", after := #[{ on := 14, ground := Go.Ground.data }, { on := 11, ground := Go.Ground.chain }], guard := none }) (v := ?_) rfl (by kernel_rfl) (by kernel_rfl) (by kernel_rfl) (fun _ _ _ h => h) (Or.inl ⟨by rfl, ?_⟩) (by assumption) ?_
            rotate_left
            · (intro w hSw; (try dsimp only at hSw); go_simp; (try (with_reducible rfl)))
            try simp only [Act.put, List.setIfInBounds_toArray, List.set_cons_zero, List.set_cons_succ]
            refine wpAnyH_take (i := 16) (oi := { dst := some 101, op := Go.Op.move (Go.Operand.tmp 0), type := 22, pos := "law.go:38", after := #[{ on := 15, ground := Go.Ground.guard }], guard := some (15, true) }) (v := undef) rfl (by kernel_rfl) (by kernel_rfl) (by kernel_rfl) (fun _ _ _ h => h) (Or.inr ⟨by rfl, rfl⟩) (by assumption) ?_
            try simp only [Act.put, List.setIfInBounds_toArray, List.set_cons_zero, List.set_cons_succ]
            refine wpAnyH_take (i := 17) (oi := { dst := some 102, op := Go.Op.move (Go.Operand.tmp 17), type := 3, pos := "law.go:38", after := #[{ on := 15, ground := Go.Ground.guard }], guard := some (15, true) }) (v := undef) rfl (by kernel_rfl) (by kernel_rfl) (by kernel_rfl) (fun _ _ _ h => h) (Or.inr ⟨by rfl, rfl⟩) (by assumption) ?_
            try simp only [Act.put, List.setIfInBounds_toArray, List.set_cons_zero, List.set_cons_succ]
            refine wpAnyH_take (i := 18) (oi := { dst := some 103, op := Go.Op.indexAddr 22 (Go.Operand.tmp 101) (Go.Operand.tmp 102), type := 0, pos := "law.go:38", after := #[{ on := 16, ground := Go.Ground.data }, { on := 17, ground := Go.Ground.data }, { on := 15, ground := Go.Ground.guard }], guard := some (15, true) }) (v := undef) rfl (by kernel_rfl) (by kernel_rfl) (by kernel_rfl) (fun _ _ _ h => h) (Or.inr ⟨by rfl, rfl⟩) (by assumption) ?_
            try simp only [Act.put, List.setIfInBounds_toArray, List.set_cons_zero, List.set_cons_succ]
            refine wpAnyH_take (i := 19) (oi := { dst := some 104, op := Go.Op.load 32 (Go.Operand.tmp 103), type := 32, pos := "law.go:38", after := #[{ on := 18, ground := Go.Ground.data }, { on := 15, ground := Go.Ground.guard }], guard := some (15, true) }) (v := undef) rfl (by kernel_rfl) (by kernel_rfl) (by kernel_rfl) (fun _ _ _ h => h) (Or.inr ⟨by rfl, rfl⟩) (by assumption) ?_
            try simp only [Act.put, List.setIfInBounds_toArray, List.set_cons_zero, List.set_cons_succ]
            refine wpAnyH_take (i := 20) (oi := { dst := some 105, op := Go.Op.move (Go.Operand.tmp 0), type := 22, pos := "law.go:38", after := #[{ on := 15, ground := Go.Ground.guard }], guard := some (15, true) }) (v := undef) rfl (by kernel_rfl) (by kernel_rfl) (by kernel_rfl) (fun _ _ _ h => h) (Or.inr ⟨by rfl, rfl⟩) (by assumption) ?_
            try simp only [Act.put, List.setIfInBounds_toArray, List.set_cons_zero, List.set_cons_succ]
            refine wpAnyH_take (i := 21) (oi := { dst := some 106, op := Go.Op.move (Go.Operand.tmp 18), type := 3, pos := "law.go:38", after := #[{ on := 15, ground := Go.Ground.guard }], guard := some (15, true) }) (v := undef) rfl (by kernel_rfl) (by kernel_rfl) (by kernel_rfl) (fun _ _ _ h => h) (Or.inr ⟨by rfl, rfl⟩) (by assumption) ?_
            try simp only [Act.put, List.setIfInBounds_toArray, List.set_cons_zero, List.set_cons_succ]
            refine wpAnyH_take (i := 22) (oi := { dst := some 107, op := Go.Op.indexAddr 22 (Go.Operand.tmp 105) (Go.Operand.tmp 106), type := 0, pos := "law.go:38", after := #[{ on := 20, ground := Go.Ground.data }, { on := 21, ground := Go.Ground.data }, { on := 15, ground := Go.Ground.guard }], guard := some (15, true) }) (v := undef) rfl (by kernel_rfl) (by kernel_rfl) (by kernel_rfl) (fun _ _ _ h => h) (Or.inr ⟨by rfl, rfl⟩) (by assumption) ?_
            try simp only [Act.put, List.setIfInBounds_toArray, List.set_cons_zero, List.set_cons_succ]
            refine wpAnyH_take (i := 23) (oi := { dst := some 108, op := Go.Op.load 32 (Go.Operand.tmp 107), type := 32, pos := "law.go:38", after := #[{ on := 22, ground := Go.Ground.data }, { on := 15, ground := Go.Ground.guard }], guard := some (15, true) }) (v := undef) rfl (by kernel_rfl) (by kernel_rfl) (by kernel_rfl) (fun _ _ _ h => h) (Or.inr ⟨by rfl, rfl⟩) (by assumption) ?_
            try simp only [Act.put, List.setIfInBounds_toArray, List.set_cons_zero, List.set_cons_succ]
            refine wpAnyH_take (i := 24) (oi := { dst := some 109, op := Go.Op.call { callee := Go.Callee.value (Go.Operand.func 26), args := #[Go.Operand.tmp 104, Go.Operand.tmp 108], argTypes := #[32, 32] }, type := 4, pos := "law.go:38", after := #[{ on := 19, ground := Go.Ground.data }, { on := 23, ground := Go.Ground.data }, { on := 15, ground := Go.Ground.chain }, { on := 15, ground := Go.Ground.guard }], guard := some (15, true) }) (v := undef) rfl (by kernel_rfl) (by kernel_rfl) (by kernel_rfl) (fun _ _ _ h => h) (Or.inr ⟨by rfl, rfl⟩) (by assumption) ?_
            try simp only [Act.put, List.setIfInBounds_toArray, List.set_cons_zero, List.set_cons_succ]
            refine wpAnyH_take (i := 25) (oi := { dst := some 110, op := Go.Op.pick (Go.Operand.tmp 100) (Go.Operand.tmp 109) (Go.Operand.const (Go.Value.bool false)), type := 4, pos := "law.go:38", after := #[{ on := 15, ground := Go.Ground.data }, { on := 24, ground := Go.Ground.data }], guard := none }) (v := ?_) rfl (by kernel_rfl) (by kernel_rfl) (by kernel_rfl) (fun _ _ _ h => h) (Or.inl ⟨by rfl, ?_⟩) (by assumption) ?_
            rotate_left
            · (intro w hSw; (try dsimp only at hSw); go_simp; (try (with_reducible rfl)))
            try simp only [Act.put, List.setIfInBounds_toArray, List.set_cons_zero, List.set_cons_succ]
            refine wpAnyH_take (i := 26) (oi := { dst := some 111, op := Go.Op.binOp Go.BinOp.neq 4 (Go.Operand.tmp 93) (Go.Operand.tmp 110) 4, type := 4, pos := "law.go:38", after := #[{ on := 8, ground := Go.Ground.data }, { on := 25, ground := Go.Ground.data }], guard := none }) (v := ?_) rfl (by kernel_rfl) (by kernel_rfl) (by kernel_rfl) (fun _ _ _ h => h) (Or.inl ⟨by rfl, ?_⟩) (by assumption) ?_
            rotate_left
            · (intro w hSw; (try dsimp only at hSw); go_simp; (try (with_reducible rfl)))
            try simp only [Act.put, List.setIfInBounds_toArray, List.set_cons_zero, List.set_cons_succ]
            refine wpAnyH_done (by kernel_rfl) ?_ _
            clear hHeld2
            clear hpt hqn'
            have hIT : Hid (logAll IT key = wrAll (L.map rp) (S.take (k + 1)) key ∧ (∀ x ∈ IT, ItD H2 x ∧ x.2.2.length ≤ 100) ∧ IT.length ≤ k + 1) := Lib.hid ⟨by rw [hLm.out, hwt.out, hz.out hb, hI.out.1, hLm.out]; simp [wrF], fun x hx => ⟨⟨(hI.out.2.1 x hx).1.b.mono le2, (hI.out.2.1 x hx).1.ok⟩, (hI.out.2.1 x hx).2⟩, by have := hI.out.2.2; omega⟩
            have hqn : ¬ 0 ≤ qb := by have := hnb.out hb; omega
            clear hk0 hkl hSpos hSn
            go_wp2_with fail
            go_roundw
            case rel => exact ⟨k + 1, IT, H2, by omega, by go_num, Hp.le_trans le1 le2, h2.swap, en2, hIT⟩
            case measure => simp [intOf]; omega
          case pos =>
            obtain ⟨j, hj, hje, hj1, hjl⟩ := hlb.out hb
            obtain rfl : qb = (j : Int) := by omega
            clear hlb hnb hje
            have hE2 := hEg.out
            rw [decide_eq_true ha, decide_eq_true hb, Bool.true_and, Bool.true_and] at hE2
            replace hEg := Lib.hid hE2
            clear hE2
            have hi0 : (0 : Int) ≤ (i : Int) := by omega
            have hil2 : (i : Int) < (l.length : Int) := by omega
            have hjn0 : (0 : Int) ≤ (j : Int) := by omega
            have hjn2 : (j : Int) < (l.length : Int) := by omega
            have hpt : decide ((0 : Int) ≤ (i : Int)) = true := decide_eq_true hi0
            have hqt : decide ((0 : Int) ≤ (j : Int)) = true := decide_eq_true hjn0
            obtain ⟨lb, lo, hA, hcl⟩ := rd_at hrdH (by omega)
            cases hA
            obtain ⟨m0, m1, m2, m3, m4⟩ := recs_get l i hi
            obtain ⟨n0, n1, n2, n3, n4⟩ := recs_get l j hj
            replace m0 := hcl _ _ m0
            replace m1 := hcl _ _ m1
            replace m2 := hcl _ _ m2
            replace m3 := hcl _ _ m3
            replace m4 := hcl _ _ m4
            replace n0 := hcl _ _ n0
            replace n1 := hcl _ _ n1
            replace n2 := hcl _ _ n2
            replace n3 := hcl _ _ n3
            replace n4 := hcl _ _ n4
            rw [← Nat.add_assoc] at m1 m2 m3 m4 n1 n2 n3 n4
            clear hcl
            have hEd := fun (Hx : Hp) (fr : List HA) w' (hl : Hp.le H Hx) (h' : St Hx fr w') => refEdge_any l[i] l[j] w' (((hldH.out l[i] (List.getElem_mem hi)).mono hl).rw h') (((hldH.out l[j] (List.getElem_mem hj)).mono hl).rw h')
            rw [hil, hjl] at hEd
            have xD := hldH.out l[i] (List.getElem_mem hi)
            have yD := hldH.out l[j] (List.getElem_mem hj)
            have hlist : Hid (∀ P : Rc → Prop, P l[j] → P l[j]) := Lib.hid (fun _ h => h)
            obtain ⟨x, hxe⟩ : ∃ x, l[i] = x := ⟨_, rfl⟩
            obtain ⟨y, hye⟩ : ∃ y, l[j] = y := ⟨_, rfl⟩
            rw [hxe] at hEd xD m0 m1 m2 m3 m4
            rw [hye] at hEd yD n0 n1 n2 n3 n4
            replace hye := Lib.hid hye
            clear hxe hil
            obtain ⟨xd1, xd2, xd3, hxd, _⟩ := xD.d.form
            obtain ⟨xb1, xb2, xb3, hxb, _⟩ := xD.b.form
            obtain ⟨yd1, yd2, yd3, hyd, _⟩ := yD.d.form
            obtain ⟨yb1, yb2, yb3, hyb, _⟩ := yD.b.form
            obtain ⟨⟨x0, x1⟩, xq, xd, xb, xDD, xBB⟩ := x
            obtain ⟨⟨y0, y1⟩, yq, yd, yb, yDD, yBB⟩ := y
            try simp only at hxd hxb hyd hyb m0 m1 m2 m3 m4 n0 n1 n2 n3 n4
            subst hxd hxb hyd hyb
            have k10 : ∀ (Hx : Hp) (l' : List HA) (w' : World), Hp.le H Hx → St Hx l' w' → (fun w' : World => w'.cell? ⟨sb, so, none⟩ = some (.int .i64 ra0) ∧ w'.cell? ⟨sb, so + 1, none⟩ = some (.int .i64 ra1) ∧ w'.cell? ⟨sb, so + k * 2, none⟩ = some (.int .i64 sk0) ∧ w'.cell? ⟨sb, so + k * 2 + 1, none⟩ = some (.int .i64 sk1) ∧ w'.cell? ⟨lb, lo + i * 5, none⟩ = some (.int .i64 x0) ∧ w'.cell? ⟨lb, lo + i * 5 + 1, none⟩ = some (.int .i64 x1) ∧ w'.cell? ⟨lb, lo + i * 5 + 2, none⟩ = some (.int .i64 xq) ∧ w'.cell? ⟨lb, lo + i * 5 + 3, none⟩ = some (.slice xd1 xd2 xd3) ∧ w'.cell? ⟨lb, lo + i * 5 + 4, none⟩ = some (.slice xb1 xb2 xb3) ∧ w'.cell? ⟨lb, lo + j * 5, none⟩ = some (.int .i64 y0) ∧ w'.cell? ⟨lb, lo + j * 5 + 1, none⟩ = some (.int .i64 y1) ∧ w'.cell? ⟨lb, lo + j * 5 + 2, none⟩ = some (.int .i64 yq) ∧ w'.cell? ⟨lb, lo + j * 5 + 3, none⟩ = some (.slice yd1 yd2 yd3) ∧ w'.cell? ⟨lb, lo + j * 5 + 4, none⟩ = some (.slice yb1 yb2 yb3)) w' := fun Hx l' w' hl h => ⟨h.cell (Hp.cell_le hl p0), h.cell (Hp.cell_le hl p1), h.cell (Hp.cell_le hl q0), h.cell (Hp.cell_le hl q1), h.cell (Hp.cell_le hl m0), h.cell (Hp.cell_le hl m1), h.cell (Hp.cell_le hl m2), h.cell (Hp.cell_le hl m3), h.cell (Hp.cell_le hl m4), h.cell (Hp.cell_le hl n0), h.cell (Hp.cell_le hl n1), h.cell (Hp.cell_le hl n2), h.cell (Hp.cell_le hl n3), h.cell (Hp.cell_le hl n4)⟩
            obtain ⟨T, hT⟩ : ∃ T, linkR (lookR (l.map rp) (ra0, ra1)) (lookR (l.map rp) (sk0, sk1)) = T := ⟨_, rfl⟩
            rw [hT] at hEd
            have hEg2 := hEg.out
            rw [hT] at hEg2
            have hTb : (T != T) = false := by simp
            replace hEg2 := Lib.hid hEg2
            replace hEd : Hid (∀ (fr : List HA) w' (Hx : Hp), Hp.le H Hx → St Hx fr w' → Calls _ _ _ w' _) := Lib.hid (fun fr w' Hx hl h => hEd Hx fr w' hl h)
            clear hT hlist xD yD
            go_wp2_with fail
            refine wp_region_held_drew (S := (fun w' : World => w'.cell? ⟨sb, so, none⟩ = some (.int .i64 ra0) ∧ w'.cell? ⟨sb, so + 1, none⟩ = some (.int .i64 ra1) ∧ w'.cell? ⟨sb, so + k * 2, none⟩ = some (.int .i64 sk0) ∧ w'.cell? ⟨sb, so + k * 2 + 1, none⟩ = some (.int .i64 sk1) ∧ w'.cell? ⟨lb, lo + i * 5, none⟩ = some (.int .i64 x0) ∧ w'.cell? ⟨lb, lo + i * 5 + 1, none⟩ = some (.int .i64 x1) ∧ w'.cell? ⟨lb, lo + i * 5 + 2, none⟩ = some (.int .i64 xq) ∧ w'.cell? ⟨lb, lo + i * 5 + 3, none⟩ = some (.slice xd1 xd2 xd3) ∧ w'.cell? ⟨lb, lo + i * 5 + 4, none⟩ = some (.slice xb1 xb2 xb3) ∧ w'.cell? ⟨lb, lo + j * 5, none⟩ = some (.int .i64 y0) ∧ w'.cell? ⟨lb, lo + j * 5 + 1, none⟩ = some (.int .i64 y1) ∧ w'.cell? ⟨lb, lo + j * 5 + 2, none⟩ = some (.int .i64 yq) ∧ w'.cell? ⟨lb, lo + j * 5 + 3, none⟩ = some (.slice yd1 yd2 yd3) ∧ w'.cell? ⟨lb, lo + j * 5 + 4, none⟩ = some (.slice yb1 yb2 yb3))) (by kernel_rfl) (k10 _ _ _ (Hp.le_refl _) hD.drew) (fun hHeld => ?_)
            refine wpAnyH_take (i := 0) (oi := { dst := some 85, op := Go.Op.move (Go.Operand.tmp 7), type := 33, pos := "law.go:38", after := #[], guard := none }) (v := ?_) rfl (by kernel_rfl) (by kernel_rfl) (by kernel_rfl) (fun _ _ _ h => h) (Or.inl ⟨by rfl, ?_⟩) (by assumption) ?_
            rotate_left
            · (intro w hSw; (try dsimp only at hSw); go_simp; (try (with_reducible rfl)))
            try simp only [Act.put, List.setIfInBounds_toArray, List.set_cons_zero, List.set_cons_succ]
            refine wpAnyH_take (i := 1) (oi := { dst := some 86, op := Go.Op.move (Go.Operand.tmp 1), type := 29, pos := "law.go:38", after := #[], guard := none }) (v := ?_) rfl (by kernel_rfl) (by kernel_rfl) (by kernel_rfl) (fun _ _ _ h => h) (Or.inl ⟨by rfl, ?_⟩) (by assumption) ?_
            rotate_left
            · (intro w hSw; (try dsimp only at hSw); go_simp; (try (with_reducible rfl)))
            try simp only [Act.put, List.setIfInBounds_toArray, List.set_cons_zero, List.set_cons_succ]
            refine wpAnyH_take (i := 2) (oi := { dst := some 87, op := Go.Op.indexAddr 29 (Go.Operand.tmp 86) (Go.Operand.const (Go.Value.int Go.IntKind.i64 0)), type := 0, pos := "law.go:38", after := #[{ on := 1, ground := Go.Ground.data }], guard := none }) (v := ?_) rfl (by kernel_rfl) (by kernel_rfl) (by kernel_rfl) (fun _ _ _ h => h) (Or.inl ⟨by rfl, ?_⟩) (by assumption) ?_
            rotate_left
            · (intro w hSw; (try dsimp only at hSw); go_simp; (try (with_reducible rfl)))
            try simp only [Act.put, List.setIfInBounds_toArray, List.set_cons_zero, List.set_cons_succ]
            refine wpAnyH_take (i := 3) (oi := { dst := some 88, op := Go.Op.load 28 (Go.Operand.tmp 87), type := 28, pos := "law.go:38", after := #[{ on := 2, ground := Go.Ground.data }], guard := none }) (v := ?_) rfl (by kernel_rfl) (by kernel_rfl) (by kernel_rfl) (fun _ _ _ h => h) (Or.inl ⟨by rfl, ?_⟩) (by assumption) ?_
            rotate_left
            · (intro w hSw; (try dsimp only at hSw); go_simp; (try (with_reducible rfl)))
            try simp only [Act.put, List.setIfInBounds_toArray, List.set_cons_zero, List.set_cons_succ]
            refine wpAnyH_take (i := 4) (oi := { dst := some 89, op := Go.Op.move (Go.Operand.tmp 1), type := 29, pos := "law.go:38", after := #[], guard := none }) (v := ?_) rfl (by kernel_rfl) (by kernel_rfl) (by kernel_rfl) (fun _ _ _ h => h) (Or.inl ⟨by rfl, ?_⟩) (by assumption) ?_
            rotate_left
            · (intro w hSw; (try dsimp only at hSw); go_simp; (try (with_reducible rfl)))
            try simp only [Act.put, List.setIfInBounds_toArray, List.set_cons_zero, List.set_cons_succ]
            refine wpAnyH_take (i := 5) (oi := { dst := some 90, op := Go.Op.move (Go.Operand.tmp 16), type := 3, pos := "law.go:38", after := #[], guard := none }) (v := ?_) rfl (by kernel_rfl) (by kernel_rfl) (by kernel_rfl) (fun _ _ _ h => h) (Or.inl ⟨by rfl, ?_⟩) (by assumption) ?_
            rotate_left
            · (intro w hSw; (try dsimp only at hSw); go_simp; (try (with_reducible rfl)))
            try simp only [Act.put, List.setIfInBounds_toArray, List.set_cons_zero, List.set_cons_succ]
            refine wpAnyH_take (i := 6) (oi := { dst := some 91, op := Go.Op.indexAddr 29 (Go.Operand.tmp 89) (Go.Operand.tmp 90), type := 0, pos := "law.go:38", after := #[{ on := 4, ground := Go.Ground.data }, { on := 5, ground := Go.Ground.data }], guard := none }) (v := ?_) rfl (by kernel_rfl) (by kernel_rfl) (by kernel_rfl) (fun _ _ _ h => h) (Or.inl ⟨by rfl, ?_⟩) (by assumption) ?_
            rotate_left
            · (intro w hSw; (try dsimp only at hSw); go_simp; (try (with_reducible rfl)))
            try simp only [Act.put, List.setIfInBounds_toArray, List.set_cons_zero, List.set_cons_succ]
            refine wpAnyH_take (i := 7) (oi := { dst := some 92, op := Go.Op.load 28 (Go.Operand.tmp 91), type := 28, pos := "law.go:38", after := #[{ on := 6, ground := Go.Ground.data }], guard := none }) (v := ?_) rfl (by kernel_rfl) (by kernel_rfl) (by kernel_rfl) (fun _ _ _ h => h) (Or.inl ⟨by rfl, ?_⟩) (by assumption) ?_
            rotate_left
            · (intro w hSw; (try dsimp only at hSw); go_simp; (try (with_reducible rfl)))
            try simp only [Act.put, List.setIfInBounds_toArray, List.set_cons_zero, List.set_cons_succ]
            refine wpAnyH_take (i := 9) (oi := { dst := some 94, op := Go.Op.move (Go.Operand.tmp 17), type := 3, pos := "law.go:38", after := #[], guard := none }) (v := ?_) rfl (by kernel_rfl) (by kernel_rfl) (by kernel_rfl) (fun _ _ _ h => h) (Or.inl ⟨by rfl, ?_⟩) (by assumption) ?_
            rotate_left
            · (intro w hSw; (try dsimp only at hSw); go_simp; (try (with_reducible rfl)))
            try simp only [Act.put, List.setIfInBounds_toArray, List.set_cons_zero, List.set_cons_succ]
            refine wpAnyH_take (i := 10) (oi := { dst := some 95, op := Go.Op.binOp Go.BinOp.geq 3 (Go.Operand.tmp 94) (Go.Operand.const (Go.Value.int Go.IntKind.i64 0)) 3, type := 4, pos := "law.go:38", after := #[{ on := 9, ground := Go.Ground.data }], guard := none }) (v := ?_) rfl (by kernel_rfl) (by kernel_rfl) (by kernel_rfl) (fun _ _ _ h => h) (Or.inl ⟨by rfl, ?_⟩) (by assumption) ?_
            rotate_left
            · (intro w hSw; (try dsimp only at hSw); go_simp; (try (with_reducible rfl)))
            try simp only [Act.put, List.setIfInBounds_toArray, List.set_cons_zero, List.set_cons_succ]
            refine wpAnyH_ready (rs := [8]) (by kernel_rfl) (by simp) ?_
            refine AllReadyH.cons (o := { dst := some 93, op := Go.Op.call { callee := Go.Callee.value (Go.Operand.func 25), args := #[Go.Operand.tmp 85, Go.Operand.tmp 88, Go.Operand.tmp 92], argTypes := #[33, 28, 28] }, type := 4, pos := "law.go:38", after := #[{ on := 0, ground := Go.Ground.data }, { on := 3, ground := Go.Ground.data }, { on := 7, ground := Go.Ground.data }], guard := none }) rfl (fun K hK => ?_) AllReadyH.nil
            go_simp
            refine (hEg2.out _ _ hD.drew.swap).mono ?_
            rintro e w14 ⟨H2, le2, h2, en2, rfl⟩
            replace en2 := enD.drew.trans en2
            refine hK.out _ _ (k10 _ _ _ le2 h2) (fun hHeld2 => ?_)
            clear hK K hHeld
            try simp only [Act.put, List.setIfInBounds_toArray, List.set_cons_zero, List.set_cons_succ]
            refine wpAnyH_take (i := 11) (oi := { dst := some 96, op := Go.Op.move (Go.Operand.tmp 95), type := 4, pos := "law.go:38", after := #[{ on := 10, ground := Go.Ground.data }, { on := 8, ground := Go.Ground.chain }], guard := none }) (v := ?_) rfl (by kernel_rfl) (by kernel_rfl) (by kernel_rfl) (fun _ _ _ h => h) (Or.inl ⟨by rfl, ?_⟩) (by assumption) ?_
            rotate_left
            · (intro w hSw; (try dsimp only at hSw); go_simp; (try (with_reducible rfl)))
            try simp only [Act.put, List.setIfInBounds_toArray, List.set_cons_zero, List.set_cons_succ]
            refine wpAnyH_take (i := 12) (oi := { dst := some 97, op := Go.Op.move (Go.Operand.tmp 18), type := 3, pos := "law.go:38", after := #[{ on := 11, ground := Go.Ground.guard }], guard := some (11, true) }) (v := ?_) rfl (by kernel_rfl) (by kernel_rfl) (by kernel_rfl) (fun _ _ _ h => h) (Or.inl ⟨by rfl, ?_⟩) (by assumption) ?_
            rotate_left
            · (intro w hSw; (try dsimp only at hSw); go_simp; (try (with_reducible rfl)))
            try simp only [Act.put, List.setIfInBounds_toArray, List.set_cons_zero, List.set_cons_succ]
            refine wpAnyH_take (i := 13) (oi := { dst := some 98, op := Go.Op.binOp Go.BinOp.geq 3 (Go.Operand.tmp 97) (Go.Operand.const (Go.Value.int Go.IntKind.i64 0)) 3, type := 4, pos := "law.go:38", after := #[{ on := 12, ground := Go.Ground.data }, { on := 11, ground := Go.Ground.guard }], guard := some (11, true) }) (v := ?_) rfl (by kernel_rfl) (by kernel_rfl) (by kernel_rfl) (fun _ _ _ h => h) (Or.inl ⟨by rfl, ?_⟩) (by assumption) ?_
            rotate_left
            · (intro w hSw; (try dsimp only at hSw); go_simp; (try (with_reducible rfl)))
            try simp only [Act.put, List.setIfInBounds_toArray, List.set_cons_zero, List.set_cons_succ]
            refine wpAnyH_take (i := 14) (oi := { dst := some 99, op := Go.Op.pick (Go.Operand.tmp 96) (Go.Operand.tmp 98) (Go.Operand.const (Go.Value.bool false)), type := 4, pos := "law.go:38", after := #[{ on := 11, ground := Go.Ground.data }, { on := 13, ground := Go.Ground.data }], guard := none }) (v := ?_) rfl (by kernel_rfl) (by kernel_rfl) (by kernel_rfl) (fun _ _ _ h => h) (Or.inl ⟨by rfl, ?_⟩) (by assumption) ?_
            rotate_left
            · (intro w hSw; (try dsimp only at hSw); go_simp; (try (with_reducible rfl)))
            try simp only [Act.put, List.setIfInBounds_toArray, List.set_cons_zero, List.set_cons_succ]
            refine wpAnyH_take (i := 15) (oi := { dst := some 100, op := Go.Op.move (Go.Operand.tmp 99), type := 4, pos := "law.go:38", after := #[{ on := 14, ground := Go.Ground.data }, { on := 11, ground := Go.Ground.chain }], guard := none }) (v := ?_) rfl (by kernel_rfl) (by kernel_rfl) (by kernel_rfl) (fun _ _ _ h => h) (Or.inl ⟨by rfl, ?_⟩) (by assumption) ?_
            rotate_left
            · (intro w hSw; (try dsimp only at hSw); go_simp; (try (with_reducible rfl)))
            try simp only [Act.put, List.setIfInBounds_toArray, List.set_cons_zero, List.set_cons_succ]
            refine wpAnyH_take (i := 16) (oi := { dst := some 101, op := Go.Op.move (Go.Operand.tmp 0), type := 22, pos := "law.go:38", after := #[{ on := 15, ground := Go.Ground.guard }], guard := some (15, true) }) (v := ?_) rfl (by kernel_rfl) (by kernel_rfl) (by kernel_rfl) (fun _ _ _ h => h) (Or.inl ⟨by rfl, ?_⟩) (by assumption) ?_
            rotate_left
            · (intro w hSw; (try dsimp only at hSw); go_simp; (try (with_reducible rfl)))
            try simp only [Act.put, List.setIfInBounds_toArray, List.set_cons_zero, List.set_cons_succ]
            refine wpAnyH_take (i := 17) (oi := { dst := some 102, op := Go.Op.move (Go.Operand.tmp 17), type := 3, pos := "law.go:38", after := #[{ on := 15, ground := Go.Ground.guard }], guard := some (15, true) }) (v := ?_) rfl (by kernel_rfl) (by kernel_rfl) (by kernel_rfl) (fun _ _ _ h => h) (Or.inl ⟨by rfl, ?_⟩) (by assumption) ?_
            rotate_left
            · (intro w hSw; (try dsimp only at hSw); go_simp; (try (with_reducible rfl)))
            try simp only [Act.put, List.setIfInBounds_toArray, List.set_cons_zero, List.set_cons_succ]
            refine wpAnyH_take (i := 18) (oi := { dst := some 103, op := Go.Op.indexAddr 22 (Go.Operand.tmp 101) (Go.Operand.tmp 102), type := 0, pos := "law.go:38", after := #[{ on := 16, ground := Go.Ground.data }, { on := 17, ground := Go.Ground.data }, { on := 15, ground := Go.Ground.guard }], guard := some (15, true) }) (v := ?_) rfl (by kernel_rfl) (by kernel_rfl) (by kernel_rfl) (fun _ _ _ h => h) (Or.inl ⟨by rfl, ?_⟩) (by assumption) ?_
            rotate_left
            · (intro w hSw; (try dsimp only at hSw); go_simp; (try (with_reducible rfl)))
            try simp only [Act.put, List.setIfInBounds_toArray, List.set_cons_zero, List.set_cons_succ]
            refine wpAnyH_take (i := 19) (oi := { dst := some 104, op := Go.Op.load 32 (Go.Operand.tmp 103), type := 32, pos := "law.go:38", after := #[{ on := 18, ground := Go.Ground.data }, { on := 15, ground := Go.Ground.guard }], guard := some (15, true) }) (v := ?_) rfl (by kernel_rfl) (by kernel_rfl) (by kernel_rfl) (fun _ _ _ h => h) (Or.inl ⟨by rfl, ?_⟩) (by assumption) ?_
            rotate_left
            · (intro w hSw; (try dsimp only at hSw); go_simp; (try (with_reducible rfl)))
            try simp only [Act.put, List.setIfInBounds_toArray, List.set_cons_zero, List.set_cons_succ]
            refine wpAnyH_take (i := 20) (oi := { dst := some 105, op := Go.Op.move (Go.Operand.tmp 0), type := 22, pos := "law.go:38", after := #[{ on := 15, ground := Go.Ground.guard }], guard := some (15, true) }) (v := ?_) rfl (by kernel_rfl) (by kernel_rfl) (by kernel_rfl) (fun _ _ _ h => h) (Or.inl ⟨by rfl, ?_⟩) (by assumption) ?_
            rotate_left
            · (intro w hSw; (try dsimp only at hSw); go_simp; (try (with_reducible rfl)))
            try simp only [Act.put, List.setIfInBounds_toArray, List.set_cons_zero, List.set_cons_succ]
            refine wpAnyH_take (i := 21) (oi := { dst := some 106, op := Go.Op.move (Go.Operand.tmp 18), type := 3, pos := "law.go:38", after := #[{ on := 15, ground := Go.Ground.guard }], guard := some (15, true) }) (v := ?_) rfl (by kernel_rfl) (by kernel_rfl) (by kernel_rfl) (fun _ _ _ h => h) (Or.inl ⟨by rfl, ?_⟩) (by assumption) ?_
            rotate_left
            · (intro w hSw; (try dsimp only at hSw); go_simp; (try (with_reducible rfl)))
            try simp only [Act.put, List.setIfInBounds_toArray, List.set_cons_zero, List.set_cons_succ]
            refine wpAnyH_take (i := 22) (oi := { dst := some 107, op := Go.Op.indexAddr 22 (Go.Operand.tmp 105) (Go.Operand.tmp 106), type := 0, pos := "law.go:38", after := #[{ on := 20, ground := Go.Ground.data }, { on := 21, ground := Go.Ground.data }, { on := 15, ground := Go.Ground.guard }], guard := some (15, true) }) (v := ?_) rfl (by kernel_rfl) (by kernel_rfl) (by kernel_rfl) (fun _ _ _ h => h) (Or.inl ⟨by rfl, ?_⟩) (by assumption) ?_
            rotate_left
            · (intro w hSw; (try dsimp only at hSw); go_simp; (try (with_reducible rfl)))
            try simp only [Act.put, List.setIfInBounds_toArray, List.set_cons_zero, List.set_cons_succ]
            refine wpAnyH_take (i := 23) (oi := { dst := some 108, op := Go.Op.load 32 (Go.Operand.tmp 107), type := 32, pos := "law.go:38", after := #[{ on := 22, ground := Go.Ground.data }, { on := 15, ground := Go.Ground.guard }], guard := some (15, true) }) (v := ?_) rfl (by kernel_rfl) (by kernel_rfl) (by kernel_rfl) (fun _ _ _ h => h) (Or.inl ⟨by rfl, ?_⟩) (by assumption) ?_
            rotate_left
            · (intro w hSw; (try dsimp only at hSw); go_simp; (try (with_reducible rfl)))
            try simp only [Act.put, List.setIfInBounds_toArray, List.set_cons_zero, List.set_cons_succ]
            refine wpAnyH_ready (rs := [24]) (by kernel_rfl) (by simp) ?_
            refine AllReadyH.cons (o := { dst := some 109, op := Go.Op.call { callee := Go.Callee.value (Go.Operand.func 26), args := #[Go.Operand.tmp 104, Go.Operand.tmp 108], argTypes := #[32, 32] }, type := 4, pos := "law.go:38", after := #[{ on := 19, ground := Go.Ground.data }, { on := 23, ground := Go.Ground.data }, { on := 15, ground := Go.Ground.chain }, { on := 15, ground := Go.Ground.guard }], guard := some (15, true) }) rfl (fun K hK => ?_) AllReadyH.nil
            go_simp
            refine (hEd.out _ _ _ le2 h2).mono ?_
            rintro e w15 ⟨rfl, hb15⟩
            replace h2 := h2.below hb15
            replace en2 := en2.trans (bel_env hb15)
            refine hK.out _ _ (k10 _ _ _ le2 h2) (fun hHeld3 => ?_)
            clear hK K hHeld2
            try simp only [Act.put, List.setIfInBounds_toArray, List.set_cons_zero, List.set_cons_succ]
            refine wpAnyH_take (i := 25) (oi := { dst := some 110, op := Go.Op.pick (Go.Operand.tmp 100) (Go.Operand.tmp 109) (Go.Operand.const (Go.Value.bool false)), type := 4, pos := "law.go:38", after := #[{ on := 15, ground := Go.Ground.data }, { on := 24, ground := Go.Ground.data }], guard := none }) (v := ?_) rfl (by kernel_rfl) (by kernel_rfl) (by kernel_rfl) (fun _ _ _ h => h) (Or.inl ⟨by rfl, ?_⟩) (by assumption) ?_
            rotate_left
            · (intro w hSw; (try dsimp only at hSw); go_simp; (try (with_reducible rfl)))
            try simp only [Act.put, List.setIfInBounds_toArray, List.set_cons_zero, List.set_cons_succ]
            refine wpAnyH_take (i := 26) (oi := { dst := some 111, op := Go.Op.binOp Go.BinOp.neq 4 (Go.Operand.tmp 93) (Go.Operand.tmp 110) 4, type := 4, pos := "law.go:38", after := #[{ on := 8, ground := Go.Ground.data }, { on := 25, ground := Go.Ground.data }], guard := none }) (v := ?_) rfl (by kernel_rfl) (by kernel_rfl) (by kernel_rfl) (fun _ _ _ h => h) (Or.inl ⟨by rfl, ?_⟩) (by assumption) ?_
            rotate_left
            · (intro w hSw; (try dsimp only at hSw); go_simp; (try (with_reducible rfl)))
            try simp only [Act.put, List.setIfInBounds_toArray, List.set_cons_zero, List.set_cons_succ]
            refine wpAnyH_done (by kernel_rfl) ?_ _
            clear hHeld3
            clear hpt hqt hTb hi0 hil2 hjn0 hjn2 k10 m0 m1 m2 m3 m4 n0 n1 n2 n3 n4 hye
            have hjt : (0 : Int) ≤ (j : Int) := by omega
            obtain ⟨lb, lo, hA, hcl⟩ := rd_at (hrdH.mono le2) (by omega)
            cases hA
            have g4 := hcl _ _ (recs_get l j hj).2.2.2.2
            rw [← Nat.add_assoc] at g4
            clear hcl
            have hyD := (hldH.out l[j] (List.getElem_mem hj)).mono le2
            have hwt2 := hwt.out
            rw [← hjl] at hwt2 hll8
            generalize l[j] = y at *
            obtain ⟨f1, f2, f3, hfv, _⟩ := hyD.b.form
            obtain ⟨yi, yq, yd, yb, yD, yB⟩ := y
            try simp only at hfv g4 hwt2 hll8
            subst hfv
            have hIT : Hid (logAll (IT ++ [((sk0, sk1), Value.slice f1 f2 f3, yB)]) key = wrAll (L.map rp) (S.take (k + 1)) key ∧ (∀ x ∈ IT ++ [((sk0, sk1), Value.slice f1 f2 f3, yB)], ItD H2 x ∧ x.2.2.length ≤ 100) ∧ (IT ++ [((sk0, sk1), Value.slice f1 f2 f3, yB)]).length ≤ k + 1) := Lib.hid ⟨by rw [logAll_snoc, hI.out.1, hLm.out, hwt2], fun x hx => by
              rcases List.mem_append.1 hx with hx | hx
              · exact ⟨⟨(hI.out.2.1 x hx).1.b.mono le2, (hI.out.2.1 x hx).1.ok⟩, (hI.out.2.1 x hx).2⟩
              · obtain rfl := List.mem_singleton.1 hx
                exact ⟨⟨hyD.b, hyD.ok⟩, by simp only; omega⟩, by have := hI.out.2.2; simp; omega⟩
            have hITl : IT.length ≤ k := hI.out.2.2
            have k16 : ∀ (l' : List HA) (w' : World), St H2 l' w' → (fun w' : World => w'.cell? ⟨sb, so + k * 2, none⟩ = some (.int .i64 sk0) ∧ w'.cell? ⟨sb, so + k * 2 + 1, none⟩ = some (.int .i64 sk1) ∧ w'.cell? ⟨lb, lo + j * 5 + 4, none⟩ = some (.slice f1 f2 f3)) w' := fun l' w' h => ⟨h.cell (Hp.cell_le le2 q0), h.cell (Hp.cell_le le2 q1), h.cell g4⟩
            have hj0 : (0 : Int) ≤ (j : Int) := by omega
            have hjl2 : (j : Int) < (l.length : Int) := by omega
            have hrow := h2.swap
            replace hyD := Lib.hid hyD
            clear hwt2 hI
            go_wp2_with fail
            refine wp_region_held_drew (S := (fun w' : World => w'.cell? ⟨sb, so + k * 2, none⟩ = some (.int .i64 sk0) ∧ w'.cell? ⟨sb, so + k * 2 + 1, none⟩ = some (.int .i64 sk1) ∧ w'.cell? ⟨lb, lo + j * 5 + 4, none⟩ = some (.slice f1 f2 f3))) (by kernel_rfl) (k16 _ _ h2.drew) (fun hHeld => ?_)
            refine wpAnyH_take (i := 0) (oi := { dst := some 114, op := Go.Op.move (Go.Operand.tmp 15), type := 48, pos := "law.go:42", after := #[], guard := none }) (v := ?_) rfl (by kernel_rfl) (by kernel_rfl) (by kernel_rfl) (fun _ _ _ h => h) (Or.inl ⟨by rfl, ?_⟩) (by assumption) ?_
            rotate_left
            · (intro w hSw; (try dsimp only at hSw); go_simp; (try (with_reducible rfl)))
            try simp only [Act.put, List.setIfInBounds_toArray, List.set_cons_zero, List.set_cons_succ]
            refine wpAnyH_take (i := 1) (oi := { dst := some 115, op := Go.Op.move (Go.Operand.tmp 1), type := 29, pos := "law.go:42", after := #[], guard := none }) (v := ?_) rfl (by kernel_rfl) (by kernel_rfl) (by kernel_rfl) (fun _ _ _ h => h) (Or.inl ⟨by rfl, ?_⟩) (by assumption) ?_
            rotate_left
            · (intro w hSw; (try dsimp only at hSw); go_simp; (try (with_reducible rfl)))
            try simp only [Act.put, List.setIfInBounds_toArray, List.set_cons_zero, List.set_cons_succ]
            refine wpAnyH_take (i := 2) (oi := { dst := some 116, op := Go.Op.move (Go.Operand.tmp 16), type := 3, pos := "law.go:42", after := #[], guard := none }) (v := ?_) rfl (by kernel_rfl) (by kernel_rfl) (by kernel_rfl) (fun _ _ _ h => h) (Or.inl ⟨by rfl, ?_⟩) (by assumption) ?_
            rotate_left
            · (intro w hSw; (try dsimp only at hSw); go_simp; (try (with_reducible rfl)))
            try simp only [Act.put, List.setIfInBounds_toArray, List.set_cons_zero, List.set_cons_succ]
            refine wpAnyH_take (i := 3) (oi := { dst := some 117, op := Go.Op.indexAddr 29 (Go.Operand.tmp 115) (Go.Operand.tmp 116), type := 0, pos := "law.go:42", after := #[{ on := 1, ground := Go.Ground.data }, { on := 2, ground := Go.Ground.data }], guard := none }) (v := ?_) rfl (by kernel_rfl) (by kernel_rfl) (by kernel_rfl) (fun _ _ _ h => h) (Or.inl ⟨by rfl, ?_⟩) (by assumption) ?_
            rotate_left
            · (intro w hSw; (try dsimp only at hSw); go_simp; (try (with_reducible rfl)))
            try simp only [Act.put, List.setIfInBounds_toArray, List.set_cons_zero, List.set_cons_succ]
            refine wpAnyH_take (i := 4) (oi := { dst := some 118, op := Go.Op.load 28 (Go.Operand.tmp 117), type := 28, pos := "law.go:42", after := #[{ on := 3, ground := Go.Ground.data }], guard := none }) (v := ?_) rfl (by kernel_rfl) (by kernel_rfl) (by kernel_rfl) (fun _ _ _ h => h) (Or.inl ⟨by rfl, ?_⟩) (by assumption) ?_
            rotate_left
            · (intro w hSw; (try dsimp only at hSw); go_simp; (try (with_reducible rfl)))
            try simp only [Act.put, List.setIfInBounds_toArray, List.set_cons_zero, List.set_cons_succ]
            refine wpAnyH_take (i := 5) (oi := { dst := some 119, op := Go.Op.move (Go.Operand.tmp 0), type := 22, pos := "law.go:42", after := #[], guard := none }) (v := ?_) rfl (by kernel_rfl) (by kernel_rfl) (by kernel_rfl) (fun _ _ _ h => h) (Or.inl ⟨by rfl, ?_⟩) (by assumption) ?_
            rotate_left
            · (intro w hSw; (try dsimp only at hSw); go_simp; (try (with_reducible rfl)))
            try simp only [Act.put, List.setIfInBounds_toArray, List.set_cons_zero, List.set_cons_succ]
            refine wpAnyH_take (i := 6) (oi := { dst := some 120, op := Go.Op.move (Go.Operand.tmp 18), type := 3, pos := "law.go:42", after := #[], guard := none }) (v := ?_) rfl (by kernel_rfl) (by kernel_rfl) (by kernel_rfl) (fun _ _ _ h => h) (Or.inl ⟨by rfl, ?_⟩) (by assumption) ?_
            rotate_left
            · (intro w hSw; (try dsimp only at hSw); go_simp; (try (with_reducible rfl)))
            try simp only [Act.put, List.setIfInBounds_toArray, List.set_cons_zero, List.set_cons_succ]
            refine wpAnyH_take (i := 7) (oi := { dst := some 121, op := Go.Op.indexAddr 22 (Go.Operand.tmp 119) (Go.Operand.tmp 120), type := 0, pos := "law.go:42", after := #[{ on := 5, ground := Go.Ground.data }, { on := 6, ground := Go.Ground.data }], guard := none }) (v := ?_) rfl (by kernel_rfl) (by kernel_rfl) (by kernel_rfl) (fun _ _ _ h => h) (Or.inl ⟨by rfl, ?_⟩) (by assumption) ?_
            rotate_left
            · (intro w hSw; (try dsimp only at hSw); go_simp; (try (with_reducible rfl)))
            try simp only [Act.put, List.setIfInBounds_toArray, List.set_cons_zero, List.set_cons_succ]
            refine wpAnyH_take (i := 8) (oi := { dst := some 122, op := Go.Op.fieldAddr 32 (Go.Operand.tmp 121) 3, type := 0, pos := "law.go:42", after := #[{ on := 7, ground := Go.Ground.data }], guard := none }) (v := ?_) rfl (by kernel_rfl) (by kernel_rfl) (by kernel_rfl) (fun _ _ _ h => h) (Or.inl ⟨by rfl, ?_⟩) (by assumption) ?_
            rotate_left
            · (intro w hSw; (try dsimp only at hSw); go_simp; (try (with_reducible rfl)))
            try simp only [Act.put, List.setIfInBounds_toArray, List.set_cons_zero, List.set_cons_succ]
            refine wpAnyH_take (i := 9) (oi := { dst := some 123, op := Go.Op.load 30 (Go.Operand.tmp 122), type := 30, pos := "law.go:42", after := #[{ on := 8, ground := Go.Ground.data }], guard := none }) (v := ?_) rfl (by kernel_rfl) (by kernel_rfl) (by kernel_rfl) (fun _ _ _ h => h) (Or.inl ⟨by rfl, ?_⟩) (by assumption) ?_
            rotate_left
            · (intro w hSw; (try dsimp only at hSw); go_simp; (try (with_reducible rfl)))
            try simp only [Act.put, List.setIfInBounds_toArray, List.set_cons_zero, List.set_cons_succ]
            refine wpAnyH_take (i := 10) (oi := { dst := some 124, op := Go.Op.build 52 #[(0, Go.Operand.tmp 118), (1, Go.Operand.tmp 123)], type := 52, pos := "law.go:42", after := #[{ on := 4, ground := Go.Ground.data }, { on := 9, ground := Go.Ground.data }], guard := none }) (v := ?_) rfl (by kernel_rfl) (by kernel_rfl) (by kernel_rfl) (fun _ _ _ h => h) (Or.inl ⟨by rfl, ?_⟩) (by assumption) ?_
            rotate_left
            · (intro w hSw; (try dsimp only at hSw); go_simp; (try (with_reducible rfl)))
            try simp only [Act.put, List.setIfInBounds_toArray, List.set_cons_zero, List.set_cons_succ]
            refine wpAnyH_ready (rs := [11]) (by kernel_rfl) (by simp) ?_
            refine AllReadyH.cons (o := { dst := some 125, op := Go.Op.buildSlice 48 1 #[(0, Go.Operand.tmp 124)], type := 48, pos := "law.go:42", after := #[{ on := 10, ground := Go.Ground.data }], guard := none }) rfl (fun K hK => ?_) AllReadyH.nil
            go_simp
            refine hK.out _ _ (k16 _ _ (h2.drew.alloc _)) (fun hHeld2 => ?_)
            clear hK K hHeld
            obtain ⟨v', w9, hrun, h9, en9⟩ := (hrow.drew.alloc (.cells #[.int .i64 sk0, .int .i64 sk1, .slice f1 f2 f3] 52)).append_run 48 48 48 (.agg #[.int .i64 0, .int .i64 0, .slice none 0 0]) 40 Try.underlying48 (.inl ⟨_, Try.underlying48⟩) info_it rfl (by decide) (news_at (P := Try.prog) _ 52 1 #[.int .i64 sk0, .int .i64 sk1, .slice f1 f2 f3] rfl (by simp [Value.oneCell']) rfl) (by rw [itl_len]; simp; omega) (by decide)
            try simp only [Act.put, List.setIfInBounds_toArray, List.set_cons_zero, List.set_cons_succ]
            refine wpAnyH_ready (rs := [12]) (by kernel_rfl) (by simp) ?_
            refine AllReadyH.cons (o := { dst := some 126, op := Go.Op.call { callee := Go.Callee.builtin Go.Builtin.append, args := #[Go.Operand.tmp 114, Go.Operand.tmp 125], argTypes := #[48, 48] }, type := 48, pos := "law.go:42", after := #[{ on := 0, ground := Go.Ground.data }, { on := 11, ground := Go.Ground.data }], guard := none }) rfl (fun K hK => ?_) AllReadyH.nil
            rw [if_pos (by rfl)]
            refine oper_append_at (.tmp 114) (.tmp 125) 48 48 48 hrun rfl rfl rfl rfl ?_
            refine hK.out _ _ (k16 _ _ h9) (fun hHeld3 => ?_)
            clear hK K hHeld2
            try simp only [Act.put, List.setIfInBounds_toArray, List.set_cons_zero, List.set_cons_succ]
            refine wpAnyH_take (i := 13) (oi := { dst := some 15, op := Go.Op.assign (Go.Operand.tmp 126), type := 48, pos := "law.go:42", after := #[{ on := 12, ground := Go.Ground.data }, { on := 12, ground := Go.Ground.chain }, { on := 0, ground := Go.Ground.phase }, { on := 1, ground := Go.Ground.phase }, { on := 2, ground := Go.Ground.phase }, { on := 3, ground := Go.Ground.phase }, { on := 4, ground := Go.Ground.phase }, { on := 5, ground := Go.Ground.phase }, { on := 6, ground := Go.Ground.phase }, { on := 7, ground := Go.Ground.phase }, { on := 8, ground := Go.Ground.phase }, { on := 9, ground := Go.Ground.phase }, { on := 10, ground := Go.Ground.phase }, { on := 11, ground := Go.Ground.phase }, { on := 12, ground := Go.Ground.phase }], guard := none }) (v := ?_) rfl (by kernel_rfl) (by kernel_rfl) (by kernel_rfl) (fun _ _ _ h => h) (Or.inl ⟨by rfl, ?_⟩) (by assumption) ?_
            rotate_left
            · (intro w hSw; (try dsimp only at hSw); go_simp; (try (with_reducible rfl)))
            try simp only [Act.put, List.setIfInBounds_toArray, List.set_cons_zero, List.set_cons_succ]
            refine wpAnyH_done (by kernel_rfl) ?_ _
            clear hHeld3 hrun hj0 hjl2 hk0 hkl hSpos hSn
            go_wp2_with fail
            go_roundw
            case rel => exact ⟨k + 1, IT ++ [((sk0, sk1), Value.slice f1 f2 f3, yB)], H2, by omega, by go_num, Hp.le_trans le1 le2, by rw [itl_append]; exact h9, ((en2.drew.alloc _).trans en9), hIT⟩
            case measure => simp [intOf]; omega
      · obtain rfl : k = S.length := by omega
        rw [List.take_length] at hI
        obtain ⟨iA, i2, i3, rfl, hi4, hi5, hi6⟩ := h1.row_form
        rw [itl_len] at hi4
        obtain rfl : i2 = IT.length := by omega
        obtain ⟨H2, l2, h2, hiR⟩ := h1.row_keep
        have hITd : ∀ x ∈ IT, ItD H2 x := fun x hx => ⟨(hI.out.2.1 x hx).1.b.mono l2, (hI.out.2.1 x hx).1.ok⟩
        have hITb : ∀ x ∈ IT, x.2.2.length ≤ 100 := fun x hx => (hI.out.2.1 x hx).2
        have hITl := hI.out.2.2
        have hIe : Hid (logAll IT key = wrAll (L.map rp) S key) := Lib.hid hI.out.1
        have hW := premWriters_any p L (.slice A2 S.length c2) S key H2 [] _ h2 (hG10.mono (Hp.le_trans le1 l2)) (hsd10.mono (Hp.le_trans le1 l2)) (by omega)
        replace hW := Lib.hid hW
        replace hITd := Lib.hid hITd
        replace hITb := Lib.hid hITb
        clear h1 hi4 hI
        go_wp2_with fail
        refine hW.out.mono ?_
        rintro e w12 ⟨wv, H3, rfl, l3, h3, en3⟩
        obtain ⟨H4, l4, h4, hwR⟩ := h3.row_keep
        replace en3 := en1.trans en3
        have l24 := Hp.le_trans l3 l4
        have hLg := refLog_any (.slice iA IT.length i3) IT key H4 _ _ h4 (hiR.mono l24) (fun x hx => ⟨(hITd.out x hx).b.mono l24, (hITd.out x hx).ok⟩) (by omega) hITb.out
        replace hLg := Lib.hid hLg
        clear hW h3 h2 en1
        go_wp2_with fail
        refine hLg.out.mono ?_
        rintro e w13 ⟨lv, rfl, h5, en5⟩
        have hSm := sameLog_any wv lv (wrAll (L.map rp) S key) (logAll IT key) _ (hwR.rw h5) (h5.row_rw (by omega))
        rw [show decide (wrAll (L.map rp) S key = logAll IT key) = true from decide_eq_true hIe.out.symm] at hSm
        replace hSm := Lib.hid hSm
        replace en5 := en3.trans en5
        clear hLg h4 en3
        go_wp2_with fail
        refine hSm.out.mono ?_
        rintro e w14 ⟨rfl, hb14⟩
        have h6 := h5.below hb14
        have en6 := en5.trans (bel_env hb14)
        go_wp2_with fail
        refine (works20 _).mono ?_
        rintro e w15 ⟨rfl, hb15⟩
        go_wp2_with fail
        go_ret
        exact ⟨rfl, ((h6.below hb15).weaken (Hp.le_trans l10' (Hp.le_trans le1 (Hp.le_trans l2 l24)))).toBelow (en6.trans (bel_env hb15))⟩
end Go.Proofs.Ytelmhcbdpimaaaa
