/- Joined texts: GraphG. -/
import Derived.Test.YtohgcghobidfpaaGG19
import Derived.Test.YtohgcghobidfpaaGG21
/- Records that are made out of a seed: gen.Graph. -/
set_option linter.unusedVariables false
set_option linter.unusedSimpArgs false
namespace Go.Proofs.Ytohgcghobidfpaa
open Go.RowKit Go.Cw Go.Fl
attribute [local go_sem ↓] eql_id neq_id
attribute [local go_sem] run_store_float
set_option maxRecDepth 100000 in
theorem spread_any (i keys : Int) (h0 : 0 ≤ i) (h1 : 1 ≤ keys) (w : World) : Calls Try.prog 13 #[.int .i64 i, .int .i64 keys] w fun e w' => e = .returned (.int .i64 (i % keys)) ∧ w = w' := by
  have hk : ¬ keys = 0 := by omega
  go_enter Try.func13, Try.ntmps13
  go_wp2_with fail
  go_ret
  exact ⟨rfl, rfl⟩
theorem depsJ_len (n : Int) (a : Id) (s0 : Int) (j : Nat) : (depsJ n a s0 j).2.length ≤ j := by
  induction j with
  | zero => simp [depsJ]
  | succ j ih =>
    unfold depsJ
    split
    · exact Nat.le_succ_of_le ih
    · simp; omega
theorem ints_nth' (xs : List Int) (i : Nat) (h : i < xs.length) : (ints xs)[i]? = some (.int .i64 (nth xs (i : Int))) := by simp [ints, nth, h]
theorem utf_small (kn : Nat) (h : kn < 9) : (Utf8.encode (97 + (kn : Int))).size ≤ 9223372036854775807 := by
  have : kn = 0 ∨ kn = 1 ∨ kn = 2 ∨ kn = 3 ∨ kn = 4 ∨ kn = 5 ∨ kn = 6 ∨ kn = 7 ∨ kn = 8 := by omega
  rcases this with rfl | rfl | rfl | rfl | rfl | rfl | rfl | rfl | rfl <;> decide +kernel
theorem makeInt (n : Nat) (hn : n ≤ 1000000) (w : World) : (Instr.makeSlice 42 (.int .i64 (n : Int)) (.int .i64 (n : Int))).run Try.prog w = .ok (.slice (some ⟨w.heap.size, 0, none⟩) n n) (w.alloc (.cells (madeCells #[.int .i64 0] n) 3)) := by
  obtain ⟨i, hi, hz0, hz1, hz2⟩ := info_parts (show (Try.prog.info? 3).map (fun i => (i.zero, i.size, i.bytes)) = some (some (.int .i64 0), 1, 8) by kernel_rfl)
  have := run_make (P := Try.prog) w 42 3 i (.int .i64 0) Try.underlying42 hi hz0 .i64 .i64 (n : Int) (n : Int) (by omega) (by omega) (by rw [hz2]; omega) (by omega)
  rw [hz1] at this
  simpa [Value.cells] using this
theorem made_ints (n : Nat) : (madeCells #[.int .i64 0] n).toList = ints (List.replicate n 0) := by
  have h : ∀ m : Nat, (madeCells #[.int .i64 0] m).toList = List.replicate m (.int .i64 0) := by
    intro m
    unfold madeCells
    simp [Nat.mod_one, List.map_const']
  rw [h]
  simp [ints]
/-- What Graph hands to Mend, and what Mend tells. -/
def GraphR (n keys seed : Int) (w : World) (e : Ending) (w' : World) : Prop :=
  ∃ (v : Value) (M : List Rc) (H : Hp), e = .returned v ∧ Hp.le (snap w) H ∧ St H [Row 33 5 v (recs M)] w' ∧ Env w w' ∧ M.map rp = mendL (fineL (genM n keys (bits .xor .u64 seed 11400714819323198485) n.toNat).2.2) ∧ ∀ x ∈ M, RcD H x
set_option maxRecDepth 100000 in
set_option maxHeartbeats 40000000 in
theorem graph_any (seed n keys : Int) (hn1 : 1 ≤ n) (hn2 : n ≤ 64) (hk1 : 1 ≤ keys) (hk2 : keys ≤ 9) (w : World) :
    Calls Try.prog 4 #[.int .u64 seed, .int .i64 n, .int .i64 keys] w (GraphR n keys seed w) := by
  obtain ⟨N, rfl⟩ : ∃ N : Nat, n = (N : Int) := ⟨n.toNat, by omega⟩
  obtain ⟨KN, rfl⟩ : ∃ KN : Nat, keys = (KN : Int) := ⟨keys.toNat, by omega⟩
  have hr := Lib.hid (random_any seed (snap w) [] w (St.start w))
  generalize hs0 : bits .xor .u64 seed 11400714819323198485 = s0 at *
  unfold GraphR
  rw [hs0]
  go_enter Try.func4, Try.ntmps4
  go_wp2_with fail
  refine hr.out.mono ?_
  rintro e w1 ⟨g, rfl, h1, en1⟩
  have h2 := h1.row_nil 30 2
  clear hr
  go_wp2_with fail
  go_loopw [8, 35] (fun s8 s35 wr => ∃ k : Nat, k ≤ N ∧ s35 = .int .i64 (k : Int) ∧ St (snap w) [Row 30 2 s8 (idl (idsG k)), RnA g s0] wr ∧ Env w wr) (fun _ s35 _ => N - (intOf s35).toNat)
  case atStart => exact ⟨0, by omega, by go_num, h2, en1⟩
  case round =>
    clear h1 h2 en1
    obtain ⟨k, hk, rfl, hst, hen⟩ := hrel
    have hil := idsG_len k
    by_cases hlt : k < N
    · have hd2 : IntKind.i64.wrap ((k : Int) / 3 + 1) = (k : Int) / 3 + 1 := by rw [IntKind.wrap_i64]; omega
      have hk' := Lib.hid (show k + 1 ≤ N by omega)
      have hsn := Lib.hid (idsG_snoc k)
      go_wp2_with (at_builtin; refine wpList_append rfl (.tmp 38) (.tmp 45) 31 31 rfl Try.underlying31 (.inl ⟨_, Try.underlying31⟩) (.agg #[.int .i64 0, .int .i64 0]) 16 info_id rfl (by decide) (by decide) rfl rfl (hst.alloc _) (News.new wr _ 1 #[.int .i64 ((k : Int) % 3), .int .i64 ((k : Int) / 3 + 1)] rfl (by simp [Value.oneCell'])) ?apB ?apK)
      case apB => rw [idl_len, hil]; show (k * 2 + 2) * 16 ≤ _; omega
      case apK =>
        intro v' w3 h3 en3
        have en4 := (hen.alloc _).trans en3
        have h4 : St (snap w) [Row 30 2 v' (idl (idsG (k + 1))), RnA g s0] w3 := by rw [hsn.out, idl_append]; exact h3
        go_wp2_with fail
        go_roundw
        case rel => exact ⟨k + 1, hk'.out, by go_num, h4, en4⟩
        case measure => simp [intOf]; omega
    · obtain rfl : N = k := by omega
      obtain ⟨iA, im, ic, rfl, him, hic, hicm⟩ := hst.row_form
      rw [idl_len, hil] at him
      obtain rfl : N = im := by omega
      obtain ⟨H1, l1, h1, hids⟩ := hst.row_keep
      have h2 := h1.row_lit 3 1 KN (madeCells #[.int .i64 0] KN) (by simp [size_madeCells]) (by simp [maxLen]; omega)
      rw [made_ints] at h2
      have en2 := hen.alloc (.cells (madeCells #[.int .i64 0] KN) 3)
      have hmk := makeInt KN (by omega) wr
      have h3 := h2.row_nil 33 5
      generalize hgt : wr.heap.size = gt at *
      generalize hwm : wr.alloc (.cells (madeCells #[.int .i64 0] KN) 3) = wm at *
      clear him hst hen h1 h2
      go_wp2_with fail
      go_loopw [11, 52] (fun s11 s52 wr => ∃ (k : Nat) (L : List Rc) (H' : Hp), k ≤ N ∧ s52 = .int .i64 (k : Int) ∧ Hp.le H1 H' ∧ St H' (Row 33 5 s11 (recs L) :: Row 3 1 (.slice (some ⟨gt, 0, none⟩) KN KN) (ints (genM (N : Int) (KN : Int) s0 k).2.1) :: RnA g (genM (N : Int) (KN : Int) s0 k).1 :: []) wr ∧ Env w wr ∧ Hid (L.map rp = (genM (N : Int) (KN : Int) s0 k).2.2 ∧ ∀ x ∈ L, RcD H' x)) (fun _ s52 _ => N - (intOf s52).toNat)
      case atStart => exact ⟨0, [], H1, by omega, by go_num, Hp.le_refl _, h3, en2, Lib.hid ⟨rfl, by simp⟩⟩
      case round =>
        clear h3 en2 hmk
        obtain ⟨k, L, H2, hk, rfl, l2, hst, hen, HL⟩ := hrel
        have hgl := genM_len (N : Int) (KN : Int) s0 k
        have hgT := genM_T (N : Int) (KN : Int) s0 k
        have hLl : L.length = k := by have := congrArg List.length HL.out.1; rw [hgl.2] at this; simpa using this
        have hgs : genM (N : Int) (KN : Int) s0 (k + 1) = ((stepM (N : Int) (KN : Int) k (genM (N : Int) (KN : Int) s0 k).1 (genM (N : Int) (KN : Int) s0 k).2.1).2.1, (stepM (N : Int) (KN : Int) k (genM (N : Int) (KN : Int) s0 k).1 (genM (N : Int) (KN : Int) s0 k).2.1).2.2, (genM (N : Int) (KN : Int) s0 k).2.2 ++ [(stepM (N : Int) (KN : Int) k (genM (N : Int) (KN : Int) s0 k).1 (genM (N : Int) (KN : Int) s0 k).2.1).1]) := rfl
        obtain ⟨lA, ln, lc, rfl, hln, hlnc, hlm⟩ := hst.row_form
        rw [recs_len] at hln
        obtain rfl : ln = L.length := by omega
        clear hln
        subst hLl
        by_cases hlt : L.length < N
        · have hTl := hgl.1
          rw [Int.toNat_natCast] at hTl
          have hLo := HL.out.1
          have hLd := HL.out.2
          generalize genM (N : Int) (KN : Int) s0 L.length = z at *
          obtain ⟨s, T, O⟩ := z
          simp only at hst hTl hLo hgs hgT
          have hgT2 := Lib.hid (fun k => nth_range hgT k)
          clear hgT
          have hLd' := Lib.hid hLd
          replace hLo := Lib.hid hLo
          replace hgs := Lib.hid hgs
          clear hgl HL hLd
          have hrng := rnd_range s (2 * (N : Int)) (by omega) (by omega)
          obtain ⟨qq, hqq⟩ : ∃ qq, rnd s (2 * (N : Int)) = qq := ⟨_, rfl⟩
          have hsq : Hid (seqM (N : Int) s = 1 + qq) := Lib.hid (by unfold seqM; rw [hqq])
          rw [hqq] at hrng
          replace hqq := Lib.hid hqq
          obtain ⟨b, off, hA, hcr⟩ := ((hids.mono l2).rw hst).cells (by rw [idsG_len] at *; omega)
          cases hA
          have q0 := hcr _ _ (idl_fst (idsG N) L.length (by rw [idsG_len]; omega))
          have q1 := hcr _ _ (idl_snd (idsG N) L.length (by rw [idsG_len]; omega))
          rw [← Nat.add_assoc] at q1
          rw [idsG_get N L.length hlt] at q0 q1
          clear hcr
          have ql := World.block_lt_of_cell? _ _ q0
          obtain ⟨H3, l3, h4, y⟩ := hst.box #[.int .i64 (idG L.length).1, .int .i64 (idG L.length).2] 30
          have y0 := y 0 _ rfl
          have y1 := y 1 _ rfl
          have en4 := hen.alloc (.cells #[.int .i64 (idG L.length).1, .int .i64 (idG L.length).2] 30)
          have hw1 : IntKind.i64.wrap (2 * (N : Int)) = 2 * (N : Int) := by rw [IntKind.wrap_i64]; omega
          have hw2 : IntKind.i64.wrap (1 + qq) = 1 + qq := by rw [IntKind.wrap_i64]; omega
          clear y hst hen
          go_wp2_with fail
          generalize hgi : wr.heap.size = gi at *
          generalize wr.alloc (.cells #[.int .i64 (idG L.length).1, .int .i64 (idG L.length).2] 30) = w4 at *
          have l23 := Hp.le_trans l2 l3
          have hst : St H3 (RnA g s :: _) _ := (h4.pick 2 (by simp)).drew
          have en5 := en4.drew
          have kk : ∀ (l' : List HA) (w' : World), St H3 l' w' → (fun w' : World => w'.cell? ⟨gi, 0, none⟩ = some (.int .i64 (idG L.length).1) ∧ w'.cell? ⟨gi, 1, none⟩ = some (.int .i64 (idG L.length).2)) w' := fun l' w' h => ⟨h.cell y0, h.cell y1⟩
          have gil := World.block_lt_of_cell? _ _ (h4.cell y0)
          simp only at gil
          clear h4 en4 q0 q1 ql
          refine wp_region_held_drew (S := (fun w' : World => w'.cell? ⟨gi, 0, none⟩ = some (.int .i64 (idG L.length).1) ∧ w'.cell? ⟨gi, 1, none⟩ = some (.int .i64 (idG L.length).2))) (by kernel_rfl) (kk _ _ hst) (fun hHeld => ?_)
          refine wpAnyH_take (i := 0) (oi := { dst := some 57, op := Go.Op.load 30 (Go.Operand.tmp 13), type := 30, pos := "gen.go:78", after := #[], guard := none }) (v := ?_) rfl (by kernel_rfl) (by kernel_rfl) (by kernel_rfl) (fun _ _ _ h => h) (Or.inl ⟨by rfl, ?_⟩) (by assumption) ?_
          rotate_left
          · (intro w hSw; (try dsimp only at hSw); go_simp; (try (with_reducible rfl)))
          try simp only [Act.put, List.setIfInBounds_toArray, List.set_cons_zero, List.set_cons_succ]
          refine wpAnyH_take (i := 1) (oi := { dst := some 58, op := Go.Op.move (Go.Operand.tmp 7), type := 40, pos := "gen.go:78", after := #[], guard := none }) (v := ?_) rfl (by kernel_rfl) (by kernel_rfl) (by kernel_rfl) (fun _ _ _ h => h) (Or.inl ⟨by rfl, ?_⟩) (by assumption) ?_
          rotate_left
          · (intro w hSw; (try dsimp only at hSw); go_simp; (try (with_reducible rfl)))
          try simp only [Act.put, List.setIfInBounds_toArray, List.set_cons_zero, List.set_cons_succ]
          refine wpAnyH_take (i := 2) (oi := { dst := some 59, op := Go.Op.move (Go.Operand.tmp 1), type := 3, pos := "gen.go:78", after := #[], guard := none }) (v := ?_) rfl (by kernel_rfl) (by kernel_rfl) (by kernel_rfl) (fun _ _ _ h => h) (Or.inl ⟨by rfl, ?_⟩) (by assumption) ?_
          rotate_left
          · (intro w hSw; (try dsimp only at hSw); go_simp; (try (with_reducible rfl)))
          try simp only [Act.put, List.setIfInBounds_toArray, List.set_cons_zero, List.set_cons_succ]
          refine wpAnyH_take (i := 3) (oi := { dst := some 60, op := Go.Op.binOp Go.BinOp.mul 3 (Go.Operand.const (Go.Value.int Go.IntKind.i64 2)) (Go.Operand.tmp 59) 3, type := 3, pos := "gen.go:78", after := #[{ on := 2, ground := Go.Ground.data }], guard := none }) (v := ?_) rfl (by kernel_rfl) (by kernel_rfl) (by kernel_rfl) (fun _ _ _ h => h) (Or.inl ⟨by rfl, ?_⟩) (by assumption) ?_
          rotate_left
          · (intro w hSw; (try dsimp only at hSw); go_simp; (try (with_reducible rfl)))
          try simp only [Act.put, List.setIfInBounds_toArray, List.set_cons_zero, List.set_cons_succ]
          refine wpAnyH_ready (rs := [4, 7]) (by kernel_rfl) (by simp) ?_
          refine (AllReadyH.cons (o := { dst := some 61, op := Go.Op.call { callee := Go.Callee.value (Go.Operand.tmp 58), args := #[Go.Operand.tmp 60], argTypes := #[3] }, type := 3, pos := "gen.go:78", after := #[{ on := 1, ground := Go.Ground.data }, { on := 3, ground := Go.Ground.data }], guard := none }) rfl (fun K hK => ?_) (AllReadyH.cons (o := { dst := some 14, op := Go.Op.alloc 33, type := 0, pos := "gen.go:78", after := #[], guard := none }) rfl (fun K hK => ?_) AllReadyH.nil))
          go_simp
          have hrc := rnd1_any g s (2 * (N : Int)) (by omega) (by omega) H3 _ _ hst
          rw [hqq.out] at hrc
          refine hrc.mono ?_
          rintro e wA ⟨rfl, hA1, enA⟩
          replace hst : St H3 (RnA g (advI s) :: _) _ := hA1
          replace en5 := en5.trans enA
          refine hK.out _ _ (kk _ _ hst) (fun hHeld => ?_)
          clear hK K
          try simp only [Act.put, List.setIfInBounds_toArray, List.set_cons_zero, List.set_cons_succ]
          refine wpAnyH_take (i := 5) (oi := { dst := some 62, op := Go.Op.binOp Go.BinOp.add 3 (Go.Operand.const (Go.Value.int Go.IntKind.i64 1)) (Go.Operand.tmp 61) 3, type := 3, pos := "gen.go:78", after := #[{ on := 4, ground := Go.Ground.data }], guard := none }) (v := ?_) rfl (by kernel_rfl) (by kernel_rfl) (by kernel_rfl) (fun _ _ _ h => h) (Or.inl ⟨by rfl, ?_⟩) (by assumption) ?_
          rotate_left
          · (intro w hSw; (try dsimp only at hSw); go_simp; (try (with_reducible rfl)))
          try simp only [Act.put, List.setIfInBounds_toArray, List.set_cons_zero, List.set_cons_succ]
          refine wpAnyH_take (i := 6) (oi := { dst := some 63, op := Go.Op.build 33 #[(0, Go.Operand.tmp 57), (1, Go.Operand.tmp 62)], type := 33, pos := "gen.go:78", after := #[{ on := 0, ground := Go.Ground.data }, { on := 5, ground := Go.Ground.data }], guard := none }) (v := ?_) rfl (by kernel_rfl) (by kernel_rfl) (by kernel_rfl) (fun _ _ _ h => h) (Or.inl ⟨by rfl, ?_⟩) (by assumption) ?_
          rotate_left
          · (intro w hSw; (try dsimp only at hSw); go_simp; (try (with_reducible rfl)))
          try simp only [Act.put, List.setIfInBounds_toArray, List.set_cons_zero, List.set_cons_succ]
          refine wpAnyH_ready (rs := [7]) (by kernel_rfl) (by simp) ?_
          refine AllReadyH.cons (o := { dst := some 14, op := Go.Op.alloc 33, type := 0, pos := "gen.go:78", after := #[], guard := none }) rfl (fun K hK => ?_) AllReadyH.nil
          go_simp
          replace hst := (St.blk hst #[.int .i64 0, .int .i64 0, .int .i64 0, .slice none 0 0, .slice none 0 0] 33).swap
          replace en5 := en5.alloc (.cells #[.int .i64 0, .int .i64 0, .int .i64 0, .slice none 0 0, .slice none 0 0] 33)
          refine hK.out _ _ (kk _ _ hst) (fun hHeld => ?_)
          clear hK K
          first | (generalize wA.heap.size = gr at *) | (rw [show w4.drew.heap.size = w4.heap.size from rfl] at hst; generalize w4.heap.size = gr at *)
          try simp only [Act.put, List.setIfInBounds_toArray, List.set_cons_zero, List.set_cons_succ]
          refine wpAnyH_ready (rs := [8]) (by kernel_rfl) (by simp) ?_
          refine AllReadyH.cons (o := { dst := none, op := Go.Op.store 33 (Go.Operand.tmp 14) (Go.Operand.tmp 63), type := 0, pos := "gen.go:78", after := #[{ on := 7, ground := Go.Ground.data }, { on := 6, ground := Go.Ground.data }, { on := 4, ground := Go.Ground.chain }, { on := 0, ground := Go.Ground.phase }, { on := 1, ground := Go.Ground.phase }, { on := 2, ground := Go.Ground.phase }, { on := 3, ground := Go.Ground.phase }, { on := 4, ground := Go.Ground.phase }, { on := 5, ground := Go.Ground.phase }, { on := 6, ground := Go.Ground.phase }, { on := 7, ground := Go.Ground.phase }], guard := none }) rfl (fun K hK => ?_) AllReadyH.nil
          have hr0 : St H3 (Blk gr _ _ :: _) _ := St.swap hst
          have u0 := hr0.blk_cell 0
          have u1 := hr0.blk_cell 1
          have u2 := hr0.blk_cell 2
          have u3 := hr0.blk_cell 3
          have u4 := hr0.blk_cell 4
          have uf0 := hr0.blk_free 0
          have uf1 := hr0.blk_free 1
          have uf2 := hr0.blk_free 2
          have uf3 := hr0.blk_free 3
          have uf4 := hr0.blk_free 4
          have ul := hr0.blk_lt
          go_simp
          replace hst := ((((hr0.blk_set 0 (.int .i64 (idG L.length).1)).blk_set 1 (.int .i64 (idG L.length).2)).blk_set 2 (.int .i64 (1 + qq))).blk_set 3 (.slice none 0 0)).blk_set 4 (.slice none 0 0)
          replace en5 := ((((en5.setCell ⟨gr, 0, none⟩ (.int .i64 (idG L.length).1)).setCell ⟨gr, 1, none⟩ (.int .i64 (idG L.length).2)).setCell ⟨gr, 2, none⟩ (.int .i64 (1 + qq))).setCell ⟨gr, 3, none⟩ (.slice none 0 0)).setCell ⟨gr, 4, none⟩ (.slice none 0 0)
          clear u0 u1 u2 u3 u4 uf0 uf1 uf2 uf3 uf4 ul
          refine hK.out _ _ (kk _ _ hst) (fun hHeld => ?_)
          clear hK K
          try simp only [Act.put, List.setIfInBounds_toArray, List.set_cons_zero, List.set_cons_succ]
          refine wpAnyH_done (by kernel_rfl) ?_ _
          rotate_left
          go_simp
          replace hst := (St.blk hst #[.int .i64 0, .int .i64 0, .int .i64 0, .slice none 0 0, .slice none 0 0] 33).swap
          replace en5 := en5.alloc (.cells #[.int .i64 0, .int .i64 0, .int .i64 0, .slice none 0 0, .slice none 0 0] 33)
          refine hK.out _ _ (kk _ _ hst) (fun hHeld => ?_)
          clear hK K
          first | (generalize wA.heap.size = gr at *) | (rw [show w4.drew.heap.size = w4.heap.size from rfl] at hst; generalize w4.heap.size = gr at *)
          try simp only [Act.put, List.setIfInBounds_toArray, List.set_cons_zero, List.set_cons_succ]
          refine wpAnyH_ready (rs := [4]) (by kernel_rfl) (by simp) ?_
          refine AllReadyH.cons (o := { dst := some 61, op := Go.Op.call { callee := Go.Callee.value (Go.Operand.tmp 58), args := #[Go.Operand.tmp 60], argTypes := #[3] }, type := 3, pos := "gen.go:78", after := #[{ on := 1, ground := Go.Ground.data }, { on := 3, ground := Go.Ground.data }], guard := none }) rfl (fun K hK => ?_) AllReadyH.nil
          go_simp
          have hrc := rnd1_any g s (2 * (N : Int)) (by omega) (by omega) H3 _ _ hst
          rw [hqq.out] at hrc
          refine hrc.mono ?_
          rintro e wA ⟨rfl, hA1, enA⟩
          replace hst : St H3 (RnA g (advI s) :: _) _ := hA1
          replace en5 := en5.trans enA
          refine hK.out _ _ (kk _ _ hst) (fun hHeld => ?_)
          clear hK K
          try simp only [Act.put, List.setIfInBounds_toArray, List.set_cons_zero, List.set_cons_succ]
          refine wpAnyH_take (i := 5) (oi := { dst := some 62, op := Go.Op.binOp Go.BinOp.add 3 (Go.Operand.const (Go.Value.int Go.IntKind.i64 1)) (Go.Operand.tmp 61) 3, type := 3, pos := "gen.go:78", after := #[{ on := 4, ground := Go.Ground.data }], guard := none }) (v := ?_) rfl (by kernel_rfl) (by kernel_rfl) (by kernel_rfl) (fun _ _ _ h => h) (Or.inl ⟨by rfl, ?_⟩) (by assumption) ?_
          rotate_left
          · (intro w hSw; (try dsimp only at hSw); go_simp; (try (with_reducible rfl)))
          try simp only [Act.put, List.setIfInBounds_toArray, List.set_cons_zero, List.set_cons_succ]
          refine wpAnyH_take (i := 6) (oi := { dst := some 63, op := Go.Op.build 33 #[(0, Go.Operand.tmp 57), (1, Go.Operand.tmp 62)], type := 33, pos := "gen.go:78", after := #[{ on := 0, ground := Go.Ground.data }, { on := 5, ground := Go.Ground.data }], guard := none }) (v := ?_) rfl (by kernel_rfl) (by kernel_rfl) (by kernel_rfl) (fun _ _ _ h => h) (Or.inl ⟨by rfl, ?_⟩) (by assumption) ?_
          rotate_left
          · (intro w hSw; (try dsimp only at hSw); go_simp; (try (with_reducible rfl)))
          try simp only [Act.put, List.setIfInBounds_toArray, List.set_cons_zero, List.set_cons_succ]
          refine wpAnyH_ready (rs := [8]) (by kernel_rfl) (by simp) ?_
          refine AllReadyH.cons (o := { dst := none, op := Go.Op.store 33 (Go.Operand.tmp 14) (Go.Operand.tmp 63), type := 0, pos := "gen.go:78", after := #[{ on := 7, ground := Go.Ground.data }, { on := 6, ground := Go.Ground.data }, { on := 4, ground := Go.Ground.chain }, { on := 0, ground := Go.Ground.phase }, { on := 1, ground := Go.Ground.phase }, { on := 2, ground := Go.Ground.phase }, { on := 3, ground := Go.Ground.phase }, { on := 4, ground := Go.Ground.phase }, { on := 5, ground := Go.Ground.phase }, { on := 6, ground := Go.Ground.phase }, { on := 7, ground := Go.Ground.phase }], guard := none }) rfl (fun K hK => ?_) AllReadyH.nil
          have hr0 : St H3 (Blk gr _ _ :: _) _ := St.swap hst
          have u0 := hr0.blk_cell 0
          have u1 := hr0.blk_cell 1
          have u2 := hr0.blk_cell 2
          have u3 := hr0.blk_cell 3
          have u4 := hr0.blk_cell 4
          have uf0 := hr0.blk_free 0
          have uf1 := hr0.blk_free 1
          have uf2 := hr0.blk_free 2
          have uf3 := hr0.blk_free 3
          have uf4 := hr0.blk_free 4
          have ul := hr0.blk_lt
          go_simp
          replace hst := ((((hr0.blk_set 0 (.int .i64 (idG L.length).1)).blk_set 1 (.int .i64 (idG L.length).2)).blk_set 2 (.int .i64 (1 + qq))).blk_set 3 (.slice none 0 0)).blk_set 4 (.slice none 0 0)
          replace en5 := ((((en5.setCell ⟨gr, 0, none⟩ (.int .i64 (idG L.length).1)).setCell ⟨gr, 1, none⟩ (.int .i64 (idG L.length).2)).setCell ⟨gr, 2, none⟩ (.int .i64 (1 + qq))).setCell ⟨gr, 3, none⟩ (.slice none 0 0)).setCell ⟨gr, 4, none⟩ (.slice none 0 0)
          clear u0 u1 u2 u3 u4 uf0 uf1 uf2 uf3 uf4 ul
          refine hK.out _ _ (kk _ _ hst) (fun hHeld => ?_)
          clear hK K
          try simp only [Act.put, List.setIfInBounds_toArray, List.set_cons_zero, List.set_cons_succ]
          refine wpAnyH_done (by kernel_rfl) ?_ _
          rotate_left
          all_goals
            replace hst : St H3 (Blk gr #[.int .i64 (idG L.length).1, .int .i64 (idG L.length).2, .int .i64 (1 + qq), .slice none 0 0, .slice none 0 0] 33 :: RnA g (advI s) :: _) _ := hst
            clear hHeld
            have b3 := rnd_range (advI s) 3 (by omega) (by omega)
            have hrc := rnd1_any g (advI s) 3 (by omega) (by omega) H3 _ _ (St.swap hst)
            obtain ⟨q3, hq3⟩ : ∃ q3, rnd (advI s) 3 = q3 := ⟨_, rfl⟩
            have hcnt : Hid (cntM s = q3.toNat) := Lib.hid (by unfold cntM; rw [hq3])
            rw [hq3] at hrc b3
            replace hrc := Lib.hid hrc
            clear hq3
            obtain ⟨Aid, hAid⟩ : ∃ Aid, idG L.length = Aid := ⟨_, rfl⟩
            rw [hAid] at hst en5 y0 y1 hrc
            replace hAid := Lib.hid hAid
            obtain ⟨ar, az⟩ := Aid
            simp only at y0 y1
            go_wp2_with fail
            rw [hAid.out]
            refine hrc.out.mono ?_
            rintro e w6 ⟨rfl, h6, en6⟩
            replace en6 := en5.trans en6
            replace h6 : St H3 (RnA g (advI (advI s)) :: Blk gr #[.int .i64 ar, .int .i64 az, .int .i64 (1 + qq), .slice none 0 0, .slice none 0 0] 33 :: _) w6 := h6
            clear hrc hst en5
            go_wp2_with fail
            replace h6 : St H3 (RnA g (advI (advI s)) :: Blk gr #[.int .i64 ar, .int .i64 az, .int .i64 (1 + qq), .slice none 0 0, .slice none 0 0] 33 :: Row 33 5 (.slice lA L.length lc) (recs L) :: Row 3 1 (.slice (some ⟨gt, 0, none⟩) KN KN) (ints T) :: []) w6 := h6
            have h7 := (h6.swap.row_nil 30 2).swap
            go_loopw [66] (fun s66 wr => ∃ (j : Nat) (H' : Hp) (dv : Value), j ≤ q3.toNat ∧ s66 = .int .i64 (j : Int) ∧ Hp.le H3 H' ∧ St H' (Blk gr #[.int .i64 ar, .int .i64 az, .int .i64 (1 + qq), dv, .slice none 0 0] 33 :: Row 30 2 dv (idl (depsJ (N : Int) (ar, az) (advI (advI s)) j).2) :: RnA g (depsJ (N : Int) (ar, az) (advI (advI s)) j).1 :: Row 33 5 (.slice lA L.length lc) (recs L) :: Row 3 1 (.slice (some ⟨gt, 0, none⟩) KN KN) (ints T) :: []) wr ∧ Env w wr) (fun s66 _ => q3.toNat - (intOf s66).toNat)
            case atStart => exact ⟨0, H3, _, by omega, by go_num, Hp.le_refl _, h7, en6⟩
            case round =>
              clear h7 h6 en6
              obtain ⟨j, H4, dv, hj, rfl, l4, hst, hen⟩ := hrel
              obtain ⟨dA, dn, dc, rfl, hdn, hdnc, _⟩ := (St.swap hst).row_form
              rw [idl_len] at hdn
              have hdj : depsJ (N : Int) (ar, az) (advI (advI s)) (j + 1) = (advI (depsJ (N : Int) (ar, az) (advI (advI s)) j).1, if idG (rnd (depsJ (N : Int) (ar, az) (advI (advI s)) j).1 (N : Int)).toNat = (ar, az) then (depsJ (N : Int) (ar, az) (advI (advI s)) j).2 else (depsJ (N : Int) (ar, az) (advI (advI s)) j).2 ++ [idG (rnd (depsJ (N : Int) (ar, az) (advI (advI s)) j).1 (N : Int)).toNat]) := rfl
              have hjl := depsJ_len (N : Int) (ar, az) (advI (advI s)) j
              have hjz : Hid (depsJ (N : Int) (ar, az) (advI (advI s)) j = depsJ (N : Int) (ar, az) (advI (advI s)) j) := Lib.hid rfl
              by_cases hjlt : j < q3.toNat
              · generalize depsJ (N : Int) (ar, az) (advI (advI s)) j = zz at hst hdn hdj hjl
                obtain ⟨sj, Dj⟩ := zz
                simp only at hst hdn hdj hjl
                obtain rfl : dn = Dj.length := by omega
                have hrc := rnd1_any g sj (N : Int) (by omega) (by omega) H4 _ _ (hst.pick 2 (by simp))
                have bx := rnd_range sj (N : Int) (by omega) (by omega)
                generalize rnd sj (N : Int) = xx at *
                obtain ⟨xn, rfl⟩ : ∃ xn : Nat, xx = (xn : Int) := ⟨xx.toNat, by omega⟩
                rw [Int.toNat_natCast] at hdj
                replace hdj := Lib.hid hdj
                replace hrc := Lib.hid hrc
                have hxN : xn < N := by omega
                have hxN' : (xn : Int) < (N : Int) := by omega
                have hj3 : (j : Int) < q3 := by omega
                have hj1 := Lib.hid (show j + 1 ≤ q3.toNat by omega)
                clear bx hjz
                go_wp2_with fail
                refine hrc.out.mono ?_
                rintro e w7 ⟨rfl, h8, en8⟩
                replace en8 := hen.trans en8
                replace h8 : St H4 (RnA g (advI sj) :: Blk gr #[.int .i64 ar, .int .i64 az, .int .i64 (1 + qq), .slice dA Dj.length dc, .slice none 0 0] 33 :: Row 30 2 (.slice dA Dj.length dc) (idl Dj) :: Row 33 5 (.slice lA L.length lc) (recs L) :: Row 3 1 (.slice (some ⟨gt, 0, none⟩) KN KN) (ints T) :: []) w7 := h8
                obtain ⟨b2, off2, hA, hcr⟩ := rd_at ((hids.mono l23).mono l4) (by omega)
                cases hA
                have q0 := hcr _ _ (idl_fst (idsG N) xn (by rw [idsG_len]; omega))
                have q1 := hcr _ _ (idl_snd (idsG N) xn (by rw [idsG_len]; omega))
                rw [← Nat.add_assoc] at q1
                rw [idsG_get N xn hxN] at q0 q1
                clear hcr hrc hst hen
                generalize idG xn = X at *
                obtain ⟨x0, x1⟩ := X
                simp only at q0 q1
                obtain ⟨H5, l5, h9, yy⟩ := h8.box #[.int .i64 x0, .int .i64 x1] 30
                have yy0 := yy 0 _ rfl
                have yy1 := yy 1 _ rfl
                have en9 := en8.alloc (.cells #[.int .i64 x0, .int .i64 x1] 30)
                have v0 := h8.cell q0
                have v1 := h8.cell q1
                have vl := World.block_lt_of_cell? _ _ v0
                have t0 := h9.cell (Hp.cell_le (Hp.le_trans l4 l5) y0)
                have t1 := h9.cell (Hp.cell_le (Hp.le_trans l4 l5) y1)
                have tl := World.block_lt_of_cell? _ _ t0
                clear yy
                have l45 := Hp.le_trans l4 l5
                by_cases hE : (x0, x1) = (ar, az)
                · have he : idEq x0 x1 ar az = true := by
                    have h1 := congrArg Prod.fst hE
                    have h2 := congrArg Prod.snd hE
                    simp only at h1 h2
                    unfold idEq
                    simp [h1, h2]
                  have hdj2 := hdj.out
                  rw [if_pos hE] at hdj2
                  replace hdj2 := Lib.hid hdj2
                  clear hE hdj
                  go_wp2_with fail
                  go_roundw
                  case rel => exact ⟨j + 1, H5, _, hj1.out, by go_num, l45, by rw [hdj2.out]; exact (h9.swap.perm (List.Perm.cons _ (List.Perm.swap _ _ _))), en9⟩
                  case measure => simp [intOf]; omega
                · have he : idEq x0 x1 ar az = false := idEq_no hE
                  have hdj2 := hdj.out
                  rw [if_neg hE] at hdj2
                  replace hdj2 := Lib.hid hdj2
                  have g3 : (w7.alloc (.cells #[.int .i64 x0, .int .i64 x1] 30)).cell? ⟨gr, 3, none⟩ = some (.slice dA Dj.length dc) := St.blk_cell (St.swap h9) 3
                  have gl := St.blk_lt (St.swap h9)
                  have s0' := h9.cell yy0
                  have s1' := h9.cell yy1
                  have sl' := World.block_lt_of_cell? _ _ s0'
                  clear hE hdj
                  go_upto_region 20 with (fail)
                  generalize hgx : w7.heap.size = gx at *
                  generalize w7.alloc (.cells #[.int .i64 x0, .int .i64 x1] 30) = w9 at *
                  clear v0 v1 vl t0 t1 tl h8 en8
                  have h10 := (h9.pick 2 (by simp)).alloc (.cells #[.int .i64 x0, .int .i64 x1] 30)
                  have en10 := en9.alloc (.cells #[.int .i64 x0, .int .i64 x1] 30)
                  go_wp2_with (at_builtin; refine wpList_append rfl (.tmp 78) (.tmp 80) 31 31 rfl Try.underlying31 (.inl ⟨_, Try.underlying31⟩) (.agg #[.int .i64 0, .int .i64 0]) 16 info_id rfl (by decide) (by decide) rfl rfl h10 (News.new w9 _ 1 #[.int .i64 x0, .int .i64 x1] rfl (by simp [Value.oneCell'])) ?apB3 ?apK3)
                  case apB3 => rw [idl_len]; show (Dj.length * 2 + 2) * 16 ≤ _; omega
                  case apK3 =>
                    intro v' w10 h11 en11
                    replace en11 := en10.trans en11
                    obtain ⟨va, vm, vc, rfl, _⟩ := h11.row_form
                    replace h11 : St H5 (Row 30 2 (.slice va vm vc) (idl Dj ++ [.int .i64 x0, .int .i64 x1]) :: RnA g (advI sj) :: Blk gr #[.int .i64 ar, .int .i64 az, .int .i64 (1 + qq), .slice dA Dj.length dc, .slice none 0 0] 33 :: Row 33 5 (.slice lA L.length lc) (recs L) :: Row 3 1 (.slice (some ⟨gt, 0, none⟩) KN KN) (ints T) :: []) w10 := h11
                    have h12 := h11.pick 2 (by simp)
                    have e0 : w10.cell? ⟨gr, 3, none⟩ = some (.slice dA Dj.length dc) := St.blk_cell h12 3
                    have ef := St.blk_free h12 3
                    have el := St.blk_lt h12
                    have h13 : St H5 (Blk gr #[.int .i64 ar, .int .i64 az, .int .i64 (1 + qq), .slice va vm vc, .slice none 0 0] 33 :: Row 30 2 (.slice va vm vc) (idl (Dj ++ [(x0, x1)])) :: RnA g (advI sj) :: Row 33 5 (.slice lA L.length lc) (recs L) :: Row 3 1 (.slice (some ⟨gt, 0, none⟩) KN KN) (ints T) :: []) (w10.setCell ⟨gr, 3, none⟩ (.slice va vm vc)) := by rw [idl_append]; exact St.blk_set h12 3 (.slice va vm vc)
                    have en13 := en11.setCell ⟨gr, 3, none⟩ (.slice va vm vc)
                    clear h12 h11 h10 en10 g3 gl s0' s1' sl'
                    go_wp2_with fail
                    go_roundw
                    case rel => exact ⟨j + 1, H5, _, hj1.out, by go_num, l45, by rw [hdj2.out]; exact h13, en13⟩
                    case measure => simp [intOf]; omega
              · obtain rfl : j = q3.toNat := by omega
                have hq3j : ((q3.toNat : Nat) : Int) = q3 := by omega
                have hjn : ¬ (q3.toNat : Int) < q3 := by omega
                have hdM : Hid (depM (N : Int) s L.length = depsJ (N : Int) (ar, az) (advI (advI s)) q3.toNat) := Lib.hid (by unfold depM; rw [hcnt.out, hAid.out])
                generalize depsJ (N : Int) (ar, az) (advI (advI s)) q3.toNat = zz at *
                obtain ⟨sj, Dj⟩ := zz
                simp only at hst hdn hjl
                obtain rfl : dn = Dj.length := by omega
                clear hdj hjz
                have g3 : wr.cell? ⟨gr, 3, none⟩ = some (.slice dA Dj.length dc) := St.blk_cell hst 3
                have gl := St.blk_lt hst
                have hSo := Lib.hid (identSorted_any (.slice dA Dj.length dc) Dj wr ((St.swap hst).row_rw (by decide)) (by omega))
                go_wp2_with fail
                refine hSo.out.mono ?_
                rintro e w7 he
                obtain ⟨v7, rfl, h8, en8⟩ := ResE.lift hst he
                obtain ⟨sa, sm, sc, rfl, _⟩ := St.row_form h8
                obtain ⟨H5, l5, h9, hrd⟩ := St.row_keep h8
                replace en8 := hen.trans en8
                have e0 : w7.cell? ⟨gr, 3, none⟩ = some (.slice dA Dj.length dc) := St.blk_cell h9 3
                have ef := St.blk_free h9 3
                have el := St.blk_lt h9
                have h11 : St H5 (Blk gr #[.int .i64 ar, .int .i64 az, .int .i64 (1 + qq), .slice sa sm sc, .slice none 0 0] 33 :: RnA g sj :: Row 33 5 (.slice lA L.length lc) (recs L) :: Row 3 1 (.slice (some ⟨gt, 0, none⟩) KN KN) (ints T) :: []) (w7.setCell ⟨gr, 3, none⟩ (.slice sa sm sc)) := St.drop (St.swap (St.blk_set h9 3 (.slice sa sm sc)))
                have en11 := en8.setCell ⟨gr, 3, none⟩ (.slice sa sm sc)
                have hrc := rnd1_any g sj 2 (by omega) (by omega) H5 _ _ h11.swap
                have b2 := rnd_range sj 2 (by omega) (by omega)
                have hkM : keyM (N : Int) (KN : Int) s L.length = ((L.length : Int) + rnd sj 2) % (KN : Int) := by unfold keyM; rw [hdM.out]
                generalize rnd sj 2 = q2 at *
                replace hrc := Lib.hid hrc
                have hw3 : IntKind.i64.wrap ((L.length : Int) + q2) = (L.length : Int) + q2 := by rw [IntKind.wrap_i64]; omega
                have hsp := Lib.hid (fun w => spread_any ((L.length : Int) + q2) (KN : Int) (by omega) hk1 w)
                obtain ⟨kn, hkn⟩ : ∃ kn : Nat, ((L.length : Int) + q2) % (KN : Int) = (kn : Int) := ⟨(((L.length : Int) + q2) % (KN : Int)).toNat, by have := Int.emod_nonneg ((L.length : Int) + q2) (b := (KN : Int)) (by omega); omega⟩
                have hknl : kn < KN := by have := Int.emod_lt_of_pos ((L.length : Int) + q2) (b := (KN : Int)) (by omega); omega
                rw [hkn] at hkM
                replace hkM := Lib.hid hkM
                replace hkn := Lib.hid hkn
                have l45 := Hp.le_trans l4 l5
                clear hSo he g3 gl h8 hst hen hdn hdnc
                go_wp2_with fail
                refine hrc.out.mono ?_
                rintro e w8 ⟨rfl, h12, en12⟩
                replace en12 := en11.trans en12
                replace h12 : St H5 (RnA g (advI sj) :: Blk gr #[.int .i64 ar, .int .i64 az, .int .i64 (1 + qq), .slice sa sm sc, .slice none 0 0] 33 :: Row 33 5 (.slice lA L.length lc) (recs L) :: Row 3 1 (.slice (some ⟨gt, 0, none⟩) KN KN) (ints T) :: []) w8 := h12
                clear e0 ef el h9 h11 hrc en8 en11 b2
                go_wp2_with fail
                refine (hsp.out _).mono ?_
                rintro e w9 ⟨rfl, rfl⟩
                rw [hkn.out]
                have hTn : (ints T)[kn]? = some (.int .i64 (nth T (kn : Int))) := by rw [show (kn : Int) = ((kn : Nat) : Int) from rfl]; exact ints_nth' T kn (by omega)
                obtain ⟨gg, oo, hA2, hTc, _⟩ := (h12.pick 3 (by simp)).row_cell hTn
                cases hA2
                rw [Nat.zero_add] at hTc
                have gl := World.block_lt_of_cell? _ _ hTc
                have hkn' : (kn : Int) < (KN : Int) := by omega
                have htr := hgT2.out (kn : Int)
                generalize htv : nth T (kn : Int) = tv at *
                by_cases h12t : tv < 12
                · have ho := Lib.hid (one_any g (advI sj) (KN : Int) hk1 hk2 H5 _ w8 h12)
                  have hstp : Hid (stepM (N : Int) (KN : Int) L.length s T = (((ar, az), 1 + qq, runs (idSort Dj), [(oneK (advI sj), Utf8.encode (97 + (kn : Int)), oneF (advI sj))]), oneS (advI sj), T.set kn (tv + 1))) := Lib.hid (by
                    unfold stepM cmdM
                    rw [hkM.out, hdM.out, hsq.out, hAid.out, htv, if_pos h12t, Int.toNat_natCast])
                  go_wp2_with fail
                  refine ho.out.mono ?_
                  rintro e w10 ⟨key, rfl, h13, en13⟩
                  replace en13 := en12.trans en13
                  replace h13 : St H5 (RnA g (oneS (advI sj)) :: Blk gr #[.int .i64 ar, .int .i64 az, .int .i64 (1 + qq), .slice sa sm sc, .slice none 0 0] 33 :: Row 33 5 (.slice lA L.length lc) (recs L) :: Row 3 1 (.slice (some ⟨gt, 0, none⟩) KN KN) (ints T) :: []) w10 := h13
                  obtain ⟨oK, hoK⟩ : ∃ oK, oneK (advI sj) = oK := ⟨_, rfl⟩
                  obtain ⟨oF, hoF⟩ : ∃ oF, oneF (advI sj) = oF := ⟨_, rfl⟩
                  rw [hoK, hoF] at hstp ⊢
                  have hoF2 : Hid (oF < 18446744073709551616) := Lib.hid (by
                    rw [← hoF]
                    unfold oneF
                    split
                    · exact (half_ok _ (rnd_range _ 9 (by omega) (by omega)).1 (rnd_range _ 9 (by omega) (by omega)).2).2
                    · decide)
                  have h14 := h13.blk #[.int .i64 oK, .string key, .float .f64 oF] 47
                  have en14 := en13.alloc (.cells #[.int .i64 oK, .string key, .float .f64 oF] 47)
                  clear ho hoK hoF
                  go_upto_region 26 with (fail)
                  generalize hgc : w10.heap.size = gc at *
                  generalize w10.alloc (.cells #[.int .i64 oK, .string key, .float .f64 oF] 47) = w11 at *
                  have c0 : w11.cell? ⟨gc, 0, none⟩ = some (.int .i64 oK) := St.blk_cell h14 0
                  have c1 : w11.cell? ⟨gc, 1, none⟩ = some (.string key) := St.blk_cell h14 1
                  have c2 : w11.cell? ⟨gc, 2, none⟩ = some (.float .f64 oF) := St.blk_cell h14 2
                  have cf := St.blk_free h14 1
                  have cl := St.blk_lt h14
                  have hw4 : IntKind.i64.wrap (97 + (kn : Int)) = 97 + (kn : Int) := by rw [IntKind.wrap_i64]; omega
                  have h15 : St H5 (Blk gc #[.int .i64 oK, .string (Utf8.encode (97 + (kn : Int))), .float .f64 oF] 47 :: RnA g (oneS (advI sj)) :: Blk gr #[.int .i64 ar, .int .i64 az, .int .i64 (1 + qq), .slice sa sm sc, .slice none 0 0] 33 :: Row 33 5 (.slice lA L.length lc) (recs L) :: Row 3 1 (.slice (some ⟨gt, 0, none⟩) KN KN) (ints T) :: []) (w11.setCell ⟨gc, 1, none⟩ (.string (Utf8.encode (97 + (kn : Int))))) := St.blk_set h14 1 _
                  have en15 := en14.setCell ⟨gc, 1, none⟩ (.string (Utf8.encode (97 + (kn : Int))))
                  go_upto_region 27 with (fail)
                  have hutf := Lib.hid (utf_small kn (by omega))
                  generalize hstr : Utf8.encode (97 + (kn : Int)) = str at *
                  generalize w11.setCell ⟨gc, 1, none⟩ (.string str) = w12 at *
                  clear c0 c1 c2 cf cl h14 en14
                  obtain ⟨H6, l6, h16, kc⟩ := St.blk_for_good h15
                  have m0 := h16.cell (kc 0)
                  have m1 := h16.cell (kc 1)
                  have m2 := h16.cell (kc 2)
                  have ml := World.block_lt_of_cell? _ _ m0
                  obtain ⟨H7, l7, h17, hbd⟩ := (h16.row_lit 47 3 1 #[.int .i64 oK, .string str, .float .f64 oF] rfl (by decide)).row_keep
                  replace hbd : Rd H7 3 (.slice (some ⟨w12.heap.size, 0, none⟩) 1 1) (cml [(oK, str, oF)]) := hbd
                  replace h17 : St H7 (RnA g (oneS (advI sj)) :: Blk gr #[.int .i64 ar, .int .i64 az, .int .i64 (1 + qq), .slice sa sm sc, .slice none 0 0] 33 :: Row 33 5 (.slice lA L.length lc) (recs L) :: Row 3 1 (.slice (some ⟨gt, 0, none⟩) KN KN) (ints T) :: []) (w12.alloc (.cells #[.int .i64 oK, .string str, .float .f64 oF] 47)) := h17
                  have g4 : (w12.alloc (.cells #[.int .i64 oK, .string str, .float .f64 oF] 47)).cell? ⟨gr, 4, none⟩ = some (.slice none 0 0) := St.blk_cell h17.swap 4
                  have gf4 := St.blk_free h17.swap 4
                  have gl4 := St.blk_lt h17.swap
                  have h18 : St H7 (Blk gr #[.int .i64 ar, .int .i64 az, .int .i64 (1 + qq), .slice sa sm sc, .slice (some ⟨w12.heap.size, 0, none⟩) 1 1] 33 :: RnA g (oneS (advI sj)) :: Row 33 5 (.slice lA L.length lc) (recs L) :: Row 3 1 (.slice (some ⟨gt, 0, none⟩) KN KN) (ints T) :: []) ((w12.alloc (.cells #[.int .i64 oK, .string str, .float .f64 oF] 47)).setCell ⟨gr, 4, none⟩ (.slice (some ⟨w12.heap.size, 0, none⟩) 1 1)) := St.blk_set h17.swap 4 _
                  have en18 := (en15.alloc (.cells #[.int .i64 oK, .string str, .float .f64 oF] 47)).setCell ⟨gr, 4, none⟩ (.slice (some ⟨w12.heap.size, 0, none⟩) 1 1)
                  go_upto_region 28 with (fail)
                  generalize (w12.alloc (.cells #[.int .i64 oK, .string str, .float .f64 oF] 47)).setCell ⟨gr, 4, none⟩ (.slice (some ⟨w12.heap.size, 0, none⟩) 1 1) = w13 at *
                  generalize w12.heap.size = gb at *
                  clear m0 m1 m2 ml g4 gf4 gl4 h15 h16 h17 kc en15
                  have h19 := h18.pick 3 (by simp)
                  obtain ⟨gg, oo, hA2, hTc2, hTf⟩ := St.row_cell h19 hTn
                  cases hA2
                  rw [Nat.zero_add] at hTc2 hTf
                  have gl5 := World.block_lt_of_cell? _ _ hTc2
                  have hw5 : IntKind.i64.wrap (tv + 1) = tv + 1 := by rw [IntKind.wrap_i64]; omega
                  have h20 := St.row_set h19 kn (by rw [ints_len]; omega) (.int .i64 (tv + 1))
                  rw [Nat.zero_add, ints_set] at h20
                  have en20 := en18.setCell ⟨gt, kn, none⟩ (.int .i64 (tv + 1))
                  have h21 : St H7 (Blk gr #[.int .i64 ar, .int .i64 az, .int .i64 (1 + qq), .slice sa sm sc, .slice (some ⟨gb, 0, none⟩) 1 1] 33 :: RnA g (oneS (advI sj)) :: Row 33 5 (.slice lA L.length lc) (recs L) :: Row 3 1 (.slice (some ⟨gt, 0, none⟩) KN KN) (ints (T.set kn (tv + 1))) :: []) (w13.setCell ⟨gt, kn, none⟩ (.int .i64 (tv + 1))) := h20.perm (List.perm_append_comm (l₁ := [_]) (l₂ := [_, _, _]))
                  go_upto_region 29 with (fail)
                  generalize w13.setCell ⟨gt, kn, none⟩ (.int .i64 (tv + 1)) = w14 at *
                  clear hTc2 hTf gl5 h18 h19 h20 en18
                  have l47 := Hp.le_trans l45 (Hp.le_trans l6 l7)
                  have r0 : w14.cell? ⟨gr, 0, none⟩ = some (.int .i64 ar) := St.blk_cell h21 0
                  have r1 : w14.cell? ⟨gr, 1, none⟩ = some (.int .i64 az) := St.blk_cell h21 1
                  have r2 : w14.cell? ⟨gr, 2, none⟩ = some (.int .i64 (1 + qq)) := St.blk_cell h21 2
                  have r3 : w14.cell? ⟨gr, 3, none⟩ = some (.slice sa sm sc) := St.blk_cell h21 3
                  have r4 : w14.cell? ⟨gr, 4, none⟩ = some (.slice (some ⟨gb, 0, none⟩) 1 1) := St.blk_cell h21 4
                  have rl := St.blk_lt h21
                  have hap := (h21.pick 2 (by simp)).alloc (.cells #[.int .i64 ar, .int .i64 az, .int .i64 (1 + qq), .slice sa sm sc, .slice (some ⟨gb, 0, none⟩) 1 1] 33)
                  have enap := en20.alloc (.cells #[.int .i64 ar, .int .i64 az, .int .i64 (1 + qq), .slice sa sm sc, .slice (some ⟨gb, 0, none⟩) 1 1] 33)
                  have hxd : Hid (RcD H7 ((ar, az), 1 + qq, .slice sa sm sc, .slice (some ⟨gb, 0, none⟩) 1 1, runs (idSort Dj), [(oK, str, oF)])) := Lib.hid ⟨hrd.mono (Hp.le_trans l6 l7), hbd, fun c hc => by rw [List.mem_singleton] at hc; subst hc; exact ⟨hutf.out, hoF2.out⟩⟩
                  have hLL := hLd'.out
                  have hgn := hgs.out
                  rw [hstp.out, ← hLo.out] at hgn
                  have HL2 : Hid ((L ++ [((ar, az), 1 + qq, Value.slice sa sm sc, Value.slice (some ⟨gb, 0, none⟩) 1 1, runs (idSort Dj), [(oK, str, oF)])]).map rp = (genM (N : Int) (KN : Int) s0 (L.length + 1)).2.2 ∧ ∀ x ∈ L ++ [((ar, az), 1 + qq, Value.slice sa sm sc, Value.slice (some ⟨gb, 0, none⟩) 1 1, runs (idSort Dj), [(oK, str, oF)])], RcD H7 x) := Lib.hid ⟨by rw [hgn]; simp, fun x hx => by
                    rcases List.mem_append.1 hx with hx | hx
                    · exact (hLL x hx).mono (Hp.le_trans l3 l47)
                    · rw [List.mem_singleton] at hx; subst hx; exact hxd.out⟩
                  replace hgn := Lib.hid hgn
                  have hk9 := Lib.hid (show L.length + 1 ≤ N by omega)
                  have l19 := Hp.le_trans l2 (Hp.le_trans l3 l47)
                  clear hLL
                  go_wp2_with (at_builtin; refine wpList_append rfl (.tmp 116) (.tmp 118) 23 23 rfl Try.underlying23 (.inl ⟨_, Try.underlying23⟩) recZ 72 info_rec rfl (by decide) (by decide) rfl rfl hap (News.new w14 _ 1 #[.int .i64 ar, .int .i64 az, .int .i64 (1 + qq), .slice sa sm sc, .slice (some ⟨gb, 0, none⟩) 1 1] rfl (by simp [Value.oneCell'])) ?apXB ?apXK)
                  case apXB => rw [recs_len]; show (L.length * 5 + 5) * 72 ≤ _; omega
                  case apXK =>
                    intro v' wz hz enz
                    have hz2 : St H7 (Row 33 5 v' (recs (L ++ [((ar, az), 1 + qq, Value.slice sa sm sc, Value.slice (some ⟨gb, 0, none⟩) 1 1, runs (idSort Dj), [(oK, str, oF)])])) :: Row 3 1 (.slice (some ⟨gt, 0, none⟩) KN KN) (ints (genM (N : Int) (KN : Int) s0 (L.length + 1)).2.1) :: RnA g (genM (N : Int) (KN : Int) s0 (L.length + 1)).1 :: []) wz := by
                      rw [hgn.out, recs_append]
                      exact ((hz.swap.drop).perm (List.Perm.cons _ (List.Perm.swap _ _ _)))
                    have enz2 := enap.trans enz
                    go_wp2_with fail
                    go_roundw
                    case rel => exact ⟨L.length + 1, _, H7, hk9.out, by go_num, l19, hz2, enz2, HL2⟩
                    case measure => simp [intOf]; omega
                · have hstp : Hid (stepM (N : Int) (KN : Int) L.length s T = (((ar, az), 1 + qq, runs (idSort Dj), []), advI sj, T)) := Lib.hid (by
                    unfold stepM
                    rw [hkM.out, hdM.out, hsq.out, hAid.out, htv, if_neg h12t])
                  have h21 := h12.swap
                  have l47 := l45
                  go_upto_region 29 with (fail)
                  clear hTc gl
                  have r0 : w8.cell? ⟨gr, 0, none⟩ = some (.int .i64 ar) := St.blk_cell h21 0
                  have r1 : w8.cell? ⟨gr, 1, none⟩ = some (.int .i64 az) := St.blk_cell h21 1
                  have r2 : w8.cell? ⟨gr, 2, none⟩ = some (.int .i64 (1 + qq)) := St.blk_cell h21 2
                  have r3 : w8.cell? ⟨gr, 3, none⟩ = some (.slice sa sm sc) := St.blk_cell h21 3
                  have r4 : w8.cell? ⟨gr, 4, none⟩ = some (.slice none 0 0) := St.blk_cell h21 4
                  have rl := St.blk_lt h21
                  have hap := (h21.pick 2 (by simp)).alloc (.cells #[.int .i64 ar, .int .i64 az, .int .i64 (1 + qq), .slice sa sm sc, .slice none 0 0] 33)
                  have enap := en12.alloc (.cells #[.int .i64 ar, .int .i64 az, .int .i64 (1 + qq), .slice sa sm sc, .slice none 0 0] 33)
                  have hxd : Hid (RcD H5 ((ar, az), 1 + qq, .slice sa sm sc, .slice none 0 0, runs (idSort Dj), [])) := Lib.hid ⟨hrd, Rd.nil _ _, fun c hc => by cases hc⟩
                  have hLL := hLd'.out
                  have hgn := hgs.out
                  rw [hstp.out, ← hLo.out] at hgn
                  have HL2 : Hid ((L ++ [((ar, az), 1 + qq, Value.slice sa sm sc, Value.slice none 0 0, runs (idSort Dj), [])]).map rp = (genM (N : Int) (KN : Int) s0 (L.length + 1)).2.2 ∧ ∀ x ∈ L ++ [((ar, az), 1 + qq, Value.slice sa sm sc, Value.slice none 0 0, runs (idSort Dj), [])], RcD H5 x) := Lib.hid ⟨by rw [hgn]; simp, fun x hx => by
                    rcases List.mem_append.1 hx with hx | hx
                    · exact (hLL x hx).mono (Hp.le_trans l3 l47)
                    · rw [List.mem_singleton] at hx; subst hx; exact hxd.out⟩
                  replace hgn := Lib.hid hgn
                  have hk9 := Lib.hid (show L.length + 1 ≤ N by omega)
                  have l19 := Hp.le_trans l2 (Hp.le_trans l3 l47)
                  clear hLL
                  go_wp2_with (at_builtin; refine wpList_append rfl (.tmp 116) (.tmp 118) 23 23 rfl Try.underlying23 (.inl ⟨_, Try.underlying23⟩) recZ 72 info_rec rfl (by decide) (by decide) rfl rfl hap (News.new w8 _ 1 #[.int .i64 ar, .int .i64 az, .int .i64 (1 + qq), .slice sa sm sc, .slice none 0 0] rfl (by simp [Value.oneCell'])) ?apYB ?apYK)
                  case apYB => rw [recs_len]; show (L.length * 5 + 5) * 72 ≤ _; omega
                  case apYK =>
                    intro v' wz hz enz
                    have hz2 : St H5 (Row 33 5 v' (recs (L ++ [((ar, az), 1 + qq, Value.slice sa sm sc, Value.slice none 0 0, runs (idSort Dj), [])])) :: Row 3 1 (.slice (some ⟨gt, 0, none⟩) KN KN) (ints (genM (N : Int) (KN : Int) s0 (L.length + 1)).2.1) :: RnA g (genM (N : Int) (KN : Int) s0 (L.length + 1)).1 :: []) wz := by
                      rw [hgn.out, recs_append]
                      exact ((hz.swap.drop).perm (List.Perm.cons _ (List.Perm.swap _ _ _)))
                    have enz2 := enap.trans enz
                    go_wp2_with fail
                    go_roundw
                    case rel => exact ⟨L.length + 1, _, H5, hk9.out, by go_num, l19, hz2, enz2, HL2⟩
                    case measure => simp [intOf]; omega
        · have hNL : N = L.length := by omega
          have hLo := HL.out.1
          have hLd := HL.out.2
          rw [← hNL] at hLo
          have hMe := Lib.hid (mend_any (.slice lA L.length lc) L wr (hst.row_rw (by decide)) (fun x hx => (hLd x hx).rw hst) (by omega))
          have hsn : Hid (Hp.le (snap w) (snap wr)) := Lib.hid (Hp.le_trans l1 (Hp.le_trans l2 (fun k o hk => hst.imm k o hk)))
          replace hLo := Lib.hid hLo
          clear hLd HL hgs
          go_wp2_with fail
          refine hMe.out.mono ?_
          rintro e w9 ⟨v, M, H9, rfl, l9, h9, en9, hM, hMd⟩
          have hz : Hid (M.map rp = mendL (fineL (genM (N : Int) (KN : Int) s0 (N : Int).toNat).2.2)) := Lib.hid (by rw [Int.toNat_natCast, ← hLo.out]; exact hM)
          have en10 := hen.trans en9
          replace hMd := Lib.hid hMd
          clear hM
          go_wp2_with fail
          go_ret
          exact ⟨_, M, H9, rfl, Hp.le_trans hsn.out l9, h9, en10, hz.out, hMd.out⟩
end Go.Proofs.Ytohgcghobidfpaa
