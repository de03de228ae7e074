/- The law JournalEntries, walked: for every argument it returns true, and nothing that was there is changed. -/
import Derived.Test.YtmdmekdmlkhchaaJournalLoads
set_option linter.unusedVariables false
set_option linter.unusedSimpArgs false
namespace Go.Proofs.Ytmdmekdmlkhchaa
open Go.RowKit Go.Cw Go.Jn
/-- What an entry's putting leaves. -/
theorem putStep {p : Nat} {l : List JEnt} {k n : Int} {xs : List Int} {H : Hp} {fr : List HA} {w w' : World} (hg : EGood H l) (hb : Byt xs)
    (h : match norm k n xs with
      | none => St H (JA p l :: fr) w' ∧ Below w.heap.size w w'
      | some x => ∃ v, St H (Row 5 1 v (u8s x.2.2) :: JA p (l ++ [(x.1, x.2.1, v, x.2.2)]) :: fr) w') :
    ∃ (H4 : Hp), Hp.le H H4 ∧ ∃ l4 : List JEnt, EGood H4 l4 ∧ Hid (ents l4 = ents l ++ (norm k n xs).toList) ∧ St H4 (JA p l4 :: fr) w' := by
  cases hn : norm k n xs with
  | none =>
    rw [hn] at h
    exact ⟨H, Hp.le_refl H, l, hg, Lib.hid (by simp), h.1⟩
  | some x =>
    rw [hn] at h
    obtain ⟨v, h⟩ := h
    obtain ⟨H4, hle, h4, hrd⟩ := h.row_keep
    exact ⟨H4, hle, _, (hg.mono hle).snoc ⟨hrd, norm_fit hb hn⟩, Lib.hid (by simp [ents, ent]), h4⟩
/-- What is loaded of entries' bytes that are cut off. -/
theorem partF (L : List Ent) (hL : ∀ x ∈ L, Fit x) (c : Nat) (hc : c ≤ (flat L).length) (k : Nat) (hk : k ≤ L.length) (hkc : (flat (L.take k)).length ≤ c) (hx : k < L.length → c < (flat (L.take (k + 1))).length) (l6 : List Ent) (j : Nat) (e6 : Int) (ld : Loaded ((flat L).take c) l6 j e6) :
    l6 = L.take k ∧ j = (flat (L.take k)).length ∧ e6 = if (flat (L.take k)).length = c then 0 else 4 := by
  have hf : ∀ x ∈ L.take k, Fit x := fun x hx => hL x (List.mem_of_mem_take hx)
  have hsplit : flat L = flat (L.take k) ++ flat (L.drop k) := by rw [← flat_app, List.take_append_drop]
  have hb : (flat L).take c = flat (L.take k) ++ (flat (L.drop k)).take (c - (flat (L.take k)).length) := by
    have h := congrArg (List.take c) hsplit
    rw [List.take_append, List.take_of_length_le hkc] at h
    exact h
  by_cases he : (flat (L.take k)).length = c
  · rw [if_pos he]
    rw [hb, he, Nat.sub_self, List.take_zero, List.append_nil] at ld
    exact ld.whole hf
  · rw [if_neg he]
    have hlt : k < L.length := by
      rcases Nat.lt_or_ge k L.length with h | h
      · exact h
      · exfalso
        rw [List.take_of_length_le h] at hkc he
        omega
    have hx' := hx hlt
    have htk : L.take (k + 1) = L.take k ++ [L[k]] := List.take_succ_eq_append_getElem hlt
    rw [htk, flat_one, List.length_append] at hx'
    have hd : flat (L.drop k) = eb L[k] ++ flat (L.drop (k + 1)) := by rw [List.drop_eq_getElem_cons hlt, flat_cons]
    have hr : (flat (L.drop k)).take (c - (flat (L.take k)).length) = (eb L[k]).take (c - (flat (L.take k)).length) := by
      rw [hd, List.take_append_of_le_length (by omega)]
    rw [hr] at hb
    refine ld.part hf hb (hL _ (List.getElem_mem hlt)) (q := (eb L[k]).drop (c - (flat (L.take k)).length)) (List.take_append_drop _ _).symm ?_ ?_
    · intro h0
      have := congrArg List.length h0
      rw [List.length_take, List.length_nil] at this
      omega
    · intro h0
      have := congrArg List.length h0
      rw [List.length_drop, List.length_nil] at this
      omega
set_option maxRecDepth 100000 in
set_option maxHeartbeats 32000000 in
theorem entries_any (X : List JEnt) (A : Option Addr) (c : Nat) (cut : Nat) (hcut : cut < 65536) (W : World) (hX : Rw W 3 (.slice A X.length c) (jecs X)) (hE : ∀ x ∈ X, Rw W 1 x.2.2.1 (u8s x.2.2.2)) (hB : ∀ x ∈ X, Byt x.2.2.2) :
    Calls Try.prog 7 #[.slice A X.length c, .int .u16 (cut : Int)] W fun e w' => e = .returned (.bool true) ∧ Below W.heap.size W w' := by
  by_cases h30 : (30 : Int) < (X.length : Int)
  · go_enter Try.func7, Try.ntmps7
    go_wp2_with fail
    refine (works42 W).mono ?_
    rintro e w1 ⟨rfl, hb⟩
    go_wp2_with fail
    go_ret
    exact ⟨rfl, hb⟩
  · have hlX : X.length ≤ 30 := by omega
    have hrow := hX.rd
    have hels : ∀ x ∈ X, Rd (snap W) 1 x.2.2.1 (u8s x.2.2.2) := fun x hx => (hE x hx).rd
    have hfitA := gs_fit hB
    clear hX hE
    go_enter Try.func7, Try.ntmps7
    go_wp2_with fail
    refine (jNew W).mono ?_
    rintro e w0 ⟨p, rfl, h0, en0⟩
    have h1 := h0.row_lit 5 1 0 #[] rfl (by decide)
    have hs1 : (w0.alloc (.cells #[] 5)).heap.size = w0.heap.size + 1 := by simp
    have h2 := (h1.row_lit 3 1 1 #[.int .i64 0] rfl (by decide)).swap
    rw [hs1] at h2
    have en2 := (en0.alloc (.cells #[] 5)).alloc (.cells #[.int .i64 0] 3)
    clear h1 hs1 h0 en0
    go_wp2_with fail
    go_loopw [6, 7, 8] (fun s6 s7 s8 wr => ∃ (k : Nat) (l : List JEnt) (H' : Hp), k ≤ X.length ∧ s8 = .int .i64 (k : Int) ∧ Hp.le (snap W) H' ∧ EGood H' l ∧ Hid (ents l = gs (X.take k)) ∧ St H' [Row 5 1 s6 (u8s (flat (gs (X.take k)))), Row 3 1 s7 (endsV (gs (X.take k))), JA p l] wr ∧ Env W wr) (fun _ _ s8 _ => X.length - (intOf s8).toNat)
    case atStart => exact ⟨0, [], snap W, by omega, rfl, Hp.le_refl _, fun x hx => (by cases hx), Lib.hid rfl, h2, en2⟩
    case round =>
      clear h2 en2
      obtain ⟨k, l, H', hk, rfl, hle, hg, hen0, hst, hen⟩ := hrel
      by_cases hlt : k < X.length
      · have hrow' := hrow.mono hle
        obtain ⟨A0, n0, c0, hv0, hl0, hn0, hc0, hcells0⟩ := hrow'
        cases hv0
        obtain ⟨b, off, rfl, hcells⟩ := hcells0 (by omega)
        have z0 := hcells _ _ (jecs_get X k hlt).1
        have z1 := hcells _ _ (jecs_get X k hlt).2.1
        have z2 := hcells _ _ (jecs_get X k hlt).2.2
        rw [← Nat.add_assoc] at z1 z2
        have hrd := (hels _ (List.getElem_mem hlt)).mono hle
        have hnb := hB _ (List.getElem_mem hlt)
        have hsn := Lib.hid (gs_snoc X k hlt)
        have hgl := gs_len X k
        have hll : l.length < 65536 := by have := congrArg List.length hen0.out; rw [ents_len] at this; omega
        have hff : ∀ x ∈ gs (X.take k), Fit x := gs_fit (fun x hx => hB x (List.mem_of_mem_take hx))
        have hfl := (flatJ_len hff).2
        clear hcells hcells0 hels hff hfitA hl0 hc0
        generalize gs (X.take k) = L at *
        obtain ⟨⟨kk, n, bv, ys⟩, HX⟩ : ∃ x, Hid (x = X[k]) := ⟨_, Lib.hid rfl⟩
        rw [← HX.out] at z0 z1 z2 hrd hnb hsn
        simp only at hrd hnb z0 z1 z2
        obtain ⟨bA, bn, bc, rfl, _⟩ := hrd.form
        have hbx := hnb
        go_wp2_with fail
        have hd := hst.drew
        have q0 := hd.cell z0
        have q1 := hd.cell z1
        have q2 := hd.cell z2
        have ql := World.block_lt_of_cell? _ _ q0
        have hkX : (k : Int) < (X.length : Int) := by omega
        have hk0 : (0 : Int) ≤ (k : Int) := by omega
        replace hnb := hnb
        refine wp_region_held_drew (S := (fun w' : World => w'.cell? ⟨b, off + k * 3, none⟩ = some (.int .i64 kk) ∧ w'.cell? ⟨b, off + k * 3 + 1, none⟩ = some (.int .i64 n) ∧ w'.cell? ⟨b, off + k * 3 + 2, none⟩ = some (.slice bA bn bc))) (by kernel_rfl) ⟨q0, q1, q2⟩ (fun hHeld => ?_)
        refine wpAnyH_take (i := 0) (oi := { dst := some 32, op := Go.Op.move (Go.Operand.tmp 0), type := 71, pos := "law.go:63", after := #[], guard := none }) (v := ?_) rfl (by kernel_rfl) (by kernel_rfl) (by kernel_rfl) (fun _ _ _ h => h) (Or.inl ⟨by rfl, ?_⟩) (by assumption) ?_
        rotate_left
        · (intro w hSw; (try dsimp only at hSw); go_simp; (try (with_reducible rfl)))
        try simp only [Act.put, List.setIfInBounds_toArray, List.set_cons_zero, List.set_cons_succ]
        refine wpAnyH_take (i := 1) (oi := { dst := some 33, op := Go.Op.move (Go.Operand.tmp 8), type := 3, pos := "law.go:63", after := #[], guard := none }) (v := ?_) rfl (by kernel_rfl) (by kernel_rfl) (by kernel_rfl) (fun _ _ _ h => h) (Or.inl ⟨by rfl, ?_⟩) (by assumption) ?_
        rotate_left
        · (intro w hSw; (try dsimp only at hSw); go_simp; (try (with_reducible rfl)))
        try simp only [Act.put, List.setIfInBounds_toArray, List.set_cons_zero, List.set_cons_succ]
        refine wpAnyH_take (i := 2) (oi := { dst := some 34, op := Go.Op.indexAddr 71 (Go.Operand.tmp 32) (Go.Operand.tmp 33), type := 0, pos := "law.go:63", after := #[{ on := 0, ground := Go.Ground.data }, { on := 1, ground := Go.Ground.data }], guard := none }) (v := ?_) rfl (by kernel_rfl) (by kernel_rfl) (by kernel_rfl) (fun _ _ _ h => h) (Or.inl ⟨by rfl, ?_⟩) (by assumption) ?_
        rotate_left
        · (intro w hSw; (try dsimp only at hSw); go_simp; (try (with_reducible rfl)))
        try simp only [Act.put, List.setIfInBounds_toArray, List.set_cons_zero, List.set_cons_succ]
        refine wpAnyH_take (i := 3) (oi := { dst := some 35, op := Go.Op.load 75 (Go.Operand.tmp 34), type := 75, pos := "law.go:63", after := #[{ on := 2, ground := Go.Ground.data }], guard := none }) (v := ?_) rfl (by kernel_rfl) (by kernel_rfl) (by kernel_rfl) (fun _ _ _ h => h) (Or.inl ⟨by rfl, ?_⟩) (by assumption) ?_
        rotate_left
        · (intro w hSw; (try dsimp only at hSw); go_simp; (try (with_reducible rfl)))
        try simp only [Act.put, List.setIfInBounds_toArray, List.set_cons_zero, List.set_cons_succ]
        refine wpAnyH_take (i := 5) (oi := { dst := some 37, op := Go.Op.move (Go.Operand.tmp 5), type := 76, pos := "law.go:63", after := #[], guard := none }) (v := ?_) rfl (by kernel_rfl) (by kernel_rfl) (by kernel_rfl) (fun _ _ _ h => h) (Or.inl ⟨by rfl, ?_⟩) (by assumption) ?_
        rotate_left
        · (intro w hSw; (try dsimp only at hSw); go_simp; (try (with_reducible rfl)))
        try simp only [Act.put, List.setIfInBounds_toArray, List.set_cons_zero, List.set_cons_succ]
        refine wpAnyH_take (i := 6) (oi := { dst := some 38, op := Go.Op.move (Go.Operand.tmp 0), type := 71, pos := "law.go:63", after := #[], guard := none }) (v := ?_) rfl (by kernel_rfl) (by kernel_rfl) (by kernel_rfl) (fun _ _ _ h => h) (Or.inl ⟨by rfl, ?_⟩) (by assumption) ?_
        rotate_left
        · (intro w hSw; (try dsimp only at hSw); go_simp; (try (with_reducible rfl)))
        try simp only [Act.put, List.setIfInBounds_toArray, List.set_cons_zero, List.set_cons_succ]
        refine wpAnyH_take (i := 7) (oi := { dst := some 39, op := Go.Op.move (Go.Operand.tmp 8), type := 3, pos := "law.go:63", after := #[], guard := none }) (v := ?_) rfl (by kernel_rfl) (by kernel_rfl) (by kernel_rfl) (fun _ _ _ h => h) (Or.inl ⟨by rfl, ?_⟩) (by assumption) ?_
        rotate_left
        · (intro w hSw; (try dsimp only at hSw); go_simp; (try (with_reducible rfl)))
        try simp only [Act.put, List.setIfInBounds_toArray, List.set_cons_zero, List.set_cons_succ]
        refine wpAnyH_take (i := 8) (oi := { dst := some 40, op := Go.Op.indexAddr 71 (Go.Operand.tmp 38) (Go.Operand.tmp 39), type := 0, pos := "law.go:63", after := #[{ on := 6, ground := Go.Ground.data }, { on := 7, ground := Go.Ground.data }], guard := none }) (v := ?_) rfl (by kernel_rfl) (by kernel_rfl) (by kernel_rfl) (fun _ _ _ h => h) (Or.inl ⟨by rfl, ?_⟩) (by assumption) ?_
        rotate_left
        · (intro w hSw; (try dsimp only at hSw); go_simp; (try (with_reducible rfl)))
        try simp only [Act.put, List.setIfInBounds_toArray, List.set_cons_zero, List.set_cons_succ]
        refine wpAnyH_take (i := 9) (oi := { dst := some 41, op := Go.Op.load 75 (Go.Operand.tmp 40), type := 75, pos := "law.go:63", after := #[{ on := 8, ground := Go.Ground.data }], guard := none }) (v := ?_) rfl (by kernel_rfl) (by kernel_rfl) (by kernel_rfl) (fun _ _ _ h => h) (Or.inl ⟨by rfl, ?_⟩) (by assumption) ?_
        rotate_left
        · (intro w hSw; (try dsimp only at hSw); go_simp; (try (with_reducible rfl)))
        try simp only [Act.put, List.setIfInBounds_toArray, List.set_cons_zero, List.set_cons_succ]
        refine wpAnyH_ready (rs := [4]) (by kernel_rfl) (by simp) ?_
        refine AllReadyH.cons (o := { dst := some 36, op := Go.Op.call { callee := Go.Callee.value (Go.Operand.func 39), args := #[Go.Operand.tmp 35], argTypes := #[75] }, type := 57, pos := "law.go:63", after := #[{ on := 3, ground := Go.Ground.data }], guard := none }) rfl (fun K hK => ?_) AllReadyH.nil
        go_simp
        refine (lawBytes kk n bA bn bc ys hbx _ (hrd.rw hd)).mono ?_
        rintro e w2 hq
        obtain ⟨v2, rfl, h3, en3⟩ := ResE.lift hd hq
        obtain ⟨A2, n2, c2, rfl, hn2, _⟩ := h3.row_form
        rw [u8s_len, Nat.mul_one] at hn2
        have y0 := h3.cell z0
        have y1 := h3.cell z1
        have y2 := h3.cell z2
        refine hK.out _ _ ⟨y0, y1, y2⟩ (fun hHeld2 => ?_)
        clear hK K hHeld hq
        have hHeld := hHeld2
        clear hHeld2
        try simp only [Act.put, List.setIfInBounds_toArray, List.set_cons_zero, List.set_cons_succ]
        refine wpAnyH_ready (rs := [10]) (by kernel_rfl) (by simp) ?_
        refine AllReadyH.cons (o := { dst := some 42, op := Go.Op.call { callee := Go.Callee.value (Go.Operand.func 44), args := #[Go.Operand.tmp 37, Go.Operand.tmp 41], argTypes := #[76, 75] }, type := 54, pos := "law.go:63", after := #[{ on := 5, ground := Go.Ground.data }, { on := 9, ground := Go.Ground.data }, { on := 4, ground := Go.Ground.chain }], guard := none }) rfl (fun K hK => ?_) AllReadyH.nil
        go_simp
        refine (lawPut p l kk n bA bn bc ys hll H' _ _ (h3.pick 3 (by simp)) (hrd.rw h3)).mono ?_
        rintro e w4 ⟨rfl, en4, hpm⟩
        obtain ⟨H4, hle4, l4, hg4, hent, h4⟩ := putStep hg hnb hpm
        have x0 := h4.cell (Hp.cell_le hle4 z0)
        have x1 := h4.cell (Hp.cell_le hle4 z1)
        have x2 := h4.cell (Hp.cell_le hle4 z2)
        refine hK.out _ _ ⟨x0, x1, x2⟩ (fun hHeld2 => ?_)
        clear hK K hHeld hHeld2 hpm
        have hHeld : (fun w' : World => w'.cell? ⟨b, off + k * 3, none⟩ = some (.int .i64 kk) ∧ w'.cell? ⟨b, off + k * 3 + 1, none⟩ = some (.int .i64 n) ∧ w'.cell? ⟨b, off + k * 3 + 2, none⟩ = some (.slice bA bn bc)) w4 := ⟨x0, x1, x2⟩
        try simp only [Act.put, List.setIfInBounds_toArray, List.set_cons_zero, List.set_cons_succ]
        refine wpAnyH_take (i := 11) (oi := { dst := some 9, op := Go.Op.assign (Go.Operand.tmp 36), type := 57, pos := "law.go:63", after := #[{ on := 4, ground := Go.Ground.data }, { on := 10, ground := Go.Ground.chain }, { on := 0, ground := Go.Ground.phase }, { on := 1, ground := Go.Ground.phase }, { on := 2, ground := Go.Ground.phase }, { on := 3, ground := Go.Ground.phase }, { on := 4, ground := Go.Ground.phase }, { on := 5, ground := Go.Ground.textOnly Go.Departure.lateStores }, { on := 6, ground := Go.Ground.textOnly Go.Departure.lateStores }, { on := 7, ground := Go.Ground.textOnly Go.Departure.lateStores }, { on := 8, ground := Go.Ground.textOnly Go.Departure.lateStores }, { on := 9, ground := Go.Ground.textOnly Go.Departure.lateStores }, { on := 10, ground := Go.Ground.textOnly Go.Departure.lateStoresUnsure }], guard := none }) (v := ?_) rfl (by kernel_rfl) (by kernel_rfl) (by kernel_rfl) (fun _ _ _ h => h) (Or.inl ⟨by rfl, ?_⟩) (by assumption) ?_
        rotate_left
        · (intro w hSw; (try dsimp only at hSw); go_simp; (try (with_reducible rfl)))
        try simp only [Act.put, List.setIfInBounds_toArray, List.set_cons_zero, List.set_cons_succ]
        refine wpAnyH_take (i := 12) (oi := { dst := some 10, op := Go.Op.assign (Go.Operand.tmp 42), type := 54, pos := "law.go:63", after := #[{ on := 10, ground := Go.Ground.data }, { on := 11, ground := Go.Ground.chain }, { on := 0, ground := Go.Ground.phase }, { on := 1, ground := Go.Ground.phase }, { on := 2, ground := Go.Ground.phase }, { on := 3, ground := Go.Ground.phase }, { on := 4, ground := Go.Ground.phase }, { on := 5, ground := Go.Ground.phase }, { on := 6, ground := Go.Ground.phase }, { on := 7, ground := Go.Ground.phase }, { on := 8, ground := Go.Ground.phase }, { on := 9, ground := Go.Ground.phase }, { on := 10, ground := Go.Ground.phase }, { on := 11, ground := Go.Ground.phase }], guard := none }) (v := ?_) rfl (by kernel_rfl) (by kernel_rfl) (by kernel_rfl) (fun _ _ _ h => h) (Or.inl ⟨by rfl, ?_⟩) (by assumption) ?_
        rotate_left
        · (intro w hSw; (try dsimp only at hSw); go_simp; (try (with_reducible rfl)))
        try simp only [Act.put, List.setIfInBounds_toArray, List.set_cons_zero, List.set_cons_succ]
        refine wpAnyH_done (by kernel_rfl) ?_ _
        have en5 := (hen.drew.trans en3).trans en4
        clear hd hst hen h3 en3 en4 q0 q1 q2 hHeld y0 y1 y2 z0 z1 z2 hn0
        cases hnm : norm kk n ys with
        | none =>
          have hl0 : lb kk n ys = [] := by unfold lb; rw [hnm]; rfl
          rw [hl0] at hn2 h4
          have hpe : putE kk n ys = if kk = 1 then 18 else 1 := by unfold putE; rw [hnm]; rfl
          rw [hpe]
          subst hn2
          replace hnm := Lib.hid hnm
          clear hl0 hpe hfl
          by_cases hk1 : kk = 1
          · have b1 : (kk == 1) = true := beq_iff_eq.2 hk1
            rw [if_pos hk1]
            replace hk1 := Lib.hid hk1
            go_wp2_with fail
            go_roundw
            case rel =>
              have h9 := ((h4.swap.drop).pick 2 (by simp)).pick 2 (by simp)
              exact ⟨k + 1, l4, H4, by omega, by go_num, Hp.le_trans hle hle4, hg4, Lib.hid (by rw [hsn.out, hent.out, hen0.out]), by rw [hsn.out]; simp only [hnm.out, Option.toList_none, List.append_nil]; exact h9, en5⟩
            case measure => simp [intOf]; omega
          · have b1 : (kk == 1) = false := beq_eq_false_iff_ne.2 hk1
            rw [if_neg hk1]
            replace hk1 := Lib.hid hk1
            go_wp2_with fail
            go_roundw
            case rel =>
              have h9 := ((h4.swap.drop).pick 2 (by simp)).pick 2 (by simp)
              exact ⟨k + 1, l4, H4, by omega, by go_num, Hp.le_trans hle hle4, hg4, Lib.hid (by rw [hsn.out, hent.out, hen0.out]), by rw [hsn.out]; simp only [hnm.out, Option.toList_none, List.append_nil]; exact h9, en5⟩
            case measure => simp [intOf]; omega
        | some x =>
          have hl0 : lb kk n ys = eb x := by unfold lb; rw [hnm]; rfl
          rw [hl0] at hn2 h4
          have hpe : putE kk n ys = 0 := by unfold putE; rw [hnm]; rfl
          rw [hpe]
          have hxf := norm_fit hnb hnm
          have hxl := (eb_good hxf).2
          have hn0' : (0 : Int) < (n2 : Int) := by omega
          have hz0 : ((n2 : Int) == 0) = false := beq_eq_false_iff_ne.2 (by omega)
          have hsum : (u8s (flat L)).length + (u8s (eb x)).length ≤ 200000 := by rw [u8s_len, u8s_len]; omega
          have hsum2 : (endsV L).length ≤ 200 := by rw [endsV_len]; omega
          replace hnm := Lib.hid hnm
          replace hn2 := Lib.hid hn2
          clear hl0 hxl hfl hpe
          by_cases hk1 : kk = 1
          · have b1 : (kk == 1) = true := beq_iff_eq.2 hk1
            replace hk1 := Lib.hid hk1
            go_wp2_with (at_builtin; refine wpList_append rfl (.tmp 69) (.tmp 70) 57 57 rfl Try.underlying57 (.inl ⟨_, Try.underlying57⟩) (.int .u8 0) 1 wU8 rfl (by decide) (by decide) rfl rfl (h4.pick 2 (by simp)) (News.rw ((h4.pick 1 (by simp)).row_rw (by decide)) (u8s_one _)) ?apB1 ?apK1)
            try case apB1 => first | omega | (simp; omega) | (simp [u8s_len]; omega) | skip
            intro v6 w6 h6 en6
            rw [← u8s_append] at h6
            obtain ⟨A6, n6, c6, rfl, hn6, _⟩ := h6.row_form
            rw [u8s_len, Nat.mul_one, ← flat_one] at hn6
            replace hn6 := Lib.hid hn6
            rw [← flat_one] at h6
            have h7 := h6.pick 3 (by simp)
            replace en6 := en5.trans en6
            go_wp2_with (at_builtin; refine wpList_append rfl (.tmp 72) (.tmp 75) 26 26 rfl Try.underlying26 (.inl ⟨_, Try.underlying26⟩) (.int .i64 0) 8 wInt rfl (by decide) (by decide) rfl rfl (h7.alloc _) (News.newAt _ _ 1 _ _ (by simp) rfl (by simp [Value.oneCell'])) ?apB2 ?apK2)
            try case apB2 => first | omega | (simp; omega) | (simp [endsV_len]; omega) | skip
            intro v8 w8 h8 en8
            go_wp2_with fail
            go_roundw
            case rel =>
              have h9 : St H4 [Row 5 1 (.slice A6 n6 c6) (u8s (flat (L ++ [x]))), Row 3 1 v8 (endsV (L ++ [x])), JA p l4] w8 := by
                rw [endsV_snoc, hn6.out]
                exact (h8.swap.pick 3 (by simp)).drop
              exact ⟨k + 1, l4, H4, by omega, by go_num, Hp.le_trans hle hle4, hg4, Lib.hid (by rw [hsn.out, hent.out, hen0.out]), by rw [hsn.out]; simp only [hnm.out, Option.toList_some]; exact h9, (en6.alloc _).trans en8⟩
            case measure => simp [intOf]; omega
          · have b1 : (kk == 1) = false := beq_eq_false_iff_ne.2 hk1
            replace hk1 := Lib.hid hk1
            go_wp2_with (at_builtin; refine wpList_append rfl (.tmp 69) (.tmp 70) 57 57 rfl Try.underlying57 (.inl ⟨_, Try.underlying57⟩) (.int .u8 0) 1 wU8 rfl (by decide) (by decide) rfl rfl (h4.pick 2 (by simp)) (News.rw ((h4.pick 1 (by simp)).row_rw (by decide)) (u8s_one _)) ?apB3 ?apK3)
            try case apB3 => first | omega | (simp; omega) | (simp [u8s_len]; omega) | skip
            intro v6 w6 h6 en6
            rw [← u8s_append] at h6
            obtain ⟨A6, n6, c6, rfl, hn6, _⟩ := h6.row_form
            rw [u8s_len, Nat.mul_one, ← flat_one] at hn6
            replace hn6 := Lib.hid hn6
            rw [← flat_one] at h6
            have h7 := h6.pick 3 (by simp)
            replace en6 := en5.trans en6
            go_wp2_with (at_builtin; refine wpList_append rfl (.tmp 72) (.tmp 75) 26 26 rfl Try.underlying26 (.inl ⟨_, Try.underlying26⟩) (.int .i64 0) 8 wInt rfl (by decide) (by decide) rfl rfl (h7.alloc _) (News.newAt _ _ 1 _ _ (by simp) rfl (by simp [Value.oneCell'])) ?apB4 ?apK4)
            try case apB4 => first | omega | (simp; omega) | (simp [endsV_len]; omega) | skip
            intro v8 w8 h8 en8
            go_wp2_with fail
            go_roundw
            case rel =>
              have h9 : St H4 [Row 5 1 (.slice A6 n6 c6) (u8s (flat (L ++ [x]))), Row 3 1 v8 (endsV (L ++ [x])), JA p l4] w8 := by
                rw [endsV_snoc, hn6.out]
                exact (h8.swap.pick 3 (by simp)).drop
              exact ⟨k + 1, l4, H4, by omega, by go_num, Hp.le_trans hle hle4, hg4, Lib.hid (by rw [hsn.out, hent.out, hen0.out]), by rw [hsn.out]; simp only [hnm.out, Option.toList_some]; exact h9, (en6.alloc _).trans en8⟩
            case measure => simp [intOf]; omega
      · obtain rfl : k = X.length := by omega
        rw [List.take_length] at hst hen0
        have hgl := gs_len X X.length
        rw [List.take_length] at hgl
        clear hrow hels
        generalize gs X = L at *
        have hbf := flat_byte hfitA
        obtain ⟨H1, m1, h3, rW⟩ := hst.row_keep
        replace hg := hg.mono m1
        replace hle := Hp.le_trans hle m1
        have hFl : (flat L).length ≤ 200000 := by have := (flatJ_len hfitA).2; omega
        obtain ⟨A7, n7, c7, rfl, hn7, hnc7, hcM7⟩ := rW.form
        rw [u8s_len, Nat.mul_one] at hn7
        obtain ⟨A8, n8, c8, rfl, hn8, hnc8, hcM8⟩ := h3.row_form
        rw [endsV_len, Nat.mul_one] at hn8
        simp only [maxLen] at hcM7 hcM8
        have hll : l.length ≤ 65536 := by have := congrArg List.length hen0.out; rw [ents_len] at this; omega
        have hlL : l.length = L.length := by have := congrArg List.length hen0.out; rw [ents_len] at this; exact this
        have hn8p : 0 < n8 := by omega
        obtain ⟨eb, eo, rfl, _⟩ := (h3.row_rw (by decide)).cells hn8p
        rename_i hdrop
        clear hdrop
        have hends : ∀ (i : Nat), i ≤ L.length → ∀ (H : Hp) (l : List HA) (w : World), St H (Row 3 1 (.slice (some ⟨eb, eo, none⟩) n8 c8) (endsV L) :: l) w → w.cell? ⟨eb, eo + i, none⟩ = some (.int .i64 ((flat (L.take i)).length : Int)) := fun i hi H l w h => by
          obtain ⟨b, o, hA, hc⟩ := (h.row_rw (by decide)).cells hn8p
          cases hA
          exact hc _ _ (endsV_get L i hi)
        replace hends := Lib.hid hends
        have hBy := fun w h => jBytes p l H1 hg hll [Row 3 1 (.slice (some ⟨eb, eo, none⟩) n8 c8) (endsV L)] w h
        rw [hen0.out] at hBy
        replace hBy := Lib.hid hBy
        go_wp2_with fail
        have hd := (h3.swap).drew
        have hc0 := conv_rw (P := Try.prog) (rW.rw hd) 57 9 Try.underlying57 Try.underlying5 Try.underlying9
        have hlI : (l.length : Int) = (n8 : Int) - 1 := by omega
        have hbne : ((l.length : Int) != (n8 : Int) - 1) = false := by rw [bne_eq_false_iff_eq]; exact hlI
        have hwr : IntKind.i64.wrap ((n8 : Int) - 1) = (n8 : Int) - 1 := by rw [IntKind.wrap_i64]; omega
        have hn7b : (n7 : Int) ≤ 1000000 := by omega
        have hn8b : (n8 : Int) ≤ 1000000 := by omega
        replace hn7 := Lib.hid hn7
        replace hn8 := Lib.hid hn8
        replace hlI := Lib.hid hlI
        replace hlL := Lib.hid hlL
        refine wp_region_held_drew (S := (fun w' : World => (convert 57 9 (.slice A7 n7 c7)).run Try.prog w' = .ok (.string (strOfNums (flat L))) w')) (by kernel_rfl) hc0 (fun hHeld => ?_)
        refine wpAnyH_take (i := 0) (oi := { dst := some 77, op := Go.Op.move (Go.Operand.tmp 5), type := 76, pos := "law.go:76", after := #[], guard := none }) (v := ?_) rfl (by kernel_rfl) (by kernel_rfl) (by kernel_rfl) (fun _ _ _ h => h) (Or.inl ⟨by rfl, ?_⟩) (by assumption) ?_
        rotate_left
        · (intro w hSw; (try dsimp only at hSw); go_simp; (try (with_reducible rfl)))
        try simp only [Act.put, List.setIfInBounds_toArray, List.set_cons_zero, List.set_cons_succ]
        refine wpAnyH_take (i := 3) (oi := { dst := some 80, op := Go.Op.move (Go.Operand.tmp 6), type := 57, pos := "law.go:76", after := #[], guard := none }) (v := ?_) rfl (by kernel_rfl) (by kernel_rfl) (by kernel_rfl) (fun _ _ _ h => h) (Or.inl ⟨by rfl, ?_⟩) (by assumption) ?_
        rotate_left
        · (intro w hSw; (try dsimp only at hSw); go_simp; (try (with_reducible rfl)))
        try simp only [Act.put, List.setIfInBounds_toArray, List.set_cons_zero, List.set_cons_succ]
        refine wpAnyH_take (i := 4) (oi := { dst := some 81, op := Go.Op.convert 57 9 (Go.Operand.tmp 80), type := 9, pos := "law.go:76", after := #[{ on := 3, ground := Go.Ground.data }], guard := none }) (v := ?_) rfl (by kernel_rfl) (by kernel_rfl) (by kernel_rfl) (fun _ _ _ h => h) (Or.inl ⟨by rfl, ?_⟩) (by assumption) ?_
        rotate_left
        · (intro w hSw; (try dsimp only at hSw); go_simp; (try (with_reducible rfl)))
        try simp only [Act.put, List.setIfInBounds_toArray, List.set_cons_zero, List.set_cons_succ]
        refine wpAnyH_ready (rs := [1]) (by kernel_rfl) (by simp) ?_
        refine AllReadyH.cons (o := { dst := some 78, op := Go.Op.call { callee := Go.Callee.value (Go.Operand.func 42), args := #[Go.Operand.tmp 77], argTypes := #[76] }, type := 57, pos := "law.go:76", after := #[{ on := 0, ground := Go.Ground.data }], guard := none }) rfl (fun K hK => ?_) AllReadyH.nil
        go_simp
        refine (hBy.out _ hd).mono ?_
        rintro e w9 hq
        obtain ⟨v9, rfl, h9, en9⟩ := ResE.lift hd hq
        obtain ⟨A9, n9, c9, rfl, _⟩ := h9.row_form
        have hc1 := conv_rw (P := Try.prog) (h9.row_rw (by decide)) 57 9 Try.underlying57 Try.underlying5 Try.underlying9
        have hc2 := conv_rw (P := Try.prog) (rW.rw h9) 57 9 Try.underlying57 Try.underlying5 Try.underlying9
        have hJL := jLen p l H1 _ _ (h9.pick 1 (by simp))
        rw [hlI.out] at hJL
        refine hK.out _ _ hc2 (fun hHeld2 => ?_)
        clear hK K hHeld hHeld2 hq
        refine wpAnyH_mono (S := (fun w' : World => (convert 57 9 (.slice A9 n9 c9)).run Try.prog w' = .ok (.string (strOfNums (flat L))) w' ∧ (convert 57 9 (.slice A7 n7 c7)).run Try.prog w' = .ok (.string (strOfNums (flat L))) w')) (fun _ h => h.2) _ _ _ _ ?_
        have hHeld : (fun w' : World => (convert 57 9 (.slice A9 n9 c9)).run Try.prog w' = .ok (.string (strOfNums (flat L))) w' ∧ (convert 57 9 (.slice A7 n7 c7)).run Try.prog w' = .ok (.string (strOfNums (flat L))) w') w9 := ⟨hc1, hc2⟩
        try simp only [Act.put, List.setIfInBounds_toArray, List.set_cons_zero, List.set_cons_succ]
        refine wpAnyH_take (i := 2) (oi := { dst := some 79, op := Go.Op.convert 57 9 (Go.Operand.tmp 78), type := 9, pos := "law.go:76", after := #[{ on := 1, ground := Go.Ground.data }], guard := none }) (v := ?_) rfl (by kernel_rfl) (by kernel_rfl) (by kernel_rfl) (fun _ _ _ h => h) (Or.inl ⟨by rfl, ?_⟩) (by assumption) ?_
        rotate_left
        · (intro w hSw; (try dsimp only at hSw); go_simp; (try (with_reducible rfl)))
        try simp only [Act.put, List.setIfInBounds_toArray, List.set_cons_zero, List.set_cons_succ]
        refine wpAnyH_take (i := 5) (oi := { dst := some 82, op := Go.Op.binOp Go.BinOp.neq 9 (Go.Operand.tmp 79) (Go.Operand.tmp 81) 9, type := 4, pos := "law.go:76", after := #[{ on := 2, ground := Go.Ground.data }, { on := 4, ground := Go.Ground.data }], guard := none }) (v := ?_) rfl (by kernel_rfl) (by kernel_rfl) (by kernel_rfl) (fun _ _ _ h => h) (Or.inl ⟨by rfl, ?_⟩) (by assumption) ?_
        rotate_left
        · (intro w hSw; (try dsimp only at hSw); go_simp; (try (with_reducible rfl)))
        try simp only [Act.put, List.setIfInBounds_toArray, List.set_cons_zero, List.set_cons_succ]
        refine wpAnyH_take (i := 6) (oi := { dst := some 83, op := Go.Op.move (Go.Operand.tmp 82), type := 4, pos := "law.go:76", after := #[{ on := 5, ground := Go.Ground.data }, { on := 1, ground := Go.Ground.chain }], guard := none }) (v := ?_) rfl (by kernel_rfl) (by kernel_rfl) (by kernel_rfl) (fun _ _ _ h => h) (Or.inl ⟨by rfl, ?_⟩) (by assumption) ?_
        rotate_left
        · (intro w hSw; (try dsimp only at hSw); go_simp; (try (with_reducible rfl)))
        try simp only [Act.put, List.setIfInBounds_toArray, List.set_cons_zero, List.set_cons_succ]
        refine wpAnyH_take (i := 7) (oi := { dst := some 84, op := Go.Op.move (Go.Operand.tmp 5), type := 76, pos := "law.go:76", after := #[{ on := 6, ground := Go.Ground.guard }], guard := some (6, false) }) (v := ?_) rfl (by kernel_rfl) (by kernel_rfl) (by kernel_rfl) (fun _ _ _ h => h) (Or.inl ⟨by rfl, ?_⟩) (by assumption) ?_
        rotate_left
        · (intro w hSw; (try dsimp only at hSw); go_simp; (try (with_reducible rfl)))
        try simp only [Act.put, List.setIfInBounds_toArray, List.set_cons_zero, List.set_cons_succ]
        refine wpAnyH_take (i := 9) (oi := { dst := some 86, op := Go.Op.move (Go.Operand.tmp 7), type := 26, pos := "law.go:76", after := #[{ on := 6, ground := Go.Ground.guard }], guard := some (6, false) }) (v := ?_) rfl (by kernel_rfl) (by kernel_rfl) (by kernel_rfl) (fun _ _ _ h => h) (Or.inl ⟨by rfl, ?_⟩) (by assumption) ?_
        rotate_left
        · (intro w hSw; (try dsimp only at hSw); go_simp; (try (with_reducible rfl)))
        try simp only [Act.put, List.setIfInBounds_toArray, List.set_cons_zero, List.set_cons_succ]
        refine wpAnyH_take (i := 10) (oi := { dst := some 87, op := Go.Op.call { callee := Go.Callee.builtin Go.Builtin.len, args := #[Go.Operand.tmp 86], argTypes := #[26] }, type := 3, pos := "law.go:76", after := #[{ on := 9, ground := Go.Ground.data }, { on := 6, ground := Go.Ground.guard }], guard := some (6, false) }) (v := ?_) rfl (by kernel_rfl) (by kernel_rfl) (by kernel_rfl) (fun _ _ _ h => h) (Or.inl ⟨by rfl, ?_⟩) (by assumption) ?_
        rotate_left
        · (intro w hSw; (try dsimp only at hSw); go_simp; (try (with_reducible rfl)))
        try simp only [Act.put, List.setIfInBounds_toArray, List.set_cons_zero, List.set_cons_succ]
        refine wpAnyH_take (i := 11) (oi := { dst := some 88, op := Go.Op.binOp Go.BinOp.sub 3 (Go.Operand.tmp 87) (Go.Operand.const (Go.Value.int Go.IntKind.i64 1)) 3, type := 3, pos := "law.go:76", after := #[{ on := 10, ground := Go.Ground.data }, { on := 6, ground := Go.Ground.guard }], guard := some (6, false) }) (v := ?_) rfl (by kernel_rfl) (by kernel_rfl) (by kernel_rfl) (fun _ _ _ h => h) (Or.inl ⟨by rfl, ?_⟩) (by assumption) ?_
        rotate_left
        · (intro w hSw; (try dsimp only at hSw); go_simp; (try (with_reducible rfl)))
        try simp only [Act.put, List.setIfInBounds_toArray, List.set_cons_zero, List.set_cons_succ]
        refine wpAnyH_ready (rs := [8]) (by kernel_rfl) (by simp) ?_
        refine AllReadyH.cons (o := { dst := some 85, op := Go.Op.call { callee := Go.Callee.value (Go.Operand.func 41), args := #[Go.Operand.tmp 84], argTypes := #[76] }, type := 3, pos := "law.go:76", after := #[{ on := 7, ground := Go.Ground.data }, { on := 6, ground := Go.Ground.chain }, { on := 6, ground := Go.Ground.guard }], guard := some (6, false) }) rfl (fun K hK => ?_) AllReadyH.nil
        go_simp
        refine hJL.mono ?_
        rintro e w10 ⟨rfl, rfl⟩
        refine hK.out _ _ ⟨hc1, hc2⟩ (fun hHeld2 => ?_)
        clear hK K hHeld2
        try simp only [Act.put, List.setIfInBounds_toArray, List.set_cons_zero, List.set_cons_succ]
        refine wpAnyH_take (i := 12) (oi := { dst := some 89, op := Go.Op.binOp Go.BinOp.neq 3 (Go.Operand.tmp 85) (Go.Operand.tmp 88) 3, type := 4, pos := "law.go:76", after := #[{ on := 8, ground := Go.Ground.data }, { on := 11, ground := Go.Ground.data }, { on := 6, ground := Go.Ground.guard }], guard := some (6, false) }) (v := ?_) rfl (by kernel_rfl) (by kernel_rfl) (by kernel_rfl) (fun _ _ _ h => h) (Or.inl ⟨by rfl, ?_⟩) (by assumption) ?_
        rotate_left
        · (intro w hSw; (try dsimp only at hSw); go_simp; (try (with_reducible rfl)))
        try simp only [Act.put, List.setIfInBounds_toArray, List.set_cons_zero, List.set_cons_succ]
        refine wpAnyH_take (i := 13) (oi := { dst := some 90, op := Go.Op.pick (Go.Operand.tmp 83) (Go.Operand.const (Go.Value.bool true)) (Go.Operand.tmp 89), type := 4, pos := "law.go:76", after := #[{ on := 6, ground := Go.Ground.data }, { on := 12, ground := Go.Ground.data }], guard := none }) (v := ?_) rfl (by kernel_rfl) (by kernel_rfl) (by kernel_rfl) (fun _ _ _ h => h) (Or.inl ⟨by rfl, ?_⟩) (by assumption) ?_
        rotate_left
        · (intro w hSw; (try dsimp only at hSw); go_simp; (try (with_reducible rfl)))
        try simp only [Act.put, List.setIfInBounds_toArray, List.set_cons_zero, List.set_cons_succ]
        refine wpAnyH_done (by kernel_rfl) ?_ _
        have en1 := hen.drew.trans en9
        clear hwr en9 hc1 hc2 hc0 hJL hd h3 hst hHeld hBy hen
        obtain ⟨C, hP⟩ : ∃ C, C = cut % (n7 + 1) := ⟨_, rfl⟩
        have hCl : C ≤ n7 := by rw [hP]; exact Nat.le_of_lt_succ (Nat.mod_lt cut (Nat.succ_pos n7))
        have hmod : (cut : Int) % ((n7 : Int) + 1) = (C : Int) := by rw [hP, Int.natCast_emod]; rfl
        have hn7p : (0 : Int) < (n7 : Int) + 1 := by omega
        have hCI : (C : Int) ≤ (n7 : Int) := by omega
        have hnz : ¬ ((n7 : Int) + 1 = 0) := by omega
        have hnz' : (((n7 : Int) + 1) == 0) = false := beq_eq_false_iff_ne.2 hnz
        have hCc : (C : Int) ≤ (c7 : Int) := by omega
        have rT := rW.take C hCl
        rw [Nat.mul_one, u8s_take] at rT
        replace hP := Lib.hid hP
        go_wp2_with fail
        go_loop [13] (fun s13 => ∃ k : Nat, s13 = .int .i64 (k : Int) ∧ k ≤ L.length ∧ (flat (L.take k)).length ≤ C) (fun s13 => L.length - (intOf s13).toNat)
        case atStart => exact ⟨0, rfl, Nat.zero_le _, Nat.zero_le _⟩
        case round =>
          obtain ⟨k, rfl, hk, hkC⟩ := hrel
          by_cases h1 : k + 1 < n8
          · have qe := hends.out (k + 1) (by rw [← hn8.out] at h1; omega) _ _ _ (h9.pick 2 (by simp))
            have h1I : (k : Int) + 1 < (n8 : Int) := by omega
            by_cases h2 : (flat (L.take (k + 1))).length ≤ C
            · have h2I : (((flat (L.take (k + 1))).length : Nat) : Int) ≤ (C : Int) := by omega
              have hk1 : k + 1 ≤ L.length := by rw [← hn8.out] at h1; omega
              go_wp2_with fail
              go_round
              case rel => exact ⟨k + 1, by go_num, hk1, h2⟩
              case measure => simp [intOf]; omega
            · have h2I : ¬ (((flat (L.take (k + 1))).length : Nat) : Int) ≤ (C : Int) := by omega
              have hx : k < L.length → C < (flat (L.take (k + 1))).length := fun _ => by omega
              replace hP := Lib.hid hP
              go_wp2_with fail
              refine (load_any A7 C c7 _ (hbf.take C) (by rw [List.length_take]; omega) H1 _ w9 (h9.drop.drop) rT).mono ?_
              rintro e w6 ⟨p6, l6, j, e6, H6, rfl, m6, h6, en6, hg6, ld⟩
              have en7 := en1.trans en6
              obtain ⟨g1, g2, g3⟩ := partF L hfitA C (by have := hn7.out; omega) k hk hkC hx (ents l6) j e6 ld
              have hlk : l6.length = k := by have := congrArg List.length g1; rw [ents_len, List.length_take, Nat.min_eq_left hk] at this; exact this
              have f4 : flat (ents l6) = (flat L).take j := by
                rw [g1, g2]
                have hs : flat L = flat (L.take k) ++ flat (L.drop k) := by rw [← flat_app, List.take_append_drop]
                have h := congrArg (List.take (flat (L.take k)).length) hs
                rw [List.take_left] at h
                exact h.symm
              have hm : Hid ((((flat (L.take k)).length : Nat) : Int) = (j : Int)) := Lib.hid (by rw [g2])
              have hks : Hid (k ≤ L.length) := Lib.hid hk
              have hjn : j ≤ n7 := by have := hn7.out; omega
              have hjc : (j : Int) ≤ (c7 : Int) := by omega
              have hjI : (j : Int) ≤ (n7 : Int) := by omega
              have hkI : (k : Int) < (n8 : Int) := by have := hn8.out; omega
              have hk0 : (0 : Int) ≤ (k : Int) := by omega
              have hBy := fun w h => jBytes p6 l6 H6 hg6 (by rw [hlk]; have := hn8.out; omega) [Row 3 1 (.slice (some ⟨eb, eo, none⟩) n8 c8) (endsV L)] w h
              rw [f4] at hBy
              have hAl : ∀ (l : List HA) (w : World), St H6 l w → (convert 57 9 (.slice A7 j c7)).run Try.prog w = .ok (.string (strOfNums ((flat L).take j))) w := fun l w h => by
                have hr := (((rW.mono m6).rw h).upto j hjn)
                rw [Nat.mul_one, u8s_take] at hr
                exact conv_rw hr 57 9 Try.underlying57 Try.underlying5 Try.underlying9
              replace hBy := Lib.hid hBy
              replace hAl := Lib.hid hAl
              have qk6 := hends.out k hk _ _ _ h6.swap
              rw [hm.out] at qk6
              have q6l := World.block_lt_of_cell? _ _ qk6
              have h7 := h6.drew
              have hc0 := hAl.out _ _ h7
              have qk := hends.out k hk _ _ _ h7.swap
              rw [hm.out] at qk
              have hJL := jLen p6 l6 H6 _ _ h7
              rw [hlk] at hJL
              rw [← g2] at g3
              generalize (flat L).take j = T at *
              replace hlk := Lib.hid hlk
              clear g1 g2 f4 ld hx hkC rT
              have hleA := Hp.le_trans hle m6
              by_cases hjC : j = C
              · rw [if_pos hjC] at g3
                subst g3
                have bjC : ((j : Int) == (C : Int)) = true := beq_iff_eq.2 (by omega)
                replace hjC := Lib.hid hjC
                go_wp2_with fail
                refine wp_region_held_drew (S := (fun w' : World => w'.cell? ⟨eb, eo + k, none⟩ = some (.int .i64 (j : Int)) ∧ (convert 57 9 (.slice A7 j c7)).run Try.prog w' = .ok (.string (strOfNums T)) w')) (by kernel_rfl) ⟨qk, hc0⟩ (fun hHeld => ?_)
                refine wpAnyH_take (i := 0) (oi := { dst := some 127, op := Go.Op.move (Go.Operand.tmp 15), type := 3, pos := "law.go:90", after := #[], guard := none }) (v := ?_) rfl (by kernel_rfl) (by kernel_rfl) (by kernel_rfl) (fun _ _ _ h => h) (Or.inl ⟨by rfl, ?_⟩) (by assumption) ?_
                rotate_left
                · (intro w hSw; (try dsimp only at hSw); go_simp; (try (with_reducible rfl)))
                try simp only [Act.put, List.setIfInBounds_toArray, List.set_cons_zero, List.set_cons_succ]
                refine wpAnyH_take (i := 1) (oi := { dst := some 128, op := Go.Op.move (Go.Operand.tmp 7), type := 26, pos := "law.go:90", after := #[], guard := none }) (v := ?_) rfl (by kernel_rfl) (by kernel_rfl) (by kernel_rfl) (fun _ _ _ h => h) (Or.inl ⟨by rfl, ?_⟩) (by assumption) ?_
                rotate_left
                · (intro w hSw; (try dsimp only at hSw); go_simp; (try (with_reducible rfl)))
                try simp only [Act.put, List.setIfInBounds_toArray, List.set_cons_zero, List.set_cons_succ]
                refine wpAnyH_take (i := 2) (oi := { dst := some 129, op := Go.Op.move (Go.Operand.tmp 13), type := 3, pos := "law.go:90", after := #[], guard := none }) (v := ?_) rfl (by kernel_rfl) (by kernel_rfl) (by kernel_rfl) (fun _ _ _ h => h) (Or.inl ⟨by rfl, ?_⟩) (by assumption) ?_
                rotate_left
                · (intro w hSw; (try dsimp only at hSw); go_simp; (try (with_reducible rfl)))
                try simp only [Act.put, List.setIfInBounds_toArray, List.set_cons_zero, List.set_cons_succ]
                refine wpAnyH_take (i := 3) (oi := { dst := some 130, op := Go.Op.indexAddr 26 (Go.Operand.tmp 128) (Go.Operand.tmp 129), type := 0, pos := "law.go:90", after := #[{ on := 1, ground := Go.Ground.data }, { on := 2, ground := Go.Ground.data }], guard := none }) (v := ?_) rfl (by kernel_rfl) (by kernel_rfl) (by kernel_rfl) (fun _ _ _ h => h) (Or.inl ⟨by rfl, ?_⟩) (by assumption) ?_
                rotate_left
                · (intro w hSw; (try dsimp only at hSw); go_simp; (try (with_reducible rfl)))
                try simp only [Act.put, List.setIfInBounds_toArray, List.set_cons_zero, List.set_cons_succ]
                refine wpAnyH_take (i := 4) (oi := { dst := some 131, op := Go.Op.load 3 (Go.Operand.tmp 130), type := 3, pos := "law.go:90", after := #[{ on := 3, ground := Go.Ground.data }], guard := none }) (v := ?_) rfl (by kernel_rfl) (by kernel_rfl) (by kernel_rfl) (fun _ _ _ h => h) (Or.inl ⟨by rfl, ?_⟩) (by assumption) ?_
                rotate_left
                · (intro w hSw; (try dsimp only at hSw); go_simp; (try (with_reducible rfl)))
                try simp only [Act.put, List.setIfInBounds_toArray, List.set_cons_zero, List.set_cons_succ]
                refine wpAnyH_take (i := 5) (oi := { dst := some 132, op := Go.Op.binOp Go.BinOp.eql 3 (Go.Operand.tmp 127) (Go.Operand.tmp 131) 3, type := 4, pos := "law.go:90", after := #[{ on := 0, ground := Go.Ground.data }, { on := 4, ground := Go.Ground.data }], guard := none }) (v := ?_) rfl (by kernel_rfl) (by kernel_rfl) (by kernel_rfl) (fun _ _ _ h => h) (Or.inl ⟨by rfl, ?_⟩) (by assumption) ?_
                rotate_left
                · (intro w hSw; (try dsimp only at hSw); go_simp; (try (with_reducible rfl)))
                try simp only [Act.put, List.setIfInBounds_toArray, List.set_cons_zero, List.set_cons_succ]
                refine wpAnyH_take (i := 6) (oi := { dst := some 133, op := Go.Op.move (Go.Operand.tmp 132), type := 4, pos := "law.go:90", after := #[{ on := 5, ground := Go.Ground.data }], guard := none }) (v := ?_) rfl (by kernel_rfl) (by kernel_rfl) (by kernel_rfl) (fun _ _ _ h => h) (Or.inl ⟨by rfl, ?_⟩) (by assumption) ?_
                rotate_left
                · (intro w hSw; (try dsimp only at hSw); go_simp; (try (with_reducible rfl)))
                try simp only [Act.put, List.setIfInBounds_toArray, List.set_cons_zero, List.set_cons_succ]
                refine wpAnyH_take (i := 7) (oi := { dst := some 134, op := Go.Op.move (Go.Operand.tmp 16), type := 54, pos := "law.go:90", after := #[{ on := 6, ground := Go.Ground.guard }], guard := some (6, true) }) (v := ?_) rfl (by kernel_rfl) (by kernel_rfl) (by kernel_rfl) (fun _ _ _ h => h) (Or.inl ⟨by rfl, ?_⟩) (by assumption) ?_
                rotate_left
                · (intro w hSw; (try dsimp only at hSw); go_simp; (try (with_reducible rfl)))
                try simp only [Act.put, List.setIfInBounds_toArray, List.set_cons_zero, List.set_cons_succ]
                refine wpAnyH_take (i := 8) (oi := { dst := some 135, op := Go.Op.move (Go.Operand.tmp 17), type := 54, pos := "law.go:90", after := #[{ on := 6, ground := Go.Ground.guard }], guard := some (6, true) }) (v := ?_) rfl (by kernel_rfl) (by kernel_rfl) (by kernel_rfl) (fun _ _ _ h => h) (Or.inl ⟨by rfl, ?_⟩) (by assumption) ?_
                rotate_left
                · (intro w hSw; (try dsimp only at hSw); go_simp; (try (with_reducible rfl)))
                try simp only [Act.put, List.setIfInBounds_toArray, List.set_cons_zero, List.set_cons_succ]
                refine wpAnyH_take (i := 9) (oi := { dst := some 136, op := Go.Op.binOp Go.BinOp.eql 54 (Go.Operand.tmp 134) (Go.Operand.tmp 135) 54, type := 4, pos := "law.go:90", after := #[{ on := 7, ground := Go.Ground.data }, { on := 8, ground := Go.Ground.data }, { on := 6, ground := Go.Ground.guard }], guard := some (6, true) }) (v := ?_) rfl (by kernel_rfl) (by kernel_rfl) (by kernel_rfl) (fun _ _ _ h => h) (Or.inl ⟨by rfl, ?_⟩) (by assumption) ?_
                rotate_left
                · (intro w hSw; (try dsimp only at hSw); go_simp; (try (with_reducible rfl)))
                try simp only [Act.put, List.setIfInBounds_toArray, List.set_cons_zero, List.set_cons_succ]
                refine wpAnyH_take (i := 10) (oi := { dst := some 137, op := Go.Op.pick (Go.Operand.tmp 133) (Go.Operand.tmp 136) (Go.Operand.const (Go.Value.bool false)), type := 4, pos := "law.go:90", after := #[{ on := 6, ground := Go.Ground.data }, { on := 9, ground := Go.Ground.data }], guard := none }) (v := ?_) rfl (by kernel_rfl) (by kernel_rfl) (by kernel_rfl) (fun _ _ _ h => h) (Or.inl ⟨by rfl, ?_⟩) (by assumption) ?_
                rotate_left
                · (intro w hSw; (try dsimp only at hSw); go_simp; (try (with_reducible rfl)))
                try simp only [Act.put, List.setIfInBounds_toArray, List.set_cons_zero, List.set_cons_succ]
                refine wpAnyH_take (i := 11) (oi := { dst := some 138, op := Go.Op.move (Go.Operand.tmp 137), type := 4, pos := "law.go:90", after := #[{ on := 10, ground := Go.Ground.data }, { on := 6, ground := Go.Ground.chain }], guard := none }) (v := ?_) rfl (by kernel_rfl) (by kernel_rfl) (by kernel_rfl) (fun _ _ _ h => h) (Or.inl ⟨by rfl, ?_⟩) (by assumption) ?_
                rotate_left
                · (intro w hSw; (try dsimp only at hSw); go_simp; (try (with_reducible rfl)))
                try simp only [Act.put, List.setIfInBounds_toArray, List.set_cons_zero, List.set_cons_succ]
                refine wpAnyH_take (i := 12) (oi := { dst := some 139, op := Go.Op.move (Go.Operand.tmp 14), type := 76, pos := "law.go:90", after := #[{ on := 11, ground := Go.Ground.guard }], guard := some (11, true) }) (v := ?_) rfl (by kernel_rfl) (by kernel_rfl) (by kernel_rfl) (fun _ _ _ h => h) (Or.inl ⟨by rfl, ?_⟩) (by assumption) ?_
                rotate_left
                · (intro w hSw; (try dsimp only at hSw); go_simp; (try (with_reducible rfl)))
                try simp only [Act.put, List.setIfInBounds_toArray, List.set_cons_zero, List.set_cons_succ]
                refine wpAnyH_take (i := 14) (oi := { dst := some 141, op := Go.Op.move (Go.Operand.tmp 13), type := 3, pos := "law.go:90", after := #[{ on := 11, ground := Go.Ground.guard }], guard := some (11, true) }) (v := ?_) rfl (by kernel_rfl) (by kernel_rfl) (by kernel_rfl) (fun _ _ _ h => h) (Or.inl ⟨by rfl, ?_⟩) (by assumption) ?_
                rotate_left
                · (intro w hSw; (try dsimp only at hSw); go_simp; (try (with_reducible rfl)))
                try simp only [Act.put, List.setIfInBounds_toArray, List.set_cons_zero, List.set_cons_succ]
                refine wpAnyH_ready (rs := [13]) (by kernel_rfl) (by simp) ?_
                refine AllReadyH.cons (o := { dst := some 140, op := Go.Op.call { callee := Go.Callee.value (Go.Operand.func 41), args := #[Go.Operand.tmp 139], argTypes := #[76] }, type := 3, pos := "law.go:90", after := #[{ on := 12, ground := Go.Ground.data }, { on := 11, ground := Go.Ground.chain }, { on := 11, ground := Go.Ground.guard }], guard := some (11, true) }) rfl (fun K hK => ?_) AllReadyH.nil
                go_simp
                refine hJL.mono ?_
                rintro e w9 ⟨rfl, rfl⟩
                refine hK.out _ _ ⟨qk, hc0⟩ (fun hHeld2 => ?_)
                clear hK K hHeld2
                try simp only [Act.put, List.setIfInBounds_toArray, List.set_cons_zero, List.set_cons_succ]
                refine wpAnyH_take (i := 15) (oi := { dst := some 142, op := Go.Op.binOp Go.BinOp.eql 3 (Go.Operand.tmp 140) (Go.Operand.tmp 141) 3, type := 4, pos := "law.go:90", after := #[{ on := 13, ground := Go.Ground.data }, { on := 14, ground := Go.Ground.data }, { on := 11, ground := Go.Ground.guard }], guard := some (11, true) }) (v := ?_) rfl (by kernel_rfl) (by kernel_rfl) (by kernel_rfl) (fun _ _ _ h => h) (Or.inl ⟨by rfl, ?_⟩) (by assumption) ?_
                rotate_left
                · (intro w hSw; (try dsimp only at hSw); go_simp; (try (with_reducible rfl)))
                try simp only [Act.put, List.setIfInBounds_toArray, List.set_cons_zero, List.set_cons_succ]
                refine wpAnyH_take (i := 16) (oi := { dst := some 143, op := Go.Op.pick (Go.Operand.tmp 138) (Go.Operand.tmp 142) (Go.Operand.const (Go.Value.bool false)), type := 4, pos := "law.go:90", after := #[{ on := 11, ground := Go.Ground.data }, { on := 15, ground := Go.Ground.data }], guard := none }) (v := ?_) rfl (by kernel_rfl) (by kernel_rfl) (by kernel_rfl) (fun _ _ _ h => h) (Or.inl ⟨by rfl, ?_⟩) (by assumption) ?_
                rotate_left
                · (intro w hSw; (try dsimp only at hSw); go_simp; (try (with_reducible rfl)))
                try simp only [Act.put, List.setIfInBounds_toArray, List.set_cons_zero, List.set_cons_succ]
                refine wpAnyH_take (i := 17) (oi := { dst := some 144, op := Go.Op.move (Go.Operand.tmp 143), type := 4, pos := "law.go:90", after := #[{ on := 16, ground := Go.Ground.data }, { on := 13, ground := Go.Ground.chain }], guard := none }) (v := ?_) rfl (by kernel_rfl) (by kernel_rfl) (by kernel_rfl) (fun _ _ _ h => h) (Or.inl ⟨by rfl, ?_⟩) (by assumption) ?_
                rotate_left
                · (intro w hSw; (try dsimp only at hSw); go_simp; (try (with_reducible rfl)))
                try simp only [Act.put, List.setIfInBounds_toArray, List.set_cons_zero, List.set_cons_succ]
                refine wpAnyH_take (i := 18) (oi := { dst := some 145, op := Go.Op.move (Go.Operand.tmp 14), type := 76, pos := "law.go:90", after := #[{ on := 17, ground := Go.Ground.guard }], guard := some (17, true) }) (v := ?_) rfl (by kernel_rfl) (by kernel_rfl) (by kernel_rfl) (fun _ _ _ h => h) (Or.inl ⟨by rfl, ?_⟩) (by assumption) ?_
                rotate_left
                · (intro w hSw; (try dsimp only at hSw); go_simp; (try (with_reducible rfl)))
                try simp only [Act.put, List.setIfInBounds_toArray, List.set_cons_zero, List.set_cons_succ]
                refine wpAnyH_take (i := 21) (oi := { dst := some 148, op := Go.Op.move (Go.Operand.tmp 6), type := 57, pos := "law.go:90", after := #[{ on := 17, ground := Go.Ground.guard }], guard := some (17, true) }) (v := ?_) rfl (by kernel_rfl) (by kernel_rfl) (by kernel_rfl) (fun _ _ _ h => h) (Or.inl ⟨by rfl, ?_⟩) (by assumption) ?_
                rotate_left
                · (intro w hSw; (try dsimp only at hSw); go_simp; (try (with_reducible rfl)))
                try simp only [Act.put, List.setIfInBounds_toArray, List.set_cons_zero, List.set_cons_succ]
                refine wpAnyH_take (i := 22) (oi := { dst := some 149, op := Go.Op.move (Go.Operand.tmp 15), type := 3, pos := "law.go:90", after := #[{ on := 17, ground := Go.Ground.guard }], guard := some (17, true) }) (v := ?_) rfl (by kernel_rfl) (by kernel_rfl) (by kernel_rfl) (fun _ _ _ h => h) (Or.inl ⟨by rfl, ?_⟩) (by assumption) ?_
                rotate_left
                · (intro w hSw; (try dsimp only at hSw); go_simp; (try (with_reducible rfl)))
                try simp only [Act.put, List.setIfInBounds_toArray, List.set_cons_zero, List.set_cons_succ]
                refine wpAnyH_take (i := 23) (oi := { dst := some 150, op := Go.Op.slice 57 (Go.Operand.tmp 148) none (some (Go.Operand.tmp 149)) none, type := 57, pos := "law.go:90", after := #[{ on := 21, ground := Go.Ground.data }, { on := 22, ground := Go.Ground.data }, { on := 17, ground := Go.Ground.guard }], guard := some (17, true) }) (v := ?_) rfl (by kernel_rfl) (by kernel_rfl) (by kernel_rfl) (fun _ _ _ h => h) (Or.inl ⟨by rfl, ?_⟩) (by assumption) ?_
                rotate_left
                · (intro w hSw; (try dsimp only at hSw); go_simp; (try (with_reducible rfl)))
                try simp only [Act.put, List.setIfInBounds_toArray, List.set_cons_zero, List.set_cons_succ]
                refine wpAnyH_take (i := 24) (oi := { dst := some 151, op := Go.Op.convert 57 9 (Go.Operand.tmp 150), type := 9, pos := "law.go:90", after := #[{ on := 23, ground := Go.Ground.data }, { on := 17, ground := Go.Ground.guard }], guard := some (17, true) }) (v := ?_) rfl (by kernel_rfl) (by kernel_rfl) (by kernel_rfl) (fun _ _ _ h => h) (Or.inl ⟨by rfl, ?_⟩) (by assumption) ?_
                rotate_left
                · (intro w hSw; (try dsimp only at hSw); go_simp; (try (with_reducible rfl)))
                try simp only [Act.put, List.setIfInBounds_toArray, List.set_cons_zero, List.set_cons_succ]
                refine wpAnyH_ready (rs := [19]) (by kernel_rfl) (by simp) ?_
                refine AllReadyH.cons (o := { dst := some 146, op := Go.Op.call { callee := Go.Callee.value (Go.Operand.func 42), args := #[Go.Operand.tmp 145], argTypes := #[76] }, type := 57, pos := "law.go:90", after := #[{ on := 18, ground := Go.Ground.data }, { on := 17, ground := Go.Ground.chain }, { on := 17, ground := Go.Ground.guard }], guard := some (17, true) }) rfl (fun K hK => ?_) AllReadyH.nil
                go_simp
                refine (hBy.out _ h7).mono ?_
                rintro e w9 hq
                obtain ⟨v9, rfl, h9, en9⟩ := ResE.lift h7 hq
                obtain ⟨A9, n9, c9, rfl, _⟩ := h9.row_form
                have hc1 := conv_rw (P := Try.prog) (h9.row_rw (by decide)) 57 9 Try.underlying57 Try.underlying5 Try.underlying9
                have hc2 := hAl.out _ _ h9
                have qk9 := hends.out k hks.out _ _ _ (h9.pick 2 (by simp))
                rw [hm.out] at qk9
                refine hK.out _ _ ⟨qk9, hc2⟩ (fun hHeld2 => ?_)
                clear hK K hHeld hHeld2 hq
                refine wpAnyH_mono (S := (fun w' : World => (convert 57 9 (.slice A9 n9 c9)).run Try.prog w' = .ok (.string (strOfNums T)) w' ∧ (w'.cell? ⟨eb, eo + k, none⟩ = some (.int .i64 (j : Int)) ∧ (convert 57 9 (.slice A7 j c7)).run Try.prog w' = .ok (.string (strOfNums T)) w'))) (fun _ h => h.2) _ _ _ _ ?_
                have hHeld : (fun w' : World => (convert 57 9 (.slice A9 n9 c9)).run Try.prog w' = .ok (.string (strOfNums T)) w' ∧ (w'.cell? ⟨eb, eo + k, none⟩ = some (.int .i64 (j : Int)) ∧ (convert 57 9 (.slice A7 j c7)).run Try.prog w' = .ok (.string (strOfNums T)) w')) w9 := ⟨hc1, qk9, hc2⟩
                try simp only [Act.put, List.setIfInBounds_toArray, List.set_cons_zero, List.set_cons_succ]
                refine wpAnyH_take (i := 20) (oi := { dst := some 147, op := Go.Op.convert 57 9 (Go.Operand.tmp 146), type := 9, pos := "law.go:90", after := #[{ on := 19, ground := Go.Ground.data }, { on := 17, ground := Go.Ground.guard }], guard := some (17, true) }) (v := ?_) rfl (by kernel_rfl) (by kernel_rfl) (by kernel_rfl) (fun _ _ _ h => h) (Or.inl ⟨by rfl, ?_⟩) (by assumption) ?_
                rotate_left
                · (intro w hSw; (try dsimp only at hSw); go_simp; (try (with_reducible rfl)))
                try simp only [Act.put, List.setIfInBounds_toArray, List.set_cons_zero, List.set_cons_succ]
                refine wpAnyH_take (i := 25) (oi := { dst := some 152, op := Go.Op.binOp Go.BinOp.eql 9 (Go.Operand.tmp 147) (Go.Operand.tmp 151) 9, type := 4, pos := "law.go:90", after := #[{ on := 20, ground := Go.Ground.data }, { on := 24, ground := Go.Ground.data }, { on := 17, ground := Go.Ground.guard }], guard := some (17, true) }) (v := ?_) rfl (by kernel_rfl) (by kernel_rfl) (by kernel_rfl) (fun _ _ _ h => h) (Or.inl ⟨by rfl, ?_⟩) (by assumption) ?_
                rotate_left
                · (intro w hSw; (try dsimp only at hSw); go_simp; (try (with_reducible rfl)))
                try simp only [Act.put, List.setIfInBounds_toArray, List.set_cons_zero, List.set_cons_succ]
                refine wpAnyH_take (i := 26) (oi := { dst := some 153, op := Go.Op.pick (Go.Operand.tmp 144) (Go.Operand.tmp 152) (Go.Operand.const (Go.Value.bool false)), type := 4, pos := "law.go:90", after := #[{ on := 17, ground := Go.Ground.data }, { on := 25, ground := Go.Ground.data }], guard := none }) (v := ?_) rfl (by kernel_rfl) (by kernel_rfl) (by kernel_rfl) (fun _ _ _ h => h) (Or.inl ⟨by rfl, ?_⟩) (by assumption) ?_
                rotate_left
                · (intro w hSw; (try dsimp only at hSw); go_simp; (try (with_reducible rfl)))
                try simp only [Act.put, List.setIfInBounds_toArray, List.set_cons_zero, List.set_cons_succ]
                refine wpAnyH_take (i := 27) (oi := { dst := some 154, op := Go.Op.move (Go.Operand.tmp 153), type := 4, pos := "law.go:90", after := #[{ on := 26, ground := Go.Ground.data }, { on := 19, ground := Go.Ground.chain }], guard := none }) (v := ?_) rfl (by kernel_rfl) (by kernel_rfl) (by kernel_rfl) (fun _ _ _ h => h) (Or.inl ⟨by rfl, ?_⟩) (by assumption) ?_
                rotate_left
                · (intro w hSw; (try dsimp only at hSw); go_simp; (try (with_reducible rfl)))
                try simp only [Act.put, List.setIfInBounds_toArray, List.set_cons_zero, List.set_cons_succ]
                refine wpAnyH_take (i := 28) (oi := { dst := some 155, op := Go.Op.move (Go.Operand.tmp 18), type := 76, pos := "law.go:90", after := #[{ on := 27, ground := Go.Ground.guard }], guard := some (27, true) }) (v := ?_) rfl (by kernel_rfl) (by kernel_rfl) (by kernel_rfl) (fun _ _ _ h => h) (Or.inl ⟨by rfl, ?_⟩) (by assumption) ?_
                rotate_left
                · (intro w hSw; (try dsimp only at hSw); go_simp; (try (with_reducible rfl)))
                try simp only [Act.put, List.setIfInBounds_toArray, List.set_cons_zero, List.set_cons_succ]
                refine wpAnyH_ready (rs := [29]) (by kernel_rfl) (by simp) ?_
                refine AllReadyH.cons (o := { dst := some 156, op := Go.Op.call { callee := Go.Callee.value (Go.Operand.func 45), args := #[Go.Operand.tmp 155], argTypes := #[76] }, type := 54, pos := "law.go:90", after := #[{ on := 28, ground := Go.Ground.data }, { on := 27, ground := Go.Ground.chain }, { on := 27, ground := Go.Ground.guard }], guard := some (27, true) }) rfl (fun K hK => ?_) AllReadyH.nil
                go_simp
                refine (jCompact_of (.pointer none) 2 _ _ (jPut_nil 3 0 (.slice none 0 0) w9)).mono ?_
                rintro e w10 ⟨rfl, bel10⟩
                have h10 := h9.below bel10
                have e1 := conv_rw (P := Try.prog) (h10.row_rw (by decide)) 57 9 Try.underlying57 Try.underlying5 Try.underlying9
                have e2 := hAl.out _ _ h10
                have e3 := hends.out k hks.out _ _ _ (h10.pick 2 (by simp))
                rw [hm.out] at e3
                refine hK.out _ _ ⟨e1, e3, e2⟩ (fun hHeld2 => ?_)
                clear hK K hHeld hHeld2
                have hHeld : (fun w' : World => (convert 57 9 (.slice A9 n9 c9)).run Try.prog w' = .ok (.string (strOfNums T)) w' ∧ (w'.cell? ⟨eb, eo + k, none⟩ = some (.int .i64 (j : Int)) ∧ (convert 57 9 (.slice A7 j c7)).run Try.prog w' = .ok (.string (strOfNums T)) w')) w10 := ⟨e1, e3, e2⟩
                clear e1 e2 e3
                try simp only [Act.put, List.setIfInBounds_toArray, List.set_cons_zero, List.set_cons_succ]
                refine wpAnyH_take (i := 30) (oi := { dst := some 157, op := Go.Op.binOp Go.BinOp.eql 54 (Go.Operand.tmp 156) (Go.Operand.const (Go.Value.int Go.IntKind.i64 2)) 54, type := 4, pos := "law.go:90", after := #[{ on := 29, ground := Go.Ground.data }, { on := 27, ground := Go.Ground.guard }], guard := some (27, true) }) (v := ?_) rfl (by kernel_rfl) (by kernel_rfl) (by kernel_rfl) (fun _ _ _ h => h) (Or.inl ⟨by rfl, ?_⟩) (by assumption) ?_
                rotate_left
                · (intro w hSw; (try dsimp only at hSw); go_simp; (try (with_reducible rfl)))
                try simp only [Act.put, List.setIfInBounds_toArray, List.set_cons_zero, List.set_cons_succ]
                refine wpAnyH_take (i := 31) (oi := { dst := some 158, op := Go.Op.pick (Go.Operand.tmp 154) (Go.Operand.tmp 157) (Go.Operand.const (Go.Value.bool false)), type := 4, pos := "law.go:90", after := #[{ on := 27, ground := Go.Ground.data }, { on := 30, ground := Go.Ground.data }], guard := none }) (v := ?_) rfl (by kernel_rfl) (by kernel_rfl) (by kernel_rfl) (fun _ _ _ h => h) (Or.inl ⟨by rfl, ?_⟩) (by assumption) ?_
                rotate_left
                · (intro w hSw; (try dsimp only at hSw); go_simp; (try (with_reducible rfl)))
                try simp only [Act.put, List.setIfInBounds_toArray, List.set_cons_zero, List.set_cons_succ]
                refine wpAnyH_take (i := 32) (oi := { dst := some 159, op := Go.Op.move (Go.Operand.tmp 158), type := 4, pos := "law.go:90", after := #[{ on := 31, ground := Go.Ground.data }, { on := 29, ground := Go.Ground.chain }], guard := none }) (v := ?_) rfl (by kernel_rfl) (by kernel_rfl) (by kernel_rfl) (fun _ _ _ h => h) (Or.inl ⟨by rfl, ?_⟩) (by assumption) ?_
                rotate_left
                · (intro w hSw; (try dsimp only at hSw); go_simp; (try (with_reducible rfl)))
                try simp only [Act.put, List.setIfInBounds_toArray, List.set_cons_zero, List.set_cons_succ]
                refine wpAnyH_take (i := 33) (oi := { dst := some 160, op := Go.Op.move (Go.Operand.tmp 18), type := 76, pos := "law.go:90", after := #[{ on := 32, ground := Go.Ground.guard }], guard := some (32, true) }) (v := ?_) rfl (by kernel_rfl) (by kernel_rfl) (by kernel_rfl) (fun _ _ _ h => h) (Or.inl ⟨by rfl, ?_⟩) (by assumption) ?_
                rotate_left
                · (intro w hSw; (try dsimp only at hSw); go_simp; (try (with_reducible rfl)))
                try simp only [Act.put, List.setIfInBounds_toArray, List.set_cons_zero, List.set_cons_succ]
                refine wpAnyH_ready (rs := [34]) (by kernel_rfl) (by simp) ?_
                refine AllReadyH.cons (o := { dst := some 161, op := Go.Op.call { callee := Go.Callee.value (Go.Operand.func 41), args := #[Go.Operand.tmp 160], argTypes := #[76] }, type := 3, pos := "law.go:90", after := #[{ on := 33, ground := Go.Ground.data }, { on := 32, ground := Go.Ground.chain }, { on := 32, ground := Go.Ground.guard }], guard := some (32, true) }) rfl (fun K hK => ?_) AllReadyH.nil
                go_simp
                refine (jLen_nil w10).mono ?_
                rintro e w11 ⟨rfl, rfl⟩
                refine hK.out _ _ hHeld (fun hHeld2 => ?_)
                clear hK K hHeld2
                try simp only [Act.put, List.setIfInBounds_toArray, List.set_cons_zero, List.set_cons_succ]
                refine wpAnyH_take (i := 35) (oi := { dst := some 162, op := Go.Op.binOp Go.BinOp.eql 3 (Go.Operand.tmp 161) (Go.Operand.const (Go.Value.int Go.IntKind.i64 0)) 3, type := 4, pos := "law.go:90", after := #[{ on := 34, ground := Go.Ground.data }, { on := 32, ground := Go.Ground.guard }], guard := some (32, true) }) (v := ?_) rfl (by kernel_rfl) (by kernel_rfl) (by kernel_rfl) (fun _ _ _ h => h) (Or.inl ⟨by rfl, ?_⟩) (by assumption) ?_
                rotate_left
                · (intro w hSw; (try dsimp only at hSw); go_simp; (try (with_reducible rfl)))
                try simp only [Act.put, List.setIfInBounds_toArray, List.set_cons_zero, List.set_cons_succ]
                refine wpAnyH_take (i := 36) (oi := { dst := some 163, op := Go.Op.pick (Go.Operand.tmp 159) (Go.Operand.tmp 162) (Go.Operand.const (Go.Value.bool false)), type := 4, pos := "law.go:90", after := #[{ on := 32, ground := Go.Ground.data }, { on := 35, ground := Go.Ground.data }], guard := none }) (v := ?_) rfl (by kernel_rfl) (by kernel_rfl) (by kernel_rfl) (fun _ _ _ h => h) (Or.inl ⟨by rfl, ?_⟩) (by assumption) ?_
                rotate_left
                · (intro w hSw; (try dsimp only at hSw); go_simp; (try (with_reducible rfl)))
                try simp only [Act.put, List.setIfInBounds_toArray, List.set_cons_zero, List.set_cons_succ]
                refine wpAnyH_take (i := 37) (oi := { dst := some 164, op := Go.Op.move (Go.Operand.tmp 163), type := 4, pos := "law.go:90", after := #[{ on := 36, ground := Go.Ground.data }, { on := 34, ground := Go.Ground.chain }], guard := none }) (v := ?_) rfl (by kernel_rfl) (by kernel_rfl) (by kernel_rfl) (fun _ _ _ h => h) (Or.inl ⟨by rfl, ?_⟩) (by assumption) ?_
                rotate_left
                · (intro w hSw; (try dsimp only at hSw); go_simp; (try (with_reducible rfl)))
                try simp only [Act.put, List.setIfInBounds_toArray, List.set_cons_zero, List.set_cons_succ]
                refine wpAnyH_ready (rs := [38]) (by kernel_rfl) (by simp) ?_
                refine AllReadyH.cons (o := { dst := some 165, op := Go.Op.call { callee := Go.Callee.value (Go.Operand.func 38), args := #[], argTypes := #[] }, type := 4, pos := "law.go:90", after := #[{ on := 37, ground := Go.Ground.chain }, { on := 37, ground := Go.Ground.guard }], guard := some (37, true) }) rfl (fun K hK => ?_) AllReadyH.nil
                go_simp
                refine (works42 w10).mono ?_
                rintro e w12 ⟨rfl, bel12⟩
                have h12 := h10.below bel12
                have e1 := conv_rw (P := Try.prog) (h12.row_rw (by decide)) 57 9 Try.underlying57 Try.underlying5 Try.underlying9
                have e2 := hAl.out _ _ h12
                have e3 := hends.out k hks.out _ _ _ (h12.pick 2 (by simp))
                rw [hm.out] at e3
                refine hK.out _ _ ⟨e1, e3, e2⟩ (fun hHeld2 => ?_)
                clear hK K hHeld hHeld2
                have hHeld : (fun w' : World => (convert 57 9 (.slice A9 n9 c9)).run Try.prog w' = .ok (.string (strOfNums T)) w' ∧ (w'.cell? ⟨eb, eo + k, none⟩ = some (.int .i64 (j : Int)) ∧ (convert 57 9 (.slice A7 j c7)).run Try.prog w' = .ok (.string (strOfNums T)) w')) w12 := ⟨e1, e3, e2⟩
                clear e1 e2 e3
                try simp only [Act.put, List.setIfInBounds_toArray, List.set_cons_zero, List.set_cons_succ]
                refine wpAnyH_take (i := 39) (oi := { dst := some 166, op := Go.Op.pick (Go.Operand.tmp 164) (Go.Operand.tmp 165) (Go.Operand.const (Go.Value.bool false)), type := 4, pos := "law.go:90", after := #[{ on := 37, ground := Go.Ground.data }, { on := 38, ground := Go.Ground.data }], guard := none }) (v := ?_) rfl (by kernel_rfl) (by kernel_rfl) (by kernel_rfl) (fun _ _ _ h => h) (Or.inl ⟨by rfl, ?_⟩) (by assumption) ?_
                rotate_left
                · (intro w hSw; (try dsimp only at hSw); go_simp; (try (with_reducible rfl)))
                try simp only [Act.put, List.setIfInBounds_toArray, List.set_cons_zero, List.set_cons_succ]
                refine wpAnyH_take (i := 40) (oi := { dst := some 4, op := Go.Op.assign (Go.Operand.tmp 166), type := 4, pos := "law.go:90", after := #[{ on := 39, ground := Go.Ground.data }, { on := 38, ground := Go.Ground.chain }, { on := 0, ground := Go.Ground.phase }, { on := 1, ground := Go.Ground.phase }, { on := 2, ground := Go.Ground.phase }, { on := 3, ground := Go.Ground.phase }, { on := 4, ground := Go.Ground.phase }, { on := 5, ground := Go.Ground.phase }, { on := 6, ground := Go.Ground.phase }, { on := 7, ground := Go.Ground.phase }, { on := 8, ground := Go.Ground.phase }, { on := 9, ground := Go.Ground.phase }, { on := 10, ground := Go.Ground.phase }, { on := 11, ground := Go.Ground.phase }, { on := 12, ground := Go.Ground.phase }, { on := 13, ground := Go.Ground.phase }, { on := 14, ground := Go.Ground.phase }, { on := 15, ground := Go.Ground.phase }, { on := 16, ground := Go.Ground.phase }, { on := 17, ground := Go.Ground.phase }, { on := 18, ground := Go.Ground.phase }, { on := 19, ground := Go.Ground.phase }, { on := 20, ground := Go.Ground.phase }, { on := 21, ground := Go.Ground.phase }, { on := 22, ground := Go.Ground.phase }, { on := 23, ground := Go.Ground.phase }, { on := 24, ground := Go.Ground.phase }, { on := 25, ground := Go.Ground.phase }, { on := 26, ground := Go.Ground.phase }, { on := 27, ground := Go.Ground.phase }, { on := 28, ground := Go.Ground.phase }, { on := 29, ground := Go.Ground.phase }, { on := 30, ground := Go.Ground.phase }, { on := 31, ground := Go.Ground.phase }, { on := 32, ground := Go.Ground.phase }, { on := 33, ground := Go.Ground.phase }, { on := 34, ground := Go.Ground.phase }, { on := 35, ground := Go.Ground.phase }, { on := 36, ground := Go.Ground.phase }, { on := 37, ground := Go.Ground.phase }, { on := 38, ground := Go.Ground.phase }, { on := 39, ground := Go.Ground.phase }], guard := none }) (v := ?_) rfl (by kernel_rfl) (by kernel_rfl) (by kernel_rfl) (fun _ _ _ h => h) (Or.inl ⟨by rfl, ?_⟩) (by assumption) ?_
                rotate_left
                · (intro w hSw; (try dsimp only at hSw); go_simp; (try (with_reducible rfl)))
                try simp only [Act.put, List.setIfInBounds_toArray, List.set_cons_zero, List.set_cons_succ]
                refine wpAnyH_done (by kernel_rfl) ?_ _
                go_wp2_with fail
                go_ret
                exact ⟨rfl, (h12.weaken hleA).toBelow ((((en7.drew.trans en9).trans (bel_env bel10))).trans (bel_env bel12))⟩
              · rw [if_neg hjC] at g3
                subst g3
                have bjC : ((j : Int) == (C : Int)) = false := beq_eq_false_iff_ne.2 (by omega)
                replace hjC := Lib.hid hjC
                go_wp2_with fail
                refine wp_region_held_drew (S := (fun w' : World => w'.cell? ⟨eb, eo + k, none⟩ = some (.int .i64 (j : Int)) ∧ (convert 57 9 (.slice A7 j c7)).run Try.prog w' = .ok (.string (strOfNums T)) w')) (by kernel_rfl) ⟨qk, hc0⟩ (fun hHeld => ?_)
                refine wpAnyH_take (i := 0) (oi := { dst := some 127, op := Go.Op.move (Go.Operand.tmp 15), type := 3, pos := "law.go:90", after := #[], guard := none }) (v := ?_) rfl (by kernel_rfl) (by kernel_rfl) (by kernel_rfl) (fun _ _ _ h => h) (Or.inl ⟨by rfl, ?_⟩) (by assumption) ?_
                rotate_left
                · (intro w hSw; (try dsimp only at hSw); go_simp; (try (with_reducible rfl)))
                try simp only [Act.put, List.setIfInBounds_toArray, List.set_cons_zero, List.set_cons_succ]
                refine wpAnyH_take (i := 1) (oi := { dst := some 128, op := Go.Op.move (Go.Operand.tmp 7), type := 26, pos := "law.go:90", after := #[], guard := none }) (v := ?_) rfl (by kernel_rfl) (by kernel_rfl) (by kernel_rfl) (fun _ _ _ h => h) (Or.inl ⟨by rfl, ?_⟩) (by assumption) ?_
                rotate_left
                · (intro w hSw; (try dsimp only at hSw); go_simp; (try (with_reducible rfl)))
                try simp only [Act.put, List.setIfInBounds_toArray, List.set_cons_zero, List.set_cons_succ]
                refine wpAnyH_take (i := 2) (oi := { dst := some 129, op := Go.Op.move (Go.Operand.tmp 13), type := 3, pos := "law.go:90", after := #[], guard := none }) (v := ?_) rfl (by kernel_rfl) (by kernel_rfl) (by kernel_rfl) (fun _ _ _ h => h) (Or.inl ⟨by rfl, ?_⟩) (by assumption) ?_
                rotate_left
                · (intro w hSw; (try dsimp only at hSw); go_simp; (try (with_reducible rfl)))
                try simp only [Act.put, List.setIfInBounds_toArray, List.set_cons_zero, List.set_cons_succ]
                refine wpAnyH_take (i := 3) (oi := { dst := some 130, op := Go.Op.indexAddr 26 (Go.Operand.tmp 128) (Go.Operand.tmp 129), type := 0, pos := "law.go:90", after := #[{ on := 1, ground := Go.Ground.data }, { on := 2, ground := Go.Ground.data }], guard := none }) (v := ?_) rfl (by kernel_rfl) (by kernel_rfl) (by kernel_rfl) (fun _ _ _ h => h) (Or.inl ⟨by rfl, ?_⟩) (by assumption) ?_
                rotate_left
                · (intro w hSw; (try dsimp only at hSw); go_simp; (try (with_reducible rfl)))
                try simp only [Act.put, List.setIfInBounds_toArray, List.set_cons_zero, List.set_cons_succ]
                refine wpAnyH_take (i := 4) (oi := { dst := some 131, op := Go.Op.load 3 (Go.Operand.tmp 130), type := 3, pos := "law.go:90", after := #[{ on := 3, ground := Go.Ground.data }], guard := none }) (v := ?_) rfl (by kernel_rfl) (by kernel_rfl) (by kernel_rfl) (fun _ _ _ h => h) (Or.inl ⟨by rfl, ?_⟩) (by assumption) ?_
                rotate_left
                · (intro w hSw; (try dsimp only at hSw); go_simp; (try (with_reducible rfl)))
                try simp only [Act.put, List.setIfInBounds_toArray, List.set_cons_zero, List.set_cons_succ]
                refine wpAnyH_take (i := 5) (oi := { dst := some 132, op := Go.Op.binOp Go.BinOp.eql 3 (Go.Operand.tmp 127) (Go.Operand.tmp 131) 3, type := 4, pos := "law.go:90", after := #[{ on := 0, ground := Go.Ground.data }, { on := 4, ground := Go.Ground.data }], guard := none }) (v := ?_) rfl (by kernel_rfl) (by kernel_rfl) (by kernel_rfl) (fun _ _ _ h => h) (Or.inl ⟨by rfl, ?_⟩) (by assumption) ?_
                rotate_left
                · (intro w hSw; (try dsimp only at hSw); go_simp; (try (with_reducible rfl)))
                try simp only [Act.put, List.setIfInBounds_toArray, List.set_cons_zero, List.set_cons_succ]
                refine wpAnyH_take (i := 6) (oi := { dst := some 133, op := Go.Op.move (Go.Operand.tmp 132), type := 4, pos := "law.go:90", after := #[{ on := 5, ground := Go.Ground.data }], guard := none }) (v := ?_) rfl (by kernel_rfl) (by kernel_rfl) (by kernel_rfl) (fun _ _ _ h => h) (Or.inl ⟨by rfl, ?_⟩) (by assumption) ?_
                rotate_left
                · (intro w hSw; (try dsimp only at hSw); go_simp; (try (with_reducible rfl)))
                try simp only [Act.put, List.setIfInBounds_toArray, List.set_cons_zero, List.set_cons_succ]
                refine wpAnyH_take (i := 7) (oi := { dst := some 134, op := Go.Op.move (Go.Operand.tmp 16), type := 54, pos := "law.go:90", after := #[{ on := 6, ground := Go.Ground.guard }], guard := some (6, true) }) (v := ?_) rfl (by kernel_rfl) (by kernel_rfl) (by kernel_rfl) (fun _ _ _ h => h) (Or.inl ⟨by rfl, ?_⟩) (by assumption) ?_
                rotate_left
                · (intro w hSw; (try dsimp only at hSw); go_simp; (try (with_reducible rfl)))
                try simp only [Act.put, List.setIfInBounds_toArray, List.set_cons_zero, List.set_cons_succ]
                refine wpAnyH_take (i := 8) (oi := { dst := some 135, op := Go.Op.move (Go.Operand.tmp 17), type := 54, pos := "law.go:90", after := #[{ on := 6, ground := Go.Ground.guard }], guard := some (6, true) }) (v := ?_) rfl (by kernel_rfl) (by kernel_rfl) (by kernel_rfl) (fun _ _ _ h => h) (Or.inl ⟨by rfl, ?_⟩) (by assumption) ?_
                rotate_left
                · (intro w hSw; (try dsimp only at hSw); go_simp; (try (with_reducible rfl)))
                try simp only [Act.put, List.setIfInBounds_toArray, List.set_cons_zero, List.set_cons_succ]
                refine wpAnyH_take (i := 9) (oi := { dst := some 136, op := Go.Op.binOp Go.BinOp.eql 54 (Go.Operand.tmp 134) (Go.Operand.tmp 135) 54, type := 4, pos := "law.go:90", after := #[{ on := 7, ground := Go.Ground.data }, { on := 8, ground := Go.Ground.data }, { on := 6, ground := Go.Ground.guard }], guard := some (6, true) }) (v := ?_) rfl (by kernel_rfl) (by kernel_rfl) (by kernel_rfl) (fun _ _ _ h => h) (Or.inl ⟨by rfl, ?_⟩) (by assumption) ?_
                rotate_left
                · (intro w hSw; (try dsimp only at hSw); go_simp; (try (with_reducible rfl)))
                try simp only [Act.put, List.setIfInBounds_toArray, List.set_cons_zero, List.set_cons_succ]
                refine wpAnyH_take (i := 10) (oi := { dst := some 137, op := Go.Op.pick (Go.Operand.tmp 133) (Go.Operand.tmp 136) (Go.Operand.const (Go.Value.bool false)), type := 4, pos := "law.go:90", after := #[{ on := 6, ground := Go.Ground.data }, { on := 9, ground := Go.Ground.data }], guard := none }) (v := ?_) rfl (by kernel_rfl) (by kernel_rfl) (by kernel_rfl) (fun _ _ _ h => h) (Or.inl ⟨by rfl, ?_⟩) (by assumption) ?_
                rotate_left
                · (intro w hSw; (try dsimp only at hSw); go_simp; (try (with_reducible rfl)))
                try simp only [Act.put, List.setIfInBounds_toArray, List.set_cons_zero, List.set_cons_succ]
                refine wpAnyH_take (i := 11) (oi := { dst := some 138, op := Go.Op.move (Go.Operand.tmp 137), type := 4, pos := "law.go:90", after := #[{ on := 10, ground := Go.Ground.data }, { on := 6, ground := Go.Ground.chain }], guard := none }) (v := ?_) rfl (by kernel_rfl) (by kernel_rfl) (by kernel_rfl) (fun _ _ _ h => h) (Or.inl ⟨by rfl, ?_⟩) (by assumption) ?_
                rotate_left
                · (intro w hSw; (try dsimp only at hSw); go_simp; (try (with_reducible rfl)))
                try simp only [Act.put, List.setIfInBounds_toArray, List.set_cons_zero, List.set_cons_succ]
                refine wpAnyH_take (i := 12) (oi := { dst := some 139, op := Go.Op.move (Go.Operand.tmp 14), type := 76, pos := "law.go:90", after := #[{ on := 11, ground := Go.Ground.guard }], guard := some (11, true) }) (v := ?_) rfl (by kernel_rfl) (by kernel_rfl) (by kernel_rfl) (fun _ _ _ h => h) (Or.inl ⟨by rfl, ?_⟩) (by assumption) ?_
                rotate_left
                · (intro w hSw; (try dsimp only at hSw); go_simp; (try (with_reducible rfl)))
                try simp only [Act.put, List.setIfInBounds_toArray, List.set_cons_zero, List.set_cons_succ]
                refine wpAnyH_take (i := 14) (oi := { dst := some 141, op := Go.Op.move (Go.Operand.tmp 13), type := 3, pos := "law.go:90", after := #[{ on := 11, ground := Go.Ground.guard }], guard := some (11, true) }) (v := ?_) rfl (by kernel_rfl) (by kernel_rfl) (by kernel_rfl) (fun _ _ _ h => h) (Or.inl ⟨by rfl, ?_⟩) (by assumption) ?_
                rotate_left
                · (intro w hSw; (try dsimp only at hSw); go_simp; (try (with_reducible rfl)))
                try simp only [Act.put, List.setIfInBounds_toArray, List.set_cons_zero, List.set_cons_succ]
                refine wpAnyH_ready (rs := [13]) (by kernel_rfl) (by simp) ?_
                refine AllReadyH.cons (o := { dst := some 140, op := Go.Op.call { callee := Go.Callee.value (Go.Operand.func 41), args := #[Go.Operand.tmp 139], argTypes := #[76] }, type := 3, pos := "law.go:90", after := #[{ on := 12, ground := Go.Ground.data }, { on := 11, ground := Go.Ground.chain }, { on := 11, ground := Go.Ground.guard }], guard := some (11, true) }) rfl (fun K hK => ?_) AllReadyH.nil
                go_simp
                refine hJL.mono ?_
                rintro e w9 ⟨rfl, rfl⟩
                refine hK.out _ _ ⟨qk, hc0⟩ (fun hHeld2 => ?_)
                clear hK K hHeld2
                try simp only [Act.put, List.setIfInBounds_toArray, List.set_cons_zero, List.set_cons_succ]
                refine wpAnyH_take (i := 15) (oi := { dst := some 142, op := Go.Op.binOp Go.BinOp.eql 3 (Go.Operand.tmp 140) (Go.Operand.tmp 141) 3, type := 4, pos := "law.go:90", after := #[{ on := 13, ground := Go.Ground.data }, { on := 14, ground := Go.Ground.data }, { on := 11, ground := Go.Ground.guard }], guard := some (11, true) }) (v := ?_) rfl (by kernel_rfl) (by kernel_rfl) (by kernel_rfl) (fun _ _ _ h => h) (Or.inl ⟨by rfl, ?_⟩) (by assumption) ?_
                rotate_left
                · (intro w hSw; (try dsimp only at hSw); go_simp; (try (with_reducible rfl)))
                try simp only [Act.put, List.setIfInBounds_toArray, List.set_cons_zero, List.set_cons_succ]
                refine wpAnyH_take (i := 16) (oi := { dst := some 143, op := Go.Op.pick (Go.Operand.tmp 138) (Go.Operand.tmp 142) (Go.Operand.const (Go.Value.bool false)), type := 4, pos := "law.go:90", after := #[{ on := 11, ground := Go.Ground.data }, { on := 15, ground := Go.Ground.data }], guard := none }) (v := ?_) rfl (by kernel_rfl) (by kernel_rfl) (by kernel_rfl) (fun _ _ _ h => h) (Or.inl ⟨by rfl, ?_⟩) (by assumption) ?_
                rotate_left
                · (intro w hSw; (try dsimp only at hSw); go_simp; (try (with_reducible rfl)))
                try simp only [Act.put, List.setIfInBounds_toArray, List.set_cons_zero, List.set_cons_succ]
                refine wpAnyH_take (i := 17) (oi := { dst := some 144, op := Go.Op.move (Go.Operand.tmp 143), type := 4, pos := "law.go:90", after := #[{ on := 16, ground := Go.Ground.data }, { on := 13, ground := Go.Ground.chain }], guard := none }) (v := ?_) rfl (by kernel_rfl) (by kernel_rfl) (by kernel_rfl) (fun _ _ _ h => h) (Or.inl ⟨by rfl, ?_⟩) (by assumption) ?_
                rotate_left
                · (intro w hSw; (try dsimp only at hSw); go_simp; (try (with_reducible rfl)))
                try simp only [Act.put, List.setIfInBounds_toArray, List.set_cons_zero, List.set_cons_succ]
                refine wpAnyH_take (i := 18) (oi := { dst := some 145, op := Go.Op.move (Go.Operand.tmp 14), type := 76, pos := "law.go:90", after := #[{ on := 17, ground := Go.Ground.guard }], guard := some (17, true) }) (v := ?_) rfl (by kernel_rfl) (by kernel_rfl) (by kernel_rfl) (fun _ _ _ h => h) (Or.inl ⟨by rfl, ?_⟩) (by assumption) ?_
                rotate_left
                · (intro w hSw; (try dsimp only at hSw); go_simp; (try (with_reducible rfl)))
                try simp only [Act.put, List.setIfInBounds_toArray, List.set_cons_zero, List.set_cons_succ]
                refine wpAnyH_take (i := 21) (oi := { dst := some 148, op := Go.Op.move (Go.Operand.tmp 6), type := 57, pos := "law.go:90", after := #[{ on := 17, ground := Go.Ground.guard }], guard := some (17, true) }) (v := ?_) rfl (by kernel_rfl) (by kernel_rfl) (by kernel_rfl) (fun _ _ _ h => h) (Or.inl ⟨by rfl, ?_⟩) (by assumption) ?_
                rotate_left
                · (intro w hSw; (try dsimp only at hSw); go_simp; (try (with_reducible rfl)))
                try simp only [Act.put, List.setIfInBounds_toArray, List.set_cons_zero, List.set_cons_succ]
                refine wpAnyH_take (i := 22) (oi := { dst := some 149, op := Go.Op.move (Go.Operand.tmp 15), type := 3, pos := "law.go:90", after := #[{ on := 17, ground := Go.Ground.guard }], guard := some (17, true) }) (v := ?_) rfl (by kernel_rfl) (by kernel_rfl) (by kernel_rfl) (fun _ _ _ h => h) (Or.inl ⟨by rfl, ?_⟩) (by assumption) ?_
                rotate_left
                · (intro w hSw; (try dsimp only at hSw); go_simp; (try (with_reducible rfl)))
                try simp only [Act.put, List.setIfInBounds_toArray, List.set_cons_zero, List.set_cons_succ]
                refine wpAnyH_take (i := 23) (oi := { dst := some 150, op := Go.Op.slice 57 (Go.Operand.tmp 148) none (some (Go.Operand.tmp 149)) none, type := 57, pos := "law.go:90", after := #[{ on := 21, ground := Go.Ground.data }, { on := 22, ground := Go.Ground.data }, { on := 17, ground := Go.Ground.guard }], guard := some (17, true) }) (v := ?_) rfl (by kernel_rfl) (by kernel_rfl) (by kernel_rfl) (fun _ _ _ h => h) (Or.inl ⟨by rfl, ?_⟩) (by assumption) ?_
                rotate_left
                · (intro w hSw; (try dsimp only at hSw); go_simp; (try (with_reducible rfl)))
                try simp only [Act.put, List.setIfInBounds_toArray, List.set_cons_zero, List.set_cons_succ]
                refine wpAnyH_take (i := 24) (oi := { dst := some 151, op := Go.Op.convert 57 9 (Go.Operand.tmp 150), type := 9, pos := "law.go:90", after := #[{ on := 23, ground := Go.Ground.data }, { on := 17, ground := Go.Ground.guard }], guard := some (17, true) }) (v := ?_) rfl (by kernel_rfl) (by kernel_rfl) (by kernel_rfl) (fun _ _ _ h => h) (Or.inl ⟨by rfl, ?_⟩) (by assumption) ?_
                rotate_left
                · (intro w hSw; (try dsimp only at hSw); go_simp; (try (with_reducible rfl)))
                try simp only [Act.put, List.setIfInBounds_toArray, List.set_cons_zero, List.set_cons_succ]
                refine wpAnyH_ready (rs := [19]) (by kernel_rfl) (by simp) ?_
                refine AllReadyH.cons (o := { dst := some 146, op := Go.Op.call { callee := Go.Callee.value (Go.Operand.func 42), args := #[Go.Operand.tmp 145], argTypes := #[76] }, type := 57, pos := "law.go:90", after := #[{ on := 18, ground := Go.Ground.data }, { on := 17, ground := Go.Ground.chain }, { on := 17, ground := Go.Ground.guard }], guard := some (17, true) }) rfl (fun K hK => ?_) AllReadyH.nil
                go_simp
                refine (hBy.out _ h7).mono ?_
                rintro e w9 hq
                obtain ⟨v9, rfl, h9, en9⟩ := ResE.lift h7 hq
                obtain ⟨A9, n9, c9, rfl, _⟩ := h9.row_form
                have hc1 := conv_rw (P := Try.prog) (h9.row_rw (by decide)) 57 9 Try.underlying57 Try.underlying5 Try.underlying9
                have hc2 := hAl.out _ _ h9
                have qk9 := hends.out k hks.out _ _ _ (h9.pick 2 (by simp))
                rw [hm.out] at qk9
                refine hK.out _ _ ⟨qk9, hc2⟩ (fun hHeld2 => ?_)
                clear hK K hHeld hHeld2 hq
                refine wpAnyH_mono (S := (fun w' : World => (convert 57 9 (.slice A9 n9 c9)).run Try.prog w' = .ok (.string (strOfNums T)) w' ∧ (w'.cell? ⟨eb, eo + k, none⟩ = some (.int .i64 (j : Int)) ∧ (convert 57 9 (.slice A7 j c7)).run Try.prog w' = .ok (.string (strOfNums T)) w'))) (fun _ h => h.2) _ _ _ _ ?_
                have hHeld : (fun w' : World => (convert 57 9 (.slice A9 n9 c9)).run Try.prog w' = .ok (.string (strOfNums T)) w' ∧ (w'.cell? ⟨eb, eo + k, none⟩ = some (.int .i64 (j : Int)) ∧ (convert 57 9 (.slice A7 j c7)).run Try.prog w' = .ok (.string (strOfNums T)) w')) w9 := ⟨hc1, qk9, hc2⟩
                try simp only [Act.put, List.setIfInBounds_toArray, List.set_cons_zero, List.set_cons_succ]
                refine wpAnyH_take (i := 20) (oi := { dst := some 147, op := Go.Op.convert 57 9 (Go.Operand.tmp 146), type := 9, pos := "law.go:90", after := #[{ on := 19, ground := Go.Ground.data }, { on := 17, ground := Go.Ground.guard }], guard := some (17, true) }) (v := ?_) rfl (by kernel_rfl) (by kernel_rfl) (by kernel_rfl) (fun _ _ _ h => h) (Or.inl ⟨by rfl, ?_⟩) (by assumption) ?_
                rotate_left
                · (intro w hSw; (try dsimp only at hSw); go_simp; (try (with_reducible rfl)))
                try simp only [Act.put, List.setIfInBounds_toArray, List.set_cons_zero, List.set_cons_succ]
                refine wpAnyH_take (i := 25) (oi := { dst := some 152, op := Go.Op.binOp Go.BinOp.eql 9 (Go.Operand.tmp 147) (Go.Operand.tmp 151) 9, type := 4, pos := "law.go:90", after := #[{ on := 20, ground := Go.Ground.data }, { on := 24, ground := Go.Ground.data }, { on := 17, ground := Go.Ground.guard }], guard := some (17, true) }) (v := ?_) rfl (by kernel_rfl) (by kernel_rfl) (by kernel_rfl) (fun _ _ _ h => h) (Or.inl ⟨by rfl, ?_⟩) (by assumption) ?_
                rotate_left
                · (intro w hSw; (try dsimp only at hSw); go_simp; (try (with_reducible rfl)))
                try simp only [Act.put, List.setIfInBounds_toArray, List.set_cons_zero, List.set_cons_succ]
                refine wpAnyH_take (i := 26) (oi := { dst := some 153, op := Go.Op.pick (Go.Operand.tmp 144) (Go.Operand.tmp 152) (Go.Operand.const (Go.Value.bool false)), type := 4, pos := "law.go:90", after := #[{ on := 17, ground := Go.Ground.data }, { on := 25, ground := Go.Ground.data }], guard := none }) (v := ?_) rfl (by kernel_rfl) (by kernel_rfl) (by kernel_rfl) (fun _ _ _ h => h) (Or.inl ⟨by rfl, ?_⟩) (by assumption) ?_
                rotate_left
                · (intro w hSw; (try dsimp only at hSw); go_simp; (try (with_reducible rfl)))
                try simp only [Act.put, List.setIfInBounds_toArray, List.set_cons_zero, List.set_cons_succ]
                refine wpAnyH_take (i := 27) (oi := { dst := some 154, op := Go.Op.move (Go.Operand.tmp 153), type := 4, pos := "law.go:90", after := #[{ on := 26, ground := Go.Ground.data }, { on := 19, ground := Go.Ground.chain }], guard := none }) (v := ?_) rfl (by kernel_rfl) (by kernel_rfl) (by kernel_rfl) (fun _ _ _ h => h) (Or.inl ⟨by rfl, ?_⟩) (by assumption) ?_
                rotate_left
                · (intro w hSw; (try dsimp only at hSw); go_simp; (try (with_reducible rfl)))
                try simp only [Act.put, List.setIfInBounds_toArray, List.set_cons_zero, List.set_cons_succ]
                refine wpAnyH_take (i := 28) (oi := { dst := some 155, op := Go.Op.move (Go.Operand.tmp 18), type := 76, pos := "law.go:90", after := #[{ on := 27, ground := Go.Ground.guard }], guard := some (27, true) }) (v := ?_) rfl (by kernel_rfl) (by kernel_rfl) (by kernel_rfl) (fun _ _ _ h => h) (Or.inl ⟨by rfl, ?_⟩) (by assumption) ?_
                rotate_left
                · (intro w hSw; (try dsimp only at hSw); go_simp; (try (with_reducible rfl)))
                try simp only [Act.put, List.setIfInBounds_toArray, List.set_cons_zero, List.set_cons_succ]
                refine wpAnyH_ready (rs := [29]) (by kernel_rfl) (by simp) ?_
                refine AllReadyH.cons (o := { dst := some 156, op := Go.Op.call { callee := Go.Callee.value (Go.Operand.func 45), args := #[Go.Operand.tmp 155], argTypes := #[76] }, type := 54, pos := "law.go:90", after := #[{ on := 28, ground := Go.Ground.data }, { on := 27, ground := Go.Ground.chain }, { on := 27, ground := Go.Ground.guard }], guard := some (27, true) }) rfl (fun K hK => ?_) AllReadyH.nil
                go_simp
                refine (jCompact_of (.pointer none) 2 _ _ (jPut_nil 3 0 (.slice none 0 0) w9)).mono ?_
                rintro e w10 ⟨rfl, bel10⟩
                have h10 := h9.below bel10
                have e1 := conv_rw (P := Try.prog) (h10.row_rw (by decide)) 57 9 Try.underlying57 Try.underlying5 Try.underlying9
                have e2 := hAl.out _ _ h10
                have e3 := hends.out k hks.out _ _ _ (h10.pick 2 (by simp))
                rw [hm.out] at e3
                refine hK.out _ _ ⟨e1, e3, e2⟩ (fun hHeld2 => ?_)
                clear hK K hHeld hHeld2
                have hHeld : (fun w' : World => (convert 57 9 (.slice A9 n9 c9)).run Try.prog w' = .ok (.string (strOfNums T)) w' ∧ (w'.cell? ⟨eb, eo + k, none⟩ = some (.int .i64 (j : Int)) ∧ (convert 57 9 (.slice A7 j c7)).run Try.prog w' = .ok (.string (strOfNums T)) w')) w10 := ⟨e1, e3, e2⟩
                clear e1 e2 e3
                try simp only [Act.put, List.setIfInBounds_toArray, List.set_cons_zero, List.set_cons_succ]
                refine wpAnyH_take (i := 30) (oi := { dst := some 157, op := Go.Op.binOp Go.BinOp.eql 54 (Go.Operand.tmp 156) (Go.Operand.const (Go.Value.int Go.IntKind.i64 2)) 54, type := 4, pos := "law.go:90", after := #[{ on := 29, ground := Go.Ground.data }, { on := 27, ground := Go.Ground.guard }], guard := some (27, true) }) (v := ?_) rfl (by kernel_rfl) (by kernel_rfl) (by kernel_rfl) (fun _ _ _ h => h) (Or.inl ⟨by rfl, ?_⟩) (by assumption) ?_
                rotate_left
                · (intro w hSw; (try dsimp only at hSw); go_simp; (try (with_reducible rfl)))
                try simp only [Act.put, List.setIfInBounds_toArray, List.set_cons_zero, List.set_cons_succ]
                refine wpAnyH_take (i := 31) (oi := { dst := some 158, op := Go.Op.pick (Go.Operand.tmp 154) (Go.Operand.tmp 157) (Go.Operand.const (Go.Value.bool false)), type := 4, pos := "law.go:90", after := #[{ on := 27, ground := Go.Ground.data }, { on := 30, ground := Go.Ground.data }], guard := none }) (v := ?_) rfl (by kernel_rfl) (by kernel_rfl) (by kernel_rfl) (fun _ _ _ h => h) (Or.inl ⟨by rfl, ?_⟩) (by assumption) ?_
                rotate_left
                · (intro w hSw; (try dsimp only at hSw); go_simp; (try (with_reducible rfl)))
                try simp only [Act.put, List.setIfInBounds_toArray, List.set_cons_zero, List.set_cons_succ]
                refine wpAnyH_take (i := 32) (oi := { dst := some 159, op := Go.Op.move (Go.Operand.tmp 158), type := 4, pos := "law.go:90", after := #[{ on := 31, ground := Go.Ground.data }, { on := 29, ground := Go.Ground.chain }], guard := none }) (v := ?_) rfl (by kernel_rfl) (by kernel_rfl) (by kernel_rfl) (fun _ _ _ h => h) (Or.inl ⟨by rfl, ?_⟩) (by assumption) ?_
                rotate_left
                · (intro w hSw; (try dsimp only at hSw); go_simp; (try (with_reducible rfl)))
                try simp only [Act.put, List.setIfInBounds_toArray, List.set_cons_zero, List.set_cons_succ]
                refine wpAnyH_take (i := 33) (oi := { dst := some 160, op := Go.Op.move (Go.Operand.tmp 18), type := 76, pos := "law.go:90", after := #[{ on := 32, ground := Go.Ground.guard }], guard := some (32, true) }) (v := ?_) rfl (by kernel_rfl) (by kernel_rfl) (by kernel_rfl) (fun _ _ _ h => h) (Or.inl ⟨by rfl, ?_⟩) (by assumption) ?_
                rotate_left
                · (intro w hSw; (try dsimp only at hSw); go_simp; (try (with_reducible rfl)))
                try simp only [Act.put, List.setIfInBounds_toArray, List.set_cons_zero, List.set_cons_succ]
                refine wpAnyH_ready (rs := [34]) (by kernel_rfl) (by simp) ?_
                refine AllReadyH.cons (o := { dst := some 161, op := Go.Op.call { callee := Go.Callee.value (Go.Operand.func 41), args := #[Go.Operand.tmp 160], argTypes := #[76] }, type := 3, pos := "law.go:90", after := #[{ on := 33, ground := Go.Ground.data }, { on := 32, ground := Go.Ground.chain }, { on := 32, ground := Go.Ground.guard }], guard := some (32, true) }) rfl (fun K hK => ?_) AllReadyH.nil
                go_simp
                refine (jLen_nil w10).mono ?_
                rintro e w11 ⟨rfl, rfl⟩
                refine hK.out _ _ hHeld (fun hHeld2 => ?_)
                clear hK K hHeld2
                try simp only [Act.put, List.setIfInBounds_toArray, List.set_cons_zero, List.set_cons_succ]
                refine wpAnyH_take (i := 35) (oi := { dst := some 162, op := Go.Op.binOp Go.BinOp.eql 3 (Go.Operand.tmp 161) (Go.Operand.const (Go.Value.int Go.IntKind.i64 0)) 3, type := 4, pos := "law.go:90", after := #[{ on := 34, ground := Go.Ground.data }, { on := 32, ground := Go.Ground.guard }], guard := some (32, true) }) (v := ?_) rfl (by kernel_rfl) (by kernel_rfl) (by kernel_rfl) (fun _ _ _ h => h) (Or.inl ⟨by rfl, ?_⟩) (by assumption) ?_
                rotate_left
                · (intro w hSw; (try dsimp only at hSw); go_simp; (try (with_reducible rfl)))
                try simp only [Act.put, List.setIfInBounds_toArray, List.set_cons_zero, List.set_cons_succ]
                refine wpAnyH_take (i := 36) (oi := { dst := some 163, op := Go.Op.pick (Go.Operand.tmp 159) (Go.Operand.tmp 162) (Go.Operand.const (Go.Value.bool false)), type := 4, pos := "law.go:90", after := #[{ on := 32, ground := Go.Ground.data }, { on := 35, ground := Go.Ground.data }], guard := none }) (v := ?_) rfl (by kernel_rfl) (by kernel_rfl) (by kernel_rfl) (fun _ _ _ h => h) (Or.inl ⟨by rfl, ?_⟩) (by assumption) ?_
                rotate_left
                · (intro w hSw; (try dsimp only at hSw); go_simp; (try (with_reducible rfl)))
                try simp only [Act.put, List.setIfInBounds_toArray, List.set_cons_zero, List.set_cons_succ]
                refine wpAnyH_take (i := 37) (oi := { dst := some 164, op := Go.Op.move (Go.Operand.tmp 163), type := 4, pos := "law.go:90", after := #[{ on := 36, ground := Go.Ground.data }, { on := 34, ground := Go.Ground.chain }], guard := none }) (v := ?_) rfl (by kernel_rfl) (by kernel_rfl) (by kernel_rfl) (fun _ _ _ h => h) (Or.inl ⟨by rfl, ?_⟩) (by assumption) ?_
                rotate_left
                · (intro w hSw; (try dsimp only at hSw); go_simp; (try (with_reducible rfl)))
                try simp only [Act.put, List.setIfInBounds_toArray, List.set_cons_zero, List.set_cons_succ]
                refine wpAnyH_ready (rs := [38]) (by kernel_rfl) (by simp) ?_
                refine AllReadyH.cons (o := { dst := some 165, op := Go.Op.call { callee := Go.Callee.value (Go.Operand.func 38), args := #[], argTypes := #[] }, type := 4, pos := "law.go:90", after := #[{ on := 37, ground := Go.Ground.chain }, { on := 37, ground := Go.Ground.guard }], guard := some (37, true) }) rfl (fun K hK => ?_) AllReadyH.nil
                go_simp
                refine (works42 w10).mono ?_
                rintro e w12 ⟨rfl, bel12⟩
                have h12 := h10.below bel12
                have e1 := conv_rw (P := Try.prog) (h12.row_rw (by decide)) 57 9 Try.underlying57 Try.underlying5 Try.underlying9
                have e2 := hAl.out _ _ h12
                have e3 := hends.out k hks.out _ _ _ (h12.pick 2 (by simp))
                rw [hm.out] at e3
                refine hK.out _ _ ⟨e1, e3, e2⟩ (fun hHeld2 => ?_)
                clear hK K hHeld hHeld2
                have hHeld : (fun w' : World => (convert 57 9 (.slice A9 n9 c9)).run Try.prog w' = .ok (.string (strOfNums T)) w' ∧ (w'.cell? ⟨eb, eo + k, none⟩ = some (.int .i64 (j : Int)) ∧ (convert 57 9 (.slice A7 j c7)).run Try.prog w' = .ok (.string (strOfNums T)) w')) w12 := ⟨e1, e3, e2⟩
                clear e1 e2 e3
                try simp only [Act.put, List.setIfInBounds_toArray, List.set_cons_zero, List.set_cons_succ]
                refine wpAnyH_take (i := 39) (oi := { dst := some 166, op := Go.Op.pick (Go.Operand.tmp 164) (Go.Operand.tmp 165) (Go.Operand.const (Go.Value.bool false)), type := 4, pos := "law.go:90", after := #[{ on := 37, ground := Go.Ground.data }, { on := 38, ground := Go.Ground.data }], guard := none }) (v := ?_) rfl (by kernel_rfl) (by kernel_rfl) (by kernel_rfl) (fun _ _ _ h => h) (Or.inl ⟨by rfl, ?_⟩) (by assumption) ?_
                rotate_left
                · (intro w hSw; (try dsimp only at hSw); go_simp; (try (with_reducible rfl)))
                try simp only [Act.put, List.setIfInBounds_toArray, List.set_cons_zero, List.set_cons_succ]
                refine wpAnyH_take (i := 40) (oi := { dst := some 4, op := Go.Op.assign (Go.Operand.tmp 166), type := 4, pos := "law.go:90", after := #[{ on := 39, ground := Go.Ground.data }, { on := 38, ground := Go.Ground.chain }, { on := 0, ground := Go.Ground.phase }, { on := 1, ground := Go.Ground.phase }, { on := 2, ground := Go.Ground.phase }, { on := 3, ground := Go.Ground.phase }, { on := 4, ground := Go.Ground.phase }, { on := 5, ground := Go.Ground.phase }, { on := 6, ground := Go.Ground.phase }, { on := 7, ground := Go.Ground.phase }, { on := 8, ground := Go.Ground.phase }, { on := 9, ground := Go.Ground.phase }, { on := 10, ground := Go.Ground.phase }, { on := 11, ground := Go.Ground.phase }, { on := 12, ground := Go.Ground.phase }, { on := 13, ground := Go.Ground.phase }, { on := 14, ground := Go.Ground.phase }, { on := 15, ground := Go.Ground.phase }, { on := 16, ground := Go.Ground.phase }, { on := 17, ground := Go.Ground.phase }, { on := 18, ground := Go.Ground.phase }, { on := 19, ground := Go.Ground.phase }, { on := 20, ground := Go.Ground.phase }, { on := 21, ground := Go.Ground.phase }, { on := 22, ground := Go.Ground.phase }, { on := 23, ground := Go.Ground.phase }, { on := 24, ground := Go.Ground.phase }, { on := 25, ground := Go.Ground.phase }, { on := 26, ground := Go.Ground.phase }, { on := 27, ground := Go.Ground.phase }, { on := 28, ground := Go.Ground.phase }, { on := 29, ground := Go.Ground.phase }, { on := 30, ground := Go.Ground.phase }, { on := 31, ground := Go.Ground.phase }, { on := 32, ground := Go.Ground.phase }, { on := 33, ground := Go.Ground.phase }, { on := 34, ground := Go.Ground.phase }, { on := 35, ground := Go.Ground.phase }, { on := 36, ground := Go.Ground.phase }, { on := 37, ground := Go.Ground.phase }, { on := 38, ground := Go.Ground.phase }, { on := 39, ground := Go.Ground.phase }], guard := none }) (v := ?_) rfl (by kernel_rfl) (by kernel_rfl) (by kernel_rfl) (fun _ _ _ h => h) (Or.inl ⟨by rfl, ?_⟩) (by assumption) ?_
                rotate_left
                · (intro w hSw; (try dsimp only at hSw); go_simp; (try (with_reducible rfl)))
                try simp only [Act.put, List.setIfInBounds_toArray, List.set_cons_zero, List.set_cons_succ]
                refine wpAnyH_done (by kernel_rfl) ?_ _
                go_wp2_with fail
                go_ret
                exact ⟨rfl, (h12.weaken hleA).toBelow ((((en7.drew.trans en9).trans (bel_env bel10))).trans (bel_env bel12))⟩
          · have h1I : ¬ (k : Int) + 1 < (n8 : Int) := by omega
            have hx : k < L.length → C < (flat (L.take (k + 1))).length := fun h => by have := hn8.out; omega
            replace hP := Lib.hid hP
            go_wp2_with fail
            refine (load_any A7 C c7 _ (hbf.take C) (by rw [List.length_take]; omega) H1 _ w9 (h9.drop.drop) rT).mono ?_
            rintro e w6 ⟨p6, l6, j, e6, H6, rfl, m6, h6, en6, hg6, ld⟩
            have en7 := en1.trans en6
            obtain ⟨g1, g2, g3⟩ := partF L hfitA C (by have := hn7.out; omega) k hk hkC hx (ents l6) j e6 ld
            have hlk : l6.length = k := by have := congrArg List.length g1; rw [ents_len, List.length_take, Nat.min_eq_left hk] at this; exact this
            have f4 : flat (ents l6) = (flat L).take j := by
              rw [g1, g2]
              have hs : flat L = flat (L.take k) ++ flat (L.drop k) := by rw [← flat_app, List.take_append_drop]
              have h := congrArg (List.take (flat (L.take k)).length) hs
              rw [List.take_left] at h
              exact h.symm
            have hm : Hid ((((flat (L.take k)).length : Nat) : Int) = (j : Int)) := Lib.hid (by rw [g2])
            have hks : Hid (k ≤ L.length) := Lib.hid hk
            have hjn : j ≤ n7 := by have := hn7.out; omega
            have hjc : (j : Int) ≤ (c7 : Int) := by omega
            have hjI : (j : Int) ≤ (n7 : Int) := by omega
            have hkI : (k : Int) < (n8 : Int) := by have := hn8.out; omega
            have hk0 : (0 : Int) ≤ (k : Int) := by omega
            have hBy := fun w h => jBytes p6 l6 H6 hg6 (by rw [hlk]; have := hn8.out; omega) [Row 3 1 (.slice (some ⟨eb, eo, none⟩) n8 c8) (endsV L)] w h
            rw [f4] at hBy
            have hAl : ∀ (l : List HA) (w : World), St H6 l w → (convert 57 9 (.slice A7 j c7)).run Try.prog w = .ok (.string (strOfNums ((flat L).take j))) w := fun l w h => by
              have hr := (((rW.mono m6).rw h).upto j hjn)
              rw [Nat.mul_one, u8s_take] at hr
              exact conv_rw hr 57 9 Try.underlying57 Try.underlying5 Try.underlying9
            replace hBy := Lib.hid hBy
            replace hAl := Lib.hid hAl
            have qk6 := hends.out k hk _ _ _ h6.swap
            rw [hm.out] at qk6
            have q6l := World.block_lt_of_cell? _ _ qk6
            have h7 := h6.drew
            have hc0 := hAl.out _ _ h7
            have qk := hends.out k hk _ _ _ h7.swap
            rw [hm.out] at qk
            have hJL := jLen p6 l6 H6 _ _ h7
            rw [hlk] at hJL
            rw [← g2] at g3
            generalize (flat L).take j = T at *
            replace hlk := Lib.hid hlk
            clear g1 g2 f4 ld hx hkC rT
            have hleA := Hp.le_trans hle m6
            by_cases hjC : j = C
            · rw [if_pos hjC] at g3
              subst g3
              have bjC : ((j : Int) == (C : Int)) = true := beq_iff_eq.2 (by omega)
              replace hjC := Lib.hid hjC
              go_wp2_with fail
              refine wp_region_held_drew (S := (fun w' : World => w'.cell? ⟨eb, eo + k, none⟩ = some (.int .i64 (j : Int)) ∧ (convert 57 9 (.slice A7 j c7)).run Try.prog w' = .ok (.string (strOfNums T)) w')) (by kernel_rfl) ⟨qk, hc0⟩ (fun hHeld => ?_)
              refine wpAnyH_take (i := 0) (oi := { dst := some 127, op := Go.Op.move (Go.Operand.tmp 15), type := 3, pos := "law.go:90", after := #[], guard := none }) (v := ?_) rfl (by kernel_rfl) (by kernel_rfl) (by kernel_rfl) (fun _ _ _ h => h) (Or.inl ⟨by rfl, ?_⟩) (by assumption) ?_
              rotate_left
              · (intro w hSw; (try dsimp only at hSw); go_simp; (try (with_reducible rfl)))
              try simp only [Act.put, List.setIfInBounds_toArray, List.set_cons_zero, List.set_cons_succ]
              refine wpAnyH_take (i := 1) (oi := { dst := some 128, op := Go.Op.move (Go.Operand.tmp 7), type := 26, pos := "law.go:90", after := #[], guard := none }) (v := ?_) rfl (by kernel_rfl) (by kernel_rfl) (by kernel_rfl) (fun _ _ _ h => h) (Or.inl ⟨by rfl, ?_⟩) (by assumption) ?_
              rotate_left
              · (intro w hSw; (try dsimp only at hSw); go_simp; (try (with_reducible rfl)))
              try simp only [Act.put, List.setIfInBounds_toArray, List.set_cons_zero, List.set_cons_succ]
              refine wpAnyH_take (i := 2) (oi := { dst := some 129, op := Go.Op.move (Go.Operand.tmp 13), type := 3, pos := "law.go:90", after := #[], guard := none }) (v := ?_) rfl (by kernel_rfl) (by kernel_rfl) (by kernel_rfl) (fun _ _ _ h => h) (Or.inl ⟨by rfl, ?_⟩) (by assumption) ?_
              rotate_left
              · (intro w hSw; (try dsimp only at hSw); go_simp; (try (with_reducible rfl)))
              try simp only [Act.put, List.setIfInBounds_toArray, List.set_cons_zero, List.set_cons_succ]
              refine wpAnyH_take (i := 3) (oi := { dst := some 130, op := Go.Op.indexAddr 26 (Go.Operand.tmp 128) (Go.Operand.tmp 129), type := 0, pos := "law.go:90", after := #[{ on := 1, ground := Go.Ground.data }, { on := 2, ground := Go.Ground.data }], guard := none }) (v := ?_) rfl (by kernel_rfl) (by kernel_rfl) (by kernel_rfl) (fun _ _ _ h => h) (Or.inl ⟨by rfl, ?_⟩) (by assumption) ?_
              rotate_left
              · (intro w hSw; (try dsimp only at hSw); go_simp; (try (with_reducible rfl)))
              try simp only [Act.put, List.setIfInBounds_toArray, List.set_cons_zero, List.set_cons_succ]
              refine wpAnyH_take (i := 4) (oi := { dst := some 131, op := Go.Op.load 3 (Go.Operand.tmp 130), type := 3, pos := "law.go:90", after := #[{ on := 3, ground := Go.Ground.data }], guard := none }) (v := ?_) rfl (by kernel_rfl) (by kernel_rfl) (by kernel_rfl) (fun _ _ _ h => h) (Or.inl ⟨by rfl, ?_⟩) (by assumption) ?_
              rotate_left
              · (intro w hSw; (try dsimp only at hSw); go_simp; (try (with_reducible rfl)))
              try simp only [Act.put, List.setIfInBounds_toArray, List.set_cons_zero, List.set_cons_succ]
              refine wpAnyH_take (i := 5) (oi := { dst := some 132, op := Go.Op.binOp Go.BinOp.eql 3 (Go.Operand.tmp 127) (Go.Operand.tmp 131) 3, type := 4, pos := "law.go:90", after := #[{ on := 0, ground := Go.Ground.data }, { on := 4, ground := Go.Ground.data }], guard := none }) (v := ?_) rfl (by kernel_rfl) (by kernel_rfl) (by kernel_rfl) (fun _ _ _ h => h) (Or.inl ⟨by rfl, ?_⟩) (by assumption) ?_
              rotate_left
              · (intro w hSw; (try dsimp only at hSw); go_simp; (try (with_reducible rfl)))
              try simp only [Act.put, List.setIfInBounds_toArray, List.set_cons_zero, List.set_cons_succ]
              refine wpAnyH_take (i := 6) (oi := { dst := some 133, op := Go.Op.move (Go.Operand.tmp 132), type := 4, pos := "law.go:90", after := #[{ on := 5, ground := Go.Ground.data }], guard := none }) (v := ?_) rfl (by kernel_rfl) (by kernel_rfl) (by kernel_rfl) (fun _ _ _ h => h) (Or.inl ⟨by rfl, ?_⟩) (by assumption) ?_
              rotate_left
              · (intro w hSw; (try dsimp only at hSw); go_simp; (try (with_reducible rfl)))
              try simp only [Act.put, List.setIfInBounds_toArray, List.set_cons_zero, List.set_cons_succ]
              refine wpAnyH_take (i := 7) (oi := { dst := some 134, op := Go.Op.move (Go.Operand.tmp 16), type := 54, pos := "law.go:90", after := #[{ on := 6, ground := Go.Ground.guard }], guard := some (6, true) }) (v := ?_) rfl (by kernel_rfl) (by kernel_rfl) (by kernel_rfl) (fun _ _ _ h => h) (Or.inl ⟨by rfl, ?_⟩) (by assumption) ?_
              rotate_left
              · (intro w hSw; (try dsimp only at hSw); go_simp; (try (with_reducible rfl)))
              try simp only [Act.put, List.setIfInBounds_toArray, List.set_cons_zero, List.set_cons_succ]
              refine wpAnyH_take (i := 8) (oi := { dst := some 135, op := Go.Op.move (Go.Operand.tmp 17), type := 54, pos := "law.go:90", after := #[{ on := 6, ground := Go.Ground.guard }], guard := some (6, true) }) (v := ?_) rfl (by kernel_rfl) (by kernel_rfl) (by kernel_rfl) (fun _ _ _ h => h) (Or.inl ⟨by rfl, ?_⟩) (by assumption) ?_
              rotate_left
              · (intro w hSw; (try dsimp only at hSw); go_simp; (try (with_reducible rfl)))
              try simp only [Act.put, List.setIfInBounds_toArray, List.set_cons_zero, List.set_cons_succ]
              refine wpAnyH_take (i := 9) (oi := { dst := some 136, op := Go.Op.binOp Go.BinOp.eql 54 (Go.Operand.tmp 134) (Go.Operand.tmp 135) 54, type := 4, pos := "law.go:90", after := #[{ on := 7, ground := Go.Ground.data }, { on := 8, ground := Go.Ground.data }, { on := 6, ground := Go.Ground.guard }], guard := some (6, true) }) (v := ?_) rfl (by kernel_rfl) (by kernel_rfl) (by kernel_rfl) (fun _ _ _ h => h) (Or.inl ⟨by rfl, ?_⟩) (by assumption) ?_
              rotate_left
              · (intro w hSw; (try dsimp only at hSw); go_simp; (try (with_reducible rfl)))
              try simp only [Act.put, List.setIfInBounds_toArray, List.set_cons_zero, List.set_cons_succ]
              refine wpAnyH_take (i := 10) (oi := { dst := some 137, op := Go.Op.pick (Go.Operand.tmp 133) (Go.Operand.tmp 136) (Go.Operand.const (Go.Value.bool false)), type := 4, pos := "law.go:90", after := #[{ on := 6, ground := Go.Ground.data }, { on := 9, ground := Go.Ground.data }], guard := none }) (v := ?_) rfl (by kernel_rfl) (by kernel_rfl) (by kernel_rfl) (fun _ _ _ h => h) (Or.inl ⟨by rfl, ?_⟩) (by assumption) ?_
              rotate_left
              · (intro w hSw; (try dsimp only at hSw); go_simp; (try (with_reducible rfl)))
              try simp only [Act.put, List.setIfInBounds_toArray, List.set_cons_zero, List.set_cons_succ]
              refine wpAnyH_take (i := 11) (oi := { dst := some 138, op := Go.Op.move (Go.Operand.tmp 137), type := 4, pos := "law.go:90", after := #[{ on := 10, ground := Go.Ground.data }, { on := 6, ground := Go.Ground.chain }], guard := none }) (v := ?_) rfl (by kernel_rfl) (by kernel_rfl) (by kernel_rfl) (fun _ _ _ h => h) (Or.inl ⟨by rfl, ?_⟩) (by assumption) ?_
              rotate_left
              · (intro w hSw; (try dsimp only at hSw); go_simp; (try (with_reducible rfl)))
              try simp only [Act.put, List.setIfInBounds_toArray, List.set_cons_zero, List.set_cons_succ]
              refine wpAnyH_take (i := 12) (oi := { dst := some 139, op := Go.Op.move (Go.Operand.tmp 14), type := 76, pos := "law.go:90", after := #[{ on := 11, ground := Go.Ground.guard }], guard := some (11, true) }) (v := ?_) rfl (by kernel_rfl) (by kernel_rfl) (by kernel_rfl) (fun _ _ _ h => h) (Or.inl ⟨by rfl, ?_⟩) (by assumption) ?_
              rotate_left
              · (intro w hSw; (try dsimp only at hSw); go_simp; (try (with_reducible rfl)))
              try simp only [Act.put, List.setIfInBounds_toArray, List.set_cons_zero, List.set_cons_succ]
              refine wpAnyH_take (i := 14) (oi := { dst := some 141, op := Go.Op.move (Go.Operand.tmp 13), type := 3, pos := "law.go:90", after := #[{ on := 11, ground := Go.Ground.guard }], guard := some (11, true) }) (v := ?_) rfl (by kernel_rfl) (by kernel_rfl) (by kernel_rfl) (fun _ _ _ h => h) (Or.inl ⟨by rfl, ?_⟩) (by assumption) ?_
              rotate_left
              · (intro w hSw; (try dsimp only at hSw); go_simp; (try (with_reducible rfl)))
              try simp only [Act.put, List.setIfInBounds_toArray, List.set_cons_zero, List.set_cons_succ]
              refine wpAnyH_ready (rs := [13]) (by kernel_rfl) (by simp) ?_
              refine AllReadyH.cons (o := { dst := some 140, op := Go.Op.call { callee := Go.Callee.value (Go.Operand.func 41), args := #[Go.Operand.tmp 139], argTypes := #[76] }, type := 3, pos := "law.go:90", after := #[{ on := 12, ground := Go.Ground.data }, { on := 11, ground := Go.Ground.chain }, { on := 11, ground := Go.Ground.guard }], guard := some (11, true) }) rfl (fun K hK => ?_) AllReadyH.nil
              go_simp
              refine hJL.mono ?_
              rintro e w9 ⟨rfl, rfl⟩
              refine hK.out _ _ ⟨qk, hc0⟩ (fun hHeld2 => ?_)
              clear hK K hHeld2
              try simp only [Act.put, List.setIfInBounds_toArray, List.set_cons_zero, List.set_cons_succ]
              refine wpAnyH_take (i := 15) (oi := { dst := some 142, op := Go.Op.binOp Go.BinOp.eql 3 (Go.Operand.tmp 140) (Go.Operand.tmp 141) 3, type := 4, pos := "law.go:90", after := #[{ on := 13, ground := Go.Ground.data }, { on := 14, ground := Go.Ground.data }, { on := 11, ground := Go.Ground.guard }], guard := some (11, true) }) (v := ?_) rfl (by kernel_rfl) (by kernel_rfl) (by kernel_rfl) (fun _ _ _ h => h) (Or.inl ⟨by rfl, ?_⟩) (by assumption) ?_
              rotate_left
              · (intro w hSw; (try dsimp only at hSw); go_simp; (try (with_reducible rfl)))
              try simp only [Act.put, List.setIfInBounds_toArray, List.set_cons_zero, List.set_cons_succ]
              refine wpAnyH_take (i := 16) (oi := { dst := some 143, op := Go.Op.pick (Go.Operand.tmp 138) (Go.Operand.tmp 142) (Go.Operand.const (Go.Value.bool false)), type := 4, pos := "law.go:90", after := #[{ on := 11, ground := Go.Ground.data }, { on := 15, ground := Go.Ground.data }], guard := none }) (v := ?_) rfl (by kernel_rfl) (by kernel_rfl) (by kernel_rfl) (fun _ _ _ h => h) (Or.inl ⟨by rfl, ?_⟩) (by assumption) ?_
              rotate_left
              · (intro w hSw; (try dsimp only at hSw); go_simp; (try (with_reducible rfl)))
              try simp only [Act.put, List.setIfInBounds_toArray, List.set_cons_zero, List.set_cons_succ]
              refine wpAnyH_take (i := 17) (oi := { dst := some 144, op := Go.Op.move (Go.Operand.tmp 143), type := 4, pos := "law.go:90", after := #[{ on := 16, ground := Go.Ground.data }, { on := 13, ground := Go.Ground.chain }], guard := none }) (v := ?_) rfl (by kernel_rfl) (by kernel_rfl) (by kernel_rfl) (fun _ _ _ h => h) (Or.inl ⟨by rfl, ?_⟩) (by assumption) ?_
              rotate_left
              · (intro w hSw; (try dsimp only at hSw); go_simp; (try (with_reducible rfl)))
              try simp only [Act.put, List.setIfInBounds_toArray, List.set_cons_zero, List.set_cons_succ]
              refine wpAnyH_take (i := 18) (oi := { dst := some 145, op := Go.Op.move (Go.Operand.tmp 14), type := 76, pos := "law.go:90", after := #[{ on := 17, ground := Go.Ground.guard }], guard := some (17, true) }) (v := ?_) rfl (by kernel_rfl) (by kernel_rfl) (by kernel_rfl) (fun _ _ _ h => h) (Or.inl ⟨by rfl, ?_⟩) (by assumption) ?_
              rotate_left
              · (intro w hSw; (try dsimp only at hSw); go_simp; (try (with_reducible rfl)))
              try simp only [Act.put, List.setIfInBounds_toArray, List.set_cons_zero, List.set_cons_succ]
              refine wpAnyH_take (i := 21) (oi := { dst := some 148, op := Go.Op.move (Go.Operand.tmp 6), type := 57, pos := "law.go:90", after := #[{ on := 17, ground := Go.Ground.guard }], guard := some (17, true) }) (v := ?_) rfl (by kernel_rfl) (by kernel_rfl) (by kernel_rfl) (fun _ _ _ h => h) (Or.inl ⟨by rfl, ?_⟩) (by assumption) ?_
              rotate_left
              · (intro w hSw; (try dsimp only at hSw); go_simp; (try (with_reducible rfl)))
              try simp only [Act.put, List.setIfInBounds_toArray, List.set_cons_zero, List.set_cons_succ]
              refine wpAnyH_take (i := 22) (oi := { dst := some 149, op := Go.Op.move (Go.Operand.tmp 15), type := 3, pos := "law.go:90", after := #[{ on := 17, ground := Go.Ground.guard }], guard := some (17, true) }) (v := ?_) rfl (by kernel_rfl) (by kernel_rfl) (by kernel_rfl) (fun _ _ _ h => h) (Or.inl ⟨by rfl, ?_⟩) (by assumption) ?_
              rotate_left
              · (intro w hSw; (try dsimp only at hSw); go_simp; (try (with_reducible rfl)))
              try simp only [Act.put, List.setIfInBounds_toArray, List.set_cons_zero, List.set_cons_succ]
              refine wpAnyH_take (i := 23) (oi := { dst := some 150, op := Go.Op.slice 57 (Go.Operand.tmp 148) none (some (Go.Operand.tmp 149)) none, type := 57, pos := "law.go:90", after := #[{ on := 21, ground := Go.Ground.data }, { on := 22, ground := Go.Ground.data }, { on := 17, ground := Go.Ground.guard }], guard := some (17, true) }) (v := ?_) rfl (by kernel_rfl) (by kernel_rfl) (by kernel_rfl) (fun _ _ _ h => h) (Or.inl ⟨by rfl, ?_⟩) (by assumption) ?_
              rotate_left
              · (intro w hSw; (try dsimp only at hSw); go_simp; (try (with_reducible rfl)))
              try simp only [Act.put, List.setIfInBounds_toArray, List.set_cons_zero, List.set_cons_succ]
              refine wpAnyH_take (i := 24) (oi := { dst := some 151, op := Go.Op.convert 57 9 (Go.Operand.tmp 150), type := 9, pos := "law.go:90", after := #[{ on := 23, ground := Go.Ground.data }, { on := 17, ground := Go.Ground.guard }], guard := some (17, true) }) (v := ?_) rfl (by kernel_rfl) (by kernel_rfl) (by kernel_rfl) (fun _ _ _ h => h) (Or.inl ⟨by rfl, ?_⟩) (by assumption) ?_
              rotate_left
              · (intro w hSw; (try dsimp only at hSw); go_simp; (try (with_reducible rfl)))
              try simp only [Act.put, List.setIfInBounds_toArray, List.set_cons_zero, List.set_cons_succ]
              refine wpAnyH_ready (rs := [19]) (by kernel_rfl) (by simp) ?_
              refine AllReadyH.cons (o := { dst := some 146, op := Go.Op.call { callee := Go.Callee.value (Go.Operand.func 42), args := #[Go.Operand.tmp 145], argTypes := #[76] }, type := 57, pos := "law.go:90", after := #[{ on := 18, ground := Go.Ground.data }, { on := 17, ground := Go.Ground.chain }, { on := 17, ground := Go.Ground.guard }], guard := some (17, true) }) rfl (fun K hK => ?_) AllReadyH.nil
              go_simp
              refine (hBy.out _ h7).mono ?_
              rintro e w9 hq
              obtain ⟨v9, rfl, h9, en9⟩ := ResE.lift h7 hq
              obtain ⟨A9, n9, c9, rfl, _⟩ := h9.row_form
              have hc1 := conv_rw (P := Try.prog) (h9.row_rw (by decide)) 57 9 Try.underlying57 Try.underlying5 Try.underlying9
              have hc2 := hAl.out _ _ h9
              have qk9 := hends.out k hks.out _ _ _ (h9.pick 2 (by simp))
              rw [hm.out] at qk9
              refine hK.out _ _ ⟨qk9, hc2⟩ (fun hHeld2 => ?_)
              clear hK K hHeld hHeld2 hq
              refine wpAnyH_mono (S := (fun w' : World => (convert 57 9 (.slice A9 n9 c9)).run Try.prog w' = .ok (.string (strOfNums T)) w' ∧ (w'.cell? ⟨eb, eo + k, none⟩ = some (.int .i64 (j : Int)) ∧ (convert 57 9 (.slice A7 j c7)).run Try.prog w' = .ok (.string (strOfNums T)) w'))) (fun _ h => h.2) _ _ _ _ ?_
              have hHeld : (fun w' : World => (convert 57 9 (.slice A9 n9 c9)).run Try.prog w' = .ok (.string (strOfNums T)) w' ∧ (w'.cell? ⟨eb, eo + k, none⟩ = some (.int .i64 (j : Int)) ∧ (convert 57 9 (.slice A7 j c7)).run Try.prog w' = .ok (.string (strOfNums T)) w')) w9 := ⟨hc1, qk9, hc2⟩
              try simp only [Act.put, List.setIfInBounds_toArray, List.set_cons_zero, List.set_cons_succ]
              refine wpAnyH_take (i := 20) (oi := { dst := some 147, op := Go.Op.convert 57 9 (Go.Operand.tmp 146), type := 9, pos := "law.go:90", after := #[{ on := 19, ground := Go.Ground.data }, { on := 17, ground := Go.Ground.guard }], guard := some (17, true) }) (v := ?_) rfl (by kernel_rfl) (by kernel_rfl) (by kernel_rfl) (fun _ _ _ h => h) (Or.inl ⟨by rfl, ?_⟩) (by assumption) ?_
              rotate_left
              · (intro w hSw; (try dsimp only at hSw); go_simp; (try (with_reducible rfl)))
              try simp only [Act.put, List.setIfInBounds_toArray, List.set_cons_zero, List.set_cons_succ]
              refine wpAnyH_take (i := 25) (oi := { dst := some 152, op := Go.Op.binOp Go.BinOp.eql 9 (Go.Operand.tmp 147) (Go.Operand.tmp 151) 9, type := 4, pos := "law.go:90", after := #[{ on := 20, ground := Go.Ground.data }, { on := 24, ground := Go.Ground.data }, { on := 17, ground := Go.Ground.guard }], guard := some (17, true) }) (v := ?_) rfl (by kernel_rfl) (by kernel_rfl) (by kernel_rfl) (fun _ _ _ h => h) (Or.inl ⟨by rfl, ?_⟩) (by assumption) ?_
              rotate_left
              · (intro w hSw; (try dsimp only at hSw); go_simp; (try (with_reducible rfl)))
              try simp only [Act.put, List.setIfInBounds_toArray, List.set_cons_zero, List.set_cons_succ]
              refine wpAnyH_take (i := 26) (oi := { dst := some 153, op := Go.Op.pick (Go.Operand.tmp 144) (Go.Operand.tmp 152) (Go.Operand.const (Go.Value.bool false)), type := 4, pos := "law.go:90", after := #[{ on := 17, ground := Go.Ground.data }, { on := 25, ground := Go.Ground.data }], guard := none }) (v := ?_) rfl (by kernel_rfl) (by kernel_rfl) (by kernel_rfl) (fun _ _ _ h => h) (Or.inl ⟨by rfl, ?_⟩) (by assumption) ?_
              rotate_left
              · (intro w hSw; (try dsimp only at hSw); go_simp; (try (with_reducible rfl)))
              try simp only [Act.put, List.setIfInBounds_toArray, List.set_cons_zero, List.set_cons_succ]
              refine wpAnyH_take (i := 27) (oi := { dst := some 154, op := Go.Op.move (Go.Operand.tmp 153), type := 4, pos := "law.go:90", after := #[{ on := 26, ground := Go.Ground.data }, { on := 19, ground := Go.Ground.chain }], guard := none }) (v := ?_) rfl (by kernel_rfl) (by kernel_rfl) (by kernel_rfl) (fun _ _ _ h => h) (Or.inl ⟨by rfl, ?_⟩) (by assumption) ?_
              rotate_left
              · (intro w hSw; (try dsimp only at hSw); go_simp; (try (with_reducible rfl)))
              try simp only [Act.put, List.setIfInBounds_toArray, List.set_cons_zero, List.set_cons_succ]
              refine wpAnyH_take (i := 28) (oi := { dst := some 155, op := Go.Op.move (Go.Operand.tmp 18), type := 76, pos := "law.go:90", after := #[{ on := 27, ground := Go.Ground.guard }], guard := some (27, true) }) (v := ?_) rfl (by kernel_rfl) (by kernel_rfl) (by kernel_rfl) (fun _ _ _ h => h) (Or.inl ⟨by rfl, ?_⟩) (by assumption) ?_
              rotate_left
              · (intro w hSw; (try dsimp only at hSw); go_simp; (try (with_reducible rfl)))
              try simp only [Act.put, List.setIfInBounds_toArray, List.set_cons_zero, List.set_cons_succ]
              refine wpAnyH_ready (rs := [29]) (by kernel_rfl) (by simp) ?_
              refine AllReadyH.cons (o := { dst := some 156, op := Go.Op.call { callee := Go.Callee.value (Go.Operand.func 45), args := #[Go.Operand.tmp 155], argTypes := #[76] }, type := 54, pos := "law.go:90", after := #[{ on := 28, ground := Go.Ground.data }, { on := 27, ground := Go.Ground.chain }, { on := 27, ground := Go.Ground.guard }], guard := some (27, true) }) rfl (fun K hK => ?_) AllReadyH.nil
              go_simp
              refine (jCompact_of (.pointer none) 2 _ _ (jPut_nil 3 0 (.slice none 0 0) w9)).mono ?_
              rintro e w10 ⟨rfl, bel10⟩
              have h10 := h9.below bel10
              have e1 := conv_rw (P := Try.prog) (h10.row_rw (by decide)) 57 9 Try.underlying57 Try.underlying5 Try.underlying9
              have e2 := hAl.out _ _ h10
              have e3 := hends.out k hks.out _ _ _ (h10.pick 2 (by simp))
              rw [hm.out] at e3
              refine hK.out _ _ ⟨e1, e3, e2⟩ (fun hHeld2 => ?_)
              clear hK K hHeld hHeld2
              have hHeld : (fun w' : World => (convert 57 9 (.slice A9 n9 c9)).run Try.prog w' = .ok (.string (strOfNums T)) w' ∧ (w'.cell? ⟨eb, eo + k, none⟩ = some (.int .i64 (j : Int)) ∧ (convert 57 9 (.slice A7 j c7)).run Try.prog w' = .ok (.string (strOfNums T)) w')) w10 := ⟨e1, e3, e2⟩
              clear e1 e2 e3
              try simp only [Act.put, List.setIfInBounds_toArray, List.set_cons_zero, List.set_cons_succ]
              refine wpAnyH_take (i := 30) (oi := { dst := some 157, op := Go.Op.binOp Go.BinOp.eql 54 (Go.Operand.tmp 156) (Go.Operand.const (Go.Value.int Go.IntKind.i64 2)) 54, type := 4, pos := "law.go:90", after := #[{ on := 29, ground := Go.Ground.data }, { on := 27, ground := Go.Ground.guard }], guard := some (27, true) }) (v := ?_) rfl (by kernel_rfl) (by kernel_rfl) (by kernel_rfl) (fun _ _ _ h => h) (Or.inl ⟨by rfl, ?_⟩) (by assumption) ?_
              rotate_left
              · (intro w hSw; (try dsimp only at hSw); go_simp; (try (with_reducible rfl)))
              try simp only [Act.put, List.setIfInBounds_toArray, List.set_cons_zero, List.set_cons_succ]
              refine wpAnyH_take (i := 31) (oi := { dst := some 158, op := Go.Op.pick (Go.Operand.tmp 154) (Go.Operand.tmp 157) (Go.Operand.const (Go.Value.bool false)), type := 4, pos := "law.go:90", after := #[{ on := 27, ground := Go.Ground.data }, { on := 30, ground := Go.Ground.data }], guard := none }) (v := ?_) rfl (by kernel_rfl) (by kernel_rfl) (by kernel_rfl) (fun _ _ _ h => h) (Or.inl ⟨by rfl, ?_⟩) (by assumption) ?_
              rotate_left
              · (intro w hSw; (try dsimp only at hSw); go_simp; (try (with_reducible rfl)))
              try simp only [Act.put, List.setIfInBounds_toArray, List.set_cons_zero, List.set_cons_succ]
              refine wpAnyH_take (i := 32) (oi := { dst := some 159, op := Go.Op.move (Go.Operand.tmp 158), type := 4, pos := "law.go:90", after := #[{ on := 31, ground := Go.Ground.data }, { on := 29, ground := Go.Ground.chain }], guard := none }) (v := ?_) rfl (by kernel_rfl) (by kernel_rfl) (by kernel_rfl) (fun _ _ _ h => h) (Or.inl ⟨by rfl, ?_⟩) (by assumption) ?_
              rotate_left
              · (intro w hSw; (try dsimp only at hSw); go_simp; (try (with_reducible rfl)))
              try simp only [Act.put, List.setIfInBounds_toArray, List.set_cons_zero, List.set_cons_succ]
              refine wpAnyH_take (i := 33) (oi := { dst := some 160, op := Go.Op.move (Go.Operand.tmp 18), type := 76, pos := "law.go:90", after := #[{ on := 32, ground := Go.Ground.guard }], guard := some (32, true) }) (v := ?_) rfl (by kernel_rfl) (by kernel_rfl) (by kernel_rfl) (fun _ _ _ h => h) (Or.inl ⟨by rfl, ?_⟩) (by assumption) ?_
              rotate_left
              · (intro w hSw; (try dsimp only at hSw); go_simp; (try (with_reducible rfl)))
              try simp only [Act.put, List.setIfInBounds_toArray, List.set_cons_zero, List.set_cons_succ]
              refine wpAnyH_ready (rs := [34]) (by kernel_rfl) (by simp) ?_
              refine AllReadyH.cons (o := { dst := some 161, op := Go.Op.call { callee := Go.Callee.value (Go.Operand.func 41), args := #[Go.Operand.tmp 160], argTypes := #[76] }, type := 3, pos := "law.go:90", after := #[{ on := 33, ground := Go.Ground.data }, { on := 32, ground := Go.Ground.chain }, { on := 32, ground := Go.Ground.guard }], guard := some (32, true) }) rfl (fun K hK => ?_) AllReadyH.nil
              go_simp
              refine (jLen_nil w10).mono ?_
              rintro e w11 ⟨rfl, rfl⟩
              refine hK.out _ _ hHeld (fun hHeld2 => ?_)
              clear hK K hHeld2
              try simp only [Act.put, List.setIfInBounds_toArray, List.set_cons_zero, List.set_cons_succ]
              refine wpAnyH_take (i := 35) (oi := { dst := some 162, op := Go.Op.binOp Go.BinOp.eql 3 (Go.Operand.tmp 161) (Go.Operand.const (Go.Value.int Go.IntKind.i64 0)) 3, type := 4, pos := "law.go:90", after := #[{ on := 34, ground := Go.Ground.data }, { on := 32, ground := Go.Ground.guard }], guard := some (32, true) }) (v := ?_) rfl (by kernel_rfl) (by kernel_rfl) (by kernel_rfl) (fun _ _ _ h => h) (Or.inl ⟨by rfl, ?_⟩) (by assumption) ?_
              rotate_left
              · (intro w hSw; (try dsimp only at hSw); go_simp; (try (with_reducible rfl)))
              try simp only [Act.put, List.setIfInBounds_toArray, List.set_cons_zero, List.set_cons_succ]
              refine wpAnyH_take (i := 36) (oi := { dst := some 163, op := Go.Op.pick (Go.Operand.tmp 159) (Go.Operand.tmp 162) (Go.Operand.const (Go.Value.bool false)), type := 4, pos := "law.go:90", after := #[{ on := 32, ground := Go.Ground.data }, { on := 35, ground := Go.Ground.data }], guard := none }) (v := ?_) rfl (by kernel_rfl) (by kernel_rfl) (by kernel_rfl) (fun _ _ _ h => h) (Or.inl ⟨by rfl, ?_⟩) (by assumption) ?_
              rotate_left
              · (intro w hSw; (try dsimp only at hSw); go_simp; (try (with_reducible rfl)))
              try simp only [Act.put, List.setIfInBounds_toArray, List.set_cons_zero, List.set_cons_succ]
              refine wpAnyH_take (i := 37) (oi := { dst := some 164, op := Go.Op.move (Go.Operand.tmp 163), type := 4, pos := "law.go:90", after := #[{ on := 36, ground := Go.Ground.data }, { on := 34, ground := Go.Ground.chain }], guard := none }) (v := ?_) rfl (by kernel_rfl) (by kernel_rfl) (by kernel_rfl) (fun _ _ _ h => h) (Or.inl ⟨by rfl, ?_⟩) (by assumption) ?_
              rotate_left
              · (intro w hSw; (try dsimp only at hSw); go_simp; (try (with_reducible rfl)))
              try simp only [Act.put, List.setIfInBounds_toArray, List.set_cons_zero, List.set_cons_succ]
              refine wpAnyH_ready (rs := [38]) (by kernel_rfl) (by simp) ?_
              refine AllReadyH.cons (o := { dst := some 165, op := Go.Op.call { callee := Go.Callee.value (Go.Operand.func 38), args := #[], argTypes := #[] }, type := 4, pos := "law.go:90", after := #[{ on := 37, ground := Go.Ground.chain }, { on := 37, ground := Go.Ground.guard }], guard := some (37, true) }) rfl (fun K hK => ?_) AllReadyH.nil
              go_simp
              refine (works42 w10).mono ?_
              rintro e w12 ⟨rfl, bel12⟩
              have h12 := h10.below bel12
              have e1 := conv_rw (P := Try.prog) (h12.row_rw (by decide)) 57 9 Try.underlying57 Try.underlying5 Try.underlying9
              have e2 := hAl.out _ _ h12
              have e3 := hends.out k hks.out _ _ _ (h12.pick 2 (by simp))
              rw [hm.out] at e3
              refine hK.out _ _ ⟨e1, e3, e2⟩ (fun hHeld2 => ?_)
              clear hK K hHeld hHeld2
              have hHeld : (fun w' : World => (convert 57 9 (.slice A9 n9 c9)).run Try.prog w' = .ok (.string (strOfNums T)) w' ∧ (w'.cell? ⟨eb, eo + k, none⟩ = some (.int .i64 (j : Int)) ∧ (convert 57 9 (.slice A7 j c7)).run Try.prog w' = .ok (.string (strOfNums T)) w')) w12 := ⟨e1, e3, e2⟩
              clear e1 e2 e3
              try simp only [Act.put, List.setIfInBounds_toArray, List.set_cons_zero, List.set_cons_succ]
              refine wpAnyH_take (i := 39) (oi := { dst := some 166, op := Go.Op.pick (Go.Operand.tmp 164) (Go.Operand.tmp 165) (Go.Operand.const (Go.Value.bool false)), type := 4, pos := "law.go:90", after := #[{ on := 37, ground := Go.Ground.data }, { on := 38, ground := Go.Ground.data }], guard := none }) (v := ?_) rfl (by kernel_rfl) (by kernel_rfl) (by kernel_rfl) (fun _ _ _ h => h) (Or.inl ⟨by rfl, ?_⟩) (by assumption) ?_
              rotate_left
              · (intro w hSw; (try dsimp only at hSw); go_simp; (try (with_reducible rfl)))
              try simp only [Act.put, List.setIfInBounds_toArray, List.set_cons_zero, List.set_cons_succ]
              refine wpAnyH_take (i := 40) (oi := { dst := some 4, op := Go.Op.assign (Go.Operand.tmp 166), type := 4, pos := "law.go:90", after := #[{ on := 39, ground := Go.Ground.data }, { on := 38, ground := Go.Ground.chain }, { on := 0, ground := Go.Ground.phase }, { on := 1, ground := Go.Ground.phase }, { on := 2, ground := Go.Ground.phase }, { on := 3, ground := Go.Ground.phase }, { on := 4, ground := Go.Ground.phase }, { on := 5, ground := Go.Ground.phase }, { on := 6, ground := Go.Ground.phase }, { on := 7, ground := Go.Ground.phase }, { on := 8, ground := Go.Ground.phase }, { on := 9, ground := Go.Ground.phase }, { on := 10, ground := Go.Ground.phase }, { on := 11, ground := Go.Ground.phase }, { on := 12, ground := Go.Ground.phase }, { on := 13, ground := Go.Ground.phase }, { on := 14, ground := Go.Ground.phase }, { on := 15, ground := Go.Ground.phase }, { on := 16, ground := Go.Ground.phase }, { on := 17, ground := Go.Ground.phase }, { on := 18, ground := Go.Ground.phase }, { on := 19, ground := Go.Ground.phase }, { on := 20, ground := Go.Ground.phase }, { on := 21, ground := Go.Ground.phase }, { on := 22, ground := Go.Ground.phase }, { on := 23, ground := Go.Ground.phase }, { on := 24, ground := Go.Ground.phase }, { on := 25, ground := Go.Ground.phase }, { on := 26, ground := Go.Ground.phase }, { on := 27, ground := Go.Ground.phase }, { on := 28, ground := Go.Ground.phase }, { on := 29, ground := Go.Ground.phase }, { on := 30, ground := Go.Ground.phase }, { on := 31, ground := Go.Ground.phase }, { on := 32, ground := Go.Ground.phase }, { on := 33, ground := Go.Ground.phase }, { on := 34, ground := Go.Ground.phase }, { on := 35, ground := Go.Ground.phase }, { on := 36, ground := Go.Ground.phase }, { on := 37, ground := Go.Ground.phase }, { on := 38, ground := Go.Ground.phase }, { on := 39, ground := Go.Ground.phase }], guard := none }) (v := ?_) rfl (by kernel_rfl) (by kernel_rfl) (by kernel_rfl) (fun _ _ _ h => h) (Or.inl ⟨by rfl, ?_⟩) (by assumption) ?_
              rotate_left
              · (intro w hSw; (try dsimp only at hSw); go_simp; (try (with_reducible rfl)))
              try simp only [Act.put, List.setIfInBounds_toArray, List.set_cons_zero, List.set_cons_succ]
              refine wpAnyH_done (by kernel_rfl) ?_ _
              go_wp2_with fail
              go_ret
              exact ⟨rfl, (h12.weaken hleA).toBelow ((((en7.drew.trans en9).trans (bel_env bel10))).trans (bel_env bel12))⟩
            · rw [if_neg hjC] at g3
              subst g3
              have bjC : ((j : Int) == (C : Int)) = false := beq_eq_false_iff_ne.2 (by omega)
              replace hjC := Lib.hid hjC
              go_wp2_with fail
              refine wp_region_held_drew (S := (fun w' : World => w'.cell? ⟨eb, eo + k, none⟩ = some (.int .i64 (j : Int)) ∧ (convert 57 9 (.slice A7 j c7)).run Try.prog w' = .ok (.string (strOfNums T)) w')) (by kernel_rfl) ⟨qk, hc0⟩ (fun hHeld => ?_)
              refine wpAnyH_take (i := 0) (oi := { dst := some 127, op := Go.Op.move (Go.Operand.tmp 15), type := 3, pos := "law.go:90", after := #[], guard := none }) (v := ?_) rfl (by kernel_rfl) (by kernel_rfl) (by kernel_rfl) (fun _ _ _ h => h) (Or.inl ⟨by rfl, ?_⟩) (by assumption) ?_
              rotate_left
              · (intro w hSw; (try dsimp only at hSw); go_simp; (try (with_reducible rfl)))
              try simp only [Act.put, List.setIfInBounds_toArray, List.set_cons_zero, List.set_cons_succ]
              refine wpAnyH_take (i := 1) (oi := { dst := some 128, op := Go.Op.move (Go.Operand.tmp 7), type := 26, pos := "law.go:90", after := #[], guard := none }) (v := ?_) rfl (by kernel_rfl) (by kernel_rfl) (by kernel_rfl) (fun _ _ _ h => h) (Or.inl ⟨by rfl, ?_⟩) (by assumption) ?_
              rotate_left
              · (intro w hSw; (try dsimp only at hSw); go_simp; (try (with_reducible rfl)))
              try simp only [Act.put, List.setIfInBounds_toArray, List.set_cons_zero, List.set_cons_succ]
              refine wpAnyH_take (i := 2) (oi := { dst := some 129, op := Go.Op.move (Go.Operand.tmp 13), type := 3, pos := "law.go:90", after := #[], guard := none }) (v := ?_) rfl (by kernel_rfl) (by kernel_rfl) (by kernel_rfl) (fun _ _ _ h => h) (Or.inl ⟨by rfl, ?_⟩) (by assumption) ?_
              rotate_left
              · (intro w hSw; (try dsimp only at hSw); go_simp; (try (with_reducible rfl)))
              try simp only [Act.put, List.setIfInBounds_toArray, List.set_cons_zero, List.set_cons_succ]
              refine wpAnyH_take (i := 3) (oi := { dst := some 130, op := Go.Op.indexAddr 26 (Go.Operand.tmp 128) (Go.Operand.tmp 129), type := 0, pos := "law.go:90", after := #[{ on := 1, ground := Go.Ground.data }, { on := 2, ground := Go.Ground.data }], guard := none }) (v := ?_) rfl (by kernel_rfl) (by kernel_rfl) (by kernel_rfl) (fun _ _ _ h => h) (Or.inl ⟨by rfl, ?_⟩) (by assumption) ?_
              rotate_left
              · (intro w hSw; (try dsimp only at hSw); go_simp; (try (with_reducible rfl)))
              try simp only [Act.put, List.setIfInBounds_toArray, List.set_cons_zero, List.set_cons_succ]
              refine wpAnyH_take (i := 4) (oi := { dst := some 131, op := Go.Op.load 3 (Go.Operand.tmp 130), type := 3, pos := "law.go:90", after := #[{ on := 3, ground := Go.Ground.data }], guard := none }) (v := ?_) rfl (by kernel_rfl) (by kernel_rfl) (by kernel_rfl) (fun _ _ _ h => h) (Or.inl ⟨by rfl, ?_⟩) (by assumption) ?_
              rotate_left
              · (intro w hSw; (try dsimp only at hSw); go_simp; (try (with_reducible rfl)))
              try simp only [Act.put, List.setIfInBounds_toArray, List.set_cons_zero, List.set_cons_succ]
              refine wpAnyH_take (i := 5) (oi := { dst := some 132, op := Go.Op.binOp Go.BinOp.eql 3 (Go.Operand.tmp 127) (Go.Operand.tmp 131) 3, type := 4, pos := "law.go:90", after := #[{ on := 0, ground := Go.Ground.data }, { on := 4, ground := Go.Ground.data }], guard := none }) (v := ?_) rfl (by kernel_rfl) (by kernel_rfl) (by kernel_rfl) (fun _ _ _ h => h) (Or.inl ⟨by rfl, ?_⟩) (by assumption) ?_
              rotate_left
              · (intro w hSw; (try dsimp only at hSw); go_simp; (try (with_reducible rfl)))
              try simp only [Act.put, List.setIfInBounds_toArray, List.set_cons_zero, List.set_cons_succ]
              refine wpAnyH_take (i := 6) (oi := { dst := some 133, op := Go.Op.move (Go.Operand.tmp 132), type := 4, pos := "law.go:90", after := #[{ on := 5, ground := Go.Ground.data }], guard := none }) (v := ?_) rfl (by kernel_rfl) (by kernel_rfl) (by kernel_rfl) (fun _ _ _ h => h) (Or.inl ⟨by rfl, ?_⟩) (by assumption) ?_
              rotate_left
              · (intro w hSw; (try dsimp only at hSw); go_simp; (try (with_reducible rfl)))
              try simp only [Act.put, List.setIfInBounds_toArray, List.set_cons_zero, List.set_cons_succ]
              refine wpAnyH_take (i := 7) (oi := { dst := some 134, op := Go.Op.move (Go.Operand.tmp 16), type := 54, pos := "law.go:90", after := #[{ on := 6, ground := Go.Ground.guard }], guard := some (6, true) }) (v := ?_) rfl (by kernel_rfl) (by kernel_rfl) (by kernel_rfl) (fun _ _ _ h => h) (Or.inl ⟨by rfl, ?_⟩) (by assumption) ?_
              rotate_left
              · (intro w hSw; (try dsimp only at hSw); go_simp; (try (with_reducible rfl)))
              try simp only [Act.put, List.setIfInBounds_toArray, List.set_cons_zero, List.set_cons_succ]
              refine wpAnyH_take (i := 8) (oi := { dst := some 135, op := Go.Op.move (Go.Operand.tmp 17), type := 54, pos := "law.go:90", after := #[{ on := 6, ground := Go.Ground.guard }], guard := some (6, true) }) (v := ?_) rfl (by kernel_rfl) (by kernel_rfl) (by kernel_rfl) (fun _ _ _ h => h) (Or.inl ⟨by rfl, ?_⟩) (by assumption) ?_
              rotate_left
              · (intro w hSw; (try dsimp only at hSw); go_simp; (try (with_reducible rfl)))
              try simp only [Act.put, List.setIfInBounds_toArray, List.set_cons_zero, List.set_cons_succ]
              refine wpAnyH_take (i := 9) (oi := { dst := some 136, op := Go.Op.binOp Go.BinOp.eql 54 (Go.Operand.tmp 134) (Go.Operand.tmp 135) 54, type := 4, pos := "law.go:90", after := #[{ on := 7, ground := Go.Ground.data }, { on := 8, ground := Go.Ground.data }, { on := 6, ground := Go.Ground.guard }], guard := some (6, true) }) (v := ?_) rfl (by kernel_rfl) (by kernel_rfl) (by kernel_rfl) (fun _ _ _ h => h) (Or.inl ⟨by rfl, ?_⟩) (by assumption) ?_
              rotate_left
              · (intro w hSw; (try dsimp only at hSw); go_simp; (try (with_reducible rfl)))
              try simp only [Act.put, List.setIfInBounds_toArray, List.set_cons_zero, List.set_cons_succ]
              refine wpAnyH_take (i := 10) (oi := { dst := some 137, op := Go.Op.pick (Go.Operand.tmp 133) (Go.Operand.tmp 136) (Go.Operand.const (Go.Value.bool false)), type := 4, pos := "law.go:90", after := #[{ on := 6, ground := Go.Ground.data }, { on := 9, ground := Go.Ground.data }], guard := none }) (v := ?_) rfl (by kernel_rfl) (by kernel_rfl) (by kernel_rfl) (fun _ _ _ h => h) (Or.inl ⟨by rfl, ?_⟩) (by assumption) ?_
              rotate_left
              · (intro w hSw; (try dsimp only at hSw); go_simp; (try (with_reducible rfl)))
              try simp only [Act.put, List.setIfInBounds_toArray, List.set_cons_zero, List.set_cons_succ]
              refine wpAnyH_take (i := 11) (oi := { dst := some 138, op := Go.Op.move (Go.Operand.tmp 137), type := 4, pos := "law.go:90", after := #[{ on := 10, ground := Go.Ground.data }, { on := 6, ground := Go.Ground.chain }], guard := none }) (v := ?_) rfl (by kernel_rfl) (by kernel_rfl) (by kernel_rfl) (fun _ _ _ h => h) (Or.inl ⟨by rfl, ?_⟩) (by assumption) ?_
              rotate_left
              · (intro w hSw; (try dsimp only at hSw); go_simp; (try (with_reducible rfl)))
              try simp only [Act.put, List.setIfInBounds_toArray, List.set_cons_zero, List.set_cons_succ]
              refine wpAnyH_take (i := 12) (oi := { dst := some 139, op := Go.Op.move (Go.Operand.tmp 14), type := 76, pos := "law.go:90", after := #[{ on := 11, ground := Go.Ground.guard }], guard := some (11, true) }) (v := ?_) rfl (by kernel_rfl) (by kernel_rfl) (by kernel_rfl) (fun _ _ _ h => h) (Or.inl ⟨by rfl, ?_⟩) (by assumption) ?_
              rotate_left
              · (intro w hSw; (try dsimp only at hSw); go_simp; (try (with_reducible rfl)))
              try simp only [Act.put, List.setIfInBounds_toArray, List.set_cons_zero, List.set_cons_succ]
              refine wpAnyH_take (i := 14) (oi := { dst := some 141, op := Go.Op.move (Go.Operand.tmp 13), type := 3, pos := "law.go:90", after := #[{ on := 11, ground := Go.Ground.guard }], guard := some (11, true) }) (v := ?_) rfl (by kernel_rfl) (by kernel_rfl) (by kernel_rfl) (fun _ _ _ h => h) (Or.inl ⟨by rfl, ?_⟩) (by assumption) ?_
              rotate_left
              · (intro w hSw; (try dsimp only at hSw); go_simp; (try (with_reducible rfl)))
              try simp only [Act.put, List.setIfInBounds_toArray, List.set_cons_zero, List.set_cons_succ]
              refine wpAnyH_ready (rs := [13]) (by kernel_rfl) (by simp) ?_
              refine AllReadyH.cons (o := { dst := some 140, op := Go.Op.call { callee := Go.Callee.value (Go.Operand.func 41), args := #[Go.Operand.tmp 139], argTypes := #[76] }, type := 3, pos := "law.go:90", after := #[{ on := 12, ground := Go.Ground.data }, { on := 11, ground := Go.Ground.chain }, { on := 11, ground := Go.Ground.guard }], guard := some (11, true) }) rfl (fun K hK => ?_) AllReadyH.nil
              go_simp
              refine hJL.mono ?_
              rintro e w9 ⟨rfl, rfl⟩
              refine hK.out _ _ ⟨qk, hc0⟩ (fun hHeld2 => ?_)
              clear hK K hHeld2
              try simp only [Act.put, List.setIfInBounds_toArray, List.set_cons_zero, List.set_cons_succ]
              refine wpAnyH_take (i := 15) (oi := { dst := some 142, op := Go.Op.binOp Go.BinOp.eql 3 (Go.Operand.tmp 140) (Go.Operand.tmp 141) 3, type := 4, pos := "law.go:90", after := #[{ on := 13, ground := Go.Ground.data }, { on := 14, ground := Go.Ground.data }, { on := 11, ground := Go.Ground.guard }], guard := some (11, true) }) (v := ?_) rfl (by kernel_rfl) (by kernel_rfl) (by kernel_rfl) (fun _ _ _ h => h) (Or.inl ⟨by rfl, ?_⟩) (by assumption) ?_
              rotate_left
              · (intro w hSw; (try dsimp only at hSw); go_simp; (try (with_reducible rfl)))
              try simp only [Act.put, List.setIfInBounds_toArray, List.set_cons_zero, List.set_cons_succ]
              refine wpAnyH_take (i := 16) (oi := { dst := some 143, op := Go.Op.pick (Go.Operand.tmp 138) (Go.Operand.tmp 142) (Go.Operand.const (Go.Value.bool false)), type := 4, pos := "law.go:90", after := #[{ on := 11, ground := Go.Ground.data }, { on := 15, ground := Go.Ground.data }], guard := none }) (v := ?_) rfl (by kernel_rfl) (by kernel_rfl) (by kernel_rfl) (fun _ _ _ h => h) (Or.inl ⟨by rfl, ?_⟩) (by assumption) ?_
              rotate_left
              · (intro w hSw; (try dsimp only at hSw); go_simp; (try (with_reducible rfl)))
              try simp only [Act.put, List.setIfInBounds_toArray, List.set_cons_zero, List.set_cons_succ]
              refine wpAnyH_take (i := 17) (oi := { dst := some 144, op := Go.Op.move (Go.Operand.tmp 143), type := 4, pos := "law.go:90", after := #[{ on := 16, ground := Go.Ground.data }, { on := 13, ground := Go.Ground.chain }], guard := none }) (v := ?_) rfl (by kernel_rfl) (by kernel_rfl) (by kernel_rfl) (fun _ _ _ h => h) (Or.inl ⟨by rfl, ?_⟩) (by assumption) ?_
              rotate_left
              · (intro w hSw; (try dsimp only at hSw); go_simp; (try (with_reducible rfl)))
              try simp only [Act.put, List.setIfInBounds_toArray, List.set_cons_zero, List.set_cons_succ]
              refine wpAnyH_take (i := 18) (oi := { dst := some 145, op := Go.Op.move (Go.Operand.tmp 14), type := 76, pos := "law.go:90", after := #[{ on := 17, ground := Go.Ground.guard }], guard := some (17, true) }) (v := ?_) rfl (by kernel_rfl) (by kernel_rfl) (by kernel_rfl) (fun _ _ _ h => h) (Or.inl ⟨by rfl, ?_⟩) (by assumption) ?_
              rotate_left
              · (intro w hSw; (try dsimp only at hSw); go_simp; (try (with_reducible rfl)))
              try simp only [Act.put, List.setIfInBounds_toArray, List.set_cons_zero, List.set_cons_succ]
              refine wpAnyH_take (i := 21) (oi := { dst := some 148, op := Go.Op.move (Go.Operand.tmp 6), type := 57, pos := "law.go:90", after := #[{ on := 17, ground := Go.Ground.guard }], guard := some (17, true) }) (v := ?_) rfl (by kernel_rfl) (by kernel_rfl) (by kernel_rfl) (fun _ _ _ h => h) (Or.inl ⟨by rfl, ?_⟩) (by assumption) ?_
              rotate_left
              · (intro w hSw; (try dsimp only at hSw); go_simp; (try (with_reducible rfl)))
              try simp only [Act.put, List.setIfInBounds_toArray, List.set_cons_zero, List.set_cons_succ]
              refine wpAnyH_take (i := 22) (oi := { dst := some 149, op := Go.Op.move (Go.Operand.tmp 15), type := 3, pos := "law.go:90", after := #[{ on := 17, ground := Go.Ground.guard }], guard := some (17, true) }) (v := ?_) rfl (by kernel_rfl) (by kernel_rfl) (by kernel_rfl) (fun _ _ _ h => h) (Or.inl ⟨by rfl, ?_⟩) (by assumption) ?_
              rotate_left
              · (intro w hSw; (try dsimp only at hSw); go_simp; (try (with_reducible rfl)))
              try simp only [Act.put, List.setIfInBounds_toArray, List.set_cons_zero, List.set_cons_succ]
              refine wpAnyH_take (i := 23) (oi := { dst := some 150, op := Go.Op.slice 57 (Go.Operand.tmp 148) none (some (Go.Operand.tmp 149)) none, type := 57, pos := "law.go:90", after := #[{ on := 21, ground := Go.Ground.data }, { on := 22, ground := Go.Ground.data }, { on := 17, ground := Go.Ground.guard }], guard := some (17, true) }) (v := ?_) rfl (by kernel_rfl) (by kernel_rfl) (by kernel_rfl) (fun _ _ _ h => h) (Or.inl ⟨by rfl, ?_⟩) (by assumption) ?_
              rotate_left
              · (intro w hSw; (try dsimp only at hSw); go_simp; (try (with_reducible rfl)))
              try simp only [Act.put, List.setIfInBounds_toArray, List.set_cons_zero, List.set_cons_succ]
              refine wpAnyH_take (i := 24) (oi := { dst := some 151, op := Go.Op.convert 57 9 (Go.Operand.tmp 150), type := 9, pos := "law.go:90", after := #[{ on := 23, ground := Go.Ground.data }, { on := 17, ground := Go.Ground.guard }], guard := some (17, true) }) (v := ?_) rfl (by kernel_rfl) (by kernel_rfl) (by kernel_rfl) (fun _ _ _ h => h) (Or.inl ⟨by rfl, ?_⟩) (by assumption) ?_
              rotate_left
              · (intro w hSw; (try dsimp only at hSw); go_simp; (try (with_reducible rfl)))
              try simp only [Act.put, List.setIfInBounds_toArray, List.set_cons_zero, List.set_cons_succ]
              refine wpAnyH_ready (rs := [19]) (by kernel_rfl) (by simp) ?_
              refine AllReadyH.cons (o := { dst := some 146, op := Go.Op.call { callee := Go.Callee.value (Go.Operand.func 42), args := #[Go.Operand.tmp 145], argTypes := #[76] }, type := 57, pos := "law.go:90", after := #[{ on := 18, ground := Go.Ground.data }, { on := 17, ground := Go.Ground.chain }, { on := 17, ground := Go.Ground.guard }], guard := some (17, true) }) rfl (fun K hK => ?_) AllReadyH.nil
              go_simp
              refine (hBy.out _ h7).mono ?_
              rintro e w9 hq
              obtain ⟨v9, rfl, h9, en9⟩ := ResE.lift h7 hq
              obtain ⟨A9, n9, c9, rfl, _⟩ := h9.row_form
              have hc1 := conv_rw (P := Try.prog) (h9.row_rw (by decide)) 57 9 Try.underlying57 Try.underlying5 Try.underlying9
              have hc2 := hAl.out _ _ h9
              have qk9 := hends.out k hks.out _ _ _ (h9.pick 2 (by simp))
              rw [hm.out] at qk9
              refine hK.out _ _ ⟨qk9, hc2⟩ (fun hHeld2 => ?_)
              clear hK K hHeld hHeld2 hq
              refine wpAnyH_mono (S := (fun w' : World => (convert 57 9 (.slice A9 n9 c9)).run Try.prog w' = .ok (.string (strOfNums T)) w' ∧ (w'.cell? ⟨eb, eo + k, none⟩ = some (.int .i64 (j : Int)) ∧ (convert 57 9 (.slice A7 j c7)).run Try.prog w' = .ok (.string (strOfNums T)) w'))) (fun _ h => h.2) _ _ _ _ ?_
              have hHeld : (fun w' : World => (convert 57 9 (.slice A9 n9 c9)).run Try.prog w' = .ok (.string (strOfNums T)) w' ∧ (w'.cell? ⟨eb, eo + k, none⟩ = some (.int .i64 (j : Int)) ∧ (convert 57 9 (.slice A7 j c7)).run Try.prog w' = .ok (.string (strOfNums T)) w')) w9 := ⟨hc1, qk9, hc2⟩
              try simp only [Act.put, List.setIfInBounds_toArray, List.set_cons_zero, List.set_cons_succ]
              refine wpAnyH_take (i := 20) (oi := { dst := some 147, op := Go.Op.convert 57 9 (Go.Operand.tmp 146), type := 9, pos := "law.go:90", after := #[{ on := 19, ground := Go.Ground.data }, { on := 17, ground := Go.Ground.guard }], guard := some (17, true) }) (v := ?_) rfl (by kernel_rfl) (by kernel_rfl) (by kernel_rfl) (fun _ _ _ h => h) (Or.inl ⟨by rfl, ?_⟩) (by assumption) ?_
              rotate_left
              · (intro w hSw; (try dsimp only at hSw); go_simp; (try (with_reducible rfl)))
              try simp only [Act.put, List.setIfInBounds_toArray, List.set_cons_zero, List.set_cons_succ]
              refine wpAnyH_take (i := 25) (oi := { dst := some 152, op := Go.Op.binOp Go.BinOp.eql 9 (Go.Operand.tmp 147) (Go.Operand.tmp 151) 9, type := 4, pos := "law.go:90", after := #[{ on := 20, ground := Go.Ground.data }, { on := 24, ground := Go.Ground.data }, { on := 17, ground := Go.Ground.guard }], guard := some (17, true) }) (v := ?_) rfl (by kernel_rfl) (by kernel_rfl) (by kernel_rfl) (fun _ _ _ h => h) (Or.inl ⟨by rfl, ?_⟩) (by assumption) ?_
              rotate_left
              · (intro w hSw; (try dsimp only at hSw); go_simp; (try (with_reducible rfl)))
              try simp only [Act.put, List.setIfInBounds_toArray, List.set_cons_zero, List.set_cons_succ]
              refine wpAnyH_take (i := 26) (oi := { dst := some 153, op := Go.Op.pick (Go.Operand.tmp 144) (Go.Operand.tmp 152) (Go.Operand.const (Go.Value.bool false)), type := 4, pos := "law.go:90", after := #[{ on := 17, ground := Go.Ground.data }, { on := 25, ground := Go.Ground.data }], guard := none }) (v := ?_) rfl (by kernel_rfl) (by kernel_rfl) (by kernel_rfl) (fun _ _ _ h => h) (Or.inl ⟨by rfl, ?_⟩) (by assumption) ?_
              rotate_left
              · (intro w hSw; (try dsimp only at hSw); go_simp; (try (with_reducible rfl)))
              try simp only [Act.put, List.setIfInBounds_toArray, List.set_cons_zero, List.set_cons_succ]
              refine wpAnyH_take (i := 27) (oi := { dst := some 154, op := Go.Op.move (Go.Operand.tmp 153), type := 4, pos := "law.go:90", after := #[{ on := 26, ground := Go.Ground.data }, { on := 19, ground := Go.Ground.chain }], guard := none }) (v := ?_) rfl (by kernel_rfl) (by kernel_rfl) (by kernel_rfl) (fun _ _ _ h => h) (Or.inl ⟨by rfl, ?_⟩) (by assumption) ?_
              rotate_left
              · (intro w hSw; (try dsimp only at hSw); go_simp; (try (with_reducible rfl)))
              try simp only [Act.put, List.setIfInBounds_toArray, List.set_cons_zero, List.set_cons_succ]
              refine wpAnyH_take (i := 28) (oi := { dst := some 155, op := Go.Op.move (Go.Operand.tmp 18), type := 76, pos := "law.go:90", after := #[{ on := 27, ground := Go.Ground.guard }], guard := some (27, true) }) (v := ?_) rfl (by kernel_rfl) (by kernel_rfl) (by kernel_rfl) (fun _ _ _ h => h) (Or.inl ⟨by rfl, ?_⟩) (by assumption) ?_
              rotate_left
              · (intro w hSw; (try dsimp only at hSw); go_simp; (try (with_reducible rfl)))
              try simp only [Act.put, List.setIfInBounds_toArray, List.set_cons_zero, List.set_cons_succ]
              refine wpAnyH_ready (rs := [29]) (by kernel_rfl) (by simp) ?_
              refine AllReadyH.cons (o := { dst := some 156, op := Go.Op.call { callee := Go.Callee.value (Go.Operand.func 45), args := #[Go.Operand.tmp 155], argTypes := #[76] }, type := 54, pos := "law.go:90", after := #[{ on := 28, ground := Go.Ground.data }, { on := 27, ground := Go.Ground.chain }, { on := 27, ground := Go.Ground.guard }], guard := some (27, true) }) rfl (fun K hK => ?_) AllReadyH.nil
              go_simp
              refine (jCompact_of (.pointer none) 2 _ _ (jPut_nil 3 0 (.slice none 0 0) w9)).mono ?_
              rintro e w10 ⟨rfl, bel10⟩
              have h10 := h9.below bel10
              have e1 := conv_rw (P := Try.prog) (h10.row_rw (by decide)) 57 9 Try.underlying57 Try.underlying5 Try.underlying9
              have e2 := hAl.out _ _ h10
              have e3 := hends.out k hks.out _ _ _ (h10.pick 2 (by simp))
              rw [hm.out] at e3
              refine hK.out _ _ ⟨e1, e3, e2⟩ (fun hHeld2 => ?_)
              clear hK K hHeld hHeld2
              have hHeld : (fun w' : World => (convert 57 9 (.slice A9 n9 c9)).run Try.prog w' = .ok (.string (strOfNums T)) w' ∧ (w'.cell? ⟨eb, eo + k, none⟩ = some (.int .i64 (j : Int)) ∧ (convert 57 9 (.slice A7 j c7)).run Try.prog w' = .ok (.string (strOfNums T)) w')) w10 := ⟨e1, e3, e2⟩
              clear e1 e2 e3
              try simp only [Act.put, List.setIfInBounds_toArray, List.set_cons_zero, List.set_cons_succ]
              refine wpAnyH_take (i := 30) (oi := { dst := some 157, op := Go.Op.binOp Go.BinOp.eql 54 (Go.Operand.tmp 156) (Go.Operand.const (Go.Value.int Go.IntKind.i64 2)) 54, type := 4, pos := "law.go:90", after := #[{ on := 29, ground := Go.Ground.data }, { on := 27, ground := Go.Ground.guard }], guard := some (27, true) }) (v := ?_) rfl (by kernel_rfl) (by kernel_rfl) (by kernel_rfl) (fun _ _ _ h => h) (Or.inl ⟨by rfl, ?_⟩) (by assumption) ?_
              rotate_left
              · (intro w hSw; (try dsimp only at hSw); go_simp; (try (with_reducible rfl)))
              try simp only [Act.put, List.setIfInBounds_toArray, List.set_cons_zero, List.set_cons_succ]
              refine wpAnyH_take (i := 31) (oi := { dst := some 158, op := Go.Op.pick (Go.Operand.tmp 154) (Go.Operand.tmp 157) (Go.Operand.const (Go.Value.bool false)), type := 4, pos := "law.go:90", after := #[{ on := 27, ground := Go.Ground.data }, { on := 30, ground := Go.Ground.data }], guard := none }) (v := ?_) rfl (by kernel_rfl) (by kernel_rfl) (by kernel_rfl) (fun _ _ _ h => h) (Or.inl ⟨by rfl, ?_⟩) (by assumption) ?_
              rotate_left
              · (intro w hSw; (try dsimp only at hSw); go_simp; (try (with_reducible rfl)))
              try simp only [Act.put, List.setIfInBounds_toArray, List.set_cons_zero, List.set_cons_succ]
              refine wpAnyH_take (i := 32) (oi := { dst := some 159, op := Go.Op.move (Go.Operand.tmp 158), type := 4, pos := "law.go:90", after := #[{ on := 31, ground := Go.Ground.data }, { on := 29, ground := Go.Ground.chain }], guard := none }) (v := ?_) rfl (by kernel_rfl) (by kernel_rfl) (by kernel_rfl) (fun _ _ _ h => h) (Or.inl ⟨by rfl, ?_⟩) (by assumption) ?_
              rotate_left
              · (intro w hSw; (try dsimp only at hSw); go_simp; (try (with_reducible rfl)))
              try simp only [Act.put, List.setIfInBounds_toArray, List.set_cons_zero, List.set_cons_succ]
              refine wpAnyH_take (i := 33) (oi := { dst := some 160, op := Go.Op.move (Go.Operand.tmp 18), type := 76, pos := "law.go:90", after := #[{ on := 32, ground := Go.Ground.guard }], guard := some (32, true) }) (v := ?_) rfl (by kernel_rfl) (by kernel_rfl) (by kernel_rfl) (fun _ _ _ h => h) (Or.inl ⟨by rfl, ?_⟩) (by assumption) ?_
              rotate_left
              · (intro w hSw; (try dsimp only at hSw); go_simp; (try (with_reducible rfl)))
              try simp only [Act.put, List.setIfInBounds_toArray, List.set_cons_zero, List.set_cons_succ]
              refine wpAnyH_ready (rs := [34]) (by kernel_rfl) (by simp) ?_
              refine AllReadyH.cons (o := { dst := some 161, op := Go.Op.call { callee := Go.Callee.value (Go.Operand.func 41), args := #[Go.Operand.tmp 160], argTypes := #[76] }, type := 3, pos := "law.go:90", after := #[{ on := 33, ground := Go.Ground.data }, { on := 32, ground := Go.Ground.chain }, { on := 32, ground := Go.Ground.guard }], guard := some (32, true) }) rfl (fun K hK => ?_) AllReadyH.nil
              go_simp
              refine (jLen_nil w10).mono ?_
              rintro e w11 ⟨rfl, rfl⟩
              refine hK.out _ _ hHeld (fun hHeld2 => ?_)
              clear hK K hHeld2
              try simp only [Act.put, List.setIfInBounds_toArray, List.set_cons_zero, List.set_cons_succ]
              refine wpAnyH_take (i := 35) (oi := { dst := some 162, op := Go.Op.binOp Go.BinOp.eql 3 (Go.Operand.tmp 161) (Go.Operand.const (Go.Value.int Go.IntKind.i64 0)) 3, type := 4, pos := "law.go:90", after := #[{ on := 34, ground := Go.Ground.data }, { on := 32, ground := Go.Ground.guard }], guard := some (32, true) }) (v := ?_) rfl (by kernel_rfl) (by kernel_rfl) (by kernel_rfl) (fun _ _ _ h => h) (Or.inl ⟨by rfl, ?_⟩) (by assumption) ?_
              rotate_left
              · (intro w hSw; (try dsimp only at hSw); go_simp; (try (with_reducible rfl)))
              try simp only [Act.put, List.setIfInBounds_toArray, List.set_cons_zero, List.set_cons_succ]
              refine wpAnyH_take (i := 36) (oi := { dst := some 163, op := Go.Op.pick (Go.Operand.tmp 159) (Go.Operand.tmp 162) (Go.Operand.const (Go.Value.bool false)), type := 4, pos := "law.go:90", after := #[{ on := 32, ground := Go.Ground.data }, { on := 35, ground := Go.Ground.data }], guard := none }) (v := ?_) rfl (by kernel_rfl) (by kernel_rfl) (by kernel_rfl) (fun _ _ _ h => h) (Or.inl ⟨by rfl, ?_⟩) (by assumption) ?_
              rotate_left
              · (intro w hSw; (try dsimp only at hSw); go_simp; (try (with_reducible rfl)))
              try simp only [Act.put, List.setIfInBounds_toArray, List.set_cons_zero, List.set_cons_succ]
              refine wpAnyH_take (i := 37) (oi := { dst := some 164, op := Go.Op.move (Go.Operand.tmp 163), type := 4, pos := "law.go:90", after := #[{ on := 36, ground := Go.Ground.data }, { on := 34, ground := Go.Ground.chain }], guard := none }) (v := ?_) rfl (by kernel_rfl) (by kernel_rfl) (by kernel_rfl) (fun _ _ _ h => h) (Or.inl ⟨by rfl, ?_⟩) (by assumption) ?_
              rotate_left
              · (intro w hSw; (try dsimp only at hSw); go_simp; (try (with_reducible rfl)))
              try simp only [Act.put, List.setIfInBounds_toArray, List.set_cons_zero, List.set_cons_succ]
              refine wpAnyH_ready (rs := [38]) (by kernel_rfl) (by simp) ?_
              refine AllReadyH.cons (o := { dst := some 165, op := Go.Op.call { callee := Go.Callee.value (Go.Operand.func 38), args := #[], argTypes := #[] }, type := 4, pos := "law.go:90", after := #[{ on := 37, ground := Go.Ground.chain }, { on := 37, ground := Go.Ground.guard }], guard := some (37, true) }) rfl (fun K hK => ?_) AllReadyH.nil
              go_simp
              refine (works42 w10).mono ?_
              rintro e w12 ⟨rfl, bel12⟩
              have h12 := h10.below bel12
              have e1 := conv_rw (P := Try.prog) (h12.row_rw (by decide)) 57 9 Try.underlying57 Try.underlying5 Try.underlying9
              have e2 := hAl.out _ _ h12
              have e3 := hends.out k hks.out _ _ _ (h12.pick 2 (by simp))
              rw [hm.out] at e3
              refine hK.out _ _ ⟨e1, e3, e2⟩ (fun hHeld2 => ?_)
              clear hK K hHeld hHeld2
              have hHeld : (fun w' : World => (convert 57 9 (.slice A9 n9 c9)).run Try.prog w' = .ok (.string (strOfNums T)) w' ∧ (w'.cell? ⟨eb, eo + k, none⟩ = some (.int .i64 (j : Int)) ∧ (convert 57 9 (.slice A7 j c7)).run Try.prog w' = .ok (.string (strOfNums T)) w')) w12 := ⟨e1, e3, e2⟩
              clear e1 e2 e3
              try simp only [Act.put, List.setIfInBounds_toArray, List.set_cons_zero, List.set_cons_succ]
              refine wpAnyH_take (i := 39) (oi := { dst := some 166, op := Go.Op.pick (Go.Operand.tmp 164) (Go.Operand.tmp 165) (Go.Operand.const (Go.Value.bool false)), type := 4, pos := "law.go:90", after := #[{ on := 37, ground := Go.Ground.data }, { on := 38, ground := Go.Ground.data }], guard := none }) (v := ?_) rfl (by kernel_rfl) (by kernel_rfl) (by kernel_rfl) (fun _ _ _ h => h) (Or.inl ⟨by rfl, ?_⟩) (by assumption) ?_
              rotate_left
              · (intro w hSw; (try dsimp only at hSw); go_simp; (try (with_reducible rfl)))
              try simp only [Act.put, List.setIfInBounds_toArray, List.set_cons_zero, List.set_cons_succ]
              refine wpAnyH_take (i := 40) (oi := { dst := some 4, op := Go.Op.assign (Go.Operand.tmp 166), type := 4, pos := "law.go:90", after := #[{ on := 39, ground := Go.Ground.data }, { on := 38, ground := Go.Ground.chain }, { on := 0, ground := Go.Ground.phase }, { on := 1, ground := Go.Ground.phase }, { on := 2, ground := Go.Ground.phase }, { on := 3, ground := Go.Ground.phase }, { on := 4, ground := Go.Ground.phase }, { on := 5, ground := Go.Ground.phase }, { on := 6, ground := Go.Ground.phase }, { on := 7, ground := Go.Ground.phase }, { on := 8, ground := Go.Ground.phase }, { on := 9, ground := Go.Ground.phase }, { on := 10, ground := Go.Ground.phase }, { on := 11, ground := Go.Ground.phase }, { on := 12, ground := Go.Ground.phase }, { on := 13, ground := Go.Ground.phase }, { on := 14, ground := Go.Ground.phase }, { on := 15, ground := Go.Ground.phase }, { on := 16, ground := Go.Ground.phase }, { on := 17, ground := Go.Ground.phase }, { on := 18, ground := Go.Ground.phase }, { on := 19, ground := Go.Ground.phase }, { on := 20, ground := Go.Ground.phase }, { on := 21, ground := Go.Ground.phase }, { on := 22, ground := Go.Ground.phase }, { on := 23, ground := Go.Ground.phase }, { on := 24, ground := Go.Ground.phase }, { on := 25, ground := Go.Ground.phase }, { on := 26, ground := Go.Ground.phase }, { on := 27, ground := Go.Ground.phase }, { on := 28, ground := Go.Ground.phase }, { on := 29, ground := Go.Ground.phase }, { on := 30, ground := Go.Ground.phase }, { on := 31, ground := Go.Ground.phase }, { on := 32, ground := Go.Ground.phase }, { on := 33, ground := Go.Ground.phase }, { on := 34, ground := Go.Ground.phase }, { on := 35, ground := Go.Ground.phase }, { on := 36, ground := Go.Ground.phase }, { on := 37, ground := Go.Ground.phase }, { on := 38, ground := Go.Ground.phase }, { on := 39, ground := Go.Ground.phase }], guard := none }) (v := ?_) rfl (by kernel_rfl) (by kernel_rfl) (by kernel_rfl) (fun _ _ _ h => h) (Or.inl ⟨by rfl, ?_⟩) (by assumption) ?_
              rotate_left
              · (intro w hSw; (try dsimp only at hSw); go_simp; (try (with_reducible rfl)))
              try simp only [Act.put, List.setIfInBounds_toArray, List.set_cons_zero, List.set_cons_succ]
              refine wpAnyH_done (by kernel_rfl) ?_ _
              go_wp2_with fail
              go_ret
              exact ⟨rfl, (h12.weaken hleA).toBelow ((((en7.drew.trans en9).trans (bel_env bel10))).trans (bel_env bel12))⟩
end Go.Proofs.Ytmdmekdmlkhchaa
