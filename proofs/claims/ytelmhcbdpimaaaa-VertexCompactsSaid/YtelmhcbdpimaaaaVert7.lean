/- Records that are kept: Compact. -/
import Derived.Test.YtelmhcbdpimaaaaVert6
set_option linter.unusedVariables false
set_option linter.unusedSimpArgs false
namespace Go.Proofs.Ytelmhcbdpimaaaa
open Go.RowKit Go.Cw Go.Fl
attribute [local go_sem ↓] eql_id neq_id
/-- A record is above its replica's floor. -/
def aboveL (low : List Nat) (a : Id) : Bool := !decide (a.2 ≤ ((low.getD a.1.toNat 0 : Nat) : Int))
def keepK (low : List Nat) (K : List Kp) : List Kp := K.filter (fun x => aboveL low x.1.1)
/-- What is there under way. -/
def midK (low : List Nat) (left K : List Kp) : List Kp := K.filter (fun x => decide (x.1.1 ∈ kids left) || aboveL low x.1.1)
theorem midK_all (low : List Nat) (K : List Kp) : midK low K K = K := by
  unfold midK
  refine List.filter_eq_self.2 (fun x hx => ?_)
  have hm : x.1.1 ∈ kids K := List.mem_map.2 ⟨x, hx, rfl⟩
  rw [decide_eq_true hm, Bool.true_or]
theorem midK_nil (low : List Nat) (K : List Kp) : midK low [] K = keepK low K := by
  unfold midK keepK
  congr 1
theorem kids_mid {pre post : List Kp} {y : Kp} (b : Id) : b ∈ kids (pre ++ y :: post) ↔ b = y.1.1 ∨ b ∈ kids (pre ++ post) := by
  simp only [kids, List.map_append, List.map_cons, List.mem_append, List.mem_cons]
  constructor
  · rintro (h | h | h)
    · exact .inr (.inl h)
    · exact .inl h
    · exact .inr (.inr h)
  · rintro (h | h | h)
    · exact .inr (.inl h)
    · exact .inl h
    · exact .inr (.inr h)
theorem midK_keep {low : List Nat} {pre post K : List Kp} {y : Kp} (h : aboveL low y.1.1 = true) : midK low (pre ++ y :: post) K = midK low (pre ++ post) K := by
  unfold midK
  refine List.filter_congr (fun x hx => ?_)
  cases ha : aboveL low x.1.1 with
  | true => simp
  | false =>
    have hne : x.1.1 ≠ y.1.1 := fun e => by rw [e, h] at ha; cases ha
    simp only [Bool.or_false]
    rw [decide_eq_decide, kids_mid]
    simp [hne]
theorem midK_del {low : List Nat} {pre post K : List Kp} {y : Kp} (h : aboveL low y.1.1 = false) (hn : y.1.1 ∉ kids (pre ++ post)) : mdel y.1.1 (entsK (midK low (pre ++ y :: post) K)) = entsK (midK low (pre ++ post) K) := by
  unfold mdel entsK midK
  rw [List.filter_map, List.filter_filter]
  congr 1
  refine List.filter_congr (fun x hx => ?_)
  simp only [Function.comp]
  by_cases hx : x.1.1 = y.1.1
  · rw [hx, h, decide_eq_false hn]
    simp
  · have : decide (x.1.1 ∈ kids (pre ++ y :: post)) = decide (x.1.1 ∈ kids (pre ++ post)) := by rw [decide_eq_decide, kids_mid]; simp [hx]
    rw [this]
    simp [hx]
theorem mdel_rg {pre post : List Kp} {y : Kp} (hn : y.1.1 ∉ kids (pre ++ post)) : y.1.1 ∉ (entsK (pre ++ post)).map (·.1) := by rw [entsK_keys]; exact hn
theorem kids_mid_nodup {pre post : List Kp} {y : Kp} (h : (kids (pre ++ y :: post)).Nodup) : y.1.1 ∉ kids (pre ++ post) ∧ (kids (pre ++ post)).Nodup := by
  simp only [kids, List.map_append, List.map_cons] at h ⊢
  exact List.nodup_cons.1 (List.perm_middle.nodup_iff.1 h)
/-- What Compact does. -/
def VCom (H : Hp) (p : Nat) (room : Int) (K : List Kp) (M : List Id) (fr : List HA) (w : World) (e : Ending) (w' : World) : Prop :=
  ∃ low : List Nat, low.length = 8 ∧ (∀ r : Nat, r < 8 → FlP M (r : Int) (low.getD r 0)) ∧ e = .returned (.int .i64 ((K.length : Int) - ((keepK low K).length : Int))) ∧ St H (VsA p room (keepK low K) M low :: fr) w' ∧ Env w w'
set_option maxRecDepth 100000 in
set_option maxHeartbeats 6400000 in
theorem vsCompact_any (p : Nat) (room : Int) (K : List Kp) (M : List Id) (low : List Nat) (hlow : low.length = 8) (H : Hp) (fr : List HA) (w : World) (h : St H (VsA p room K M low :: fr) w) (hKl : K.length ≤ 1000000) (hid : ∀ x ∈ K, idOk x.1.1 = true) :
    Calls Try.prog 45 #[vsP p] w (VCom H p room K M fr w) := by
  have hnd := vs_nodup h
  go_enter Try.func45, Try.ntmps45
  obtain ⟨g, f, h1⟩ := vsOpen h
  have cl := h1.blk_lt
  go_wp2_with fail
  go_loopw [8] (fun iv wr => ∃ (i : Nat) (lw : List Nat), i ≤ 8 ∧ iv = .int .i64 (i : Int) ∧ lw.length = 8 ∧ St H (VsA p room K M lw :: fr) wr ∧ Env w wr ∧ Hid (∀ r : Nat, r < i → FlP M (r : Int) (lw.getD r 0))) (fun a _ => 8 - (intOf a).toNat)
  case atStart => exact ⟨0, low, by omega, rfl, hlow, h, Env.refl w, Lib.hid (fun r hr => absurd hr (Nat.not_lt_zero r))⟩
  case round =>
    clear h h1 cl hlow low
    obtain ⟨i, lw, hi, rfl, hlw, hst, hen, HF⟩ := hrel
    rcases Nat.lt_or_ge i 8 with hlt | hge
    · obtain ⟨g, f, h1⟩ := vsOpen hst
      have hD := h1.drew
      have hF := Lib.hid (frFloor_in f i hlt M H _ _ (hD.pick 2 (by simp)))
      have hlt' : (i : Int) < 8 := by omega
      have cl := h1.blk_lt
      have sc := h1.blk_cell (3 + i)
      rw [vsC_low _ _ _ _ _ (by omega)] at sc
      have sf := h1.blk_free (3 + i)
      have kk : ∀ (C : Array Value) (l' : List HA) (w' : World), C[2]? = some (frP f) → St H (Blk p C 120 :: l') w' → w'.cell? ⟨p, 2, none⟩ = some (frP f) := fun C l' w' hC h => by rw [← hC]; exact h.blk_cell 2
      go_wp2_with fail
      refine wp_region_held_drew (S := fun w' : World => w'.cell? ⟨p, 2, none⟩ = some (frP f)) (by kernel_rfl) (kk _ _ _ rfl hD) (fun hHeld => ?_)
      refine wpAnyH_take (i := 0) (oi := { dst := some 11, op := Go.Op.move (Go.Operand.tmp 0), type := 67, pos := "vertex.go:111", after := #[], guard := none }) (v := ?_) rfl (by kernel_rfl) (by kernel_rfl) (by kernel_rfl) (fun _ _ _ h => h) (Or.inl ⟨by rfl, ?_⟩) (by assumption) ?_
      rotate_left
      · (intro w hSw; (try dsimp only at hSw); go_simp; (try (with_reducible rfl)))
      try simp only [Act.put, List.setIfInBounds_toArray, List.set_cons_zero, List.set_cons_succ]
      refine wpAnyH_take (i := 1) (oi := { dst := some 12, op := Go.Op.move (Go.Operand.tmp 3), type := 3, pos := "vertex.go:111", after := #[], guard := none }) (v := ?_) rfl (by kernel_rfl) (by kernel_rfl) (by kernel_rfl) (fun _ _ _ h => h) (Or.inl ⟨by rfl, ?_⟩) (by assumption) ?_
      rotate_left
      · (intro w hSw; (try dsimp only at hSw); go_simp; (try (with_reducible rfl)))
      try simp only [Act.put, List.setIfInBounds_toArray, List.set_cons_zero, List.set_cons_succ]
      refine wpAnyH_take (i := 2) (oi := { dst := some 13, op := Go.Op.move (Go.Operand.tmp 0), type := 67, pos := "vertex.go:111", after := #[], guard := none }) (v := ?_) rfl (by kernel_rfl) (by kernel_rfl) (by kernel_rfl) (fun _ _ _ h => h) (Or.inl ⟨by rfl, ?_⟩) (by assumption) ?_
      rotate_left
      · (intro w hSw; (try dsimp only at hSw); go_simp; (try (with_reducible rfl)))
      try simp only [Act.put, List.setIfInBounds_toArray, List.set_cons_zero, List.set_cons_succ]
      refine wpAnyH_take (i := 3) (oi := { dst := some 14, op := Go.Op.nilCheck (Go.Operand.tmp 13), type := 0, pos := "vertex.go:111", after := #[{ on := 2, ground := Go.Ground.data }], guard := none }) (v := ?_) rfl (by kernel_rfl) (by kernel_rfl) (by kernel_rfl) (fun _ _ _ h => h) (Or.inl ⟨by rfl, ?_⟩) (by assumption) ?_
      rotate_left
      · (intro w hSw; (try dsimp only at hSw); go_simp; (try (with_reducible rfl)))
      try simp only [Act.put, List.setIfInBounds_toArray, List.set_cons_zero, List.set_cons_succ]
      refine wpAnyH_take (i := 4) (oi := { dst := some 15, op := Go.Op.fieldAddr 120 (Go.Operand.tmp 14) 2, type := 0, pos := "vertex.go:111", after := #[{ on := 3, ground := Go.Ground.data }], guard := none }) (v := ?_) rfl (by kernel_rfl) (by kernel_rfl) (by kernel_rfl) (fun _ _ _ h => h) (Or.inl ⟨by rfl, ?_⟩) (by assumption) ?_
      rotate_left
      · (intro w hSw; (try dsimp only at hSw); go_simp; (try (with_reducible rfl)))
      try simp only [Act.put, List.setIfInBounds_toArray, List.set_cons_zero, List.set_cons_succ]
      refine wpAnyH_take (i := 5) (oi := { dst := some 16, op := Go.Op.load 117 (Go.Operand.tmp 15), type := 117, pos := "vertex.go:111", after := #[{ on := 4, ground := Go.Ground.data }], guard := none }) (v := ?_) rfl (by kernel_rfl) (by kernel_rfl) (by kernel_rfl) (fun _ _ _ h => h) (Or.inl ⟨by rfl, ?_⟩) (by assumption) ?_
      rotate_left
      · (intro w hSw; (try dsimp only at hSw); go_simp; (try (with_reducible rfl)))
      try simp only [Act.put, List.setIfInBounds_toArray, List.set_cons_zero, List.set_cons_succ]
      refine wpAnyH_take (i := 6) (oi := { dst := some 17, op := Go.Op.move (Go.Operand.tmp 3), type := 3, pos := "vertex.go:111", after := #[], guard := none }) (v := ?_) rfl (by kernel_rfl) (by kernel_rfl) (by kernel_rfl) (fun _ _ _ h => h) (Or.inl ⟨by rfl, ?_⟩) (by assumption) ?_
      rotate_left
      · (intro w hSw; (try dsimp only at hSw); go_simp; (try (with_reducible rfl)))
      try simp only [Act.put, List.setIfInBounds_toArray, List.set_cons_zero, List.set_cons_succ]
      refine wpAnyH_take (i := 8) (oi := { dst := some 19, op := Go.Op.nilCheck (Go.Operand.tmp 11), type := 0, pos := "vertex.go:111", after := #[{ on := 0, ground := Go.Ground.data }], guard := none }) (v := ?_) rfl (by kernel_rfl) (by kernel_rfl) (by kernel_rfl) (fun _ _ _ h => h) (Or.inl ⟨by rfl, ?_⟩) (by assumption) ?_
      rotate_left
      · (intro w hSw; (try dsimp only at hSw); go_simp; (try (with_reducible rfl)))
      try simp only [Act.put, List.setIfInBounds_toArray, List.set_cons_zero, List.set_cons_succ]
      refine wpAnyH_take (i := 9) (oi := { dst := some 20, op := Go.Op.fieldAddr 120 (Go.Operand.tmp 19) 3, type := 0, pos := "vertex.go:111", after := #[{ on := 8, ground := Go.Ground.data }], guard := none }) (v := ?_) rfl (by kernel_rfl) (by kernel_rfl) (by kernel_rfl) (fun _ _ _ h => h) (Or.inl ⟨by rfl, ?_⟩) (by assumption) ?_
      rotate_left
      · (intro w hSw; (try dsimp only at hSw); go_simp; (try (with_reducible rfl)))
      try simp only [Act.put, List.setIfInBounds_toArray, List.set_cons_zero, List.set_cons_succ]
      refine wpAnyH_ready (rs := [7]) (by kernel_rfl) (by simp) ?_
      refine AllReadyH.cons (o := { dst := some 18, op := Go.Op.call { callee := Go.Callee.value (Go.Operand.func 84), args := #[Go.Operand.tmp 16, Go.Operand.tmp 17], argTypes := #[117, 3] }, type := 3, pos := "vertex.go:111", after := #[{ on := 5, ground := Go.Ground.data }, { on := 6, ground := Go.Ground.data }], guard := none }) rfl (fun K hK => ?_) AllReadyH.nil
      go_simp
      refine hF.out.mono ?_
      rintro e w2 ⟨n, rfl, rfl, hn⟩
      refine hK.out _ _ (kk _ _ _ rfl hD) (fun hHeld2 => ?_)
      clear hK K hHeld
      have h2 := h1.blk_set (3 + i) (.int .i64 (n : Int))
      rw [vsC_set _ _ _ _ _ _ (by omega)] at h2
      try simp only [Act.put, List.setIfInBounds_toArray, List.set_cons_zero, List.set_cons_succ]
      refine wpAnyH_take (i := 10) (oi := { dst := some 21, op := Go.Op.indexAddr 79 (Go.Operand.tmp 20) (Go.Operand.tmp 12), type := 0, pos := "vertex.go:111", after := #[{ on := 9, ground := Go.Ground.data }, { on := 1, ground := Go.Ground.data }, { on := 0, ground := Go.Ground.phase }, { on := 1, ground := Go.Ground.phase }, { on := 2, ground := Go.Ground.phase }, { on := 3, ground := Go.Ground.phase }, { on := 4, ground := Go.Ground.phase }, { on := 5, ground := Go.Ground.phase }, { on := 6, ground := Go.Ground.phase }, { on := 7, ground := Go.Ground.phase }], guard := none }) (v := ?_) rfl (by kernel_rfl) (by kernel_rfl) (by kernel_rfl) (fun _ _ _ h => h) (Or.inl ⟨by rfl, ?_⟩) (by assumption) ?_
      rotate_left
      · (intro w hSw; (try dsimp only at hSw); go_simp; (try (with_reducible rfl)))
      try simp only [Act.put, List.setIfInBounds_toArray, List.set_cons_zero, List.set_cons_succ]
      refine wpAnyH_ready (rs := [11]) (by kernel_rfl) (by simp) ?_
      refine AllReadyH.cons (o := { dst := none, op := Go.Op.store 3 (Go.Operand.tmp 21) (Go.Operand.tmp 18), type := 0, pos := "vertex.go:111", after := #[{ on := 10, ground := Go.Ground.data }, { on := 7, ground := Go.Ground.data }, { on := 7, ground := Go.Ground.chain }, { on := 0, ground := Go.Ground.phase }, { on := 1, ground := Go.Ground.phase }, { on := 2, ground := Go.Ground.phase }, { on := 3, ground := Go.Ground.phase }, { on := 4, ground := Go.Ground.phase }, { on := 5, ground := Go.Ground.phase }, { on := 6, ground := Go.Ground.phase }, { on := 7, ground := Go.Ground.phase }], guard := none }) rfl (fun K hK => ?_) AllReadyH.nil
      go_simp
      refine hK.out _ _ (kk _ _ _ rfl h2.drew) (fun hHeld3 => ?_)
      clear hK K hHeld2
      try simp only [Act.put, List.setIfInBounds_toArray, List.set_cons_zero, List.set_cons_succ]
      refine wpAnyH_done (by kernel_rfl) ?_ _
      have hz : St H (VsA p room K M (lw.set i n) :: fr) ((wr.setCell ⟨p, 3 + i, none⟩ (.int .i64 (n : Int))).drew) := vsShut h2.drew
      have enz := ((hen.setCell ⟨p, 3 + i, none⟩ (.int .i64 (n : Int)))).drew
      have HF' : Hid (∀ r : Nat, r < i + 1 → FlP M (r : Int) ((lw.set i n).getD r 0)) := Lib.hid (fun r hr => by
        rw [getD_set _ _ _ _ (by omega)]
        by_cases hri : r = i
        · rw [if_pos hri, hri]; exact hn
        · rw [if_neg hri]; exact HF.out r (by omega))
      clear hHeld3 kk hn sc sf h2 h1 hD
      go_wp2_with fail
      go_roundw
      case rel => exact ⟨i + 1, lw.set i n, by omega, by go_num, by rw [List.length_set]; exact hlw, hz, enz, HF'⟩
      case measure => simp [intOf]; omega
    · obtain rfl : i = 8 := by omega
      obtain ⟨g, f, h1⟩ := vsOpen hst
      have cl := h1.blk_lt
      have c1 : wr.cell? ⟨p, 1, none⟩ = some (.map (some g)) := h1.blk_cell 1
      go_wp2_with first | (at_len; refine wpList_mlen h1.swap rfl (.tmp 26) rfl Try.underlying116 rfl ?_; rw [entsK_len]) | (at_range; refine wpList_mrange h1.swap rfl (.tmp 31) rfl Try.underlying116 rfl ?_; intro w2 h2 en2)
      go_frame
      have en3 := hen.trans en2
      generalize wr.heap.size = r at *
      go_loopw [5] (fun bv wq => ∃ (left : List Kp), St H (Rg kpC g r (entsK (midK lw left K)) (entsK left) :: Blk p (vsC room g f lw) 120 :: FrI f M :: fr) wq ∧ Env w wq ∧ Hid ((kids left).Nodup ∧ ∀ x ∈ left, x ∈ K)) (fun _ wq => wq.rangeLeft g r)
      case atStart => exact ⟨K, by rw [midK_all]; exact h2, en3, Lib.hid ⟨hnd, fun _ h => h⟩⟩
      case round =>
        clear h2 h1 hst hen en2 en3 cl c1
        obtain ⟨left, hst, hen, HS⟩ := hrel
        have c1 : wr.cell? ⟨p, 1, none⟩ = some (.map (some g)) := hst.swap.blk_cell 1
        have cl := hst.swap.blk_lt
        go_wp2_with (at_next; refine wpList_knext hst rfl (.tmp 32) rfl rfl ?_ ?_)
        · intro hl0
          subst hl0
          rw [midK_nil] at hst
          have h3 := hst.rg_end
          have hz : St H (VsA p room (keepK lw K) M lw :: fr) wr := vsShut h3.swap
          have hkl : (keepK lw K).length ≤ K.length := List.length_filter_le ..
          have hfin : VCom H p room K M fr w (.returned (.int .i64 ((K.length : Int) - ((keepK lw K).length : Int)))) wr := ⟨lw, hlw, fun r hr => HF.out r hr, rfl, hz, hen⟩
          have hw : IntKind.i64.wrap ((K.length : Int) - ((keepK lw K).length : Int)) = (K.length : Int) - ((keepK lw K).length : Int) := by rw [IntKind.wrap_i64]; omega
          generalize VCom H p room K M fr w = Q at *
          replace hfin := Lib.hid hfin
          clear hz hst
          go_wp2_with (at_len; refine wpList_mlen h3 rfl (.tmp 56) rfl Try.underlying116 rfl ?_; rw [entsK_len])
          exact hfin.out
        · intro pre post xa xb vv w5 hlf h5 en5 hent
          obtain ⟨y, hyx, hyv, hleft⟩ := hlf
          clear hyv
          have hent : (Instr.entry (.pointer (some ⟨r, 0, none⟩))).run Try.prog w5 = .ok (.tuple #[.agg #[.int .i64 xa, .int .i64 xb], vv]) w5 := hent
          have hyK : y ∈ K := HS.out.2 y (by rw [hleft]; simp)
          have hyi := hid y hyK
          rw [hyx] at hyi
          obtain ⟨hr0, hr8, hs1, hs2⟩ := (idOk_iff _).1 hyi
          simp only at hr0 hr8 hs1 hs2
          obtain ⟨n, rfl⟩ : ∃ n : Nat, xa = (n : Int) := ⟨xa.toNat, by omega⟩
          have hn8 : n < 8 := by omega
          have hnl := (kids_mid_nodup (by rw [← hleft]; exact HS.out.1)).1
          have HS' : Hid ((kids (pre ++ post)).Nodup ∧ ∀ x ∈ pre ++ post, x ∈ K) := Lib.hid ⟨(kids_mid_nodup (by rw [← hleft]; exact HS.out.1)).2, fun z hz => HS.out.2 z (by rw [hleft]; rcases List.mem_append.1 hz with h | h <;> simp [h])⟩
          have hms := Lib.hid (rgk_left hst)
          obtain ⟨lo, hlo⟩ : ∃ lo : Nat, lw.getD n 0 = lo := ⟨_, rfl⟩
          obtain ⟨H', hle, h6, hy⟩ := h5.box #[.int .i64 (n : Int), .int .i64 xb] 28
          have y0 := hy 0 _ rfl
          have y1 := hy 1 _ rfl
          have en6 := (hen.trans en5).alloc (.cells #[.int .i64 (n : Int), .int .i64 xb] 28)
          have hab : aboveL lw y.1.1 = !decide (xb ≤ (lo : Int)) := by rw [hyx]; unfold aboveL; simp only [Int.toNat_natCast, hlo]
          have hR := Lib.hid (fun h => midK_keep (low := lw) (pre := pre) (post := post) (K := K) (y := y) h)
          have hD := Lib.hid (fun h => midK_del (low := lw) (pre := pre) (post := post) (K := K) (y := y) h hnl)
          have hG := Lib.hid (mdel_rg hnl)
          rw [hyx] at hab hnl
          simp only [hyx, hab] at hR hD hG
          rw [← hleft] at hR hD
          replace hleft := Lib.hid hleft
          clear hy HS hyx hab hnl hyK hyi hr0 hst
          have kk : ∀ (A : HA) (l' : List HA) (w' : World), St H' (A :: Blk p (vsC room g f lw) 120 :: l') w' → (fun w' : World => w'.cell? ⟨w5.heap.size, 0, none⟩ = some (.int .i64 (n : Int)) ∧ w'.cell? ⟨w5.heap.size, 1, none⟩ = some (.int .i64 xb) ∧ w'.cell? ⟨p, 3 + n, none⟩ = some (.int .i64 (lo : Int)) ∧ w'.cell? ⟨p, 1, none⟩ = some (.map (some g))) w' := fun A l' w' h => ⟨h.cell y0, h.cell y1, by have := h.swap.blk_cell (3 + n); rw [vsC_low _ _ _ _ _ (by omega), hlo] at this; exact this, h.swap.blk_cell 1⟩
          have h7 := h6.drew
          have cl5 := h6.swap.blk_lt
          have cl6 := World.block_lt_of_cell? _ _ (h6.cell y0)
          go_wp2_with fail
          generalize w5.heap.size = gb at *
          generalize w5.alloc (.cells #[.int .i64 (n : Int), .int .i64 xb] 28) = W6 at *
          refine wp_region_held_drew (S := fun w' : World => w'.cell? ⟨gb, 0, none⟩ = some (.int .i64 (n : Int)) ∧ w'.cell? ⟨gb, 1, none⟩ = some (.int .i64 xb) ∧ w'.cell? ⟨p, 3 + n, none⟩ = some (.int .i64 (lo : Int)) ∧ w'.cell? ⟨p, 1, none⟩ = some (.map (some g))) (by kernel_rfl) (kk _ _ _ h7) (fun hHeld => ?_)
          refine wpAnyH_take (i := 0) (oi := { dst := some 37, op := Go.Op.fieldAddr 28 (Go.Operand.tmp 5) 1, type := 0, pos := "vertex.go:115", after := #[], guard := none }) (v := ?_) rfl (by kernel_rfl) (by kernel_rfl) (by kernel_rfl) (fun _ _ _ h => h) (Or.inl ⟨by rfl, ?_⟩) (by assumption) ?_
          rotate_left
          · (intro w hSw; (try dsimp only at hSw); go_simp; (try (with_reducible rfl)))
          try simp only [Act.put, List.setIfInBounds_toArray, List.set_cons_zero, List.set_cons_succ]
          refine wpAnyH_take (i := 1) (oi := { dst := some 38, op := Go.Op.load 3 (Go.Operand.tmp 37), type := 3, pos := "vertex.go:115", after := #[{ on := 0, ground := Go.Ground.data }], guard := none }) (v := ?_) rfl (by kernel_rfl) (by kernel_rfl) (by kernel_rfl) (fun _ _ _ h => h) (Or.inl ⟨by rfl, ?_⟩) (by assumption) ?_
          rotate_left
          · (intro w hSw; (try dsimp only at hSw); go_simp; (try (with_reducible rfl)))
          try simp only [Act.put, List.setIfInBounds_toArray, List.set_cons_zero, List.set_cons_succ]
          refine wpAnyH_take (i := 2) (oi := { dst := some 39, op := Go.Op.move (Go.Operand.tmp 0), type := 67, pos := "vertex.go:115", after := #[], guard := none }) (v := ?_) rfl (by kernel_rfl) (by kernel_rfl) (by kernel_rfl) (fun _ _ _ h => h) (Or.inl ⟨by rfl, ?_⟩) (by assumption) ?_
          rotate_left
          · (intro w hSw; (try dsimp only at hSw); go_simp; (try (with_reducible rfl)))
          try simp only [Act.put, List.setIfInBounds_toArray, List.set_cons_zero, List.set_cons_succ]
          refine wpAnyH_take (i := 3) (oi := { dst := some 40, op := Go.Op.fieldAddr 28 (Go.Operand.tmp 5) 0, type := 0, pos := "vertex.go:115", after := #[], guard := none }) (v := ?_) rfl (by kernel_rfl) (by kernel_rfl) (by kernel_rfl) (fun _ _ _ h => h) (Or.inl ⟨by rfl, ?_⟩) (by assumption) ?_
          rotate_left
          · (intro w hSw; (try dsimp only at hSw); go_simp; (try (with_reducible rfl)))
          try simp only [Act.put, List.setIfInBounds_toArray, List.set_cons_zero, List.set_cons_succ]
          refine wpAnyH_take (i := 4) (oi := { dst := some 41, op := Go.Op.load 3 (Go.Operand.tmp 40), type := 3, pos := "vertex.go:115", after := #[{ on := 3, ground := Go.Ground.data }], guard := none }) (v := ?_) rfl (by kernel_rfl) (by kernel_rfl) (by kernel_rfl) (fun _ _ _ h => h) (Or.inl ⟨by rfl, ?_⟩) (by assumption) ?_
          rotate_left
          · (intro w hSw; (try dsimp only at hSw); go_simp; (try (with_reducible rfl)))
          try simp only [Act.put, List.setIfInBounds_toArray, List.set_cons_zero, List.set_cons_succ]
          refine wpAnyH_take (i := 5) (oi := { dst := some 42, op := Go.Op.nilCheck (Go.Operand.tmp 39), type := 0, pos := "vertex.go:115", after := #[{ on := 2, ground := Go.Ground.data }], guard := none }) (v := ?_) rfl (by kernel_rfl) (by kernel_rfl) (by kernel_rfl) (fun _ _ _ h => h) (Or.inl ⟨by rfl, ?_⟩) (by assumption) ?_
          rotate_left
          · (intro w hSw; (try dsimp only at hSw); go_simp; (try (with_reducible rfl)))
          try simp only [Act.put, List.setIfInBounds_toArray, List.set_cons_zero, List.set_cons_succ]
          refine wpAnyH_take (i := 6) (oi := { dst := some 43, op := Go.Op.fieldAddr 120 (Go.Operand.tmp 42) 3, type := 0, pos := "vertex.go:115", after := #[{ on := 5, ground := Go.Ground.data }], guard := none }) (v := ?_) rfl (by kernel_rfl) (by kernel_rfl) (by kernel_rfl) (fun _ _ _ h => h) (Or.inl ⟨by rfl, ?_⟩) (by assumption) ?_
          rotate_left
          · (intro w hSw; (try dsimp only at hSw); go_simp; (try (with_reducible rfl)))
          try simp only [Act.put, List.setIfInBounds_toArray, List.set_cons_zero, List.set_cons_succ]
          refine wpAnyH_take (i := 7) (oi := { dst := some 44, op := Go.Op.indexAddr 79 (Go.Operand.tmp 43) (Go.Operand.tmp 41), type := 0, pos := "vertex.go:115", after := #[{ on := 6, ground := Go.Ground.data }, { on := 4, ground := Go.Ground.data }], guard := none }) (v := ?_) rfl (by kernel_rfl) (by kernel_rfl) (by kernel_rfl) (fun _ _ _ h => h) (Or.inl ⟨by rfl, ?_⟩) (by assumption) ?_
          rotate_left
          · (intro w hSw; (try dsimp only at hSw); go_simp; (try (with_reducible rfl)))
          try simp only [Act.put, List.setIfInBounds_toArray, List.set_cons_zero, List.set_cons_succ]
          refine wpAnyH_take (i := 8) (oi := { dst := some 45, op := Go.Op.load 3 (Go.Operand.tmp 44), type := 3, pos := "vertex.go:115", after := #[{ on := 7, ground := Go.Ground.data }], guard := none }) (v := ?_) rfl (by kernel_rfl) (by kernel_rfl) (by kernel_rfl) (fun _ _ _ h => h) (Or.inl ⟨by rfl, ?_⟩) (by assumption) ?_
          rotate_left
          · (intro w hSw; (try dsimp only at hSw); go_simp; (try (with_reducible rfl)))
          try simp only [Act.put, List.setIfInBounds_toArray, List.set_cons_zero, List.set_cons_succ]
          refine wpAnyH_take (i := 9) (oi := { dst := some 46, op := Go.Op.binOp Go.BinOp.leq 3 (Go.Operand.tmp 38) (Go.Operand.tmp 45) 3, type := 4, pos := "vertex.go:115", after := #[{ on := 1, ground := Go.Ground.data }, { on := 8, ground := Go.Ground.data }], guard := none }) (v := ?_) rfl (by kernel_rfl) (by kernel_rfl) (by kernel_rfl) (fun _ _ _ h => h) (Or.inl ⟨by rfl, ?_⟩) (by assumption) ?_
          rotate_left
          · (intro w hSw; (try dsimp only at hSw); go_simp; (try (with_reducible rfl)))
          try simp only [Act.put, List.setIfInBounds_toArray, List.set_cons_zero, List.set_cons_succ]
          refine wpAnyH_done (by kernel_rfl) ?_ _
          clear hHeld
          by_cases hsl : xb ≤ (lo : Int)
          · have ht : decide (xb ≤ (lo : Int)) = true := decide_eq_true hsl
            have hDd := hD.out (by rw [ht]; rfl)
            have cl7 := h7.swap.blk_lt
            have cl8 := World.block_lt_of_cell? _ _ (h7.cell y0)
            have en7 := en6.drew
            generalize W6.drew = W7 at *
            have h8 := h7.drew
            obtain ⟨w9, hdl, h9, en9⟩ := St.rg_del h8 (ty := 0) (t := 116) Try.underlying116 ((n : Int), xb) hG.out
            rw [hDd] at h9
            change (Builtin.delete_ #[116, 28] 0 #[.map (some g), .agg #[.int .i64 (n : Int), .int .i64 xb]]).run Try.prog W7.drew = .ok (.tuple #[]) w9 at hdl
            go_wp2_with fail
            refine wp_region_held_drew (S := fun w' : World => w'.cell? ⟨gb, 0, none⟩ = some (.int .i64 (n : Int)) ∧ w'.cell? ⟨gb, 1, none⟩ = some (.int .i64 xb) ∧ w'.cell? ⟨p, 3 + n, none⟩ = some (.int .i64 (lo : Int)) ∧ w'.cell? ⟨p, 1, none⟩ = some (.map (some g))) (by kernel_rfl) (kk _ _ _ h8) (fun hHeld => ?_)
            refine wpAnyH_take (i := 0) (oi := { dst := some 47, op := Go.Op.move (Go.Operand.tmp 0), type := 67, pos := "vertex.go:116", after := #[], guard := none }) (v := ?_) rfl (by kernel_rfl) (by kernel_rfl) (by kernel_rfl) (fun _ _ _ h => h) (Or.inl ⟨by rfl, ?_⟩) (by assumption) ?_
            rotate_left
            · (intro w hSw; (try dsimp only at hSw); go_simp; (try (with_reducible rfl)))
            try simp only [Act.put, List.setIfInBounds_toArray, List.set_cons_zero, List.set_cons_succ]
            refine wpAnyH_take (i := 1) (oi := { dst := some 48, op := Go.Op.nilCheck (Go.Operand.tmp 47), type := 0, pos := "vertex.go:116", after := #[{ on := 0, ground := Go.Ground.data }], guard := none }) (v := ?_) rfl (by kernel_rfl) (by kernel_rfl) (by kernel_rfl) (fun _ _ _ h => h) (Or.inl ⟨by rfl, ?_⟩) (by assumption) ?_
            rotate_left
            · (intro w hSw; (try dsimp only at hSw); go_simp; (try (with_reducible rfl)))
            try simp only [Act.put, List.setIfInBounds_toArray, List.set_cons_zero, List.set_cons_succ]
            refine wpAnyH_take (i := 2) (oi := { dst := some 49, op := Go.Op.fieldAddr 120 (Go.Operand.tmp 48) 1, type := 0, pos := "vertex.go:116", after := #[{ on := 1, ground := Go.Ground.data }], guard := none }) (v := ?_) rfl (by kernel_rfl) (by kernel_rfl) (by kernel_rfl) (fun _ _ _ h => h) (Or.inl ⟨by rfl, ?_⟩) (by assumption) ?_
            rotate_left
            · (intro w hSw; (try dsimp only at hSw); go_simp; (try (with_reducible rfl)))
            try simp only [Act.put, List.setIfInBounds_toArray, List.set_cons_zero, List.set_cons_succ]
            refine wpAnyH_take (i := 3) (oi := { dst := some 50, op := Go.Op.load 116 (Go.Operand.tmp 49), type := 116, pos := "vertex.go:116", after := #[{ on := 2, ground := Go.Ground.data }], guard := none }) (v := ?_) rfl (by kernel_rfl) (by kernel_rfl) (by kernel_rfl) (fun _ _ _ h => h) (Or.inl ⟨by rfl, ?_⟩) (by assumption) ?_
            rotate_left
            · (intro w hSw; (try dsimp only at hSw); go_simp; (try (with_reducible rfl)))
            try simp only [Act.put, List.setIfInBounds_toArray, List.set_cons_zero, List.set_cons_succ]
            refine wpAnyH_take (i := 4) (oi := { dst := some 51, op := Go.Op.load 28 (Go.Operand.tmp 5), type := 28, pos := "vertex.go:116", after := #[], guard := none }) (v := ?_) rfl (by kernel_rfl) (by kernel_rfl) (by kernel_rfl) (fun _ _ _ h => h) (Or.inl ⟨by rfl, ?_⟩) (by assumption) ?_
            rotate_left
            · (intro w hSw; (try dsimp only at hSw); go_simp; (try (with_reducible rfl)))
            try simp only [Act.put, List.setIfInBounds_toArray, List.set_cons_zero, List.set_cons_succ]
            refine wpAnyH_ready (rs := [5]) (by kernel_rfl) (by simp) ?_
            refine AllReadyH.cons (o := { dst := none, op := Go.Op.call { callee := Go.Callee.builtin Go.Builtin.delete, args := #[Go.Operand.tmp 50, Go.Operand.tmp 51], argTypes := #[116, 28] }, type := 0, pos := "vertex.go:116", after := #[{ on := 3, ground := Go.Ground.data }, { on := 4, ground := Go.Ground.data }], guard := none }) rfl (fun K hK => ?_) AllReadyH.nil
            go_simp
            refine hK.out _ _ (kk _ _ _ h9) (fun hHeld2 => ?_)
            clear hK K hHeld
            try simp only [Act.put, List.setIfInBounds_toArray, List.set_cons_zero, List.set_cons_succ]
            refine wpAnyH_done (by kernel_rfl) ?_ _
            go_wp2_with fail
            go_roundw
            case rel => exact ⟨pre ++ post, h9.weaken hle, en7.drew.trans en9, HS'⟩
            case measure => rw [rgk_left h9, hms.out, hleft.out]; simp
          · have ht : decide (xb ≤ (lo : Int)) = false := decide_eq_false hsl
            have hRr := hR.out (by rw [ht]; rfl)
            go_wp2_with fail
            go_roundw
            case rel => exact ⟨pre ++ post, by rw [← hRr]; exact h7.weaken hle, en6.drew, HS'⟩
            case measure => rw [rgk_left h7, hms.out, hleft.out]; simp
end Go.Proofs.Ytelmhcbdpimaaaa
