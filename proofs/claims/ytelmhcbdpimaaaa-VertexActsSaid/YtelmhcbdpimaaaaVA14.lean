/- Joined texts: Vert7, VertWorks. -/
import Derived.Test.YtelmhcbdpimaaaaVA13
/- Records that are kept: Compact. -/
set_option linter.unusedVariables false
set_option linter.unusedSimpArgs false
namespace Go.Proofs.Ytelmhcbdpimaaaa
open Go.RowKit Go.Cw Go.Fl
attribute [local go_sem ↓] eql_id neq_id
/-- A record is above its replica's floor. -/
def aboveL (low : List Nat) (a : Id) : Bool := !decide (a.2 ≤ ((low.getD a.1.toNat 0 : Nat) : Int))
def keepK (low : List Nat) (K : List Kp) : List Kp := K.filter (fun x => aboveL low x.1.1)
/-- What is there under way. -/
def midK (low : List Nat) (left K : List Kp) : List Kp := K.filter (fun x => decide (x.1.1 ∈ kids left) || aboveL low x.1.1)
theorem midK_all (low : List Nat) (K : List Kp) : midK low K K = K := by
  unfold midK
  refine List.filter_eq_self.2 (fun x hx => ?_)
  have hm : x.1.1 ∈ kids K := List.mem_map.2 ⟨x, hx, rfl⟩
  rw [decide_eq_true hm, Bool.true_or]
theorem midK_nil (low : List Nat) (K : List Kp) : midK low [] K = keepK low K := by
  unfold midK keepK
  congr 1
theorem kids_mid {pre post : List Kp} {y : Kp} (b : Id) : b ∈ kids (pre ++ y :: post) ↔ b = y.1.1 ∨ b ∈ kids (pre ++ post) := by
  simp only [kids, List.map_append, List.map_cons, List.mem_append, List.mem_cons]
  constructor
  · rintro (h | h | h)
    · exact .inr (.inl h)
    · exact .inl h
    · exact .inr (.inr h)
  · rintro (h | h | h)
    · exact .inr (.inl h)
    · exact .inl h
    · exact .inr (.inr h)
theorem midK_keep {low : List Nat} {pre post K : List Kp} {y : Kp} (h : aboveL low y.1.1 = true) : midK low (pre ++ y :: post) K = midK low (pre ++ post) K := by
  unfold midK
  refine List.filter_congr (fun x hx => ?_)
  cases ha : aboveL low x.1.1 with
  | true => simp
  | false =>
    have hne : x.1.1 ≠ y.1.1 := fun e => by rw [e, h] at ha; cases ha
    simp only [Bool.or_false]
    rw [decide_eq_decide, kids_mid]
    simp [hne]
theorem midK_del {low : List Nat} {pre post K : List Kp} {y : Kp} (h : aboveL low y.1.1 = false) (hn : y.1.1 ∉ kids (pre ++ post)) : mdel y.1.1 (entsK (midK low (pre ++ y :: post) K)) = entsK (midK low (pre ++ post) K) := by
  unfold mdel entsK midK
  rw [List.filter_map, List.filter_filter]
  congr 1
  refine List.filter_congr (fun x hx => ?_)
  simp only [Function.comp]
  by_cases hx : x.1.1 = y.1.1
  · rw [hx, h, decide_eq_false hn]
    simp
  · have : decide (x.1.1 ∈ kids (pre ++ y :: post)) = decide (x.1.1 ∈ kids (pre ++ post)) := by rw [decide_eq_decide, kids_mid]; simp [hx]
    rw [this]
    simp [hx]
theorem mdel_rg {pre post : List Kp} {y : Kp} (hn : y.1.1 ∉ kids (pre ++ post)) : y.1.1 ∉ (entsK (pre ++ post)).map (·.1) := by rw [entsK_keys]; exact hn
theorem kids_mid_nodup {pre post : List Kp} {y : Kp} (h : (kids (pre ++ y :: post)).Nodup) : y.1.1 ∉ kids (pre ++ post) ∧ (kids (pre ++ post)).Nodup := by
  simp only [kids, List.map_append, List.map_cons] at h ⊢
  exact List.nodup_cons.1 (List.perm_middle.nodup_iff.1 h)
/-- What Compact does. -/
def VCom (H : Hp) (p : Nat) (room : Int) (K : List Kp) (M : List Id) (fr : List HA) (w : World) (e : Ending) (w' : World) : Prop :=
  ∃ low : List Nat, low.length = 8 ∧ (∀ r : Nat, r < 8 → FlP M (r : Int) (low.getD r 0)) ∧ e = .returned (.int .i64 ((K.length : Int) - ((keepK low K).length : Int))) ∧ St H (VsA p room (keepK low K) M low :: fr) w' ∧ Env w w'
set_option maxRecDepth 100000 in
set_option maxHeartbeats 6400000 in
theorem vsCompact_any (p : Nat) (room : Int) (K : List Kp) (M : List Id) (low : List Nat) (hlow : low.length = 8) (H : Hp) (fr : List HA) (w : World) (h : St H (VsA p room K M low :: fr) w) (hKl : K.length ≤ 1000000) (hid : ∀ x ∈ K, idOk x.1.1 = true) :
    Calls Try.prog 45 #[vsP p] w (VCom H p room K M fr w) := by
  have hnd := vs_nodup h
  go_enter Try.func45, Try.ntmps45
  obtain ⟨g, f, h1⟩ := vsOpen h
  have cl := h1.blk_lt
  go_wp2_with fail
  go_loopw [8] (fun iv wr => ∃ (i : Nat) (lw : List Nat), i ≤ 8 ∧ iv = .int .i64 (i : Int) ∧ lw.length = 8 ∧ St H (VsA p room K M lw :: fr) wr ∧ Env w wr ∧ Hid (∀ r : Nat, r < i → FlP M (r : Int) (lw.getD r 0))) (fun a _ => 8 - (intOf a).toNat)
  case atStart => exact ⟨0, low, by omega, rfl, hlow, h, Env.refl w, Lib.hid (fun r hr => absurd hr (Nat.not_lt_zero r))⟩
  case round =>
    clear h h1 cl hlow low
    obtain ⟨i, lw, hi, rfl, hlw, hst, hen, HF⟩ := hrel
    rcases Nat.lt_or_ge i 8 with hlt | hge
    · obtain ⟨g, f, h1⟩ := vsOpen hst
      have hD := h1.drew
      have hF := Lib.hid (frFloor_in f i hlt M H _ _ (hD.pick 2 (by simp)))
      have hlt' : (i : Int) < 8 := by omega
      have cl := h1.blk_lt
      have sc := h1.blk_cell (3 + i)
      rw [vsC_low _ _ _ _ _ (by omega)] at sc
      have sf := h1.blk_free (3 + i)
      have kk : ∀ (C : Array Value) (l' : List HA) (w' : World), C[2]? = some (frP f) → St H (Blk p C 120 :: l') w' → w'.cell? ⟨p, 2, none⟩ = some (frP f) := fun C l' w' hC h => by rw [← hC]; exact h.blk_cell 2
      go_wp2_with fail
      refine wp_region_held_drew (S := fun w' : World => w'.cell? ⟨p, 2, none⟩ = some (frP f)) (by kernel_rfl) (kk _ _ _ rfl hD) (fun hHeld => ?_)
      refine wpAnyH_take (i := 0) (oi := { dst := some 11, op := Go.Op.move (Go.Operand.tmp 0), type := 67, pos := "vertex.go:111", after := #[], guard := none }) (v := ?_) rfl (by kernel_rfl) (by kernel_rfl) (by kernel_rfl) (fun _ _ _ h => h) (Or.inl ⟨by rfl, ?_⟩) (by assumption) ?_
      rotate_left
      · (intro w hSw; (try dsimp only at hSw); go_simp; (try (with_reducible rfl)))
      try simp only [Act.put, List.setIfInBounds_toArray, List.set_cons_zero, List.set_cons_succ]
      refine wpAnyH_take (i := 1) (oi := { dst := some 12, op := Go.Op.move (Go.Operand.tmp 3), type := 3, pos := "vertex.go:111", after := #[], guard := none }) (v := ?_) rfl (by kernel_rfl) (by kernel_rfl) (by kernel_rfl) (fun _ _ _ h => h) (Or.inl ⟨by rfl, ?_⟩) (by assumption) ?_
      rotate_left
      · (intro w hSw; (try dsimp only at hSw); go_simp; (try (with_reducible rfl)))
      try simp only [Act.put, List.setIfInBounds_toArray, List.set_cons_zero, List.set_cons_succ]
      refine wpAnyH_take (i := 2) (oi := { dst := some 13, op := Go.Op.move (Go.Operand.tmp 0), type := 67, pos := "vertex.go:111", after := #[], guard := none }) (v := ?_) rfl (by kernel_rfl) (by kernel_rfl) (by kernel_rfl) (fun _ _ _ h => h) (Or.inl ⟨by rfl, ?_⟩) (by assumption) ?_
      rotate_left
      · (intro w hSw; (try dsimp only at hSw); go_simp; (try (with_reducible rfl)))
      try simp only [Act.put, List.setIfInBounds_toArray, List.set_cons_zero, List.set_cons_succ]
      refine wpAnyH_take (i := 3) (oi := { dst := some 14, op := Go.Op.nilCheck (Go.Operand.tmp 13), type := 0, pos := "vertex.go:111", after := #[{ on := 2, ground := Go.Ground.data }], guard := none }) (v := ?_) rfl (by kernel_rfl) (by kernel_rfl) (by kernel_rfl) (fun _ _ _ h => h) (Or.inl ⟨by rfl, ?_⟩) (by assumption) ?_
      rotate_left
      · (intro w hSw; (try dsimp only at hSw); go_simp; (try (with_reducible rfl)))
      try simp only [Act.put, List.setIfInBounds_toArray, List.set_cons_zero, List.set_cons_succ]
      refine wpAnyH_take (i := 4) (oi := { dst := some 15, op := Go.Op.fieldAddr 120 (Go.Operand.tmp 14) 2, type := 0, pos := "vertex.go:111", after := #[{ on := 3, ground := Go.Ground.data }], guard := none }) (v := ?_) rfl (by kernel_rfl) (by kernel_rfl) (by kernel_rfl) (fun _ _ _ h => h) (Or.inl ⟨by rfl, ?_⟩) (by assumption) ?_
      rotate_left
      · (intro w hSw; (try dsimp only at hSw); go_simp; (try (with_reducible rfl)))
      try simp only [Act.put, List.setIfInBounds_toArray, List.set_cons_zero, List.set_cons_succ]
      refine wpAnyH_take (i := 5) (oi := { dst := some 16, op := Go.Op.load 117 (Go.Operand.tmp 15), type := 117, pos := "vertex.go:111", after := #[{ on := 4, ground := Go.Ground.data }], guard := none }) (v := ?_) rfl (by kernel_rfl) (by kernel_rfl) (by kernel_rfl) (fun _ _ _ h => h) (Or.inl ⟨by rfl, ?_⟩) (by assumption) ?_
      rotate_left
      · (intro w hSw; (try dsimp only at hSw); go_simp; (try (with_reducible rfl)))
      try simp only [Act.put, List.setIfInBounds_toArray, List.set_cons_zero, List.set_cons_succ]
      refine wpAnyH_take (i := 6) (oi := { dst := some 17, op := Go.Op.move (Go.Operand.tmp 3), type := 3, pos := "vertex.go:111", after := #[], guard := none }) (v := ?_) rfl (by kernel_rfl) (by kernel_rfl) (by kernel_rfl) (fun _ _ _ h => h) (Or.inl ⟨by rfl, ?_⟩) (by assumption) ?_
      rotate_left
      · (intro w hSw; (try dsimp only at hSw); go_simp; (try (with_reducible rfl)))
      try simp only [Act.put, List.setIfInBounds_toArray, List.set_cons_zero, List.set_cons_succ]
      refine wpAnyH_take (i := 8) (oi := { dst := some 19, op := Go.Op.nilCheck (Go.Operand.tmp 11), type := 0, pos := "vertex.go:111", after := #[{ on := 0, ground := Go.Ground.data }], guard := none }) (v := ?_) rfl (by kernel_rfl) (by kernel_rfl) (by kernel_rfl) (fun _ _ _ h => h) (Or.inl ⟨by rfl, ?_⟩) (by assumption) ?_
      rotate_left
      · (intro w hSw; (try dsimp only at hSw); go_simp; (try (with_reducible rfl)))
      try simp only [Act.put, List.setIfInBounds_toArray, List.set_cons_zero, List.set_cons_succ]
      refine wpAnyH_take (i := 9) (oi := { dst := some 20, op := Go.Op.fieldAddr 120 (Go.Operand.tmp 19) 3, type := 0, pos := "vertex.go:111", after := #[{ on := 8, ground := Go.Ground.data }], guard := none }) (v := ?_) rfl (by kernel_rfl) (by kernel_rfl) (by kernel_rfl) (fun _ _ _ h => h) (Or.inl ⟨by rfl, ?_⟩) (by assumption) ?_
      rotate_left
      · (intro w hSw; (try dsimp only at hSw); go_simp; (try (with_reducible rfl)))
      try simp only [Act.put, List.setIfInBounds_toArray, List.set_cons_zero, List.set_cons_succ]
      refine wpAnyH_ready (rs := [7]) (by kernel_rfl) (by simp) ?_
      refine AllReadyH.cons (o := { dst := some 18, op := Go.Op.call { callee := Go.Callee.value (Go.Operand.func 84), args := #[Go.Operand.tmp 16, Go.Operand.tmp 17], argTypes := #[117, 3] }, type := 3, pos := "vertex.go:111", after := #[{ on := 5, ground := Go.Ground.data }, { on := 6, ground := Go.Ground.data }], guard := none }) rfl (fun K hK => ?_) AllReadyH.nil
      go_simp
      refine hF.out.mono ?_
      rintro e w2 ⟨n, rfl, rfl, hn⟩
      refine hK.out _ _ (kk _ _ _ rfl hD) (fun hHeld2 => ?_)
      clear hK K hHeld
      have h2 := h1.blk_set (3 + i) (.int .i64 (n : Int))
      rw [vsC_set _ _ _ _ _ _ (by omega)] at h2
      try simp only [Act.put, List.setIfInBounds_toArray, List.set_cons_zero, List.set_cons_succ]
      refine wpAnyH_take (i := 10) (oi := { dst := some 21, op := Go.Op.indexAddr 79 (Go.Operand.tmp 20) (Go.Operand.tmp 12), type := 0, pos := "vertex.go:111", after := #[{ on := 9, ground := Go.Ground.data }, { on := 1, ground := Go.Ground.data }, { on := 0, ground := Go.Ground.phase }, { on := 1, ground := Go.Ground.phase }, { on := 2, ground := Go.Ground.phase }, { on := 3, ground := Go.Ground.phase }, { on := 4, ground := Go.Ground.phase }, { on := 5, ground := Go.Ground.phase }, { on := 6, ground := Go.Ground.phase }, { on := 7, ground := Go.Ground.phase }], guard := none }) (v := ?_) rfl (by kernel_rfl) (by kernel_rfl) (by kernel_rfl) (fun _ _ _ h => h) (Or.inl ⟨by rfl, ?_⟩) (by assumption) ?_
      rotate_left
      · (intro w hSw; (try dsimp only at hSw); go_simp; (try (with_reducible rfl)))
      try simp only [Act.put, List.setIfInBounds_toArray, List.set_cons_zero, List.set_cons_succ]
      refine wpAnyH_ready (rs := [11]) (by kernel_rfl) (by simp) ?_
      refine AllReadyH.cons (o := { dst := none, op := Go.Op.store 3 (Go.Operand.tmp 21) (Go.Operand.tmp 18), type := 0, pos := "vertex.go:111", after := #[{ on := 10, ground := Go.Ground.data }, { on := 7, ground := Go.Ground.data }, { on := 7, ground := Go.Ground.chain }, { on := 0, ground := Go.Ground.phase }, { on := 1, ground := Go.Ground.phase }, { on := 2, ground := Go.Ground.phase }, { on := 3, ground := Go.Ground.phase }, { on := 4, ground := Go.Ground.phase }, { on := 5, ground := Go.Ground.phase }, { on := 6, ground := Go.Ground.phase }, { on := 7, ground := Go.Ground.phase }], guard := none }) rfl (fun K hK => ?_) AllReadyH.nil
      go_simp
      refine hK.out _ _ (kk _ _ _ rfl h2.drew) (fun hHeld3 => ?_)
      clear hK K hHeld2
      try simp only [Act.put, List.setIfInBounds_toArray, List.set_cons_zero, List.set_cons_succ]
      refine wpAnyH_done (by kernel_rfl) ?_ _
      have hz : St H (VsA p room K M (lw.set i n) :: fr) ((wr.setCell ⟨p, 3 + i, none⟩ (.int .i64 (n : Int))).drew) := vsShut h2.drew
      have enz := ((hen.setCell ⟨p, 3 + i, none⟩ (.int .i64 (n : Int)))).drew
      have HF' : Hid (∀ r : Nat, r < i + 1 → FlP M (r : Int) ((lw.set i n).getD r 0)) := Lib.hid (fun r hr => by
        rw [getD_set _ _ _ _ (by omega)]
        by_cases hri : r = i
        · rw [if_pos hri, hri]; exact hn
        · rw [if_neg hri]; exact HF.out r (by omega))
      clear hHeld3 kk hn sc sf h2 h1 hD
      go_wp2_with fail
      go_roundw
      case rel => exact ⟨i + 1, lw.set i n, by omega, by go_num, by rw [List.length_set]; exact hlw, hz, enz, HF'⟩
      case measure => simp [intOf]; omega
    · obtain rfl : i = 8 := by omega
      obtain ⟨g, f, h1⟩ := vsOpen hst
      have cl := h1.blk_lt
      have c1 : wr.cell? ⟨p, 1, none⟩ = some (.map (some g)) := h1.blk_cell 1
      go_wp2_with first | (at_len; refine wpList_mlen h1.swap rfl (.tmp 26) rfl Try.underlying116 rfl ?_; rw [entsK_len]) | (at_range; refine wpList_mrange h1.swap rfl (.tmp 31) rfl Try.underlying116 rfl ?_; intro w2 h2 en2)
      go_frame
      have en3 := hen.trans en2
      generalize wr.heap.size = r at *
      go_loopw [5] (fun bv wq => ∃ (left : List Kp), St H (Rg kpC g r (entsK (midK lw left K)) (entsK left) :: Blk p (vsC room g f lw) 120 :: FrI f M :: fr) wq ∧ Env w wq ∧ Hid ((kids left).Nodup ∧ ∀ x ∈ left, x ∈ K)) (fun _ wq => wq.rangeLeft g r)
      case atStart => exact ⟨K, by rw [midK_all]; exact h2, en3, Lib.hid ⟨hnd, fun _ h => h⟩⟩
      case round =>
        clear h2 h1 hst hen en2 en3 cl c1
        obtain ⟨left, hst, hen, HS⟩ := hrel
        have c1 : wr.cell? ⟨p, 1, none⟩ = some (.map (some g)) := hst.swap.blk_cell 1
        have cl := hst.swap.blk_lt
        go_wp2_with (at_next; refine wpList_knext hst rfl (.tmp 32) rfl rfl ?_ ?_)
        · intro hl0
          subst hl0
          rw [midK_nil] at hst
          have h3 := hst.rg_end
          have hz : St H (VsA p room (keepK lw K) M lw :: fr) wr := vsShut h3.swap
          have hkl : (keepK lw K).length ≤ K.length := List.length_filter_le ..
          have hfin : VCom H p room K M fr w (.returned (.int .i64 ((K.length : Int) - ((keepK lw K).length : Int)))) wr := ⟨lw, hlw, fun r hr => HF.out r hr, rfl, hz, hen⟩
          have hw : IntKind.i64.wrap ((K.length : Int) - ((keepK lw K).length : Int)) = (K.length : Int) - ((keepK lw K).length : Int) := by rw [IntKind.wrap_i64]; omega
          generalize VCom H p room K M fr w = Q at *
          replace hfin := Lib.hid hfin
          clear hz hst
          go_wp2_with (at_len; refine wpList_mlen h3 rfl (.tmp 56) rfl Try.underlying116 rfl ?_; rw [entsK_len])
          exact hfin.out
        · intro pre post xa xb vv w5 hlf h5 en5 hent
          obtain ⟨y, hyx, hyv, hleft⟩ := hlf
          clear hyv
          have hent : (Instr.entry (.pointer (some ⟨r, 0, none⟩))).run Try.prog w5 = .ok (.tuple #[.agg #[.int .i64 xa, .int .i64 xb], vv]) w5 := hent
          have hyK : y ∈ K := HS.out.2 y (by rw [hleft]; simp)
          have hyi := hid y hyK
          rw [hyx] at hyi
          obtain ⟨hr0, hr8, hs1, hs2⟩ := (idOk_iff _).1 hyi
          simp only at hr0 hr8 hs1 hs2
          obtain ⟨n, rfl⟩ : ∃ n : Nat, xa = (n : Int) := ⟨xa.toNat, by omega⟩
          have hn8 : n < 8 := by omega
          have hnl := (kids_mid_nodup (by rw [← hleft]; exact HS.out.1)).1
          have HS' : Hid ((kids (pre ++ post)).Nodup ∧ ∀ x ∈ pre ++ post, x ∈ K) := Lib.hid ⟨(kids_mid_nodup (by rw [← hleft]; exact HS.out.1)).2, fun z hz => HS.out.2 z (by rw [hleft]; rcases List.mem_append.1 hz with h | h <;> simp [h])⟩
          have hms := Lib.hid (rgk_left hst)
          obtain ⟨lo, hlo⟩ : ∃ lo : Nat, lw.getD n 0 = lo := ⟨_, rfl⟩
          obtain ⟨H', hle, h6, hy⟩ := h5.box #[.int .i64 (n : Int), .int .i64 xb] 28
          have y0 := hy 0 _ rfl
          have y1 := hy 1 _ rfl
          have en6 := (hen.trans en5).alloc (.cells #[.int .i64 (n : Int), .int .i64 xb] 28)
          have hab : aboveL lw y.1.1 = !decide (xb ≤ (lo : Int)) := by rw [hyx]; unfold aboveL; simp only [Int.toNat_natCast, hlo]
          have hR := Lib.hid (fun h => midK_keep (low := lw) (pre := pre) (post := post) (K := K) (y := y) h)
          have hD := Lib.hid (fun h => midK_del (low := lw) (pre := pre) (post := post) (K := K) (y := y) h hnl)
          have hG := Lib.hid (mdel_rg hnl)
          rw [hyx] at hab hnl
          simp only [hyx, hab] at hR hD hG
          rw [← hleft] at hR hD
          replace hleft := Lib.hid hleft
          clear hy HS hyx hab hnl hyK hyi hr0 hst
          have kk : ∀ (A : HA) (l' : List HA) (w' : World), St H' (A :: Blk p (vsC room g f lw) 120 :: l') w' → (fun w' : World => w'.cell? ⟨w5.heap.size, 0, none⟩ = some (.int .i64 (n : Int)) ∧ w'.cell? ⟨w5.heap.size, 1, none⟩ = some (.int .i64 xb) ∧ w'.cell? ⟨p, 3 + n, none⟩ = some (.int .i64 (lo : Int)) ∧ w'.cell? ⟨p, 1, none⟩ = some (.map (some g))) w' := fun A l' w' h => ⟨h.cell y0, h.cell y1, by have := h.swap.blk_cell (3 + n); rw [vsC_low _ _ _ _ _ (by omega), hlo] at this; exact this, h.swap.blk_cell 1⟩
          have h7 := h6.drew
          have cl5 := h6.swap.blk_lt
          have cl6 := World.block_lt_of_cell? _ _ (h6.cell y0)
          go_wp2_with fail
          generalize w5.heap.size = gb at *
          generalize w5.alloc (.cells #[.int .i64 (n : Int), .int .i64 xb] 28) = W6 at *
          refine wp_region_held_drew (S := fun w' : World => w'.cell? ⟨gb, 0, none⟩ = some (.int .i64 (n : Int)) ∧ w'.cell? ⟨gb, 1, none⟩ = some (.int .i64 xb) ∧ w'.cell? ⟨p, 3 + n, none⟩ = some (.int .i64 (lo : Int)) ∧ w'.cell? ⟨p, 1, none⟩ = some (.map (some g))) (by kernel_rfl) (kk _ _ _ h7) (fun hHeld => ?_)
          refine wpAnyH_take (i := 0) (oi := { dst := some 37, op := Go.Op.fieldAddr 28 (Go.Operand.tmp 5) 1, type := 0, pos := "vertex.go:115", after := #[], guard := none }) (v := ?_) rfl (by kernel_rfl) (by kernel_rfl) (by kernel_rfl) (fun _ _ _ h => h) (Or.inl ⟨by rfl, ?_⟩) (by assumption) ?_
          rotate_left
          · (intro w hSw; (try dsimp only at hSw); go_simp; (try (with_reducible rfl)))
          try simp only [Act.put, List.setIfInBounds_toArray, List.set_cons_zero, List.set_cons_succ]
          refine wpAnyH_take (i := 1) (oi := { dst := some 38, op := Go.Op.load 3 (Go.Operand.tmp 37), type := 3, pos := "vertex.go:115", after := #[{ on := 0, ground := Go.Ground.data }], guard := none }) (v := ?_) rfl (by kernel_rfl) (by kernel_rfl) (by kernel_rfl) (fun _ _ _ h => h) (Or.inl ⟨by rfl, ?_⟩) (by assumption) ?_
          rotate_left
          · (intro w hSw; (try dsimp only at hSw); go_simp; (try (with_reducible rfl)))
          try simp only [Act.put, List.setIfInBounds_toArray, List.set_cons_zero, List.set_cons_succ]
          refine wpAnyH_take (i := 2) (oi := { dst := some 39, op := Go.Op.move (Go.Operand.tmp 0), type := 67, pos := "vertex.go:115", after := #[], guard := none }) (v := ?_) rfl (by kernel_rfl) (by kernel_rfl) (by kernel_rfl) (fun _ _ _ h => h) (Or.inl ⟨by rfl, ?_⟩) (by assumption) ?_
          rotate_left
          · (intro w hSw; (try dsimp only at hSw); go_simp; (try (with_reducible rfl)))
          try simp only [Act.put, List.setIfInBounds_toArray, List.set_cons_zero, List.set_cons_succ]
          refine wpAnyH_take (i := 3) (oi := { dst := some 40, op := Go.Op.fieldAddr 28 (Go.Operand.tmp 5) 0, type := 0, pos := "vertex.go:115", after := #[], guard := none }) (v := ?_) rfl (by kernel_rfl) (by kernel_rfl) (by kernel_rfl) (fun _ _ _ h => h) (Or.inl ⟨by rfl, ?_⟩) (by assumption) ?_
          rotate_left
          · (intro w hSw; (try dsimp only at hSw); go_simp; (try (with_reducible rfl)))
          try simp only [Act.put, List.setIfInBounds_toArray, List.set_cons_zero, List.set_cons_succ]
          refine wpAnyH_take (i := 4) (oi := { dst := some 41, op := Go.Op.load 3 (Go.Operand.tmp 40), type := 3, pos := "vertex.go:115", after := #[{ on := 3, ground := Go.Ground.data }], guard := none }) (v := ?_) rfl (by kernel_rfl) (by kernel_rfl) (by kernel_rfl) (fun _ _ _ h => h) (Or.inl ⟨by rfl, ?_⟩) (by assumption) ?_
          rotate_left
          · (intro w hSw; (try dsimp only at hSw); go_simp; (try (with_reducible rfl)))
          try simp only [Act.put, List.setIfInBounds_toArray, List.set_cons_zero, List.set_cons_succ]
          refine wpAnyH_take (i := 5) (oi := { dst := some 42, op := Go.Op.nilCheck (Go.Operand.tmp 39), type := 0, pos := "vertex.go:115", after := #[{ on := 2, ground := Go.Ground.data }], guard := none }) (v := ?_) rfl (by kernel_rfl) (by kernel_rfl) (by kernel_rfl) (fun _ _ _ h => h) (Or.inl ⟨by rfl, ?_⟩) (by assumption) ?_
          rotate_left
          · (intro w hSw; (try dsimp only at hSw); go_simp; (try (with_reducible rfl)))
          try simp only [Act.put, List.setIfInBounds_toArray, List.set_cons_zero, List.set_cons_succ]
          refine wpAnyH_take (i := 6) (oi := { dst := some 43, op := Go.Op.fieldAddr 120 (Go.Operand.tmp 42) 3, type := 0, pos := "vertex.go:115", after := #[{ on := 5, ground := Go.Ground.data }], guard := none }) (v := ?_) rfl (by kernel_rfl) (by kernel_rfl) (by kernel_rfl) (fun _ _ _ h => h) (Or.inl ⟨by rfl, ?_⟩) (by assumption) ?_
          rotate_left
          · (intro w hSw; (try dsimp only at hSw); go_simp; (try (with_reducible rfl)))
          try simp only [Act.put, List.setIfInBounds_toArray, List.set_cons_zero, List.set_cons_succ]
          refine wpAnyH_take (i := 7) (oi := { dst := some 44, op := Go.Op.indexAddr 79 (Go.Operand.tmp 43) (Go.Operand.tmp 41), type := 0, pos := "vertex.go:115", after := #[{ on := 6, ground := Go.Ground.data }, { on := 4, ground := Go.Ground.data }], guard := none }) (v := ?_) rfl (by kernel_rfl) (by kernel_rfl) (by kernel_rfl) (fun _ _ _ h => h) (Or.inl ⟨by rfl, ?_⟩) (by assumption) ?_
          rotate_left
          · (intro w hSw; (try dsimp only at hSw); go_simp; (try (with_reducible rfl)))
          try simp only [Act.put, List.setIfInBounds_toArray, List.set_cons_zero, List.set_cons_succ]
          refine wpAnyH_take (i := 8) (oi := { dst := some 45, op := Go.Op.load 3 (Go.Operand.tmp 44), type := 3, pos := "vertex.go:115", after := #[{ on := 7, ground := Go.Ground.data }], guard := none }) (v := ?_) rfl (by kernel_rfl) (by kernel_rfl) (by kernel_rfl) (fun _ _ _ h => h) (Or.inl ⟨by rfl, ?_⟩) (by assumption) ?_
          rotate_left
          · (intro w hSw; (try dsimp only at hSw); go_simp; (try (with_reducible rfl)))
          try simp only [Act.put, List.setIfInBounds_toArray, List.set_cons_zero, List.set_cons_succ]
          refine wpAnyH_take (i := 9) (oi := { dst := some 46, op := Go.Op.binOp Go.BinOp.leq 3 (Go.Operand.tmp 38) (Go.Operand.tmp 45) 3, type := 4, pos := "vertex.go:115", after := #[{ on := 1, ground := Go.Ground.data }, { on := 8, ground := Go.Ground.data }], guard := none }) (v := ?_) rfl (by kernel_rfl) (by kernel_rfl) (by kernel_rfl) (fun _ _ _ h => h) (Or.inl ⟨by rfl, ?_⟩) (by assumption) ?_
          rotate_left
          · (intro w hSw; (try dsimp only at hSw); go_simp; (try (with_reducible rfl)))
          try simp only [Act.put, List.setIfInBounds_toArray, List.set_cons_zero, List.set_cons_succ]
          refine wpAnyH_done (by kernel_rfl) ?_ _
          clear hHeld
          by_cases hsl : xb ≤ (lo : Int)
          · have ht : decide (xb ≤ (lo : Int)) = true := decide_eq_true hsl
            have hDd := hD.out (by rw [ht]; rfl)
            have cl7 := h7.swap.blk_lt
            have cl8 := World.block_lt_of_cell? _ _ (h7.cell y0)
            have en7 := en6.drew
            generalize W6.drew = W7 at *
            have h8 := h7.drew
            obtain ⟨w9, hdl, h9, en9⟩ := St.rg_del h8 (ty := 0) (t := 116) Try.underlying116 ((n : Int), xb) hG.out
            rw [hDd] at h9
            change (Builtin.delete_ #[116, 28] 0 #[.map (some g), .agg #[.int .i64 (n : Int), .int .i64 xb]]).run Try.prog W7.drew = .ok (.tuple #[]) w9 at hdl
            go_wp2_with fail
            refine wp_region_held_drew (S := fun w' : World => w'.cell? ⟨gb, 0, none⟩ = some (.int .i64 (n : Int)) ∧ w'.cell? ⟨gb, 1, none⟩ = some (.int .i64 xb) ∧ w'.cell? ⟨p, 3 + n, none⟩ = some (.int .i64 (lo : Int)) ∧ w'.cell? ⟨p, 1, none⟩ = some (.map (some g))) (by kernel_rfl) (kk _ _ _ h8) (fun hHeld => ?_)
            refine wpAnyH_take (i := 0) (oi := { dst := some 47, op := Go.Op.move (Go.Operand.tmp 0), type := 67, pos := "vertex.go:116", after := #[], guard := none }) (v := ?_) rfl (by kernel_rfl) (by kernel_rfl) (by kernel_rfl) (fun _ _ _ h => h) (Or.inl ⟨by rfl, ?_⟩) (by assumption) ?_
            rotate_left
            · (intro w hSw; (try dsimp only at hSw); go_simp; (try (with_reducible rfl)))
            try simp only [Act.put, List.setIfInBounds_toArray, List.set_cons_zero, List.set_cons_succ]
            refine wpAnyH_take (i := 1) (oi := { dst := some 48, op := Go.Op.nilCheck (Go.Operand.tmp 47), type := 0, pos := "vertex.go:116", after := #[{ on := 0, ground := Go.Ground.data }], guard := none }) (v := ?_) rfl (by kernel_rfl) (by kernel_rfl) (by kernel_rfl) (fun _ _ _ h => h) (Or.inl ⟨by rfl, ?_⟩) (by assumption) ?_
            rotate_left
            · (intro w hSw; (try dsimp only at hSw); go_simp; (try (with_reducible rfl)))
            try simp only [Act.put, List.setIfInBounds_toArray, List.set_cons_zero, List.set_cons_succ]
            refine wpAnyH_take (i := 2) (oi := { dst := some 49, op := Go.Op.fieldAddr 120 (Go.Operand.tmp 48) 1, type := 0, pos := "vertex.go:116", after := #[{ on := 1, ground := Go.Ground.data }], guard := none }) (v := ?_) rfl (by kernel_rfl) (by kernel_rfl) (by kernel_rfl) (fun _ _ _ h => h) (Or.inl ⟨by rfl, ?_⟩) (by assumption) ?_
            rotate_left
            · (intro w hSw; (try dsimp only at hSw); go_simp; (try (with_reducible rfl)))
            try simp only [Act.put, List.setIfInBounds_toArray, List.set_cons_zero, List.set_cons_succ]
            refine wpAnyH_take (i := 3) (oi := { dst := some 50, op := Go.Op.load 116 (Go.Operand.tmp 49), type := 116, pos := "vertex.go:116", after := #[{ on := 2, ground := Go.Ground.data }], guard := none }) (v := ?_) rfl (by kernel_rfl) (by kernel_rfl) (by kernel_rfl) (fun _ _ _ h => h) (Or.inl ⟨by rfl, ?_⟩) (by assumption) ?_
            rotate_left
            · (intro w hSw; (try dsimp only at hSw); go_simp; (try (with_reducible rfl)))
            try simp only [Act.put, List.setIfInBounds_toArray, List.set_cons_zero, List.set_cons_succ]
            refine wpAnyH_take (i := 4) (oi := { dst := some 51, op := Go.Op.load 28 (Go.Operand.tmp 5), type := 28, pos := "vertex.go:116", after := #[], guard := none }) (v := ?_) rfl (by kernel_rfl) (by kernel_rfl) (by kernel_rfl) (fun _ _ _ h => h) (Or.inl ⟨by rfl, ?_⟩) (by assumption) ?_
            rotate_left
            · (intro w hSw; (try dsimp only at hSw); go_simp; (try (with_reducible rfl)))
            try simp only [Act.put, List.setIfInBounds_toArray, List.set_cons_zero, List.set_cons_succ]
            refine wpAnyH_ready (rs := [5]) (by kernel_rfl) (by simp) ?_
            refine AllReadyH.cons (o := { dst := none, op := Go.Op.call { callee := Go.Callee.builtin Go.Builtin.delete, args := #[Go.Operand.tmp 50, Go.Operand.tmp 51], argTypes := #[116, 28] }, type := 0, pos := "vertex.go:116", after := #[{ on := 3, ground := Go.Ground.data }, { on := 4, ground := Go.Ground.data }], guard := none }) rfl (fun K hK => ?_) AllReadyH.nil
            go_simp
            refine hK.out _ _ (kk _ _ _ h9) (fun hHeld2 => ?_)
            clear hK K hHeld
            try simp only [Act.put, List.setIfInBounds_toArray, List.set_cons_zero, List.set_cons_succ]
            refine wpAnyH_done (by kernel_rfl) ?_ _
            go_wp2_with fail
            go_roundw
            case rel => exact ⟨pre ++ post, h9.weaken hle, en7.drew.trans en9, HS'⟩
            case measure => rw [rgk_left h9, hms.out, hleft.out]; simp
          · have ht : decide (xb ≤ (lo : Int)) = false := decide_eq_false hsl
            have hRr := hR.out (by rw [ht]; rfl)
            go_wp2_with fail
            go_roundw
            case rel => exact ⟨pre ++ post, by rw [← hRr]; exact h7.weaken hle, en6.drew, HS'⟩
            case measure => rw [rgk_left h7, hms.out, hleft.out]; simp
end Go.Proofs.Ytelmhcbdpimaaaa

/- Law 21: what works asks. -/
set_option linter.unusedVariables false
set_option linter.unusedSimpArgs false
namespace Go.Proofs.Ytelmhcbdpimaaaa
open Go.RowKit Go.Cw Go.Fl
attribute [local go_sem ↓] eql_id neq_id
abbrev z8 : List Nat := [0, 0, 0, 0, 0, 0, 0, 0]
abbrev w21 : Rp := ((1, 1), 1, [], [])
theorem w21a : putE 2 [] z8 w21 = 0 := by decide
theorem rp_id {y : Rc} {x : Rp} (h : rp y = x) : y.1 = x.1 := congrArg (fun z : Rp => z.1) h
theorem look_one {y : Rc} {b : Bool} {x : Rp} (h : rp y = x) : lookKp [(y, b)] x.1 = ((y, b), true) := by
  unfold lookKp
  rw [List.find?_cons_of_pos (by simpa using rp_id h)]
theorem w21b {y : Rc} (h : rp y = w21) : putE 2 [(y, false)] z8 w21 = 16 := by
  have h0 : recErr w21 = 0 := by decide
  have h1 : w21.1 ∈ kids [(y, false)] := by rw [← rp_id h]; simp [kids]
  unfold putE
  rw [if_neg (by simpa using h0), if_neg (by decide), if_pos h1, look_one h, h, recSame_refl, if_pos rfl]
theorem w21c {y : Rc} (h : rp y = w21) : stK [(y, false)] [] ((1, 1) : Id) = 1 := by
  unfold stK
  have := look_one (b := false) h
  rw [show w21.1 = ((1, 1) : Id) from rfl] at this
  rw [this]
  rfl
theorem w21d {y : Rc} (h : rp y = w21) : doneK ((1, 1) : Id) [(y, false)] = [(y, true)] := by
  have : y.1 = ((1, 1) : Id) := rp_id h
  simp [doneK, this]
theorem w21e : mayM ((1, 1) : Id) [] = true := by decide
theorem w21f : markL ((1, 1) : Id) [] = [(1, 1)] := by decide
theorem w21g {low : List Nat} {y : Rc} {b : Bool} (h : rp y = w21) (hf : ∀ r : Nat, r < 8 → FlP [((1, 1) : Id)] (r : Int) (low.getD r 0)) : keepK low [(y, b)] = [] ∧ low.getD 1 0 = 1 := by
  have hy : y.1 = ((1, 1) : Id) := rp_id h
  have h1 : low.getD 1 0 = 1 := FlP.one (hf 1 (by decide)) ⟨fun m h1 h2 => by
    obtain rfl : m = 1 := by omega
    simp, by simp⟩
  refine ⟨?_, h1⟩
  unfold keepK
  rw [List.filter_cons, if_neg (by
    simp only [hy, aboveL]
    rw [show ((1 : Int)).toNat = 1 from rfl, h1]
    decide)]
  rfl
theorem w21h {low : List Nat} (h : low.getD 1 0 = 1) : putE 2 [] low w21 = 14 := by
  unfold putE
  rw [if_neg (by decide), if_pos (by rw [show (w21.1.1).toNat = 1 from rfl, h]; decide)]
theorem w21i : stK [] [((1, 1) : Id)] ((1, 1) : Id) = 3 := by decide
theorem vsnew_two {w : World} {e : Ending} {w' : World} (h : VNewR 2 w e w') : ∃ p, e = .returned (.tuple #[vsP p, .int .i64 0]) ∧ St (snap w) [VsA p 2 [] [] z8] w' ∧ Env w w' := by
  rcases h with ⟨_, _, p, h1, h2, h3⟩ | ⟨h1, _⟩
  · exact ⟨p, h1, h2, h3⟩
  · omega
theorem vput_bad {H : Hp} {p : Nat} {room : Int} {K : List Kp} {M : List Id} {low : List Nat} {fr : List HA} {x : Rp} {w w' : World} {e : Ending} {E : Int} (h : VPut H p room K M low fr x w e w') (hE : putE room K low x = E) (hn : E ≠ 0) : e = .returned (.int .i64 E) ∧ Env w w' ∧ ∃ H', Hp.le H H' ∧ St H' (VsA p room K M low :: fr) w' := by
  obtain ⟨h1, h2, H', h3, h4⟩ := h
  rw [hE] at h1 h4
  rcases h4 with ⟨_, h5⟩ | ⟨h5, _⟩
  · exact ⟨h1, h2, H', h3, h5⟩
  · exact absurd h5 hn
theorem vput_ok {H : Hp} {p : Nat} {room : Int} {K : List Kp} {M : List Id} {low : List Nat} {fr : List HA} {x : Rp} {w w' : World} {e : Ending} (h : VPut H p room K M low fr x w e w') (hE : putE room K low x = 0) : e = .returned (.int .i64 0) ∧ Env w w' ∧ ∃ H' y, Hp.le H H' ∧ RcD H' y ∧ rp y = x ∧ St H' (VsA p room (K ++ [(y, false)]) M low :: fr) w' := by
  obtain ⟨h1, h2, H', h3, h4⟩ := h
  rw [hE] at h1 h4
  rcases h4 with ⟨h5, _⟩ | ⟨_, y, h6, h7, h8⟩
  · exact absurd rfl h5
  · exact ⟨h1, h2, H', y, h3, h6, h7, h8⟩
set_option maxRecDepth 100000 in
set_option maxHeartbeats 3200000 in
theorem works21 (w : World) : Calls Try.prog 39 #[] w fun e w' => e = .returned (.bool true) ∧ Below w.heap.size w w' := by
  go_enter Try.func39, Try.ntmps39
  go_wp2_with fail
  refine (vsNew_any 2 w).mono ?_
  rintro e w1 he
  obtain ⟨p, rfl, h1, en1⟩ := vsnew_two he
  clear he
  obtain ⟨H2, l2, h2, a⟩ := St.rcBox h1 ((1, 1), 1, .slice none 0 0, .slice none 0 0, [], [])
  have en2 := en1.alloc (.cells (rcA ((1, 1), 1, .slice none 0 0, .slice none 0 0, [], [])) 32)
  clear h1 en1
  change Env w (w1.alloc (.cells #[.int .i64 1, .int .i64 1, .int .i64 1, .slice none 0 0, .slice none 0 0] 32)) at en2
  change St H2 _ (w1.alloc (.cells #[.int .i64 1, .int .i64 1, .int .i64 1, .slice none 0 0, .slice none 0 0] 32)) at h2
  have hxd : ∀ H', RcD H' ((1, 1), 1, .slice none 0 0, .slice none 0 0, [], []) := fun H' => ⟨Rd.nil _ _, Rd.nil _ _, fun c hc => by simp at hc⟩
  have kA : ∀ (H' : Hp) (l : List HA) (w' : World), Hp.le H2 H' → St H' l w' → (w'.cell? ⟨w1.heap.size, 0, none⟩ = some (.int .i64 1) ∧ w'.cell? ⟨w1.heap.size, 1, none⟩ = some (.int .i64 1) ∧ w'.cell? ⟨w1.heap.size, 2, none⟩ = some (.int .i64 1) ∧ w'.cell? ⟨w1.heap.size, 3, none⟩ = some (.slice none 0 0) ∧ w'.cell? ⟨w1.heap.size, 4, none⟩ = some (.slice none 0 0) ∧ w1.heap.size < w'.heap.size) := fun H' l w' hl h => ⟨h.cell (a.mono hl).1, h.cell (a.mono hl).2.1, h.cell (a.mono hl).2.2.1, h.cell (a.mono hl).2.2.2.1, h.cell (a.mono hl).2.2.2.2, World.block_lt_of_cell? _ _ (h.cell (a.mono hl).1)⟩
  replace hxd := Lib.hid hxd
  replace kA := Lib.hid kA
  have hP1 := Lib.hid (vsPut_any p 2 [] [] z8 rfl _ H2 [] _ h2 ⟨by simp, by simp, by simp⟩ (hxd.out H2))
  obtain ⟨q0, q1, q2, q3, q4, ql⟩ := kA.out _ _ _ (Hp.le_refl _) h2
  go_wp2_with fail
  generalize w1.heap.size = gb at *
  refine hP1.out.mono ?_
  rintro e w3 he
  obtain ⟨rfl, en3, H3, y, l3, hyd, hyr, h3⟩ := vput_ok he w21a
  clear he hP1
  clear q0 q1 q2 q3 q4 ql
  replace en3 := en2.trans en3
  have hok3 : KpOk H3 ([] ++ [(y, false)]) := ⟨by simpa using hyd, by
    have e1 : y.2.2.2.2.1 = [] := congrArg (fun z : Rp => z.2.2.1) hyr
    have e2 : y.2.2.2.2.2 = [] := congrArg (fun z : Rp => z.2.2.2) hyr
    simp [e1, e2], by simp⟩
  have hP2 := Lib.hid (vsPut_any p 2 ([] ++ [(y, false)]) [] z8 rfl _ H3 [] _ h3 hok3 (hxd.out H3))
  replace hyr := Lib.hid hyr
  obtain ⟨q0, q1, q2, q3, q4, ql⟩ := kA.out _ _ _ (l3) h3
  go_wp2_with fail
  refine hP2.out.mono ?_
  rintro e w4 he
  obtain ⟨rfl, en4, H4, l4, h4⟩ := vput_bad he (w21b hyr.out) (by decide)
  clear he hP2
  clear q0 q1 q2 q3 q4 ql
  replace en4 := en3.trans en4
  have hDn := Lib.hid (vsDone_yes p 2 ([] ++ [(y, false)]) [] z8 ((1, 1) : Id) H4 [] _ h4 (hok3.mono l4) (w21c hyr.out))
  obtain ⟨q0, q1, q2, q3, q4, ql⟩ := kA.out _ _ _ (Hp.le_trans l3 l4) h4
  go_wp2_with fail
  refine hDn.out.mono ?_
  rw [w21e]
  rintro e w5 ⟨rfl, h5, en5⟩
  replace h5 : St H4 (VsA p 2 (doneK ((1, 1) : Id) [(y, false)]) (markL ((1, 1) : Id) []) z8 :: []) w5 := h5
  rw [w21d hyr.out, w21f] at h5
  clear hDn
  clear q0 q1 q2 q3 q4 ql
  replace en5 := en4.trans en5
  have hid : ∀ x ∈ [((y, true) : Kp)], idOk x.1.1 = true := by
    intro x hx
    rw [List.mem_singleton] at hx
    subst hx
    have : y.1 = ((1, 1) : Id) := rp_id hyr.out
    simp only [this]
    decide
  have hCm := Lib.hid (vsCompact_any p 2 [(y, true)] [((1, 1) : Id)] z8 rfl H4 [] w5 h5 (by simp) hid)
  replace hid := Lib.hid hid
  go_wp2_with fail
  refine hCm.out.mono ?_
  rintro e w6 ⟨low, hlow, hfl, rfl, h6, en6⟩
  obtain ⟨hk, hl1⟩ := w21g (b := true) hyr.out hfl
  rw [hk] at h6 ⊢
  clear hfl hCm
  replace en6 := en5.trans en6
  have hP3 := Lib.hid (vsPut_any p 2 [] [((1, 1) : Id)] low hlow _ H4 [] _ h6 ⟨by simp, by simp, by simp⟩ (hxd.out H4))
  replace hl1 := Lib.hid hl1
  obtain ⟨q0, q1, q2, q3, q4, ql⟩ := kA.out _ _ _ (Hp.le_trans l3 l4) h6
  go_wp2_with fail
  refine hP3.out.mono ?_
  rintro e w7 he
  obtain ⟨rfl, en7, H7, l7, h7⟩ := vput_bad he (w21h hl1.out) (by decide)
  clear he hP3
  clear q0 q1 q2 q3 q4 ql
  replace en7 := en6.trans en7
  have hFr := Lib.hid (vsFree_any p 2 (by decide) [] (by simp) [((1, 1) : Id)] low H7 [] w7 h7)
  go_wp2_with fail
  refine hFr.out.mono ?_
  rintro e w8 ⟨rfl, hb8⟩
  have h8 := h7.below hb8
  have en8 := en7.trans (bel_env hb8)
  clear hFr h7
  have hSt := Lib.hid (vsStatus_any p 2 [] [((1, 1) : Id)] low ((1, 1) : Id) H7 [] w8 h8 ⟨by simp, by simp, by simp⟩)
  obtain ⟨q0, q1, q2, q3, q4, ql⟩ := kA.out _ _ _ (Hp.le_trans l3 (Hp.le_trans l4 l7)) h8
  go_wp2_with fail
  refine hSt.out.mono ?_
  rintro e w9 ⟨rfl, hb9⟩
  rw [w21i]
  have h9 := h8.below hb9
  have en9 := en8.trans (bel_env hb9)
  clear q0 q1 q2 q3 q4 ql
  have hz := (h9.weaken (Hp.le_trans l2 (Hp.le_trans l3 (Hp.le_trans l4 l7)))).drop.toBelow en9
  go_wp2_with fail
  go_ret
  exact ⟨rfl, hz⟩
end Go.Proofs.Ytelmhcbdpimaaaa
