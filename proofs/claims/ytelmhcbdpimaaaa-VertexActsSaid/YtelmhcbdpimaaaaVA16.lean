/- Joined texts: Model21, Prem2. -/
import Derived.Test.YtelmhcbdpimaaaaVA7
import Derived.Test.YtelmhcbdpimaaaaVA12
import Derived.Test.YtelmhcbdpimaaaaVA15
/- Law 21's model: floor, status. -/
set_option linter.unusedVariables false
set_option linter.unusedSimpArgs false
namespace Go.Proofs.Ytelmhcbdpimaaaa
open Go.RowKit Go.Cw Go.Fl
attribute [local go_sem ↓] eql_id neq_id
/-- The cells of a model. -/
def mdC (room : Int) (lv dv : Value) (low : List Nat) : Array Value := (Value.int .i64 room :: lv :: dv :: low.map (fun (n : Nat) => Value.int .i64 (n : Int))).toArray
theorem mdC_low (room : Int) (lv dv : Value) (low : List Nat) (r : Nat) (hr : r < low.length) : (mdC room lv dv low)[3 + r]? = some (.int .i64 ((low.getD r 0 : Nat) : Int)) := by
  unfold mdC
  rw [show 3 + r = r + 1 + 1 + 1 by omega]
  simp [List.getElem?_map, hr]
theorem mdC_set (room : Int) (lv dv : Value) (low : List Nat) (r n : Nat) (hr : r < low.length) : (mdC room lv dv low).setIfInBounds (3 + r) (.int .i64 (n : Int)) = mdC room lv dv (low.set r n) := by
  unfold mdC
  rw [show 3 + r = r + 1 + 1 + 1 by omega]
  simp [List.map_set]
/-- A model at p. -/
def MdA (p : Nat) (room : Int) (L : List Rc) (D : List Id) (low : List Nat) : HA := Ex fun lv => Ex fun dv => Star (Blk p (mdC room lv dv low) 81) (Star (Row 32 5 lv (recs L)) (Row 28 2 dv (idl D)))
theorem mdOpen {H : Hp} {fr : List HA} {w : World} {p : Nat} {room : Int} {L : List Rc} {D : List Id} {low : List Nat} (h : St H (MdA p room L D low :: fr) w) :
    ∃ lv dv, St H (Blk p (mdC room lv dv low) 81 :: Row 32 5 lv (recs L) :: Row 28 2 dv (idl D) :: fr) w := by
  obtain ⟨lv, h1⟩ := h.openEx
  obtain ⟨dv, h2⟩ := h1.openEx
  exact ⟨lv, dv, h2.openStar.swap.openStar.perm (by
    refine (List.Perm.cons _ (List.Perm.swap _ _ _)).trans ?_
    exact List.Perm.swap _ _ _)⟩
theorem mdShut {H : Hp} {fr : List HA} {w : World} {p : Nat} {lv dv : Value} {room : Int} {L : List Rc} {D : List Id} {low : List Nat} (h : St H (Blk p (mdC room lv dv low) 81 :: Row 32 5 lv (recs L) :: Row 28 2 dv (idl D) :: fr) w) : St H (MdA p room L D low :: fr) w := by
  have h1 := h.perm (l' := Row 32 5 lv (recs L) :: Row 28 2 dv (idl D) :: Blk p (mdC room lv dv low) 81 :: fr) (by
    refine (List.Perm.swap _ _ _).trans ?_
    exact List.Perm.cons _ (List.Perm.swap _ _ _))
  exact St.shutEx lv (St.shutEx dv (h1.shutStar.swap.shutStar))
abbrev mdP (p : Nat) : Value := .pointer (some ⟨p, 0, none⟩)
theorem run_slots (r : Int) (D : List Id) (n : Nat) (h : ∀ m : Nat, 1 ≤ m → m ≤ n → (r, (m : Int)) ∈ D) : n ≤ D.length := by
  have h1 := sub_len21 ((List.range n).map (fun i => ((r, ((i + 1 : Nat) : Int)) : Id))) D (by
    rw [List.nodup_iff_pairwise_ne, List.pairwise_map]
    refine List.nodup_range.imp (fun {a b} hab e => hab ?_)
    have := (Prod.ext_iff.1 e).2
    simp only at this
    omega) (fun a ha => by
    obtain ⟨i, hi, rfl⟩ := List.mem_map.1 ha
    exact h (i + 1) (by omega) (by have := List.mem_range.1 hi; omega))
  simpa using h1
set_option maxRecDepth 100000 in
set_option maxHeartbeats 3200000 in
theorem mdFloor_any (p : Nat) (room : Int) (L : List Rc) (D : List Id) (low : List Nat) (r : Int) (H : Hp) (fr : List HA) (w : World) (h : St H (MdA p room L D low :: fr) w) (hD : D.length ≤ 1000) :
    Calls Try.prog 54 #[mdP p, .int .i64 r] w fun e w' => ∃ n : Nat, e = .returned (.int .i64 (n : Int)) ∧ Below w.heap.size w w' ∧ FlP D r n := by
  obtain ⟨lv, dv, h1⟩ := mdOpen h
  have hHas := fun (w' : World) (a : Id) (hb : Below w.heap.size w w') => hasIds_any dv D a w' (((h1.pick 2 (by simp)).row_rw (by decide)).below hb)
  have kc : ∀ w', Below w.heap.size w w' → w'.cell? ⟨p, 2, none⟩ = some dv ∧ p < w'.heap.size := fun w' hb => ⟨(h1.below hb).blk_cell 2, (h1.below hb).blk_lt⟩
  replace kc := Lib.hid kc
  replace hHas := Lib.hid hHas
  go_enter Try.func54, Try.ntmps54
  go_wp2_with fail
  go_loopw [5] (fun iv wr => ∃ n : Nat, iv = .int .i64 (n : Int) ∧ Below w.heap.size w wr ∧ Hid (∀ m : Nat, 1 ≤ m → m ≤ n → (r, (m : Int)) ∈ D)) (fun i _ => D.length - (intOf i).toNat)
  case atStart => exact ⟨0, by go_num, Below.refl _ _, Lib.hid (fun m h1 h2 => by omega)⟩
  case round =>
    obtain ⟨n, rfl, hb, HN⟩ := hrel
    obtain ⟨c2, cl⟩ := kc.out wr hb
    have hn : n ≤ D.length := run_slots r D n HN.out
    have hw : IntKind.i64.wrap ((n : Int) + 1) = (n : Int) + 1 := by rw [IntKind.wrap_i64]; omega
    have hH := hHas.out wr (r, (n : Int) + 1) hb
    clear h h1
    by_cases hm : ((r, (n : Int) + 1) : Id) ∈ D
    · rw [decide_eq_true hm] at hH
      have HN' : Hid (∀ m : Nat, 1 ≤ m → m ≤ n + 1 → (r, (m : Int)) ∈ D) := Lib.hid (fun m h1 h2 => by
        by_cases hmn : m ≤ n
        · exact HN.out m h1 hmn
        · obtain rfl : m = n + 1 := by omega
          simpa using hm)
      have hn1 : n + 1 ≤ D.length := run_slots r D (n + 1) HN'.out
      replace hH := Lib.hid hH
      clear hm HN
      go_wp2_with fail
      refine hH.out.mono ?_
      rintro e w2 ⟨rfl, hb2⟩
      have hb3 := hb.trans (hb2.mono hb.size)
      go_wp2_with fail
      go_roundw
      case rel => exact ⟨n + 1, by go_num, hb3, HN'⟩
      case measure => simp [intOf]; omega
    · rw [decide_eq_false hm] at hH
      have hfl : Hid (FlP D r n) := Lib.hid ⟨HN.out, by simpa using hm⟩
      replace hH := Lib.hid hH
      clear hm HN
      go_wp2_with fail
      refine hH.out.mono ?_
      rintro e w2 ⟨rfl, hb2⟩
      have hb3 := hb.trans (hb2.mono hb.size)
      go_wp2_with fail
      go_ret
      exact ⟨n, rfl, hb3, hfl.out⟩
/-- What an id's status is. -/
def stM (L : List Rc) (D : List Id) (a : Id) : Int := if a ∈ rids L then (if a ∈ D then 2 else 1) else if a ∈ D then 3 else 0
set_option maxRecDepth 100000 in
set_option maxHeartbeats 3200000 in
theorem mdStatus_any (p : Nat) (room : Int) (L : List Rc) (D : List Id) (low : List Nat) (a : Id) (H : Hp) (fr : List HA) (w : World) (h : St H (MdA p room L D low :: fr) w) :
    Calls Try.prog 49 #[mdP p, idV a] w fun e w' => e = .returned (.int .i64 (stM L D a)) ∧ Below w.heap.size w w' := by
  obtain ⟨R, hR⟩ : ∃ R, Hid (stM L D a = R) := ⟨_, Lib.hid rfl⟩
  rw [hR.out]
  have hR2 := hR.out
  unfold stM at hR2
  obtain ⟨lv, dv, h1⟩ := mdOpen h
  obtain ⟨H1, l1, h2, y⟩ := h1.box #[.int .i64 a.1, .int .i64 a.2] 28
  have bel := boxBelow w (.cells #[.int .i64 a.1, .int .i64 a.2] 28)
  have hFind := fun (w' : World) (h' : St H1 (Blk p (mdC room lv dv low) 81 :: Row 32 5 lv (recs L) :: Row 28 2 dv (idl D) :: fr) w') => find_any lv L a w' (h'.swap.row_rw (by decide))
  have hHas := fun (w' : World) (h' : St H1 (Blk p (mdC room lv dv low) 81 :: Row 32 5 lv (recs L) :: Row 28 2 dv (idl D) :: fr) w') => hasIds_any dv D a w' ((h'.pick 2 (by simp)).row_rw (by decide))
  obtain ⟨r, s⟩ := a
  have y0 := y 0 _ rfl
  have y1 := y 1 _ rfl
  clear y h h1 hR
  have kk : ∀ w', St H1 (Blk p (mdC room lv dv low) 81 :: Row 32 5 lv (recs L) :: Row 28 2 dv (idl D) :: fr) w' → (fun w' : World => w'.cell? ⟨p, 1, none⟩ = some lv ∧ w'.cell? ⟨p, 2, none⟩ = some dv ∧ w'.cell? ⟨w.heap.size, 0, none⟩ = some (.int .i64 r) ∧ w'.cell? ⟨w.heap.size, 1, none⟩ = some (.int .i64 s)) w' := fun w' h' => ⟨h'.blk_cell 1, h'.blk_cell 2, h'.cell y0, h'.cell y1⟩
  have hD := h2.drew
  have cl := h2.blk_lt
  have yl := World.block_lt_of_cell? _ _ (h2.cell y0)
  obtain ⟨F, hF⟩ : ∃ F, findAt (r, s) (rids L) 0 = F := ⟨_, rfl⟩
  have hFp := findAt_pos (r, s) (rids L) 0 (by omega)
  rw [hF] at hFp hFind
  replace hFind := Lib.hid hFind
  go_enter Try.func49, Try.ntmps49
  go_wp2_with fail
  generalize w.alloc (.cells #[.int .i64 r, .int .i64 s] 28) = W1 at *
  refine wp_region_held_drew (S := fun w' : World => w'.cell? ⟨p, 1, none⟩ = some lv ∧ w'.cell? ⟨p, 2, none⟩ = some dv ∧ w'.cell? ⟨w.heap.size, 0, none⟩ = some (.int .i64 r) ∧ w'.cell? ⟨w.heap.size, 1, none⟩ = some (.int .i64 s)) (by kernel_rfl) (kk _ hD) (fun hHeld => ?_)
  refine wpAnyH_take (i := 0) (oi := { dst := some 5, op := Go.Op.move (Go.Operand.tmp 0), type := 78, pos := "law.go:64", after := #[], guard := none }) (v := ?_) rfl (by kernel_rfl) (by kernel_rfl) (by kernel_rfl) (fun _ _ _ h => h) (Or.inl ⟨by rfl, ?_⟩) (by assumption) ?_
  rotate_left
  · (intro w hSw; (try dsimp only at hSw); go_simp; (try (with_reducible rfl)))
  try simp only [Act.put, List.setIfInBounds_toArray, List.set_cons_zero, List.set_cons_succ]
  refine wpAnyH_take (i := 1) (oi := { dst := some 6, op := Go.Op.nilCheck (Go.Operand.tmp 5), type := 0, pos := "law.go:64", after := #[{ on := 0, ground := Go.Ground.data }], guard := none }) (v := ?_) rfl (by kernel_rfl) (by kernel_rfl) (by kernel_rfl) (fun _ _ _ h => h) (Or.inl ⟨by rfl, ?_⟩) (by assumption) ?_
  rotate_left
  · (intro w hSw; (try dsimp only at hSw); go_simp; (try (with_reducible rfl)))
  try simp only [Act.put, List.setIfInBounds_toArray, List.set_cons_zero, List.set_cons_succ]
  refine wpAnyH_take (i := 2) (oi := { dst := some 7, op := Go.Op.fieldAddr 81 (Go.Operand.tmp 6) 1, type := 0, pos := "law.go:64", after := #[{ on := 1, ground := Go.Ground.data }], guard := none }) (v := ?_) rfl (by kernel_rfl) (by kernel_rfl) (by kernel_rfl) (fun _ _ _ h => h) (Or.inl ⟨by rfl, ?_⟩) (by assumption) ?_
  rotate_left
  · (intro w hSw; (try dsimp only at hSw); go_simp; (try (with_reducible rfl)))
  try simp only [Act.put, List.setIfInBounds_toArray, List.set_cons_zero, List.set_cons_succ]
  refine wpAnyH_take (i := 3) (oi := { dst := some 8, op := Go.Op.load 22 (Go.Operand.tmp 7), type := 22, pos := "law.go:64", after := #[{ on := 2, ground := Go.Ground.data }], guard := none }) (v := ?_) rfl (by kernel_rfl) (by kernel_rfl) (by kernel_rfl) (fun _ _ _ h => h) (Or.inl ⟨by rfl, ?_⟩) (by assumption) ?_
  rotate_left
  · (intro w hSw; (try dsimp only at hSw); go_simp; (try (with_reducible rfl)))
  try simp only [Act.put, List.setIfInBounds_toArray, List.set_cons_zero, List.set_cons_succ]
  refine wpAnyH_take (i := 4) (oi := { dst := some 9, op := Go.Op.load 28 (Go.Operand.tmp 3), type := 28, pos := "law.go:64", after := #[], guard := none }) (v := ?_) rfl (by kernel_rfl) (by kernel_rfl) (by kernel_rfl) (fun _ _ _ h => h) (Or.inl ⟨by rfl, ?_⟩) (by assumption) ?_
  rotate_left
  · (intro w hSw; (try dsimp only at hSw); go_simp; (try (with_reducible rfl)))
  try simp only [Act.put, List.setIfInBounds_toArray, List.set_cons_zero, List.set_cons_succ]
  refine wpAnyH_ready (rs := [5]) (by kernel_rfl) (by simp) ?_
  refine AllReadyH.cons (o := { dst := some 10, op := Go.Op.call { callee := Go.Callee.value (Go.Operand.func 24), args := #[Go.Operand.tmp 8, Go.Operand.tmp 9], argTypes := #[22, 28] }, type := 3, pos := "law.go:64", after := #[{ on := 3, ground := Go.Ground.data }, { on := 4, ground := Go.Ground.data }], guard := none }) rfl (fun K hK => ?_) AllReadyH.nil
  go_simp
  refine (hFind.out _ hD).mono ?_
  rintro e w2 ⟨rfl, hb2⟩
  have h3 := hD.below hb2
  refine hK.out _ _ (kk _ h3) (fun hHeld2 => ?_)
  clear hK K hHeld
  try simp only [Act.put, List.setIfInBounds_toArray, List.set_cons_zero, List.set_cons_succ]
  refine wpAnyH_take (i := 6) (oi := { dst := some 11, op := Go.Op.binOp Go.BinOp.geq 3 (Go.Operand.tmp 10) (Go.Operand.const (Go.Value.int Go.IntKind.i64 0)) 3, type := 4, pos := "law.go:64", after := #[{ on := 5, ground := Go.Ground.data }], guard := none }) (v := ?_) rfl (by kernel_rfl) (by kernel_rfl) (by kernel_rfl) (fun _ _ _ h => h) (Or.inl ⟨by rfl, ?_⟩) (by assumption) ?_
  rotate_left
  · (intro w hSw; (try dsimp only at hSw); go_simp; (try (with_reducible rfl)))
  try simp only [Act.put, List.setIfInBounds_toArray, List.set_cons_zero, List.set_cons_succ]
  refine wpAnyH_done (by kernel_rfl) ?_ _
  have bel3 := bel.drew.trans (hb2.mono bel.drew.size)
  clear hHeld2 hD h2 hFind
  have hE := h3.drew
  have cl3 := h3.blk_lt
  have yl3 := World.block_lt_of_cell? _ _ (h3.cell y0)
  by_cases hin : ((r, s) : Id) ∈ rids L
  · rw [if_pos hin] at hR2
    have hF0 : 0 ≤ F := hFp.2 hin
    have hF0' : decide (0 ≤ F) = true := decide_eq_true hF0
    by_cases hm : ((r, s) : Id) ∈ D
    · rw [if_pos hm] at hR2
      rw [decide_eq_true hm] at hHas
      replace hHas := Lib.hid hHas
      replace hR2 := Lib.hid hR2
      clear hm hin hFp
      go_wp2_with fail
      refine wp_region_held_drew (S := fun w' : World => w'.cell? ⟨p, 1, none⟩ = some lv ∧ w'.cell? ⟨p, 2, none⟩ = some dv ∧ w'.cell? ⟨w.heap.size, 0, none⟩ = some (.int .i64 r) ∧ w'.cell? ⟨w.heap.size, 1, none⟩ = some (.int .i64 s)) (by kernel_rfl) (kk _ hE) (fun hHeld => ?_)
      refine wpAnyH_take (i := 0) (oi := { dst := some 12, op := Go.Op.move (Go.Operand.tmp 0), type := 78, pos := "law.go:65", after := #[], guard := none }) (v := ?_) rfl (by kernel_rfl) (by kernel_rfl) (by kernel_rfl) (fun _ _ _ h => h) (Or.inl ⟨by rfl, ?_⟩) (by assumption) ?_
      rotate_left
      · (intro w hSw; (try dsimp only at hSw); go_simp; (try (with_reducible rfl)))
      try simp only [Act.put, List.setIfInBounds_toArray, List.set_cons_zero, List.set_cons_succ]
      refine wpAnyH_take (i := 1) (oi := { dst := some 13, op := Go.Op.nilCheck (Go.Operand.tmp 12), type := 0, pos := "law.go:65", after := #[{ on := 0, ground := Go.Ground.data }], guard := none }) (v := ?_) rfl (by kernel_rfl) (by kernel_rfl) (by kernel_rfl) (fun _ _ _ h => h) (Or.inl ⟨by rfl, ?_⟩) (by assumption) ?_
      rotate_left
      · (intro w hSw; (try dsimp only at hSw); go_simp; (try (with_reducible rfl)))
      try simp only [Act.put, List.setIfInBounds_toArray, List.set_cons_zero, List.set_cons_succ]
      refine wpAnyH_take (i := 2) (oi := { dst := some 14, op := Go.Op.fieldAddr 81 (Go.Operand.tmp 13) 2, type := 0, pos := "law.go:65", after := #[{ on := 1, ground := Go.Ground.data }], guard := none }) (v := ?_) rfl (by kernel_rfl) (by kernel_rfl) (by kernel_rfl) (fun _ _ _ h => h) (Or.inl ⟨by rfl, ?_⟩) (by assumption) ?_
      rotate_left
      · (intro w hSw; (try dsimp only at hSw); go_simp; (try (with_reducible rfl)))
      try simp only [Act.put, List.setIfInBounds_toArray, List.set_cons_zero, List.set_cons_succ]
      refine wpAnyH_take (i := 3) (oi := { dst := some 15, op := Go.Op.load 29 (Go.Operand.tmp 14), type := 29, pos := "law.go:65", after := #[{ on := 2, ground := Go.Ground.data }], guard := none }) (v := ?_) rfl (by kernel_rfl) (by kernel_rfl) (by kernel_rfl) (fun _ _ _ h => h) (Or.inl ⟨by rfl, ?_⟩) (by assumption) ?_
      rotate_left
      · (intro w hSw; (try dsimp only at hSw); go_simp; (try (with_reducible rfl)))
      try simp only [Act.put, List.setIfInBounds_toArray, List.set_cons_zero, List.set_cons_succ]
      refine wpAnyH_take (i := 4) (oi := { dst := some 16, op := Go.Op.load 28 (Go.Operand.tmp 3), type := 28, pos := "law.go:65", after := #[], guard := none }) (v := ?_) rfl (by kernel_rfl) (by kernel_rfl) (by kernel_rfl) (fun _ _ _ h => h) (Or.inl ⟨by rfl, ?_⟩) (by assumption) ?_
      rotate_left
      · (intro w hSw; (try dsimp only at hSw); go_simp; (try (with_reducible rfl)))
      try simp only [Act.put, List.setIfInBounds_toArray, List.set_cons_zero, List.set_cons_succ]
      refine wpAnyH_ready (rs := [5]) (by kernel_rfl) (by simp) ?_
      refine AllReadyH.cons (o := { dst := some 17, op := Go.Op.call { callee := Go.Callee.value (Go.Operand.func 34), args := #[Go.Operand.tmp 15, Go.Operand.tmp 16], argTypes := #[29, 28] }, type := 4, pos := "law.go:65", after := #[{ on := 3, ground := Go.Ground.data }, { on := 4, ground := Go.Ground.data }], guard := none }) rfl (fun K hK => ?_) AllReadyH.nil
      go_simp
      refine (hHas.out _ hE).mono ?_
      rintro e w4 ⟨rfl, hb4⟩
      refine hK.out _ _ (kk _ (hE.below hb4)) (fun hHeld2 => ?_)
      clear hK K hHeld
      try simp only [Act.put, List.setIfInBounds_toArray, List.set_cons_zero, List.set_cons_succ]
      refine wpAnyH_done (by kernel_rfl) ?_ _
      have hz := bel3.drew.trans (hb4.mono bel3.drew.size)
      go_wp2_with fail
      go_ret
      exact ⟨ri hR2.out, hz⟩
    · rw [if_neg hm] at hR2
      rw [decide_eq_false hm] at hHas
      replace hHas := Lib.hid hHas
      replace hR2 := Lib.hid hR2
      clear hm hin hFp
      go_wp2_with fail
      refine wp_region_held_drew (S := fun w' : World => w'.cell? ⟨p, 1, none⟩ = some lv ∧ w'.cell? ⟨p, 2, none⟩ = some dv ∧ w'.cell? ⟨w.heap.size, 0, none⟩ = some (.int .i64 r) ∧ w'.cell? ⟨w.heap.size, 1, none⟩ = some (.int .i64 s)) (by kernel_rfl) (kk _ hE) (fun hHeld => ?_)
      refine wpAnyH_take (i := 0) (oi := { dst := some 12, op := Go.Op.move (Go.Operand.tmp 0), type := 78, pos := "law.go:65", after := #[], guard := none }) (v := ?_) rfl (by kernel_rfl) (by kernel_rfl) (by kernel_rfl) (fun _ _ _ h => h) (Or.inl ⟨by rfl, ?_⟩) (by assumption) ?_
      rotate_left
      · (intro w hSw; (try dsimp only at hSw); go_simp; (try (with_reducible rfl)))
      try simp only [Act.put, List.setIfInBounds_toArray, List.set_cons_zero, List.set_cons_succ]
      refine wpAnyH_take (i := 1) (oi := { dst := some 13, op := Go.Op.nilCheck (Go.Operand.tmp 12), type := 0, pos := "law.go:65", after := #[{ on := 0, ground := Go.Ground.data }], guard := none }) (v := ?_) rfl (by kernel_rfl) (by kernel_rfl) (by kernel_rfl) (fun _ _ _ h => h) (Or.inl ⟨by rfl, ?_⟩) (by assumption) ?_
      rotate_left
      · (intro w hSw; (try dsimp only at hSw); go_simp; (try (with_reducible rfl)))
      try simp only [Act.put, List.setIfInBounds_toArray, List.set_cons_zero, List.set_cons_succ]
      refine wpAnyH_take (i := 2) (oi := { dst := some 14, op := Go.Op.fieldAddr 81 (Go.Operand.tmp 13) 2, type := 0, pos := "law.go:65", after := #[{ on := 1, ground := Go.Ground.data }], guard := none }) (v := ?_) rfl (by kernel_rfl) (by kernel_rfl) (by kernel_rfl) (fun _ _ _ h => h) (Or.inl ⟨by rfl, ?_⟩) (by assumption) ?_
      rotate_left
      · (intro w hSw; (try dsimp only at hSw); go_simp; (try (with_reducible rfl)))
      try simp only [Act.put, List.setIfInBounds_toArray, List.set_cons_zero, List.set_cons_succ]
      refine wpAnyH_take (i := 3) (oi := { dst := some 15, op := Go.Op.load 29 (Go.Operand.tmp 14), type := 29, pos := "law.go:65", after := #[{ on := 2, ground := Go.Ground.data }], guard := none }) (v := ?_) rfl (by kernel_rfl) (by kernel_rfl) (by kernel_rfl) (fun _ _ _ h => h) (Or.inl ⟨by rfl, ?_⟩) (by assumption) ?_
      rotate_left
      · (intro w hSw; (try dsimp only at hSw); go_simp; (try (with_reducible rfl)))
      try simp only [Act.put, List.setIfInBounds_toArray, List.set_cons_zero, List.set_cons_succ]
      refine wpAnyH_take (i := 4) (oi := { dst := some 16, op := Go.Op.load 28 (Go.Operand.tmp 3), type := 28, pos := "law.go:65", after := #[], guard := none }) (v := ?_) rfl (by kernel_rfl) (by kernel_rfl) (by kernel_rfl) (fun _ _ _ h => h) (Or.inl ⟨by rfl, ?_⟩) (by assumption) ?_
      rotate_left
      · (intro w hSw; (try dsimp only at hSw); go_simp; (try (with_reducible rfl)))
      try simp only [Act.put, List.setIfInBounds_toArray, List.set_cons_zero, List.set_cons_succ]
      refine wpAnyH_ready (rs := [5]) (by kernel_rfl) (by simp) ?_
      refine AllReadyH.cons (o := { dst := some 17, op := Go.Op.call { callee := Go.Callee.value (Go.Operand.func 34), args := #[Go.Operand.tmp 15, Go.Operand.tmp 16], argTypes := #[29, 28] }, type := 4, pos := "law.go:65", after := #[{ on := 3, ground := Go.Ground.data }, { on := 4, ground := Go.Ground.data }], guard := none }) rfl (fun K hK => ?_) AllReadyH.nil
      go_simp
      refine (hHas.out _ hE).mono ?_
      rintro e w4 ⟨rfl, hb4⟩
      refine hK.out _ _ (kk _ (hE.below hb4)) (fun hHeld2 => ?_)
      clear hK K hHeld
      try simp only [Act.put, List.setIfInBounds_toArray, List.set_cons_zero, List.set_cons_succ]
      refine wpAnyH_done (by kernel_rfl) ?_ _
      have hz := bel3.drew.trans (hb4.mono bel3.drew.size)
      go_wp2_with fail
      go_ret
      exact ⟨ri hR2.out, hz⟩
  · rw [if_neg hin] at hR2
    have hF0 : ¬ 0 ≤ F := fun h => hin (hFp.1 h)
    have hF0' : decide (0 ≤ F) = false := decide_eq_false hF0
    by_cases hm : ((r, s) : Id) ∈ D
    · rw [if_pos hm] at hR2
      rw [decide_eq_true hm] at hHas
      replace hHas := Lib.hid hHas
      replace hR2 := Lib.hid hR2
      clear hm hin hFp
      go_wp2_with fail
      refine wp_region_held_drew (S := fun w' : World => w'.cell? ⟨p, 1, none⟩ = some lv ∧ w'.cell? ⟨p, 2, none⟩ = some dv ∧ w'.cell? ⟨w.heap.size, 0, none⟩ = some (.int .i64 r) ∧ w'.cell? ⟨w.heap.size, 1, none⟩ = some (.int .i64 s)) (by kernel_rfl) (kk _ hE) (fun hHeld => ?_)
      refine wpAnyH_take (i := 0) (oi := { dst := some 18, op := Go.Op.move (Go.Operand.tmp 0), type := 78, pos := "law.go:70", after := #[], guard := none }) (v := ?_) rfl (by kernel_rfl) (by kernel_rfl) (by kernel_rfl) (fun _ _ _ h => h) (Or.inl ⟨by rfl, ?_⟩) (by assumption) ?_
      rotate_left
      · (intro w hSw; (try dsimp only at hSw); go_simp; (try (with_reducible rfl)))
      try simp only [Act.put, List.setIfInBounds_toArray, List.set_cons_zero, List.set_cons_succ]
      refine wpAnyH_take (i := 1) (oi := { dst := some 19, op := Go.Op.nilCheck (Go.Operand.tmp 18), type := 0, pos := "law.go:70", after := #[{ on := 0, ground := Go.Ground.data }], guard := none }) (v := ?_) rfl (by kernel_rfl) (by kernel_rfl) (by kernel_rfl) (fun _ _ _ h => h) (Or.inl ⟨by rfl, ?_⟩) (by assumption) ?_
      rotate_left
      · (intro w hSw; (try dsimp only at hSw); go_simp; (try (with_reducible rfl)))
      try simp only [Act.put, List.setIfInBounds_toArray, List.set_cons_zero, List.set_cons_succ]
      refine wpAnyH_take (i := 2) (oi := { dst := some 20, op := Go.Op.fieldAddr 81 (Go.Operand.tmp 19) 2, type := 0, pos := "law.go:70", after := #[{ on := 1, ground := Go.Ground.data }], guard := none }) (v := ?_) rfl (by kernel_rfl) (by kernel_rfl) (by kernel_rfl) (fun _ _ _ h => h) (Or.inl ⟨by rfl, ?_⟩) (by assumption) ?_
      rotate_left
      · (intro w hSw; (try dsimp only at hSw); go_simp; (try (with_reducible rfl)))
      try simp only [Act.put, List.setIfInBounds_toArray, List.set_cons_zero, List.set_cons_succ]
      refine wpAnyH_take (i := 3) (oi := { dst := some 21, op := Go.Op.load 29 (Go.Operand.tmp 20), type := 29, pos := "law.go:70", after := #[{ on := 2, ground := Go.Ground.data }], guard := none }) (v := ?_) rfl (by kernel_rfl) (by kernel_rfl) (by kernel_rfl) (fun _ _ _ h => h) (Or.inl ⟨by rfl, ?_⟩) (by assumption) ?_
      rotate_left
      · (intro w hSw; (try dsimp only at hSw); go_simp; (try (with_reducible rfl)))
      try simp only [Act.put, List.setIfInBounds_toArray, List.set_cons_zero, List.set_cons_succ]
      refine wpAnyH_take (i := 4) (oi := { dst := some 22, op := Go.Op.load 28 (Go.Operand.tmp 3), type := 28, pos := "law.go:70", after := #[], guard := none }) (v := ?_) rfl (by kernel_rfl) (by kernel_rfl) (by kernel_rfl) (fun _ _ _ h => h) (Or.inl ⟨by rfl, ?_⟩) (by assumption) ?_
      rotate_left
      · (intro w hSw; (try dsimp only at hSw); go_simp; (try (with_reducible rfl)))
      try simp only [Act.put, List.setIfInBounds_toArray, List.set_cons_zero, List.set_cons_succ]
      refine wpAnyH_ready (rs := [5]) (by kernel_rfl) (by simp) ?_
      refine AllReadyH.cons (o := { dst := some 23, op := Go.Op.call { callee := Go.Callee.value (Go.Operand.func 34), args := #[Go.Operand.tmp 21, Go.Operand.tmp 22], argTypes := #[29, 28] }, type := 4, pos := "law.go:70", after := #[{ on := 3, ground := Go.Ground.data }, { on := 4, ground := Go.Ground.data }], guard := none }) rfl (fun K hK => ?_) AllReadyH.nil
      go_simp
      refine (hHas.out _ hE).mono ?_
      rintro e w4 ⟨rfl, hb4⟩
      refine hK.out _ _ (kk _ (hE.below hb4)) (fun hHeld2 => ?_)
      clear hK K hHeld
      try simp only [Act.put, List.setIfInBounds_toArray, List.set_cons_zero, List.set_cons_succ]
      refine wpAnyH_done (by kernel_rfl) ?_ _
      have hz := bel3.drew.trans (hb4.mono bel3.drew.size)
      go_wp2_with fail
      go_ret
      exact ⟨ri hR2.out, hz⟩
    · rw [if_neg hm] at hR2
      rw [decide_eq_false hm] at hHas
      replace hHas := Lib.hid hHas
      replace hR2 := Lib.hid hR2
      clear hm hin hFp
      go_wp2_with fail
      refine wp_region_held_drew (S := fun w' : World => w'.cell? ⟨p, 1, none⟩ = some lv ∧ w'.cell? ⟨p, 2, none⟩ = some dv ∧ w'.cell? ⟨w.heap.size, 0, none⟩ = some (.int .i64 r) ∧ w'.cell? ⟨w.heap.size, 1, none⟩ = some (.int .i64 s)) (by kernel_rfl) (kk _ hE) (fun hHeld => ?_)
      refine wpAnyH_take (i := 0) (oi := { dst := some 18, op := Go.Op.move (Go.Operand.tmp 0), type := 78, pos := "law.go:70", after := #[], guard := none }) (v := ?_) rfl (by kernel_rfl) (by kernel_rfl) (by kernel_rfl) (fun _ _ _ h => h) (Or.inl ⟨by rfl, ?_⟩) (by assumption) ?_
      rotate_left
      · (intro w hSw; (try dsimp only at hSw); go_simp; (try (with_reducible rfl)))
      try simp only [Act.put, List.setIfInBounds_toArray, List.set_cons_zero, List.set_cons_succ]
      refine wpAnyH_take (i := 1) (oi := { dst := some 19, op := Go.Op.nilCheck (Go.Operand.tmp 18), type := 0, pos := "law.go:70", after := #[{ on := 0, ground := Go.Ground.data }], guard := none }) (v := ?_) rfl (by kernel_rfl) (by kernel_rfl) (by kernel_rfl) (fun _ _ _ h => h) (Or.inl ⟨by rfl, ?_⟩) (by assumption) ?_
      rotate_left
      · (intro w hSw; (try dsimp only at hSw); go_simp; (try (with_reducible rfl)))
      try simp only [Act.put, List.setIfInBounds_toArray, List.set_cons_zero, List.set_cons_succ]
      refine wpAnyH_take (i := 2) (oi := { dst := some 20, op := Go.Op.fieldAddr 81 (Go.Operand.tmp 19) 2, type := 0, pos := "law.go:70", after := #[{ on := 1, ground := Go.Ground.data }], guard := none }) (v := ?_) rfl (by kernel_rfl) (by kernel_rfl) (by kernel_rfl) (fun _ _ _ h => h) (Or.inl ⟨by rfl, ?_⟩) (by assumption) ?_
      rotate_left
      · (intro w hSw; (try dsimp only at hSw); go_simp; (try (with_reducible rfl)))
      try simp only [Act.put, List.setIfInBounds_toArray, List.set_cons_zero, List.set_cons_succ]
      refine wpAnyH_take (i := 3) (oi := { dst := some 21, op := Go.Op.load 29 (Go.Operand.tmp 20), type := 29, pos := "law.go:70", after := #[{ on := 2, ground := Go.Ground.data }], guard := none }) (v := ?_) rfl (by kernel_rfl) (by kernel_rfl) (by kernel_rfl) (fun _ _ _ h => h) (Or.inl ⟨by rfl, ?_⟩) (by assumption) ?_
      rotate_left
      · (intro w hSw; (try dsimp only at hSw); go_simp; (try (with_reducible rfl)))
      try simp only [Act.put, List.setIfInBounds_toArray, List.set_cons_zero, List.set_cons_succ]
      refine wpAnyH_take (i := 4) (oi := { dst := some 22, op := Go.Op.load 28 (Go.Operand.tmp 3), type := 28, pos := "law.go:70", after := #[], guard := none }) (v := ?_) rfl (by kernel_rfl) (by kernel_rfl) (by kernel_rfl) (fun _ _ _ h => h) (Or.inl ⟨by rfl, ?_⟩) (by assumption) ?_
      rotate_left
      · (intro w hSw; (try dsimp only at hSw); go_simp; (try (with_reducible rfl)))
      try simp only [Act.put, List.setIfInBounds_toArray, List.set_cons_zero, List.set_cons_succ]
      refine wpAnyH_ready (rs := [5]) (by kernel_rfl) (by simp) ?_
      refine AllReadyH.cons (o := { dst := some 23, op := Go.Op.call { callee := Go.Callee.value (Go.Operand.func 34), args := #[Go.Operand.tmp 21, Go.Operand.tmp 22], argTypes := #[29, 28] }, type := 4, pos := "law.go:70", after := #[{ on := 3, ground := Go.Ground.data }, { on := 4, ground := Go.Ground.data }], guard := none }) rfl (fun K hK => ?_) AllReadyH.nil
      go_simp
      refine (hHas.out _ hE).mono ?_
      rintro e w4 ⟨rfl, hb4⟩
      refine hK.out _ _ (kk _ (hE.below hb4)) (fun hHeld2 => ?_)
      clear hK K hHeld
      try simp only [Act.put, List.setIfInBounds_toArray, List.set_cons_zero, List.set_cons_succ]
      refine wpAnyH_done (by kernel_rfl) ?_ _
      have hz := bel3.drew.trans (hb4.mono bel3.drew.size)
      go_wp2_with fail
      go_ret
      exact ⟨ri hR2.out, hz⟩
end Go.Proofs.Ytelmhcbdpimaaaa

/- The premise: Edge. -/
set_option linter.unusedVariables false
set_option linter.unusedSimpArgs false
namespace Go.Proofs.Ytelmhcbdpimaaaa
open Go.RowKit Go.Cw Go.Fl
attribute [local go_sem ↓] eql_id neq_id
/-- What a call that keeps a graph leaves. -/
def GKeep (H : Hp) (p : Nat) (L : List Rc) (fr : List HA) (w : World) (v : Value) (e : Ending) (w' : World) : Prop :=
  ∃ H', Hp.le H H' ∧ St H' (GrA p L :: fr) w' ∧ Env w w' ∧ e = .returned v
def edgeG (l : List Rp) (a b : Id) : Bool := decide (a ∈ pids l) && (decide (b ∈ pids l) && linkR (lookR l a) (lookR l b))
set_option maxRecDepth 100000 in
set_option maxHeartbeats 3200000 in
theorem premEdge_any (p : Nat) (L : List Rc) (a b : Id) (H : Hp) (fr : List HA) (w : World) (h : St H (GrA p L :: fr) w) (hg : GrOk H L) :
    Calls Try.prog 25 #[grP p, idV a, idV b] w (GKeep H p L fr w (.bool (edgeG (L.map rp) a b))) := by
  obtain ⟨R, hR⟩ : ∃ R, edgeG (L.map rp) a b = R := ⟨_, rfl⟩
  rw [hR]
  unfold edgeG at hR
  rw [pids_rp] at hR
  obtain ⟨ra, sa⟩ := a
  obtain ⟨rb', sb⟩ := b
  obtain ⟨H1, l1, h1, ya⟩ := h.box #[.int .i64 ra, .int .i64 sa] 28
  obtain ⟨H2, l2, h2, yb⟩ := h1.box #[.int .i64 rb', .int .i64 sb] 28
  have e1 : (w.alloc (.cells #[.int .i64 ra, .int .i64 sa] 28)).heap.size = w.heap.size + 1 := by simp
  rw [e1] at yb
  have en2 := ((Env.refl w).alloc (.cells #[.int .i64 ra, .int .i64 sa] 28)).alloc (.cells #[.int .i64 rb', .int .i64 sb] 28)
  have a0 := Hp.cell_le l2 (ya 0 _ rfl)
  have a1 := Hp.cell_le l2 (ya 1 _ rfl)
  have b0 := yb 0 _ rfl
  have b1 := yb 1 _ rfl
  have le2 := Hp.le_trans l1 l2
  clear ya yb h h1 e1
  have u0 := h2.cell a0
  have u1 := h2.cell a1
  have ul := World.block_lt_of_cell? _ _ u0
  have v0 := h2.cell b0
  have v1 := h2.cell b1
  have vl := World.block_lt_of_cell? _ _ v0
  go_enter Try.func25, Try.ntmps25
  go_wp2_with fail
  generalize (w.alloc (.cells #[.int .i64 ra, .int .i64 sa] 28)).alloc (.cells #[.int .i64 rb', .int .i64 sb] 28) = W at *
  generalize w.heap.size + 1 = gb at *
  generalize w.heap.size = ga at *
  refine (grRecord_any p L (ra, sa) H2 fr _ h2 (hg.mono le2)).mono ?_
  rintro e w3 ⟨H3, x, l3, h3, en3, rfl, hx, hxl⟩
  obtain ⟨d1, d2, d3, hdv, _⟩ := hx.d.form
  obtain ⟨b1', b2', b3', hbv, _⟩ := hx.b.form
  obtain ⟨H4, l4, h4, xc⟩ := St.rcBox h3 x
  have en4 := (en2.trans en3).alloc (.cells (rcA x) 32)
  have le4 := Hp.le_trans le2 (Hp.le_trans l3 l4)
  replace b0 := Hp.cell_le (Hp.le_trans l3 l4) b0
  replace b1 := Hp.cell_le (Hp.le_trans l3 l4) b1
  have hx4 := hx.mono l4
  clear u0 u1 ul v0 v1 vl h2 a0 a1 h3 hx en2 en3
  have v0 := h4.cell b0
  have v1 := h4.cell b1
  have vl := World.block_lt_of_cell? _ _ v0
  obtain ⟨oa, hoa⟩ : ∃ oa, decide (((ra, sa) : Id) ∈ rids L) = oa := ⟨_, rfl⟩
  rw [hoa] at hR ⊢
  rw [← hxl] at hR
  replace hxl := Lib.hid hxl
  clear hoa
  obtain ⟨⟨xr, xs⟩, xq, xd, xb, xD, xB⟩ := x
  simp only at hdv hbv
  subst hdv hbv
  go_wp2_with fail
  try simp only [rcA] at h4 en4 xc
  generalize w3.alloc (.cells #[.int .i64 xr, .int .i64 xs, .int .i64 xq, .slice d1 d2 d3, .slice b1' b2' b3'] 32) = W4 at *
  generalize w3.heap.size = gx at *
  refine (grRecord_any p L (rb', sb) H4 fr _ h4 (hg.mono le4)).mono ?_
  rintro e w5 ⟨H5, y, l5, h5, en5, rfl, hy, hyl⟩
  obtain ⟨e1, e2, e3, hev, _⟩ := hy.d.form
  obtain ⟨f1, f2, f3, hfv, _⟩ := hy.b.form
  obtain ⟨H6, l6, h6, yc⟩ := St.rcBox h5 y
  have en6 := (en4.trans en5).alloc (.cells (rcA y) 32)
  have le6 := Hp.le_trans le4 (Hp.le_trans l5 l6)
  replace xc := xc.mono (Hp.le_trans l5 l6)
  have hx6 := hx4.mono (Hp.le_trans l5 l6)
  have hy6 := hy.mono l6
  clear v0 v1 vl h4 h5 hx4 hy en4 en5 b0 b1
  obtain ⟨ob, hob⟩ : ∃ ob, decide (((rb', sb) : Id) ∈ rids L) = ob := ⟨_, rfl⟩
  rw [hob] at hR ⊢
  rw [← hyl] at hR
  replace hyl := Lib.hid hyl
  clear hob
  have hLk := fun w' (h' : St H6 (GrA p L :: fr) w') => linked_any _ _ w' (hx6.rw h') (hy6.rw h')
  obtain ⟨⟨yr, ys⟩, yq, yd, yb, yD, yB⟩ := y
  simp only at hev hfv
  subst hev hfv
  try simp only [rcA] at h6 en6 yc hLk
  have u0 := h6.cell xc.1
  have u1 := h6.cell xc.2.1
  have u2 := h6.cell xc.2.2.1
  have u3 := h6.cell xc.2.2.2.1
  have u4 := h6.cell xc.2.2.2.2
  have ul := World.block_lt_of_cell? _ _ u0
  try simp only at u0 u1 u2 u3 u4
  have v0 := h6.cell yc.1
  have v1 := h6.cell yc.2.1
  have v2 := h6.cell yc.2.2.1
  have v3 := h6.cell yc.2.2.2.1
  have v4 := h6.cell yc.2.2.2.2
  have vl := World.block_lt_of_cell? _ _ v0
  try simp only at v0 v1 v2 v3 v4
  cases oa with
  | false =>
    rw [Bool.false_and] at hR
    subst hR
    clear hLk
    go_wp2_with fail
    go_ret
    exact ⟨H6, le6, h6, en6, rfl⟩
  | true =>
    rw [Bool.true_and] at hR
    cases ob with
    | false =>
      rw [Bool.false_and] at hR
      subst hR
      clear hLk
      go_wp2_with fail
      go_ret
      exact ⟨H6, le6, h6, en6, rfl⟩
    | true =>
      rw [Bool.true_and] at hR
      rw [hR] at hLk
      replace hLk := Lib.hid hLk
      clear hR
      go_wp2_with fail
      refine (hLk.out _ h6).mono ?_
      rintro e w7 ⟨rfl, hb7⟩
      go_wp2_with fail
      go_ret
      exact ⟨H6, le6, h6.below hb7, en6.trans (bel_env hb7), rfl⟩
end Go.Proofs.Ytelmhcbdpimaaaa
