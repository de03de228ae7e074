/- Joined texts: CAt, CanFlat, RSame. -/
import Derived.Test.YtcbckeoalmjcoaaGreatCGR11
import Derived.Test.YtcbckeoalmjcoaaGreatCGR17
import Derived.Test.YtcbckeoalmjcoaaGreatCGR22
/- comps.At, cortegeref17.At, cortegeref17.Same. -/
set_option linter.unusedVariables false
set_option linter.unusedSimpArgs false
namespace Go.Proofs.YtcbckeoalmjcoaaGreat
open Go.RowKit Go.Cw Go.Fl
attribute [local go_sem ↓] eql_id neq_id
/-- A list of lists in memory. -/
structure LvR (w : World) (v : Value) (X : List Lv) : Prop where
  row : Rw w 1 v (vals X)
  el : ∀ x ∈ X, Rw w 2 x.2 (idl x.1)
theorem LvR.below {w w' : World} {v : Value} {X : List Lv} (h : LvR w v X) (hb : Below w.heap.size w w') : LvR w' v X := ⟨h.row.below hb, fun x hx => (h.el x hx).below hb⟩
theorem at_step (a : Id) (X : List Lv) (k : Nat) (h : k < X.length) : atFrom a (lists (X.drop k)) (k : Int) = if a ∈ X[k].1 then (k : Int) else atFrom a (lists (X.drop (k + 1))) ((k + 1 : Nat) : Int) := by
  rw [List.drop_eq_getElem_cons h]
  rfl
theorem at_end (a : Id) (X : List Lv) (k : Int) : atFrom a (lists (X.drop X.length)) k = -1 := by rw [List.drop_length]; rfl
/-- What At tells. -/
def AtR (a : Id) (X : List Lv) (w : World) (e : Ending) (w' : World) : Prop := e = .returned (.int .i64 (atFrom a (lists X) 0)) ∧ Below w.heap.size w w'
set_option maxRecDepth 100000 in
set_option maxHeartbeats 8000000 in
theorem refAt_any (v : Value) (X : List Lv) (a : Id) (w : World) (hx : LvR w v X) :
    Calls Tryz.prog 21 #[v, idV a] w (AtR a X w) := by
  obtain ⟨z, hz⟩ : ∃ z, Hid (z = atFrom a (lists (X.drop 0)) ((0 : Nat) : Int)) := ⟨_, Lib.hid rfl⟩
  have hfin : ∀ (w' : World), Below w.heap.size w w' → AtR a X w (.returned (.int .i64 z)) w' := fun w' hb => ⟨by rw [hz.out]; rfl, hb⟩
  generalize AtR a X w = Q at *
  replace hfin := Lib.hid hfin
  obtain ⟨A, n, c, rfl, hl, hn, hc⟩ := hx.row.form
  rw [vals_len] at hl
  obtain rfl : n = X.length := by omega
  clear hl
  obtain ⟨a0, a1⟩ := a
  obtain ⟨H1, l1, h1, y⟩ := (St.start w).box #[.int .i64 a0, .int .i64 a1] 41
  have y0 : H1.cell w.heap.size 0 = some (.int .i64 a0) := y 0 _ rfl
  have y1 : H1.cell w.heap.size 1 = some (.int .i64 a1) := y 1 _ rfl
  have hbx := boxBelow w (.cells #[.int .i64 a0, .int .i64 a1] 41)
  have hx1 := hx.below hbx
  have hsz : w.heap.size ≤ (w.alloc (.cells #[.int .i64 a0, .int .i64 a1] 41)).heap.size := by simp
  clear y l1 hx
  go_enter Tryz.func21, Tryz.ntmps21
  go_wp2_with fail
  generalize hgb : w.heap.size = gb at *
  generalize w.alloc (.cells #[.int .i64 a0, .int .i64 a1] 41) = W at *
  go_loopw [5] (fun s5 wr => ∃ k : Nat, k ≤ X.length ∧ s5 = .int .i64 (k : Int) ∧ Below W.heap.size W wr ∧ Hid (z = atFrom (a0, a1) (lists (X.drop k)) (k : Int))) (fun s5 _ => X.length - (intOf s5).toNat)
  case atStart => exact ⟨0, by omega, by go_num, Below.refl _ _, hz⟩
  case round =>
    obtain ⟨k, hk, rfl, hb, hrz⟩ := hrel
    by_cases hlt : k < X.length
    · obtain ⟨b, off, hA, _⟩ := hx1.row.cells (by omega)
      cases hA
      have hst := Lib.hid (at_step (a0, a1) X k hlt)
      have hq : ∀ w', Below W.heap.size W w' → w'.cell? ⟨b, off + k, none⟩ = some X[k].2 := fun w' hb' => by
        obtain ⟨_, _, hA, hcr⟩ := (hx1.row.below hb').cells (by omega)
        cases hA
        have := hcr _ _ (vals_get X k hlt)
        rwa [Nat.mul_one] at this
      have hxr := hx1.el X[k] (List.getElem_mem hlt)
      generalize X[k] = x at *
      obtain ⟨xl, xv⟩ := x
      simp only at hq hxr
      obtain ⟨xA, xn, xc, rfl, _⟩ := hxr.form
      have kk : ∀ w', Below W.heap.size W w' → w'.cell? ⟨b, off + k, none⟩ = some (.slice xA xn xc) ∧ w'.cell? ⟨gb, 0, none⟩ = some (.int .i64 a0) ∧ w'.cell? ⟨gb, 1, none⟩ = some (.int .i64 a1) := fun w' hb' => ⟨hq w' hb', (h1.below hb').cell y0, (h1.below hb').cell y1⟩
      have hbd : Below W.heap.size W wr.drew := hb.drew
      have kA := kk _ hbd
      have hHs := Lib.hid (hasIds_any (.slice xA xn xc) xl (a0, a1) wr.drew (hxr.below hbd))
      replace kk := Lib.hid kk
      clear hq hxr
      go_wp2_with fail
      refine wp_region_held_drew (S := fun w' => w'.cell? ⟨b, off + k, none⟩ = some (.slice xA xn xc) ∧ w'.cell? ⟨gb, 0, none⟩ = some (.int .i64 a0) ∧ w'.cell? ⟨gb, 1, none⟩ = some (.int .i64 a1)) (by kernel_rfl) kA (fun hHeld => ?_)
      refine wpAnyH_take (i := 0) (oi := { dst := some 12, op := Go.Op.move (Go.Operand.tmp 0), type := 31, pos := "ref.go:42", after := #[], guard := none }) (v := ?_) rfl (by kernel_rfl) (by kernel_rfl) (by kernel_rfl) (fun _ _ _ h => h) (Or.inl ⟨by rfl, ?_⟩) (by assumption) ?_
      rotate_left
      · (intro w hSw; (try dsimp only at hSw); go_simp; (try (with_reducible rfl)))
      try simp only [Act.put, List.setIfInBounds_toArray, List.set_cons_zero, List.set_cons_succ]
      refine wpAnyH_take (i := 1) (oi := { dst := some 13, op := Go.Op.move (Go.Operand.tmp 5), type := 3, pos := "ref.go:42", after := #[], guard := none }) (v := ?_) rfl (by kernel_rfl) (by kernel_rfl) (by kernel_rfl) (fun _ _ _ h => h) (Or.inl ⟨by rfl, ?_⟩) (by assumption) ?_
      rotate_left
      · (intro w hSw; (try dsimp only at hSw); go_simp; (try (with_reducible rfl)))
      try simp only [Act.put, List.setIfInBounds_toArray, List.set_cons_zero, List.set_cons_succ]
      refine wpAnyH_take (i := 2) (oi := { dst := some 14, op := Go.Op.indexAddr 31 (Go.Operand.tmp 12) (Go.Operand.tmp 13), type := 0, pos := "ref.go:42", after := #[{ on := 0, ground := Go.Ground.data }, { on := 1, ground := Go.Ground.data }], guard := none }) (v := ?_) rfl (by kernel_rfl) (by kernel_rfl) (by kernel_rfl) (fun _ _ _ h => h) (Or.inl ⟨by rfl, ?_⟩) (by assumption) ?_
      rotate_left
      · (intro w hSw; (try dsimp only at hSw); go_simp; (try (with_reducible rfl)))
      try simp only [Act.put, List.setIfInBounds_toArray, List.set_cons_zero, List.set_cons_succ]
      refine wpAnyH_take (i := 3) (oi := { dst := some 15, op := Go.Op.load 35 (Go.Operand.tmp 14), type := 35, pos := "ref.go:42", after := #[{ on := 2, ground := Go.Ground.data }], guard := none }) (v := ?_) rfl (by kernel_rfl) (by kernel_rfl) (by kernel_rfl) (fun _ _ _ h => h) (Or.inl ⟨by rfl, ?_⟩) (by assumption) ?_
      rotate_left
      · (intro w hSw; (try dsimp only at hSw); go_simp; (try (with_reducible rfl)))
      try simp only [Act.put, List.setIfInBounds_toArray, List.set_cons_zero, List.set_cons_succ]
      refine wpAnyH_take (i := 4) (oi := { dst := some 16, op := Go.Op.load 41 (Go.Operand.tmp 3), type := 41, pos := "ref.go:42", after := #[], guard := none }) (v := ?_) rfl (by kernel_rfl) (by kernel_rfl) (by kernel_rfl) (fun _ _ _ h => h) (Or.inl ⟨by rfl, ?_⟩) (by assumption) ?_
      rotate_left
      · (intro w hSw; (try dsimp only at hSw); go_simp; (try (with_reducible rfl)))
      try simp only [Act.put, List.setIfInBounds_toArray, List.set_cons_zero, List.set_cons_succ]
      refine wpAnyH_ready (rs := [5]) (by kernel_rfl) (by simp) ?_
      refine AllReadyH.cons (o := { dst := some 17, op := Go.Op.call { callee := Go.Callee.value (Go.Operand.func 47), args := #[Go.Operand.tmp 15, Go.Operand.tmp 16], argTypes := #[35, 41] }, type := 4, pos := "ref.go:42", after := #[{ on := 3, ground := Go.Ground.data }, { on := 4, ground := Go.Ground.data }], guard := none }) rfl (fun K hK => ?_) AllReadyH.nil
      go_simp
      refine hHs.out.mono ?_
      rintro e w3 ⟨rfl, hb3⟩
      have hb4 := hbd.trans (hb3.mono hbd.size)
      refine hK.out _ _ (kk.out _ hb4) (fun hHeld2 => ?_)
      clear hK K hHeld
      try simp only [Act.put, List.setIfInBounds_toArray, List.set_cons_zero, List.set_cons_succ]
      refine wpAnyH_done (by kernel_rfl) ?_ _
      clear kA hHs kk hbd hHeld2 hb3 hb
      by_cases hm : (a0, a1) ∈ xl
      · have hzk : z = (k : Int) := by rw [hrz.out, hst.out, if_pos hm]
        rw [decide_eq_true hm]
        have hfz := Lib.hid (hfin.out w3 (hbx.trans (hb4.mono hsz)))
        rw [hzk] at hfz
        clear hfin hst hrz hz hm
        go_wp2_with fail
        exact hfz.out
      · have hrz2 : Hid (z = atFrom (a0, a1) (lists (X.drop (k + 1))) ((k + 1 : Nat) : Int)) := Lib.hid (by rw [hrz.out, hst.out, if_neg hm])
        rw [decide_eq_false hm]
        clear hst hm hrz
        go_wp2_with fail
        go_roundw
        case rel => exact ⟨k + 1, by omega, by go_num, hb4, hrz2⟩
        case measure => simp [intOf]; omega
    · obtain rfl : k = X.length := by omega
      have hzk : z = -1 := by rw [hrz.out, at_end]
      have hfz := Lib.hid (hfin.out wr (hbx.trans (hb.mono hsz)))
      rw [hzk] at hfz
      clear hfin hrz hz
      go_wp2_with fail
      exact hfz.out
set_option maxRecDepth 100000 in
set_option maxHeartbeats 1600000 in
theorem at1_any (v : Value) (l : List Id) (a : Id) (p : Nat) (w : World) (hx : Rw w 2 v (idl l)) (h0 : w.cell? ⟨p, 0, none⟩ = some (.int .i64 a.1)) (h1 : w.cell? ⟨p, 1, none⟩ = some (.int .i64 a.2)) :
    Calls Tryz.prog 53 #[v, .pointer (some ⟨p, 0, none⟩)] w fun e w' => e = .returned (.bool (decide (a ∈ l))) ∧ Below w.heap.size w w' := by
  have hH := Lib.hid (identHas_any v l a w hx)
  obtain ⟨a0, a1⟩ := a
  simp only at h0 h1
  go_enter Tryz.func53, Tryz.ntmps53
  go_wp2_with fail
  refine hH.out.mono ?_
  rintro e w2 ⟨rfl, hb⟩
  go_wp2_with fail
  go_ret
  exact ⟨rfl, hb⟩
set_option maxRecDepth 100000 in
set_option maxHeartbeats 8000000 in
theorem index2_any (v : Value) (X : List Lv) (a : Id) (p : Nat) (w : World) (hx : LvR w v X) (h0 : w.cell? ⟨p, 0, none⟩ = some (.int .i64 a.1)) (h1 : w.cell? ⟨p, 1, none⟩ = some (.int .i64 a.2)) :
    Calls Tryz.prog 52 #[v, .func (.func 53) #[] #[.pointer (some ⟨p, 0, none⟩)]] w (AtR a X w) := by
  obtain ⟨z, hz⟩ : ∃ z, Hid (z = atFrom a (lists (X.drop 0)) ((0 : Nat) : Int)) := ⟨_, Lib.hid rfl⟩
  have hfin : ∀ (w' : World), Below w.heap.size w w' → AtR a X w (.returned (.int .i64 z)) w' := fun w' hb => ⟨by rw [hz.out]; rfl, hb⟩
  generalize AtR a X w = Q at *
  replace hfin := Lib.hid hfin
  obtain ⟨A, n, c, rfl, hl, hn, hc⟩ := hx.row.form
  rw [vals_len] at hl
  obtain rfl : n = X.length := by omega
  clear hl
  have eg : ∀ args w, (callFunc 53 args).run Tryz.prog w = .ok (.enter 53 args) w := enters_of Tryz.func53 (by kernel_rfl) rfl
  have pl := World.block_lt_of_cell? _ _ h0
  go_enter Tryz.func52, Tryz.ntmps52
  go_wp2_with fail
  go_loopw [5, 8] (fun s5 s8 wr => ∃ k : Nat, k ≤ X.length ∧ s8 = .int .i64 (k : Int) ∧ Below w.heap.size w wr ∧ Hid (z = atFrom a (lists (X.drop k)) (k : Int))) (fun _ s8 _ => X.length - (intOf s8).toNat)
  case atStart => exact ⟨0, by omega, by go_num, Below.refl _ _, hz⟩
  case round =>
    obtain ⟨k, hk, rfl, hb, hrz⟩ := hrel
    by_cases hlt : k < X.length
    · obtain ⟨b, off, hA, hcr⟩ := (hx.row.below hb).cells (by omega)
      cases hA
      have hst := Lib.hid (at_step a X k hlt)
      have q0 := hcr _ _ (vals_get X k hlt)
      rw [Nat.mul_one] at q0
      clear hcr
      have hxr := hx.el X[k] (List.getElem_mem hlt)
      generalize X[k] = x at *
      obtain ⟨xl, xv⟩ := x
      simp only at q0 hxr
      obtain ⟨xA, xn, xc, rfl, _⟩ := hxr.form
      have g0 := (hb.cell (p := ⟨p, 0, none⟩) pl).trans h0
      have g1 := (hb.cell (p := ⟨p, 1, none⟩) pl).trans h1
      have hcl := Lib.hid (at1_any (.slice xA xn xc) xl a p wr (hxr.below hb) g0 g1)
      clear hxr g0 g1
      go_wp2_with fail
      refine (hcl.out).mono ?_
      rintro e w3 ⟨rfl, hb3⟩
      have hb4 := hb.trans (hb3.mono hb.size)
      clear hb3 hb hcl q0
      by_cases hm : a ∈ xl
      · have hzk : z = (k : Int) := by rw [hrz.out, hst.out, if_pos hm]
        rw [decide_eq_true hm]
        have hfz := Lib.hid (hfin.out w3 hb4)
        rw [hzk] at hfz
        clear hfin hst hrz hz hm
        go_wp2_with fail
        exact hfz.out
      · have hrz2 : Hid (z = atFrom a (lists (X.drop (k + 1))) ((k + 1 : Nat) : Int)) := Lib.hid (by rw [hrz.out, hst.out, if_neg hm])
        rw [decide_eq_false hm]
        clear hst hm hrz
        go_wp2_with fail
        go_roundw
        case rel => exact ⟨k + 1, by omega, by go_num, hb4, hrz2⟩
        case measure => simp [intOf]; omega
    · obtain rfl : k = X.length := by omega
      have hzk : z = -1 := by rw [hrz.out, at_end]
      have hfz := Lib.hid (hfin.out wr hb)
      rw [hzk] at hfz
      clear hfin hrz hz
      go_wp2_with fail
      exact hfz.out
set_option maxRecDepth 100000 in
set_option maxHeartbeats 1600000 in
theorem compsAt_any (v : Value) (X : List Lv) (a : Id) (w : World) (hx : LvR w v X) : Calls Tryz.prog 20 #[v, idV a] w (AtR a X w) := by
  obtain ⟨r, s⟩ := a
  have hmf : ∀ (fn : Fn) (first cap : Array Value) (w : World), (Instr.makeFunc fn first cap).run Tryz.prog w = .ok (.func fn first cap) w := fun _ _ _ _ => rfl
  obtain ⟨H1, l1, h1, y⟩ := (St.start w).box #[.int .i64 r, .int .i64 s] 41
  have v0 := h1.cell (y 0 _ rfl)
  have v1 := h1.cell (y 1 _ rfl)
  have hbx := boxBelow w (.cells #[.int .i64 r, .int .i64 s] 41)
  have hin := Lib.hid (index2_any v X (r, s) w.heap.size _ (hx.below hbx) v0 v1)
  have hfin : ∀ (w' : World), Below (w.alloc (.cells #[.int .i64 r, .int .i64 s] 41)).heap.size (w.alloc (.cells #[.int .i64 r, .int .i64 s] 41)) w' → AtR (r, s) X w (.returned (.int .i64 (atFrom (r, s) (lists X) 0))) w' := fun w' hb => ⟨rfl, hbx.trans (hb.mono (by simp))⟩
  generalize AtR (r, s) X w = Q at *
  replace hfin := Lib.hid hfin
  clear h1 y v0 v1 hbx
  go_enter Tryz.func20, Tryz.ntmps20
  go_wp2_with fail
  refine hin.out.mono ?_
  rintro e w2 ⟨rfl, hb2⟩
  have hz := Lib.hid (hfin.out w2 hb2)
  clear hfin hb2
  go_wp2_with fail
  exact hz.out
/-- Are two lists of lists the same? -/
def SameR (X Y : List Lv) (w : World) (e : Ending) (w' : World) : Prop := e = .returned (.bool (decide (lists X = lists Y))) ∧ Below w.heap.size w w'
theorem lists_len (X : List Lv) : (lists X).length = X.length := by simp [lists]
theorem same_step (X Y : List Lv) (k : Nat) (h1 : k < X.length) (h2 : k < Y.length) : decide (lists (X.drop k) = lists (Y.drop k)) = (decide (X[k].1 = Y[k].1) && decide (lists (X.drop (k + 1)) = lists (Y.drop (k + 1)))) := by
  rw [List.drop_eq_getElem_cons h1, List.drop_eq_getElem_cons h2]
  unfold lists
  rw [List.map_cons, List.map_cons]
  by_cases e1 : X[k].1 = Y[k].1 <;> simp [e1]
set_option maxRecDepth 100000 in
set_option maxHeartbeats 8000000 in
theorem ref17Same_any (u v : Value) (X Y : List Lv) (w : World) (hx : LvR w u X) (hy : LvR w v Y) : Calls Tryz.prog 12 #[u, v] w (SameR X Y w) := by
  obtain ⟨z, hz⟩ : ∃ z, Hid (z = decide (lists (X.drop 0) = lists (Y.drop 0))) := ⟨_, Lib.hid rfl⟩
  have hlen : X.length ≠ Y.length → z = false := fun h => by
    rw [hz.out]
    refine decide_eq_false (fun e => h ?_)
    have := congrArg List.length e
    simpa [lists] using this
  have hfin : ∀ (w' : World), Below w.heap.size w w' → SameR X Y w (.returned (.bool z)) w' := fun w' hb => ⟨by rw [hz.out]; rfl, hb⟩
  generalize SameR X Y w = Q at *
  replace hfin := Lib.hid hfin
  obtain ⟨A, n, c, rfl, hl, hn, hc⟩ := hx.row.form
  rw [vals_len] at hl
  obtain rfl : n = X.length := by omega
  obtain ⟨A2, n2, c2, rfl, hl2, hn2, hc2⟩ := hy.row.form
  rw [vals_len] at hl2
  obtain rfl : n2 = Y.length := by omega
  clear hl hl2
  by_cases hne : X.length = Y.length
  · have hne1 : ((X.length : Int) != (Y.length : Int)) = false := by simp [hne]
    have hne2 : ((X.length : Int) == (Y.length : Int)) = true := by simp [hne]
    have hne3 : decide ((X.length : Int) = (Y.length : Int)) = true := by simp [hne]
    replace hne := Lib.hid hne
    clear hlen
    go_enter Tryz.func12, Tryz.ntmps12
    go_wp2_with fail
    go_loopw [5] (fun s5 wr => ∃ k : Nat, k ≤ X.length ∧ s5 = .int .i64 (k : Int) ∧ Below w.heap.size w wr ∧ Hid (z = decide (lists (X.drop k) = lists (Y.drop k)))) (fun s5 _ => X.length - (intOf s5).toNat)
    case atStart => exact ⟨0, by omega, by go_num, Below.refl _ _, hz⟩
    case round =>
      obtain ⟨k, hk, rfl, hb, hrz⟩ := hrel
      by_cases hlt : k < X.length
      · have hlt2 : k < Y.length := by have := hne.out; omega
        have hst := Lib.hid (same_step X Y k hlt hlt2)
        obtain ⟨b, off, hA, _⟩ := hx.row.cells (by omega)
        cases hA
        obtain ⟨b2, off2, hA, _⟩ := hy.row.cells (by omega)
        cases hA
        have hq : ∀ w', Below w.heap.size w w' → w'.cell? ⟨b, off + k, none⟩ = some X[k].2 := fun w' hb' => by
          obtain ⟨_, _, hA, hcr⟩ := (hx.row.below hb').cells (by omega)
          cases hA
          have := hcr _ _ (vals_get X k hlt)
          rwa [Nat.mul_one] at this
        have hq2 : ∀ w', Below w.heap.size w w' → w'.cell? ⟨b2, off2 + k, none⟩ = some Y[k].2 := fun w' hb' => by
          obtain ⟨_, _, hA, hcr⟩ := (hy.row.below hb').cells (by omega)
          cases hA
          have := hcr _ _ (vals_get Y k hlt2)
          rwa [Nat.mul_one] at this
        have hxr := hx.el X[k] (List.getElem_mem hlt)
        have hyr := hy.el Y[k] (List.getElem_mem hlt2)
        generalize X[k] = x at *
        generalize Y[k] = y at *
        obtain ⟨xl, xv⟩ := x
        obtain ⟨yl, yv⟩ := y
        simp only at hq hxr hq2 hyr
        obtain ⟨xA, xn, xc, rfl, _⟩ := hxr.form
        obtain ⟨yA, yn, yc, rfl, _⟩ := hyr.form
        have kk : ∀ w', Below w.heap.size w w' → w'.cell? ⟨b, off + k, none⟩ = some (.slice xA xn xc) ∧ w'.cell? ⟨b2, off2 + k, none⟩ = some (.slice yA yn yc) := fun w' hb' => ⟨hq w' hb', hq2 w' hb'⟩
        have hbd : Below w.heap.size w wr.drew := hb.drew
        have kA := kk _ hbd
        have hHs := Lib.hid (sameIds_any (.slice xA xn xc) (.slice yA yn yc) xl yl wr.drew (hxr.below hbd) (hyr.below hbd))
        replace kk := Lib.hid kk
        clear hq hxr hq2 hyr
        go_wp2_with fail
        refine wp_region_held_drew (S := fun w' => w'.cell? ⟨b, off + k, none⟩ = some (.slice xA xn xc) ∧ w'.cell? ⟨b2, off2 + k, none⟩ = some (.slice yA yn yc)) (by kernel_rfl) kA (fun hHeld => ?_)
        refine wpAnyH_take (i := 0) (oi := { dst := some 17, op := Go.Op.move (Go.Operand.tmp 0), type := 31, pos := "ref.go:74", after := #[], guard := none }) (v := ?_) rfl (by kernel_rfl) (by kernel_rfl) (by kernel_rfl) (fun _ _ _ h => h) (Or.inl ⟨by rfl, ?_⟩) (by assumption) ?_
        rotate_left
        · (intro w hSw; (try dsimp only at hSw); go_simp; (try (with_reducible rfl)))
        try simp only [Act.put, List.setIfInBounds_toArray, List.set_cons_zero, List.set_cons_succ]
        refine wpAnyH_take (i := 1) (oi := { dst := some 18, op := Go.Op.move (Go.Operand.tmp 5), type := 3, pos := "ref.go:74", after := #[], guard := none }) (v := ?_) rfl (by kernel_rfl) (by kernel_rfl) (by kernel_rfl) (fun _ _ _ h => h) (Or.inl ⟨by rfl, ?_⟩) (by assumption) ?_
        rotate_left
        · (intro w hSw; (try dsimp only at hSw); go_simp; (try (with_reducible rfl)))
        try simp only [Act.put, List.setIfInBounds_toArray, List.set_cons_zero, List.set_cons_succ]
        refine wpAnyH_take (i := 2) (oi := { dst := some 19, op := Go.Op.indexAddr 31 (Go.Operand.tmp 17) (Go.Operand.tmp 18), type := 0, pos := "ref.go:74", after := #[{ on := 0, ground := Go.Ground.data }, { on := 1, ground := Go.Ground.data }], guard := none }) (v := ?_) rfl (by kernel_rfl) (by kernel_rfl) (by kernel_rfl) (fun _ _ _ h => h) (Or.inl ⟨by rfl, ?_⟩) (by assumption) ?_
        rotate_left
        · (intro w hSw; (try dsimp only at hSw); go_simp; (try (with_reducible rfl)))
        try simp only [Act.put, List.setIfInBounds_toArray, List.set_cons_zero, List.set_cons_succ]
        refine wpAnyH_take (i := 3) (oi := { dst := some 20, op := Go.Op.load 35 (Go.Operand.tmp 19), type := 35, pos := "ref.go:74", after := #[{ on := 2, ground := Go.Ground.data }], guard := none }) (v := ?_) rfl (by kernel_rfl) (by kernel_rfl) (by kernel_rfl) (fun _ _ _ h => h) (Or.inl ⟨by rfl, ?_⟩) (by assumption) ?_
        rotate_left
        · (intro w hSw; (try dsimp only at hSw); go_simp; (try (with_reducible rfl)))
        try simp only [Act.put, List.setIfInBounds_toArray, List.set_cons_zero, List.set_cons_succ]
        refine wpAnyH_take (i := 4) (oi := { dst := some 21, op := Go.Op.move (Go.Operand.tmp 1), type := 31, pos := "ref.go:74", after := #[], guard := none }) (v := ?_) rfl (by kernel_rfl) (by kernel_rfl) (by kernel_rfl) (fun _ _ _ h => h) (Or.inl ⟨by rfl, ?_⟩) (by assumption) ?_
        rotate_left
        · (intro w hSw; (try dsimp only at hSw); go_simp; (try (with_reducible rfl)))
        try simp only [Act.put, List.setIfInBounds_toArray, List.set_cons_zero, List.set_cons_succ]
        refine wpAnyH_take (i := 5) (oi := { dst := some 22, op := Go.Op.move (Go.Operand.tmp 5), type := 3, pos := "ref.go:74", after := #[], guard := none }) (v := ?_) rfl (by kernel_rfl) (by kernel_rfl) (by kernel_rfl) (fun _ _ _ h => h) (Or.inl ⟨by rfl, ?_⟩) (by assumption) ?_
        rotate_left
        · (intro w hSw; (try dsimp only at hSw); go_simp; (try (with_reducible rfl)))
        try simp only [Act.put, List.setIfInBounds_toArray, List.set_cons_zero, List.set_cons_succ]
        refine wpAnyH_take (i := 6) (oi := { dst := some 23, op := Go.Op.indexAddr 31 (Go.Operand.tmp 21) (Go.Operand.tmp 22), type := 0, pos := "ref.go:74", after := #[{ on := 4, ground := Go.Ground.data }, { on := 5, ground := Go.Ground.data }], guard := none }) (v := ?_) rfl (by kernel_rfl) (by kernel_rfl) (by kernel_rfl) (fun _ _ _ h => h) (Or.inl ⟨by rfl, ?_⟩) (by assumption) ?_
        rotate_left
        · (intro w hSw; (try dsimp only at hSw); go_simp; (try (with_reducible rfl)))
        try simp only [Act.put, List.setIfInBounds_toArray, List.set_cons_zero, List.set_cons_succ]
        refine wpAnyH_take (i := 7) (oi := { dst := some 24, op := Go.Op.load 35 (Go.Operand.tmp 23), type := 35, pos := "ref.go:74", after := #[{ on := 6, ground := Go.Ground.data }], guard := none }) (v := ?_) rfl (by kernel_rfl) (by kernel_rfl) (by kernel_rfl) (fun _ _ _ h => h) (Or.inl ⟨by rfl, ?_⟩) (by assumption) ?_
        rotate_left
        · (intro w hSw; (try dsimp only at hSw); go_simp; (try (with_reducible rfl)))
        try simp only [Act.put, List.setIfInBounds_toArray, List.set_cons_zero, List.set_cons_succ]
        refine wpAnyH_ready (rs := [8]) (by kernel_rfl) (by simp) ?_
        refine AllReadyH.cons (o := { dst := some 25, op := Go.Op.call { callee := Go.Callee.value (Go.Operand.func 15), args := #[Go.Operand.tmp 20, Go.Operand.tmp 24], argTypes := #[35, 35] }, type := 4, pos := "ref.go:74", after := #[{ on := 3, ground := Go.Ground.data }, { on := 7, ground := Go.Ground.data }], guard := none }) rfl (fun K hK => ?_) AllReadyH.nil
        go_simp
        refine hHs.out.mono ?_
        rintro e w3 ⟨rfl, hb3⟩
        have hb4 := hbd.trans (hb3.mono hbd.size)
        refine hK.out _ _ (kk.out _ hb4) (fun hHeld2 => ?_)
        clear hK K hHeld
        try simp only [Act.put, List.setIfInBounds_toArray, List.set_cons_zero, List.set_cons_succ]
        refine wpAnyH_take (i := 9) (oi := { dst := some 26, op := Go.Op.unOp Go.UnOp.not 4 (Go.Operand.tmp 25), type := 4, pos := "ref.go:74", after := #[{ on := 8, ground := Go.Ground.data }], guard := none }) (v := ?_) rfl (by kernel_rfl) (by kernel_rfl) (by kernel_rfl) (fun _ _ _ h => h) (Or.inl ⟨by rfl, ?_⟩) (by assumption) ?_
        rotate_left
        · (intro w hSw; (try dsimp only at hSw); go_simp; (try (with_reducible rfl)))
        try simp only [Act.put, List.setIfInBounds_toArray, List.set_cons_zero, List.set_cons_succ]
        refine wpAnyH_done (by kernel_rfl) ?_ _
        clear kA hHs kk hbd hHeld2 hb3 hb
        by_cases hm : xl = yl
        · have hrz2 : Hid (z = decide (lists (X.drop (k + 1)) = lists (Y.drop (k + 1)))) := Lib.hid (by rw [hrz.out, hst.out, decide_eq_true hm, Bool.true_and])
          rw [decide_eq_true hm]
          clear hst hm hrz
          go_wp2_with fail
          go_roundw
          case rel => exact ⟨k + 1, by omega, by go_num, hb4, hrz2⟩
          case measure => simp [intOf]; omega
        · have hzk : z = false := by rw [hrz.out, hst.out, decide_eq_false hm, Bool.false_and]
          rw [decide_eq_false hm]
          have hfz := Lib.hid (hfin.out w3 hb4)
          rw [hzk] at hfz
          clear hfin hst hrz hz hm
          go_wp2_with fail
          exact hfz.out
      · obtain rfl : k = X.length := by omega
        have hzk : z = true := by rw [hrz.out, List.drop_length, hne.out, List.drop_length]; rfl
        have hfz := Lib.hid (hfin.out wr hb)
        rw [hzk] at hfz
        clear hfin hrz hz
        go_wp2_with fail
        exact hfz.out
  · have hne1 : ((X.length : Int) != (Y.length : Int)) = true := by simp; omega
    have hne2 : ((X.length : Int) == (Y.length : Int)) = false := by simp; omega
    have hfz := Lib.hid (hfin.out w (Below.refl _ _))
    rw [hlen hne] at hfz
    clear hfin hz hlen
    go_enter Tryz.func12, Tryz.ntmps12
    go_wp2_with fail
    exact hfz.out
end Go.Proofs.YtcbckeoalmjcoaaGreat

/- canon.Flat, the reference's Flat. -/
set_option linter.unusedVariables false
set_option linter.unusedSimpArgs false
namespace Go.Proofs.YtcbckeoalmjcoaaGreat
open Go.RowKit Go.Cw Go.Fl
attribute [local go_sem ↓] eql_id neq_id
theorem flatl_step (X : List Lv) (k : Nat) (h : k < X.length) : (lists (X.take (k + 1))).flatten = (lists (X.take k)).flatten ++ X[k].1 := by
  rw [List.take_add_one, List.getElem?_eq_getElem h, lists_app, List.flatten_append]
  simp [lists]
theorem flatl_le (X : List Lv) (k : Nat) : (lists (X.take k)).flatten.length ≤ (lists X).flatten.length := by
  conv => rhs; rw [← List.take_append_drop k X, lists_app, List.flatten_append, List.length_append]
  omega
/-- What Flat tells. -/
def FlatR (X : List Lv) (w : World) (e : Ending) (w' : World) : Prop := ∃ v', e = .returned v' ∧ St (snap w) [Row 41 2 v' (idl (lists X).flatten)] w' ∧ Env w w'
set_option maxRecDepth 100000 in
set_option maxHeartbeats 8000000 in
theorem canFlat_any (v : Value) (X : List Lv) (w : World) (hx : LvR w v X) (hb : (lists X).flatten.length ≤ 16777216) : Calls Tryz.prog 26 #[v] w (FlatR X w) := by
  have hfin : ∀ (v' : Value) (w' : World), St (snap w) [Row 41 2 v' (idl (lists X).flatten)] w' → Env w w' → FlatR X w (.returned v') w' := fun v' w' h1 h2 => ⟨v', rfl, h1, h2⟩
  generalize FlatR X w = Q at *
  replace hfin := Lib.hid hfin
  obtain ⟨A, n, c, rfl, hl, hn, hc⟩ := hx.row.form
  rw [vals_len] at hl
  obtain rfl : n = X.length := by omega
  clear hl
  have hrd := hx.row.rd
  have hed := Lib.hid (fun x hm => (hx.el x hm).rd)
  have h0 : St (snap w) [Row 41 2 (.slice (some ⟨w.heap.size, 0, none⟩) 0 0) (idl (lists (X.take 0)).flatten)] (w.alloc (.cells #[] 41)) := (St.start w).row_lit 41 2 0 #[] rfl (by decide)
  have en0 := (Env.refl w).alloc (.cells #[] 41)
  have hle := Lib.hid (flatl_le X)
  clear hx
  go_enter Tryz.func26, Tryz.ntmps26
  go_wp2_with fail
  generalize w.alloc (.cells #[] 41) = W at *
  generalize w.heap.size = gz at *
  go_loopw [3, 9] (fun s3 si wr => ∃ k : Nat, k ≤ X.length ∧ si = .int .i64 (k : Int) ∧ St (snap w) [Row 41 2 s3 (idl (lists (X.take k)).flatten)] wr ∧ Env w wr) (fun _ si _ => X.length - (intOf si).toNat)
  case atStart => exact ⟨0, by omega, by go_num, h0, en0⟩
  case round =>
    clear h0 en0
    obtain ⟨k, hk, rfl, hst, hen⟩ := hrel
    by_cases hlt : k < X.length
    · obtain ⟨b, off, hA, hcr⟩ := (hrd.rw hst).cells (by omega)
      cases hA
      have q0 := hcr _ _ (vals_get X k hlt)
      rw [Nat.mul_one] at q0
      have hfs := flatl_step X k hlt
      have hl1 := hle.out (k + 1)
      have hl2 := hle.out k
      have hxr := hed.out X[k] (List.getElem_mem hlt)
      have hk1 := Lib.hid (show k + 1 ≤ X.length by omega)
      rw [hfs, List.length_append] at hl1
      generalize X[k] = x at *
      clear hcr
      obtain ⟨xl, xv⟩ := x
      simp only at q0 hxr hfs hl1
      obtain ⟨xA, xn, xc, rfl, hx1, _⟩ := hxr.form
      rw [idl_len] at hx1
      obtain rfl : xn = xl.length := by omega
      have hxw := hxr.rw hst
      have ql := World.block_lt_of_cell? _ _ q0
      replace hfs := Lib.hid hfs
      clear hx1
      go_wp2_with (at_builtin; refine wpList_append rfl (.tmp 13) (.tmp 14) 35 35 rfl Tryz.underlying35 (.inl ⟨_, Tryz.underlying35⟩) (.agg #[.int .i64 0, .int .i64 0]) 16 info_id rfl (by decide) (by decide) rfl rfl hst (News.rw hxw (idl_one xl)) ?apB5 ?apK5)
      case apB5 => rw [idl_len, idl_len]; omega
      case apK5 =>
        intro lv2 w4 h4 en4
        replace en4 := hen.trans en4
        have h5 : St (snap w) [Row 41 2 lv2 (idl (lists (X.take (k + 1))).flatten)] w4 := by rw [hfs.out, idl_append]; exact h4
        clear h4 hst q0 ql hxw
        go_wp2_with fail
        go_roundw
        case rel => exact ⟨k + 1, hk1.out, by go_num, h5, en4⟩
        case measure => simp [intOf]; have := hk1.out; omega
    · obtain rfl : k = X.length := by omega
      rw [List.take_length] at hst
      obtain ⟨oA, on, oc, rfl, _⟩ := hst.row_form
      have hz := Lib.hid (hfin.out _ wr hst hen)
      clear hst hfin
      go_wp2_with fail
      exact hz.out
set_option maxRecDepth 100000 in
set_option maxHeartbeats 8000000 in
theorem refFlat_any (v : Value) (X : List Lv) (w : World) (hx : LvR w v X) (hb : (lists X).flatten.length ≤ 16777216) : Calls Tryz.prog 27 #[v] w (FlatR X w) := by
  have hfin : ∀ (v' : Value) (w' : World), St (snap w) [Row 41 2 v' (idl (lists X).flatten)] w' → Env w w' → FlatR X w (.returned v') w' := fun v' w' h1 h2 => ⟨v', rfl, h1, h2⟩
  generalize FlatR X w = Q at *
  replace hfin := Lib.hid hfin
  obtain ⟨A, n, c, rfl, hl, hn, hc⟩ := hx.row.form
  rw [vals_len] at hl
  obtain rfl : n = X.length := by omega
  clear hl
  have hrd := hx.row.rd
  have hed := Lib.hid (fun x hm => (hx.el x hm).rd)
  have h0 : St (snap w) [Row 41 2 (.slice (some ⟨w.heap.size, 0, none⟩) 0 0) (idl (lists (X.take 0)).flatten)] (w.alloc (.cells #[] 41)) := (St.start w).row_lit 41 2 0 #[] rfl (by decide)
  have en0 := (Env.refl w).alloc (.cells #[] 41)
  have hle := Lib.hid (flatl_le X)
  clear hx
  go_enter Tryz.func27, Tryz.ntmps27
  go_wp2_with fail
  generalize w.alloc (.cells #[] 41) = W at *
  generalize w.heap.size = gz at *
  go_loopw [3, 4] (fun s3 si wr => ∃ k : Nat, k ≤ X.length ∧ si = .int .i64 (k : Int) ∧ St (snap w) [Row 41 2 s3 (idl (lists (X.take k)).flatten)] wr ∧ Env w wr) (fun _ si _ => X.length - (intOf si).toNat)
  case atStart => exact ⟨0, by omega, by go_num, h0, en0⟩
  case round =>
    clear h0 en0
    obtain ⟨k, hk, rfl, hst, hen⟩ := hrel
    by_cases hlt : k < X.length
    · obtain ⟨b, off, hA, hcr⟩ := (hrd.rw hst).cells (by omega)
      cases hA
      have q0 := hcr _ _ (vals_get X k hlt)
      rw [Nat.mul_one] at q0
      have hfs := flatl_step X k hlt
      have hl1 := hle.out (k + 1)
      have hl2 := hle.out k
      have hxr := hed.out X[k] (List.getElem_mem hlt)
      have hk1 := Lib.hid (show k + 1 ≤ X.length by omega)
      rw [hfs, List.length_append] at hl1
      generalize X[k] = x at *
      clear hcr
      obtain ⟨xl, xv⟩ := x
      simp only at q0 hxr hfs hl1
      obtain ⟨xA, xn, xc, rfl, hx1, _⟩ := hxr.form
      rw [idl_len] at hx1
      obtain rfl : xn = xl.length := by omega
      have hxw := hxr.rw hst
      have ql := World.block_lt_of_cell? _ _ q0
      replace hfs := Lib.hid hfs
      clear hx1
      go_wp2_with (at_builtin; refine wpList_append rfl (.tmp 12) (.tmp 16) 35 35 rfl Tryz.underlying35 (.inl ⟨_, Tryz.underlying35⟩) (.agg #[.int .i64 0, .int .i64 0]) 16 info_id rfl (by decide) (by decide) rfl rfl hst (News.rw hxw (idl_one xl)) ?apB5 ?apK5)
      case apB5 => rw [idl_len, idl_len]; omega
      case apK5 =>
        intro lv2 w4 h4 en4
        replace en4 := hen.trans en4
        have h5 : St (snap w) [Row 41 2 lv2 (idl (lists (X.take (k + 1))).flatten)] w4 := by rw [hfs.out, idl_append]; exact h4
        clear h4 hst q0 ql hxw
        go_wp2_with fail
        go_roundw
        case rel => exact ⟨k + 1, hk1.out, by go_num, h5, en4⟩
        case measure => simp [intOf]; have := hk1.out; omega
    · obtain rfl : k = X.length := by omega
      rw [List.take_length] at hst
      obtain ⟨oA, on, oc, rfl, _⟩ := hst.row_form
      have hz := Lib.hid (hfin.out _ wr hst hen)
      clear hst hfin
      go_wp2_with fail
      exact hz.out
end Go.Proofs.YtcbckeoalmjcoaaGreat

/- Whether two records are the same: the program's. -/
set_option linter.unusedVariables false
set_option linter.unusedSimpArgs false
namespace Go.Proofs.YtcbckeoalmjcoaaGreat
open Go.RowKit Go.Cw Go.Fl
attribute [local go_sem ↓] eql_id neq_id
attribute [local go_sem] run_store_float
set_option maxRecDepth 100000 in
set_option maxHeartbeats 3200000 in
theorem equalIds_any (u v : Value) (xs ys : List Id) (w : World) (hx : Rw w 2 u (idl xs)) (hy : Rw w 2 v (idl ys)) :
    Calls Tryz.prog 56 #[u, v] w fun e w' => e = .returned (.bool (decide (xs = ys))) ∧ Below w.heap.size w w' := by
  obtain ⟨A1, n1, c1, rfl, hn1, hc1, hc1'⟩ := hx.form
  obtain ⟨A2, n2, c2, rfl, hn2, hc2, hc2'⟩ := hy.form
  rw [idl_len] at hn1 hn2
  obtain rfl : n1 = xs.length := by omega
  obtain rfl : n2 = ys.length := by omega
  clear hn1 hn2
  by_cases hlen : xs.length = ys.length
  · obtain ⟨G, hG⟩ : ∃ G, Hid (decide (xs.drop 0 = ys.drop 0) = G) := ⟨_, Lib.hid rfl⟩
    have hG2 : decide (xs = ys) = G := by rw [← hG.out]; simp
    rw [hG2]
    have hxr := hx.rd
    have hyr := hy.rd
    have hd := fun k h h' => dec_ids xs ys k h h'
    replace hd := Lib.hid hd
    rw [← hlen] at hyr hc2 ⊢
    replace hlen := Lib.hid hlen
    clear hG2 hx hy
    go_enter Tryz.func56, Tryz.ntmps56
    go_wp2_with fail
    go_loopw [13] (fun i wr => ∃ k : Nat, k ≤ xs.length ∧ i = .int .i64 (k : Int) ∧ St (snap w) [] wr ∧ Env w wr ∧ Hid (decide (xs.drop k = ys.drop k) = G)) (fun i _ => xs.length - (intOf i).toNat)
    case atStart => exact ⟨0, by omega, by go_num, St.start w, Env.refl w, hG⟩
    case round =>
      clear hG
      obtain ⟨k, hk, rfl, hst, hen, hg⟩ := hrel
      by_cases hlt : k < xs.length
      · have hlt2 : k < ys.length := by rw [← hlen.out]; exact hlt
        obtain ⟨xb, xo, hA, hcx⟩ := rd_at hxr (by omega)
        cases hA
        obtain ⟨yb, yo, hA, hcy⟩ := rd_at hyr (by omega)
        cases hA
        have p0 := hcx _ _ (idl_fst xs k hlt)
        have p1 := hcx _ _ (idl_snd xs k hlt)
        have q0 := hcy _ _ (idl_fst ys k hlt2)
        have q1 := hcy _ _ (idl_snd ys k hlt2)
        rw [← Nat.add_assoc] at p1 q1
        clear hcx hcy
        have hst2 := hd.out k hlt hlt2
        rw [hg.out] at hst2
        generalize xs[k] = x at *
        generalize ys[k] = y at *
        have kk : (fun w' : World => w'.cell? ⟨xb, xo + k * 2, none⟩ = some (.int .i64 x.1) ∧ w'.cell? ⟨xb, xo + k * 2 + 1, none⟩ = some (.int .i64 x.2) ∧ w'.cell? ⟨yb, yo + k * 2, none⟩ = some (.int .i64 y.1) ∧ w'.cell? ⟨yb, yo + k * 2 + 1, none⟩ = some (.int .i64 y.2)) wr.drew := ⟨hst.drew.cell p0, hst.drew.cell p1, hst.drew.cell q0, hst.drew.cell q1⟩
        have hk0 : (0 : Int) ≤ (k : Int) := by omega
        have hkl : (k : Int) < (xs.length : Int) := by omega
        by_cases h1 : x = y
        · have hb1 := idEq_of h1
          have hgn : Hid (decide (xs.drop (k + 1) = ys.drop (k + 1)) = G) := Lib.hid (by rw [hst2, show decide (x = y) = true from decide_eq_true h1, Bool.true_and])
          replace h1 := Lib.hid h1
          clear hst2 hg p0 p1 q0 q1
          obtain ⟨r, s⟩ := x
          obtain ⟨r', s'⟩ := y
          try simp only at hb1 kk
          go_wp2_with fail
          refine wp_region_held_drew (S := fun w' : World => w'.cell? ⟨xb, xo + k * 2, none⟩ = some (.int .i64 r) ∧ w'.cell? ⟨xb, xo + k * 2 + 1, none⟩ = some (.int .i64 s) ∧ w'.cell? ⟨yb, yo + k * 2, none⟩ = some (.int .i64 r') ∧ w'.cell? ⟨yb, yo + k * 2 + 1, none⟩ = some (.int .i64 s')) (by kernel_rfl) kk (fun hHeld => ?_)
          refine wpAnyH_take (i := 0) (oi := { dst := some 16, op := Go.Op.move (Go.Operand.tmp 0), type := 35, pos := "slices.go:25", after := #[], guard := none }) (v := ?_) rfl (by kernel_rfl) (by kernel_rfl) (by kernel_rfl) (fun _ _ _ h => h) (Or.inl ⟨by rfl, ?_⟩) (by assumption) ?_
          rotate_left
          · (intro w hSw; (try dsimp only at hSw); go_simp; (try (with_reducible rfl)))
          try simp only [Act.put, List.setIfInBounds_toArray, List.set_cons_zero, List.set_cons_succ]
          refine wpAnyH_take (i := 1) (oi := { dst := some 17, op := Go.Op.move (Go.Operand.tmp 5), type := 3, pos := "slices.go:25", after := #[], guard := none }) (v := ?_) rfl (by kernel_rfl) (by kernel_rfl) (by kernel_rfl) (fun _ _ _ h => h) (Or.inl ⟨by rfl, ?_⟩) (by assumption) ?_
          rotate_left
          · (intro w hSw; (try dsimp only at hSw); go_simp; (try (with_reducible rfl)))
          try simp only [Act.put, List.setIfInBounds_toArray, List.set_cons_zero, List.set_cons_succ]
          refine wpAnyH_take (i := 2) (oi := { dst := some 18, op := Go.Op.indexAddr 35 (Go.Operand.tmp 16) (Go.Operand.tmp 17), type := 0, pos := "slices.go:25", after := #[{ on := 0, ground := Go.Ground.data }, { on := 1, ground := Go.Ground.data }], guard := none }) (v := ?_) rfl (by kernel_rfl) (by kernel_rfl) (by kernel_rfl) (fun _ _ _ h => h) (Or.inl ⟨by rfl, ?_⟩) (by assumption) ?_
          rotate_left
          · (intro w hSw; (try dsimp only at hSw); go_simp; (try (with_reducible rfl)))
          try simp only [Act.put, List.setIfInBounds_toArray, List.set_cons_zero, List.set_cons_succ]
          refine wpAnyH_take (i := 3) (oi := { dst := some 19, op := Go.Op.load 41 (Go.Operand.tmp 18), type := 41, pos := "slices.go:25", after := #[{ on := 2, ground := Go.Ground.data }], guard := none }) (v := ?_) rfl (by kernel_rfl) (by kernel_rfl) (by kernel_rfl) (fun _ _ _ h => h) (Or.inl ⟨by rfl, ?_⟩) (by assumption) ?_
          rotate_left
          · (intro w hSw; (try dsimp only at hSw); go_simp; (try (with_reducible rfl)))
          try simp only [Act.put, List.setIfInBounds_toArray, List.set_cons_zero, List.set_cons_succ]
          refine wpAnyH_take (i := 4) (oi := { dst := some 20, op := Go.Op.move (Go.Operand.tmp 1), type := 35, pos := "slices.go:25", after := #[], guard := none }) (v := ?_) rfl (by kernel_rfl) (by kernel_rfl) (by kernel_rfl) (fun _ _ _ h => h) (Or.inl ⟨by rfl, ?_⟩) (by assumption) ?_
          rotate_left
          · (intro w hSw; (try dsimp only at hSw); go_simp; (try (with_reducible rfl)))
          try simp only [Act.put, List.setIfInBounds_toArray, List.set_cons_zero, List.set_cons_succ]
          refine wpAnyH_take (i := 5) (oi := { dst := some 21, op := Go.Op.move (Go.Operand.tmp 5), type := 3, pos := "slices.go:25", after := #[], guard := none }) (v := ?_) rfl (by kernel_rfl) (by kernel_rfl) (by kernel_rfl) (fun _ _ _ h => h) (Or.inl ⟨by rfl, ?_⟩) (by assumption) ?_
          rotate_left
          · (intro w hSw; (try dsimp only at hSw); go_simp; (try (with_reducible rfl)))
          try simp only [Act.put, List.setIfInBounds_toArray, List.set_cons_zero, List.set_cons_succ]
          refine wpAnyH_take (i := 6) (oi := { dst := some 22, op := Go.Op.indexAddr 35 (Go.Operand.tmp 20) (Go.Operand.tmp 21), type := 0, pos := "slices.go:25", after := #[{ on := 4, ground := Go.Ground.data }, { on := 5, ground := Go.Ground.data }], guard := none }) (v := ?_) rfl (by kernel_rfl) (by kernel_rfl) (by kernel_rfl) (fun _ _ _ h => h) (Or.inl ⟨by rfl, ?_⟩) (by assumption) ?_
          rotate_left
          · (intro w hSw; (try dsimp only at hSw); go_simp; (try (with_reducible rfl)))
          try simp only [Act.put, List.setIfInBounds_toArray, List.set_cons_zero, List.set_cons_succ]
          refine wpAnyH_take (i := 7) (oi := { dst := some 23, op := Go.Op.load 41 (Go.Operand.tmp 22), type := 41, pos := "slices.go:25", after := #[{ on := 6, ground := Go.Ground.data }], guard := none }) (v := ?_) rfl (by kernel_rfl) (by kernel_rfl) (by kernel_rfl) (fun _ _ _ h => h) (Or.inl ⟨by rfl, ?_⟩) (by assumption) ?_
          rotate_left
          · (intro w hSw; (try dsimp only at hSw); go_simp; (try (with_reducible rfl)))
          try simp only [Act.put, List.setIfInBounds_toArray, List.set_cons_zero, List.set_cons_succ]
          refine wpAnyH_take (i := 8) (oi := { dst := some 24, op := Go.Op.binOp Go.BinOp.neq 41 (Go.Operand.tmp 19) (Go.Operand.tmp 23) 41, type := 4, pos := "slices.go:25", after := #[{ on := 3, ground := Go.Ground.data }, { on := 7, ground := Go.Ground.data }], guard := none }) (v := ?_) rfl (by kernel_rfl) (by kernel_rfl) (by kernel_rfl) (fun _ _ _ h => h) (Or.inl ⟨by rfl, ?_⟩) (by assumption) ?_
          rotate_left
          · (intro w hSw; (try dsimp only at hSw); go_simp; (try (with_reducible rfl)))
          try simp only [Act.put, List.setIfInBounds_toArray, List.set_cons_zero, List.set_cons_succ]
          refine wpAnyH_done (by kernel_rfl) ?_ _
          clear hHeld kk hb1 hk0 hkl
          go_wp2_with fail
          go_roundw
          case rel => exact ⟨k + 1, by omega, by go_num, hst.drew, hen.drew, hgn⟩
          case measure => simp [intOf]; omega
        · have hb1 := idEq_not h1
          have hgn : Hid (G = false) := Lib.hid (by rw [hst2, show decide (x = y) = false from decide_eq_false h1, Bool.false_and])
          clear hst2 hg p0 p1 q0 q1 h1
          obtain ⟨r, s⟩ := x
          obtain ⟨r', s'⟩ := y
          try simp only at hb1 kk
          go_wp2_with fail
          refine wp_region_held_drew (S := fun w' : World => w'.cell? ⟨xb, xo + k * 2, none⟩ = some (.int .i64 r) ∧ w'.cell? ⟨xb, xo + k * 2 + 1, none⟩ = some (.int .i64 s) ∧ w'.cell? ⟨yb, yo + k * 2, none⟩ = some (.int .i64 r') ∧ w'.cell? ⟨yb, yo + k * 2 + 1, none⟩ = some (.int .i64 s')) (by kernel_rfl) kk (fun hHeld => ?_)
          refine wpAnyH_take (i := 0) (oi := { dst := some 16, op := Go.Op.move (Go.Operand.tmp 0), type := 35, pos := "slices.go:25", after := #[], guard := none }) (v := ?_) rfl (by kernel_rfl) (by kernel_rfl) (by kernel_rfl) (fun _ _ _ h => h) (Or.inl ⟨by rfl, ?_⟩) (by assumption) ?_
          rotate_left
          · (intro w hSw; (try dsimp only at hSw); go_simp; (try (with_reducible rfl)))
          try simp only [Act.put, List.setIfInBounds_toArray, List.set_cons_zero, List.set_cons_succ]
          refine wpAnyH_take (i := 1) (oi := { dst := some 17, op := Go.Op.move (Go.Operand.tmp 5), type := 3, pos := "slices.go:25", after := #[], guard := none }) (v := ?_) rfl (by kernel_rfl) (by kernel_rfl) (by kernel_rfl) (fun _ _ _ h => h) (Or.inl ⟨by rfl, ?_⟩) (by assumption) ?_
          rotate_left
          · (intro w hSw; (try dsimp only at hSw); go_simp; (try (with_reducible rfl)))
          try simp only [Act.put, List.setIfInBounds_toArray, List.set_cons_zero, List.set_cons_succ]
          refine wpAnyH_take (i := 2) (oi := { dst := some 18, op := Go.Op.indexAddr 35 (Go.Operand.tmp 16) (Go.Operand.tmp 17), type := 0, pos := "slices.go:25", after := #[{ on := 0, ground := Go.Ground.data }, { on := 1, ground := Go.Ground.data }], guard := none }) (v := ?_) rfl (by kernel_rfl) (by kernel_rfl) (by kernel_rfl) (fun _ _ _ h => h) (Or.inl ⟨by rfl, ?_⟩) (by assumption) ?_
          rotate_left
          · (intro w hSw; (try dsimp only at hSw); go_simp; (try (with_reducible rfl)))
          try simp only [Act.put, List.setIfInBounds_toArray, List.set_cons_zero, List.set_cons_succ]
          refine wpAnyH_take (i := 3) (oi := { dst := some 19, op := Go.Op.load 41 (Go.Operand.tmp 18), type := 41, pos := "slices.go:25", after := #[{ on := 2, ground := Go.Ground.data }], guard := none }) (v := ?_) rfl (by kernel_rfl) (by kernel_rfl) (by kernel_rfl) (fun _ _ _ h => h) (Or.inl ⟨by rfl, ?_⟩) (by assumption) ?_
          rotate_left
          · (intro w hSw; (try dsimp only at hSw); go_simp; (try (with_reducible rfl)))
          try simp only [Act.put, List.setIfInBounds_toArray, List.set_cons_zero, List.set_cons_succ]
          refine wpAnyH_take (i := 4) (oi := { dst := some 20, op := Go.Op.move (Go.Operand.tmp 1), type := 35, pos := "slices.go:25", after := #[], guard := none }) (v := ?_) rfl (by kernel_rfl) (by kernel_rfl) (by kernel_rfl) (fun _ _ _ h => h) (Or.inl ⟨by rfl, ?_⟩) (by assumption) ?_
          rotate_left
          · (intro w hSw; (try dsimp only at hSw); go_simp; (try (with_reducible rfl)))
          try simp only [Act.put, List.setIfInBounds_toArray, List.set_cons_zero, List.set_cons_succ]
          refine wpAnyH_take (i := 5) (oi := { dst := some 21, op := Go.Op.move (Go.Operand.tmp 5), type := 3, pos := "slices.go:25", after := #[], guard := none }) (v := ?_) rfl (by kernel_rfl) (by kernel_rfl) (by kernel_rfl) (fun _ _ _ h => h) (Or.inl ⟨by rfl, ?_⟩) (by assumption) ?_
          rotate_left
          · (intro w hSw; (try dsimp only at hSw); go_simp; (try (with_reducible rfl)))
          try simp only [Act.put, List.setIfInBounds_toArray, List.set_cons_zero, List.set_cons_succ]
          refine wpAnyH_take (i := 6) (oi := { dst := some 22, op := Go.Op.indexAddr 35 (Go.Operand.tmp 20) (Go.Operand.tmp 21), type := 0, pos := "slices.go:25", after := #[{ on := 4, ground := Go.Ground.data }, { on := 5, ground := Go.Ground.data }], guard := none }) (v := ?_) rfl (by kernel_rfl) (by kernel_rfl) (by kernel_rfl) (fun _ _ _ h => h) (Or.inl ⟨by rfl, ?_⟩) (by assumption) ?_
          rotate_left
          · (intro w hSw; (try dsimp only at hSw); go_simp; (try (with_reducible rfl)))
          try simp only [Act.put, List.setIfInBounds_toArray, List.set_cons_zero, List.set_cons_succ]
          refine wpAnyH_take (i := 7) (oi := { dst := some 23, op := Go.Op.load 41 (Go.Operand.tmp 22), type := 41, pos := "slices.go:25", after := #[{ on := 6, ground := Go.Ground.data }], guard := none }) (v := ?_) rfl (by kernel_rfl) (by kernel_rfl) (by kernel_rfl) (fun _ _ _ h => h) (Or.inl ⟨by rfl, ?_⟩) (by assumption) ?_
          rotate_left
          · (intro w hSw; (try dsimp only at hSw); go_simp; (try (with_reducible rfl)))
          try simp only [Act.put, List.setIfInBounds_toArray, List.set_cons_zero, List.set_cons_succ]
          refine wpAnyH_take (i := 8) (oi := { dst := some 24, op := Go.Op.binOp Go.BinOp.neq 41 (Go.Operand.tmp 19) (Go.Operand.tmp 23) 41, type := 4, pos := "slices.go:25", after := #[{ on := 3, ground := Go.Ground.data }, { on := 7, ground := Go.Ground.data }], guard := none }) (v := ?_) rfl (by kernel_rfl) (by kernel_rfl) (by kernel_rfl) (fun _ _ _ h => h) (Or.inl ⟨by rfl, ?_⟩) (by assumption) ?_
          rotate_left
          · (intro w hSw; (try dsimp only at hSw); go_simp; (try (with_reducible rfl)))
          try simp only [Act.put, List.setIfInBounds_toArray, List.set_cons_zero, List.set_cons_succ]
          refine wpAnyH_done (by kernel_rfl) ?_ _
          clear hHeld kk
          go_wp2_with fail
          go_ret
          exact ⟨rb hgn.out.symm, hst.drew.toBelow hen.drew⟩
      · obtain rfl : k = xs.length := by omega
        have hgn : Hid (G = true) := Lib.hid (by rw [← hg.out, List.drop_length, List.drop_eq_nil_of_le (by rw [← hlen.out]; omega)]; rfl)
        go_wp2_with fail
        go_ret
        exact ⟨rb hgn.out.symm, hst.toBelow hen⟩
  · have hne : decide (xs = ys) = false := decide_eq_false (fun e => hlen (by rw [e]))
    rw [hne]
    have hl : ((xs.length : Int) != (ys.length : Int)) = true := by rw [bne_iff_ne]; omega
    have hl2 : (xs.length == ys.length) = false := by simpa using hlen
    clear hne hlen
    go_enter Tryz.func56, Tryz.ntmps56
    go_wp2_with fail
    go_ret
    exact ⟨rfl, Below.refl _ _⟩
end Go.Proofs.YtcbckeoalmjcoaaGreat
