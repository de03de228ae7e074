/- Joined texts: CanRefR. -/
import Derived.Test.YtcbckeoalmjcoaaGreatCGR27
import Derived.Test.YtcbckeoalmjcoaaGreatCGR33
/- Reference 18: Right. -/
set_option linter.unusedVariables false
set_option linter.unusedSimpArgs false
namespace Go.Proofs.YtcbckeoalmjcoaaGreat
open Go.RowKit Go.Cw Go.Fl
attribute [local go_sem ↓] eql_id neq_id
/-- What of all lists was asked: is one of the first k the list? -/
def IsB (xl : List Id) (C : List (List Id)) (k : Nat) (B : Bool) : Prop := B = true ↔ xl ∈ C.take k
theorem IsB.next {xl : List Id} {C : List (List Id)} {k : Nat} {B : Bool} (h : IsB xl C k B) (hk : k < C.length) : IsB xl C (k + 1) (B || decide (C[k] = xl)) := by
  unfold IsB at *
  rw [List.take_add_one, List.getElem?_eq_getElem hk, List.mem_append, Bool.or_eq_true, h, decide_eq_true_eq]
  simp [eq_comm]
/-- What the document asks of a list's records. -/
def DepOk (nx : Id → List Id) (D xl : List Id) (q : Nat) : Prop := ∀ x ∈ xl.take q, ∀ d ∈ nx x, d ∈ D ∨ d ∈ xl
theorem DepOk.next {nx : Id → List Id} {D xl : List Id} {q : Nat} (h : DepOk nx D xl q) (hq : q < xl.length) (h2 : ∀ d ∈ nx xl[q], d ∈ D ∨ d ∈ xl) : DepOk nx D xl (q + 1) := fun x hx => by
  rw [List.take_add_one, List.getElem?_eq_getElem hq] at hx
  rcases List.mem_append.1 hx with hx | hx
  · exact h x hx
  · simp only [Option.toList_some, List.mem_singleton] at hx
    subst hx
    exact h2
open Classical in
set_option maxRecDepth 100000 in
set_option maxHeartbeats 16000000 in
theorem refRight_any (u v : Value) (l : List Rc) (X : List Lv) (H : Hp) (fr : List HA) (w : World) (h : St H fr w) (hx : Rd H 5 u (recs l)) (hl : ∀ x ∈ l, RcD H x) (hl16 : ∀ x ∈ l, x.2.2.2.2.1.length ≤ 16) (hlen : l.length ≤ 1000) (hv : Rd H 1 v (vals X)) (hX : LvOk H X) (hXf : (lists X).flatten.length ≤ 16777216) :
    Calls Tryz.prog 25 #[u, v] w fun e w' => e = .returned (.bool (decide (RightOf (l.map rp) (lists X)))) ∧ ∃ H', Hp.le H H' ∧ St H' fr w' ∧ Env w w' := by
  obtain ⟨z, hz⟩ : ∃ z, Hid (z = decide (RightOf (l.map rp) (lists X))) := ⟨_, Lib.hid rfl⟩
  rw [← hz.out]
  have hfin : ∀ (H' : Hp) (w' : World), Hp.le H H' → St H' fr w' → Env w w' → (fun (e : Ending) (w' : World) => e = .returned (.bool z) ∧ ∃ H', Hp.le H H' ∧ St H' fr w' ∧ Env w w') (.returned (.bool z)) w' := fun H' w' h1 h2 h3 => ⟨rfl, H', h1, h2, h3⟩
  generalize (fun (e : Ending) (w' : World) => e = .returned (.bool z) ∧ ∃ H', Hp.le H H' ∧ St H' fr w' ∧ Env w w') = Q at *
  replace hfin := Lib.hid hfin
  have hCo := Lib.hid (refOf_any u l H fr w h hx hl hl16 hlen)
  obtain ⟨vA, vn, vc, rfl, hv1, _⟩ := hv.form
  rw [vals_len] at hv1
  obtain rfl : vn = X.length := by omega
  obtain ⟨uA, un, uc, rfl, hu1, _⟩ := hx.form
  rw [recs_len] at hu1
  obtain rfl : un = l.length := by omega
  have hXb := hv.bound
  replace hX := Lib.hid hX
  replace hl := Lib.hid hl
  clear hv1 hu1 h
  go_enter Tryz.func25, Tryz.ntmps25
  go_wp2_with fail
  refine hCo.out.mono ?_
  rintro e w2 ⟨cv, A, H2, rfl, l2, h2, en2, hA0, hC⟩
  obtain ⟨H3, l3, h3, hAr⟩ := h2.row_keep
  have l13 := Hp.le_trans l2 l3
  have hA := Lib.hid (hA0.mono l3)
  obtain ⟨aA, an, ac, rfl, ha1, _⟩ := hAr.form
  rw [vals_len] at ha1
  obtain rfl : an = A.length := by omega
  have hAb := hAr.bound
  have hrr : Hid (z = rightB (dpsR (l.map rp)) (lists A) (lists (X.take 0)).flatten (lists (X.drop 0))) := Lib.hid (by
    rw [hz.out, List.drop_zero, Bool.eq_iff_iff, decide_eq_true_eq]
    exact (rightOf_eq hC).symm)
  have hcm := Lib.hid (fun (c : List Id) (hc : c ∈ lists A) => show c ≠ [] ∧ ∀ a ∈ c, a ∈ rids l from ⟨(hC.one c hc).1, fun a ha => by
    have := ((cnStart hC).inU hc ha).1
    rwa [pids_rp] at this⟩)
  have hdy : Hid (∀ (x : Id) (y : Rc), rp y = lookR (l.map rp) x → dpsR (l.map rp) x = y.2.2.2.2.1) := Lib.hid (fun x y hy => by unfold dpsR; rw [← hy])
  have hlk := Lib.hid (fun x => findAt_look x l 0)
  generalize dpsR (l.map rp) = nx at *
  have hfl := Lib.hid (flatl_le X)
  clear hCo h2 hA0 hC ha1 hz
  go_wp2_with fail
  go_loopw [6] (fun s6 wr => ∃ (k : Nat) (H' : Hp), k ≤ X.length ∧ s6 = .int .i64 (k : Int) ∧ Hp.le H3 H' ∧ St H' fr wr ∧ Env w wr ∧ Hid (z = rightB nx (lists A) (lists (X.take k)).flatten (lists (X.drop k)))) (fun s6 _ => X.length - (intOf s6).toNat)
  case atStart => exact ⟨0, H3, by omega, by go_num, Hp.le_refl _, h3, en2, hrr⟩
  case round =>
    clear h3 en2 hrr
    obtain ⟨k, H4, hk, rfl, l4, hst, hen, hz⟩ := hrel
    by_cases hlt : k < X.length
    · obtain ⟨b, off, hAe, hcr⟩ := Rd.form2 (hv.mono (Hp.le_trans l13 l4)) (by omega)
      cases hAe
      have q0 := hcr _ _ (vals_get X k hlt)
      rw [Nat.mul_one] at q0
      clear hcr
      have hxr := (hX.out X[k] (List.getElem_mem hlt)).mono (Hp.le_trans l13 l4)
      have hzs := hz.out.trans (right_step nx (lists A) X k hlt (fun a => Iff.rfl))
      have hk1 := Lib.hid (show k + 1 ≤ X.length by omega)
      generalize X[k] = x at *
      obtain ⟨xl, xv⟩ := x
      obtain ⟨xA, xn, xc, rfl, hx1, hx2, _⟩ := hxr.form
      simp only at hx1 hxr hzs q0
      rw [idl_len] at hx1
      obtain rfl : xn = xl.length := by omega
      have hIs0 : Hid (IsB xl (lists A) 0 false) := Lib.hid (show IsB xl (lists A) 0 false from Iff.intro (fun h => by cases h) (fun h => by simp at h))
      have hxb := hxr.bound
      have hki0 : (0 : Int) ≤ (k : Int) := by omega
      have hki1 : (k : Int) < (X.length : Int) := by omega
      replace hzs := Lib.hid hzs
      clear hx1
      go_wp2_with fail
      go_loopw [7, 8] (fun s7 s8 wr => ∃ (j : Nat) (B : Bool), j ≤ A.length ∧ s7 = .bool B ∧ s8 = .int .i64 (j : Int) ∧ St H4 fr wr ∧ Env w wr ∧ Hid (IsB xl (lists A) j B)) (fun _ s8 _ => A.length - (intOf s8).toNat)
      case atStart => exact ⟨0, false, by omega, rfl, by go_num, hst, hen, hIs0⟩
      case round =>
        clear hst hen hIs0
        obtain ⟨j, B, hj, rfl, rfl, hst, hen, hIs⟩ := hrel
        by_cases hjt : j < A.length
        · have hj1 := Lib.hid (show j + 1 ≤ A.length by omega)
          have hD := hst.drew
          have enD := hen.drew
          have hnx := hIs.out.next (by rw [lists_len16]; exact hjt)
          rw [lists_at A j hjt] at hnx
          cases B with
          | true =>
            rw [Bool.true_or] at hnx
            replace hnx := Lib.hid hnx
            clear hst hen hIs
            go_wp2_with fail
            refine wp_region_held_drew (S := fun _ => True) (by kernel_rfl) trivial (fun hHeld => ?_)
            refine wpAnyH_take (i := 0) (oi := { dst := some 27, op := Go.Op.move (Go.Operand.tmp 7), type := 4, pos := "ref.go:62", after := #[], guard := none }) (v := ?_) rfl (by kernel_rfl) (by kernel_rfl) (by kernel_rfl) (fun _ _ _ h => h) (Or.inl ⟨by rfl, ?_⟩) (by assumption) ?_
            rotate_left
            · (intro w hSw; (try dsimp only at hSw); go_simp; (try (with_reducible rfl)))
            try simp only [Act.put, List.setIfInBounds_toArray, List.set_cons_zero, List.set_cons_succ]
            refine wpAnyH_take (i := 1) (oi := { dst := some 28, op := Go.Op.move (Go.Operand.tmp 27), type := 4, pos := "ref.go:62", after := #[{ on := 0, ground := Go.Ground.data }], guard := none }) (v := ?_) rfl (by kernel_rfl) (by kernel_rfl) (by kernel_rfl) (fun _ _ _ h => h) (Or.inl ⟨by rfl, ?_⟩) (by assumption) ?_
            rotate_left
            · (intro w hSw; (try dsimp only at hSw); go_simp; (try (with_reducible rfl)))
            try simp only [Act.put, List.setIfInBounds_toArray, List.set_cons_zero, List.set_cons_succ]
            refine wpAnyH_take (i := 2) (oi := { dst := some 29, op := Go.Op.move (Go.Operand.tmp 5), type := 31, pos := "ref.go:62", after := #[{ on := 1, ground := Go.Ground.guard }], guard := some (1, false) }) (v := undef) rfl (by kernel_rfl) (by kernel_rfl) (by kernel_rfl) (fun _ _ _ h => h) (Or.inr ⟨by rfl, rfl⟩) (by assumption) ?_
            try simp only [Act.put, List.setIfInBounds_toArray, List.set_cons_zero, List.set_cons_succ]
            refine wpAnyH_take (i := 3) (oi := { dst := some 30, op := Go.Op.move (Go.Operand.tmp 8), type := 3, pos := "ref.go:62", after := #[{ on := 1, ground := Go.Ground.guard }], guard := some (1, false) }) (v := undef) rfl (by kernel_rfl) (by kernel_rfl) (by kernel_rfl) (fun _ _ _ h => h) (Or.inr ⟨by rfl, rfl⟩) (by assumption) ?_
            try simp only [Act.put, List.setIfInBounds_toArray, List.set_cons_zero, List.set_cons_succ]
            refine wpAnyH_take (i := 4) (oi := { dst := some 31, op := Go.Op.indexAddr 31 (Go.Operand.tmp 29) (Go.Operand.tmp 30), type := 0, pos := "ref.go:62", after := #[{ on := 2, ground := Go.Ground.data }, { on := 3, ground := Go.Ground.data }, { on := 1, ground := Go.Ground.guard }], guard := some (1, false) }) (v := undef) rfl (by kernel_rfl) (by kernel_rfl) (by kernel_rfl) (fun _ _ _ h => h) (Or.inr ⟨by rfl, rfl⟩) (by assumption) ?_
            try simp only [Act.put, List.setIfInBounds_toArray, List.set_cons_zero, List.set_cons_succ]
            refine wpAnyH_take (i := 5) (oi := { dst := some 32, op := Go.Op.load 35 (Go.Operand.tmp 31), type := 35, pos := "ref.go:62", after := #[{ on := 4, ground := Go.Ground.data }, { on := 1, ground := Go.Ground.guard }], guard := some (1, false) }) (v := undef) rfl (by kernel_rfl) (by kernel_rfl) (by kernel_rfl) (fun _ _ _ h => h) (Or.inr ⟨by rfl, rfl⟩) (by assumption) ?_
            try simp only [Act.put, List.setIfInBounds_toArray, List.set_cons_zero, List.set_cons_succ]
            refine wpAnyH_take (i := 6) (oi := { dst := some 33, op := Go.Op.move (Go.Operand.tmp 1), type := 31, pos := "ref.go:62", after := #[{ on := 1, ground := Go.Ground.guard }], guard := some (1, false) }) (v := undef) rfl (by kernel_rfl) (by kernel_rfl) (by kernel_rfl) (fun _ _ _ h => h) (Or.inr ⟨by rfl, rfl⟩) (by assumption) ?_
            try simp only [Act.put, List.setIfInBounds_toArray, List.set_cons_zero, List.set_cons_succ]
            refine wpAnyH_take (i := 7) (oi := { dst := some 34, op := Go.Op.move (Go.Operand.tmp 6), type := 3, pos := "ref.go:62", after := #[{ on := 1, ground := Go.Ground.guard }], guard := some (1, false) }) (v := undef) rfl (by kernel_rfl) (by kernel_rfl) (by kernel_rfl) (fun _ _ _ h => h) (Or.inr ⟨by rfl, rfl⟩) (by assumption) ?_
            try simp only [Act.put, List.setIfInBounds_toArray, List.set_cons_zero, List.set_cons_succ]
            refine wpAnyH_take (i := 8) (oi := { dst := some 35, op := Go.Op.indexAddr 31 (Go.Operand.tmp 33) (Go.Operand.tmp 34), type := 0, pos := "ref.go:62", after := #[{ on := 6, ground := Go.Ground.data }, { on := 7, ground := Go.Ground.data }, { on := 1, ground := Go.Ground.guard }], guard := some (1, false) }) (v := undef) rfl (by kernel_rfl) (by kernel_rfl) (by kernel_rfl) (fun _ _ _ h => h) (Or.inr ⟨by rfl, rfl⟩) (by assumption) ?_
            try simp only [Act.put, List.setIfInBounds_toArray, List.set_cons_zero, List.set_cons_succ]
            refine wpAnyH_take (i := 9) (oi := { dst := some 36, op := Go.Op.load 35 (Go.Operand.tmp 35), type := 35, pos := "ref.go:62", after := #[{ on := 8, ground := Go.Ground.data }, { on := 1, ground := Go.Ground.guard }], guard := some (1, false) }) (v := undef) rfl (by kernel_rfl) (by kernel_rfl) (by kernel_rfl) (fun _ _ _ h => h) (Or.inr ⟨by rfl, rfl⟩) (by assumption) ?_
            try simp only [Act.put, List.setIfInBounds_toArray, List.set_cons_zero, List.set_cons_succ]
            refine wpAnyH_take (i := 10) (oi := { dst := some 37, op := Go.Op.call { callee := Go.Callee.value (Go.Operand.func 15), args := #[Go.Operand.tmp 32, Go.Operand.tmp 36], argTypes := #[35, 35] }, type := 4, pos := "ref.go:62", after := #[{ on := 5, ground := Go.Ground.data }, { on := 9, ground := Go.Ground.data }, { on := 1, ground := Go.Ground.chain }, { on := 1, ground := Go.Ground.guard }], guard := some (1, false) }) (v := undef) rfl (by kernel_rfl) (by kernel_rfl) (by kernel_rfl) (fun _ _ _ h => h) (Or.inr ⟨by rfl, rfl⟩) (by assumption) ?_
            try simp only [Act.put, List.setIfInBounds_toArray, List.set_cons_zero, List.set_cons_succ]
            refine wpAnyH_take (i := 11) (oi := { dst := some 38, op := Go.Op.pick (Go.Operand.tmp 28) (Go.Operand.const (Go.Value.bool true)) (Go.Operand.tmp 37), type := 4, pos := "ref.go:62", after := #[{ on := 1, ground := Go.Ground.data }, { on := 10, ground := Go.Ground.data }], guard := none }) (v := ?_) rfl (by kernel_rfl) (by kernel_rfl) (by kernel_rfl) (fun _ _ _ h => h) (Or.inl ⟨by rfl, ?_⟩) (by assumption) ?_
            rotate_left
            · (intro w hSw; (try dsimp only at hSw); go_simp; (try (with_reducible rfl)))
            try simp only [Act.put, List.setIfInBounds_toArray, List.set_cons_zero, List.set_cons_succ]
            refine wpAnyH_take (i := 12) (oi := { dst := some 7, op := Go.Op.assign (Go.Operand.tmp 38), type := 4, pos := "ref.go:62", after := #[{ on := 11, ground := Go.Ground.data }, { on := 10, ground := Go.Ground.chain }, { on := 0, ground := Go.Ground.phase }, { on := 1, ground := Go.Ground.phase }, { on := 2, ground := Go.Ground.phase }, { on := 3, ground := Go.Ground.phase }, { on := 4, ground := Go.Ground.phase }, { on := 5, ground := Go.Ground.phase }, { on := 6, ground := Go.Ground.phase }, { on := 7, ground := Go.Ground.phase }, { on := 8, ground := Go.Ground.phase }, { on := 9, ground := Go.Ground.phase }, { on := 10, ground := Go.Ground.phase }, { on := 11, ground := Go.Ground.phase }], guard := none }) (v := ?_) rfl (by kernel_rfl) (by kernel_rfl) (by kernel_rfl) (fun _ _ _ h => h) (Or.inl ⟨by rfl, ?_⟩) (by assumption) ?_
            rotate_left
            · (intro w hSw; (try dsimp only at hSw); go_simp; (try (with_reducible rfl)))
            try simp only [Act.put, List.setIfInBounds_toArray, List.set_cons_zero, List.set_cons_succ]
            refine wpAnyH_done (by kernel_rfl) ?_ _
            go_wp2_with fail
            go_roundw
            case rel => exact ⟨j + 1, true, hj1.out, rfl, by go_num, hD, enD, hnx⟩
            case measure => simp [intOf]; have := hj1.out; omega
          | false =>
            rw [Bool.false_or] at hnx
            obtain ⟨b2, off2, hAe, hcr⟩ := Rd.form2 (hAr.mono l4) (by omega)
            cases hAe
            have c1 := hcr _ _ (vals_get A j hjt)
            rw [Nat.mul_one] at c1
            have hyr := (hA.out A[j] (List.getElem_mem hjt)).mono l4
            clear hcr
            generalize A[j] = y at *
            obtain ⟨yl, yv⟩ := y
            obtain ⟨yA, yn, yc, rfl, _⟩ := hyr.form
            simp only at hyr c1 hnx
            have kk : ∀ (l' : List HA) (w' : World), St H4 l' w' → w'.cell? ⟨b, off + k, none⟩ = some (.slice xA xl.length xc) ∧ w'.cell? ⟨b2, off2 + j, none⟩ = some (.slice yA yn yc) := fun l' w' h' => ⟨h'.cell q0, h'.cell c1⟩
            have kA := kk _ _ hD
            have hSm := sameIds_any (.slice yA yn yc) (.slice xA xl.length xc) yl xl _ (hyr.rw hD) (hxr.rw hD)
            have hj0 : (0 : Int) ≤ (j : Int) := by omega
            have hji : (j : Int) < (A.length : Int) := by omega
            generalize decide (yl = xl) = E at *
            replace hSm := Lib.hid hSm
            replace kk := Lib.hid kk
            replace hnx := Lib.hid hnx
            clear hst hen hIs
            go_wp2_with fail
            refine wp_region_held_drew (S := fun w' => w'.cell? ⟨b, off + k, none⟩ = some (.slice xA xl.length xc) ∧ w'.cell? ⟨b2, off2 + j, none⟩ = some (.slice yA yn yc)) (by kernel_rfl) kA (fun hHeld => ?_)
            refine wpAnyH_take (i := 0) (oi := { dst := some 27, op := Go.Op.move (Go.Operand.tmp 7), type := 4, pos := "ref.go:62", after := #[], guard := none }) (v := ?_) rfl (by kernel_rfl) (by kernel_rfl) (by kernel_rfl) (fun _ _ _ h => h) (Or.inl ⟨by rfl, ?_⟩) (by assumption) ?_
            rotate_left
            · (intro w hSw; (try dsimp only at hSw); go_simp; (try (with_reducible rfl)))
            try simp only [Act.put, List.setIfInBounds_toArray, List.set_cons_zero, List.set_cons_succ]
            refine wpAnyH_take (i := 1) (oi := { dst := some 28, op := Go.Op.move (Go.Operand.tmp 27), type := 4, pos := "ref.go:62", after := #[{ on := 0, ground := Go.Ground.data }], guard := none }) (v := ?_) rfl (by kernel_rfl) (by kernel_rfl) (by kernel_rfl) (fun _ _ _ h => h) (Or.inl ⟨by rfl, ?_⟩) (by assumption) ?_
            rotate_left
            · (intro w hSw; (try dsimp only at hSw); go_simp; (try (with_reducible rfl)))
            try simp only [Act.put, List.setIfInBounds_toArray, List.set_cons_zero, List.set_cons_succ]
            refine wpAnyH_take (i := 2) (oi := { dst := some 29, op := Go.Op.move (Go.Operand.tmp 5), type := 31, pos := "ref.go:62", after := #[{ on := 1, ground := Go.Ground.guard }], guard := some (1, false) }) (v := ?_) rfl (by kernel_rfl) (by kernel_rfl) (by kernel_rfl) (fun _ _ _ h => h) (Or.inl ⟨by rfl, ?_⟩) (by assumption) ?_
            rotate_left
            · (intro w hSw; (try dsimp only at hSw); go_simp; (try (with_reducible rfl)))
            try simp only [Act.put, List.setIfInBounds_toArray, List.set_cons_zero, List.set_cons_succ]
            refine wpAnyH_take (i := 3) (oi := { dst := some 30, op := Go.Op.move (Go.Operand.tmp 8), type := 3, pos := "ref.go:62", after := #[{ on := 1, ground := Go.Ground.guard }], guard := some (1, false) }) (v := ?_) rfl (by kernel_rfl) (by kernel_rfl) (by kernel_rfl) (fun _ _ _ h => h) (Or.inl ⟨by rfl, ?_⟩) (by assumption) ?_
            rotate_left
            · (intro w hSw; (try dsimp only at hSw); go_simp; (try (with_reducible rfl)))
            try simp only [Act.put, List.setIfInBounds_toArray, List.set_cons_zero, List.set_cons_succ]
            refine wpAnyH_take (i := 4) (oi := { dst := some 31, op := Go.Op.indexAddr 31 (Go.Operand.tmp 29) (Go.Operand.tmp 30), type := 0, pos := "ref.go:62", after := #[{ on := 2, ground := Go.Ground.data }, { on := 3, ground := Go.Ground.data }, { on := 1, ground := Go.Ground.guard }], guard := some (1, false) }) (v := ?_) rfl (by kernel_rfl) (by kernel_rfl) (by kernel_rfl) (fun _ _ _ h => h) (Or.inl ⟨by rfl, ?_⟩) (by assumption) ?_
            rotate_left
            · (intro w hSw; (try dsimp only at hSw); go_simp; (try (with_reducible rfl)))
            try simp only [Act.put, List.setIfInBounds_toArray, List.set_cons_zero, List.set_cons_succ]
            refine wpAnyH_take (i := 5) (oi := { dst := some 32, op := Go.Op.load 35 (Go.Operand.tmp 31), type := 35, pos := "ref.go:62", after := #[{ on := 4, ground := Go.Ground.data }, { on := 1, ground := Go.Ground.guard }], guard := some (1, false) }) (v := ?_) rfl (by kernel_rfl) (by kernel_rfl) (by kernel_rfl) (fun _ _ _ h => h) (Or.inl ⟨by rfl, ?_⟩) (by assumption) ?_
            rotate_left
            · (intro w hSw; (try dsimp only at hSw); go_simp; (try (with_reducible rfl)))
            try simp only [Act.put, List.setIfInBounds_toArray, List.set_cons_zero, List.set_cons_succ]
            refine wpAnyH_take (i := 6) (oi := { dst := some 33, op := Go.Op.move (Go.Operand.tmp 1), type := 31, pos := "ref.go:62", after := #[{ on := 1, ground := Go.Ground.guard }], guard := some (1, false) }) (v := ?_) rfl (by kernel_rfl) (by kernel_rfl) (by kernel_rfl) (fun _ _ _ h => h) (Or.inl ⟨by rfl, ?_⟩) (by assumption) ?_
            rotate_left
            · (intro w hSw; (try dsimp only at hSw); go_simp; (try (with_reducible rfl)))
            try simp only [Act.put, List.setIfInBounds_toArray, List.set_cons_zero, List.set_cons_succ]
            refine wpAnyH_take (i := 7) (oi := { dst := some 34, op := Go.Op.move (Go.Operand.tmp 6), type := 3, pos := "ref.go:62", after := #[{ on := 1, ground := Go.Ground.guard }], guard := some (1, false) }) (v := ?_) rfl (by kernel_rfl) (by kernel_rfl) (by kernel_rfl) (fun _ _ _ h => h) (Or.inl ⟨by rfl, ?_⟩) (by assumption) ?_
            rotate_left
            · (intro w hSw; (try dsimp only at hSw); go_simp; (try (with_reducible rfl)))
            try simp only [Act.put, List.setIfInBounds_toArray, List.set_cons_zero, List.set_cons_succ]
            refine wpAnyH_take (i := 8) (oi := { dst := some 35, op := Go.Op.indexAddr 31 (Go.Operand.tmp 33) (Go.Operand.tmp 34), type := 0, pos := "ref.go:62", after := #[{ on := 6, ground := Go.Ground.data }, { on := 7, ground := Go.Ground.data }, { on := 1, ground := Go.Ground.guard }], guard := some (1, false) }) (v := ?_) rfl (by kernel_rfl) (by kernel_rfl) (by kernel_rfl) (fun _ _ _ h => h) (Or.inl ⟨by rfl, ?_⟩) (by assumption) ?_
            rotate_left
            · (intro w hSw; (try dsimp only at hSw); go_simp; (try (with_reducible rfl)))
            try simp only [Act.put, List.setIfInBounds_toArray, List.set_cons_zero, List.set_cons_succ]
            refine wpAnyH_take (i := 9) (oi := { dst := some 36, op := Go.Op.load 35 (Go.Operand.tmp 35), type := 35, pos := "ref.go:62", after := #[{ on := 8, ground := Go.Ground.data }, { on := 1, ground := Go.Ground.guard }], guard := some (1, false) }) (v := ?_) rfl (by kernel_rfl) (by kernel_rfl) (by kernel_rfl) (fun _ _ _ h => h) (Or.inl ⟨by rfl, ?_⟩) (by assumption) ?_
            rotate_left
            · (intro w hSw; (try dsimp only at hSw); go_simp; (try (with_reducible rfl)))
            try simp only [Act.put, List.setIfInBounds_toArray, List.set_cons_zero, List.set_cons_succ]
            refine wpAnyH_ready (rs := [10]) (by kernel_rfl) (by simp) ?_
            refine AllReadyH.cons (o := { dst := some 37, op := Go.Op.call { callee := Go.Callee.value (Go.Operand.func 15), args := #[Go.Operand.tmp 32, Go.Operand.tmp 36], argTypes := #[35, 35] }, type := 4, pos := "ref.go:62", after := #[{ on := 5, ground := Go.Ground.data }, { on := 9, ground := Go.Ground.data }, { on := 1, ground := Go.Ground.chain }, { on := 1, ground := Go.Ground.guard }], guard := some (1, false) }) rfl (fun K hK => ?_) AllReadyH.nil
            go_simp
            refine hSm.out.mono ?_
            rintro e w9 ⟨rfl, hb9⟩
            have h9 := hD.below hb9
            have en9 := enD.trans (bel_env hb9)
            refine hK.out _ _ (kk.out _ _ h9) (fun hHeld2 => ?_)
            clear hK K hHeld
            try simp only [Act.put, List.setIfInBounds_toArray, List.set_cons_zero, List.set_cons_succ]
            refine wpAnyH_take (i := 11) (oi := { dst := some 38, op := Go.Op.pick (Go.Operand.tmp 28) (Go.Operand.const (Go.Value.bool true)) (Go.Operand.tmp 37), type := 4, pos := "ref.go:62", after := #[{ on := 1, ground := Go.Ground.data }, { on := 10, ground := Go.Ground.data }], guard := none }) (v := ?_) rfl (by kernel_rfl) (by kernel_rfl) (by kernel_rfl) (fun _ _ _ h => h) (Or.inl ⟨by rfl, ?_⟩) (by assumption) ?_
            rotate_left
            · (intro w hSw; (try dsimp only at hSw); go_simp; (try (with_reducible rfl)))
            try simp only [Act.put, List.setIfInBounds_toArray, List.set_cons_zero, List.set_cons_succ]
            refine wpAnyH_take (i := 12) (oi := { dst := some 7, op := Go.Op.assign (Go.Operand.tmp 38), type := 4, pos := "ref.go:62", after := #[{ on := 11, ground := Go.Ground.data }, { on := 10, ground := Go.Ground.chain }, { on := 0, ground := Go.Ground.phase }, { on := 1, ground := Go.Ground.phase }, { on := 2, ground := Go.Ground.phase }, { on := 3, ground := Go.Ground.phase }, { on := 4, ground := Go.Ground.phase }, { on := 5, ground := Go.Ground.phase }, { on := 6, ground := Go.Ground.phase }, { on := 7, ground := Go.Ground.phase }, { on := 8, ground := Go.Ground.phase }, { on := 9, ground := Go.Ground.phase }, { on := 10, ground := Go.Ground.phase }, { on := 11, ground := Go.Ground.phase }], guard := none }) (v := ?_) rfl (by kernel_rfl) (by kernel_rfl) (by kernel_rfl) (fun _ _ _ h => h) (Or.inl ⟨by rfl, ?_⟩) (by assumption) ?_
            rotate_left
            · (intro w hSw; (try dsimp only at hSw); go_simp; (try (with_reducible rfl)))
            try simp only [Act.put, List.setIfInBounds_toArray, List.set_cons_zero, List.set_cons_succ]
            refine wpAnyH_done (by kernel_rfl) ?_ _
            clear hSm hD enD kA kk hHeld2 hb9
            go_wp2_with fail
            go_roundw
            case rel => exact ⟨j + 1, E, hj1.out, rfl, by go_num, h9, en9, hnx⟩
            case measure => simp [intOf]; have := hj1.out; omega
        · obtain rfl : j = A.length := by omega
          have hmem : B = true ↔ xl ∈ lists A := by have := hIs.out; unfold IsB at this; rwa [List.take_of_length_le (by rw [lists_len16]; exact Nat.le_refl _)] at this
          clear hIs
          cases B with
          | false =>
            have hzf := hzs.out
            rw [mayB_not (fun hm => by have := hmem.2 hm; cases this), Bool.false_and] at hzf
            have hq := Lib.hid (hfin.out H4 wr (Hp.le_trans l13 l4) hst hen)
            rw [hzf] at hq
            have q0 := hst.cell q0
            clear hfin hst hen hz hzs hzf hmem
            go_wp2_with fail
            exact hq.out
          | true =>
            have hmem2 := Lib.hid (hmem.1 rfl)
            have hcc := hcm.out xl hmem2.out
            have hnil := hcc.1
            have hpos : 0 < xl.length := List.length_pos_iff.2 hnil
            have hposi : (0 : Int) < (xl.length : Int) := by omega
            have hne0 : ((xl.length : Int) == 0) = false := by rw [beq_eq_false_iff_ne]; omega
            obtain ⟨tb, toff, hAe, htc⟩ := Rd.form2 hxr hpos
            cases hAe
            have t0 := htc _ _ (idl_fst xl 0 hpos)
            have t1 := htc _ _ (idl_snd xl 0 hpos)
            rw [Nat.zero_mul, Nat.add_zero] at t0
            rw [Nat.zero_mul, Nat.zero_add] at t1
            have hhd := hdI_at hpos
            generalize xl[0] = a at *
            obtain ⟨a0, a1⟩ := a
            simp only at t0 t1
            have u0 := hst.cell t0
            have u1 := hst.cell t1
            have ul := World.block_lt_of_cell? _ _ u0
            have q1 := hst.cell q0
            have ql := World.block_lt_of_cell? _ _ q1
            have hvk := (hv.mono (Hp.le_trans l13 l4)).take k (by omega)
            rw [show (vals X).take (k * 1) = vals (X.take k) by unfold vals; rw [List.map_take, Nat.mul_one]] at hvk
            have hFl := Lib.hid (refFlat_any (.slice (some ⟨b, off, none⟩) k vc) (X.take k) wr ⟨hvk.rw hst, fun y hy => ((hX.out y (List.mem_of_mem_take hy)).mono (Hp.le_trans l13 l4)).rw hst⟩ (Nat.le_trans (hfl.out k) hXf))
            have hvc0 : ¬ vc = 0 := by omega
            have hkc : (k : Int) ≤ (vc : Int) := by omega
            obtain ⟨D, hDe⟩ : ∃ D, (lists (X.take k)).flatten = D := ⟨_, rfl⟩
            unfold FlatR at hFl
            rw [hDe] at hFl hzs
            have hDb : D.length ≤ 16777216 := by rw [← hDe]; exact Nat.le_trans (hfl.out k) hXf
            replace hDe := Lib.hid hDe
            replace hhd := Lib.hid hhd
            replace hnil := Lib.hid hnil
            replace hcc := Lib.hid hcc.2
            clear htc hmem hvk
            go_wp2_with fail
            refine hFl.out.mono ?_
            rintro e w5 ⟨dv, rfl, h5a, en5a⟩
            have h5 := hst.lift h5a en5a
            have en5 := hen.trans en5a
            obtain ⟨H5, l5, h6, hdr⟩ := h5.row_keep
            replace h6 : St H5 fr w5 := h6
            obtain ⟨dA, dn, dc, rfl, hd1, _⟩ := hdr.form
            rw [idl_len] at hd1
            obtain rfl : dn = D.length := by omega
            replace hxr := hxr.mono l5
            have q0 := Hp.cell_le l5 q0
            have q1 := h6.cell q0
            have ql := World.block_lt_of_cell? _ _ q1
            have u0 := h6.cell (Hp.cell_le l5 t0)
            have u1 := h6.cell (Hp.cell_le l5 t1)
            have ul := World.block_lt_of_cell? _ _ u0
            have hHs := Lib.hid (hasIds_any (.slice dA D.length dc) D (a0, a1) w5 (hdr.rw h6))
            clear hFl h5a en5a h5 hst hen hd1
            go_wp2_with fail
            refine hHs.out.mono ?_
            rintro e w7 ⟨rfl, hb7⟩
            have h7 := h6.below hb7
            have en7 := en5.trans (bel_env hb7)
            clear hHs u0 u1 ul q1 ql h6 en5 hb7
            by_cases hhad : (a0, a1) ∈ D
            · rw [decide_eq_true hhad]
              have hzf := hzs.out
              rw [mayB_had (by rw [hhd.out]; exact hhad), Bool.false_and] at hzf
              have hq := Lib.hid (hfin.out H5 w7 (Hp.le_trans l13 (Hp.le_trans l4 l5)) h7 en7)
              rw [hzf] at hq
              clear hfin h7 en7 hz hzs hzf hhad
              go_wp2_with fail
              exact hq.out
            · rw [decide_eq_false hhad]
              have hnh := Lib.hid (show hdI xl ∉ D by rw [hhd.out]; exact hhad)
              have hok0 : Hid (DepOk nx D xl 0) := Lib.hid (fun x hx => by simp at hx)
              have l45 := Hp.le_trans l4 l5
              clear hhad
              go_wp2_with fail
              go_loopw [10] (fun s10 wr => ∃ q : Nat, q ≤ xl.length ∧ s10 = .int .i64 (q : Int) ∧ St H5 fr wr ∧ Env w wr ∧ Hid (DepOk nx D xl q)) (fun s10 _ => xl.length - (intOf s10).toNat)
              case atStart => exact ⟨0, by omega, by go_num, h7, en7, hok0⟩
              case round =>
                clear h7 en7 hok0
                obtain ⟨q, hq, rfl, hst, hen, hok⟩ := hrel
                have q1 := hst.cell q0
                have ql := World.block_lt_of_cell? _ _ q1
                by_cases hqt : q < xl.length
                · obtain ⟨b3, off3, hAe, hcr⟩ := (hxr.rw hst).cells (by omega)
                  cases hAe
                  have r0 := hcr _ _ (idl_fst xl q hqt)
                  have r1 := hcr _ _ (idl_snd xl q hqt)
                  rw [← Nat.add_assoc] at r1
                  have rl := World.block_lt_of_cell? _ _ r0
                  clear hcr
                  have hin := hcc.out xl[q] (List.getElem_mem hqt)
                  have hnext := Lib.hid (fun h2 => hok.out.next hqt h2)
                  have hbad := Lib.hid (fun (d : Id) (h1 : d ∈ nx xl[q]) (h2 : d ∉ D) (h3 : d ∉ xl) => show d ∈ outP nx xl from outP_mem.2 ⟨_, List.getElem_mem hqt, h1, h3⟩)
                  have hq1 := Lib.hid (show q + 1 ≤ xl.length by omega)
                  generalize xl[q] = y at *
                  obtain ⟨j, hj, hFj, hLj, hLr⟩ := hlk.out y hin
                  have hF := find_any (.slice uA l.length uc) l y wr ((hx.mono (Hp.le_trans l13 l45)).rw hst)
                  rw [hFj, Int.zero_add] at hF
                  have hDe2 := hdy.out y l[j] hLr
                  obtain ⟨b4, off4, hAe, hcr⟩ := Rd.form2 (hx.mono (Hp.le_trans l13 l45)) (by omega)
                  cases hAe
                  have p3 := hcr _ _ (recs_get l j hj).2.2.2.1
                  rw [← Nat.add_assoc] at p3
                  clear hcr
                  have hyd := ((hl.out l[j] (List.getElem_mem hj)).d).mono (Hp.le_trans l13 l45)
                  have hy16 := hl16 l[j] (List.getElem_mem hj)
                  generalize l[j] = r at *
                  obtain ⟨d1, d2, d3, hdv, hd4, _⟩ := hyd.form
                  obtain ⟨⟨y0, y1⟩, yq, yd, yb, yD, yB⟩ := r
                  simp only at hdv p3 hyd hd4 hDe2 hy16
                  subst hdv
                  rw [hDe2] at hnext hbad
                  rw [idl_len] at hd4
                  obtain rfl : d2 = yD.length := by omega
                  have hj' : (j : Int) < (l.length : Int) := by omega
                  have hj0 : (0 : Int) ≤ (j : Int) := by omega
                  replace hF := Lib.hid hF
                  obtain ⟨z0, z1⟩ := y
                  simp only at r0 r1
                  have hp3 := Lib.hid (fun (l' : List HA) (w' : World) (h' : St H5 l' w') => h'.cell p3)
                  clear hd4 hLr hLj hFj hin hDe2 hok p3
                  go_wp2_with fail
                  refine hF.out.mono ?_
                  rintro e w8 ⟨rfl, hb8⟩
                  have h8 := hst.below hb8
                  have en8 := hen.trans (bel_env hb8)
                  have p3 := hp3.out _ _ h8
                  have p3l := World.block_lt_of_cell? _ _ p3
                  have hal0 : Hid (∀ d ∈ yD.take 0, d ∈ D ∨ d ∈ xl) := Lib.hid (by simp)
                  clear hF hst hen hb8 r0 r1 rl q1 ql
                  go_wp2_with fail
                  clear p3 p3l
                  go_loopw [12] (fun s12 wr => ∃ m : Nat, m ≤ yD.length ∧ s12 = .int .i64 (m : Int) ∧ St H5 fr wr ∧ Env w wr ∧ Hid (∀ d ∈ yD.take m, d ∈ D ∨ d ∈ xl)) (fun s12 _ => yD.length - (intOf s12).toNat)
                  case atStart => exact ⟨0, by omega, by go_num, h8, en8, hal0⟩
                  case round =>
                    clear h8 en8 hal0
                    obtain ⟨m, hm, rfl, hst, hen, hal⟩ := hrel
                    by_cases hmt : m < yD.length
                    · obtain ⟨b5, off5, hAe, hcr⟩ := Rd.form2 hyd (by omega)
                      cases hAe
                      have r0 := hcr _ _ (idl_fst yD m hmt)
                      have r1 := hcr _ _ (idl_snd yD m hmt)
                      rw [← Nat.add_assoc] at r1
                      clear hcr
                      have hdm := List.getElem_mem hmt
                      have htk : yD.take (m + 1) = yD.take m ++ [yD[m]] := List.take_succ_eq_append_getElem hmt
                      have hm1 := Lib.hid (show m + 1 ≤ yD.length by omega)
                      have hmi0 : (0 : Int) ≤ (m : Int) := by omega
                      have hmi1 : (m : Int) < (yD.length : Int) := by omega
                      generalize yD[m] = d at *
                      obtain ⟨d0, d1'⟩ := d
                      simp only at r0 r1
                      have hD := hst.drew
                      have enD := hen.drew
                      have kk : ∀ (l' : List HA) (w' : World), St H5 l' w' → w'.cell? ⟨b5, off5 + m * 2, none⟩ = some (.int .i64 d0) ∧ w'.cell? ⟨b5, off5 + m * 2 + 1, none⟩ = some (.int .i64 d1') ∧ w'.cell? ⟨b, off + k, none⟩ = some (.slice (some ⟨tb, toff, none⟩) xl.length xc) := fun l' w' h' => ⟨h'.cell r0, h'.cell r1, h'.cell q0⟩
                      have kA := kk _ _ hD
                      have hH1 := hasIds_any (.slice dA D.length dc) D (d0, d1') _ (hdr.rw hD)
                      have hH2 := Lib.hid (fun (w' : World) (h' : St H5 fr w') => hasIds_any (.slice (some ⟨tb, toff, none⟩) xl.length xc) xl (d0, d1') w' (hxr.rw h'))
                      replace kk := Lib.hid kk
                      clear hst hen
                      by_cases hdD : (d0, d1') ∈ D
                      · rw [decide_eq_true hdD] at hH1
                        replace hH1 := Lib.hid hH1
                        have hal2 : Hid (∀ d ∈ yD.take (m + 1), d ∈ D ∨ d ∈ xl) := Lib.hid (fun d hd => by
                          rw [htk] at hd
                          rcases List.mem_append.1 hd with hd | hd
                          · exact hal.out d hd
                          · rw [List.mem_singleton] at hd; subst hd; exact .inl hdD)
                        clear hdD hal htk hdm
                        go_wp2_with fail
                        refine wp_region_held_drew (S := fun w' => w'.cell? ⟨b5, off5 + m * 2, none⟩ = some (.int .i64 d0) ∧ w'.cell? ⟨b5, off5 + m * 2 + 1, none⟩ = some (.int .i64 d1') ∧ w'.cell? ⟨b, off + k, none⟩ = some (.slice (some ⟨tb, toff, none⟩) xl.length xc)) (by kernel_rfl) kA (fun hHeld => ?_)
                        refine wpAnyH_take (i := 0) (oi := { dst := some 89, op := Go.Op.move (Go.Operand.tmp 9), type := 35, pos := "ref.go:74", after := #[], guard := none }) (v := ?_) rfl (by kernel_rfl) (by kernel_rfl) (by kernel_rfl) (fun _ _ _ h => h) (Or.inl ⟨by rfl, ?_⟩) (by assumption) ?_
                        rotate_left
                        · (intro w hSw; (try dsimp only at hSw); go_simp; (try (with_reducible rfl)))
                        try simp only [Act.put, List.setIfInBounds_toArray, List.set_cons_zero, List.set_cons_succ]
                        refine wpAnyH_take (i := 1) (oi := { dst := some 90, op := Go.Op.move (Go.Operand.tmp 11), type := 35, pos := "ref.go:74", after := #[], guard := none }) (v := ?_) rfl (by kernel_rfl) (by kernel_rfl) (by kernel_rfl) (fun _ _ _ h => h) (Or.inl ⟨by rfl, ?_⟩) (by assumption) ?_
                        rotate_left
                        · (intro w hSw; (try dsimp only at hSw); go_simp; (try (with_reducible rfl)))
                        try simp only [Act.put, List.setIfInBounds_toArray, List.set_cons_zero, List.set_cons_succ]
                        refine wpAnyH_take (i := 2) (oi := { dst := some 91, op := Go.Op.move (Go.Operand.tmp 12), type := 3, pos := "ref.go:74", after := #[], guard := none }) (v := ?_) rfl (by kernel_rfl) (by kernel_rfl) (by kernel_rfl) (fun _ _ _ h => h) (Or.inl ⟨by rfl, ?_⟩) (by assumption) ?_
                        rotate_left
                        · (intro w hSw; (try dsimp only at hSw); go_simp; (try (with_reducible rfl)))
                        try simp only [Act.put, List.setIfInBounds_toArray, List.set_cons_zero, List.set_cons_succ]
                        refine wpAnyH_take (i := 3) (oi := { dst := some 92, op := Go.Op.indexAddr 35 (Go.Operand.tmp 90) (Go.Operand.tmp 91), type := 0, pos := "ref.go:74", after := #[{ on := 1, ground := Go.Ground.data }, { on := 2, ground := Go.Ground.data }], guard := none }) (v := ?_) rfl (by kernel_rfl) (by kernel_rfl) (by kernel_rfl) (fun _ _ _ h => h) (Or.inl ⟨by rfl, ?_⟩) (by assumption) ?_
                        rotate_left
                        · (intro w hSw; (try dsimp only at hSw); go_simp; (try (with_reducible rfl)))
                        try simp only [Act.put, List.setIfInBounds_toArray, List.set_cons_zero, List.set_cons_succ]
                        refine wpAnyH_take (i := 4) (oi := { dst := some 93, op := Go.Op.load 41 (Go.Operand.tmp 92), type := 41, pos := "ref.go:74", after := #[{ on := 3, ground := Go.Ground.data }], guard := none }) (v := ?_) rfl (by kernel_rfl) (by kernel_rfl) (by kernel_rfl) (fun _ _ _ h => h) (Or.inl ⟨by rfl, ?_⟩) (by assumption) ?_
                        rotate_left
                        · (intro w hSw; (try dsimp only at hSw); go_simp; (try (with_reducible rfl)))
                        try simp only [Act.put, List.setIfInBounds_toArray, List.set_cons_zero, List.set_cons_succ]
                        refine wpAnyH_ready (rs := [5]) (by kernel_rfl) (by simp) ?_
                        refine AllReadyH.cons (o := { dst := some 94, op := Go.Op.call { callee := Go.Callee.value (Go.Operand.func 47), args := #[Go.Operand.tmp 89, Go.Operand.tmp 93], argTypes := #[35, 41] }, type := 4, pos := "ref.go:74", after := #[{ on := 0, ground := Go.Ground.data }, { on := 4, ground := Go.Ground.data }], guard := none }) rfl (fun K hK => ?_) AllReadyH.nil
                        go_simp
                        refine hH1.out.mono ?_
                        rintro e w9 ⟨rfl, hb9⟩
                        have h9 := hD.below hb9
                        have en9 := enD.trans (bel_env hb9)
                        refine hK.out _ _ (kk.out _ _ h9) (fun hHeld2 => ?_)
                        clear hK K hHeld
                        try simp only [Act.put, List.setIfInBounds_toArray, List.set_cons_zero, List.set_cons_succ]
                        refine wpAnyH_take (i := 6) (oi := { dst := some 95, op := Go.Op.unOp Go.UnOp.not 4 (Go.Operand.tmp 94), type := 4, pos := "ref.go:74", after := #[{ on := 5, ground := Go.Ground.data }], guard := none }) (v := ?_) rfl (by kernel_rfl) (by kernel_rfl) (by kernel_rfl) (fun _ _ _ h => h) (Or.inl ⟨by rfl, ?_⟩) (by assumption) ?_
                        rotate_left
                        · (intro w hSw; (try dsimp only at hSw); go_simp; (try (with_reducible rfl)))
                        try simp only [Act.put, List.setIfInBounds_toArray, List.set_cons_zero, List.set_cons_succ]
                        refine wpAnyH_take (i := 7) (oi := { dst := some 96, op := Go.Op.move (Go.Operand.tmp 95), type := 4, pos := "ref.go:74", after := #[{ on := 6, ground := Go.Ground.data }, { on := 5, ground := Go.Ground.chain }], guard := none }) (v := ?_) rfl (by kernel_rfl) (by kernel_rfl) (by kernel_rfl) (fun _ _ _ h => h) (Or.inl ⟨by rfl, ?_⟩) (by assumption) ?_
                        rotate_left
                        · (intro w hSw; (try dsimp only at hSw); go_simp; (try (with_reducible rfl)))
                        try simp only [Act.put, List.setIfInBounds_toArray, List.set_cons_zero, List.set_cons_succ]
                        refine wpAnyH_take (i := 8) (oi := { dst := some 97, op := Go.Op.move (Go.Operand.tmp 1), type := 31, pos := "ref.go:74", after := #[{ on := 7, ground := Go.Ground.guard }], guard := some (7, true) }) (v := undef) rfl (by kernel_rfl) (by kernel_rfl) (by kernel_rfl) (fun _ _ _ h => h) (Or.inr ⟨by rfl, rfl⟩) (by assumption) ?_
                        try simp only [Act.put, List.setIfInBounds_toArray, List.set_cons_zero, List.set_cons_succ]
                        refine wpAnyH_take (i := 9) (oi := { dst := some 98, op := Go.Op.move (Go.Operand.tmp 6), type := 3, pos := "ref.go:74", after := #[{ on := 7, ground := Go.Ground.guard }], guard := some (7, true) }) (v := undef) rfl (by kernel_rfl) (by kernel_rfl) (by kernel_rfl) (fun _ _ _ h => h) (Or.inr ⟨by rfl, rfl⟩) (by assumption) ?_
                        try simp only [Act.put, List.setIfInBounds_toArray, List.set_cons_zero, List.set_cons_succ]
                        refine wpAnyH_take (i := 10) (oi := { dst := some 99, op := Go.Op.indexAddr 31 (Go.Operand.tmp 97) (Go.Operand.tmp 98), type := 0, pos := "ref.go:74", after := #[{ on := 8, ground := Go.Ground.data }, { on := 9, ground := Go.Ground.data }, { on := 7, ground := Go.Ground.guard }], guard := some (7, true) }) (v := undef) rfl (by kernel_rfl) (by kernel_rfl) (by kernel_rfl) (fun _ _ _ h => h) (Or.inr ⟨by rfl, rfl⟩) (by assumption) ?_
                        try simp only [Act.put, List.setIfInBounds_toArray, List.set_cons_zero, List.set_cons_succ]
                        refine wpAnyH_take (i := 11) (oi := { dst := some 100, op := Go.Op.load 35 (Go.Operand.tmp 99), type := 35, pos := "ref.go:74", after := #[{ on := 10, ground := Go.Ground.data }, { on := 7, ground := Go.Ground.guard }], guard := some (7, true) }) (v := undef) rfl (by kernel_rfl) (by kernel_rfl) (by kernel_rfl) (fun _ _ _ h => h) (Or.inr ⟨by rfl, rfl⟩) (by assumption) ?_
                        try simp only [Act.put, List.setIfInBounds_toArray, List.set_cons_zero, List.set_cons_succ]
                        refine wpAnyH_take (i := 12) (oi := { dst := some 101, op := Go.Op.move (Go.Operand.tmp 11), type := 35, pos := "ref.go:74", after := #[{ on := 7, ground := Go.Ground.guard }], guard := some (7, true) }) (v := undef) rfl (by kernel_rfl) (by kernel_rfl) (by kernel_rfl) (fun _ _ _ h => h) (Or.inr ⟨by rfl, rfl⟩) (by assumption) ?_
                        try simp only [Act.put, List.setIfInBounds_toArray, List.set_cons_zero, List.set_cons_succ]
                        refine wpAnyH_take (i := 13) (oi := { dst := some 102, op := Go.Op.move (Go.Operand.tmp 12), type := 3, pos := "ref.go:74", after := #[{ on := 7, ground := Go.Ground.guard }], guard := some (7, true) }) (v := undef) rfl (by kernel_rfl) (by kernel_rfl) (by kernel_rfl) (fun _ _ _ h => h) (Or.inr ⟨by rfl, rfl⟩) (by assumption) ?_
                        try simp only [Act.put, List.setIfInBounds_toArray, List.set_cons_zero, List.set_cons_succ]
                        refine wpAnyH_take (i := 14) (oi := { dst := some 103, op := Go.Op.indexAddr 35 (Go.Operand.tmp 101) (Go.Operand.tmp 102), type := 0, pos := "ref.go:74", after := #[{ on := 12, ground := Go.Ground.data }, { on := 13, ground := Go.Ground.data }, { on := 7, ground := Go.Ground.guard }], guard := some (7, true) }) (v := undef) rfl (by kernel_rfl) (by kernel_rfl) (by kernel_rfl) (fun _ _ _ h => h) (Or.inr ⟨by rfl, rfl⟩) (by assumption) ?_
                        try simp only [Act.put, List.setIfInBounds_toArray, List.set_cons_zero, List.set_cons_succ]
                        refine wpAnyH_take (i := 15) (oi := { dst := some 104, op := Go.Op.load 41 (Go.Operand.tmp 103), type := 41, pos := "ref.go:74", after := #[{ on := 14, ground := Go.Ground.data }, { on := 7, ground := Go.Ground.guard }], guard := some (7, true) }) (v := undef) rfl (by kernel_rfl) (by kernel_rfl) (by kernel_rfl) (fun _ _ _ h => h) (Or.inr ⟨by rfl, rfl⟩) (by assumption) ?_
                        try simp only [Act.put, List.setIfInBounds_toArray, List.set_cons_zero, List.set_cons_succ]
                        refine wpAnyH_take (i := 16) (oi := { dst := some 105, op := Go.Op.call { callee := Go.Callee.value (Go.Operand.func 47), args := #[Go.Operand.tmp 100, Go.Operand.tmp 104], argTypes := #[35, 41] }, type := 4, pos := "ref.go:74", after := #[{ on := 11, ground := Go.Ground.data }, { on := 15, ground := Go.Ground.data }, { on := 7, ground := Go.Ground.chain }, { on := 7, ground := Go.Ground.guard }], guard := some (7, true) }) (v := undef) rfl (by kernel_rfl) (by kernel_rfl) (by kernel_rfl) (fun _ _ _ h => h) (Or.inr ⟨by rfl, rfl⟩) (by assumption) ?_
                        try simp only [Act.put, List.setIfInBounds_toArray, List.set_cons_zero, List.set_cons_succ]
                        refine wpAnyH_take (i := 17) (oi := { dst := some 106, op := Go.Op.unOp Go.UnOp.not 4 (Go.Operand.tmp 105), type := 4, pos := "ref.go:74", after := #[{ on := 16, ground := Go.Ground.data }, { on := 7, ground := Go.Ground.guard }], guard := some (7, true) }) (v := undef) rfl (by kernel_rfl) (by kernel_rfl) (by kernel_rfl) (fun _ _ _ h => h) (Or.inr ⟨by rfl, rfl⟩) (by assumption) ?_
                        try simp only [Act.put, List.setIfInBounds_toArray, List.set_cons_zero, List.set_cons_succ]
                        refine wpAnyH_take (i := 18) (oi := { dst := some 107, op := Go.Op.pick (Go.Operand.tmp 96) (Go.Operand.tmp 106) (Go.Operand.const (Go.Value.bool false)), type := 4, pos := "ref.go:74", after := #[{ on := 7, ground := Go.Ground.data }, { on := 17, ground := Go.Ground.data }], guard := none }) (v := ?_) rfl (by kernel_rfl) (by kernel_rfl) (by kernel_rfl) (fun _ _ _ h => h) (Or.inl ⟨by rfl, ?_⟩) (by assumption) ?_
                        rotate_left
                        · (intro w hSw; (try dsimp only at hSw); go_simp; (try (with_reducible rfl)))
                        try simp only [Act.put, List.setIfInBounds_toArray, List.set_cons_zero, List.set_cons_succ]
                        refine wpAnyH_done (by kernel_rfl) ?_ _
                        clear hH1 hH2 hD enD kA kk hHeld2 hb9
                        go_wp2_with fail
                        go_roundw
                        case rel => exact ⟨m + 1, hm1.out, by go_num, h9, en9, hal2⟩
                        case measure => simp [intOf]; have := hm1.out; omega
                      · rw [decide_eq_false hdD] at hH1
                        replace hH1 := Lib.hid hH1
                        have hal2 := Lib.hid (fun (hm : (d0, d1') ∈ xl) => show Hid (∀ d ∈ yD.take (m + 1), d ∈ D ∨ d ∈ xl) from Lib.hid (fun d hd => by
                          rw [htk] at hd
                          rcases List.mem_append.1 hd with hd | hd
                          · exact hal.out d hd
                          · rw [List.mem_singleton] at hd; subst hd; exact .inr hm))
                        have hbd := Lib.hid (fun (hm : (d0, d1') ∉ xl) => hbad.out (d0, d1') hdm hdD hm)
                        replace hdD := Lib.hid hdD
                        clear hal htk hdm
                        go_wp2_with fail
                        refine wp_region_held_drew (S := fun w' => w'.cell? ⟨b5, off5 + m * 2, none⟩ = some (.int .i64 d0) ∧ w'.cell? ⟨b5, off5 + m * 2 + 1, none⟩ = some (.int .i64 d1') ∧ w'.cell? ⟨b, off + k, none⟩ = some (.slice (some ⟨tb, toff, none⟩) xl.length xc)) (by kernel_rfl) kA (fun hHeld => ?_)
                        refine wpAnyH_take (i := 0) (oi := { dst := some 89, op := Go.Op.move (Go.Operand.tmp 9), type := 35, pos := "ref.go:74", after := #[], guard := none }) (v := ?_) rfl (by kernel_rfl) (by kernel_rfl) (by kernel_rfl) (fun _ _ _ h => h) (Or.inl ⟨by rfl, ?_⟩) (by assumption) ?_
                        rotate_left
                        · (intro w hSw; (try dsimp only at hSw); go_simp; (try (with_reducible rfl)))
                        try simp only [Act.put, List.setIfInBounds_toArray, List.set_cons_zero, List.set_cons_succ]
                        refine wpAnyH_take (i := 1) (oi := { dst := some 90, op := Go.Op.move (Go.Operand.tmp 11), type := 35, pos := "ref.go:74", after := #[], guard := none }) (v := ?_) rfl (by kernel_rfl) (by kernel_rfl) (by kernel_rfl) (fun _ _ _ h => h) (Or.inl ⟨by rfl, ?_⟩) (by assumption) ?_
                        rotate_left
                        · (intro w hSw; (try dsimp only at hSw); go_simp; (try (with_reducible rfl)))
                        try simp only [Act.put, List.setIfInBounds_toArray, List.set_cons_zero, List.set_cons_succ]
                        refine wpAnyH_take (i := 2) (oi := { dst := some 91, op := Go.Op.move (Go.Operand.tmp 12), type := 3, pos := "ref.go:74", after := #[], guard := none }) (v := ?_) rfl (by kernel_rfl) (by kernel_rfl) (by kernel_rfl) (fun _ _ _ h => h) (Or.inl ⟨by rfl, ?_⟩) (by assumption) ?_
                        rotate_left
                        · (intro w hSw; (try dsimp only at hSw); go_simp; (try (with_reducible rfl)))
                        try simp only [Act.put, List.setIfInBounds_toArray, List.set_cons_zero, List.set_cons_succ]
                        refine wpAnyH_take (i := 3) (oi := { dst := some 92, op := Go.Op.indexAddr 35 (Go.Operand.tmp 90) (Go.Operand.tmp 91), type := 0, pos := "ref.go:74", after := #[{ on := 1, ground := Go.Ground.data }, { on := 2, ground := Go.Ground.data }], guard := none }) (v := ?_) rfl (by kernel_rfl) (by kernel_rfl) (by kernel_rfl) (fun _ _ _ h => h) (Or.inl ⟨by rfl, ?_⟩) (by assumption) ?_
                        rotate_left
                        · (intro w hSw; (try dsimp only at hSw); go_simp; (try (with_reducible rfl)))
                        try simp only [Act.put, List.setIfInBounds_toArray, List.set_cons_zero, List.set_cons_succ]
                        refine wpAnyH_take (i := 4) (oi := { dst := some 93, op := Go.Op.load 41 (Go.Operand.tmp 92), type := 41, pos := "ref.go:74", after := #[{ on := 3, ground := Go.Ground.data }], guard := none }) (v := ?_) rfl (by kernel_rfl) (by kernel_rfl) (by kernel_rfl) (fun _ _ _ h => h) (Or.inl ⟨by rfl, ?_⟩) (by assumption) ?_
                        rotate_left
                        · (intro w hSw; (try dsimp only at hSw); go_simp; (try (with_reducible rfl)))
                        try simp only [Act.put, List.setIfInBounds_toArray, List.set_cons_zero, List.set_cons_succ]
                        refine wpAnyH_ready (rs := [5]) (by kernel_rfl) (by simp) ?_
                        refine AllReadyH.cons (o := { dst := some 94, op := Go.Op.call { callee := Go.Callee.value (Go.Operand.func 47), args := #[Go.Operand.tmp 89, Go.Operand.tmp 93], argTypes := #[35, 41] }, type := 4, pos := "ref.go:74", after := #[{ on := 0, ground := Go.Ground.data }, { on := 4, ground := Go.Ground.data }], guard := none }) rfl (fun K hK => ?_) AllReadyH.nil
                        go_simp
                        refine hH1.out.mono ?_
                        rintro e w9 ⟨rfl, hb9⟩
                        have h9 := hD.below hb9
                        have en9 := enD.trans (bel_env hb9)
                        refine hK.out _ _ (kk.out _ _ h9) (fun hHeld2 => ?_)
                        clear hK K hHeld
                        try simp only [Act.put, List.setIfInBounds_toArray, List.set_cons_zero, List.set_cons_succ]
                        refine wpAnyH_take (i := 6) (oi := { dst := some 95, op := Go.Op.unOp Go.UnOp.not 4 (Go.Operand.tmp 94), type := 4, pos := "ref.go:74", after := #[{ on := 5, ground := Go.Ground.data }], guard := none }) (v := ?_) rfl (by kernel_rfl) (by kernel_rfl) (by kernel_rfl) (fun _ _ _ h => h) (Or.inl ⟨by rfl, ?_⟩) (by assumption) ?_
                        rotate_left
                        · (intro w hSw; (try dsimp only at hSw); go_simp; (try (with_reducible rfl)))
                        try simp only [Act.put, List.setIfInBounds_toArray, List.set_cons_zero, List.set_cons_succ]
                        refine wpAnyH_take (i := 7) (oi := { dst := some 96, op := Go.Op.move (Go.Operand.tmp 95), type := 4, pos := "ref.go:74", after := #[{ on := 6, ground := Go.Ground.data }, { on := 5, ground := Go.Ground.chain }], guard := none }) (v := ?_) rfl (by kernel_rfl) (by kernel_rfl) (by kernel_rfl) (fun _ _ _ h => h) (Or.inl ⟨by rfl, ?_⟩) (by assumption) ?_
                        rotate_left
                        · (intro w hSw; (try dsimp only at hSw); go_simp; (try (with_reducible rfl)))
                        try simp only [Act.put, List.setIfInBounds_toArray, List.set_cons_zero, List.set_cons_succ]
                        refine wpAnyH_take (i := 8) (oi := { dst := some 97, op := Go.Op.move (Go.Operand.tmp 1), type := 31, pos := "ref.go:74", after := #[{ on := 7, ground := Go.Ground.guard }], guard := some (7, true) }) (v := ?_) rfl (by kernel_rfl) (by kernel_rfl) (by kernel_rfl) (fun _ _ _ h => h) (Or.inl ⟨by rfl, ?_⟩) (by assumption) ?_
                        rotate_left
                        · (intro w hSw; (try dsimp only at hSw); go_simp; (try (with_reducible rfl)))
                        try simp only [Act.put, List.setIfInBounds_toArray, List.set_cons_zero, List.set_cons_succ]
                        refine wpAnyH_take (i := 9) (oi := { dst := some 98, op := Go.Op.move (Go.Operand.tmp 6), type := 3, pos := "ref.go:74", after := #[{ on := 7, ground := Go.Ground.guard }], guard := some (7, true) }) (v := ?_) rfl (by kernel_rfl) (by kernel_rfl) (by kernel_rfl) (fun _ _ _ h => h) (Or.inl ⟨by rfl, ?_⟩) (by assumption) ?_
                        rotate_left
                        · (intro w hSw; (try dsimp only at hSw); go_simp; (try (with_reducible rfl)))
                        try simp only [Act.put, List.setIfInBounds_toArray, List.set_cons_zero, List.set_cons_succ]
                        refine wpAnyH_take (i := 10) (oi := { dst := some 99, op := Go.Op.indexAddr 31 (Go.Operand.tmp 97) (Go.Operand.tmp 98), type := 0, pos := "ref.go:74", after := #[{ on := 8, ground := Go.Ground.data }, { on := 9, ground := Go.Ground.data }, { on := 7, ground := Go.Ground.guard }], guard := some (7, true) }) (v := ?_) rfl (by kernel_rfl) (by kernel_rfl) (by kernel_rfl) (fun _ _ _ h => h) (Or.inl ⟨by rfl, ?_⟩) (by assumption) ?_
                        rotate_left
                        · (intro w hSw; (try dsimp only at hSw); go_simp; (try (with_reducible rfl)))
                        try simp only [Act.put, List.setIfInBounds_toArray, List.set_cons_zero, List.set_cons_succ]
                        refine wpAnyH_take (i := 11) (oi := { dst := some 100, op := Go.Op.load 35 (Go.Operand.tmp 99), type := 35, pos := "ref.go:74", after := #[{ on := 10, ground := Go.Ground.data }, { on := 7, ground := Go.Ground.guard }], guard := some (7, true) }) (v := ?_) rfl (by kernel_rfl) (by kernel_rfl) (by kernel_rfl) (fun _ _ _ h => h) (Or.inl ⟨by rfl, ?_⟩) (by assumption) ?_
                        rotate_left
                        · (intro w hSw; (try dsimp only at hSw); go_simp; (try (with_reducible rfl)))
                        try simp only [Act.put, List.setIfInBounds_toArray, List.set_cons_zero, List.set_cons_succ]
                        refine wpAnyH_take (i := 12) (oi := { dst := some 101, op := Go.Op.move (Go.Operand.tmp 11), type := 35, pos := "ref.go:74", after := #[{ on := 7, ground := Go.Ground.guard }], guard := some (7, true) }) (v := ?_) rfl (by kernel_rfl) (by kernel_rfl) (by kernel_rfl) (fun _ _ _ h => h) (Or.inl ⟨by rfl, ?_⟩) (by assumption) ?_
                        rotate_left
                        · (intro w hSw; (try dsimp only at hSw); go_simp; (try (with_reducible rfl)))
                        try simp only [Act.put, List.setIfInBounds_toArray, List.set_cons_zero, List.set_cons_succ]
                        refine wpAnyH_take (i := 13) (oi := { dst := some 102, op := Go.Op.move (Go.Operand.tmp 12), type := 3, pos := "ref.go:74", after := #[{ on := 7, ground := Go.Ground.guard }], guard := some (7, true) }) (v := ?_) rfl (by kernel_rfl) (by kernel_rfl) (by kernel_rfl) (fun _ _ _ h => h) (Or.inl ⟨by rfl, ?_⟩) (by assumption) ?_
                        rotate_left
                        · (intro w hSw; (try dsimp only at hSw); go_simp; (try (with_reducible rfl)))
                        try simp only [Act.put, List.setIfInBounds_toArray, List.set_cons_zero, List.set_cons_succ]
                        refine wpAnyH_take (i := 14) (oi := { dst := some 103, op := Go.Op.indexAddr 35 (Go.Operand.tmp 101) (Go.Operand.tmp 102), type := 0, pos := "ref.go:74", after := #[{ on := 12, ground := Go.Ground.data }, { on := 13, ground := Go.Ground.data }, { on := 7, ground := Go.Ground.guard }], guard := some (7, true) }) (v := ?_) rfl (by kernel_rfl) (by kernel_rfl) (by kernel_rfl) (fun _ _ _ h => h) (Or.inl ⟨by rfl, ?_⟩) (by assumption) ?_
                        rotate_left
                        · (intro w hSw; (try dsimp only at hSw); go_simp; (try (with_reducible rfl)))
                        try simp only [Act.put, List.setIfInBounds_toArray, List.set_cons_zero, List.set_cons_succ]
                        refine wpAnyH_take (i := 15) (oi := { dst := some 104, op := Go.Op.load 41 (Go.Operand.tmp 103), type := 41, pos := "ref.go:74", after := #[{ on := 14, ground := Go.Ground.data }, { on := 7, ground := Go.Ground.guard }], guard := some (7, true) }) (v := ?_) rfl (by kernel_rfl) (by kernel_rfl) (by kernel_rfl) (fun _ _ _ h => h) (Or.inl ⟨by rfl, ?_⟩) (by assumption) ?_
                        rotate_left
                        · (intro w hSw; (try dsimp only at hSw); go_simp; (try (with_reducible rfl)))
                        try simp only [Act.put, List.setIfInBounds_toArray, List.set_cons_zero, List.set_cons_succ]
                        refine wpAnyH_ready (rs := [16]) (by kernel_rfl) (by simp) ?_
                        refine AllReadyH.cons (o := { dst := some 105, op := Go.Op.call { callee := Go.Callee.value (Go.Operand.func 47), args := #[Go.Operand.tmp 100, Go.Operand.tmp 104], argTypes := #[35, 41] }, type := 4, pos := "ref.go:74", after := #[{ on := 11, ground := Go.Ground.data }, { on := 15, ground := Go.Ground.data }, { on := 7, ground := Go.Ground.chain }, { on := 7, ground := Go.Ground.guard }], guard := some (7, true) }) rfl (fun K hK => ?_) AllReadyH.nil
                        go_simp
                        refine (hH2.out _ h9).mono ?_
                        rintro e w10 ⟨rfl, hb10⟩
                        have h10 := h9.below hb10
                        have en10 := en9.trans (bel_env hb10)
                        refine hK.out _ _ (kk.out _ _ h10) (fun hHeld3 => ?_)
                        clear hK K hHeld2
                        try simp only [Act.put, List.setIfInBounds_toArray, List.set_cons_zero, List.set_cons_succ]
                        refine wpAnyH_take (i := 17) (oi := { dst := some 106, op := Go.Op.unOp Go.UnOp.not 4 (Go.Operand.tmp 105), type := 4, pos := "ref.go:74", after := #[{ on := 16, ground := Go.Ground.data }, { on := 7, ground := Go.Ground.guard }], guard := some (7, true) }) (v := ?_) rfl (by kernel_rfl) (by kernel_rfl) (by kernel_rfl) (fun _ _ _ h => h) (Or.inl ⟨by rfl, ?_⟩) (by assumption) ?_
                        rotate_left
                        · (intro w hSw; (try dsimp only at hSw); go_simp; (try (with_reducible rfl)))
                        try simp only [Act.put, List.setIfInBounds_toArray, List.set_cons_zero, List.set_cons_succ]
                        refine wpAnyH_take (i := 18) (oi := { dst := some 107, op := Go.Op.pick (Go.Operand.tmp 96) (Go.Operand.tmp 106) (Go.Operand.const (Go.Value.bool false)), type := 4, pos := "ref.go:74", after := #[{ on := 7, ground := Go.Ground.data }, { on := 17, ground := Go.Ground.data }], guard := none }) (v := ?_) rfl (by kernel_rfl) (by kernel_rfl) (by kernel_rfl) (fun _ _ _ h => h) (Or.inl ⟨by rfl, ?_⟩) (by assumption) ?_
                        rotate_left
                        · (intro w hSw; (try dsimp only at hSw); go_simp; (try (with_reducible rfl)))
                        try simp only [Act.put, List.setIfInBounds_toArray, List.set_cons_zero, List.set_cons_succ]
                        refine wpAnyH_done (by kernel_rfl) ?_ _
                        clear hH1 hH2 hD enD kA kk hHeld3 hb9 hb10 h9 en9
                        by_cases hdx : (d0, d1') ∈ xl
                        · rw [decide_eq_true hdx]
                          have hal3 := hal2.out hdx
                          clear hdx hal2 hbd
                          go_wp2_with fail
                          go_roundw
                          case rel => exact ⟨m + 1, hm1.out, by go_num, h10, en10, hal3⟩
                          case measure => simp [intOf]; have := hm1.out; omega
                        · rw [decide_eq_false hdx]
                          have hzf := hzs.out
                          rw [mayB_out (hbd.out hdx) hdD.out, Bool.false_and] at hzf
                          have hq := Lib.hid (hfin.out H5 _ (Hp.le_trans l13 l45) h10 en10)
                          rw [hzf] at hq
                          clear hfin h10 en10 hz hzs hzf hdx hbd hal2
                          go_wp2_with fail
                          exact hq.out
                    · obtain rfl : m = yD.length := by omega
                      have hok2 := Lib.hid (hnext.out (by have := hal.out; rwa [List.take_length] at this))
                      clear hal hnext
                      go_wp2_with fail
                      go_roundw
                      case rel => exact ⟨q + 1, hq1.out, by go_num, hst, hen, hok2⟩
                      case measure => simp [intOf]; have := hq1.out; omega
                · obtain rfl : q = xl.length := by omega
                  have hzn : Hid (z = rightB nx (lists A) (lists (X.take (k + 1))).flatten (lists (X.drop (k + 1)))) := Lib.hid (by
                    have h4 := hok.out
                    unfold DepOk at h4
                    rw [List.take_length] at h4
                    have h5 := hzs.out
                    rwa [mayB_yes hmem2.out hnil.out hnh.out (out_all.2 h4), Bool.true_and] at h5)
                  clear hok hzs
                  go_wp2_with fail
                  go_roundw
                  case rel => exact ⟨k + 1, H5, hk1.out, by go_num, l45, hst, hen, hzn⟩
                  case measure => simp [intOf]; have := hk1.out; omega
    · obtain rfl : k = X.length := by omega
      have hzt : z = true := by rw [hz.out, List.drop_length]; rfl
      have hq := Lib.hid (hfin.out H4 wr (Hp.le_trans l13 l4) hst hen)
      rw [hzt] at hq
      clear hfin hz hst hen hzt
      go_wp2_with fail
      exact hq.out
end Go.Proofs.YtcbckeoalmjcoaaGreat
