/- Joined texts: Conf2. -/
import Derived.Test.YtohgcghobidfpaaGG8
import Derived.Test.YtohgcghobidfpaaGG10
/- Conflicts of batches. -/
set_option linter.unusedVariables false
set_option linter.unusedSimpArgs false
namespace Go.Proofs.Ytohgcghobidfpaa
open Go.RowKit Go.Cw Go.Fl
attribute [local go_sem ↓] eql_id neq_id
set_option maxRecDepth 100000 in
set_option maxHeartbeats 1600000 in
theorem indexCm_any (f : Cm → Bool) (fn : Nat) (caps : Array Value) (A : Option Addr) (n c : Nat) (l : List Cm) (w : World) (hx : Rw w 3 (.slice A n c) (cml l))
    (eg : ∀ args w, (callFunc fn args).run Try.prog w = .ok (.enter fn args) w)
    (hO : ∀ x ∈ l, ∀ w', Below w.heap.size w w' → Calls Try.prog fn (#[cmV x] ++ caps) w' (fun e w'' => e = .returned (.bool (f x)) ∧ Below w'.heap.size w' w'')) :
    Calls Try.prog 87 #[.slice A n c, .func (.func fn) #[] caps] w fun e w' => ∃ z : Int, e = .returned (.int .i64 z) ∧ decide (0 ≤ z) = l.any f ∧ Below w.heap.size w w' := by
  obtain ⟨A', n', c', hv, hl, hn, hc⟩ := hx.form
  cases hv
  rw [cml_len] at hl
  obtain rfl : n = l.length := by omega
  clear hl
  obtain ⟨B, hB⟩ : ∃ B, Hid (B = l.any f) := ⟨_, Lib.hid rfl⟩
  rw [← hB.out]
  replace hO := Lib.hid hO
  go_enter Try.func87, Try.ntmps87
  go_wp2_with fail
  go_loopw [5, 8] (fun s5 s8 wr => ∃ k : Nat, k ≤ l.length ∧ s8 = .int .i64 (k : Int) ∧ Below w.heap.size w wr ∧ Hid ((l.drop k).any f = B)) (fun _ s8 _ => l.length - (intOf s8).toNat)
  case atStart => exact ⟨0, by omega, by go_num, Below.refl _ _, Lib.hid (by rw [hB.out]; rfl)⟩
  case round =>
    obtain ⟨k, hk, rfl, hb, hno⟩ := hrel
    by_cases hlt : k < l.length
    · obtain ⟨b, off, hA, hcr⟩ := (hx.below hb).cells (by omega)
      cases hA
      obtain ⟨p0, p1, p2⟩ := cml_get l k hlt
      replace p0 := hcr _ _ p0
      replace p1 := hcr _ _ p1
      replace p2 := hcr _ _ p2
      rw [← Nat.add_assoc] at p1 p2
      clear hcr
      have hst := hno.out
      rw [List.drop_eq_getElem_cons hlt, List.any_cons] at hst
      have hcl := hO.out l[k] (List.getElem_mem hlt) wr hb
      generalize l[k] = x at *
      obtain ⟨x0, x1, x2⟩ := x
      simp only at p0 p1 p2
      have pl := World.block_lt_of_cell? _ _ p0
      cases hf : f (x0, x1, x2) with
      | true =>
        rw [hf] at hcl hst
        rw [Bool.true_or] at hst
        replace hcl := Lib.hid hcl
        replace hst := Lib.hid hst
        clear hf
        go_wp2_with fail
        refine hcl.out.mono ?_
        rintro e w3 ⟨rfl, hb3⟩
        go_wp2_with fail
        go_ret
        exact ⟨(k : Int), rfl, by rw [← hst.out]; simp, hb.trans (hb3.mono hb.size)⟩
      | false =>
        rw [hf] at hcl hst
        rw [Bool.false_or] at hst
        replace hcl := Lib.hid hcl
        replace hst := Lib.hid hst
        clear hf
        go_wp2_with fail
        refine hcl.out.mono ?_
        rintro e w3 ⟨rfl, hb3⟩
        go_wp2_with fail
        go_roundw
        case rel => exact ⟨k + 1, by omega, by go_num, hb.trans (hb3.mono hb.size), hst⟩
        case measure => simp [intOf]; omega
    · obtain rfl : k = l.length := by omega
      have hBf : Hid (B = false) := Lib.hid (by rw [← hno.out, List.drop_length]; rfl)
      go_wp2_with fail
      go_ret
      exact ⟨-1, rfl, by rw [hBf.out]; rfl, hb⟩
set_option maxRecDepth 100000 in
set_option maxHeartbeats 800000 in
theorem contCm_any (f : Cm → Bool) (fn : Nat) (caps : Array Value) (u : Value) (l : List Cm) (w : World) (hx : Rw w 3 u (cml l))
    (eg : ∀ args w, (callFunc fn args).run Try.prog w = .ok (.enter fn args) w)
    (hO : ∀ x ∈ l, ∀ w', Below w.heap.size w w' → Calls Try.prog fn (#[cmV x] ++ caps) w' (fun e w'' => e = .returned (.bool (f x)) ∧ Below w'.heap.size w' w'')) :
    Calls Try.prog 73 #[u, .func (.func fn) #[] caps] w fun e w' => e = .returned (.bool (l.any f)) ∧ Below w.heap.size w w' := by
  obtain ⟨A, n, c, rfl, -⟩ := hx.form
  have hin := Lib.hid (indexCm_any f fn caps A n c l w hx eg hO)
  clear hO hx
  go_enter Try.func73, Try.ntmps73
  go_wp2_with fail
  refine hin.out.mono ?_
  rintro e w2 ⟨z, rfl, hz, hb2⟩
  replace hz := Lib.hid hz
  go_wp2_with fail
  go_ret
  exact ⟨rb hz.out, hb2⟩
/-- A command's cells at p. -/
def CmAt (w : World) (p : Nat) (x : Cm) : Prop := w.cell? ⟨p, 0, none⟩ = some (.int .i64 x.1) ∧ w.cell? ⟨p, 1, none⟩ = some (.string x.2.1) ∧ w.cell? ⟨p, 2, none⟩ = some (.float .f64 x.2.2)
theorem CmAt.below {w w' : World} {p : Nat} {x : Cm} {B : Nat} (h : CmAt w p x) (hb : Below B w w') (hp : p < B) : CmAt w' p x :=
  ⟨(hb.cell (p := ⟨p, 0, none⟩) hp).trans h.1, (hb.cell (p := ⟨p, 1, none⟩) hp).trans h.2.1, (hb.cell (p := ⟨p, 2, none⟩) hp).trans h.2.2⟩
theorem CmAt.box (w : World) (x : Cm) : CmAt (w.alloc (.cells #[.int .i64 x.1, .string x.2.1, .float .f64 x.2.2] 47)) w.heap.size x := by
  obtain ⟨H1, l1, h1, y⟩ := (St.start w).box #[.int .i64 x.1, .string x.2.1, .float .f64 x.2.2] 47
  exact ⟨h1.cell (y 0 _ rfl), h1.cell (y 1 _ rfl), h1.cell (y 2 _ rfl)⟩
set_option maxRecDepth 100000 in
set_option maxHeartbeats 800000 in
theorem conf11_any (x y : Cm) (hx : CmW x) (hy : CmW y) (p : Nat) (w : World) (h : CmAt w p x) :
    Calls Try.prog 75 #[cmV y, .pointer (some ⟨p, 0, none⟩)] w fun e w' => e = .returned (.bool (cmConf x y)) ∧ Below w.heap.size w w' := by
  have hC := fun w => cmdConf_any x y hx hy w
  have bel := boxBelow w (.cells #[.int .i64 y.1, .string y.2.1, .float .f64 y.2.2] 47)
  obtain ⟨b0, b1, b2⟩ := CmAt.box w y
  have pl0 := World.block_lt_of_cell? _ _ h.1
  obtain ⟨a0, a1, a2⟩ := h
  obtain ⟨x0, x1, x2⟩ := x
  obtain ⟨y0, y1, y2⟩ := y
  simp only at a0 a1 a2 b0 b1 b2 bel pl0
  replace hC := Lib.hid hC
  clear hx hy
  go_enter Try.func75, Try.ntmps75
  go_wp2_with fail
  refine (hC.out _).mono ?_
  rintro e w2 ⟨rfl, hb2⟩
  go_wp2_with fail
  go_ret
  exact ⟨rfl, bel.trans (hb2.mono bel.size)⟩
set_option maxRecDepth 100000 in
set_option maxHeartbeats 800000 in
theorem conf1_any (x : Cm) (B : List Cm) (hx : CmW x) (hB : ∀ y ∈ B, CmW y) (v : Value) (p : Nat) (w : World) (hr : Rw w 3 v (cml B)) (h : w.cell? ⟨p, 0, none⟩ = some v) :
    Calls Try.prog 74 #[cmV x, .pointer (some ⟨p, 0, none⟩)] w fun e w' => e = .returned (.bool (B.any (fun y => cmConf x y))) ∧ Below w.heap.size w w' := by
  have hmf : ∀ (fn : Fn) (first cap : Array Value) (w : World), (Instr.makeFunc fn first cap).run Try.prog w = .ok (.func fn first cap) w := fun _ _ _ _ => rfl
  have bel := boxBelow w (.cells #[.int .i64 x.1, .string x.2.1, .float .f64 x.2.2] 47)
  have hbx := CmAt.box w x
  obtain ⟨A, n, c, rfl, -⟩ := hr.form
  have pl := World.block_lt_of_cell? _ _ h
  have hC := contCm_any (fun y => cmConf x y) 75 #[.pointer (some ⟨w.heap.size, 0, none⟩)] (.slice A n c) B _ (hr.below bel) (enters_of Try.func75 (by kernel_rfl) rfl) (fun y hy w' hb => conf11_any x y hx (hB y hy) w.heap.size w' (hbx.below hb (by simp)))
  replace hC := Lib.hid hC
  clear hx hB hr hbx
  obtain ⟨x0, x1, x2⟩ := x
  simp only at bel hC
  go_enter Try.func74, Try.ntmps74
  go_wp2_with fail
  refine hC.out.mono ?_
  rintro e w2 ⟨rfl, hb2⟩
  go_wp2_with fail
  go_ret
  exact ⟨rfl, bel.trans (hb2.mono bel.size)⟩
set_option maxRecDepth 100000 in
set_option maxHeartbeats 800000 in
theorem batConf_any (u v : Value) (A B : List Cm) (hA : ∀ y ∈ A, CmW y) (hB : ∀ y ∈ B, CmW y) (w : World) (hu : Rw w 3 u (cml A)) (hv : Rw w 3 v (cml B)) :
    Calls Try.prog 51 #[u, v] w fun e w' => e = .returned (.bool (batConf A B)) ∧ Below w.heap.size w w' := by
  have hmf : ∀ (fn : Fn) (first cap : Array Value) (w : World), (Instr.makeFunc fn first cap).run Try.prog w = .ok (.func fn first cap) w := fun _ _ _ _ => rfl
  obtain ⟨A1, n1, c1, rfl, -⟩ := hu.form
  obtain ⟨A2, n2, c2, rfl, -⟩ := hv.form
  have bel := boxBelow w (.cells #[.slice A2 n2 c2] 27)
  obtain ⟨H1, l1, h1, y⟩ := (St.start w).box #[.slice A2 n2 c2] 27
  have y0 := h1.cell (y 0 _ rfl)
  have yl := World.block_lt_of_cell? _ _ y0
  clear y
  have hC := contCm_any (fun x => B.any (fun y => cmConf x y)) 74 #[.pointer (some ⟨w.heap.size, 0, none⟩)] (.slice A1 n1 c1) A _ (hu.below bel) (enters_of Try.func74 (by kernel_rfl) rfl) (fun x hx w' hb => conf1_any x B (hA x hx) hB (.slice A2 n2 c2) w.heap.size w' ((hv.below bel).below hb) ((hb.cell (p := ⟨w.heap.size, 0, none⟩) yl).trans y0))
  replace hC := Lib.hid hC
  clear hA hB hu hv
  go_enter Try.func51, Try.ntmps51
  go_wp2_with fail
  refine hC.out.mono ?_
  rintro e w2 ⟨rfl, hb2⟩
  go_wp2_with fail
  go_ret
  exact ⟨rfl, bel.trans (hb2.mono bel.size)⟩
/-- The reference's inner loop. -/
theorem batConf_step (A B : List Cm) (k : Nat) (h : k < A.length) : batConf (A.drop k) B = (B.any (fun y => cmConf A[k] y) || batConf (A.drop (k + 1)) B) := by
  unfold batConf
  rw [List.drop_eq_getElem_cons h, List.any_cons]
set_option maxRecDepth 100000 in
set_option maxHeartbeats 6400000 in
theorem refBatConf_any (u v : Value) (A B : List Cm) (hA : ∀ y ∈ A, CmW y) (hB : ∀ y ∈ B, CmW y) (w : World) (hu : Rw w 3 u (cml A)) (hv : Rw w 3 v (cml B)) :
    Calls Try.prog 40 #[u, v] w fun e w' => e = .returned (.bool (batConf A B)) ∧ Below w.heap.size w w' := by
  obtain ⟨A1, n1, c1, rfl, hn1, hc1, hc1'⟩ := hu.form
  obtain ⟨A2, n2, c2, rfl, hn2, hc2, hc2'⟩ := hv.form
  rw [cml_len] at hn1 hn2
  obtain rfl : n1 = A.length := by omega
  obtain rfl : n2 = B.length := by omega
  clear hn1 hn2
  obtain ⟨G, hG⟩ : ∃ G, Hid (batConf A B = G) := ⟨_, Lib.hid rfl⟩
  rw [hG.out]
  replace hA := Lib.hid hA
  replace hB := Lib.hid hB
  go_enter Try.func40, Try.ntmps40
  go_wp2_with fail
  go_loopw [5, 6] (fun i j wr => ∃ k : Nat, k ≤ A.length ∧ i = .int .i64 (k : Int) ∧ Below w.heap.size w wr ∧ Hid (batConf (A.drop k) B = G)) (fun i _ _ => A.length - (intOf i).toNat)
  case atStart => exact ⟨0, by omega, by go_num, Below.refl _ _, hG⟩
  case round =>
    obtain ⟨k, hk, rfl, hb, hg⟩ := hrel
    obtain ⟨wo, rfl⟩ : ∃ wo : World, wo = wr := ⟨_, rfl⟩
    by_cases hlt : k < A.length
    · have hst := batConf_step A B k hlt
      rw [hg.out] at hst
      obtain ⟨T, hT⟩ : ∃ T, Hid (T = batConf (A.drop (k + 1)) B) := ⟨_, Lib.hid rfl⟩
      rw [← hT.out] at hst
      obtain ⟨b1, o1, hA1, hcr1⟩ := (hu.below hb).cells (by omega)
      cases hA1
      obtain ⟨p0, p1, p2⟩ := cml_get A k hlt
      replace p0 := hcr1 _ _ p0
      replace p1 := hcr1 _ _ p1
      replace p2 := hcr1 _ _ p2
      rw [← Nat.add_assoc] at p1 p2
      clear hcr1
      have hxW := Lib.hid (hA.out A[k] (List.getElem_mem hlt))
      generalize A[k] = x at *
      obtain ⟨x0, x1, x2⟩ := x
      simp only at p0 p1 p2
      have pl := World.block_lt_of_cell? _ _ p0
      have hbo := hb.size
      replace hst := Lib.hid hst
      go_wp2_with fail
      go_loopw [6] (fun j wr => ∃ m : Nat, m ≤ B.length ∧ j = .int .i64 (m : Int) ∧ Below wo.heap.size wo wr ∧ Hid (((B.drop m).any (fun y => cmConf (x0, x1, x2) y) || T) = G)) (fun j _ => B.length - (intOf j).toNat)
      case atStart => exact ⟨0, by omega, by go_num, Below.refl _ _, Lib.hid hst.out.symm⟩
      case round =>
        clear hst
        obtain ⟨m, hm, rfl, hb2, hg2⟩ := hrel
        by_cases hlt2 : m < B.length
        · obtain ⟨b2, o2, hA2, hcr2⟩ := ((hv.below hb).below hb2).cells (by omega)
          cases hA2
          obtain ⟨q0, q1, q2⟩ := cml_get B m hlt2
          replace q0 := hcr2 _ _ q0
          replace q1 := hcr2 _ _ q1
          replace q2 := hcr2 _ _ q2
          rw [← Nat.add_assoc] at q1 q2
          clear hcr2
          have hst2 := hg2.out
          rw [List.drop_eq_getElem_cons hlt2, List.any_cons] at hst2
          have hyW := Lib.hid (hB.out B[m] (List.getElem_mem hlt2))
          generalize B[m] = y at *
          obtain ⟨y0, y1, y2⟩ := y
          simp only at q0 q1 q2
          have r0 := (hb2.cell (p := ⟨b1, o1 + k * 3, none⟩) pl).trans p0
          have r1 := (hb2.cell (p := ⟨b1, o1 + k * 3 + 1, none⟩) pl).trans p1
          have r2 := (hb2.cell (p := ⟨b1, o1 + k * 3 + 2, none⟩) pl).trans p2
          have kk : ∀ w', Below wr.heap.size wr w' → (fun w' : World => w'.cell? ⟨b1, o1 + k * 3, none⟩ = some (.int .i64 x0) ∧ w'.cell? ⟨b1, o1 + k * 3 + 1, none⟩ = some (.string x1) ∧ w'.cell? ⟨b1, o1 + k * 3 + 2, none⟩ = some (.float .f64 x2) ∧ w'.cell? ⟨b2, o2 + m * 3, none⟩ = some (.int .i64 y0) ∧ w'.cell? ⟨b2, o2 + m * 3 + 1, none⟩ = some (.string y1) ∧ w'.cell? ⟨b2, o2 + m * 3 + 2, none⟩ = some (.float .f64 y2)) w' := fun w' hw =>
            have g1 := World.block_lt_of_cell? _ _ r0
            have g2 := World.block_lt_of_cell? _ _ q0
            ⟨(hw.cell (p := ⟨b1, o1 + k * 3, none⟩) g1).trans r0, (hw.cell (p := ⟨b1, o1 + k * 3 + 1, none⟩) g1).trans r1, (hw.cell (p := ⟨b1, o1 + k * 3 + 2, none⟩) g1).trans r2, (hw.cell (p := ⟨b2, o2 + m * 3, none⟩) g2).trans q0, (hw.cell (p := ⟨b2, o2 + m * 3 + 1, none⟩) g2).trans q1, (hw.cell (p := ⟨b2, o2 + m * 3 + 2, none⟩) g2).trans q2⟩
          have hR1 := fun w => right6_any (x0, x1, x2) hxW.out w
          have hR2 := fun w => right6_any (y0, y1, y2) hyW.out w
          have hR3 := fun w => refConf_any (x0, x1, x2) (y0, y1, y2) w
          have hk0 : (0 : Int) ≤ (k : Int) := by omega
          have hkl : (k : Int) < (A.length : Int) := by omega
          have hm0 : (0 : Int) ≤ (m : Int) := by omega
          have hml : (m : Int) < (B.length : Int) := by omega
          clear p0 p1 p2 pl r0 r1 r2 q0 q1 q2
          have hcf : cmConf (x0, x1, x2) (y0, y1, y2) = (cmOk (x0, x1, x2) && (cmOk (y0, y1, y2) && cmCf (x0, x1, x2) (y0, y1, y2))) := rfl
          rw [hcf] at hst2
          clear hcf
          have bd := (Below.refl wr.heap.size wr).drew
          cases ho1 : cmOk (x0, x1, x2) with
          | false =>
            rw [ho1, Bool.false_and, Bool.false_or] at hst2
            rw [ho1] at hR1
            replace hR1 := Lib.hid hR1
            replace hst2 := Lib.hid hst2
            clear ho1 hR2 hR3
            go_wp2_with fail
            refine wp_region_held_drew (S := (fun w' : World => w'.cell? ⟨b1, o1 + k * 3, none⟩ = some (.int .i64 x0) ∧ w'.cell? ⟨b1, o1 + k * 3 + 1, none⟩ = some (.string x1) ∧ w'.cell? ⟨b1, o1 + k * 3 + 2, none⟩ = some (.float .f64 x2) ∧ w'.cell? ⟨b2, o2 + m * 3, none⟩ = some (.int .i64 y0) ∧ w'.cell? ⟨b2, o2 + m * 3 + 1, none⟩ = some (.string y1) ∧ w'.cell? ⟨b2, o2 + m * 3 + 2, none⟩ = some (.float .f64 y2))) (by kernel_rfl) (kk _ bd) (fun hHeld => ?_)
            refine wpAnyH_take (i := 0) (oi := { dst := some 19, op := Go.Op.move (Go.Operand.tmp 0), type := 27, pos := "ref.go:26", after := #[], guard := none }) (v := ?_) rfl (by kernel_rfl) (by kernel_rfl) (by kernel_rfl) (fun _ _ _ h => h) (Or.inl ⟨by rfl, ?_⟩) (by assumption) ?_
            rotate_left
            · (intro w hSw; (try dsimp only at hSw); go_simp; (try (with_reducible rfl)))
            try simp only [Act.put, List.setIfInBounds_toArray, List.set_cons_zero, List.set_cons_succ]
            refine wpAnyH_take (i := 1) (oi := { dst := some 20, op := Go.Op.move (Go.Operand.tmp 5), type := 3, pos := "ref.go:26", after := #[], guard := none }) (v := ?_) rfl (by kernel_rfl) (by kernel_rfl) (by kernel_rfl) (fun _ _ _ h => h) (Or.inl ⟨by rfl, ?_⟩) (by assumption) ?_
            rotate_left
            · (intro w hSw; (try dsimp only at hSw); go_simp; (try (with_reducible rfl)))
            try simp only [Act.put, List.setIfInBounds_toArray, List.set_cons_zero, List.set_cons_succ]
            refine wpAnyH_take (i := 2) (oi := { dst := some 21, op := Go.Op.indexAddr 27 (Go.Operand.tmp 19) (Go.Operand.tmp 20), type := 0, pos := "ref.go:26", after := #[{ on := 0, ground := Go.Ground.data }, { on := 1, ground := Go.Ground.data }], guard := none }) (v := ?_) rfl (by kernel_rfl) (by kernel_rfl) (by kernel_rfl) (fun _ _ _ h => h) (Or.inl ⟨by rfl, ?_⟩) (by assumption) ?_
            rotate_left
            · (intro w hSw; (try dsimp only at hSw); go_simp; (try (with_reducible rfl)))
            try simp only [Act.put, List.setIfInBounds_toArray, List.set_cons_zero, List.set_cons_succ]
            refine wpAnyH_take (i := 3) (oi := { dst := some 22, op := Go.Op.load 47 (Go.Operand.tmp 21), type := 47, pos := "ref.go:26", after := #[{ on := 2, ground := Go.Ground.data }], guard := none }) (v := ?_) rfl (by kernel_rfl) (by kernel_rfl) (by kernel_rfl) (fun _ _ _ h => h) (Or.inl ⟨by rfl, ?_⟩) (by assumption) ?_
            rotate_left
            · (intro w hSw; (try dsimp only at hSw); go_simp; (try (with_reducible rfl)))
            try simp only [Act.put, List.setIfInBounds_toArray, List.set_cons_zero, List.set_cons_succ]
            refine wpAnyH_ready (rs := [4]) (by kernel_rfl) (by simp) ?_
            refine AllReadyH.cons (o := { dst := some 23, op := Go.Op.call { callee := Go.Callee.value (Go.Operand.func 57), args := #[Go.Operand.tmp 22], argTypes := #[47] }, type := 4, pos := "ref.go:26", after := #[{ on := 3, ground := Go.Ground.data }], guard := none }) rfl (fun K hK => ?_) AllReadyH.nil
            go_simp
            refine (hR1.out _).mono ?_
            rintro e w4 ⟨rfl, hb4⟩
            replace bd := bd.trans (hb4.mono bd.size)
            refine hK.out _ _ (kk _ bd) (fun hHeld2 => ?_)
            clear hK K hHeld
            have hHeld := hHeld2
            clear hHeld2
            try simp only [Act.put, List.setIfInBounds_toArray, List.set_cons_zero, List.set_cons_succ]
            refine wpAnyH_take (i := 5) (oi := { dst := some 24, op := Go.Op.move (Go.Operand.tmp 23), type := 4, pos := "ref.go:26", after := #[{ on := 4, ground := Go.Ground.data }, { on := 4, ground := Go.Ground.chain }], guard := none }) (v := ?_) rfl (by kernel_rfl) (by kernel_rfl) (by kernel_rfl) (fun _ _ _ h => h) (Or.inl ⟨by rfl, ?_⟩) (by assumption) ?_
            rotate_left
            · (intro w hSw; (try dsimp only at hSw); go_simp; (try (with_reducible rfl)))
            try simp only [Act.put, List.setIfInBounds_toArray, List.set_cons_zero, List.set_cons_succ]
            refine wpAnyH_take (i := 6) (oi := { dst := some 25, op := Go.Op.move (Go.Operand.tmp 1), type := 27, pos := "ref.go:26", after := #[{ on := 5, ground := Go.Ground.guard }], guard := some (5, true) }) (v := undef) rfl (by kernel_rfl) (by kernel_rfl) (by kernel_rfl) (fun _ _ _ h => h) (Or.inr ⟨by rfl, rfl⟩) (by assumption) ?_
            try simp only [Act.put, List.setIfInBounds_toArray, List.set_cons_zero, List.set_cons_succ]
            refine wpAnyH_take (i := 7) (oi := { dst := some 26, op := Go.Op.move (Go.Operand.tmp 6), type := 3, pos := "ref.go:26", after := #[{ on := 5, ground := Go.Ground.guard }], guard := some (5, true) }) (v := undef) rfl (by kernel_rfl) (by kernel_rfl) (by kernel_rfl) (fun _ _ _ h => h) (Or.inr ⟨by rfl, rfl⟩) (by assumption) ?_
            try simp only [Act.put, List.setIfInBounds_toArray, List.set_cons_zero, List.set_cons_succ]
            refine wpAnyH_take (i := 8) (oi := { dst := some 27, op := Go.Op.indexAddr 27 (Go.Operand.tmp 25) (Go.Operand.tmp 26), type := 0, pos := "ref.go:26", after := #[{ on := 6, ground := Go.Ground.data }, { on := 7, ground := Go.Ground.data }, { on := 5, ground := Go.Ground.guard }], guard := some (5, true) }) (v := undef) rfl (by kernel_rfl) (by kernel_rfl) (by kernel_rfl) (fun _ _ _ h => h) (Or.inr ⟨by rfl, rfl⟩) (by assumption) ?_
            try simp only [Act.put, List.setIfInBounds_toArray, List.set_cons_zero, List.set_cons_succ]
            refine wpAnyH_take (i := 9) (oi := { dst := some 28, op := Go.Op.load 47 (Go.Operand.tmp 27), type := 47, pos := "ref.go:26", after := #[{ on := 8, ground := Go.Ground.data }, { on := 5, ground := Go.Ground.guard }], guard := some (5, true) }) (v := undef) rfl (by kernel_rfl) (by kernel_rfl) (by kernel_rfl) (fun _ _ _ h => h) (Or.inr ⟨by rfl, rfl⟩) (by assumption) ?_
            try simp only [Act.put, List.setIfInBounds_toArray, List.set_cons_zero, List.set_cons_succ]
            refine wpAnyH_take (i := 10) (oi := { dst := some 29, op := Go.Op.call { callee := Go.Callee.value (Go.Operand.func 57), args := #[Go.Operand.tmp 28], argTypes := #[47] }, type := 4, pos := "ref.go:26", after := #[{ on := 9, ground := Go.Ground.data }, { on := 5, ground := Go.Ground.chain }, { on := 5, ground := Go.Ground.guard }], guard := some (5, true) }) (v := undef) rfl (by kernel_rfl) (by kernel_rfl) (by kernel_rfl) (fun _ _ _ h => h) (Or.inr ⟨by rfl, rfl⟩) (by assumption) ?_
            try simp only [Act.put, List.setIfInBounds_toArray, List.set_cons_zero, List.set_cons_succ]
            refine wpAnyH_take (i := 11) (oi := { dst := some 30, op := Go.Op.pick (Go.Operand.tmp 24) (Go.Operand.tmp 29) (Go.Operand.const (Go.Value.bool false)), type := 4, pos := "ref.go:26", after := #[{ on := 5, ground := Go.Ground.data }, { on := 10, ground := Go.Ground.data }], guard := none }) (v := ?_) rfl (by kernel_rfl) (by kernel_rfl) (by kernel_rfl) (fun _ _ _ h => h) (Or.inl ⟨by rfl, ?_⟩) (by assumption) ?_
            rotate_left
            · (intro w hSw; (try dsimp only at hSw); go_simp; (try (with_reducible rfl)))
            try simp only [Act.put, List.setIfInBounds_toArray, List.set_cons_zero, List.set_cons_succ]
            refine wpAnyH_take (i := 12) (oi := { dst := some 31, op := Go.Op.move (Go.Operand.tmp 30), type := 4, pos := "ref.go:26", after := #[{ on := 11, ground := Go.Ground.data }, { on := 10, ground := Go.Ground.chain }], guard := none }) (v := ?_) rfl (by kernel_rfl) (by kernel_rfl) (by kernel_rfl) (fun _ _ _ h => h) (Or.inl ⟨by rfl, ?_⟩) (by assumption) ?_
            rotate_left
            · (intro w hSw; (try dsimp only at hSw); go_simp; (try (with_reducible rfl)))
            try simp only [Act.put, List.setIfInBounds_toArray, List.set_cons_zero, List.set_cons_succ]
            refine wpAnyH_take (i := 13) (oi := { dst := some 32, op := Go.Op.move (Go.Operand.tmp 0), type := 27, pos := "ref.go:26", after := #[{ on := 12, ground := Go.Ground.guard }], guard := some (12, true) }) (v := undef) rfl (by kernel_rfl) (by kernel_rfl) (by kernel_rfl) (fun _ _ _ h => h) (Or.inr ⟨by rfl, rfl⟩) (by assumption) ?_
            try simp only [Act.put, List.setIfInBounds_toArray, List.set_cons_zero, List.set_cons_succ]
            refine wpAnyH_take (i := 14) (oi := { dst := some 33, op := Go.Op.move (Go.Operand.tmp 5), type := 3, pos := "ref.go:26", after := #[{ on := 12, ground := Go.Ground.guard }], guard := some (12, true) }) (v := undef) rfl (by kernel_rfl) (by kernel_rfl) (by kernel_rfl) (fun _ _ _ h => h) (Or.inr ⟨by rfl, rfl⟩) (by assumption) ?_
            try simp only [Act.put, List.setIfInBounds_toArray, List.set_cons_zero, List.set_cons_succ]
            refine wpAnyH_take (i := 15) (oi := { dst := some 34, op := Go.Op.indexAddr 27 (Go.Operand.tmp 32) (Go.Operand.tmp 33), type := 0, pos := "ref.go:26", after := #[{ on := 13, ground := Go.Ground.data }, { on := 14, ground := Go.Ground.data }, { on := 12, ground := Go.Ground.guard }], guard := some (12, true) }) (v := undef) rfl (by kernel_rfl) (by kernel_rfl) (by kernel_rfl) (fun _ _ _ h => h) (Or.inr ⟨by rfl, rfl⟩) (by assumption) ?_
            try simp only [Act.put, List.setIfInBounds_toArray, List.set_cons_zero, List.set_cons_succ]
            refine wpAnyH_take (i := 16) (oi := { dst := some 35, op := Go.Op.load 47 (Go.Operand.tmp 34), type := 47, pos := "ref.go:26", after := #[{ on := 15, ground := Go.Ground.data }, { on := 12, ground := Go.Ground.guard }], guard := some (12, true) }) (v := undef) rfl (by kernel_rfl) (by kernel_rfl) (by kernel_rfl) (fun _ _ _ h => h) (Or.inr ⟨by rfl, rfl⟩) (by assumption) ?_
            try simp only [Act.put, List.setIfInBounds_toArray, List.set_cons_zero, List.set_cons_succ]
            refine wpAnyH_take (i := 17) (oi := { dst := some 36, op := Go.Op.move (Go.Operand.tmp 1), type := 27, pos := "ref.go:26", after := #[{ on := 12, ground := Go.Ground.guard }], guard := some (12, true) }) (v := undef) rfl (by kernel_rfl) (by kernel_rfl) (by kernel_rfl) (fun _ _ _ h => h) (Or.inr ⟨by rfl, rfl⟩) (by assumption) ?_
            try simp only [Act.put, List.setIfInBounds_toArray, List.set_cons_zero, List.set_cons_succ]
            refine wpAnyH_take (i := 18) (oi := { dst := some 37, op := Go.Op.move (Go.Operand.tmp 6), type := 3, pos := "ref.go:26", after := #[{ on := 12, ground := Go.Ground.guard }], guard := some (12, true) }) (v := undef) rfl (by kernel_rfl) (by kernel_rfl) (by kernel_rfl) (fun _ _ _ h => h) (Or.inr ⟨by rfl, rfl⟩) (by assumption) ?_
            try simp only [Act.put, List.setIfInBounds_toArray, List.set_cons_zero, List.set_cons_succ]
            refine wpAnyH_take (i := 19) (oi := { dst := some 38, op := Go.Op.indexAddr 27 (Go.Operand.tmp 36) (Go.Operand.tmp 37), type := 0, pos := "ref.go:26", after := #[{ on := 17, ground := Go.Ground.data }, { on := 18, ground := Go.Ground.data }, { on := 12, ground := Go.Ground.guard }], guard := some (12, true) }) (v := undef) rfl (by kernel_rfl) (by kernel_rfl) (by kernel_rfl) (fun _ _ _ h => h) (Or.inr ⟨by rfl, rfl⟩) (by assumption) ?_
            try simp only [Act.put, List.setIfInBounds_toArray, List.set_cons_zero, List.set_cons_succ]
            refine wpAnyH_take (i := 20) (oi := { dst := some 39, op := Go.Op.load 47 (Go.Operand.tmp 38), type := 47, pos := "ref.go:26", after := #[{ on := 19, ground := Go.Ground.data }, { on := 12, ground := Go.Ground.guard }], guard := some (12, true) }) (v := undef) rfl (by kernel_rfl) (by kernel_rfl) (by kernel_rfl) (fun _ _ _ h => h) (Or.inr ⟨by rfl, rfl⟩) (by assumption) ?_
            try simp only [Act.put, List.setIfInBounds_toArray, List.set_cons_zero, List.set_cons_succ]
            refine wpAnyH_take (i := 21) (oi := { dst := some 40, op := Go.Op.call { callee := Go.Callee.value (Go.Operand.func 59), args := #[Go.Operand.tmp 35, Go.Operand.tmp 39], argTypes := #[47, 47] }, type := 4, pos := "ref.go:26", after := #[{ on := 16, ground := Go.Ground.data }, { on := 20, ground := Go.Ground.data }, { on := 12, ground := Go.Ground.chain }, { on := 12, ground := Go.Ground.guard }], guard := some (12, true) }) (v := undef) rfl (by kernel_rfl) (by kernel_rfl) (by kernel_rfl) (fun _ _ _ h => h) (Or.inr ⟨by rfl, rfl⟩) (by assumption) ?_
            try simp only [Act.put, List.setIfInBounds_toArray, List.set_cons_zero, List.set_cons_succ]
            refine wpAnyH_take (i := 22) (oi := { dst := some 41, op := Go.Op.pick (Go.Operand.tmp 31) (Go.Operand.tmp 40) (Go.Operand.const (Go.Value.bool false)), type := 4, pos := "ref.go:26", after := #[{ on := 12, ground := Go.Ground.data }, { on := 21, ground := Go.Ground.data }], guard := none }) (v := ?_) rfl (by kernel_rfl) (by kernel_rfl) (by kernel_rfl) (fun _ _ _ h => h) (Or.inl ⟨by rfl, ?_⟩) (by assumption) ?_
            rotate_left
            · (intro w hSw; (try dsimp only at hSw); go_simp; (try (with_reducible rfl)))
            try simp only [Act.put, List.setIfInBounds_toArray, List.set_cons_zero, List.set_cons_succ]
            refine wpAnyH_done (by kernel_rfl) ?_ _
            clear hHeld
            go_wp2_with fail
            go_roundw
            case rel => exact ⟨m + 1, by omega, by go_num, hb2.trans (bd.mono hb2.size), hst2⟩
            case measure => simp [intOf]; omega
          | true =>
            rw [ho1, Bool.true_and] at hst2
            rw [ho1] at hR1
            replace hR1 := Lib.hid hR1
            clear ho1
            cases ho2 : cmOk (y0, y1, y2) with
            | false =>
              rw [ho2, Bool.false_and, Bool.false_or] at hst2
              rw [ho2] at hR2
              replace hR2 := Lib.hid hR2
              replace hst2 := Lib.hid hst2
              clear ho2 hR3
              go_wp2_with fail
              refine wp_region_held_drew (S := (fun w' : World => w'.cell? ⟨b1, o1 + k * 3, none⟩ = some (.int .i64 x0) ∧ w'.cell? ⟨b1, o1 + k * 3 + 1, none⟩ = some (.string x1) ∧ w'.cell? ⟨b1, o1 + k * 3 + 2, none⟩ = some (.float .f64 x2) ∧ w'.cell? ⟨b2, o2 + m * 3, none⟩ = some (.int .i64 y0) ∧ w'.cell? ⟨b2, o2 + m * 3 + 1, none⟩ = some (.string y1) ∧ w'.cell? ⟨b2, o2 + m * 3 + 2, none⟩ = some (.float .f64 y2))) (by kernel_rfl) (kk _ bd) (fun hHeld => ?_)
              refine wpAnyH_take (i := 0) (oi := { dst := some 19, op := Go.Op.move (Go.Operand.tmp 0), type := 27, pos := "ref.go:26", after := #[], guard := none }) (v := ?_) rfl (by kernel_rfl) (by kernel_rfl) (by kernel_rfl) (fun _ _ _ h => h) (Or.inl ⟨by rfl, ?_⟩) (by assumption) ?_
              rotate_left
              · (intro w hSw; (try dsimp only at hSw); go_simp; (try (with_reducible rfl)))
              try simp only [Act.put, List.setIfInBounds_toArray, List.set_cons_zero, List.set_cons_succ]
              refine wpAnyH_take (i := 1) (oi := { dst := some 20, op := Go.Op.move (Go.Operand.tmp 5), type := 3, pos := "ref.go:26", after := #[], guard := none }) (v := ?_) rfl (by kernel_rfl) (by kernel_rfl) (by kernel_rfl) (fun _ _ _ h => h) (Or.inl ⟨by rfl, ?_⟩) (by assumption) ?_
              rotate_left
              · (intro w hSw; (try dsimp only at hSw); go_simp; (try (with_reducible rfl)))
              try simp only [Act.put, List.setIfInBounds_toArray, List.set_cons_zero, List.set_cons_succ]
              refine wpAnyH_take (i := 2) (oi := { dst := some 21, op := Go.Op.indexAddr 27 (Go.Operand.tmp 19) (Go.Operand.tmp 20), type := 0, pos := "ref.go:26", after := #[{ on := 0, ground := Go.Ground.data }, { on := 1, ground := Go.Ground.data }], guard := none }) (v := ?_) rfl (by kernel_rfl) (by kernel_rfl) (by kernel_rfl) (fun _ _ _ h => h) (Or.inl ⟨by rfl, ?_⟩) (by assumption) ?_
              rotate_left
              · (intro w hSw; (try dsimp only at hSw); go_simp; (try (with_reducible rfl)))
              try simp only [Act.put, List.setIfInBounds_toArray, List.set_cons_zero, List.set_cons_succ]
              refine wpAnyH_take (i := 3) (oi := { dst := some 22, op := Go.Op.load 47 (Go.Operand.tmp 21), type := 47, pos := "ref.go:26", after := #[{ on := 2, ground := Go.Ground.data }], guard := none }) (v := ?_) rfl (by kernel_rfl) (by kernel_rfl) (by kernel_rfl) (fun _ _ _ h => h) (Or.inl ⟨by rfl, ?_⟩) (by assumption) ?_
              rotate_left
              · (intro w hSw; (try dsimp only at hSw); go_simp; (try (with_reducible rfl)))
              try simp only [Act.put, List.setIfInBounds_toArray, List.set_cons_zero, List.set_cons_succ]
              refine wpAnyH_ready (rs := [4]) (by kernel_rfl) (by simp) ?_
              refine AllReadyH.cons (o := { dst := some 23, op := Go.Op.call { callee := Go.Callee.value (Go.Operand.func 57), args := #[Go.Operand.tmp 22], argTypes := #[47] }, type := 4, pos := "ref.go:26", after := #[{ on := 3, ground := Go.Ground.data }], guard := none }) rfl (fun K hK => ?_) AllReadyH.nil
              go_simp
              refine (hR1.out _).mono ?_
              rintro e w4 ⟨rfl, hb4⟩
              replace bd := bd.trans (hb4.mono bd.size)
              refine hK.out _ _ (kk _ bd) (fun hHeld2 => ?_)
              clear hK K hHeld
              have hHeld := hHeld2
              clear hHeld2
              try simp only [Act.put, List.setIfInBounds_toArray, List.set_cons_zero, List.set_cons_succ]
              refine wpAnyH_take (i := 5) (oi := { dst := some 24, op := Go.Op.move (Go.Operand.tmp 23), type := 4, pos := "ref.go:26", after := #[{ on := 4, ground := Go.Ground.data }, { on := 4, ground := Go.Ground.chain }], guard := none }) (v := ?_) rfl (by kernel_rfl) (by kernel_rfl) (by kernel_rfl) (fun _ _ _ h => h) (Or.inl ⟨by rfl, ?_⟩) (by assumption) ?_
              rotate_left
              · (intro w hSw; (try dsimp only at hSw); go_simp; (try (with_reducible rfl)))
              try simp only [Act.put, List.setIfInBounds_toArray, List.set_cons_zero, List.set_cons_succ]
              refine wpAnyH_take (i := 6) (oi := { dst := some 25, op := Go.Op.move (Go.Operand.tmp 1), type := 27, pos := "ref.go:26", after := #[{ on := 5, ground := Go.Ground.guard }], guard := some (5, true) }) (v := ?_) rfl (by kernel_rfl) (by kernel_rfl) (by kernel_rfl) (fun _ _ _ h => h) (Or.inl ⟨by rfl, ?_⟩) (by assumption) ?_
              rotate_left
              · (intro w hSw; (try dsimp only at hSw); go_simp; (try (with_reducible rfl)))
              try simp only [Act.put, List.setIfInBounds_toArray, List.set_cons_zero, List.set_cons_succ]
              refine wpAnyH_take (i := 7) (oi := { dst := some 26, op := Go.Op.move (Go.Operand.tmp 6), type := 3, pos := "ref.go:26", after := #[{ on := 5, ground := Go.Ground.guard }], guard := some (5, true) }) (v := ?_) rfl (by kernel_rfl) (by kernel_rfl) (by kernel_rfl) (fun _ _ _ h => h) (Or.inl ⟨by rfl, ?_⟩) (by assumption) ?_
              rotate_left
              · (intro w hSw; (try dsimp only at hSw); go_simp; (try (with_reducible rfl)))
              try simp only [Act.put, List.setIfInBounds_toArray, List.set_cons_zero, List.set_cons_succ]
              refine wpAnyH_take (i := 8) (oi := { dst := some 27, op := Go.Op.indexAddr 27 (Go.Operand.tmp 25) (Go.Operand.tmp 26), type := 0, pos := "ref.go:26", after := #[{ on := 6, ground := Go.Ground.data }, { on := 7, ground := Go.Ground.data }, { on := 5, ground := Go.Ground.guard }], guard := some (5, true) }) (v := ?_) rfl (by kernel_rfl) (by kernel_rfl) (by kernel_rfl) (fun _ _ _ h => h) (Or.inl ⟨by rfl, ?_⟩) (by assumption) ?_
              rotate_left
              · (intro w hSw; (try dsimp only at hSw); go_simp; (try (with_reducible rfl)))
              try simp only [Act.put, List.setIfInBounds_toArray, List.set_cons_zero, List.set_cons_succ]
              refine wpAnyH_take (i := 9) (oi := { dst := some 28, op := Go.Op.load 47 (Go.Operand.tmp 27), type := 47, pos := "ref.go:26", after := #[{ on := 8, ground := Go.Ground.data }, { on := 5, ground := Go.Ground.guard }], guard := some (5, true) }) (v := ?_) rfl (by kernel_rfl) (by kernel_rfl) (by kernel_rfl) (fun _ _ _ h => h) (Or.inl ⟨by rfl, ?_⟩) (by assumption) ?_
              rotate_left
              · (intro w hSw; (try dsimp only at hSw); go_simp; (try (with_reducible rfl)))
              try simp only [Act.put, List.setIfInBounds_toArray, List.set_cons_zero, List.set_cons_succ]
              refine wpAnyH_ready (rs := [10]) (by kernel_rfl) (by simp) ?_
              refine AllReadyH.cons (o := { dst := some 29, op := Go.Op.call { callee := Go.Callee.value (Go.Operand.func 57), args := #[Go.Operand.tmp 28], argTypes := #[47] }, type := 4, pos := "ref.go:26", after := #[{ on := 9, ground := Go.Ground.data }, { on := 5, ground := Go.Ground.chain }, { on := 5, ground := Go.Ground.guard }], guard := some (5, true) }) rfl (fun K hK => ?_) AllReadyH.nil
              go_simp
              refine (hR2.out _).mono ?_
              rintro e w5 ⟨rfl, hb5⟩
              replace bd := bd.trans (hb5.mono bd.size)
              refine hK.out _ _ (kk _ bd) (fun hHeld2 => ?_)
              clear hK K hHeld
              have hHeld := hHeld2
              clear hHeld2
              try simp only [Act.put, List.setIfInBounds_toArray, List.set_cons_zero, List.set_cons_succ]
              refine wpAnyH_take (i := 11) (oi := { dst := some 30, op := Go.Op.pick (Go.Operand.tmp 24) (Go.Operand.tmp 29) (Go.Operand.const (Go.Value.bool false)), type := 4, pos := "ref.go:26", after := #[{ on := 5, ground := Go.Ground.data }, { on := 10, ground := Go.Ground.data }], guard := none }) (v := ?_) rfl (by kernel_rfl) (by kernel_rfl) (by kernel_rfl) (fun _ _ _ h => h) (Or.inl ⟨by rfl, ?_⟩) (by assumption) ?_
              rotate_left
              · (intro w hSw; (try dsimp only at hSw); go_simp; (try (with_reducible rfl)))
              try simp only [Act.put, List.setIfInBounds_toArray, List.set_cons_zero, List.set_cons_succ]
              refine wpAnyH_take (i := 12) (oi := { dst := some 31, op := Go.Op.move (Go.Operand.tmp 30), type := 4, pos := "ref.go:26", after := #[{ on := 11, ground := Go.Ground.data }, { on := 10, ground := Go.Ground.chain }], guard := none }) (v := ?_) rfl (by kernel_rfl) (by kernel_rfl) (by kernel_rfl) (fun _ _ _ h => h) (Or.inl ⟨by rfl, ?_⟩) (by assumption) ?_
              rotate_left
              · (intro w hSw; (try dsimp only at hSw); go_simp; (try (with_reducible rfl)))
              try simp only [Act.put, List.setIfInBounds_toArray, List.set_cons_zero, List.set_cons_succ]
              refine wpAnyH_take (i := 13) (oi := { dst := some 32, op := Go.Op.move (Go.Operand.tmp 0), type := 27, pos := "ref.go:26", after := #[{ on := 12, ground := Go.Ground.guard }], guard := some (12, true) }) (v := undef) rfl (by kernel_rfl) (by kernel_rfl) (by kernel_rfl) (fun _ _ _ h => h) (Or.inr ⟨by rfl, rfl⟩) (by assumption) ?_
              try simp only [Act.put, List.setIfInBounds_toArray, List.set_cons_zero, List.set_cons_succ]
              refine wpAnyH_take (i := 14) (oi := { dst := some 33, op := Go.Op.move (Go.Operand.tmp 5), type := 3, pos := "ref.go:26", after := #[{ on := 12, ground := Go.Ground.guard }], guard := some (12, true) }) (v := undef) rfl (by kernel_rfl) (by kernel_rfl) (by kernel_rfl) (fun _ _ _ h => h) (Or.inr ⟨by rfl, rfl⟩) (by assumption) ?_
              try simp only [Act.put, List.setIfInBounds_toArray, List.set_cons_zero, List.set_cons_succ]
              refine wpAnyH_take (i := 15) (oi := { dst := some 34, op := Go.Op.indexAddr 27 (Go.Operand.tmp 32) (Go.Operand.tmp 33), type := 0, pos := "ref.go:26", after := #[{ on := 13, ground := Go.Ground.data }, { on := 14, ground := Go.Ground.data }, { on := 12, ground := Go.Ground.guard }], guard := some (12, true) }) (v := undef) rfl (by kernel_rfl) (by kernel_rfl) (by kernel_rfl) (fun _ _ _ h => h) (Or.inr ⟨by rfl, rfl⟩) (by assumption) ?_
              try simp only [Act.put, List.setIfInBounds_toArray, List.set_cons_zero, List.set_cons_succ]
              refine wpAnyH_take (i := 16) (oi := { dst := some 35, op := Go.Op.load 47 (Go.Operand.tmp 34), type := 47, pos := "ref.go:26", after := #[{ on := 15, ground := Go.Ground.data }, { on := 12, ground := Go.Ground.guard }], guard := some (12, true) }) (v := undef) rfl (by kernel_rfl) (by kernel_rfl) (by kernel_rfl) (fun _ _ _ h => h) (Or.inr ⟨by rfl, rfl⟩) (by assumption) ?_
              try simp only [Act.put, List.setIfInBounds_toArray, List.set_cons_zero, List.set_cons_succ]
              refine wpAnyH_take (i := 17) (oi := { dst := some 36, op := Go.Op.move (Go.Operand.tmp 1), type := 27, pos := "ref.go:26", after := #[{ on := 12, ground := Go.Ground.guard }], guard := some (12, true) }) (v := undef) rfl (by kernel_rfl) (by kernel_rfl) (by kernel_rfl) (fun _ _ _ h => h) (Or.inr ⟨by rfl, rfl⟩) (by assumption) ?_
              try simp only [Act.put, List.setIfInBounds_toArray, List.set_cons_zero, List.set_cons_succ]
              refine wpAnyH_take (i := 18) (oi := { dst := some 37, op := Go.Op.move (Go.Operand.tmp 6), type := 3, pos := "ref.go:26", after := #[{ on := 12, ground := Go.Ground.guard }], guard := some (12, true) }) (v := undef) rfl (by kernel_rfl) (by kernel_rfl) (by kernel_rfl) (fun _ _ _ h => h) (Or.inr ⟨by rfl, rfl⟩) (by assumption) ?_
              try simp only [Act.put, List.setIfInBounds_toArray, List.set_cons_zero, List.set_cons_succ]
              refine wpAnyH_take (i := 19) (oi := { dst := some 38, op := Go.Op.indexAddr 27 (Go.Operand.tmp 36) (Go.Operand.tmp 37), type := 0, pos := "ref.go:26", after := #[{ on := 17, ground := Go.Ground.data }, { on := 18, ground := Go.Ground.data }, { on := 12, ground := Go.Ground.guard }], guard := some (12, true) }) (v := undef) rfl (by kernel_rfl) (by kernel_rfl) (by kernel_rfl) (fun _ _ _ h => h) (Or.inr ⟨by rfl, rfl⟩) (by assumption) ?_
              try simp only [Act.put, List.setIfInBounds_toArray, List.set_cons_zero, List.set_cons_succ]
              refine wpAnyH_take (i := 20) (oi := { dst := some 39, op := Go.Op.load 47 (Go.Operand.tmp 38), type := 47, pos := "ref.go:26", after := #[{ on := 19, ground := Go.Ground.data }, { on := 12, ground := Go.Ground.guard }], guard := some (12, true) }) (v := undef) rfl (by kernel_rfl) (by kernel_rfl) (by kernel_rfl) (fun _ _ _ h => h) (Or.inr ⟨by rfl, rfl⟩) (by assumption) ?_
              try simp only [Act.put, List.setIfInBounds_toArray, List.set_cons_zero, List.set_cons_succ]
              refine wpAnyH_take (i := 21) (oi := { dst := some 40, op := Go.Op.call { callee := Go.Callee.value (Go.Operand.func 59), args := #[Go.Operand.tmp 35, Go.Operand.tmp 39], argTypes := #[47, 47] }, type := 4, pos := "ref.go:26", after := #[{ on := 16, ground := Go.Ground.data }, { on := 20, ground := Go.Ground.data }, { on := 12, ground := Go.Ground.chain }, { on := 12, ground := Go.Ground.guard }], guard := some (12, true) }) (v := undef) rfl (by kernel_rfl) (by kernel_rfl) (by kernel_rfl) (fun _ _ _ h => h) (Or.inr ⟨by rfl, rfl⟩) (by assumption) ?_
              try simp only [Act.put, List.setIfInBounds_toArray, List.set_cons_zero, List.set_cons_succ]
              refine wpAnyH_take (i := 22) (oi := { dst := some 41, op := Go.Op.pick (Go.Operand.tmp 31) (Go.Operand.tmp 40) (Go.Operand.const (Go.Value.bool false)), type := 4, pos := "ref.go:26", after := #[{ on := 12, ground := Go.Ground.data }, { on := 21, ground := Go.Ground.data }], guard := none }) (v := ?_) rfl (by kernel_rfl) (by kernel_rfl) (by kernel_rfl) (fun _ _ _ h => h) (Or.inl ⟨by rfl, ?_⟩) (by assumption) ?_
              rotate_left
              · (intro w hSw; (try dsimp only at hSw); go_simp; (try (with_reducible rfl)))
              try simp only [Act.put, List.setIfInBounds_toArray, List.set_cons_zero, List.set_cons_succ]
              refine wpAnyH_done (by kernel_rfl) ?_ _
              clear hHeld
              go_wp2_with fail
              go_roundw
              case rel => exact ⟨m + 1, by omega, by go_num, hb2.trans (bd.mono hb2.size), hst2⟩
              case measure => simp [intOf]; omega
            | true =>
              rw [ho2, Bool.true_and] at hst2
              rw [ho2] at hR2
              replace hR2 := Lib.hid hR2
              clear ho2
              cases ho3 : cmCf (x0, x1, x2) (y0, y1, y2) with
              | false =>
                rw [ho3, Bool.false_or] at hst2
                rw [ho3] at hR3
                replace hR3 := Lib.hid hR3
                replace hst2 := Lib.hid hst2
                clear ho3
                go_wp2_with fail
                refine wp_region_held_drew (S := (fun w' : World => w'.cell? ⟨b1, o1 + k * 3, none⟩ = some (.int .i64 x0) ∧ w'.cell? ⟨b1, o1 + k * 3 + 1, none⟩ = some (.string x1) ∧ w'.cell? ⟨b1, o1 + k * 3 + 2, none⟩ = some (.float .f64 x2) ∧ w'.cell? ⟨b2, o2 + m * 3, none⟩ = some (.int .i64 y0) ∧ w'.cell? ⟨b2, o2 + m * 3 + 1, none⟩ = some (.string y1) ∧ w'.cell? ⟨b2, o2 + m * 3 + 2, none⟩ = some (.float .f64 y2))) (by kernel_rfl) (kk _ bd) (fun hHeld => ?_)
                refine wpAnyH_take (i := 0) (oi := { dst := some 19, op := Go.Op.move (Go.Operand.tmp 0), type := 27, pos := "ref.go:26", after := #[], guard := none }) (v := ?_) rfl (by kernel_rfl) (by kernel_rfl) (by kernel_rfl) (fun _ _ _ h => h) (Or.inl ⟨by rfl, ?_⟩) (by assumption) ?_
                rotate_left
                · (intro w hSw; (try dsimp only at hSw); go_simp; (try (with_reducible rfl)))
                try simp only [Act.put, List.setIfInBounds_toArray, List.set_cons_zero, List.set_cons_succ]
                refine wpAnyH_take (i := 1) (oi := { dst := some 20, op := Go.Op.move (Go.Operand.tmp 5), type := 3, pos := "ref.go:26", after := #[], guard := none }) (v := ?_) rfl (by kernel_rfl) (by kernel_rfl) (by kernel_rfl) (fun _ _ _ h => h) (Or.inl ⟨by rfl, ?_⟩) (by assumption) ?_
                rotate_left
                · (intro w hSw; (try dsimp only at hSw); go_simp; (try (with_reducible rfl)))
                try simp only [Act.put, List.setIfInBounds_toArray, List.set_cons_zero, List.set_cons_succ]
                refine wpAnyH_take (i := 2) (oi := { dst := some 21, op := Go.Op.indexAddr 27 (Go.Operand.tmp 19) (Go.Operand.tmp 20), type := 0, pos := "ref.go:26", after := #[{ on := 0, ground := Go.Ground.data }, { on := 1, ground := Go.Ground.data }], guard := none }) (v := ?_) rfl (by kernel_rfl) (by kernel_rfl) (by kernel_rfl) (fun _ _ _ h => h) (Or.inl ⟨by rfl, ?_⟩) (by assumption) ?_
                rotate_left
                · (intro w hSw; (try dsimp only at hSw); go_simp; (try (with_reducible rfl)))
                try simp only [Act.put, List.setIfInBounds_toArray, List.set_cons_zero, List.set_cons_succ]
                refine wpAnyH_take (i := 3) (oi := { dst := some 22, op := Go.Op.load 47 (Go.Operand.tmp 21), type := 47, pos := "ref.go:26", after := #[{ on := 2, ground := Go.Ground.data }], guard := none }) (v := ?_) rfl (by kernel_rfl) (by kernel_rfl) (by kernel_rfl) (fun _ _ _ h => h) (Or.inl ⟨by rfl, ?_⟩) (by assumption) ?_
                rotate_left
                · (intro w hSw; (try dsimp only at hSw); go_simp; (try (with_reducible rfl)))
                try simp only [Act.put, List.setIfInBounds_toArray, List.set_cons_zero, List.set_cons_succ]
                refine wpAnyH_ready (rs := [4]) (by kernel_rfl) (by simp) ?_
                refine AllReadyH.cons (o := { dst := some 23, op := Go.Op.call { callee := Go.Callee.value (Go.Operand.func 57), args := #[Go.Operand.tmp 22], argTypes := #[47] }, type := 4, pos := "ref.go:26", after := #[{ on := 3, ground := Go.Ground.data }], guard := none }) rfl (fun K hK => ?_) AllReadyH.nil
                go_simp
                refine (hR1.out _).mono ?_
                rintro e w4 ⟨rfl, hb4⟩
                replace bd := bd.trans (hb4.mono bd.size)
                refine hK.out _ _ (kk _ bd) (fun hHeld2 => ?_)
                clear hK K hHeld
                have hHeld := hHeld2
                clear hHeld2
                try simp only [Act.put, List.setIfInBounds_toArray, List.set_cons_zero, List.set_cons_succ]
                refine wpAnyH_take (i := 5) (oi := { dst := some 24, op := Go.Op.move (Go.Operand.tmp 23), type := 4, pos := "ref.go:26", after := #[{ on := 4, ground := Go.Ground.data }, { on := 4, ground := Go.Ground.chain }], guard := none }) (v := ?_) rfl (by kernel_rfl) (by kernel_rfl) (by kernel_rfl) (fun _ _ _ h => h) (Or.inl ⟨by rfl, ?_⟩) (by assumption) ?_
                rotate_left
                · (intro w hSw; (try dsimp only at hSw); go_simp; (try (with_reducible rfl)))
                try simp only [Act.put, List.setIfInBounds_toArray, List.set_cons_zero, List.set_cons_succ]
                refine wpAnyH_take (i := 6) (oi := { dst := some 25, op := Go.Op.move (Go.Operand.tmp 1), type := 27, pos := "ref.go:26", after := #[{ on := 5, ground := Go.Ground.guard }], guard := some (5, true) }) (v := ?_) rfl (by kernel_rfl) (by kernel_rfl) (by kernel_rfl) (fun _ _ _ h => h) (Or.inl ⟨by rfl, ?_⟩) (by assumption) ?_
                rotate_left
                · (intro w hSw; (try dsimp only at hSw); go_simp; (try (with_reducible rfl)))
                try simp only [Act.put, List.setIfInBounds_toArray, List.set_cons_zero, List.set_cons_succ]
                refine wpAnyH_take (i := 7) (oi := { dst := some 26, op := Go.Op.move (Go.Operand.tmp 6), type := 3, pos := "ref.go:26", after := #[{ on := 5, ground := Go.Ground.guard }], guard := some (5, true) }) (v := ?_) rfl (by kernel_rfl) (by kernel_rfl) (by kernel_rfl) (fun _ _ _ h => h) (Or.inl ⟨by rfl, ?_⟩) (by assumption) ?_
                rotate_left
                · (intro w hSw; (try dsimp only at hSw); go_simp; (try (with_reducible rfl)))
                try simp only [Act.put, List.setIfInBounds_toArray, List.set_cons_zero, List.set_cons_succ]
                refine wpAnyH_take (i := 8) (oi := { dst := some 27, op := Go.Op.indexAddr 27 (Go.Operand.tmp 25) (Go.Operand.tmp 26), type := 0, pos := "ref.go:26", after := #[{ on := 6, ground := Go.Ground.data }, { on := 7, ground := Go.Ground.data }, { on := 5, ground := Go.Ground.guard }], guard := some (5, true) }) (v := ?_) rfl (by kernel_rfl) (by kernel_rfl) (by kernel_rfl) (fun _ _ _ h => h) (Or.inl ⟨by rfl, ?_⟩) (by assumption) ?_
                rotate_left
                · (intro w hSw; (try dsimp only at hSw); go_simp; (try (with_reducible rfl)))
                try simp only [Act.put, List.setIfInBounds_toArray, List.set_cons_zero, List.set_cons_succ]
                refine wpAnyH_take (i := 9) (oi := { dst := some 28, op := Go.Op.load 47 (Go.Operand.tmp 27), type := 47, pos := "ref.go:26", after := #[{ on := 8, ground := Go.Ground.data }, { on := 5, ground := Go.Ground.guard }], guard := some (5, true) }) (v := ?_) rfl (by kernel_rfl) (by kernel_rfl) (by kernel_rfl) (fun _ _ _ h => h) (Or.inl ⟨by rfl, ?_⟩) (by assumption) ?_
                rotate_left
                · (intro w hSw; (try dsimp only at hSw); go_simp; (try (with_reducible rfl)))
                try simp only [Act.put, List.setIfInBounds_toArray, List.set_cons_zero, List.set_cons_succ]
                refine wpAnyH_ready (rs := [10]) (by kernel_rfl) (by simp) ?_
                refine AllReadyH.cons (o := { dst := some 29, op := Go.Op.call { callee := Go.Callee.value (Go.Operand.func 57), args := #[Go.Operand.tmp 28], argTypes := #[47] }, type := 4, pos := "ref.go:26", after := #[{ on := 9, ground := Go.Ground.data }, { on := 5, ground := Go.Ground.chain }, { on := 5, ground := Go.Ground.guard }], guard := some (5, true) }) rfl (fun K hK => ?_) AllReadyH.nil
                go_simp
                refine (hR2.out _).mono ?_
                rintro e w5 ⟨rfl, hb5⟩
                replace bd := bd.trans (hb5.mono bd.size)
                refine hK.out _ _ (kk _ bd) (fun hHeld2 => ?_)
                clear hK K hHeld
                have hHeld := hHeld2
                clear hHeld2
                try simp only [Act.put, List.setIfInBounds_toArray, List.set_cons_zero, List.set_cons_succ]
                refine wpAnyH_take (i := 11) (oi := { dst := some 30, op := Go.Op.pick (Go.Operand.tmp 24) (Go.Operand.tmp 29) (Go.Operand.const (Go.Value.bool false)), type := 4, pos := "ref.go:26", after := #[{ on := 5, ground := Go.Ground.data }, { on := 10, ground := Go.Ground.data }], guard := none }) (v := ?_) rfl (by kernel_rfl) (by kernel_rfl) (by kernel_rfl) (fun _ _ _ h => h) (Or.inl ⟨by rfl, ?_⟩) (by assumption) ?_
                rotate_left
                · (intro w hSw; (try dsimp only at hSw); go_simp; (try (with_reducible rfl)))
                try simp only [Act.put, List.setIfInBounds_toArray, List.set_cons_zero, List.set_cons_succ]
                refine wpAnyH_take (i := 12) (oi := { dst := some 31, op := Go.Op.move (Go.Operand.tmp 30), type := 4, pos := "ref.go:26", after := #[{ on := 11, ground := Go.Ground.data }, { on := 10, ground := Go.Ground.chain }], guard := none }) (v := ?_) rfl (by kernel_rfl) (by kernel_rfl) (by kernel_rfl) (fun _ _ _ h => h) (Or.inl ⟨by rfl, ?_⟩) (by assumption) ?_
                rotate_left
                · (intro w hSw; (try dsimp only at hSw); go_simp; (try (with_reducible rfl)))
                try simp only [Act.put, List.setIfInBounds_toArray, List.set_cons_zero, List.set_cons_succ]
                refine wpAnyH_take (i := 13) (oi := { dst := some 32, op := Go.Op.move (Go.Operand.tmp 0), type := 27, pos := "ref.go:26", after := #[{ on := 12, ground := Go.Ground.guard }], guard := some (12, true) }) (v := ?_) rfl (by kernel_rfl) (by kernel_rfl) (by kernel_rfl) (fun _ _ _ h => h) (Or.inl ⟨by rfl, ?_⟩) (by assumption) ?_
                rotate_left
                · (intro w hSw; (try dsimp only at hSw); go_simp; (try (with_reducible rfl)))
                try simp only [Act.put, List.setIfInBounds_toArray, List.set_cons_zero, List.set_cons_succ]
                refine wpAnyH_take (i := 14) (oi := { dst := some 33, op := Go.Op.move (Go.Operand.tmp 5), type := 3, pos := "ref.go:26", after := #[{ on := 12, ground := Go.Ground.guard }], guard := some (12, true) }) (v := ?_) rfl (by kernel_rfl) (by kernel_rfl) (by kernel_rfl) (fun _ _ _ h => h) (Or.inl ⟨by rfl, ?_⟩) (by assumption) ?_
                rotate_left
                · (intro w hSw; (try dsimp only at hSw); go_simp; (try (with_reducible rfl)))
                try simp only [Act.put, List.setIfInBounds_toArray, List.set_cons_zero, List.set_cons_succ]
                refine wpAnyH_take (i := 15) (oi := { dst := some 34, op := Go.Op.indexAddr 27 (Go.Operand.tmp 32) (Go.Operand.tmp 33), type := 0, pos := "ref.go:26", after := #[{ on := 13, ground := Go.Ground.data }, { on := 14, ground := Go.Ground.data }, { on := 12, ground := Go.Ground.guard }], guard := some (12, true) }) (v := ?_) rfl (by kernel_rfl) (by kernel_rfl) (by kernel_rfl) (fun _ _ _ h => h) (Or.inl ⟨by rfl, ?_⟩) (by assumption) ?_
                rotate_left
                · (intro w hSw; (try dsimp only at hSw); go_simp; (try (with_reducible rfl)))
                try simp only [Act.put, List.setIfInBounds_toArray, List.set_cons_zero, List.set_cons_succ]
                refine wpAnyH_take (i := 16) (oi := { dst := some 35, op := Go.Op.load 47 (Go.Operand.tmp 34), type := 47, pos := "ref.go:26", after := #[{ on := 15, ground := Go.Ground.data }, { on := 12, ground := Go.Ground.guard }], guard := some (12, true) }) (v := ?_) rfl (by kernel_rfl) (by kernel_rfl) (by kernel_rfl) (fun _ _ _ h => h) (Or.inl ⟨by rfl, ?_⟩) (by assumption) ?_
                rotate_left
                · (intro w hSw; (try dsimp only at hSw); go_simp; (try (with_reducible rfl)))
                try simp only [Act.put, List.setIfInBounds_toArray, List.set_cons_zero, List.set_cons_succ]
                refine wpAnyH_take (i := 17) (oi := { dst := some 36, op := Go.Op.move (Go.Operand.tmp 1), type := 27, pos := "ref.go:26", after := #[{ on := 12, ground := Go.Ground.guard }], guard := some (12, true) }) (v := ?_) rfl (by kernel_rfl) (by kernel_rfl) (by kernel_rfl) (fun _ _ _ h => h) (Or.inl ⟨by rfl, ?_⟩) (by assumption) ?_
                rotate_left
                · (intro w hSw; (try dsimp only at hSw); go_simp; (try (with_reducible rfl)))
                try simp only [Act.put, List.setIfInBounds_toArray, List.set_cons_zero, List.set_cons_succ]
                refine wpAnyH_take (i := 18) (oi := { dst := some 37, op := Go.Op.move (Go.Operand.tmp 6), type := 3, pos := "ref.go:26", after := #[{ on := 12, ground := Go.Ground.guard }], guard := some (12, true) }) (v := ?_) rfl (by kernel_rfl) (by kernel_rfl) (by kernel_rfl) (fun _ _ _ h => h) (Or.inl ⟨by rfl, ?_⟩) (by assumption) ?_
                rotate_left
                · (intro w hSw; (try dsimp only at hSw); go_simp; (try (with_reducible rfl)))
                try simp only [Act.put, List.setIfInBounds_toArray, List.set_cons_zero, List.set_cons_succ]
                refine wpAnyH_take (i := 19) (oi := { dst := some 38, op := Go.Op.indexAddr 27 (Go.Operand.tmp 36) (Go.Operand.tmp 37), type := 0, pos := "ref.go:26", after := #[{ on := 17, ground := Go.Ground.data }, { on := 18, ground := Go.Ground.data }, { on := 12, ground := Go.Ground.guard }], guard := some (12, true) }) (v := ?_) rfl (by kernel_rfl) (by kernel_rfl) (by kernel_rfl) (fun _ _ _ h => h) (Or.inl ⟨by rfl, ?_⟩) (by assumption) ?_
                rotate_left
                · (intro w hSw; (try dsimp only at hSw); go_simp; (try (with_reducible rfl)))
                try simp only [Act.put, List.setIfInBounds_toArray, List.set_cons_zero, List.set_cons_succ]
                refine wpAnyH_take (i := 20) (oi := { dst := some 39, op := Go.Op.load 47 (Go.Operand.tmp 38), type := 47, pos := "ref.go:26", after := #[{ on := 19, ground := Go.Ground.data }, { on := 12, ground := Go.Ground.guard }], guard := some (12, true) }) (v := ?_) rfl (by kernel_rfl) (by kernel_rfl) (by kernel_rfl) (fun _ _ _ h => h) (Or.inl ⟨by rfl, ?_⟩) (by assumption) ?_
                rotate_left
                · (intro w hSw; (try dsimp only at hSw); go_simp; (try (with_reducible rfl)))
                try simp only [Act.put, List.setIfInBounds_toArray, List.set_cons_zero, List.set_cons_succ]
                refine wpAnyH_ready (rs := [21]) (by kernel_rfl) (by simp) ?_
                refine AllReadyH.cons (o := { dst := some 40, op := Go.Op.call { callee := Go.Callee.value (Go.Operand.func 59), args := #[Go.Operand.tmp 35, Go.Operand.tmp 39], argTypes := #[47, 47] }, type := 4, pos := "ref.go:26", after := #[{ on := 16, ground := Go.Ground.data }, { on := 20, ground := Go.Ground.data }, { on := 12, ground := Go.Ground.chain }, { on := 12, ground := Go.Ground.guard }], guard := some (12, true) }) rfl (fun K hK => ?_) AllReadyH.nil
                go_simp
                refine (hR3.out _).mono ?_
                rintro e w6 ⟨rfl, hb6⟩
                replace bd := bd.trans (hb6.mono bd.size)
                refine hK.out _ _ (kk _ bd) (fun hHeld2 => ?_)
                clear hK K hHeld
                have hHeld := hHeld2
                clear hHeld2
                try simp only [Act.put, List.setIfInBounds_toArray, List.set_cons_zero, List.set_cons_succ]
                refine wpAnyH_take (i := 22) (oi := { dst := some 41, op := Go.Op.pick (Go.Operand.tmp 31) (Go.Operand.tmp 40) (Go.Operand.const (Go.Value.bool false)), type := 4, pos := "ref.go:26", after := #[{ on := 12, ground := Go.Ground.data }, { on := 21, ground := Go.Ground.data }], guard := none }) (v := ?_) rfl (by kernel_rfl) (by kernel_rfl) (by kernel_rfl) (fun _ _ _ h => h) (Or.inl ⟨by rfl, ?_⟩) (by assumption) ?_
                rotate_left
                · (intro w hSw; (try dsimp only at hSw); go_simp; (try (with_reducible rfl)))
                try simp only [Act.put, List.setIfInBounds_toArray, List.set_cons_zero, List.set_cons_succ]
                refine wpAnyH_done (by kernel_rfl) ?_ _
                clear hHeld
                go_wp2_with fail
                go_roundw
                case rel => exact ⟨m + 1, by omega, by go_num, hb2.trans (bd.mono hb2.size), hst2⟩
                case measure => simp [intOf]; omega
              | true =>
                rw [ho3, Bool.true_or, Bool.true_or] at hst2
                rw [ho3] at hR3
                replace hR3 := Lib.hid hR3
                replace hst2 := Lib.hid hst2
                clear ho3
                go_wp2_with fail
                refine wp_region_held_drew (S := (fun w' : World => w'.cell? ⟨b1, o1 + k * 3, none⟩ = some (.int .i64 x0) ∧ w'.cell? ⟨b1, o1 + k * 3 + 1, none⟩ = some (.string x1) ∧ w'.cell? ⟨b1, o1 + k * 3 + 2, none⟩ = some (.float .f64 x2) ∧ w'.cell? ⟨b2, o2 + m * 3, none⟩ = some (.int .i64 y0) ∧ w'.cell? ⟨b2, o2 + m * 3 + 1, none⟩ = some (.string y1) ∧ w'.cell? ⟨b2, o2 + m * 3 + 2, none⟩ = some (.float .f64 y2))) (by kernel_rfl) (kk _ bd) (fun hHeld => ?_)
                refine wpAnyH_take (i := 0) (oi := { dst := some 19, op := Go.Op.move (Go.Operand.tmp 0), type := 27, pos := "ref.go:26", after := #[], guard := none }) (v := ?_) rfl (by kernel_rfl) (by kernel_rfl) (by kernel_rfl) (fun _ _ _ h => h) (Or.inl ⟨by rfl, ?_⟩) (by assumption) ?_
                rotate_left
                · (intro w hSw; (try dsimp only at hSw); go_simp; (try (with_reducible rfl)))
                try simp only [Act.put, List.setIfInBounds_toArray, List.set_cons_zero, List.set_cons_succ]
                refine wpAnyH_take (i := 1) (oi := { dst := some 20, op := Go.Op.move (Go.Operand.tmp 5), type := 3, pos := "ref.go:26", after := #[], guard := none }) (v := ?_) rfl (by kernel_rfl) (by kernel_rfl) (by kernel_rfl) (fun _ _ _ h => h) (Or.inl ⟨by rfl, ?_⟩) (by assumption) ?_
                rotate_left
                · (intro w hSw; (try dsimp only at hSw); go_simp; (try (with_reducible rfl)))
                try simp only [Act.put, List.setIfInBounds_toArray, List.set_cons_zero, List.set_cons_succ]
                refine wpAnyH_take (i := 2) (oi := { dst := some 21, op := Go.Op.indexAddr 27 (Go.Operand.tmp 19) (Go.Operand.tmp 20), type := 0, pos := "ref.go:26", after := #[{ on := 0, ground := Go.Ground.data }, { on := 1, ground := Go.Ground.data }], guard := none }) (v := ?_) rfl (by kernel_rfl) (by kernel_rfl) (by kernel_rfl) (fun _ _ _ h => h) (Or.inl ⟨by rfl, ?_⟩) (by assumption) ?_
                rotate_left
                · (intro w hSw; (try dsimp only at hSw); go_simp; (try (with_reducible rfl)))
                try simp only [Act.put, List.setIfInBounds_toArray, List.set_cons_zero, List.set_cons_succ]
                refine wpAnyH_take (i := 3) (oi := { dst := some 22, op := Go.Op.load 47 (Go.Operand.tmp 21), type := 47, pos := "ref.go:26", after := #[{ on := 2, ground := Go.Ground.data }], guard := none }) (v := ?_) rfl (by kernel_rfl) (by kernel_rfl) (by kernel_rfl) (fun _ _ _ h => h) (Or.inl ⟨by rfl, ?_⟩) (by assumption) ?_
                rotate_left
                · (intro w hSw; (try dsimp only at hSw); go_simp; (try (with_reducible rfl)))
                try simp only [Act.put, List.setIfInBounds_toArray, List.set_cons_zero, List.set_cons_succ]
                refine wpAnyH_ready (rs := [4]) (by kernel_rfl) (by simp) ?_
                refine AllReadyH.cons (o := { dst := some 23, op := Go.Op.call { callee := Go.Callee.value (Go.Operand.func 57), args := #[Go.Operand.tmp 22], argTypes := #[47] }, type := 4, pos := "ref.go:26", after := #[{ on := 3, ground := Go.Ground.data }], guard := none }) rfl (fun K hK => ?_) AllReadyH.nil
                go_simp
                refine (hR1.out _).mono ?_
                rintro e w4 ⟨rfl, hb4⟩
                replace bd := bd.trans (hb4.mono bd.size)
                refine hK.out _ _ (kk _ bd) (fun hHeld2 => ?_)
                clear hK K hHeld
                have hHeld := hHeld2
                clear hHeld2
                try simp only [Act.put, List.setIfInBounds_toArray, List.set_cons_zero, List.set_cons_succ]
                refine wpAnyH_take (i := 5) (oi := { dst := some 24, op := Go.Op.move (Go.Operand.tmp 23), type := 4, pos := "ref.go:26", after := #[{ on := 4, ground := Go.Ground.data }, { on := 4, ground := Go.Ground.chain }], guard := none }) (v := ?_) rfl (by kernel_rfl) (by kernel_rfl) (by kernel_rfl) (fun _ _ _ h => h) (Or.inl ⟨by rfl, ?_⟩) (by assumption) ?_
                rotate_left
                · (intro w hSw; (try dsimp only at hSw); go_simp; (try (with_reducible rfl)))
                try simp only [Act.put, List.setIfInBounds_toArray, List.set_cons_zero, List.set_cons_succ]
                refine wpAnyH_take (i := 6) (oi := { dst := some 25, op := Go.Op.move (Go.Operand.tmp 1), type := 27, pos := "ref.go:26", after := #[{ on := 5, ground := Go.Ground.guard }], guard := some (5, true) }) (v := ?_) rfl (by kernel_rfl) (by kernel_rfl) (by kernel_rfl) (fun _ _ _ h => h) (Or.inl ⟨by rfl, ?_⟩) (by assumption) ?_
                rotate_left
                · (intro w hSw; (try dsimp only at hSw); go_simp; (try (with_reducible rfl)))
                try simp only [Act.put, List.setIfInBounds_toArray, List.set_cons_zero, List.set_cons_succ]
                refine wpAnyH_take (i := 7) (oi := { dst := some 26, op := Go.Op.move (Go.Operand.tmp 6), type := 3, pos := "ref.go:26", after := #[{ on := 5, ground := Go.Ground.guard }], guard := some (5, true) }) (v := ?_) rfl (by kernel_rfl) (by kernel_rfl) (by kernel_rfl) (fun _ _ _ h => h) (Or.inl ⟨by rfl, ?_⟩) (by assumption) ?_
                rotate_left
                · (intro w hSw; (try dsimp only at hSw); go_simp; (try (with_reducible rfl)))
                try simp only [Act.put, List.setIfInBounds_toArray, List.set_cons_zero, List.set_cons_succ]
                refine wpAnyH_take (i := 8) (oi := { dst := some 27, op := Go.Op.indexAddr 27 (Go.Operand.tmp 25) (Go.Operand.tmp 26), type := 0, pos := "ref.go:26", after := #[{ on := 6, ground := Go.Ground.data }, { on := 7, ground := Go.Ground.data }, { on := 5, ground := Go.Ground.guard }], guard := some (5, true) }) (v := ?_) rfl (by kernel_rfl) (by kernel_rfl) (by kernel_rfl) (fun _ _ _ h => h) (Or.inl ⟨by rfl, ?_⟩) (by assumption) ?_
                rotate_left
                · (intro w hSw; (try dsimp only at hSw); go_simp; (try (with_reducible rfl)))
                try simp only [Act.put, List.setIfInBounds_toArray, List.set_cons_zero, List.set_cons_succ]
                refine wpAnyH_take (i := 9) (oi := { dst := some 28, op := Go.Op.load 47 (Go.Operand.tmp 27), type := 47, pos := "ref.go:26", after := #[{ on := 8, ground := Go.Ground.data }, { on := 5, ground := Go.Ground.guard }], guard := some (5, true) }) (v := ?_) rfl (by kernel_rfl) (by kernel_rfl) (by kernel_rfl) (fun _ _ _ h => h) (Or.inl ⟨by rfl, ?_⟩) (by assumption) ?_
                rotate_left
                · (intro w hSw; (try dsimp only at hSw); go_simp; (try (with_reducible rfl)))
                try simp only [Act.put, List.setIfInBounds_toArray, List.set_cons_zero, List.set_cons_succ]
                refine wpAnyH_ready (rs := [10]) (by kernel_rfl) (by simp) ?_
                refine AllReadyH.cons (o := { dst := some 29, op := Go.Op.call { callee := Go.Callee.value (Go.Operand.func 57), args := #[Go.Operand.tmp 28], argTypes := #[47] }, type := 4, pos := "ref.go:26", after := #[{ on := 9, ground := Go.Ground.data }, { on := 5, ground := Go.Ground.chain }, { on := 5, ground := Go.Ground.guard }], guard := some (5, true) }) rfl (fun K hK => ?_) AllReadyH.nil
                go_simp
                refine (hR2.out _).mono ?_
                rintro e w5 ⟨rfl, hb5⟩
                replace bd := bd.trans (hb5.mono bd.size)
                refine hK.out _ _ (kk _ bd) (fun hHeld2 => ?_)
                clear hK K hHeld
                have hHeld := hHeld2
                clear hHeld2
                try simp only [Act.put, List.setIfInBounds_toArray, List.set_cons_zero, List.set_cons_succ]
                refine wpAnyH_take (i := 11) (oi := { dst := some 30, op := Go.Op.pick (Go.Operand.tmp 24) (Go.Operand.tmp 29) (Go.Operand.const (Go.Value.bool false)), type := 4, pos := "ref.go:26", after := #[{ on := 5, ground := Go.Ground.data }, { on := 10, ground := Go.Ground.data }], guard := none }) (v := ?_) rfl (by kernel_rfl) (by kernel_rfl) (by kernel_rfl) (fun _ _ _ h => h) (Or.inl ⟨by rfl, ?_⟩) (by assumption) ?_
                rotate_left
                · (intro w hSw; (try dsimp only at hSw); go_simp; (try (with_reducible rfl)))
                try simp only [Act.put, List.setIfInBounds_toArray, List.set_cons_zero, List.set_cons_succ]
                refine wpAnyH_take (i := 12) (oi := { dst := some 31, op := Go.Op.move (Go.Operand.tmp 30), type := 4, pos := "ref.go:26", after := #[{ on := 11, ground := Go.Ground.data }, { on := 10, ground := Go.Ground.chain }], guard := none }) (v := ?_) rfl (by kernel_rfl) (by kernel_rfl) (by kernel_rfl) (fun _ _ _ h => h) (Or.inl ⟨by rfl, ?_⟩) (by assumption) ?_
                rotate_left
                · (intro w hSw; (try dsimp only at hSw); go_simp; (try (with_reducible rfl)))
                try simp only [Act.put, List.setIfInBounds_toArray, List.set_cons_zero, List.set_cons_succ]
                refine wpAnyH_take (i := 13) (oi := { dst := some 32, op := Go.Op.move (Go.Operand.tmp 0), type := 27, pos := "ref.go:26", after := #[{ on := 12, ground := Go.Ground.guard }], guard := some (12, true) }) (v := ?_) rfl (by kernel_rfl) (by kernel_rfl) (by kernel_rfl) (fun _ _ _ h => h) (Or.inl ⟨by rfl, ?_⟩) (by assumption) ?_
                rotate_left
                · (intro w hSw; (try dsimp only at hSw); go_simp; (try (with_reducible rfl)))
                try simp only [Act.put, List.setIfInBounds_toArray, List.set_cons_zero, List.set_cons_succ]
                refine wpAnyH_take (i := 14) (oi := { dst := some 33, op := Go.Op.move (Go.Operand.tmp 5), type := 3, pos := "ref.go:26", after := #[{ on := 12, ground := Go.Ground.guard }], guard := some (12, true) }) (v := ?_) rfl (by kernel_rfl) (by kernel_rfl) (by kernel_rfl) (fun _ _ _ h => h) (Or.inl ⟨by rfl, ?_⟩) (by assumption) ?_
                rotate_left
                · (intro w hSw; (try dsimp only at hSw); go_simp; (try (with_reducible rfl)))
                try simp only [Act.put, List.setIfInBounds_toArray, List.set_cons_zero, List.set_cons_succ]
                refine wpAnyH_take (i := 15) (oi := { dst := some 34, op := Go.Op.indexAddr 27 (Go.Operand.tmp 32) (Go.Operand.tmp 33), type := 0, pos := "ref.go:26", after := #[{ on := 13, ground := Go.Ground.data }, { on := 14, ground := Go.Ground.data }, { on := 12, ground := Go.Ground.guard }], guard := some (12, true) }) (v := ?_) rfl (by kernel_rfl) (by kernel_rfl) (by kernel_rfl) (fun _ _ _ h => h) (Or.inl ⟨by rfl, ?_⟩) (by assumption) ?_
                rotate_left
                · (intro w hSw; (try dsimp only at hSw); go_simp; (try (with_reducible rfl)))
                try simp only [Act.put, List.setIfInBounds_toArray, List.set_cons_zero, List.set_cons_succ]
                refine wpAnyH_take (i := 16) (oi := { dst := some 35, op := Go.Op.load 47 (Go.Operand.tmp 34), type := 47, pos := "ref.go:26", after := #[{ on := 15, ground := Go.Ground.data }, { on := 12, ground := Go.Ground.guard }], guard := some (12, true) }) (v := ?_) rfl (by kernel_rfl) (by kernel_rfl) (by kernel_rfl) (fun _ _ _ h => h) (Or.inl ⟨by rfl, ?_⟩) (by assumption) ?_
                rotate_left
                · (intro w hSw; (try dsimp only at hSw); go_simp; (try (with_reducible rfl)))
                try simp only [Act.put, List.setIfInBounds_toArray, List.set_cons_zero, List.set_cons_succ]
                refine wpAnyH_take (i := 17) (oi := { dst := some 36, op := Go.Op.move (Go.Operand.tmp 1), type := 27, pos := "ref.go:26", after := #[{ on := 12, ground := Go.Ground.guard }], guard := some (12, true) }) (v := ?_) rfl (by kernel_rfl) (by kernel_rfl) (by kernel_rfl) (fun _ _ _ h => h) (Or.inl ⟨by rfl, ?_⟩) (by assumption) ?_
                rotate_left
                · (intro w hSw; (try dsimp only at hSw); go_simp; (try (with_reducible rfl)))
                try simp only [Act.put, List.setIfInBounds_toArray, List.set_cons_zero, List.set_cons_succ]
                refine wpAnyH_take (i := 18) (oi := { dst := some 37, op := Go.Op.move (Go.Operand.tmp 6), type := 3, pos := "ref.go:26", after := #[{ on := 12, ground := Go.Ground.guard }], guard := some (12, true) }) (v := ?_) rfl (by kernel_rfl) (by kernel_rfl) (by kernel_rfl) (fun _ _ _ h => h) (Or.inl ⟨by rfl, ?_⟩) (by assumption) ?_
                rotate_left
                · (intro w hSw; (try dsimp only at hSw); go_simp; (try (with_reducible rfl)))
                try simp only [Act.put, List.setIfInBounds_toArray, List.set_cons_zero, List.set_cons_succ]
                refine wpAnyH_take (i := 19) (oi := { dst := some 38, op := Go.Op.indexAddr 27 (Go.Operand.tmp 36) (Go.Operand.tmp 37), type := 0, pos := "ref.go:26", after := #[{ on := 17, ground := Go.Ground.data }, { on := 18, ground := Go.Ground.data }, { on := 12, ground := Go.Ground.guard }], guard := some (12, true) }) (v := ?_) rfl (by kernel_rfl) (by kernel_rfl) (by kernel_rfl) (fun _ _ _ h => h) (Or.inl ⟨by rfl, ?_⟩) (by assumption) ?_
                rotate_left
                · (intro w hSw; (try dsimp only at hSw); go_simp; (try (with_reducible rfl)))
                try simp only [Act.put, List.setIfInBounds_toArray, List.set_cons_zero, List.set_cons_succ]
                refine wpAnyH_take (i := 20) (oi := { dst := some 39, op := Go.Op.load 47 (Go.Operand.tmp 38), type := 47, pos := "ref.go:26", after := #[{ on := 19, ground := Go.Ground.data }, { on := 12, ground := Go.Ground.guard }], guard := some (12, true) }) (v := ?_) rfl (by kernel_rfl) (by kernel_rfl) (by kernel_rfl) (fun _ _ _ h => h) (Or.inl ⟨by rfl, ?_⟩) (by assumption) ?_
                rotate_left
                · (intro w hSw; (try dsimp only at hSw); go_simp; (try (with_reducible rfl)))
                try simp only [Act.put, List.setIfInBounds_toArray, List.set_cons_zero, List.set_cons_succ]
                refine wpAnyH_ready (rs := [21]) (by kernel_rfl) (by simp) ?_
                refine AllReadyH.cons (o := { dst := some 40, op := Go.Op.call { callee := Go.Callee.value (Go.Operand.func 59), args := #[Go.Operand.tmp 35, Go.Operand.tmp 39], argTypes := #[47, 47] }, type := 4, pos := "ref.go:26", after := #[{ on := 16, ground := Go.Ground.data }, { on := 20, ground := Go.Ground.data }, { on := 12, ground := Go.Ground.chain }, { on := 12, ground := Go.Ground.guard }], guard := some (12, true) }) rfl (fun K hK => ?_) AllReadyH.nil
                go_simp
                refine (hR3.out _).mono ?_
                rintro e w6 ⟨rfl, hb6⟩
                replace bd := bd.trans (hb6.mono bd.size)
                refine hK.out _ _ (kk _ bd) (fun hHeld2 => ?_)
                clear hK K hHeld
                have hHeld := hHeld2
                clear hHeld2
                try simp only [Act.put, List.setIfInBounds_toArray, List.set_cons_zero, List.set_cons_succ]
                refine wpAnyH_take (i := 22) (oi := { dst := some 41, op := Go.Op.pick (Go.Operand.tmp 31) (Go.Operand.tmp 40) (Go.Operand.const (Go.Value.bool false)), type := 4, pos := "ref.go:26", after := #[{ on := 12, ground := Go.Ground.data }, { on := 21, ground := Go.Ground.data }], guard := none }) (v := ?_) rfl (by kernel_rfl) (by kernel_rfl) (by kernel_rfl) (fun _ _ _ h => h) (Or.inl ⟨by rfl, ?_⟩) (by assumption) ?_
                rotate_left
                · (intro w hSw; (try dsimp only at hSw); go_simp; (try (with_reducible rfl)))
                try simp only [Act.put, List.setIfInBounds_toArray, List.set_cons_zero, List.set_cons_succ]
                refine wpAnyH_done (by kernel_rfl) ?_ _
                clear hHeld
                go_wp2_with fail
                go_ret
                exact ⟨rb hst2.out, hb.trans ((hb2.trans (bd.mono hb2.size)).mono hbo)⟩
        · obtain rfl : m = B.length := by omega
          have hg3 := hg2.out
          rw [List.drop_length, List.any_nil, Bool.false_or] at hg3
          have hg4 : Hid (batConf (A.drop (k + 1)) B = G) := Lib.hid (by rw [← hT.out]; exact hg3)
          clear hg3
          go_wp2_with fail
          go_roundw
          case rel => exact ⟨k + 1, by omega, by go_num, hb.trans (hb2.mono hbo), hg4⟩
          case measure => simp [intOf]; omega
    · obtain rfl : k = A.length := by omega
      have hG0 : G = false := by rw [← hg.out, List.drop_length]; rfl
      subst hG0
      go_wp2_with fail
      go_ret
      exact ⟨rfl, hb⟩
end Go.Proofs.Ytohgcghobidfpaa
