/- ident.Has. -/
import Derived.Test.YtohgcghobidfpaaDoorCompact
set_option linter.unusedVariables false
set_option linter.unusedSimpArgs false
namespace Go.Proofs.YtohgcghobidfpaaDoor
open Go.RowKit Go.Cw
attribute [local go_sem ↓] eql_id neq_id
set_option maxRecDepth 100000 in
set_option maxHeartbeats 800000 in
theorem has1_any (x a : Id) (p : Nat) (w : World) (h0 : w.cell? ⟨p, 0, none⟩ = some (.int .i64 a.1)) (h1 : w.cell? ⟨p, 1, none⟩ = some (.int .i64 a.2)) :
    Calls Tryd.prog 68 #[idV x, .pointer (some ⟨p, 0, none⟩)] w fun e w' => e = .returned (.bool (idEq x.1 x.2 a.1 a.2)) ∧ Below w.heap.size w w' := by
  obtain ⟨r, s⟩ := x
  have bel := boxBelow w (.cells #[.int .i64 r, .int .i64 s] 23)
  have pl := World.block_lt_of_cell? _ _ h0
  go_enter Tryd.func68, Tryd.ntmps68
  go_wp2_with fail
  go_ret
  exact ⟨rfl, bel⟩
set_option maxRecDepth 100000 in
set_option maxHeartbeats 1600000 in
theorem index1_any (A : Option Addr) (n c : Nat) (l : List Id) (a : Id) (p : Nat) (w : World) (hx : Rw w 2 (.slice A n c) (idl l)) (h0 : w.cell? ⟨p, 0, none⟩ = some (.int .i64 a.1)) (h1 : w.cell? ⟨p, 1, none⟩ = some (.int .i64 a.2)) :
    Calls Tryd.prog 90 #[.slice A n c, .func (.func 68) #[] #[.pointer (some ⟨p, 0, none⟩)]] w fun e w' => ∃ z : Int, e = .returned (.int .i64 z) ∧ decide (0 ≤ z) = decide (a ∈ l) ∧ Below w.heap.size w w' := by
  obtain ⟨A', n', c', hv, hl, hn, hc⟩ := hx.form
  cases hv
  rw [idl_len] at hl
  obtain rfl : n = l.length := by omega
  clear hl
  have eg : ∀ args w, (callFunc 68 args).run Tryd.prog w = .ok (.enter 68 args) w := enters_of Tryd.func68 (by kernel_rfl) rfl
  have pl := World.block_lt_of_cell? _ _ h0
  obtain ⟨B, hB⟩ : ∃ B, Hid (B = decide (a ∈ l)) := ⟨_, Lib.hid rfl⟩
  rw [← hB.out]
  go_enter Tryd.func90, Tryd.ntmps90
  go_wp2_with fail
  go_loopw [5, 8] (fun s5 s8 wr => ∃ k : Nat, k ≤ l.length ∧ s8 = .int .i64 (k : Int) ∧ Below w.heap.size w wr ∧ Hid (a ∉ l.take k)) (fun _ s8 _ => l.length - (intOf s8).toNat)
  case atStart => exact ⟨0, by omega, by go_num, Below.refl _ _, Lib.hid (by simp)⟩
  case round =>
    obtain ⟨k, hk, rfl, hb, hno⟩ := hrel
    by_cases hlt : k < l.length
    · obtain ⟨b, off, hA, hcr⟩ := (hx.below hb).cells (by omega)
      cases hA
      have p1 := hcr _ _ (idl_fst l k hlt)
      have p2 := hcr _ _ (idl_snd l k hlt)
      rw [← Nat.add_assoc] at p2
      obtain ⟨x, HX⟩ : ∃ x, Hid (x = l[k]) := ⟨_, Lib.hid rfl⟩
      rw [← HX.out] at p1 p2
      have hmem := Lib.hid (List.take_add_one (l := l) (i := k))
      clear hcr
      have g0 := (hb.cell (p := ⟨p, 0, none⟩) pl).trans h0
      have g1 := (hb.cell (p := ⟨p, 1, none⟩) pl).trans h1
      have hcl := fun w0 (q0 : w0.cell? ⟨p, 0, none⟩ = some (.int .i64 a.1)) (q1 : w0.cell? ⟨p, 1, none⟩ = some (.int .i64 a.2)) => has1_any x a p w0 q0 q1
      by_cases hxa : x = a
      · have hne := idEq_of hxa
        simp only [hne] at hcl
        replace hcl := Lib.hid (hcl wr g0 g1)
        have hin : a ∈ l := by rw [← hxa, HX.out]; exact List.getElem_mem hlt
        have hBt : Hid (B = true) := Lib.hid (by rw [hB.out, decide_eq_true hin])
        clear hin
        replace hxa := Lib.hid hxa
        go_wp2_with fail
        refine (hcl.out).mono ?_
        rintro e w3 ⟨rfl, hb3⟩
        go_wp2_with fail
        go_ret
        exact ⟨(k : Int), rfl, by rw [hBt.out]; simp, hb.trans (hb3.mono hb.size)⟩
      · have hne := idEq_not hxa
        simp only [hne] at hcl
        replace hcl := Lib.hid (hcl wr g0 g1)
        replace hxa := Lib.hid hxa
        go_wp2_with fail
        refine (hcl.out).mono ?_
        rintro e w3 ⟨rfl, hb3⟩
        go_wp2_with fail
        go_roundw
        case rel => exact ⟨k + 1, by omega, by go_num, hb.trans (hb3.mono hb.size), Lib.hid (by
          rw [hmem.out, List.getElem?_eq_getElem hlt, ← HX.out]
          simp only [Option.toList, List.mem_append, List.mem_singleton, not_or]
          exact ⟨hno.out, fun h => hxa.out h.symm⟩)⟩
        case measure => simp [intOf]; omega
    · obtain rfl : k = l.length := by omega
      have hnot : a ∉ l := by have := hno.out; rwa [List.take_length] at this
      have hBt : Hid (B = false) := Lib.hid (by rw [hB.out, decide_eq_false hnot])
      clear hnot
      go_wp2_with fail
      go_ret
      exact ⟨-1, rfl, by rw [hBt.out]; rfl, hb⟩
set_option maxRecDepth 100000 in
set_option maxHeartbeats 800000 in
theorem contains1_any (A : Option Addr) (n c : Nat) (l : List Id) (a : Id) (p : Nat) (w : World) (hx : Rw w 2 (.slice A n c) (idl l)) (h0 : w.cell? ⟨p, 0, none⟩ = some (.int .i64 a.1)) (h1 : w.cell? ⟨p, 1, none⟩ = some (.int .i64 a.2)) :
    Calls Tryd.prog 67 #[.slice A n c, .func (.func 68) #[] #[.pointer (some ⟨p, 0, none⟩)]] w fun e w' => e = .returned (.bool (decide (a ∈ l))) ∧ Below w.heap.size w w' := by
  have hin := Lib.hid (index1_any A n c l a p w hx h0 h1)
  go_enter Tryd.func67, Tryd.ntmps67
  go_wp2_with fail
  refine hin.out.mono ?_
  rintro e w2 ⟨z, rfl, hz, hb2⟩
  replace hz := Lib.hid hz
  go_wp2_with fail
  go_ret
  exact ⟨rb hz.out, hb2⟩
set_option maxRecDepth 100000 in
set_option maxHeartbeats 800000 in
theorem identHas_any (u : Value) (l : List Id) (a : Id) (w : World) (hx : Rw w 2 u (idl l)) :
    Calls Tryd.prog 35 #[u, idV a] w fun e w' => e = .returned (.bool (decide (a ∈ l))) ∧ Below w.heap.size w w' := by
  obtain ⟨A, n, c, rfl, hl, hn, hc⟩ := hx.form
  obtain ⟨r, s⟩ := a
  have hmf : ∀ (fn : Fn) (first cap : Array Value) (w : World), (Instr.makeFunc fn first cap).run Tryd.prog w = .ok (.func fn first cap) w := fun _ _ _ _ => rfl
  obtain ⟨H1, l1, h1, y⟩ := (St.start w).box #[.int .i64 r, .int .i64 s] 23
  have en1 := (Env.refl w).alloc (.cells #[.int .i64 r, .int .i64 s] 23)
  have v0 := h1.cell (y 0 _ rfl)
  have v1 := h1.cell (y 1 _ rfl)
  have hin := contains1_any A n c l (r, s) w.heap.size _ (hx.alloc (.cells #[.int .i64 r, .int .i64 s] 23)) v0 v1
  have hbx := boxBelow w (.cells #[.int .i64 r, .int .i64 s] 23)
  replace hin := Lib.hid hin
  go_enter Tryd.func35, Tryd.ntmps35
  go_wp2_with fail
  refine hin.out.mono ?_
  rintro e w2 ⟨rfl, hb2⟩
  go_wp2_with fail
  go_ret
  exact ⟨rfl, hbx.trans (hb2.mono (by simp))⟩
end Go.Proofs.YtohgcghobidfpaaDoor
