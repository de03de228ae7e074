/- Messages on their way: contracts of the package net. -/
import Derived.Test.YtmdmekdmlkhchaaInts
import Derived.Test.YtmdmekdmlkhchaaBytes
import Derived.Test.YtmdmekdmlkhchaaFloat
import Derived.Deep.RegionHeld3
import Derived.Laws.Rows
import Derived.Laws.ResultCell
set_option linter.unusedVariables false
set_option linter.unusedSimpArgs false
namespace Go.Proofs.Ytmdmekdmlkhchaa
open Go.RowKit Go.Cw
theorem res_cell_tmp {P : Program} {fn : Func} {p u : Tmp} {ty : TypeId} (h : fn.results = #[.cell p ty, .tmp u]) (tmps : Array Value) (w : World) (g : Nat) (t : TypeId) (cs : Array Value) (fr : Nat × Nat) (d : TypeDesc)
    (hp : tmps.getD p undef = .pointer (some ⟨g, 0, none⟩)) (hg : w.heap[g]? = some (.cells cs t fr))
    (hu : P.underlying ty = some d) (hd : (match d with | .struct _ | .array _ _ => true | _ => false) = true) (hi : (P.info? ty).map (·.size) = some cs.size) (v : Value) (hv : tmps.getD u undef = v) :
    (results fn tmps).run P w = .ok (.tuple #[.agg cs, v]) w := by
  rw [results_cell_tmp h]
  have hp' : tmps[p]?.getD undef = .pointer (some ⟨g, 0, none⟩) := by simpa using hp
  have hv' : tmps[u]?.getD undef = v := by simpa using hv
  simp [hp', hv', asAddr, run_loadVar_row w g t ty cs fr d hg hu hd hi, Result.andThen]
theorem bel_drewN' {B : Nat} {a w : World} (h : Below B a w) (n : Nat) : Below B a (w.drewN n) := ⟨h.os, h.tape, h.output, h.size, h.block⟩
theorem rb' {a b : Bool} (h : a = b) : Ending.returned (.bool a) = .returned (.bool b) := by rw [h]
theorem belBox (w : World) (o : Obj) : Below w.heap.size w (w.alloc o) := (Below.refl _ _).alloc (Nat.le_refl _) _
def repB (r : Int) : Bool := decide (0 ≤ r) && decide (r < 8)
set_option maxRecDepth 100000 in
theorem may_any (r : Int) (w : World) : Calls Try.prog 97 #[.int .i64 r] w fun e w' => e = .returned (.bool (repB r)) ∧ w = w' := by
  by_cases h : 0 ≤ r
  · have hN := Lib.hid (show repB r = decide (r < 8) by unfold repB; rw [decide_eq_true h]; rfl)
    go_enter Try.func97, Try.ntmps97
    go_wp2_with fail
    go_ret
    exact ⟨rb' hN.out.symm, rfl⟩
  · have hN := Lib.hid (show repB r = false by unfold repB; rw [decide_eq_false h]; rfl)
    go_enter Try.func97, Try.ntmps97
    go_wp2_with fail
    go_ret
    exact ⟨rb' hN.out.symm, rfl⟩
theorem info_u8 : (Try.prog.info? 5).map (fun i => (i.zero, i.size, i.bytes)) = some (some (.int .u8 0), 1, 1) := by kernel_rfl
theorem u8size : (Try.prog.info? 5).map (·.size) = some 1 := by kernel_rfl
theorem makeU8 (n : Nat) (hn : n ≤ 140737488355328) (w : World) : (Instr.makeSlice 57 (.int .i64 (n : Int)) (.int .i64 (n : Int))).run Try.prog w = .ok (.slice (some ⟨w.heap.size, 0, none⟩) n n) (w.alloc (.cells (madeCells #[.int .u8 0] n) 5)) := by
  obtain ⟨i, hi, hz0, hz1, hz2⟩ := info_parts info_u8
  have := run_make (P := Try.prog) w 57 5 i (.int .u8 0) Try.underlying57 hi hz0 .i64 .i64 (n : Int) (n : Int) (by omega) (by omega) (by rw [hz2]; omega) (by omega)
  rw [hz1] at this
  simpa [Value.cells] using this
set_option maxRecDepth 100000 in
set_option maxHeartbeats 800000 in
theorem clone_any (f t : Int) (bv : Value) (xs : List Int) (w : World) (hx : Rw w 1 bv (u8s xs)) (hl : xs.length ≤ 140737488355328) :
    Calls Try.prog 96 #[.agg #[.int .i64 f, .int .i64 t, bv]] w (ResE (snap w) [] w (fun v => .agg #[.int .i64 f, .int .i64 t, v]) (fun v => [Row 5 1 v (u8s xs)])) := by
  obtain ⟨A, n, c, rfl, hn, hnc, hc⟩ := hx.form
  rw [u8s_len, Nat.mul_one] at hn
  subst hn
  obtain ⟨Ha, la, h1, ya⟩ := (St.start w).box #[.int .i64 f, .int .i64 t, .slice A xs.length c] 59
  have h2 := h1.blk #[.int .i64 0, .int .i64 0, .slice none 0 0] 59
  have hs1 : (w.alloc (.cells #[.int .i64 f, .int .i64 t, .slice A xs.length c] 59)).heap.size = w.heap.size + 1 := by simp
  have en2 := ((Env.refl w).alloc (.cells #[.int .i64 f, .int .i64 t, .slice A xs.length c] 59)).alloc (.cells #[.int .i64 0, .int .i64 0, .slice none 0 0] 59)
  have hx2 := (hx.alloc (.cells #[.int .i64 f, .int .i64 t, .slice A xs.length c] 59)).alloc (.cells #[.int .i64 0, .int .i64 0, .slice none 0 0] 59)
  rw [hs1] at h2
  have y0 := ya 0 _ rfl
  have y1 := ya 1 _ rfl
  have y2 := ya 2 _ rfl
  clear ya hs1 h1
  go_enter Try.func96, Try.ntmps96
  have hmk := makeU8 xs.length hl ((w.alloc (.cells #[.int .i64 f, .int .i64 t, .slice A xs.length c] 59)).alloc (.cells #[.int .i64 0, .int .i64 0, .slice none 0 0] 59))
  generalize hW : (w.alloc (.cells #[.int .i64 f, .int .i64 t, .slice A xs.length c] 59)).alloc (.cells #[.int .i64 0, .int .i64 0, .slice none 0 0] 59) = W at *
  have hWs : W.heap.size = w.heap.size + 1 + 1 := by rw [← hW]; simp
  have h3 := h2.row_lit 5 1 xs.length (madeCells #[.int .u8 0] xs.length) (by simp [size_madeCells]) (by simp [maxLen]; omega)
  have hnw : News Try.prog (W.alloc (.cells (madeCells #[.int .u8 0] xs.length) 5)) 1 (.slice A xs.length c) xs.length (u8s xs) := News.rw (hx2.alloc _) (u8s_one xs)
  obtain ⟨w4, hcp, h4, en4⟩ := h3.copy_row 57 57 3 Try.underlying57 u8size 0 xs.length xs.length xs.length xs.length (.slice A xs.length c) (u8s xs) 0 (by omega) (by rw [u8s_len]; omega) (by simp [size_madeCells]) (hnw.lenOf _) (Nat.min_self _) (by have := hnw.first 0; exact this) (u8s_one xs)
  have hdr : ((madeCells #[Value.int .u8 0] xs.length).toList.take (0 * 1) ++ u8s xs ++ (madeCells #[Value.int .u8 0] xs.length).toList.drop ((0 + xs.length) * 1)) = u8s xs := by
    have hs : (madeCells #[Value.int .u8 0] xs.length).toList.length = xs.length := by simp [size_madeCells]
    rw [Nat.zero_mul, List.take_zero, List.nil_append, List.drop_of_length_le (by omega), List.append_nil]
  rw [hdr] at h4
  have en5 := ((hW ▸ en2 : Env w W).alloc (.cells (madeCells #[.int .u8 0] xs.length) 5)).trans en4
  clear h3 hnw hdr h2 hx2 en2 en4
  rw [hWs] at hmk hcp h4
  have x0 := h4.cell y0
  have x1 := h4.cell y1
  have x2 := h4.cell y2
  have xl := World.block_lt_of_cell? _ _ x0
  have hB := h4.swap
  have zf0 := hB.blk_free 0
  have zf1 := hB.blk_free 1
  have zf2 := hB.blk_free 2
  have z0 := hB.blk_cell 0
  have z1 := hB.blk_cell 1
  have z2 := hB.blk_cell 2
  have zl := hB.blk_lt
  subst hW
  have h6 := ((hB.blk_set 0 (.int .i64 f)).blk_set 1 (.int .i64 t)).blk_set 2 (.slice (some ⟨w.heap.size + 1 + 1, 0, none⟩) xs.length xs.length)
  have en6 := ((en5.setCell ⟨w.heap.size + 1, 0, none⟩ (.int .i64 f)).setCell ⟨w.heap.size + 1, 1, none⟩ (.int .i64 t)).setCell ⟨w.heap.size + 1, 2, none⟩ (.slice (some ⟨w.heap.size + 1 + 1, 0, none⟩) xs.length xs.length)
  change St Ha (Blk (w.heap.size + 1) #[.int .i64 f, .int .i64 t, .slice (some ⟨w.heap.size + 1 + 1, 0, none⟩) xs.length xs.length] 59 :: _) _ at h6
  go_wp2_with fail
  refine bodyPost_ret (results_cell_row rfl _ _ (w.heap.size + 1) 59 _ (0, 0) _ rfl h6.blk_heap Try.underlying59 rfl (by kernel_rfl)) rfl ?_
  exact ⟨_, rfl, h6.drop.weaken la, en6⟩
end Go.Proofs.Ytmdmekdmlkhchaa
