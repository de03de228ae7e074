/- Records: a copy in new memory. -/
import Derived.Test.YtelmhcbdpimaaaaRec4
import Derived.Test.YtelmhcbdpimaaaaBytes
set_option linter.unusedVariables false
set_option linter.unusedSimpArgs false
namespace Go.Proofs.Ytelmhcbdpimaaaa
open Go.RowKit Go.Cw Go.Fl
attribute [local go_sem ↓] eql_id neq_id
theorem info_cm : (Try.prog.info? 90).map (fun i => (i.zero, i.size, i.bytes)) = some (some (.agg #[.int .i64 0, .string ByteArray.empty, .float .f64 0]), 3, 32) := by kernel_rfl
theorem idSize : (Try.prog.info? 28).map (·.size) = some 2 := by kernel_rfl
theorem cmSize : (Try.prog.info? 90).map (·.size) = some 3 := by kernel_rfl
theorem makeId (n : Nat) (hn : n * 16 ≤ 140737488355328) (w : World) : (Instr.makeSlice 29 (.int .i64 (n : Int)) (.int .i64 (n : Int))).run Try.prog w = .ok (.slice (some ⟨w.heap.size, 0, none⟩) n n) (w.alloc (.cells (madeCells #[.int .i64 0, .int .i64 0] (n * 2)) 28)) := by
  obtain ⟨i, hi, hz0, hz1, hz2⟩ := info_parts info_id
  have := run_make (P := Try.prog) w 29 28 i (.agg #[.int .i64 0, .int .i64 0]) Try.underlying29 hi hz0 .i64 .i64 (n : Int) (n : Int) (by omega) (by omega) (by rw [hz2]; omega) (by omega)
  rw [hz1] at this
  simpa [Value.cells] using this
theorem makeCm (n : Nat) (hn : n * 32 ≤ 140737488355328) (w : World) : (Instr.makeSlice 30 (.int .i64 (n : Int)) (.int .i64 (n : Int))).run Try.prog w = .ok (.slice (some ⟨w.heap.size, 0, none⟩) n n) (w.alloc (.cells (madeCells #[.int .i64 0, .string ByteArray.empty, .float .f64 0] (n * 3)) 90)) := by
  obtain ⟨i, hi, hz0, hz1, hz2⟩ := info_parts info_cm
  have := run_make (P := Try.prog) w 30 90 i (.agg #[.int .i64 0, .string ByteArray.empty, .float .f64 0]) Try.underlying30 hi hz0 .i64 .i64 (n : Int) (n : Int) (by omega) (by omega) (by rw [hz2]; omega) (by omega)
  rw [hz1] at this
  simpa [Value.cells] using this
set_option maxRecDepth 100000 in
set_option maxHeartbeats 6400000 in
theorem recCopy_any (x : Rc) (w : World) (h : RcR w x) (hlD : x.2.2.2.2.1.length * 16 ≤ 140737488355328) (hlB : x.2.2.2.2.2.length * 32 ≤ 140737488355328) :
    Calls Try.prog 56 #[recV x] w (ResE (snap w) [] w (fun (p : Value × Value) => recV (x.1, x.2.1, p.1, p.2, x.2.2.2.2.1, x.2.2.2.2.2)) (fun p => [Row 28 2 p.1 (idl x.2.2.2.2.1), Row 90 3 p.2 (cml x.2.2.2.2.2)])) := by
  obtain ⟨⟨r, s⟩, q, dv, bv, D, Bt⟩ := x
  obtain ⟨dA, dn, dc, hd, hdl, hdn, hdc⟩ := h.d.form
  obtain ⟨bA, bn, bc, hb, hbl, hbn, hbc⟩ := h.b.form
  have hD := h.d.rd
  have hBt := h.b.rd
  simp only at hd hb hD hdl hBt hbl hlD hlB
  subst hd hb
  rw [idl_len] at hdl
  rw [cml_len] at hbl
  obtain rfl : dn = D.length := by omega
  obtain rfl : bn = Bt.length := by omega
  clear h hdl hbl
  obtain ⟨H1, l1, h1, y⟩ := (St.start w).box #[.int .i64 r, .int .i64 s, .int .i64 q, .slice dA D.length dc, .slice bA Bt.length bc] 32
  have hs1 : (w.alloc (.cells #[.int .i64 r, .int .i64 s, .int .i64 q, .slice dA D.length dc, .slice bA Bt.length bc] 32)).heap.size = w.heap.size + 1 := by simp
  have en1 := (Env.refl w).alloc (.cells #[.int .i64 r, .int .i64 s, .int .i64 q, .slice dA D.length dc, .slice bA Bt.length bc] 32)
  have y0 := y 0 _ rfl
  have y1 := y 1 _ rfl
  have y2 := y 2 _ rfl
  have y3 := y 3 _ rfl
  have y4 := y 4 _ rfl
  clear y
  have h2 := h1.blk #[.int .i64 0, .int .i64 0, .int .i64 0, .slice none 0 0, .slice none 0 0] 32
  have en2 := en1.alloc (.cells #[.int .i64 0, .int .i64 0, .int .i64 0, .slice none 0 0, .slice none 0 0] 32)
  rw [hs1] at h2
  clear h1 en1 hs1
  have v0 := h2.cell y0
  have v1 := h2.cell y1
  have v2 := h2.cell y2
  have v3 := h2.cell y3
  have v4 := h2.cell y4
  have vl := World.block_lt_of_cell? _ _ v0
  have hmi := makeId D.length hlD
  have hmc := makeCm Bt.length hlB
  go_enter Try.func56, Try.ntmps56
  generalize hW : (w.alloc (.cells #[.int .i64 r, .int .i64 s, .int .i64 q, .slice dA D.length dc, .slice bA Bt.length bc] 32)).alloc (.cells #[.int .i64 0, .int .i64 0, .int .i64 0, .slice none 0 0, .slice none 0 0] 32) = W at *
  go_upto_region 1 with fail
  have kk : ∀ w', Below W.heap.size W w' → w'.cell? ⟨w.heap.size, 0, none⟩ = some (.int .i64 r) ∧ w'.cell? ⟨w.heap.size, 1, none⟩ = some (.int .i64 s) ∧ w'.cell? ⟨w.heap.size, 2, none⟩ = some (.int .i64 q) ∧ w'.cell? ⟨w.heap.size, 3, none⟩ = some (.slice dA D.length dc) ∧ w'.cell? ⟨w.heap.size, 4, none⟩ = some (.slice bA Bt.length bc) := fun w' hb => by
    have h3 := h2.below hb
    exact ⟨h3.cell y0, h3.cell y1, h3.cell y2, h3.cell y3, h3.cell y4⟩
  have kb := Below.refl W.heap.size W
  go_cut [3] from 4 to 16 (fun s3 wx => ∃ go gd gb : Nat, s3 = .pointer (some ⟨go, 0, none⟩) ∧ St H1 (Blk go #[.int .i64 r, .int .i64 s, .int .i64 q, .slice (some ⟨gd, 0, none⟩) D.length D.length, .slice (some ⟨gb, 0, none⟩) Bt.length Bt.length] 32 :: Row 28 2 (.slice (some ⟨gd, 0, none⟩) D.length D.length) (madeCells #[.int .i64 0, .int .i64 0] (D.length * 2)).toList :: Row 90 3 (.slice (some ⟨gb, 0, none⟩) Bt.length Bt.length) (madeCells #[.int .i64 0, .string ByteArray.empty, .float .f64 0] (Bt.length * 3)).toList :: Blk (w.heap.size + 1) #[.int .i64 0, .int .i64 0, .int .i64 0, .slice none 0 0, .slice none 0 0] 32 :: []) wx ∧ Env w wx)
  case first =>
    go_region_held3 (fun w' => w'.cell? ⟨w.heap.size, 0, none⟩ = some (.int .i64 r) ∧ w'.cell? ⟨w.heap.size, 1, none⟩ = some (.int .i64 s) ∧ w'.cell? ⟨w.heap.size, 2, none⟩ = some (.int .i64 q) ∧ w'.cell? ⟨w.heap.size, 3, none⟩ = some (.slice dA D.length dc) ∧ w'.cell? ⟨w.heap.size, 4, none⟩ = some (.slice bA Bt.length bc)) ((refine kk _ ?_; repeat' (first | exact kb | apply Below.drew | apply Below.alloc | apply Below.setCell | (simp; done) | (simp; omega)))) (fail)
    all_goals go_wp2_with fail
    all_goals go_meet
    -- SIX
    · have a1 := h2.row_lit 28 2 D.length (madeCells #[.int .i64 0, .int .i64 0] (D.length * 2)) (by simp [size_madeCells]) (by simp [maxLen]; omega)
      have a2 := a1.row_lit 90 3 Bt.length (madeCells #[.int .i64 0, .string ByteArray.empty, .float .f64 0] (Bt.length * 3)) (by simp [size_madeCells]) (by simp [maxLen]; omega)
      have a3 := a2.blk #[.int .i64 r, .int .i64 s, .int .i64 q, .slice (some ⟨W.heap.size, 0, none⟩) D.length D.length, .slice (some ⟨W.heap.size + 1, 0, none⟩) Bt.length Bt.length] 32
      have g1 : (W.alloc (.cells (madeCells #[.int .i64 0, .int .i64 0] (D.length * 2)) 28)).heap.size = W.heap.size + 1 := by simp
      have g2 : ((W.alloc (.cells (madeCells #[.int .i64 0, .int .i64 0] (D.length * 2)) 28)).alloc (.cells (madeCells #[.int .i64 0, .string ByteArray.empty, .float .f64 0] (Bt.length * 3)) 90)).heap.size = W.heap.size + 1 + 1 := by simp
      rw [g1] at a2 a3
      rw [g2] at a3
      exact ⟨_, _, _, rfl, (((a3.pick 1 (by simp)).pick 2 (by simp)).pick 2 (by simp)).drew, (((en2.alloc (.cells (madeCells #[.int .i64 0, .int .i64 0] (D.length * 2)) 28)).alloc (.cells (madeCells #[.int .i64 0, .string ByteArray.empty, .float .f64 0] (Bt.length * 3)) 90)).alloc (.cells #[.int .i64 r, .int .i64 s, .int .i64 q, .slice (some ⟨W.heap.size, 0, none⟩) D.length D.length, .slice (some ⟨W.heap.size + 1, 0, none⟩) Bt.length Bt.length] 32)).drew⟩
    · have a1 := h2.row_lit 28 2 D.length (madeCells #[.int .i64 0, .int .i64 0] (D.length * 2)) (by simp [size_madeCells]) (by simp [maxLen]; omega)
      have a2 := a1.blk #[.int .i64 r, .int .i64 s, .int .i64 q, .slice (some ⟨W.heap.size, 0, none⟩) D.length D.length, .slice (some ⟨W.heap.size + 1 + 1, 0, none⟩) Bt.length Bt.length] 32
      have a3 := a2.row_lit 90 3 Bt.length (madeCells #[.int .i64 0, .string ByteArray.empty, .float .f64 0] (Bt.length * 3)) (by simp [size_madeCells]) (by simp [maxLen]; omega)
      have g1 : (W.alloc (.cells (madeCells #[.int .i64 0, .int .i64 0] (D.length * 2)) 28)).heap.size = W.heap.size + 1 := by simp
      have g2 : ((W.alloc (.cells (madeCells #[.int .i64 0, .int .i64 0] (D.length * 2)) 28)).alloc (.cells #[.int .i64 r, .int .i64 s, .int .i64 q, .slice (some ⟨W.heap.size, 0, none⟩) D.length D.length, .slice (some ⟨W.heap.size + 1 + 1, 0, none⟩) Bt.length Bt.length] 32)).heap.size = W.heap.size + 1 + 1 := by simp
      rw [g1] at a2 a3
      rw [g2] at a3
      exact ⟨_, _, _, rfl, (((a3.pick 0 (by simp)).pick 2 (by simp)).pick 2 (by simp)).drew, (((en2.alloc (.cells (madeCells #[.int .i64 0, .int .i64 0] (D.length * 2)) 28)).alloc (.cells #[.int .i64 r, .int .i64 s, .int .i64 q, .slice (some ⟨W.heap.size, 0, none⟩) D.length D.length, .slice (some ⟨W.heap.size + 1 + 1, 0, none⟩) Bt.length Bt.length] 32)).alloc (.cells (madeCells #[.int .i64 0, .string ByteArray.empty, .float .f64 0] (Bt.length * 3)) 90)).drew⟩
    · have a1 := h2.row_lit 90 3 Bt.length (madeCells #[.int .i64 0, .string ByteArray.empty, .float .f64 0] (Bt.length * 3)) (by simp [size_madeCells]) (by simp [maxLen]; omega)
      have a2 := a1.row_lit 28 2 D.length (madeCells #[.int .i64 0, .int .i64 0] (D.length * 2)) (by simp [size_madeCells]) (by simp [maxLen]; omega)
      have a3 := a2.blk #[.int .i64 r, .int .i64 s, .int .i64 q, .slice (some ⟨W.heap.size + 1, 0, none⟩) D.length D.length, .slice (some ⟨W.heap.size, 0, none⟩) Bt.length Bt.length] 32
      have g1 : (W.alloc (.cells (madeCells #[.int .i64 0, .string ByteArray.empty, .float .f64 0] (Bt.length * 3)) 90)).heap.size = W.heap.size + 1 := by simp
      have g2 : ((W.alloc (.cells (madeCells #[.int .i64 0, .string ByteArray.empty, .float .f64 0] (Bt.length * 3)) 90)).alloc (.cells (madeCells #[.int .i64 0, .int .i64 0] (D.length * 2)) 28)).heap.size = W.heap.size + 1 + 1 := by simp
      rw [g1] at a2 a3
      rw [g2] at a3
      exact ⟨_, _, _, rfl, (((a3.pick 2 (by simp)).pick 2 (by simp)).pick 2 (by simp)).drew, (((en2.alloc (.cells (madeCells #[.int .i64 0, .string ByteArray.empty, .float .f64 0] (Bt.length * 3)) 90)).alloc (.cells (madeCells #[.int .i64 0, .int .i64 0] (D.length * 2)) 28)).alloc (.cells #[.int .i64 r, .int .i64 s, .int .i64 q, .slice (some ⟨W.heap.size + 1, 0, none⟩) D.length D.length, .slice (some ⟨W.heap.size, 0, none⟩) Bt.length Bt.length] 32)).drew⟩
    · have a1 := h2.row_lit 90 3 Bt.length (madeCells #[.int .i64 0, .string ByteArray.empty, .float .f64 0] (Bt.length * 3)) (by simp [size_madeCells]) (by simp [maxLen]; omega)
      have a2 := a1.blk #[.int .i64 r, .int .i64 s, .int .i64 q, .slice (some ⟨W.heap.size + 1 + 1, 0, none⟩) D.length D.length, .slice (some ⟨W.heap.size, 0, none⟩) Bt.length Bt.length] 32
      have a3 := a2.row_lit 28 2 D.length (madeCells #[.int .i64 0, .int .i64 0] (D.length * 2)) (by simp [size_madeCells]) (by simp [maxLen]; omega)
      have g1 : (W.alloc (.cells (madeCells #[.int .i64 0, .string ByteArray.empty, .float .f64 0] (Bt.length * 3)) 90)).heap.size = W.heap.size + 1 := by simp
      have g2 : ((W.alloc (.cells (madeCells #[.int .i64 0, .string ByteArray.empty, .float .f64 0] (Bt.length * 3)) 90)).alloc (.cells #[.int .i64 r, .int .i64 s, .int .i64 q, .slice (some ⟨W.heap.size + 1 + 1, 0, none⟩) D.length D.length, .slice (some ⟨W.heap.size, 0, none⟩) Bt.length Bt.length] 32)).heap.size = W.heap.size + 1 + 1 := by simp
      rw [g1] at a2 a3
      rw [g2] at a3
      exact ⟨_, _, _, rfl, (((a3.pick 2 (by simp)).pick 1 (by simp)).pick 2 (by simp)).drew, (((en2.alloc (.cells (madeCells #[.int .i64 0, .string ByteArray.empty, .float .f64 0] (Bt.length * 3)) 90)).alloc (.cells #[.int .i64 r, .int .i64 s, .int .i64 q, .slice (some ⟨W.heap.size + 1 + 1, 0, none⟩) D.length D.length, .slice (some ⟨W.heap.size, 0, none⟩) Bt.length Bt.length] 32)).alloc (.cells (madeCells #[.int .i64 0, .int .i64 0] (D.length * 2)) 28)).drew⟩
    · have a1 := h2.blk #[.int .i64 r, .int .i64 s, .int .i64 q, .slice (some ⟨W.heap.size + 1, 0, none⟩) D.length D.length, .slice (some ⟨W.heap.size + 1 + 1, 0, none⟩) Bt.length Bt.length] 32
      have a2 := a1.row_lit 28 2 D.length (madeCells #[.int .i64 0, .int .i64 0] (D.length * 2)) (by simp [size_madeCells]) (by simp [maxLen]; omega)
      have a3 := a2.row_lit 90 3 Bt.length (madeCells #[.int .i64 0, .string ByteArray.empty, .float .f64 0] (Bt.length * 3)) (by simp [size_madeCells]) (by simp [maxLen]; omega)
      have g1 : (W.alloc (.cells #[.int .i64 r, .int .i64 s, .int .i64 q, .slice (some ⟨W.heap.size + 1, 0, none⟩) D.length D.length, .slice (some ⟨W.heap.size + 1 + 1, 0, none⟩) Bt.length Bt.length] 32)).heap.size = W.heap.size + 1 := by simp
      have g2 : ((W.alloc (.cells #[.int .i64 r, .int .i64 s, .int .i64 q, .slice (some ⟨W.heap.size + 1, 0, none⟩) D.length D.length, .slice (some ⟨W.heap.size + 1 + 1, 0, none⟩) Bt.length Bt.length] 32)).alloc (.cells (madeCells #[.int .i64 0, .int .i64 0] (D.length * 2)) 28)).heap.size = W.heap.size + 1 + 1 := by simp
      rw [g1] at a2 a3
      rw [g2] at a3
      exact ⟨_, _, _, rfl, (((a3.pick 0 (by simp)).pick 1 (by simp)).pick 2 (by simp)).drew, (((en2.alloc (.cells #[.int .i64 r, .int .i64 s, .int .i64 q, .slice (some ⟨W.heap.size + 1, 0, none⟩) D.length D.length, .slice (some ⟨W.heap.size + 1 + 1, 0, none⟩) Bt.length Bt.length] 32)).alloc (.cells (madeCells #[.int .i64 0, .int .i64 0] (D.length * 2)) 28)).alloc (.cells (madeCells #[.int .i64 0, .string ByteArray.empty, .float .f64 0] (Bt.length * 3)) 90)).drew⟩
    · have a1 := h2.blk #[.int .i64 r, .int .i64 s, .int .i64 q, .slice (some ⟨W.heap.size + 1 + 1, 0, none⟩) D.length D.length, .slice (some ⟨W.heap.size + 1, 0, none⟩) Bt.length Bt.length] 32
      have a2 := a1.row_lit 90 3 Bt.length (madeCells #[.int .i64 0, .string ByteArray.empty, .float .f64 0] (Bt.length * 3)) (by simp [size_madeCells]) (by simp [maxLen]; omega)
      have a3 := a2.row_lit 28 2 D.length (madeCells #[.int .i64 0, .int .i64 0] (D.length * 2)) (by simp [size_madeCells]) (by simp [maxLen]; omega)
      have g1 : (W.alloc (.cells #[.int .i64 r, .int .i64 s, .int .i64 q, .slice (some ⟨W.heap.size + 1 + 1, 0, none⟩) D.length D.length, .slice (some ⟨W.heap.size + 1, 0, none⟩) Bt.length Bt.length] 32)).heap.size = W.heap.size + 1 := by simp
      have g2 : ((W.alloc (.cells #[.int .i64 r, .int .i64 s, .int .i64 q, .slice (some ⟨W.heap.size + 1 + 1, 0, none⟩) D.length D.length, .slice (some ⟨W.heap.size + 1, 0, none⟩) Bt.length Bt.length] 32)).alloc (.cells (madeCells #[.int .i64 0, .string ByteArray.empty, .float .f64 0] (Bt.length * 3)) 90)).heap.size = W.heap.size + 1 + 1 := by simp
      rw [g1] at a2 a3
      rw [g2] at a3
      exact ⟨_, _, _, rfl, (((a3.pick 1 (by simp)).pick 1 (by simp)).pick 2 (by simp)).drew, (((en2.alloc (.cells #[.int .i64 r, .int .i64 s, .int .i64 q, .slice (some ⟨W.heap.size + 1 + 1, 0, none⟩) D.length D.length, .slice (some ⟨W.heap.size + 1, 0, none⟩) Bt.length Bt.length] 32)).alloc (.cells (madeCells #[.int .i64 0, .string ByteArray.empty, .float .f64 0] (Bt.length * 3)) 90)).alloc (.cells (madeCells #[.int .i64 0, .int .i64 0] (D.length * 2)) 28)).drew⟩
  case rest =>
    obtain ⟨go, gd, gb, rfl, h3, en3⟩ := hcut
    clear en2 kb kk v0 v1 v2 v3 v4 vl hmi hmc
    have hs : (madeCells #[Value.int .i64 0, .int .i64 0] (D.length * 2)).toList.length = D.length * 2 := by simp [size_madeCells]
    have hs' : (madeCells #[Value.int .i64 0, .string ByteArray.empty, .float .f64 0] (Bt.length * 3)).toList.length = Bt.length * 3 := by simp [size_madeCells]
    generalize (madeCells #[Value.int .i64 0, .int .i64 0] (D.length * 2)).toList = ZI at *
    generalize (madeCells #[Value.int .i64 0, .string ByteArray.empty, .float .f64 0] (Bt.length * 3)).toList = ZC at *
    have hnD : News Try.prog wc 2 (.slice dA D.length dc) D.length (idl D) := News.rw ((hD.mono l1).rw h3) (idl_one D)
    obtain ⟨w4, hcp4, h4, en4⟩ := h3.swap.copy_row 29 29 3 Try.underlying29 idSize 0 D.length D.length D.length D.length (.slice dA D.length dc) (idl D) 0 (by omega) (by rw [idl_len]) (by rw [hs]; omega) (hnD.lenOf _) (Nat.min_self _) (hnD.first 0) (idl_one D)
    rw [Nat.zero_mul, List.take_zero, List.nil_append, List.drop_of_length_le (by rw [hs]; omega), List.append_nil] at h4
    have hnB : News Try.prog w4 3 (.slice bA Bt.length bc) Bt.length (cml Bt) := News.rw ((hBt.mono l1).rw h4) (cml_one Bt)
    obtain ⟨w5, hcp5, h5, en5⟩ := (h4.pick 2 (by simp)).copy_row 30 30 3 Try.underlying30 cmSize 0 Bt.length Bt.length Bt.length Bt.length (.slice bA Bt.length bc) (cml Bt) 0 (by omega) (by rw [cml_len]) (by rw [hs']; omega) (hnB.lenOf _) (Nat.min_self _) (hnB.first 0) (cml_one Bt)
    rw [Nat.zero_mul, List.take_zero, List.nil_append, List.drop_of_length_le (by rw [hs']; omega), List.append_nil] at h5
    have o3 := h3
    have o4 := h4.swap
    have o5 := h5.pick 2 (by simp)
    have v3 := h3.cell y3
    have v3l := World.block_lt_of_cell? _ _ v3
    have u2 := h3.blk_cell 2
    have u3 := h3.blk_cell 3
    have ul := h3.blk_lt
    have v4 := h4.cell y4
    have v4l := World.block_lt_of_cell? _ _ v4
    have t4 := o4.blk_cell 4
    have t4l := o4.blk_lt
    have q0 := o5.blk_cell 0
    have q1 := o5.blk_cell 1
    have q2 := o5.blk_cell 2
    have q3 := o5.blk_cell 3
    have q4 := o5.blk_cell 4
    have ql := o5.blk_lt
    have p5 := h5.pick 3 (by simp)
    have z0 := p5.blk_cell 0
    have z1 := p5.blk_cell 1
    have z2 := p5.blk_cell 2
    have z3 := p5.blk_cell 3
    have z4 := p5.blk_cell 4
    have zf0 := p5.blk_free 0
    have zf1 := p5.blk_free 1
    have zf2 := p5.blk_free 2
    have zf3 := p5.blk_free 3
    have zf4 := p5.blk_free 4
    have zl := p5.blk_lt
    have p6 := ((((p5.blk_set 0 (.int .i64 r)).blk_set 1 (.int .i64 s)).blk_set 2 (.int .i64 q)).blk_set 3 (.slice (some ⟨gd, 0, none⟩) D.length D.length)).blk_set 4 (.slice (some ⟨gb, 0, none⟩) Bt.length Bt.length)
    change St H1 (Blk (w.heap.size + 1) #[.int .i64 r, .int .i64 s, .int .i64 q, .slice (some ⟨gd, 0, none⟩) D.length D.length, .slice (some ⟨gb, 0, none⟩) Bt.length Bt.length] 32 :: _) _ at p6
    have en6 := (((((en3.trans en4).trans en5).setCell ⟨w.heap.size + 1, 0, none⟩ (.int .i64 r)).setCell ⟨w.heap.size + 1, 1, none⟩ (.int .i64 s)).setCell ⟨w.heap.size + 1, 2, none⟩ (.int .i64 q)).setCell ⟨w.heap.size + 1, 3, none⟩ (.slice (some ⟨gd, 0, none⟩) D.length D.length) |>.setCell ⟨w.heap.size + 1, 4, none⟩ (.slice (some ⟨gb, 0, none⟩) Bt.length Bt.length)
    clear h3 h4 h5 o3 o4 o5 p5 hnD hnB hs hs' en3 en4 en5
    go_wp2_with fail
    refine bodyPost_ret (results_cell_row rfl _ _ (w.heap.size + 1) 32 _ (0, 0) _ rfl p6.blk_heap Try.underlying32 rfl (by kernel_rfl)) rfl ?_
    exact ⟨(.slice (some ⟨gd, 0, none⟩) D.length D.length, .slice (some ⟨gb, 0, none⟩) Bt.length Bt.length), rfl, ((p6.drop.pick 2 (by simp)).perm (.cons _ (.swap _ _ _))).drop.weaken l1, en6⟩
end Go.Proofs.Ytelmhcbdpimaaaa
