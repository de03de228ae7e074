/- Who waits for whom: contracts of the package waits. -/
import Derived.Test.YtmdmekdmlkhchaaIdset2
import Derived.Test.YtmdmekdmlkhchaaMapEntry
import Derived.Test.YtmdmekdmlkhchaaBag
import Derived.Deep.RegionHeld3
set_option linter.unusedVariables false
set_option linter.unusedSimpArgs false
namespace Go.Proofs.Ytmdmekdmlkhchaa
open Go.RowKit Go.Cw
attribute [local go_sem ↓] eql_id neq_id
theorem idV_inj (a b : Id) (h : idV a = idV b) : a = b := by
  simp only [idV, Value.agg.injEq] at h
  have h1 := congrArg Array.toList h
  simp at h1
  exact Prod.ext h1.1 h1.2
/-- The codes of a map from ids to ids. -/
def onC : Go.Cw.Code Try.prog 42 Id Id where
  kv := idV
  vv := idV
  inj := idV_inj
  kinds := kinds_id
/-- The codes of a map from ids to slices. -/
def whoC : Go.Cw.Code Try.prog 42 Id Value where
  kv := idV
  vv := fun v => v
  inj := idV_inj
  kinds := kinds_id
/-- Who waits for whom: ids with those that they wait for; ids with those that wait for them. -/
def WaA (p : Nat) (on : List (Id × Id)) (who : List (Id × Value × List Id)) : HA :=
  Ex fun g1 => Ex fun g2 => Star (Blk p #[.map (some g1), .map (some g2)] 157) (Star (Mp onC g1 on) (Star (Mp whoC g2 (who.map fun x => (x.1, x.2.1))) (Bag (fun x : Id × Value × List Id => Row 42 2 x.2.1 (idl x.2.2)) who)))
theorem waOpen {H : Hp} {fr : List HA} {w : World} {p : Nat} {on : List (Id × Id)} {who : List (Id × Value × List Id)} (h : St H (WaA p on who :: fr) w) :
    ∃ g1 g2, St H (Blk p #[.map (some g1), .map (some g2)] 157 :: Mp onC g1 on :: Mp whoC g2 (who.map fun x => (x.1, x.2.1)) :: Bag (fun x : Id × Value × List Id => Row 42 2 x.2.1 (idl x.2.2)) who :: fr) w := by
  obtain ⟨g1, h1⟩ := h.openEx
  obtain ⟨g2, h2⟩ := h1.openEx
  exact ⟨g1, g2, St.openMid [_, _] (St.openMid [_] h2.openStar)⟩
theorem waShut {H : Hp} {fr : List HA} {w : World} {p g1 g2 : Nat} {on : List (Id × Id)} {who : List (Id × Value × List Id)} (h : St H (Blk p #[.map (some g1), .map (some g2)] 157 :: Mp onC g1 on :: Mp whoC g2 (who.map fun x => (x.1, x.2.1)) :: Bag (fun x : Id × Value × List Id => Row 42 2 x.2.1 (idl x.2.2)) who :: fr) w) : St H (WaA p on who :: fr) w :=
  St.shutEx g1 (St.shutEx g2 (St.shutStar (St.shutMid [_] (St.shutMid [_, _] h))))
set_option maxRecDepth 100000 in
theorem waNew (w : World) : Calls Try.prog 61 #[] w (ResE (snap w) [] w (fun p => .pointer (some ⟨p, 0, none⟩)) (fun p => [WaA p [] []])) := by
  have m1 := run_makeMap (P := Try.prog) 154 w
  have m2 := run_makeMap (P := Try.prog) 155 (w.alloc (.map #[] 0))
  have e1 : (w.alloc (.map #[] 0)).heap.size = w.heap.size + 1 := by simp
  have e2 : ((w.alloc (.map #[] 0)).alloc (.map #[] 0)).heap.size = w.heap.size + 1 + 1 := by simp
  have h1 := (St.start w).mp_made (C := onC)
  have h2 := h1.mp_made (C := whoC)
  have h3 := h2.blk #[.map (some w.heap.size), .map (some (w.heap.size + 1))] 157
  rw [e1, e2] at h3
  have h4 : St (snap w) [Blk (w.heap.size + 1 + 1) #[.map (some w.heap.size), .map (some (w.heap.size + 1))] 157, Mp onC w.heap.size [], Mp whoC (w.heap.size + 1) [], Emp] _ := (h3.emp).perm (by
    refine List.Perm.trans (List.perm_append_comm (l₁ := [Emp])) ?_
    exact List.Perm.cons _ (List.Perm.swap _ _ _))
  have h5 := waShut (who := []) h4
  have en := (((Env.refl w).alloc (.map #[] 0)).alloc (.map #[] 0)).alloc (.cells #[.map (some w.heap.size), .map (some (w.heap.size + 1))] 157)
  clear e1 e2 h1 h2 h3 h4
  go_enter Try.func61, Try.ntmps61
  go_wp2_with fail
  go_ret
  exact ⟨w.heap.size + 1 + 1, rfl, h5, en⟩
abbrev waP (p : Nat) : Value := .pointer (some ⟨p, 0, none⟩)
set_option maxRecDepth 100000 in
theorem waLen (p : Nat) (on : List (Id × Id)) (who : List (Id × Value × List Id)) (H : Hp) (fr : List HA) (w : World) (h : St H (WaA p on who :: fr) w) :
    Calls Try.prog 65 #[waP p] w fun e w' => e = .returned (.int .i64 on.length) ∧ w = w' := by
  obtain ⟨g1, g2, h1⟩ := waOpen h
  have hc : w.cell? ⟨p, 0, none⟩ = some (.map (some g1)) := h1.blk_cell 0
  have hl := h1.blk_lt
  go_enter Try.func65, Try.ntmps65
  go_wp2_with (at_len; refine wpList_mlen h1.swap rfl (.tmp 8) rfl Try.underlying154 rfl ?_)
  go_ret
  exact ⟨rfl, rfl⟩
set_option maxRecDepth 100000 in
theorem waLen_nil (w : World) : Calls Try.prog 65 #[.pointer none] w fun e w' => e = .returned (.int .i64 0) ∧ w = w' := by
  go_enter Try.func65, Try.ntmps65
  go_wp2_with fail
  go_ret
  exact ⟨rfl, rfl⟩
theorem zero_id (w : World) : (zeroValue 42).run Try.prog w = .ok (.agg #[.int .i64 0, .int .i64 0]) w := by kernel_rfl
set_option maxRecDepth 100000 in
set_option maxHeartbeats 800000 in
theorem waOn_some (p : Nat) (on : List (Id × Id)) (who : List (Id × Value × List Id)) (a b : Id) (hab : mlook a on = some b) (H : Hp) (fr : List HA) (w : World) (h : St H (WaA p on who :: fr) w) :
    Calls Try.prog 64 #[waP p, idV a] w fun e w' => e = .returned (.tuple #[idV b, .bool true]) ∧ Below w.heap.size w w' := by
  obtain ⟨g1, g2, h1⟩ := waOpen h
  obtain ⟨H', hle, h2, hx⟩ := h1.box #[.int .i64 a.1, .int .i64 a.2] 42
  have hy0 := hx 0 _ rfl
  have hy1 := hx 1 _ rfl
  clear hx
  have hs2 : w.heap.size + 1 = (w.alloc (.cells #[.int .i64 a.1, .int .i64 a.2] 42)).heap.size := by simp
  have h3 := h2.blk #[.int .i64 0, .int .i64 0] 42
  have k3 := ((St.start w).alloc (.cells #[.int .i64 a.1, .int .i64 a.2] 42)).blk #[.int .i64 0, .int .i64 0] 42
  rw [← hs2] at h3 k3
  clear hs2
  have en3 := ((Env.refl w).alloc (.cells #[.int .i64 a.1, .int .i64 a.2] 42)).alloc (.cells #[.int .i64 0, .int .i64 0] 42)
  have hat : onC.at_ (.agg #[.int .i64 0, .int .i64 0]) true (mlook a on) = .tuple #[.agg #[.int .i64 b.1, .int .i64 b.2], .bool true] := by rw [hab]; rfl
  replace hat := Lib.hid hat
  go_enter Try.func64, Try.ntmps64
  go_wp2_with fail
  generalize (w.alloc (.cells #[.int .i64 a.1, .int .i64 a.2] 42)).alloc (.cells #[.int .i64 0, .int .i64 0] 42) = W at *
  generalize w.heap.size + 1 = gr at *
  generalize hgb : w.heap.size = gb at *
  have hm := h3.pick 2 (by simp)
  have hlk0 := (hm.drew).mp_get true Try.underlying154 (zero_id _) a
  have hlk1 := ((hm.drew).alloc (.cells #[.int .i64 0, .int .i64 0] 42)).mp_get true Try.underlying154 (zero_id _) a
  rw [hat.out] at hlk0 hlk1
  change (Instr.lookup 154 (.map (some g1)) (.agg #[.int .i64 a.1, .int .i64 a.2]) true).run Try.prog W.drew = .ok (.tuple #[.agg #[.int .i64 b.1, .int .i64 b.2], .bool true]) W.drew at hlk0
  change (Instr.lookup 154 (.map (some g1)) (.agg #[.int .i64 a.1, .int .i64 a.2]) true).run Try.prog (W.alloc (.cells #[.int .i64 0, .int .i64 0] 42)).drew = .ok (.tuple #[.agg #[.int .i64 b.1, .int .i64 b.2], .bool true]) (W.alloc (.cells #[.int .i64 0, .int .i64 0] 42)).drew at hlk1
  have hp := h3.pick 1 (by simp)
  have hc : W.cell? ⟨p, 0, none⟩ = some (.map (some g1)) := hp.blk_cell 0
  have hl := hp.blk_lt
  have x0 := h3.cell hy0
  have x1 := h3.cell hy1
  have xl := World.block_lt_of_cell? _ _ x0
  have nn1 := World.new_ne W _ hc
  have nn2 := World.new_ne W _ x0
  have nn3 := World.new_ne W _ x1
  clear hm hp
  go_region_held3 (fun w' => w'.cell? ⟨p, 0, none⟩ = some (.map (some g1)) ∧ w'.cell? ⟨gb, 0, none⟩ = some (.int .i64 a.1) ∧ w'.cell? ⟨gb, 1, none⟩ = some (.int .i64 a.2)) (go_keep) (fail)
  all_goals
    obtain ⟨H5, hle5, h5, hyb⟩ := h3.box #[.int .i64 b.1, .int .i64 b.2] 42
    have h6 := h5.drew
    have k6 := (k3.alloc (.cells #[.int .i64 b.1, .int .i64 b.2] 42)).drew
    have y0 := h6.cell (hyb 0 _ rfl)
    have y1 := h6.cell (hyb 1 _ rfl)
    have yl := World.block_lt_of_cell? _ _ y0
    have en6 := (en3.alloc (.cells #[.int .i64 b.1, .int .i64 b.2] 42)).drew
    clear hlk0 hlk1 hyb
    generalize (W.alloc (.cells #[.int .i64 b.1, .int .i64 b.2] 42)).drew = W6 at *
    have z0 : W6.cell? ⟨gr, 0, none⟩ = some (.int .i64 0) := h6.blk_cell 0
    have z1 : W6.cell? ⟨gr, 1, none⟩ = some (.int .i64 0) := h6.blk_cell 1
    have zf0 := h6.blk_free 0
    have zf1 := h6.blk_free 1
    have zl := h6.blk_lt
    go_wp2_with fail
    have k9 := (k6.blk_set 0 (.int .i64 b.1)).blk_set 1 (.int .i64 b.2)
    have h9 := (h6.blk_set 0 (.int .i64 b.1)).blk_set 1 (.int .i64 b.2)
    have en9 := (en6.setCell ⟨gr, 0, none⟩ (.int .i64 b.1)).setCell ⟨gr, 1, none⟩ (.int .i64 b.2)
    generalize (W6.setCell ⟨gr, 0, none⟩ (.int .i64 b.1)).setCell ⟨gr, 1, none⟩ (.int .i64 b.2) = W9 at *
    have r0 : W9.cell? ⟨gr, 0, none⟩ = some (.int .i64 b.1) := h9.blk_cell 0
    have r1 : W9.cell? ⟨gr, 1, none⟩ = some (.int .i64 b.2) := h9.blk_cell 1
    have rl := h9.blk_lt
    (try simp only [Exit.inBlock, Exit.then])
    refine bodyPost_ret ((results_cell_tmp rfl _ _ _).trans (?hres : _ = Result.ok (Value.tuple #[Value.agg #[.int .i64 b.1, .int .i64 b.2], .bool true]) W9)) rfl ?_
    case hres =>
      go_simp
      trace_state
    exact ⟨rfl, hgb ▸ k9.toBelow en9⟩
set_option maxRecDepth 100000 in
set_option maxHeartbeats 800000 in
theorem waOn_none (p : Nat) (on : List (Id × Id)) (who : List (Id × Value × List Id)) (a : Id) (hab : mlook a on = none) (H : Hp) (fr : List HA) (w : World) (h : St H (WaA p on who :: fr) w) :
    Calls Try.prog 64 #[waP p, idV a] w fun e w' => e = .returned (.tuple #[idV (0, 0), .bool false]) ∧ Below w.heap.size w w' := by
  obtain ⟨g1, g2, h1⟩ := waOpen h
  obtain ⟨H', hle, h2, hx⟩ := h1.box #[.int .i64 a.1, .int .i64 a.2] 42
  have hy0 := hx 0 _ rfl
  have hy1 := hx 1 _ rfl
  clear hx
  have hs2 : w.heap.size + 1 = (w.alloc (.cells #[.int .i64 a.1, .int .i64 a.2] 42)).heap.size := by simp
  have h3 := h2.blk #[.int .i64 0, .int .i64 0] 42
  have k3 := ((St.start w).alloc (.cells #[.int .i64 a.1, .int .i64 a.2] 42)).blk #[.int .i64 0, .int .i64 0] 42
  rw [← hs2] at h3 k3
  clear hs2
  have en3 := ((Env.refl w).alloc (.cells #[.int .i64 a.1, .int .i64 a.2] 42)).alloc (.cells #[.int .i64 0, .int .i64 0] 42)
  have hat : onC.at_ (.agg #[.int .i64 0, .int .i64 0]) true (mlook a on) = .tuple #[.agg #[.int .i64 0, .int .i64 0], .bool false] := by rw [hab]; rfl
  replace hat := Lib.hid hat
  go_enter Try.func64, Try.ntmps64
  go_wp2_with fail
  generalize (w.alloc (.cells #[.int .i64 a.1, .int .i64 a.2] 42)).alloc (.cells #[.int .i64 0, .int .i64 0] 42) = W at *
  generalize w.heap.size + 1 = gr at *
  generalize hgb : w.heap.size = gb at *
  have hm := h3.pick 2 (by simp)
  have hlk0 := (hm.drew).mp_get true Try.underlying154 (zero_id _) a
  have hlk1 := ((hm.drew).alloc (.cells #[.int .i64 0, .int .i64 0] 42)).mp_get true Try.underlying154 (zero_id _) a
  rw [hat.out] at hlk0 hlk1
  change (Instr.lookup 154 (.map (some g1)) (.agg #[.int .i64 a.1, .int .i64 a.2]) true).run Try.prog W.drew = .ok (.tuple #[.agg #[.int .i64 0, .int .i64 0], .bool false]) W.drew at hlk0
  change (Instr.lookup 154 (.map (some g1)) (.agg #[.int .i64 a.1, .int .i64 a.2]) true).run Try.prog (W.alloc (.cells #[.int .i64 0, .int .i64 0] 42)).drew = .ok (.tuple #[.agg #[.int .i64 0, .int .i64 0], .bool false]) (W.alloc (.cells #[.int .i64 0, .int .i64 0] 42)).drew at hlk1
  have hp := h3.pick 1 (by simp)
  have hc : W.cell? ⟨p, 0, none⟩ = some (.map (some g1)) := hp.blk_cell 0
  have hl := hp.blk_lt
  have x0 := h3.cell hy0
  have x1 := h3.cell hy1
  have xl := World.block_lt_of_cell? _ _ x0
  have nn1 := World.new_ne W _ hc
  have nn2 := World.new_ne W _ x0
  have nn3 := World.new_ne W _ x1
  clear hm hp
  go_region_held3 (fun w' => w'.cell? ⟨p, 0, none⟩ = some (.map (some g1)) ∧ w'.cell? ⟨gb, 0, none⟩ = some (.int .i64 a.1) ∧ w'.cell? ⟨gb, 1, none⟩ = some (.int .i64 a.2)) (go_keep) (fail)
  all_goals
    obtain ⟨H5, hle5, h5, hyb⟩ := h3.box #[.int .i64 0, .int .i64 0] 42
    have h6 := h5.drew
    have k6 := (k3.alloc (.cells #[.int .i64 0, .int .i64 0] 42)).drew
    have y0 := h6.cell (hyb 0 _ rfl)
    have y1 := h6.cell (hyb 1 _ rfl)
    have yl := World.block_lt_of_cell? _ _ y0
    have en6 := (en3.alloc (.cells #[.int .i64 0, .int .i64 0] 42)).drew
    clear hlk0 hlk1 hyb
    generalize (W.alloc (.cells #[.int .i64 0, .int .i64 0] 42)).drew = W6 at *
    have z0 : W6.cell? ⟨gr, 0, none⟩ = some (.int .i64 0) := h6.blk_cell 0
    have z1 : W6.cell? ⟨gr, 1, none⟩ = some (.int .i64 0) := h6.blk_cell 1
    have zf0 := h6.blk_free 0
    have zf1 := h6.blk_free 1
    have zl := h6.blk_lt
    go_wp2_with fail
    have k9 := (k6.blk_set 0 (.int .i64 0)).blk_set 1 (.int .i64 0)
    have h9 := (h6.blk_set 0 (.int .i64 0)).blk_set 1 (.int .i64 0)
    have en9 := (en6.setCell ⟨gr, 0, none⟩ (.int .i64 0)).setCell ⟨gr, 1, none⟩ (.int .i64 0)
    generalize (W6.setCell ⟨gr, 0, none⟩ (.int .i64 0)).setCell ⟨gr, 1, none⟩ (.int .i64 0) = W9 at *
    have r0 : W9.cell? ⟨gr, 0, none⟩ = some (.int .i64 0) := h9.blk_cell 0
    have r1 : W9.cell? ⟨gr, 1, none⟩ = some (.int .i64 0) := h9.blk_cell 1
    have rl := h9.blk_lt
    (try simp only [Exit.inBlock, Exit.then])
    refine bodyPost_ret ((results_cell_tmp rfl _ _ _).trans (?hres : _ = Result.ok (Value.tuple #[Value.agg #[.int .i64 0, .int .i64 0], .bool false]) W9)) rfl ?_
    case hres =>
      go_simp
      trace_state
    exact ⟨rfl, hgb ▸ k9.toBelow en9⟩
set_option maxRecDepth 100000 in
set_option maxHeartbeats 800000 in
theorem waOn_nil (a : Id) (w : World) :
    Calls Try.prog 64 #[.pointer none, idV a] w fun e w' => e = .returned (.tuple #[idV (0, 0), .bool false]) ∧ Below w.heap.size w w' := by
  have k3 := ((St.start w).alloc (.cells #[.int .i64 a.1, .int .i64 a.2] 42)).blk #[.int .i64 0, .int .i64 0] 42
  have hs2 : (w.alloc (.cells #[.int .i64 a.1, .int .i64 a.2] 42)).heap.size = w.heap.size + 1 := by simp
  rw [hs2] at k3
  have en3 := ((Env.refl w).alloc (.cells #[.int .i64 a.1, .int .i64 a.2] 42)).alloc (.cells #[.int .i64 0, .int .i64 0] 42)
  clear hs2
  go_enter Try.func64, Try.ntmps64
  go_wp2_with fail
  generalize (w.alloc (.cells #[.int .i64 a.1, .int .i64 a.2] 42)).alloc (.cells #[.int .i64 0, .int .i64 0] 42) = W at *
  generalize w.heap.size + 1 = gr at *
  have r0 : W.cell? ⟨gr, 0, none⟩ = some (.int .i64 0) := k3.blk_cell 0
  have r1 : W.cell? ⟨gr, 1, none⟩ = some (.int .i64 0) := k3.blk_cell 1
  have rl := k3.blk_lt
  (try simp only [Exit.inBlock, Exit.then])
  refine bodyPost_ret ((results_cell_tmp rfl _ _ _).trans (?hres : _ = Result.ok (Value.tuple #[Value.agg #[.int .i64 0, .int .i64 0], .bool false]) W)) rfl ?_
  case hres => go_simp
  exact ⟨rfl, k3.toBelow en3⟩
set_option maxRecDepth 100000 in
theorem waPark_nil (a b : Id) (w : World) : Calls Try.prog 63 #[.pointer none, idV a, idV b] w fun e w' => e = .returned (.bool false) ∧ Below w.heap.size w w' := by
  have hb := below2 w (.cells #[.int .i64 a.1, .int .i64 a.2] 42) (.cells #[.int .i64 b.1, .int .i64 b.2] 42)
  go_enter Try.func63, Try.ntmps63
  go_wp2_with fail
  go_ret
  exact ⟨rfl, hb⟩
set_option maxRecDepth 100000 in
theorem waWake_nil (a : Id) (w : World) : Calls Try.prog 62 #[.pointer none, idV a] w fun e w' => e = .returned (.slice none 0 0) ∧ Below w.heap.size w w' := by
  have hb := boxBelow w (.cells #[.int .i64 a.1, .int .i64 a.2] 42)
  go_enter Try.func62, Try.ntmps62
  go_wp2_with fail
  go_ret
  exact ⟨rfl, hb⟩
set_option maxRecDepth 100000 in
theorem waMissing_nil (w : World) : Calls Try.prog 66 #[.pointer none] w fun e w' => e = .returned (.slice none 0 0) ∧ w = w' := by
  go_enter Try.func66, Try.ntmps66
  go_wp2_with fail
  go_ret
  exact ⟨rfl, rfl⟩
set_option maxRecDepth 100000 in
theorem waParked_nil (w : World) : Calls Try.prog 67 #[.pointer none] w fun e w' => e = .returned (.slice none 0 0) ∧ w = w' := by
  go_enter Try.func67, Try.ntmps67
  go_wp2_with fail
  go_ret
  exact ⟨rfl, rfl⟩
end Go.Proofs.Ytmdmekdmlkhchaa
