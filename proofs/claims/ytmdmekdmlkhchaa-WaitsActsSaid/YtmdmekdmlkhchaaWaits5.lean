/- One is parked on another one. -/
import Derived.Test.YtmdmekdmlkhchaaWaits4
import Derived.Deep.RegionHeld3
set_option linter.unusedVariables false
set_option linter.unusedSimpArgs false
namespace Go.Proofs.Ytmdmekdmlkhchaa
open Go.RowKit Go.Cw
attribute [local go_sem ↓] eql_id neq_id onC_kv onC_vv whoC_kv whoC_vv
theorem zero_ids (w : World) : (zeroValue 47).run Try.prog w = .ok (.slice none 0 0) w := by kernel_rfl
set_option maxRecDepth 100000 in
theorem waPark_self (p : Nat) (on : List (Id × Id)) (who : List (Id × Value × List Id)) (a b : Id) (hab : a = b) (w : World) :
    Calls Try.prog 63 #[waP p, idV a, idV b] w fun e w' => e = .returned (.bool false) ∧ Below w.heap.size w w' := by
  have hE := idEq_of hab
  have hb := below2 w (.cells #[.int .i64 a.1, .int .i64 a.2] 42) (.cells #[.int .i64 b.1, .int .i64 b.2] 42)
  clear hab
  go_enter Try.func63, Try.ntmps63
  go_wp2_with fail
  go_ret
  exact ⟨rfl, hb⟩
set_option maxRecDepth 100000 in
set_option maxHeartbeats 1600000 in
theorem waPark_has (p : Nat) (on : List (Id × Id)) (who : List (Id × Value × List Id)) (a b c : Id) (hne : a ≠ b) (hc : mlook a on = some c) (H : Hp) (fr : List HA) (w : World) (h : St H (WaA p on who :: fr) w) :
    Calls Try.prog 63 #[waP p, idV a, idV b] w fun e w' => e = .returned (.bool false) ∧ Below w.heap.size w w' := by
  obtain ⟨g1, g2, h1⟩ := waOpen h
  obtain ⟨Ha, hla, h2, hxa⟩ := h1.box #[.int .i64 a.1, .int .i64 a.2] 42
  obtain ⟨Hb, hlb, h3, hxb⟩ := h2.box #[.int .i64 b.1, .int .i64 b.2] 42
  have ya0 := Hp.cell_le hlb (hxa 0 _ rfl)
  have ya1 := Hp.cell_le hlb (hxa 1 _ rfl)
  have hE := idEq_not hne
  have k3 := below2 w (.cells #[.int .i64 a.1, .int .i64 a.2] 42) (.cells #[.int .i64 b.1, .int .i64 b.2] 42)
  have hat : onC.at_ (.agg #[.int .i64 0, .int .i64 0]) true (mlook a on) = .tuple #[.agg #[.int .i64 c.1, .int .i64 c.2], .bool true] := by rw [hc]; rfl
  replace hat := Lib.hid hat
  clear hxa hxb h2 hc hne
  go_enter Try.func63, Try.ntmps63
  go_wp2_with fail
  generalize (w.alloc (.cells #[.int .i64 a.1, .int .i64 a.2] 42)).alloc (.cells #[.int .i64 b.1, .int .i64 b.2] 42) = W at *
  have hwl := k3.size
  generalize hgb : w.heap.size = gb at *
  have hm := h3.pick 1 (by simp)
  have hlk0 := (hm.drew).mp_get true Try.underlying154 (zero_id _) a
  have hlk1 := ((hm.drew).alloc (.cells #[.int .i64 0, .int .i64 0] 42)).mp_get true Try.underlying154 (zero_id _) a
  rw [hat.out] at hlk0 hlk1
  change (Instr.lookup 154 (.map (some g1)) (.agg #[.int .i64 a.1, .int .i64 a.2]) true).run Try.prog W.drew = .ok (.tuple #[.agg #[.int .i64 c.1, .int .i64 c.2], .bool true]) W.drew at hlk0
  change (Instr.lookup 154 (.map (some g1)) (.agg #[.int .i64 a.1, .int .i64 a.2]) true).run Try.prog (W.alloc (.cells #[.int .i64 0, .int .i64 0] 42)).drew = .ok (.tuple #[.agg #[.int .i64 c.1, .int .i64 c.2], .bool true]) (W.alloc (.cells #[.int .i64 0, .int .i64 0] 42)).drew at hlk1
  have hc : W.cell? ⟨p, 0, none⟩ = some (.map (some g1)) := h3.blk_cell 0
  have hl := h3.blk_lt
  have x0 := h3.cell ya0
  have x1 := h3.cell ya1
  have xl := World.block_lt_of_cell? _ _ x0
  have nn1 := World.new_ne W _ hc
  have nn2 := World.new_ne W _ x0
  have nn3 := World.new_ne W _ x1
  clear hm
  go_region_held3 (fun w' => w'.cell? ⟨p, 0, none⟩ = some (.map (some g1)) ∧ w'.cell? ⟨gb, 0, none⟩ = some (.int .i64 a.1) ∧ w'.cell? ⟨gb, 1, none⟩ = some (.int .i64 a.2)) (go_keep) (fail)
  all_goals
    have k6 := (k3.alloc hwl (.cells #[.int .i64 c.1, .int .i64 c.2] 42)).drew
    go_wp2_with fail
    go_ret
    exact ⟨rfl, k6⟩
set_option maxRecDepth 100000 in
set_option maxHeartbeats 1600000 in
theorem waPark_core (p g1 g2 : Nat) (on : List (Id × Id)) (ML : List (Id × Value)) (v0 : Value) (R0 : List Id) (a b : Id) (hne : a ≠ b) (hno : mlook a on = none) (H : Hp) (fr : List HA) (w : World)
    (h1 : St H (Blk p #[.map (some g1), .map (some g2)] 157 :: Mp onC g1 on :: Mp whoC g2 ML :: Row 42 2 v0 (idl R0) :: fr) w)
    (hv : (mlook b ML).getD (.slice none 0 0) = v0) (hR : (R0.length + 1) * 16 ≤ 140737488355328) :
    Calls Try.prog 63 #[waP p, idV a, idV b] w fun e w' => e = .returned (.bool true) ∧ Env w w' ∧ ∃ v', St H (Blk p #[.map (some g1), .map (some g2)] 157 :: Mp onC g1 (mput a b on) :: Mp whoC g2 (mput b v' (mens b (.slice none 0 0) ML)) :: Row 42 2 v' (idl (R0 ++ [a])) :: fr) w' := by
  obtain ⟨Ha, hla, h2, hxa⟩ := h1.box #[.int .i64 a.1, .int .i64 a.2] 42
  obtain ⟨Hb, hlb, h3, hxb⟩ := h2.box #[.int .i64 b.1, .int .i64 b.2] 42
  have ya0 := Hp.cell_le hlb (hxa 0 _ rfl)
  have ya1 := Hp.cell_le hlb (hxa 1 _ rfl)
  have yb0 := hxb 0 _ rfl
  have yb1 := hxb 1 _ rfl
  have hle := Hp.le_trans hla hlb
  have hs2 : w.heap.size + 1 = (w.alloc (.cells #[.int .i64 a.1, .int .i64 a.2] 42)).heap.size := by simp
  rw [← hs2] at yb0 yb1
  have hE := idEq_not hne
  have en3 := ((Env.refl w).alloc (.cells #[.int .i64 a.1, .int .i64 a.2] 42)).alloc (.cells #[.int .i64 b.1, .int .i64 b.2] 42)
  have hat : onC.at_ (.agg #[.int .i64 0, .int .i64 0]) true (mlook a on) = .tuple #[.agg #[.int .i64 0, .int .i64 0], .bool false] := by rw [hno]; rfl
  replace hat := Lib.hid hat
  replace hv := Lib.hid hv
  have hI : (idl (R0 ++ [a])) = idl R0 ++ [.int .i64 a.1, .int .i64 a.2] := by simp [idl, idc]
  replace hI := Lib.hid hI
  clear hxa hxb h2 hno hne hs2
  go_enter Try.func63, Try.ntmps63
  go_wp2_with fail
  generalize (w.alloc (.cells #[.int .i64 a.1, .int .i64 a.2] 42)).alloc (.cells #[.int .i64 b.1, .int .i64 b.2] 42) = W at *
  generalize w.heap.size + 1 = gr at *
  generalize w.heap.size = gb at *
  have hm := h3.pick 1 (by simp)
  have hlk0 := (hm.drew).mp_get true Try.underlying154 (zero_id _) a
  have hlk1 := ((hm.drew).alloc (.cells #[.int .i64 0, .int .i64 0] 42)).mp_get true Try.underlying154 (zero_id _) a
  rw [hat.out] at hlk0 hlk1
  change (Instr.lookup 154 (.map (some g1)) (.agg #[.int .i64 a.1, .int .i64 a.2]) true).run Try.prog W.drew = .ok (.tuple #[.agg #[.int .i64 0, .int .i64 0], .bool false]) W.drew at hlk0
  change (Instr.lookup 154 (.map (some g1)) (.agg #[.int .i64 a.1, .int .i64 a.2]) true).run Try.prog (W.alloc (.cells #[.int .i64 0, .int .i64 0] 42)).drew = .ok (.tuple #[.agg #[.int .i64 0, .int .i64 0], .bool false]) (W.alloc (.cells #[.int .i64 0, .int .i64 0] 42)).drew at hlk1
  have hc : W.cell? ⟨p, 0, none⟩ = some (.map (some g1)) := h3.blk_cell 0
  have hl := h3.blk_lt
  have x0 := h3.cell ya0
  have x1 := h3.cell ya1
  have xl := World.block_lt_of_cell? _ _ x0
  have nn1 := World.new_ne W _ hc
  have nn2 := World.new_ne W _ x0
  have nn3 := World.new_ne W _ x1
  clear hm
  go_region_held3 (fun w' => w'.cell? ⟨p, 0, none⟩ = some (.map (some g1)) ∧ w'.cell? ⟨gb, 0, none⟩ = some (.int .i64 a.1) ∧ w'.cell? ⟨gb, 1, none⟩ = some (.int .i64 a.2)) (go_keep) (fail)
  all_goals
    have h6 := (h3.alloc (.cells #[.int .i64 0, .int .i64 0] 42)).drew
    have en6 := (en3.alloc (.cells #[.int .i64 0, .int .i64 0] 42)).drew
    clear hlk0 hlk1 nn1 nn2 nn3 x0 x1 xl hc hl en3 h3
    generalize (W.alloc (.cells #[.int .i64 0, .int .i64 0] 42)).drew = W6 at *
    have hc : W6.cell? ⟨p, 0, none⟩ = some (.map (some g1)) := h6.blk_cell 0
    have hl := h6.blk_lt
    have x0 := h6.cell ya0
    have x1 := h6.cell ya1
    have xl := World.block_lt_of_cell? _ _ x0
    have z0 := h6.cell yb0
    have z1 := h6.cell yb1
    have zl := World.block_lt_of_cell? _ _ z0
    go_wp2_with fail
    go_still_tail 6, (by kernel_rfl)
    change wpList _ _ _ _ _ W6.drew
    have h7 : St Hb (Mp onC g1 on :: Blk p #[.map (some g1), .map (some g2)] 157 :: Mp whoC g2 ML :: Row 42 2 v0 (idl R0) :: fr) W6.drew := h6.drew.swap
    go_wp2_with (at_mapUpdate; refine wpList_mput h7 rfl (.tmp 29) (.tmp 30) (.tmp 31) rfl Try.underlying154 rfl a rfl b rfl ?_; intro w8 h8 en8)
    have en8' := (en6.drew).trans en8
    clear hc hl x0 x1 xl z0 z1 zl h7 h6 en8 en6
    have h9 : St Hb (Mp whoC g2 ML :: Row 42 2 v0 (idl R0) :: Mp onC g1 (mput a b on) :: Blk p #[.map (some g1), .map (some g2)] 157 :: fr) w8 := h8.perm ((List.perm_append_comm (l₁ := [_, _]) (l₂ := [_, _])).append_right fr)
    have hc : w8.cell? ⟨p, 1, none⟩ = some (.map (some g2)) := h8.swap.blk_cell 1
    have hl := h8.swap.blk_lt
    have x0 := h8.cell ya0
    have x1 := h8.cell ya1
    have xl := World.block_lt_of_cell? _ _ x0
    have z0 := h8.cell yb0
    have z1 := h8.cell yb1
    have zl := World.block_lt_of_cell? _ _ z0
    obtain ⟨Hc, hlc, h10', hxc⟩ := h9.box #[.int .i64 a.1, .int .i64 a.2] 42
    have h10 := h10'.drew
    have en10 := (en8'.alloc (.cells #[.int .i64 a.1, .int .i64 a.2] 42)).drew
    obtain ⟨w10, s, hrunE, h11, en11⟩ := h10.mp_entry Try.underlying155 (.slice none 0 0) (zero_ids _) b
    rw [hv.out] at hrunE
    change (Instr.mapEntry 155 (.map (some g2)) (.agg #[.int .i64 b.1, .int .i64 b.2])).run Try.prog (w8.alloc (.cells #[.int .i64 a.1, .int .i64 a.2] 42)).drew = .ok (.tuple #[v0, .int .i64 (s : Int)]) w10 at hrunE
    have n0 := h11.cell (hxc 0 _ rfl)
    have n1 := h11.cell (hxc 1 _ rfl)
    have hnews : News Try.prog w10 2 (.slice (some ⟨w8.heap.size, 0, none⟩) 1 1) 1 [.int .i64 a.1, .int .i64 a.2] := News.slice rfl (fun _ => ⟨_, rfl, fun j u hj => by
      rw [add_lit]
      match j with
      | 0 => simp at hj; subst hj; exact n0
      | 1 => simp at hj; subst hj; exact n1
      | j + 2 => simp at hj⟩) (by simp [Value.oneCell'])
    obtain ⟨v', w11, hrunA, h12, en12⟩ := h11.swap.append_run 47 47 47 (.agg #[.int .i64 0, .int .i64 0]) 16 Try.underlying47 (.inl ⟨_, Try.underlying47⟩) info_id rfl (by decide) hnews (by rw [idl_len]; simp; omega) (by decide)
    obtain ⟨w12, hrunS, h13, en13⟩ := h12.swap.mps_store (t := 155) v'
    change (Instr.entryStore 155 (.map (some g2)) (.int .i64 s) v').run Try.prog w11 = .ok () w12 at hrunS
    have S8 : w8.drew.cell? ⟨p, 1, none⟩ = some (.map (some g2)) ∧ w8.drew.cell? ⟨gb, 0, none⟩ = some (.int .i64 a.1) ∧ w8.drew.cell? ⟨gb, 1, none⟩ = some (.int .i64 a.2) ∧ w8.drew.cell? ⟨gr, 0, none⟩ = some (.int .i64 b.1) ∧ w8.drew.cell? ⟨gr, 1, none⟩ = some (.int .i64 b.2) := ⟨hc, x0, x1, z0, z1⟩
    have S10 : w10.cell? ⟨p, 1, none⟩ = some (.map (some g2)) ∧ w10.cell? ⟨gb, 0, none⟩ = some (.int .i64 a.1) ∧ w10.cell? ⟨gb, 1, none⟩ = some (.int .i64 a.2) ∧ w10.cell? ⟨gr, 0, none⟩ = some (.int .i64 b.1) ∧ w10.cell? ⟨gr, 1, none⟩ = some (.int .i64 b.2) := ⟨(h11.pick 3 (by simp)).blk_cell 1, h11.cell (Hp.cell_le hlc ya0), h11.cell (Hp.cell_le hlc ya1), h11.cell (Hp.cell_le hlc yb0), h11.cell (Hp.cell_le hlc yb1)⟩
    have S11 : w11.cell? ⟨p, 1, none⟩ = some (.map (some g2)) ∧ w11.cell? ⟨gb, 0, none⟩ = some (.int .i64 a.1) ∧ w11.cell? ⟨gb, 1, none⟩ = some (.int .i64 a.2) ∧ w11.cell? ⟨gr, 0, none⟩ = some (.int .i64 b.1) ∧ w11.cell? ⟨gr, 1, none⟩ = some (.int .i64 b.2) := ⟨(h12.pick 3 (by simp)).blk_cell 1, h12.cell (Hp.cell_le hlc ya0), h12.cell (Hp.cell_le hlc ya1), h12.cell (Hp.cell_le hlc yb0), h12.cell (Hp.cell_le hlc yb1)⟩
    have S12 : w12.cell? ⟨p, 1, none⟩ = some (.map (some g2)) ∧ w12.cell? ⟨gb, 0, none⟩ = some (.int .i64 a.1) ∧ w12.cell? ⟨gb, 1, none⟩ = some (.int .i64 a.2) ∧ w12.cell? ⟨gr, 0, none⟩ = some (.int .i64 b.1) ∧ w12.cell? ⟨gr, 1, none⟩ = some (.int .i64 b.2) := ⟨(h13.pick 3 (by simp)).blk_cell 1, h13.cell (Hp.cell_le hlc ya0), h13.cell (Hp.cell_le hlc ya1), h13.cell (Hp.cell_le hlc yb0), h13.cell (Hp.cell_le hlc yb1)⟩
    have S9 : (w8.alloc (.cells #[.int .i64 a.1, .int .i64 a.2] 42)).drew.cell? ⟨p, 1, none⟩ = some (.map (some g2)) ∧ (w8.alloc (.cells #[.int .i64 a.1, .int .i64 a.2] 42)).drew.cell? ⟨gb, 0, none⟩ = some (.int .i64 a.1) ∧ (w8.alloc (.cells #[.int .i64 a.1, .int .i64 a.2] 42)).drew.cell? ⟨gb, 1, none⟩ = some (.int .i64 a.2) ∧ (w8.alloc (.cells #[.int .i64 a.1, .int .i64 a.2] 42)).drew.cell? ⟨gr, 0, none⟩ = some (.int .i64 b.1) ∧ (w8.alloc (.cells #[.int .i64 a.1, .int .i64 a.2] 42)).drew.cell? ⟨gr, 1, none⟩ = some (.int .i64 b.2) := ⟨(h10.pick 3 (by simp)).blk_cell 1, h10.cell (Hp.cell_le hlc ya0), h10.cell (Hp.cell_le hlc ya1), h10.cell (Hp.cell_le hlc yb0), h10.cell (Hp.cell_le hlc yb1)⟩
    have hfin : St H (Blk p #[.map (some g1), .map (some g2)] 157 :: Mp onC g1 (mput a b on) :: Mp whoC g2 (mput b v' (mens b (.slice none 0 0) ML)) :: Row 42 2 v' (idl (R0 ++ [a])) :: fr) w12 := by
      rw [hI.out]
      refine (h13.weaken (Hp.le_trans hle hlc)).perm ?_
      refine ((List.perm_append_comm (l₁ := [_, _]) (l₂ := [_, _])).append_right fr).trans ?_
      exact List.Perm.swap _ _ _
    have enfin := ((en10.trans en11).trans en12).trans en13
    clear h13 h12 h11 h10 h10' h9 h8 hxc hnews n0 n1 en10 en11 en12 en13 en8'
    go_region_held3 (fun w' => w'.cell? ⟨p, 1, none⟩ = some (.map (some g2)) ∧ w'.cell? ⟨gb, 0, none⟩ = some (.int .i64 a.1) ∧ w'.cell? ⟨gb, 1, none⟩ = some (.int .i64 a.2) ∧ w'.cell? ⟨gr, 0, none⟩ = some (.int .i64 b.1) ∧ w'.cell? ⟨gr, 1, none⟩ = some (.int .i64 b.2)) (first | exact S8 | exact S9 | exact S10 | exact S11 | exact S12) ((rw [if_pos (by rfl)]; refine oper_append_run (.tmp 37) (.tmp 39) 47 47 rfl rfl rfl hrunA ?_))
    go_wp2_with fail
    go_ret
    exact ⟨rfl, enfin, v', hfin⟩
end Go.Proofs.Ytmdmekdmlkhchaa
