/- Joined texts: CanOrd. -/
import Derived.Test.YtcbckeoalmjcoaaGreatCGR22
import Derived.Test.YtcbckeoalmjcoaaGreatCGR23
import Derived.Test.YtcbckeoalmjcoaaGreatCGR24
/- canon.Order: its closures, its walk. -/
set_option linter.unusedVariables false
set_option linter.unusedSimpArgs false
namespace Go.Proofs.YtcbckeoalmjcoaaGreat
open Go.RowKit Go.Cw Go.Fl
attribute [local go_sem ↓] eql_id neq_id
set_option maxRecDepth 100000 in
set_option maxHeartbeats 1600000 in
theorem ord11_any (x : Id) (D : List Id) (p g : Nat) (H : Hp) (fr : List HA) (w : World) (h : St H (Mp setC g (ents D) :: fr) w) (h0 : H.cell p 0 = some (.map (some g))) :
    Calls Tryz.prog 61 #[idV x, .pointer (some ⟨p, 0, none⟩)] w fun e w' => e = .returned (.bool (!decide (x ∈ D))) ∧ Below w.heap.size w w' := by
  obtain ⟨a0, a1⟩ := x
  have hbx := boxBelow w (.cells #[.int .i64 a0, .int .i64 a1] 41)
  obtain ⟨H1, l1, h1, y⟩ := h.box #[.int .i64 a0, .int .i64 a1] 41
  have v0 := h1.cell (y 0 _ rfl)
  have v1 := h1.cell (y 1 _ rfl)
  have g0 := h1.cell (Hp.cell_le l1 h0)
  have gl := World.block_lt_of_cell? _ _ g0
  have vl := World.block_lt_of_cell? _ _ v0
  have hlk : (Instr.lookup 82 (.map (some g)) (.agg #[.int .i64 a0, .int .i64 a1]) false).run Tryz.prog (w.alloc (.cells #[.int .i64 a0, .int .i64 a1] 41)) = .ok (.bool (decide ((a0, a1) ∈ D))) (w.alloc (.cells #[.int .i64 a0, .int .i64 a1] 41)) := by
    have := h1.mp_get false Tryz.underlying82 (zero_bool _) (a0, a1)
    rwa [ents_look] at this
  generalize decide ((a0, a1) ∈ D) = B at *
  replace hbx := Lib.hid hbx
  clear h h1 y h0 l1
  go_enter Tryz.func61, Tryz.ntmps61
  go_wp2_with fail
  go_ret
  exact ⟨rfl, hbx.out⟩
theorem any_free (nx : Id → List Id) (c D : List Id) : (outP nx c).any (fun x => !decide (x ∈ D)) = !freeB nx D c := by
  unfold freeB
  rw [Bool.eq_iff_iff]
  simp
/-- What the closure tells. -/
def FreeR (nx : Id → List Id) (D c : List Id) (p m : Nat) (L : List Rc) (H : Hp) (fr : List HA) (w : World) (e : Ending) (w' : World) : Prop :=
  ∃ H', e = .returned (.bool (freeB nx D c)) ∧ Hp.le H H' ∧ St H' (GrA p L :: Mp setC m (ents D) :: fr) w' ∧ Env w w'
set_option maxRecDepth 100000 in
set_option maxHeartbeats 1600000 in
theorem ordFree_any (p gb mb m : Nat) (L : List Rc) (uc : Value) (c D : List Id) (H : Hp) (fr : List HA) (w : World) (h : St H (GrA p L :: Mp setC m (ents D) :: fr) w) (hg : GrOk H L) (hgb : H.cell gb 0 = some (grP p)) (hmb : H.cell mb 0 = some (.map (some m))) (hc : Rd H 2 uc (idl c)) (hcl : c.length ≤ 1048576) :
    Calls Tryz.prog 60 #[uc, .pointer (some ⟨gb, 0, none⟩), .pointer (some ⟨mb, 0, none⟩)] w (FreeR (dpsR (L.map rp)) D c p m L H fr w) := by
  have hfin : ∀ (H' : Hp) (w' : World), Hp.le H H' → St H' (GrA p L :: Mp setC m (ents D) :: fr) w' → Env w w' → FreeR (dpsR (L.map rp)) D c p m L H fr w (.returned (.bool (freeB (dpsR (L.map rp)) D c))) w' := fun H' w' h1 h2 h3 => ⟨H', rfl, h1, h2, h3⟩
  generalize FreeR (dpsR (L.map rp)) D c p m L H fr w = Q at *
  replace hfin := Lib.hid hfin
  have hO := Lib.hid (canOut_any p L uc c H (Mp setC m (ents D) :: fr) w h hg hc hcl)
  have g0 := h.cell hgb
  have gl := World.block_lt_of_cell? _ _ g0
  have hmf : ∀ (fn : Fn) (first cap : Array Value) (w : World), (Instr.makeFunc fn first cap).run Tryz.prog w = .ok (.func fn first cap) w := fun _ _ _ _ => rfl
  have eg := Lib.hid (enters_of Tryz.func61 (P := Tryz.prog) (by kernel_rfl) rfl)
  obtain ⟨cA, cn, cc, rfl, _⟩ := hc.form
  clear h
  go_enter Tryz.func60, Tryz.ntmps60
  go_wp2_with fail
  refine hO.out.mono ?_
  rintro e w2 ⟨v, H2, rfl, l2, h2, en2⟩
  have y2 := Hp.cell_le l2 hmb
  have hC := containsF_any 61 (.pointer (some ⟨mb, 0, none⟩)) (fun x => !decide (x ∈ D)) v (outP (dpsR (L.map rp)) c) w2 (h2.row_rw (by decide)) eg.out (fun x w' hw => ord11_any x D mb m H2 _ w' ((h2.below hw).pick 2 (by simp)) y2)
  rw [any_free] at hC
  obtain ⟨oA, on, oc, rfl, _⟩ := h2.row_form
  replace h2 := h2.drop
  have hz := fun w3 (hb : Below w2.heap.size w2 w3) => hfin.out H2 w3 l2 (h2.below hb) (en2.trans (bel_env hb))
  generalize freeB (dpsR (L.map rp)) D c = B at *
  replace hz := Lib.hid hz
  replace hC := Lib.hid hC
  clear hO g0 gl hfin h2
  go_wp2_with fail
  refine hC.out.mono ?_
  rintro e w3 ⟨rfl, hb3⟩
  have hq := Lib.hid (hz.out w3 hb3)
  clear hz hC hb3
  cases B with
  | false =>
    go_wp2_with fail
    exact hq.out
  | true =>
    go_wp2_with fail
    exact hq.out
/-- More ids put into a set. -/
def addA (D l : List Id) : List Id := l.foldl (fun D a => addL a D) D
theorem addA_snoc (D l : List Id) (k : Nat) (h : k < l.length) : addA D (l.take (k + 1)) = addL l[k] (addA D (l.take k)) := by
  unfold addA
  rw [List.take_add_one, List.getElem?_eq_getElem h, List.foldl_append]
  rfl
theorem addL_mem16 (a b : Id) (D : List Id) : b ∈ addL a D ↔ b = a ∨ b ∈ D := by
  unfold addL
  split
  · rename_i h
    exact ⟨.inr, fun hb => hb.elim (fun e => e ▸ h) id⟩
  · rw [List.mem_append, List.mem_singleton]
    exact Or.comm
theorem addA_mem : ∀ (l D : List Id) (b : Id), b ∈ addA D l ↔ b ∈ D ∨ b ∈ l
  | [], D, b => by simp [addA]
  | a :: l, D, b => by
    show b ∈ addA (addL a D) l ↔ _
    rw [addA_mem l (addL a D) b, addL_mem16, List.mem_cons]
    constructor
    · rintro ((h | h) | h)
      · exact .inr (.inl h)
      · exact .inl h
      · exact .inr (.inr h)
    · rintro (h | h | h)
      · exact .inl (.inr h)
      · exact .inl (.inl h)
      · exact .inr h
theorem perm_GM (O X G M : HA) (fr : List HA) : (O :: X :: G :: M :: fr).Perm (G :: M :: O :: X :: fr) :=
  List.perm_append_comm_assoc [O, X] [G, M] fr
theorem perm_rot (M O X G : HA) (fr : List HA) : (M :: O :: X :: G :: fr).Perm (O :: X :: G :: M :: fr) :=
  List.perm_append_comm_assoc [M] [O, X, G] fr
/-- What Order tells. -/
def OrdR (p : Nat) (L : List Rc) (H : Hp) (fr : List HA) (w : World) (e : Ending) (w' : World) : Prop :=
  ∃ (v : Value) (Y : List Lv) (H' : Hp), e = .returned v ∧ Hp.le H H' ∧ St H' (Row 35 1 v (vals Y) :: GrA p L :: fr) w' ∧ Env w w' ∧ LvOk H' Y ∧ ∃ C, CompsOf (L.map rp) C ∧ lists Y = canonF (dpsR (L.map rp)) C.length C []
theorem lists_erase (X : List Lv) (i : Nat) : lists (X.eraseIdx i) = (lists X).eraseIdx i := by
  unfold lists
  rw [List.eraseIdx_eq_take_drop_succ, List.eraseIdx_eq_take_drop_succ, List.map_append, List.map_take, List.map_drop]
theorem lists_len16 (X : List Lv) : (lists X).length = X.length := by simp [lists]
theorem lists_at (X : List Lv) (i : Nat) (h : i < X.length) : (lists X)[i]'(by rw [lists_len16]; exact h) = X[i].1 := by simp [lists]
theorem LvOk.erase {H : Hp} {X : List Lv} (h : LvOk H X) (i : Nat) : LvOk H (X.eraseIdx i) := fun x hx => h x (List.mem_of_mem_eraseIdx hx)
/-- A round of the order, in memory. -/
theorem ord_step {nx : Id → List Id} {kf : Id → Ky} {U : Id → Prop} {C : List (List Id)} {X Y : List Lv} {i : Nat} (hi : i < X.length) (hcn : Cn nx kf U C (lists X) (lists Y)) (hno : ∀ (j : Nat) (hj : j < X.length), j < i → freeB nx (lists Y).flatten X[j].1 = false) (hf : freeB nx (lists Y).flatten X[i].1 = true) :
    Cn nx kf U C (lists (X.eraseIdx i)) (lists (Y ++ [X[i]])) ∧ canonF nx X.length (lists X) (lists Y) = canonF nx (X.eraseIdx i).length (lists (X.eraseIdx i)) (lists (Y ++ [X[i]])) := by
  have hi' : i < (lists X).length := by rw [lists_len16]; exact hi
  have hfi : (lists X).findIdx (freeB nx (lists Y).flatten) = i := findIdx_at hi' (by rw [lists_at X i hi]; exact hf) (fun j hj hji => by rw [lists_at X j (by omega)]; exact hno j (by omega) hji)
  have h1 := hcn.step i hi'
  have h2 := canonF_step (nx := nx) (O := lists Y) i hi' hfi
  rw [lists_at X i hi, ← lists_erase] at h1 h2
  rw [lists_len16] at h2
  rw [lists_len16] at h2
  rw [lists_app]
  exact ⟨h1, h2⟩
set_option maxRecDepth 100000 in
set_option maxHeartbeats 16000000 in
theorem canOrder_any (p : Nat) (L : List Rc) (H : Hp) (fr : List HA) (w : World) (h : St H (GrA p L :: fr) w) (hg : GrOk H L) (hL : L.length ≤ 1000) :
    Calls Tryz.prog 30 #[grP p] w (OrdR p L H fr w) := by
  have hn : Hid ((rids L).Nodup) := Lib.hid (gr_nodup h)
  have hfin : ∀ (v : Value) (Y : List Lv) (H' : Hp) (w' : World), Hp.le H H' → St H' (Row 35 1 v (vals Y) :: GrA p L :: fr) w' → Env w w' → LvOk H' Y → (∃ C, CompsOf (L.map rp) C ∧ lists Y = canonF (dpsR (L.map rp)) C.length C []) → OrdR p L H fr w (.returned v) w' := fun v Y H' w' h1 h2 h3 h4 h5 => ⟨v, Y, H', rfl, h1, h2, h3, h4, h5⟩
  generalize OrdR p L H fr w = Q at *
  replace hfin := Lib.hid hfin
  obtain ⟨H1, l1, h1, y⟩ := h.box #[grP p] 27
  have y0 : H1.cell w.heap.size 0 = some (grP p) := y 0 _ rfl
  have g0 := h1.cell y0
  have gl := World.block_lt_of_cell? _ _ g0
  have en1 := (Env.refl w).alloc (.cells #[grP p] 27)
  have hCo := Lib.hid (comps_any p L H1 fr _ h1 (hg.mono l1) hL)
  have hmf : ∀ (fn : Fn) (first cap : Array Value) (w : World), (Instr.makeFunc fn first cap).run Tryz.prog w = .ok (.func fn first cap) w := fun _ _ _ _ => rfl
  have eF : ∀ args w, (callFunc 60 args).run Tryz.prog w = .ok (.enter 60 args) w := enters_of Tryz.func60 (by kernel_rfl) rfl
  replace hg := Lib.hid (hg.mono l1)
  clear y h h1
  go_enter Tryz.func30, Tryz.ntmps30
  go_wp2_with fail
  go_step3
  go_wp2_with fail
  generalize w.heap.size = gx at *
  generalize w.alloc (.cells #[grP p] 27) = W at *
  refine hCo.out.mono ?_
  rintro e w2 ⟨v, X0, H2, rfl, l2, h2, en2, hX0, hC⟩
  replace en2 := en1.trans en2
  have m3 := run_makeMap (P := Tryz.prog) 82 w2
  have h3 := h2.mp_made (C := setC)
  have en3 := en2.alloc (.map #[] 0)
  obtain ⟨H4, l4, h4, y⟩ := h3.box #[.map (some w2.heap.size)] 82
  have ym : H4.cell (w2.alloc (.map #[] 0)).heap.size 0 = some (.map (some w2.heap.size)) := y 0 _ rfl
  rw [World.size_alloc] at ym
  have en4 := en3.alloc (.cells #[.map (some w2.heap.size)] 82)
  have l14 := Hp.le_trans l2 l4
  have yg := Hp.cell_le l14 y0
  replace hX0 := Lib.hid (hX0.mono l4)
  have h5 := h4.row_nil 35 1
  have h6 : St H4 (Row 35 1 (.slice none 0 0) (vals []) :: Row 35 1 v (vals X0) :: GrA p L :: Mp setC w2.heap.size (ents []) :: fr) _ := St.perm h5 (List.Perm.cons _ (List.perm_append_comm_assoc [Mp setC w2.heap.size (ents [])] [Row 35 1 v (vals X0), GrA p L] fr))
  have hcl : Hid (∀ c ∈ lists X0, c.length ≤ 1000) := Lib.hid (fun c hc => by
    have h1 := (hC.one c hc).2.1
    have h2 := sub_len16 c (rids L) (kr_nodup h1) (fun a ha => by
      have := (cnStart hC).inU hc ha
      have := this.1
      rwa [pids_rp] at this)
    rw [List.length_map] at h2
    omega)
  have hCl : X0.length ≤ 1000 := by
    have h1 : ((lists X0).map hdI).Nodup := kr_nodup hC.hds
    have h2 := sub_len16 _ (rids L) h1 (fun a ha => by
      obtain ⟨c, hc, rfl⟩ := List.mem_map.1 ha
      have := (hC.one c hc).2.2.1.1
      rwa [pids_rp] at this)
    rw [List.length_map, List.length_map, lists_len16] at h2
    omega
  have hE : Hid (∃ C, CompsOf (L.map rp) C ∧ canonF (dpsR (L.map rp)) (lists X0).length (lists X0) [] = canonF (dpsR (L.map rp)) C.length C []) := Lib.hid ⟨_, hC, rfl⟩
  have hcn0 := Lib.hid (cnStart hC)
  generalize hR : canonF (dpsR (L.map rp)) (lists X0).length (lists X0) [] = R at *
  rw [lists_len16] at hR
  have hR0 : Hid (canonF (dpsR (L.map rp)) X0.length (lists X0) (lists []) = R) := Lib.hid hR
  obtain ⟨C, hCe⟩ : ∃ C, lists X0 = C := ⟨_, rfl⟩
  have hcn1 : Hid (Cn (dpsR (L.map rp)) (kfR (L.map rp)) (clU (L.map rp)) C (lists X0) (lists [])) := Lib.hid (by rw [← hCe]; exact hcn0.out)
  rw [hCe] at hcl
  have hFr := Lib.hid (fun (uc : Value) (c D : List Id) (H' : Hp) (fr : List HA) (w : World) (hl : Hp.le H4 H') (h : St H' (GrA p L :: Mp setC w2.heap.size (ents D) :: fr) w) (hc : Rd H' 2 uc (idl c)) (hcl : c.length ≤ 1000) => ordFree_any p gx (w2.heap.size + 1) w2.heap.size L uc c D H' fr w h (hg.out.mono (Hp.le_trans l14 hl)) (Hp.cell_le hl yg) (Hp.cell_le hl ym) hc (by omega))
  generalize dpsR (L.map rp) = nx at *
  generalize kfR (L.map rp) = kf at *
  generalize clU (L.map rp) = U at *
  obtain ⟨vA, vn, vc, rfl, hv1, _⟩ := h2.row_form
  have y4 : H4.cell gx 0 = some (grP p) := yg
  clear hCo h2 h3 h4 h5 en2 en3 hcn0 hC hR hCe y yg y0 g0 gl en1
  go_wp2_with fail
  generalize (w2.alloc (.map #[] 0)).alloc (.cells #[.map (some w2.heap.size)] 82) = W4 at *
  generalize w2.heap.size = gm at *
  go_step3
  go_wp2_with fail
  go_loopg [3, 5] X0.length (fun q s3 s5 wr => ∃ (X Y : List Lv) (D : List Id) (H' : Hp), q = X.length ∧ Hp.le H4 H' ∧ St H' (Row 35 1 s5 (vals Y) :: Row 35 1 s3 (vals X) :: GrA p L :: Mp setC gm (ents D) :: fr) wr ∧ Env w wr ∧ Hid (LvOk H' X) ∧ Hid (LvOk H' Y) ∧ Hid (∀ a, a ∈ D ↔ a ∈ (lists Y).flatten) ∧ Hid (Cn nx kf U C (lists X) (lists Y)) ∧ Hid (canonF nx X.length (lists X) (lists Y) = R) ∧ X.length + Y.length ≤ 1000)
  case atStart => exact ⟨X0, [], [], H4, rfl, Hp.le_refl _, h6, en4, hX0, Lib.hid (fun x hx => by cases hx), Lib.hid (by simp [lists]), hcn1, hR0, by simpa using hCl⟩
  case round =>
    clear h6 en4 hX0 hcn1 hR0 hCl m3 hv1
    clear X0
    obtain ⟨X, Y, D, H5, rfl, l5, hst, hen, hX, hY, hD, hcn, hR, hXY⟩ := hrel
    obtain ⟨xA, xn, xc, rfl, hx1, hx2, _⟩ := (hst.pick 1 (by simp)).row_form
    rw [vals_len] at hx1
    obtain rfl : xn = X.length := by omega
    obtain ⟨yA, yn, yc, rfl, hy1, hy2, _⟩ := hst.row_form
    rw [vals_len] at hy1
    obtain rfl : yn = Y.length := by omega
    clear hx1 hy1
    by_cases hX0 : X.length = 0
    · obtain rfl : X = [] := List.eq_nil_of_length_eq_zero hX0
      have hz := Lib.hid (hfin.out _ Y H5 wr (Hp.le_trans l1 (Hp.le_trans l14 l5)) (St.perm hst (List.Perm.cons _ (List.Perm.swap _ _ _)) |>.perm (List.Perm.cons _ (List.Perm.cons _ (List.Perm.swap _ _ _))) |> fun h => (((St.pick h 2 (by simp)).drop).pick 2 (by simp)).drop) hen hY.out (by
        obtain ⟨C', h1, h2⟩ := hE.out
        exact ⟨C', h1, by rw [← h2, ← hR.out]; rfl⟩))
      clear hst hX hY hD hcn hR hfin hFr
      go_wp2_with fail
      exact hz.out
    · have hposn : 0 < X.length := by omega
      have hposd : decide (0 < X.length) = true := decide_eq_true hposn
      have hpos : (0 : Int) < (X.length : Int) := by omega
      have hsome := Lib.hid (hcn.out.some (fun e => hX0 (by rw [← lists_len16, e]; rfl)))
      rw [lists_len16] at hsome
      clear hX0
      have hst2 : St H5 (Mp setC gm (ents D) :: Row 35 1 (.slice yA Y.length yc) (vals Y) :: Row 35 1 (.slice xA X.length xc) (vals X) :: GrA p L :: fr) wr := hst.pick 3 (by simp)
      clear hst
      go_wp2_with fail
      go_loopw [3, 5, 20] (fun s3 s5 s20 wr => ∃ (i : Nat) (H' : Hp), i ≤ X.length ∧ s3 = .slice xA X.length xc ∧ s5 = .slice yA Y.length yc ∧ s20 = .int .i64 (i : Int) ∧ Hp.le H5 H' ∧ St H' (Mp setC gm (ents D) :: Row 35 1 (.slice yA Y.length yc) (vals Y) :: Row 35 1 (.slice xA X.length xc) (vals X) :: GrA p L :: fr) wr ∧ Env w wr ∧ Hid (∀ (j : Nat) (hj : j < X.length), j < i → freeB nx (lists Y).flatten X[j].1 = false)) (fun _ _ s20 _ => X.length - (intOf s20).toNat)
      case atStart => exact ⟨0, H5, by omega, rfl, rfl, by go_num, Hp.le_refl _, hst2, hen, Lib.hid (fun j _ hj => absurd hj (by omega))⟩
      case round =>
        clear hst2 hen
        obtain ⟨i, H6, hi, rfl, rfl, rfl, l6, hst, hen, hno⟩ := hrel
        by_cases hlt : i < X.length
        · have l46 := Hp.le_trans l5 l6
          obtain ⟨b, off, hA, hbl, hcr, _⟩ := (hst.pick 2 (by simp)).row_cells (by omega) (by decide)
          cases hA
          have q0 := hcr _ _ (vals_get X i hlt)
          rw [Nat.mul_one] at q0
          clear hcr
          have hxr := (hX.out X[i] (List.getElem_mem hlt)).mono l6
          have hxl := hcl.out X[i].1 (hcn.out.inC (by rw [← lists_at X i hlt]; exact List.getElem_mem _))
          have hnext := Lib.hid (fun (hf : freeB nx (lists Y).flatten X[i].1 = false) (j : Nat) (hj : j < X.length) (hji : j < i + 1) => show freeB nx (lists Y).flatten X[j].1 = false from by
            by_cases e : j = i
            · subst e; exact hf
            · exact hno.out j hj (by omega))
          have hstep := Lib.hid (fun (hf : freeB nx (lists Y).flatten X[i].1 = true) => ord_step hlt hcn.out hno.out hf)
          have hi1 := Lib.hid (show i + 1 ≤ X.length by omega)
          obtain ⟨Xe, hXe⟩ : ∃ Xe, Xe = X.eraseIdx i := ⟨_, rfl⟩
          have hXel : Xe.length = X.length - 1 := by rw [hXe, List.length_eraseIdx_of_lt hlt]
          have hXeok : Hid (∀ H', Hp.le H5 H' → LvOk H' Xe) := Lib.hid (fun H' hl => by rw [hXe]; exact (hX.out.mono hl).erase i)
          have hdel := fun (H' : Hp) (fr : List HA) (w' : World) (h : St H' (Row 35 1 (.slice (some ⟨b, off, none⟩) X.length xc) (vals X) :: fr) w') => delete_any (.slice (some ⟨b, off, none⟩) X.length xc) X i H' fr w' h (vals_one hX.out) hlt
          unfold DelR at hdel
          rw [← hXe] at hdel hstep
          replace hdel := Lib.hid hdel
          clear hXe
          generalize X[i] = x at *
          have hf0 := hFr.out x.2 x.1 D H6 (Row 35 1 (.slice yA Y.length yc) (vals Y) :: Row 35 1 (.slice (some ⟨b, off, none⟩) X.length xc) (vals X) :: fr) wr l46 (St.perm hst (List.perm_append_comm_assoc [Mp setC gm (ents D), Row 35 1 (.slice yA Y.length yc) (vals Y), Row 35 1 (.slice (some ⟨b, off, none⟩) X.length xc) (vals X)] [GrA p L] fr |>.trans (List.Perm.refl _))) hxr hxl
          obtain ⟨xl, xv⟩ := x
          obtain ⟨cA, cn, cc, rfl, hc1, _⟩ := hxr.form
          simp only at hc1 hxl hf0
          rw [idl_len] at hc1
          obtain rfl : cn = xl.length := by omega
          have hfree : freeB nx D xl = freeB nx (lists Y).flatten xl := by
            unfold freeB
            exact decide_eq_decide.2 ⟨fun h d hd => (hD.out d).1 (h d hd), fun h d hd => (hD.out d).2 (h d hd)⟩
          unfold FreeR at hf0
          rw [hfree] at hf0
          replace hf0 := Lib.hid hf0
          clear hfree hst hc1 hno
          go_wp2_with fail
          refine hf0.out.mono ?_
          rintro e w7 ⟨H7, rfl, l7, h7, en7⟩
          replace en7 := hen.trans en7
          have h8 : St H7 (Mp setC gm (ents D) :: Row 35 1 (.slice yA Y.length yc) (vals Y) :: Row 35 1 (.slice (some ⟨b, off, none⟩) X.length xc) (vals X) :: GrA p L :: fr) w7 := St.perm h7 (List.perm_append_comm_assoc [GrA p L] [Mp setC gm (ents D), Row 35 1 (.slice yA Y.length yc) (vals Y), Row 35 1 (.slice (some ⟨b, off, none⟩) X.length xc) (vals X)] fr)
          have l67 := Hp.le_trans l6 l7
          clear hf0 h7 hen q0 hbl
          cases hB : freeB nx (lists Y).flatten xl with
          | false =>
            have hno2 := Lib.hid (hnext.out hB)
            clear hnext hstep hB hdel
            go_wp2_with fail
            go_roundw
            case rel => exact ⟨i + 1, H7, hi1.out, rfl, rfl, by go_num, l67, h8, en7, hno2⟩
            case measure => simp [intOf]; have := hi1.out; omega
          | true =>
            have hst3 := Lib.hid (hstep.out hB)
            replace hxr := hxr.mono l7
            clear hnext hstep hB
            have h9 : St H7 (Mp setC gm (ents (addA D (xl.take 0))) :: Row 35 1 (.slice yA Y.length yc) (vals Y) :: Row 35 1 (.slice (some ⟨b, off, none⟩) X.length xc) (vals X) :: GrA p L :: fr) w7 := h8
            clear h8
            go_wp2_with fail
            go_loopw [31] (fun s31 wr => ∃ (q : Nat) (H' : Hp), q ≤ xl.length ∧ s31 = .int .i64 (q : Int) ∧ Hp.le H7 H' ∧ St H' (Mp setC gm (ents (addA D (xl.take q))) :: Row 35 1 (.slice yA Y.length yc) (vals Y) :: Row 35 1 (.slice (some ⟨b, off, none⟩) X.length xc) (vals X) :: GrA p L :: fr) wr ∧ Env w wr) (fun s31 _ => xl.length - (intOf s31).toNat)
            case atStart => exact ⟨0, H7, by omega, by go_num, Hp.le_refl _, h9, en7⟩
            case round =>
              clear h9 en7
              obtain ⟨q, H8, hq, rfl, l8, hst, hen⟩ := hrel
              have gm0 := hst.cell (Hp.cell_le (Hp.le_trans l5 (Hp.le_trans l67 l8)) ym)
              have gml := World.block_lt_of_cell? _ _ gm0
              by_cases hqt : q < xl.length
              · obtain ⟨b2, off2, hA, hcr⟩ := ((hxr.mono l8).rw hst).cells (by omega)
                cases hA
                have r0 := hcr _ _ (idl_fst xl q hqt)
                have r1 := hcr _ _ (idl_snd xl q hqt)
                rw [← Nat.add_assoc] at r1
                have rl := World.block_lt_of_cell? _ _ r0
                clear hcr
                have hP : Hid (mput xl[q] () (ents (addA D (xl.take q))) = ents (addA D (xl.take (q + 1)))) := Lib.hid (by rw [addA_snoc D xl q hqt, ents_put])
                have hq1 := Lib.hid (show q + 1 ≤ xl.length by omega)
                generalize xl[q] = a at *
                obtain ⟨H9, l9, h10, y⟩ := hst.box #[.int .i64 a.1, .int .i64 a.2] 41
                have v0 := h10.cell (show H9.cell wr.heap.size 0 = some (.int .i64 a.1) from y 0 _ rfl)
                have v1 := h10.cell (show H9.cell wr.heap.size 1 = some (.int .i64 a.2) from y 1 _ rfl)
                have vl := World.block_lt_of_cell? _ _ v0
                have gm0 := h10.cell (Hp.cell_le (Hp.le_trans l5 (Hp.le_trans l67 (Hp.le_trans l8 l9))) ym)
                have gml := World.block_lt_of_cell? _ _ gm0
                have en10 := hen.alloc (.cells #[.int .i64 a.1, .int .i64 a.2] 41)
                clear y hst hen
                obtain ⟨a0, a1⟩ := a
                simp only at r0 r1 v0 v1
                go_wp2_with (at_mapUpdate; refine wpList_mput h10 rfl (.tmp 35) (.tmp 36) (.const (.bool true)) rfl Tryz.underlying82 rfl (a0, a1) rfl () rfl ?_; intro w11 h11 en11)
                replace en11 := en10.trans en11
                rw [hP.out] at h11
                clear h10 en10 v0 v1 vl gm0 gml r0 r1 rl
                go_roundw
                case rel => exact ⟨q + 1, H9, hq1.out, by go_num, Hp.le_trans l8 l9, h11, en11⟩
                case measure => simp [intOf]; have := hq1.out; omega
              · obtain rfl : q = xl.length := by omega
                rw [List.take_length] at hst
                have l58 := Hp.le_trans l67 l8
                have h10 : St H8 (Row 35 1 (.slice yA Y.length yc) (vals Y) :: Row 35 1 (.slice (some ⟨b, off, none⟩) X.length xc) (vals X) :: GrA p L :: Mp setC gm (ents (addA D xl)) :: fr) wr := St.perm hst (perm_rot _ _ _ _ _)
                have hD2 : Hid (∀ a, a ∈ addA D xl ↔ a ∈ (lists (Y ++ [(xl, .slice cA xl.length cc)])).flatten) := Lib.hid (fun a => by
                  rw [addA_mem, hD.out a, lists_app, List.flatten_append, List.mem_append]
                  simp [lists])
                have hY2 : Hid (LvOk H8 (Y ++ [(xl, .slice cA xl.length cc)])) := Lib.hid ((hY.out.mono l58).snoc (x := (xl, .slice cA xl.length cc)) (hxr.mono l8))
                have hX2 := Lib.hid (hXeok.out H8 l58)
                have hR2 : Hid (canonF nx Xe.length (lists Xe) (lists (Y ++ [(xl, .slice cA xl.length cc)])) = R) := Lib.hid (by rw [← hst3.out.2]; exact hR.out)
                have hcn2 := Lib.hid hst3.out.1
                have hiw : IntKind.i64.wrap ((i : Int) + 1) = (i : Int) + 1 := by rw [IntKind.wrap_i64]; omega
                clear hst gm0 gml hst3 hXeok hD hX hY hcn hR
                go_wp2_with (at_builtin; refine wpList_append rfl (.tmp 38) (.tmp 40) 31 31 rfl Tryz.underlying31 (.inl ⟨_, Tryz.underlying31⟩) (.slice none 0 0) 24 info_ids rfl (by decide) (by decide) rfl rfl (h10.alloc _) (News.new wr _ 1 #[.slice cA xl.length cc] rfl (by simp [Value.oneCell'])) ?apB4 ?apK4)
                case apB4 =>
                  have hvl := vals_len Y
                  first | omega | (simp; omega) | (simp only [List.length_cons, List.length_nil]; omega)
                case apK4 =>
                  intro lv2 w12 h12 en12
                  replace en12 := (hen.alloc _).trans en12
                  have h13 : St H8 (Row 35 1 lv2 (vals (Y ++ [(xl, .slice cA xl.length cc)])) :: Row 35 1 (.slice (some ⟨b, off, none⟩) X.length xc) (vals X) :: GrA p L :: Mp setC gm (ents (addA D xl)) :: fr) w12 := by rw [vals_app]; exact h12
                  have hDl := Lib.hid (hdel.out _ _ _ h13.swap)
                  clear h12 h10 h13 hdel
                  go_wp2_with fail
                  refine hDl.out.mono ?_
                  rintro e w14 ⟨v', rfl, h14, en14⟩
                  replace en14 := en12.trans en14
                  replace h14 := h14.swap
                  clear hDl
                  go_wp2_with fail
                  go_roundg Xe.length
                  case measure => omega
                  case rel => exact ⟨Xe, _, _, H8, rfl, Hp.le_trans l5 l58, h14, en14, hX2, hY2, hD2, hcn2, hR2, by simp; omega⟩
        · obtain rfl : i = X.length := by omega
          have hcon : False := by
            have h1 := hsome.out
            have h2 : freeB nx (lists Y).flatten ((lists X)[(lists X).findIdx (freeB nx (lists Y).flatten)]'(by rw [lists_len16]; exact h1)) = true := List.findIdx_getElem
            rw [lists_at X _ h1, hno.out _ h1 h1] at h2
            cases h2
          exact hcon.elim
end Go.Proofs.YtcbckeoalmjcoaaGreat
