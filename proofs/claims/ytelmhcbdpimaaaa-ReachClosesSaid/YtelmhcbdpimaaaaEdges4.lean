/- Graphs: Ids, Missing, Users. -/
import Derived.Test.YtelmhcbdpimaaaaEdges3
set_option linter.unusedVariables false
set_option linter.unusedSimpArgs false
namespace Go.Proofs.Ytelmhcbdpimaaaa
open Go.RowKit Go.Cw Go.Fl
attribute [local go_sem ↓] eql_id neq_id
theorem Row.rwOf {H : Hp} {fr : List HA} {w : World} {v : Value} {l : List Id} (h : St H (Row 28 2 v (idl l) :: fr) w) : Rw w 2 v (idl l) := h.row_rw (by omega)
set_option maxRecDepth 100000 in
theorem gathered_nil (fv : Value) (w : World) : Calls Try.prog 96 #[.pointer none, fv] w fun e w' => e = .returned (.slice none 0 0) ∧ w = w' := by
  go_enter Try.func96, Try.ntmps96
  go_wp2_with fail
  go_ret
  exact ⟨rfl, rfl⟩
set_option maxRecDepth 100000 in
set_option maxHeartbeats 1600000 in
theorem ids1_any (x : Rc) (w : World) (hx : RcR w x) : Calls Try.prog 97 #[recV x] w fun e w' => ∃ v, e = .returned v ∧ Rw w' 2 v (idl [x.1]) ∧ Below w.heap.size w w' := by
  obtain ⟨⟨x0, x1⟩, x2, dv, bv, D, Bt⟩ := x
  obtain ⟨d1, d2, d3, hdv, _⟩ := hx.d.form
  obtain ⟨b1, b2, b3, hbv, _⟩ := hx.b.form
  simp only at hdv hbv
  subst hdv hbv
  clear hx
  have k1 := (St.start w).blk #[.int .i64 x0, .int .i64 x1, .int .i64 x2, .slice d1 d2 d3, .slice b1 b2 b3] 32
  have k2 := k1.row_lit 28 2 1 #[.int .i64 x0, .int .i64 x1] rfl (by decide)
  have en2 := ((Env.refl w).alloc (.cells #[.int .i64 x0, .int .i64 x1, .int .i64 x2, .slice d1 d2 d3, .slice b1 b2 b3] 32)).alloc (.cells #[.int .i64 x0, .int .i64 x1] 28)
  have e1 : (w.alloc (.cells #[.int .i64 x0, .int .i64 x1, .int .i64 x2, .slice d1 d2 d3, .slice b1 b2 b3] 32)).heap.size = w.heap.size + 1 := by simp
  rw [e1] at k2
  go_enter Try.func97, Try.ntmps97
  go_wp2_with fail
  go_ret
  exact ⟨_, rfl, k2.row_rw (by omega), k2.drop.drop.toBelow en2⟩
set_option maxRecDepth 100000 in
theorem grIds_nil (w : World) : Calls Try.prog 62 #[.pointer none] w fun e w' => e = .returned (.slice none 0 0) ∧ w = w' := by
  go_enter Try.func62, Try.ntmps62
  go_wp2_with fail
  refine (gathered_nil _ _).mono ?_
  rintro e w2 ⟨rfl, rfl⟩
  go_wp2_with fail
  go_ret
  exact ⟨rfl, rfl⟩
/-- What Ids, Missing, Users tell. -/
def Told (H : Hp) (p : Nat) (L : List Rc) (fr : List HA) (f : Rc → List Id) (w : World) (e : Ending) (w' : World) : Prop :=
  ∃ v R, e = .returned v ∧ St H (Row 28 2 v (idl R) :: GrA p L :: fr) w' ∧ Env w w' ∧ Rises R ∧ ∀ a, a ∈ R ↔ ∃ x ∈ L, a ∈ f x
set_option maxRecDepth 100000 in
set_option maxHeartbeats 1600000 in
theorem grIds_any (p : Nat) (L : List Rc) (H : Hp) (fr : List HA) (w : World) (h : St H (GrA p L :: fr) w) (hLd : ∀ x ∈ L, RcD H x) (hLl : L.length ≤ 1000000) :
    Calls Try.prog 62 #[grP p] w (Told H p L fr (fun x => [x.1]) w) := by
  have hG := gathered_any p L (fun x => [x.1]) 97 #[] H fr w h hLd (fun _ _ => by simp) hLl (enters_of Try.func97 (by kernel_rfl) rfl) (fun x hx fr' w' h' => ids1_any x w' ((hLd x hx).rw h'))
  replace hG := Lib.hid hG
  go_enter Try.func62, Try.ntmps62
  go_wp2_with fail
  refine hG.out.mono ?_
  rintro e w2 ⟨v, R, rfl, h2⟩
  go_wp2_with fail
  go_ret
  exact ⟨v, R, rfl, h2⟩
set_option maxRecDepth 100000 in
set_option maxHeartbeats 1600000 in
theorem users1_any (x : Rc) (a : Id) (cb : Nat) (w : World) (hx : RcR w x) (h0 : w.cell? ⟨cb, 0, none⟩ = some (.int .i64 a.1)) (h1 : w.cell? ⟨cb, 1, none⟩ = some (.int .i64 a.2)) :
    Calls Try.prog 136 #[recV x, .pointer (some ⟨cb, 0, none⟩)] w fun e w' => ∃ v, e = .returned v ∧ Rw w' 2 v (idl (if a ∈ x.2.2.2.2.1 then [x.1] else [])) ∧ Below w.heap.size w w' := by
  obtain ⟨⟨x0, x1⟩, x2, dv, bv, D, Bt⟩ := x
  obtain ⟨d1, d2, d3, hdv, _⟩ := hx.d.form
  obtain ⟨b1, b2, b3, hbv, _⟩ := hx.b.form
  have hD := hx.d
  simp only at hdv hbv hD
  subst hdv hbv
  clear hx
  have cl := World.block_lt_of_cell? _ _ h0
  obtain ⟨H1, l1, k1, y⟩ := (St.start w).box #[.int .i64 x0, .int .i64 x1, .int .i64 x2, .slice d1 d2 d3, .slice b1 b2 b3] 32
  have y0 := y 0 _ rfl
  have y1 := y 1 _ rfl
  have y2 := y 2 _ rfl
  clear y
  have bel1 := boxBelow w (.cells #[.int .i64 x0, .int .i64 x1, .int .i64 x2, .slice d1 d2 d3, .slice b1 b2 b3] 32)
  have hH := identHas_any (.slice d1 d2 d3) D a _ (hD.alloc (.cells #[.int .i64 x0, .int .i64 x1, .int .i64 x2, .slice d1 d2 d3, .slice b1 b2 b3] 32))
  by_cases hm : a ∈ D
  · rw [decide_eq_true hm] at hH
    replace hH := Lib.hid hH
    have hif : (if a ∈ D then [((x0, x1) : Id)] else []) = [(x0, x1)] := if_pos hm
    simp only [hif]
    clear hm hif
    go_enter Try.func136, Try.ntmps136
    go_wp2_with fail
    refine hH.out.mono ?_
    rintro e w2 ⟨rfl, hb2⟩
    have hw2 := bel1.trans (hb2.mono (by simp))
    have k2 := k1.below hb2
    have v0 := k2.cell y0
    have v1 := k2.cell y1
    have vl := World.block_lt_of_cell? _ _ v0
    have r3 := (St.start w2).row_lit 28 2 1 #[.int .i64 x0, .int .i64 x1] rfl (by decide)
    go_wp2_with fail
    go_ret
    exact ⟨_, rfl, r3.row_rw (by omega), hw2.trans ((boxBelow w2 _).mono hw2.size)⟩
  · rw [decide_eq_false hm] at hH
    replace hH := Lib.hid hH
    have hif : (if a ∈ D then [((x0, x1) : Id)] else []) = [] := if_neg hm
    simp only [hif]
    clear hm hif
    go_enter Try.func136, Try.ntmps136
    go_wp2_with fail
    refine hH.out.mono ?_
    rintro e w2 ⟨rfl, hb2⟩
    have hw2 := bel1.trans (hb2.mono (by simp))
    go_wp2_with fail
    go_ret
    exact ⟨_, rfl, Rw.nil _ _, hw2⟩
set_option maxRecDepth 100000 in
theorem grUsers_nil (a : Id) (w : World) : Calls Try.prog 109 #[.pointer none, idV a] w fun e w' => e = .returned (.slice none 0 0) ∧ Below w.heap.size w w' := by
  have hb := boxBelow w (.cells #[.int .i64 a.1, .int .i64 a.2] 28)
  have hmf : ∀ (fn : Fn) (first cap : Array Value) (w : World), (Instr.makeFunc fn first cap).run Try.prog w = .ok (.func fn first cap) w := fun _ _ _ _ => rfl
  go_enter Try.func109, Try.ntmps109
  go_wp2_with fail
  refine (gathered_nil _ _).mono ?_
  rintro e w2 ⟨rfl, rfl⟩
  go_wp2_with fail
  go_ret
  exact ⟨rfl, hb⟩
set_option maxRecDepth 100000 in
set_option maxHeartbeats 1600000 in
theorem grUsers_any (p : Nat) (L : List Rc) (a : Id) (H : Hp) (fr : List HA) (w : World) (h : St H (GrA p L :: fr) w) (hLd : ∀ x ∈ L, RcD H x) (hLl : L.length ≤ 1000000) :
    Calls Try.prog 109 #[grP p, idV a] w (Told H p L fr (fun x => if a ∈ x.2.2.2.2.1 then [x.1] else []) w) := by
  have hmf : ∀ (fn : Fn) (first cap : Array Value) (w : World), (Instr.makeFunc fn first cap).run Try.prog w = .ok (.func fn first cap) w := fun _ _ _ _ => rfl
  obtain ⟨H1, l1, h1, y⟩ := h.box #[.int .i64 a.1, .int .i64 a.2] 28
  have y0 := y 0 _ rfl
  have y1 := y 1 _ rfl
  clear y
  have en1 := (Env.refl w).alloc (.cells #[.int .i64 a.1, .int .i64 a.2] 28)
  have hG := gathered_any p L (fun x => if a ∈ x.2.2.2.2.1 then [x.1] else []) 136 #[.pointer (some ⟨w.heap.size, 0, none⟩)] H1 fr _ h1 (fun x hx => (hLd x hx).mono l1) (fun x _ => by split <;> simp) hLl (enters_of Try.func136 (by kernel_rfl) rfl) (fun x hx fr' w' h' => users1_any x a w.heap.size w' (((hLd x hx).mono l1).rw h') (h'.cell y0) (h'.cell y1))
  replace hG := Lib.hid hG
  go_enter Try.func109, Try.ntmps109
  go_wp2_with fail
  refine hG.out.mono ?_
  rintro e w2 ⟨v, R, rfl, h2, en2, hr, hm⟩
  go_wp2_with fail
  go_ret
  exact ⟨v, R, rfl, h2.weaken l1, en1.trans en2, hr, hm⟩
theorem filt_step (K : List Id) (D : List Id) (k : Nat) (h : k < D.length) : (D.take (k + 1)).filter (fun d => decide (d ∉ K)) = (D.take k).filter (fun d => decide (d ∉ K)) ++ (if D[k] ∈ K then [] else [D[k]]) := by
  rw [List.take_add_one, List.getElem?_eq_getElem h, List.filter_append]
  by_cases hk : D[k] ∈ K <;> simp [hk]
set_option maxRecDepth 100000 in
set_option maxHeartbeats 3200000 in
theorem missing1_any (x : Rc) (p : Nat) (L : List Rc) (cb : Nat) (H : Hp) (fr : List HA) (w : World) (h : St H (GrA p L :: fr) w) (hLd : ∀ x ∈ L, RcD H x) (hx : RcR w x) (hl16 : x.2.2.2.2.1.length ≤ 16) (h0 : w.cell? ⟨cb, 0, none⟩ = some (grP p)) :
    Calls Try.prog 135 #[recV x, .pointer (some ⟨cb, 0, none⟩)] w fun e w' => ∃ v, e = .returned v ∧ Rw w' 2 v (idl (x.2.2.2.2.1.filter (fun d => decide (d ∉ rids L)))) ∧ Below w.heap.size w w' := by
  obtain ⟨⟨x0, x1⟩, x2, dv, bv, D, Bt⟩ := x
  obtain ⟨d1, d2, d3, hdv, hd4, hd5, hd6⟩ := hx.d.form
  obtain ⟨b1, b2, b3, hbv, _⟩ := hx.b.form
  have hD := hx.d.rd
  simp only at hdv hbv hD hd4 hl16 ⊢
  subst hdv hbv
  rw [idl_len] at hd4
  obtain rfl : d2 = D.length := by omega
  clear hx
  have cl := World.block_lt_of_cell? _ _ h0
  have hHas := fun w' a (hb : Below w.heap.size w w') => grHas_any p L a H fr w' hLd (h.below hb)
  generalize rids L = K at *
  replace hHas := Lib.hid hHas
  obtain ⟨H1, l1, k1, y⟩ := (St.start w).box #[.int .i64 x0, .int .i64 x1, .int .i64 x2, .slice d1 D.length d3, .slice b1 b2 b3] 32
  have y2 := y 3 _ rfl
  clear y
  have en1 := (Env.refl w).alloc (.cells #[.int .i64 x0, .int .i64 x1, .int .i64 x2, .slice d1 D.length d3, .slice b1 b2 b3] 32)
  have c3 := k1.cell y2
  have c3l := World.block_lt_of_cell? _ _ c3
  go_enter Try.func135, Try.ntmps135
  go_wp2_with fail
  have k2 := k1.row_nil 28 2
  go_loopw [4, 10] (fun lv i wr => ∃ k : Nat, k ≤ D.length ∧ i = .int .i64 (k : Int) ∧ St (snap w) (Row 28 2 lv (idl ((D.take k).filter (fun d => decide (d ∉ K)))) :: []) wr ∧ Env w wr) (fun _ i _ => D.length - (intOf i).toNat)
  case atStart => exact ⟨0, by omega, by go_num, k2.weaken l1, en1⟩
  case round =>
    clear k1 k2 en1 c3 c3l
    obtain ⟨k, hk, rfl, hst, hen⟩ := hrel
    have hfl : ((D.take k).filter (fun d => decide (d ∉ K))).length ≤ 16 := Nat.le_trans (List.length_filter_le ..) (by rw [List.length_take]; omega)
    by_cases hlt : k < D.length
    · obtain ⟨b, off, hA, hcr⟩ := (hD.rw hst).cells (by omega)
      cases hA
      have p1 := hcr _ _ (idl_fst D k hlt)
      have p2 := hcr _ _ (idl_snd D k hlt)
      rw [← Nat.add_assoc] at p2
      clear hcr
      have pl := World.block_lt_of_cell? _ _ p1
      have hfs := filt_step K D k hlt
      generalize (D.take k).filter (fun d => decide (d ∉ K)) = out at *
      generalize D[k] = d at *
      obtain ⟨r, s⟩ := d
      simp only at p1 p2
      obtain ⟨H2, l2, h2, y⟩ := hst.box #[.int .i64 r, .int .i64 s] 28
      have z0 := y 0 _ rfl
      have z1 := y 1 _ rfl
      clear y
      have en2 := hen.alloc (.cells #[.int .i64 r, .int .i64 s] 28)
      have hb2 := (h2.weaken l2).drop.toBelow en2
      have u0 := h2.cell z0
      have u1 := h2.cell z1
      have ul := World.block_lt_of_cell? _ _ u0
      have g0 := (hb2.cell (p := ⟨cb, 0, none⟩) cl).trans h0
      have gl := World.block_lt_of_cell? _ _ g0
      have hC := hHas.out _ (r, s) hb2
      have hni : Hid (∀ q : Nat, q = q) := Lib.hid (fun _ => rfl)
      by_cases hm : ((r, s) : Id) ∈ K
      · rw [decide_eq_true hm] at hC
        rw [if_pos hm, List.append_nil] at hfs
        replace hC := Lib.hid hC
        replace hfs := Lib.hid hfs
        clear hm
        go_wp2_with fail
        generalize wr.heap.size = gb at *
        generalize wr.alloc (.cells #[.int .i64 r, .int .i64 s] 28) = W at *
        refine hC.out.mono ?_
        rintro e w4 ⟨rfl, hb4⟩
        go_wp2_with fail
        go_roundw
        case rel => exact ⟨k + 1, by omega, by go_num, by rw [hfs.out]; exact (h2.below hb4).weaken l2, en2.trans (bel_env hb4)⟩
        case measure => simp [intOf]; omega
      · rw [decide_eq_false hm] at hC
        rw [if_neg hm] at hfs
        replace hC := Lib.hid hC
        replace hfs := Lib.hid hfs
        clear hm
        go_wp2_with fail
        generalize wr.heap.size = gb at *
        generalize wr.alloc (.cells #[.int .i64 r, .int .i64 s] 28) = W at *
        refine hC.out.mono ?_
        rintro e w4 ⟨rfl, hb4⟩
        have h4 := h2.below hb4
        have en4 := en2.trans (bel_env hb4)
        clear u0 u1 ul p1 p2 pl g0 gl
        have u0 := h4.cell z0
        have u1 := h4.cell z1
        have ul := World.block_lt_of_cell? _ _ u0
        go_wp2_with (at_builtin; refine wpList_append rfl (.tmp 18) (.tmp 20) 29 29 rfl Try.underlying29 (.inl ⟨_, Try.underlying29⟩) (.agg #[.int .i64 0, .int .i64 0]) 16 info_id rfl (by decide) (by decide) rfl rfl (h4.alloc _) (News.new w4 _ 1 #[.int .i64 r, .int .i64 s] rfl (by simp [Value.oneCell'])) ?apB1 ?apK1)
        try case apB1 => first | omega | (simp; omega) | (simp [idl_len]; omega) | skip
        intro v' w9 h9 en9
        go_wp2_with fail
        go_roundw
        case rel => exact ⟨k + 1, by omega, by go_num, by rw [hfs.out, idl_append]; exact h9.weaken l2, (en4.alloc _).trans en9⟩
        case measure => simp [intOf]; omega
    · obtain rfl : k = D.length := by omega
      rw [List.take_length] at hst hfl
      go_wp2_with fail
      go_ret
      exact ⟨_, rfl, hst.row_rw (by omega), hst.drop.toBelow hen⟩
set_option maxRecDepth 100000 in
theorem grMissing_nil (w : World) : Calls Try.prog 107 #[.pointer none] w fun e w' => e = .returned (.slice none 0 0) ∧ Below w.heap.size w w' := by
  have hb := boxBelow w (.cells #[.pointer none] 33)
  have hmf : ∀ (fn : Fn) (first cap : Array Value) (w : World), (Instr.makeFunc fn first cap).run Try.prog w = .ok (.func fn first cap) w := fun _ _ _ _ => rfl
  go_enter Try.func107, Try.ntmps107
  go_wp2_with fail
  refine (gathered_nil _ _).mono ?_
  rintro e w2 ⟨rfl, rfl⟩
  go_wp2_with fail
  go_ret
  exact ⟨rfl, hb⟩
set_option maxRecDepth 100000 in
set_option maxHeartbeats 1600000 in
theorem grMissing_any (p : Nat) (L : List Rc) (H : Hp) (fr : List HA) (w : World) (h : St H (GrA p L :: fr) w) (hLd : ∀ x ∈ L, RcD H x) (hl16 : ∀ x ∈ L, x.2.2.2.2.1.length ≤ 16) (hLl : L.length ≤ 1000000) :
    Calls Try.prog 107 #[grP p] w (Told H p L fr (fun x => x.2.2.2.2.1.filter (fun d => decide (d ∉ rids L))) w) := by
  have hmf : ∀ (fn : Fn) (first cap : Array Value) (w : World), (Instr.makeFunc fn first cap).run Try.prog w = .ok (.func fn first cap) w := fun _ _ _ _ => rfl
  obtain ⟨H1, l1, h1, y⟩ := h.box #[grP p] 33
  have y0 := y 0 _ rfl
  clear y
  have en1 := (Env.refl w).alloc (.cells #[grP p] 33)
  have u0 := h1.cell y0
  have ul := World.block_lt_of_cell? _ _ u0
  have hG := gathered_any p L (fun x => x.2.2.2.2.1.filter (fun d => decide (d ∉ rids L))) 135 #[.pointer (some ⟨w.heap.size, 0, none⟩)] H1 fr _ h1 (fun x hx => (hLd x hx).mono l1) (fun x hx => Nat.le_trans (List.length_filter_le ..) (hl16 x hx)) hLl (enters_of Try.func135 (by kernel_rfl) rfl) (fun x hx fr' w' h' => missing1_any x p L w.heap.size H1 fr' w' h' (fun z hz => (hLd z hz).mono l1) (((hLd x hx).mono l1).rw h') (hl16 x hx) (h'.cell y0))
  replace hG := Lib.hid hG
  go_enter Try.func107, Try.ntmps107
  go_wp2_with fail
  refine hG.out.mono ?_
  rintro e w2 ⟨v, R, rfl, h2, en2, hr, hm⟩
  go_wp2_with fail
  go_ret
  exact ⟨v, R, rfl, h2.weaken l1, en1.trans en2, hr, hm⟩
end Go.Proofs.Ytelmhcbdpimaaaa
