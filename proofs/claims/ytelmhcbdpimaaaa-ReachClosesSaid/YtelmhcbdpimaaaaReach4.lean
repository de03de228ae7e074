/- What some ids reach: Path, Whole. -/
import Derived.Test.YtelmhcbdpimaaaaReach3
set_option linter.unusedVariables false
set_option linter.unusedSimpArgs false
namespace Go.Proofs.Ytelmhcbdpimaaaa
open Go.RowKit Go.Cw Go.Fl
attribute [local go_sem ↓] eql_id neq_id
attribute [local go_sem] Oper.semAt_some
attribute [local go_sem] wide_fn wide_fnR wide_dp wide_dpR wide_rd wide_rdR
def PathE (g : Nat) (b : Id) (pre : List Id) : HA := Pu (b ∉ pre) (Blk g #[.bool false] 4)
def PathX (g : Nat) (b : Id) (c : Go.Code) (pre : List Id) : HA := Pu (c = .exit 0 ∧ b ∈ pre) (Blk g #[.bool true] 4)
/-- What a question about what is reached tells. -/
def AskR (B : Bool) (G : HA) (H : Hp) (fr : List HA) (w : World) (e : Ending) (w' : World) : Prop := ∃ H', e = .returned (.bool B) ∧ Hp.le H H' ∧ St H' (G :: fr) w' ∧ Env w w'
open Classical in
set_option maxRecDepth 100000 in
set_option maxHeartbeats 4000000 in
theorem path_any (ga : Option Addr) (G : HA) (deps : Id → List Id) (a b : Id) (U : List Id) (H : Hp) (fr : List HA) (w : World) (h : St H (G :: fr) w)
    (hU : ∀ x, Rch deps [a] x → x ∈ U) (hUl : U.length ≤ 100000) (hd16 : ∀ a, (deps a).length ≤ 16) (hR : RecOf (.pointer ga) G deps H) :
    Calls Try.prog 38 #[.pointer ga, idV a, idV b] w (AskR (decide (Rch deps [a] b)) G H fr w) := by
  obtain ⟨H1, l1, h1, y1⟩ := h.box #[.int .i64 a.1, .int .i64 a.2] 28
  obtain ⟨H2, l2, h2, y2⟩ := h1.box #[.int .i64 b.1, .int .i64 b.2] 28
  rw [World.size_alloc] at y2
  have a0 := Hp.cell_le l2 (y1 0 _ rfl)
  have a1 := Hp.cell_le l2 (y1 1 _ rfl)
  have b0 := y2 0 _ rfl
  have b1 := y2 1 _ rfl
  have en2 := ((Env.refl w).alloc (.cells #[.int .i64 a.1, .int .i64 a.2] 28)).alloc (.cells #[.int .i64 b.1, .int .i64 b.2] 28)
  have h3 := h2.blk #[.bool false] 4
  have en3 := en2.alloc (.cells #[.bool false] 4)
  rw [World.size_alloc, World.size_alloc] at h3
  have h4 := h3.row_lit 28 2 1 #[.int .i64 a.1, .int .i64 a.2] rfl (by decide)
  have en4 := en3.alloc (.cells #[.int .i64 a.1, .int .i64 a.2] 28)
  rw [World.size_alloc, World.size_alloc, World.size_alloc] at h4
  obtain ⟨H3, l3, h5, hrd⟩ := h4.row_keep
  replace hrd : Rd H3 2 _ (idl [a]) := hrd
  have hE := Lib.hid (each_any ga (some ⟨w.heap.size + 1 + 1 + 1, 0, none⟩) 1 1 H3 _ _ h5)
  replace a0 := Hp.cell_le l3 a0
  replace a1 := Hp.cell_le l3 a1
  replace b0 := Hp.cell_le l3 b0
  replace b1 := Hp.cell_le l3 b1
  have l13 := Hp.le_trans l1 (Hp.le_trans l2 l3)
  clear h1 h2 h3 h4 y1 y2 en2 en3 h l1 l2 l3
  have hfin : ∀ (B : Bool) (H' : Hp) (w' : World), (B = true ↔ Rch deps [a] b) → Hp.le H H' → St H' (G :: fr) w' → Env w w' → AskR (decide (Rch deps [a] b)) G H fr w (.returned (.bool B)) w' := fun B H' w' h1 h2 h3 h4 => ⟨H', by
    have : B = decide (Rch deps [a] b) := by cases B <;> simp_all
    rw [this], h2, h3, h4⟩
  generalize AskR (decide (Rch deps [a] b)) G H fr w = Q at *
  replace hfin := Lib.hid hfin
  obtain ⟨ar, az⟩ := a
  obtain ⟨br, bz⟩ := b
  simp only at a0 a1 b0 b1 en4 h5 hE
  have v0 := h5.cell a0
  have v1 := h5.cell a1
  have vl := World.block_lt_of_cell? _ _ v0
  refine (callsIn_wide (n := 0)).1 (callsIn_of_wp_marks Try.func38 rfl trivial (wpIn_wide.2 ?_) rfl)
  simp only [Try.ntmps38, List.size_toArray, List.length_cons, List.length_nil, Nat.reduceAdd, Nat.reduceSub, Array.replicate_succ, Array.replicate_zero, List.push_toArray, List.append_toArray, List.nil_append, List.cons_append]
  go_wp2_with fail
  go_step3
  go_wp2_with fail
  go_step3
  go_wp2_with fail
  refine hE.out.mono ?_
  rintro e w2 ⟨cl, cg, H4, rfl, l4, h6, en6, ccl, ccg⟩
  replace en6 := en4.trans en6
  clear hE h5 en4 v0 v1 vl
  generalize w.heap.size + 1 + 1 = gf at *
  generalize w.heap.size = g0 at *
  go_wp2_with fail
  have h7 : St H4 (G :: PathE gf (br, bz) [] :: fr) w2 := (St.shutPu (by simp) h6).swap
  have l14 := Hp.le_trans l13 l4
  refine wpIn_wide.1 (wpIn_each (n := 0) (.pointer ga) G deps [(ar, az)] U cg cl _ (PathE gf (br, bz)) (PathX gf (br, bz)) H4 fr hU hUl (by simp) hd16 (fun x H' fr' w' hl h' => hR x H' fr' w' (Hp.le_trans l14 hl) h') ccl (hrd.mono l4) ccg ⟨ga, rfl⟩ h7 rfl rfl ?body ?done ?stop)
  case body =>
    intro l pre x H2 fr1 W l2 hrx hx hnd hpre hst
    obtain ⟨H3, l3, h4, y⟩ := hst.box #[.int .i64 x.1, .int .i64 x.2] 28
    have y0 := y 0 _ rfl
    have y1 := y 1 _ rfl
    have en4 := (Env.refl W).alloc (.cells #[.int .i64 x.1, .int .i64 x.2] 28)
    have l34 := Hp.le_trans l4 (Hp.le_trans l2 l3)
    gi_wp2_with fail
    refine ⟨H3, l3, en4, h4, ?_⟩
    intro fr2 W2 h5
    have c0 := h5.cell y0
    have c1 := h5.cell y1
    have cl0 := World.block_lt_of_cell? _ _ c0
    have d0 := h5.cell (Hp.cell_le l34 b0)
    have d1 := h5.cell (Hp.cell_le l34 b1)
    have dl := World.block_lt_of_cell? _ _ d0
    obtain ⟨hnb, h6⟩ := h5.swap.openPu
    have f0 : W2.cell? ⟨gf, 0, none⟩ = some (.bool false) := h6.blk_cell 0
    have ff := h6.blk_free 0
    have fl := h6.blk_lt
    clear hR hU hd16 hrd ccl ccg
    by_cases hxb : x = (br, bz)
    · have he : idEq x.1 x.2 br bz = true := by subst hxb; simp [idEq]
      have hz : LeftR G (PathE gf (br, bz)) (PathX gf (br, bz)) H3 fr2 (pre ++ [x]) W2 (.exit 0) { tmps := #[], defers := [] } (W2.setCell ⟨gf, 0, none⟩ (.bool true)) := ⟨H3, Hp.le_refl _, (Env.refl W2).setCell _ _, (St.shutPu ⟨rfl, by rw [hxb]; simp⟩ (h6.blk_set 0 (.bool true))).swap⟩
      clear hxb hx
      gi_wp2_with fail
      exact hz
    · have he : idEq x.1 x.2 br bz = false := idEq_no hxb
      have hz : LeftR G (PathE gf (br, bz)) (PathX gf (br, bz)) H3 fr2 (pre ++ [x]) W2 .normal { tmps := #[], defers := [] } W2 := ⟨H3, Hp.le_refl _, Env.refl W2, (St.shutPu (by simp [hnb]; exact fun e => hxb e.symm) h6).swap⟩
      clear hxb hx
      gi_wp2_with fail
      exact hz
  case done =>
    intro xs d H2 fr' W l2 hnd hall hst en3
    obtain ⟨hnb, h6⟩ := (hst.pick 2 (by simp)).openPu
    have f0 : W.cell? ⟨gf, 0, none⟩ = some (.bool false) := h6.blk_cell 0
    have fl := h6.blk_lt
    have h9 : St H2 (Ob d (.deferred (some [])) :: Blk gf #[.bool false] 4 :: G :: fr) W := h6.swap
    have hK := h9.ob_heap
    have hz := Lib.hid (hfin.out false H2 _ (by simp; rw [← hall]; exact hnb) (Hp.le_trans l14 l2) ((h9.ob_put (.deferred none)).drop.drop) ((en6.trans en3).putObj d (.deferred none)))
    clear hR hU hd16 hrd ccl ccg hall hnb
    go_wp2_with fail
    refine ⟨by simp, .inl ⟨_, _, rfl, run_takeDeferred hK, ?_⟩⟩
    refine ⟨_, results_tmp rfl _ _ _, ?_⟩
    exact hz.out
  case stop =>
    intro xs c d H2 W l2 hall hst en3
    obtain ⟨⟨rfl, hin⟩, h6⟩ := (hst.pick 2 (by simp)).openPu
    have f0 : W.cell? ⟨gf, 0, none⟩ = some (.bool true) := h6.blk_cell 0
    have fl := h6.blk_lt
    have h9 : St H2 (Ob d (.deferred (some [])) :: Blk gf #[.bool true] 4 :: G :: fr) W := h6.swap
    have hK := h9.ob_heap
    have hz := Lib.hid (hfin.out true H2 _ (by simp; exact hall _ hin) (Hp.le_trans l14 l2) ((h9.ob_put (.deferred none)).drop.drop) ((en6.trans en3).putObj d (.deferred none)))
    clear hR hU hd16 hrd ccl ccg hall hin
    refine wpIn_wide.2 ?_
    go_wp2_with fail
    refine ⟨by simp, .inl ⟨_, _, rfl, run_takeDeferred hK, ?_⟩⟩
    refine ⟨_, results_tmp rfl _ _ _, ?_⟩
    exact hz.out
theorem results_cell1 {fn : Func} {p : Tmp} {ty : TypeId} (h : fn.results = #[.cell p ty]) (tmps : Array Value) (P : Program) (w : World) :
    (results fn tmps).run P w = ((asAddr (tmps.getD p undef)).run P w).andThen fun a w₁ => (loadVar ty a).run P w₁ := by
  simp only [results, h]
  simp [Sem.run_bind, Result.andThen]
def WholeE (gr s : Nat) (src : List Id) (ok : Id → Bool) (pre : List Id) : HA := Pu (∀ a ∈ pre, ok a = true) (Star (Blk gr #[.bool false] 4) (SetA s (dedup src)))
def WholeX (gr s : Nat) (src : List Id) (ok : Id → Bool) (c : Go.Code) (pre : List Id) : HA := Pu (c = .ret ∧ ∃ a ∈ pre, ok a = false) (Star (Blk gr #[.bool false] 4) (SetA s (dedup src)))
theorem dedup_mem16 (l : List Id) (b : Id) : b ∈ dedup l ↔ b ∈ l := by
  have : ∀ (l acc : List Id), b ∈ l.foldl (fun L a => addL a L) acc ↔ b ∈ acc ∨ b ∈ l := by
    intro l
    induction l with
    | nil => simp
    | cons x r ih =>
      intro acc
      rw [List.foldl_cons, ih]
      unfold addL
      by_cases h : x ∈ acc
      · rw [if_pos h]
        simp only [List.mem_cons]
        constructor
        · rintro (h1 | h1)
          · exact .inl h1
          · exact .inr (.inr h1)
        · rintro (h1 | rfl | h1)
          · exact .inl h1
          · exact .inl h
          · exact .inr h1
      · rw [if_neg h]
        simp only [List.mem_append, List.mem_cons, List.not_mem_nil, or_false, or_assoc]
  simpa [dedup] using this l []
open Classical in
set_option maxRecDepth 100000 in
set_option maxHeartbeats 4000000 in
theorem whole_any (ga : Option Addr) (G : HA) (deps : Id → List Id) (src : List Id) (inG : Id → Bool) (U : List Id) (sv : Value) (H : Hp) (fr : List HA) (w : World) (h : St H (G :: fr) w)
    (hU : ∀ x, Rch deps src x → x ∈ U) (hUl : U.length ≤ 100000) (hsl : src.length ≤ 100000) (hd16 : ∀ a, (deps a).length ≤ 16) (hR : RecOf (.pointer ga) G deps H) (hsv : Rd H 2 sv (idl src))
    (hH : ∀ (x : Id) (H' : Hp) (fr : List HA) (w : World), Hp.le H H' → St H' (G :: fr) w → Calls Try.prog 79 #[.pointer ga, idV x] w fun e w' => e = .returned (.bool (inG x)) ∧ Below w.heap.size w w') :
    Calls Try.prog 33 #[.pointer ga, sv] w (AskR (decide (∀ a, Rch deps src a → inG a = true ∧ a ∈ src)) G H fr w) := by
  obtain ⟨sA, sn, sc, rfl, hsn, hsc, _⟩ := hsv.form
  obtain ⟨H1, l1, h1, y1⟩ := h.box #[.pointer ga] 33
  have g0 := y1 0 _ rfl
  have en1 := (Env.refl w).alloc (.cells #[.pointer ga] 33)
  have h2 := h1.blk #[.bool false] 4
  have en2 := en1.alloc (.cells #[.bool false] 4)
  rw [World.size_alloc] at h2
  have hN := Lib.hid (setNew_any (.slice sA sn sc) src _ ((hsv.mono l1).rw h2))
  clear h1 y1 en1 h
  have hfin : ∀ (B : Bool) (H' : Hp) (w' : World), (B = true ↔ ∀ a, Rch deps src a → inG a = true ∧ a ∈ src) → Hp.le H H' → St H' (G :: fr) w' → Env w w' → AskR (decide (∀ a, Rch deps src a → inG a = true ∧ a ∈ src)) G H fr w (.returned (.bool B)) w' := fun B H' w' h1 h2 h3 h4 => ⟨H', by
    have : B = decide (∀ a, Rch deps src a → inG a = true ∧ a ∈ src) := by
      cases B with
      | true => rw [decide_eq_true (h1.1 rfl)]
      | false => rw [decide_eq_false (fun h => by have := h1.2 h; cases this)]
    rw [this], h2, h3, h4⟩
  generalize AskR (decide (∀ a, Rch deps src a → inG a = true ∧ a ∈ src)) G H fr w = Q at *
  obtain ⟨ok, hok⟩ : ∃ ok : Id → Bool, ∀ a, ok a = (inG a && decide (a ∈ dedup src)) := ⟨fun a => inG a && decide (a ∈ dedup src), fun _ => rfl⟩
  have hok1 : ∀ a, ok a = true ↔ (inG a = true ∧ a ∈ src) := fun a => by rw [hok, Bool.and_eq_true, decide_eq_true_eq, dedup_mem16]
  have hk1 : ∀ a, inG a = false → ok a = false := fun a h => by rw [hok, h]; rfl
  have hk2 : ∀ a, decide (a ∈ dedup src) = false → ok a = false := fun a h => by rw [hok, h, Bool.and_false]
  have hk3 : ∀ a, inG a = true → decide (a ∈ dedup src) = true → ok a = true := fun a h h' => by rw [hok, h, h']; rfl
  replace hfin := Lib.hid hfin
  replace hok1 := Lib.hid hok1
  replace hk1 := Lib.hid hk1
  replace hk2 := Lib.hid hk2
  replace hk3 := Lib.hid hk3
  replace hH := Lib.hid hH
  clear hok
  refine (callsIn_wide (n := 0)).1 (callsIn_of_wp_marks Try.func33 rfl trivial (wpIn_wide.2 ?_) rfl)
  simp only [Try.ntmps33, List.size_toArray, List.length_cons, List.length_nil, Nat.reduceAdd, Nat.reduceSub, Array.replicate_succ, Array.replicate_zero, List.push_toArray, List.append_toArray, List.nil_append, List.cons_append]
  go_wp2_with fail
  refine hN.out.mono ?_
  rintro e w3 he
  obtain ⟨s, rfl, h3, en3⟩ := ResE.lift h2 he
  replace en3 := en2.trans en3
  clear he hN h2 en2
  obtain ⟨H2, l2, h4, y2⟩ := St.box h3 #[setP s] 110
  have s0 := y2 0 _ rfl
  have en4 := en3.alloc (.cells #[setP s] 110)
  have hE := Lib.hid (each_any ga sA sn sc H2 _ _ h4)
  have v0 := h4.cell (Hp.cell_le l2 g0)
  have vl := World.block_lt_of_cell? _ _ v0
  clear y2 h3 en3
  go_wp2_with fail
  refine hE.out.mono ?_
  rintro e w5 ⟨cl, cg, H4, rfl, l4, h6, en6, ccl, ccg⟩
  replace en6 := en4.trans en6
  clear hE h4 en4 v0 vl
  replace g0 := Hp.cell_le l4 (Hp.cell_le l2 g0)
  replace s0 := Hp.cell_le l4 s0
  have l14 := Hp.le_trans l1 (Hp.le_trans l2 l4)
  generalize w3.heap.size = gs at *
  generalize w.heap.size + 1 = gr at *
  generalize w.heap.size = gg at *
  go_wp2_with fail
  have h7 : St H4 (G :: WholeE gr s src ok [] :: fr) w5 := (St.shutPu (by simp) (St.shutStar h6.swap)).swap
  refine wpIn_wide.1 (wpIn_each (n := 0) (.pointer ga) G deps src U cg cl _ (WholeE gr s src ok) (WholeX gr s src ok) H4 fr hU hUl hsl hd16 (fun x H' fr' w' hl h' => hR x H' fr' w' (Hp.le_trans l14 hl) h') ccl (hsv.mono l14) ccg ⟨ga, rfl⟩ h7 rfl rfl ?body ?done ?stop)
  case body =>
    intro l pre x H2 fr1 W l2 hrx hx hnd hpre hst
    obtain ⟨H3, l3, h4, y⟩ := hst.box #[.int .i64 x.1, .int .i64 x.2] 28
    have y0 := y 0 _ rfl
    have y1 := y 1 _ rfl
    have en4 := (Env.refl W).alloc (.cells #[.int .i64 x.1, .int .i64 x.2] 28)
    have l34 := Hp.le_trans l2 l3
    gi_wp2_with fail
    refine ⟨H3, l3, en4, h4, ?_⟩
    intro fr2 W2 h5
    have c0 := h5.cell y0
    have c1 := h5.cell y1
    have cl0 := World.block_lt_of_cell? _ _ c0
    have d0 := h5.cell (Hp.cell_le l34 g0)
    have dl := World.block_lt_of_cell? _ _ d0
    have hHx := Lib.hid (hH.out x H3 _ W2 (Hp.le_trans l14 l34) h5)
    clear hR hU hd16 ccl ccg hH
    gi_wp2_with fail
    refine (calls_in _ hHx.out).mono ?_
    rintro e W3 ⟨rfl, hb3⟩
    have h6 := h5.below hb3
    clear c0 c1 cl0 d0 dl hHx
    obtain ⟨hall, h7⟩ := h6.swap.openPu
    have h8 := h7.openStar
    cases hg : inG x with
    | false =>
      have f0 : W3.cell? ⟨gr, 0, none⟩ = some (.bool false) := h8.blk_cell 0
      have ff := h8.blk_free 0
      have fl := h8.blk_lt
      have hz : LeftR G (WholeE gr s src ok) (WholeX gr s src ok) H3 fr2 (pre ++ [x]) W2 .ret { tmps := #[], defers := [] } (W3.setCell ⟨gr, 0, none⟩ (.bool false)) := ⟨H3, Hp.le_refl _, (bel_env hb3).setCell _ _, (St.shutPu ⟨rfl, x, by simp, hk1.out x hg⟩ (St.shutStar (h8.blk_set 0 (.bool false)))).swap⟩
      clear hx hall hg
      gi_wp2_with fail
      exact hz
    | true =>
      have c0 := h8.cell y0
      have c1 := h8.cell y1
      have cl0 := World.block_lt_of_cell? _ _ c0
      have d0 := h8.cell (Hp.cell_le l34 s0)
      have dl := World.block_lt_of_cell? _ _ d0
      have hOx := Lib.hid (has_any s (dedup src) x H3 _ W3 h8.swap)
      gi_wp2_with fail
      refine (calls_in _ hOx.out).mono ?_
      rintro e W4 ⟨rfl, hb4⟩
      replace h8 := h8.below hb4
      have en5 := (bel_env hb3).trans (bel_env hb4)
      have f0 : W4.cell? ⟨gr, 0, none⟩ = some (.bool false) := h8.blk_cell 0
      have ff := h8.blk_free 0
      have fl := h8.blk_lt
      clear c0 c1 cl0 d0 dl hOx
      cases hg2 : decide (x ∈ dedup src) with
      | false =>
        have hz : LeftR G (WholeE gr s src ok) (WholeX gr s src ok) H3 fr2 (pre ++ [x]) W2 .ret { tmps := #[], defers := [] } (W4.setCell ⟨gr, 0, none⟩ (.bool false)) := ⟨H3, Hp.le_refl _, en5.setCell _ _, (St.shutPu ⟨rfl, x, by simp, hk2.out x hg2⟩ (St.shutStar (h8.blk_set 0 (.bool false)))).swap⟩
        clear hx hall hg hg2
        gi_wp2_with fail
        exact hz
      | true =>
        have hz : LeftR G (WholeE gr s src ok) (WholeX gr s src ok) H3 fr2 (pre ++ [x]) W2 .normal { tmps := #[], defers := [] } W4 := ⟨H3, Hp.le_refl _, en5, (St.shutPu (by
          intro a ha
          rcases List.mem_append.1 ha with ha | ha
          · exact hall a ha
          · rw [List.mem_singleton] at ha; subst ha; exact hk3.out _ hg hg2) (St.shutStar h8)).swap⟩
        clear hx hall hg hg2
        gi_wp2_with fail
        exact hz
  case done =>
    intro xs d H2 fr' W l2 hnd hall hst en3
    obtain ⟨hin, h6⟩ := (hst.pick 2 (by simp)).openPu
    have h8 := h6.openStar
    have f0 : W.cell? ⟨gr, 0, none⟩ = some (.bool false) := h8.blk_cell 0
    have ff := h8.blk_free 0
    have fl := h8.blk_lt
    have h9 := h8.blk_set 0 (.bool true)
    have h10 : St H2 (Ob d (.deferred (some [])) :: Blk gr #[.bool true] 4 :: SetA s (dedup src) :: G :: fr) (W.setCell ⟨gr, 0, none⟩ (.bool true)) := h9.perm (List.perm_append_comm (l₁ := [_, _]) (l₂ := [Ob d (.deferred (some []))]) |>.append_right (G :: fr))
    have hK := h10.ob_heap
    have h11 := (h10.ob_put (.deferred none)).drop
    have r0 : ((W.setCell ⟨gr, 0, none⟩ (.bool true)).putObj d (.deferred none)).cell? ⟨gr, 0, none⟩ = some (.bool true) := h11.blk_cell 0
    have rl := h11.blk_lt
    have hz := Lib.hid (hfin.out true H2 _ (by simp only [true_iff]; intro a ha; exact (hok1.out a).1 (hin a ((hall a).2 ha))) (Hp.le_trans l14 l2) (h11.drop.drop) (((en6.trans en3).setCell _ _).putObj d (.deferred none)))
    clear hR hU hd16 ccl ccg hall hin
    go_wp2_with fail
    refine ⟨by simp, .inl ⟨_, _, rfl, run_takeDeferred hK, ?_⟩⟩
    refine ⟨.bool true, (results_cell1 rfl _ _ _).trans ?_, hz.out⟩
    generalize (W.setCell ⟨gr, 0, none⟩ (.bool true)).putObj d (.deferred none) = W9 at *
    go_simp
  case stop =>
    intro xs c d H2 W l2 hall hst en3
    obtain ⟨⟨rfl, x, hx, hno⟩, h6⟩ := (hst.pick 2 (by simp)).openPu
    have h8 := h6.openStar
    have h10 : St H2 (Ob d (.deferred (some [])) :: Blk gr #[.bool false] 4 :: SetA s (dedup src) :: G :: fr) W := h8.perm (List.perm_append_comm (l₁ := [_, _]) (l₂ := [Ob d (.deferred (some []))]) |>.append_right (G :: fr))
    have hK := h10.ob_heap
    have h11 := (h10.ob_put (.deferred none)).drop
    have r0 : (W.putObj d (.deferred none)).cell? ⟨gr, 0, none⟩ = some (.bool false) := h11.blk_cell 0
    have rl := h11.blk_lt
    have hz := Lib.hid (hfin.out false H2 _ (by
      constructor
      · intro h; cases h
      · intro h
        have := (hok1.out x).2 (h x (hall x hx))
        rw [this] at hno
        cases hno) (Hp.le_trans l14 l2) (h11.drop.drop) ((en6.trans en3).putObj d (.deferred none)))
    clear hR hU hd16 ccl ccg hall hx hno
    refine wpIn_wide.2 ?_
    go_wp2_with fail
    refine ⟨by simp, .inl ⟨_, _, rfl, run_takeDeferred hK, ?_⟩⟩
    refine ⟨.bool false, (results_cell1 rfl _ _ _).trans ?_, hz.out⟩
    generalize W.putObj d (.deferred none) = W9 at *
    go_simp
end Go.Proofs.Ytelmhcbdpimaaaa
