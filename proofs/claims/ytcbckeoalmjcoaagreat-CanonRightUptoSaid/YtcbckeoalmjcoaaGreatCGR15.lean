/- Joined texts: Reach, Reach2, Reach3. -/
import Derived.Test.YtcbckeoalmjcoaaGreatCGR12
import Derived.Test.YtcbckeoalmjcoaaGreatCGR13
import Derived.Test.YtcbckeoalmjcoaaGreatCGR14
/- What some ids reach, one by one: the closure that reach.each makes. -/
set_option linter.unusedVariables false
set_option linter.unusedSimpArgs false
namespace Go.Proofs.YtcbckeoalmjcoaaGreat
open Go.RowKit Go.Cw Go.Fl
attribute [local go_sem ↓] eql_id neq_id
attribute [local go_sem] Oper.semAt_some
theorem wide_fn (f : FuncId) : Fence.wide.fn f = True := rfl
theorem wide_fnR (l : Nat) (f : FuncId) : (Fence.wide.inRound l).fn f = True := rfl
theorem wide_dp : Fence.wide.depth = none := rfl
theorem wide_dpR (l : Nat) : (Fence.wide.inRound l).depth = none := rfl
theorem wide_rd : Fence.wide.round = none := rfl
theorem wide_rdR (l : Nat) : (Fence.wide.inRound l).round = some l := rfl
attribute [local go_sem] wide_fn wide_fnR wide_dp wide_dpR wide_rd wide_rdR
/-- What an iterator leaves. -/
def EachR (deps : Id → List Id) (src : List Id) (G : HA) (D Dx : List Id → HA) (H : Hp) (fr : List HA) (W : World) (e : Ending) (W' : World) : Prop :=
  (∃ v, e = .returned v) ∧ ∃ H', Hp.le H H' ∧ Env W W' ∧ ((∃ xs, xs.Nodup ∧ (∀ a, a ∈ xs ↔ Rch deps src a) ∧ St H' (G :: D xs :: fr) W') ∨ (∃ xs, (∀ a ∈ xs, Rch deps src a) ∧ St H' (G :: Dx xs :: fr) W'))
/-- What a graph's Record must tell. -/
def RecOf (gp : Value) (G : HA) (deps : Id → List Id) (H0 : Hp) : Prop := ∀ (x : Id) (H : Hp) (fr : List HA) (w : World), Hp.le H0 H → St H (G :: fr) w →
  Calls Tryz.prog 40 #[gp, idV x] w fun e w' => ∃ (H' : Hp) (y : Rc) (b : Bool), Hp.le H H' ∧ St H' (G :: fr) w' ∧ Env w w' ∧ e = .returned (.tuple #[recV y, .bool b]) ∧ RcD H' y ∧ y.2.2.2.2.1 = deps x
/-- What a round must do. -/
def RoundOf (G : HA) (deps : Id → List Id) (src : List Id) (D Dx : List Id → HA) (H0 : Hp) (n : Nat) (l : Nat) : Prop := ∀ (pre : List Id) (x : Id) (H : Hp) (fr : List HA) (W : World), Hp.le H0 H → Rch deps src x → x ∉ pre → pre.Nodup → (∀ a ∈ pre, Rch deps src a) → St H (G :: D pre :: fr) W →
  YieldAt Fence.wide n Tryz.prog l #[idV x] W fun e W' => ∃ H', Hp.le H H' ∧ Env W W' ∧ ((e = .returned (.bool true) ∧ St H' (G :: D (pre ++ [x]) :: fr) W') ∨ (e = .returned (.bool false) ∧ St H' (G :: Dx (pre ++ [x]) :: fr) W'))
theorem addL_new {x : Id} {pre : List Id} (h : x ∉ pre) : addL x pre = pre ++ [x] := by unfold addL; rw [if_neg h]
theorem addL_old {x : Id} {pre : List Id} (h : x ∈ pre) : addL x pre = pre := by unfold addL; rw [if_pos h]
set_option maxRecDepth 100000 in
set_option maxHeartbeats 8000000 in
theorem each1_any (gp : Value) (G : HA) (deps : Id → List Id) (src U : List Id) (l n cg cl : Nat) (sv : Value) (D Dx : List Id → HA) (H : Hp) (fr : List HA) (W : World)
    (hU : ∀ a, Rch deps src a → a ∈ U) (hUl : U.length ≤ 100000) (hsl : src.length ≤ 100000) (hd16 : ∀ a, (deps a).length ≤ 16) (hR : RecOf gp G deps H) (hY : RoundOf G deps src D Dx H (n - 1) l)
    (hcl : H.cell cl 0 = some sv) (hsv : Rd H 2 sv (idl src)) (hcg : H.cell cg 0 = some gp) (hgp : ∃ a, gp = .pointer a) (h : St H (G :: D [] :: fr) W) :
    CallsIn Fence.wide n Tryz.prog 103 #[.func (.yield l) #[] #[], .pointer (some ⟨cl, 0, none⟩), .pointer (some ⟨cg, 0, none⟩)] W (EachR deps src G D Dx H fr W) := by
  obtain ⟨sA, sn, sc, rfl, hsn, hsc, _⟩ := hsv.form
  rw [idl_len] at hsn
  obtain rfl : sn = src.length := by omega
  obtain ⟨ga, rfl⟩ := hgp
  have hfin : ∀ (xs : List Id) (H' : Hp) (w' : World), Hp.le H H' → Dfs deps src xs [] → St H' (G :: D xs :: fr) w' → Env W w' → EachR deps src G D Dx H fr W (.returned (.tuple #[])) w' := fun xs H' w' hl hd h' en => ⟨⟨_, rfl⟩, H', hl, en, .inl ⟨xs, hd.nd, hd.all, h'⟩⟩
  have hstop : ∀ (xs : List Id) (H' : Hp) (w' : World), Hp.le H H' → (∀ a ∈ xs, Rch deps src a) → St H' (G :: Dx xs :: fr) w' → Env W w' → EachR deps src G D Dx H fr W (.returned (.tuple #[])) w' := fun xs H' w' hl hd h' en => ⟨⟨_, rfl⟩, H', hl, en, .inr ⟨xs, hd, h'⟩⟩
  generalize EachR deps src G D Dx H fr W = Q at *
  have hNew := Lib.hid (setNew_any (.slice none 0 0) [] W (Rw.nil W 2))
  replace hU := Lib.hid hU
  replace hfin := Lib.hid hfin
  replace hstop := Lib.hid hstop
  replace hR := Lib.hid hR
  replace hY := Lib.hid hY
  replace hd16 := Lib.hid hd16
  refine callsIn_of_wp Tryz.func103 rfl trivial ?_ rfl
  simp only [Tryz.ntmps103, List.size_toArray, List.length_cons, List.length_nil, Nat.reduceAdd, Nat.reduceSub, Array.replicate_succ, Array.replicate_zero, List.push_toArray, List.append_toArray, List.nil_append, List.cons_append]
  gi_wp2_with fail
  refine (callsIn_wide.2 hNew.out).mono ?_
  rintro e w1 he
  obtain ⟨s, rfl, h1, en1⟩ := ResE.lift h he
  have h2 := h1.row_lit 41 2 0 #[] rfl (by decide)
  have en2 := en1.alloc (.cells #[] 41)
  have c1 := h2.cell hcl
  have cl' := World.block_lt_of_cell? _ _ c1
  have hnw := News.rw (P := Tryz.prog) (hsv.rw h2) (idl_one src)
  clear h1 he hNew h
  gi_wp2_with (gi_at_builtin; refine wpListIn_append rfl (.tmp 10) (.tmp 11) 35 35 rfl Tryz.underlying35 (.inl ⟨_, Tryz.underlying35⟩) (.agg #[.int .i64 0, .int .i64 0]) 16 info_id rfl (by decide) (by decide) rfl rfl h2 hnw ?apB ?apK)
  case apB => simp [idl_len]; omega
  case apK =>
    intro lv w3 h3 en3
    replace en3 := en2.trans en3
    replace h3 : St H (Row 41 2 lv (idl src) :: SetA s [] :: G :: D [] :: fr) w3 := h3
    clear h2 en2 c1 cl' hnw
    gi_wp2_with fail
    gi_loopg [5] (U.length * 17 + src.length) (fun q s5 wr => ∃ (pre left : List Id) (H' : Hp), q = (U.length - pre.length) * 17 + left.length ∧ Hp.le H H' ∧ Hid (Dfs deps src pre left) ∧ left.length ≤ src.length + 16 * pre.length ∧ St H' (Row 41 2 s5 (idl left) :: SetA s pre :: G :: D pre :: fr) wr ∧ Env W wr)
    case atStart => exact ⟨[], src, H, by simp, Hp.le_refl _, Lib.hid (Dfs.start _ _), by simp, h3, en3⟩
    case round =>
      clear h3 en3
      obtain ⟨pre, left, H1, hq, l1, HD, hll, hst, hen⟩ := hrel
      have hpl := HD.out.len hU.out
      obtain ⟨A, m1, c, rfl, hm1, hmc, hmx⟩ := hst.row_form
      rw [idl_len] at hm1
      obtain rfl : m1 = left.length := by omega
      clear hm1
      rcases List.eq_nil_or_concat left with rfl | ⟨l0, x, rfl⟩
      · have hz := Lib.hid (hfin.out pre H1 _ l1 HD.out hst.drop.drop hen)
        gi_wp2_with fail
        go_end0
        exact hz.out
      · simp only [List.concat_eq_append] at *
        have hlen : (l0 ++ [x]).length = l0.length + 1 := by simp
        rw [hlen] at hst hmc hll hq
        obtain ⟨b, off, hA, hcr⟩ := (hst.row_rw (by decide)).cells (by omega)
        cases hA
        have q0 := hcr _ _ (idl_fst (l0 ++ [x]) l0.length (by simp))
        have q1 := hcr _ _ (idl_snd (l0 ++ [x]) l0.length (by simp))
        rw [← Nat.add_assoc] at q1
        rw [List.getElem_concat_length (i := l0.length) rfl] at q0 q1
        clear hcr
        have ql := World.block_lt_of_cell? _ _ q0
        have hrx : Hid (Rch deps src x) := Lib.hid (HD.out.rl x (by simp))
        obtain ⟨H2, l2, h4, y⟩ := hst.box #[.int .i64 x.1, .int .i64 x.2] 41
        have y0 := y 0 _ rfl
        have y1 := y 1 _ rfl
        have en4 := hen.alloc (.cells #[.int .i64 x.1, .int .i64 x.2] 41)
        clear y hst hen
        have h5 : St H2 (Row 41 2 (.slice (some ⟨b, off, none⟩) l0.length c) (idl l0) :: SetA s pre :: G :: D pre :: fr) (wr.alloc (.cells #[.int .i64 x.1, .int .i64 x.2] 41)) := by
          have := h4.row_take l0.length (by omega)
          rwa [idl_take, List.take_left'  rfl] at this
        have hAdd := setAdd_any s pre x H2 _ _ h5.swap
        have v0 := h5.cell y0
        have v1 := h5.cell y1
        have vl := World.block_lt_of_cell? _ _ v0
        have hw1 : IntKind.i64.wrap (((l0.length + 1 : Nat) : Int) - 1) = (l0.length : Int) := by rw [IntKind.wrap_i64]; omega
        have hw2 : ((l0.length + 1 : Nat) : Int) - 1 = (l0.length : Int) := by omega
        have hcz : ¬ c = l0.length := by omega
        have hc0 : ¬ c = 0 := by omega
        have hw3 : ((l0.length : Int) + 1) - 1 = (l0.length : Int) := by omega
        have hw4 : IntKind.i64.wrap (((l0.length : Int) + 1) - 1) = (l0.length : Int) := by rw [IntKind.wrap_i64]; omega
        replace hAdd := Lib.hid hAdd
        obtain ⟨x0, x1⟩ := x
        simp only at q0 q1 v0 v1 y0 y1
        gi_wp2_with fail
        generalize wr.heap.size = gb at *
        generalize wr.alloc (.cells #[.int .i64 x0, .int .i64 x1] 41) = wb at *
        clear q0 q1 ql v0 v1 vl h4 hw1 hw2 hw3 hw4
        refine (callsIn_wide.2 hAdd.out).mono ?_
        rintro e w4 ⟨rfl, h6, en6⟩
        replace en6 := en4.trans en6
        replace h6 : St H2 (SetA s (addL (x0, x1) pre) :: Row 41 2 (.slice (some ⟨b, off, none⟩) l0.length c) (idl l0) :: G :: D pre :: fr) w4 := h6
        clear en4 h5 hAdd
        have v0 := h6.cell y0
        have v1 := h6.cell y1
        have vl := World.block_lt_of_cell? _ _ v0
        have l12 := Hp.le_trans l1 l2
        by_cases hin : (x0, x1) ∈ pre
        · rw [decide_eq_true hin]
          rw [addL_old hin] at h6
          have hHD := Lib.hid (HD.out.skip hin)
          gi_wp2_with fail
          gi_roundg ((U.length - pre.length) * 17 + l0.length)
          case measure => omega
          case rel => exact ⟨pre, l0, H2, rfl, l12, hHD, by omega, h6.swap, en6⟩
        · rw [decide_eq_false hin]
          rw [addL_new hin] at h6
          have hHD := Lib.hid (HD.out.go hin)
          have hpl2 := hHD.out.len hU.out
          have hprr := Lib.hid (HD.out.rp)
          have h7 : St H2 (G :: D pre :: SetA s (pre ++ [(x0, x1)]) :: Row 41 2 (.slice (some ⟨b, off, none⟩) l0.length c) (idl l0) :: fr) w4 := h6.perm (List.perm_append_comm (l₁ := [_, _]) (l₂ := [G, D pre]) |>.append_right fr)
          have hYY := hY.out pre (x0, x1) H2 _ w4 l12 hrx.out hin HD.out.nd hprr.out h7
          obtain ⟨yfn, ytmps, yassign, ybody, hy, hRd⟩ := hYY
          replace hRd := Lib.hid hRd
          clear hin
          gi_wp2_with fail
          refine hRd.out.mono ?_
          rintro e w5 ⟨H3, l3, en5, (⟨rfl, h8⟩ | ⟨rfl, h8⟩)⟩
          · have l13 := Hp.le_trans l12 l3
            have en7 := en6.trans en5
            have u0 := h8.cell (Hp.cell_le l3 y0)
            have u1 := h8.cell (Hp.cell_le l3 y1)
            have ul := World.block_lt_of_cell? _ _ u0
            have gc := h8.cell (Hp.cell_le l13 hcg)
            have gl := World.block_lt_of_cell? _ _ gc
            have hRc := Lib.hid (hR.out (x0, x1) H3 _ w5 l13 h8)
            clear v0 v1 vl h7 h6 hy hRd
            gi_wp2_with fail
            refine (callsIn_wide.2 hRc.out).mono ?_
            rintro e w6 ⟨H4, yr, yb, l4, h9, en8, rfl, hyd, hydp⟩
            replace en8 := en7.trans en8
            clear u0 u1 ul gc gl hRc h8 en7
            obtain ⟨d1, d2, d3, hdv, hd4, _⟩ := hyd.d.form
            obtain ⟨b1, b2, b3, hbv, hb4, _⟩ := hyd.b.form
            obtain ⟨H5, l5, h10, ay⟩ := St.rcBox h9 yr
            have en9 := en8.alloc (.cells (rcA yr) 53)
            have hydd := hyd.d.mono l5
            obtain ⟨⟨t0, t1⟩, tq, td, tb, tD, tB⟩ := yr
            simp only at hdv hbv h10 en9 hydd hydp hd4
            subst hdv hbv
            have a2 := h10.cell ay.2.2.2.1
            simp only at a2
            have al := World.block_lt_of_cell? _ _ a2
            have h11 : St H5 (Row 41 2 (.slice (some ⟨b, off, none⟩) l0.length c) (idl l0) :: SetA s (pre ++ [(x0, x1)]) :: G :: D (pre ++ [(x0, x1)]) :: fr) _ := h10.perm ((List.perm_append_comm (l₁ := [G, D (pre ++ [(x0, x1)])]) (l₂ := [SetA s (pre ++ [(x0, x1)]), Row 41 2 (.slice (some ⟨b, off, none⟩) l0.length c) (idl l0)]) |>.append_right fr).trans (List.Perm.swap _ _ _))
            have hnw := News.rw (P := Tryz.prog) (hydd.rw h11) (idl_one tD)
            have hl16 := hd16.out (x0, x1)
            rw [← hydp] at hl16
            have hdx := Lib.hid hydp
            rw [idl_len] at hd4
            clear hydp
            gi_wp2_with (gi_at_builtin; refine wpListIn_append rfl (.tmp 41) (.tmp 43) 35 35 rfl Tryz.underlying35 (.inl ⟨_, Tryz.underlying35⟩) (.agg #[.int .i64 0, .int .i64 0]) 16 info_id rfl (by decide) (by decide) rfl rfl h11 hnw ?apB2 ?apK2)
            case apB2 => simp [idl_len]; omega
            case apK2 =>
              intro lv2 w7 h12 en10
              replace en10 := en9.trans en10
              rw [← idl_append] at h12
              have hHD2 : Hid (Dfs deps src (pre ++ [(x0, x1)]) (l0 ++ tD)) := Lib.hid (by rw [hdx.out]; exact hHD.out)
              clear hHD a2 al
              gi_wp2_with fail
              gi_roundg ((U.length - (pre.length + 1)) * 17 + (l0.length + tD.length))
              case measure => simp at hpl2; omega
              case rel => exact ⟨pre ++ [(x0, x1)], l0 ++ tD, H5, by simp, Hp.le_trans l13 (Hp.le_trans l4 l5), hHD2, by simp; omega, h12, en10⟩
          · have hz := Lib.hid (hstop.out (pre ++ [(x0, x1)]) H3 w5 (Hp.le_trans l12 l3) (fun a ha => by
              rcases List.mem_append.1 ha with ha | ha
              · exact hprr.out a ha
              · rw [List.mem_singleton] at ha; subst ha; exact hrx.out) (h8.drop.drop.drop.drop |> fun _ => h8.perm ((List.perm_append_comm (l₁ := [G, Dx (pre ++ [(x0, x1)])]) (l₂ := [SetA s (pre ++ [(x0, x1)]), Row 41 2 (.slice (some ⟨b, off, none⟩) l0.length c) (idl l0)]) |>.append_right fr)) |>.drop.drop) (en6.trans en5))
            gi_wp2_with fail
            refine bodyPost_ret (results_none rfl _ _ _) rfl ?_
            exact hz.out
end Go.Proofs.YtcbckeoalmjcoaaGreat

/- A range over what some ids reach: the statement's law; reach.each. -/
set_option linter.unusedVariables false
set_option linter.unusedSimpArgs false
namespace Go.Proofs.YtcbckeoalmjcoaaGreat
open Go.RowKit Go.Cw Go.Fl
attribute [local go_sem ↓] eql_id neq_id
attribute [local go_sem] Oper.semAt_some
attribute [local go_sem] wide_fn wide_fnR wide_dp wide_dpR wide_rd wide_rdR
/-- How a round's body may be left. -/
def LeftR (G : HA) (E : List Id → HA) (Ec : Code → List Id → HA) (H : Hp) (fr : List HA) (xs : List Id) (W : World) (e : Exit) (_ : Act) (W' : World) : Prop :=
  match e with
  | .normal => ∃ H', Hp.le H H' ∧ Env W W' ∧ St H' (G :: E xs :: fr) W'
  | .ret => ∃ H', Hp.le H H' ∧ Env W W' ∧ St H' (G :: Ec .ret xs :: fr) W'
  | .exit id => ∃ H', Hp.le H H' ∧ Env W W' ∧ St H' (G :: Ec (.exit id) xs :: fr) W'
  | _ => False
theorem each_shut {H : Hp} {G E A B : HA} {fr : List HA} {w : World} (h : St H (G :: E :: A :: B :: fr) w) : St H (G :: Star A (Star B E) :: fr) w := by
  have h2 : St H (B :: E :: A :: G :: fr) w := h.perm (by
    refine (List.perm_append_comm (l₁ := [G, E, A]) (l₂ := [B]) |>.append_right fr).trans ?_
    refine List.Perm.cons _ ?_
    refine (List.perm_append_comm (l₁ := [G]) (l₂ := [E, A]) |>.append_right fr))
  exact h2.shutStar.swap.shutStar.swap
theorem each_open {H : Hp} {G E A B : HA} {fr : List HA} {w : World} (h : St H (G :: Star A (Star B E) :: fr) w) : St H (G :: E :: A :: B :: fr) w := by
  have h2 : St H (B :: E :: A :: G :: fr) w := h.swap.openStar.swap.openStar
  exact h2.perm (by
    refine (List.perm_append_comm (l₁ := [B, E, A]) (l₂ := [G]) |>.append_right fr).trans ?_
    refine List.Perm.cons _ ?_
    refine (List.perm_append_comm (l₁ := [B]) (l₂ := [E, A]) |>.append_right fr))
set_option maxHeartbeats 4000000 in
theorem wpIn_each {n : Nat} {g : Operand} {ps : Array Tmp} {assign body : Code} {Q : Exit → Act → World → Prop} {a : Act} {w : World}
    (gp : Value) (G : HA) (deps : Id → List Id) (src U : List Id) (cg cl : Nat) (sv : Value) (E : List Id → HA) (Ec : Code → List Id → HA) (H : Hp) (fr : List HA)
    (hU : ∀ a, Rch deps src a → a ∈ U) (hUl : U.length ≤ 100000) (hsl : src.length ≤ 100000) (hd16 : ∀ a, (deps a).length ≤ 16) (hR : RecOf gp G deps H)
    (hcl : H.cell cl 0 = some sv) (hsv : Rd H 2 sv (idl src)) (hcg : H.cell cg 0 = some gp) (hgp : ∃ a, gp = .pointer a) (h : St H (G :: E [] :: fr) w)
    (hg : a.eval g = .func (.func 103) #[] #[.pointer (some ⟨cl, 0, none⟩), .pointer (some ⟨cg, 0, none⟩)]) (hps : ps.size = 1)
    (hbody : ∀ (l : Nat) (pre : List Id) (x : Id) (H1 : Hp) (fr1 : List HA) (W : World), Hp.le H H1 → Rch deps src x → x ∉ pre → pre.Nodup → (∀ a ∈ pre, Rch deps src a) → St H1 (G :: E pre :: fr1) W →
      assign.wpIn (Fence.wide.inRound l) (n - 1 - 1) Tryz.prog (Exit.then (fun a₁ W1 => ∃ H2, Hp.le H1 H2 ∧ Env W W1 ∧ St H2 (G :: E pre :: fr1) W1 ∧ ∀ (fr2 : List HA) (W2 : World), St H2 (G :: E pre :: fr2) W2 →
        body.wpIn (Fence.wide.inRound l) (n - 1 - 1) Tryz.prog (LeftR G E Ec H2 fr2 (pre ++ [x]) W2) a₁ W2) (fun _ _ _ => False))
        { tmps := (ps.zip #[idV x]).foldl (fun t (p, v) => t.setIfInBounds p v) a.tmps, defers := [] } W)
    (hdone : ∀ (xs : List Id) (d : Nat) (H' : Hp) (fr' : List HA) (W : World), Hp.le H H' → xs.Nodup → (∀ a, a ∈ xs ↔ Rch deps src a) → St H' (Ob d (.deferred (some [])) :: G :: E xs :: fr) W → Env w W → Q .normal { a with defers := { target := .collected d, args := #[] } :: a.defers } W)
    (hstop : ∀ (xs : List Id) (c : Code) (d : Nat) (H' : Hp) (W : World), Hp.le H H' → (∀ a ∈ xs, Rch deps src a) → St H' (Ob d (.deferred (some [])) :: G :: Ec c xs :: fr) W → Env w W → c.wpIn Fence.wide n Tryz.prog Q { a with defers := { target := .collected d, args := #[] } :: a.defers } W) :
    (Code.rangeFunc g ps assign body).wpIn Fence.wide n Tryz.prog Q a w := by
  refine wpIn_rangeFunc ?_
  intro fn hfn
  rw [wide_rd]
  obtain ⟨rec, hrec⟩ : ∃ rec : LoopState → Option Code → Loop, rec = fun st pe => { state := st, pending := pe, fn, tmps := a.tmps, params := ps, assign, body, defers := w.heap.size } := ⟨_, rfl⟩
  obtain ⟨W1, hW1⟩ : ∃ W1, (w.alloc (.deferred (some []))).alloc (.loop (rec .ready none)) = W1 := ⟨_, rfl⟩
  have hs1 : St H (Ob (w.heap.size + 1) (.loop (rec .ready none)) :: Ob w.heap.size (.deferred (some [])) :: G :: E [] :: fr) W1 := by
    have := (h.ob (.deferred (some []))).ob (.loop (rec .ready none))
    rw [hW1] at this
    rwa [World.size_alloc] at this
  have en1 : Env w W1 := by rw [← hW1]; exact ((Env.refl w).alloc _).alloc _
  have hs2 : St H (G :: Star (Ob (w.heap.size + 1) (.loop (rec .ready none))) (Star (Ob w.heap.size (.deferred (some []))) (E [])) :: fr) W1 := by
    have h1 := hs1.perm (List.perm_append_comm (l₁ := [_, _]) (l₂ := [G, E []]) |>.append_right fr)
    have h2 : St H (Ob w.heap.size (.deferred (some [])) :: E [] :: Ob (w.heap.size + 1) (.loop (rec .ready none)) :: G :: fr) W1 := hs1.perm (by
      refine (List.perm_append_comm (l₁ := [Ob (w.heap.size + 1) (.loop (rec .ready none))]) (l₂ := [Ob w.heap.size (.deferred (some [])), G, E []]) |>.append_right fr).trans ?_
      refine List.Perm.cons _ ?_
      refine (List.perm_append_comm (l₁ := [G]) (l₂ := [E [], Ob (w.heap.size + 1) (.loop (rec .ready none))]) |>.append_right fr))
    exact h2.shutStar.swap.shutStar.swap
  refine ⟨w.heap.size + 1, [{ target := .collected w.heap.size, args := #[] }], W1, { target := .fn (.func 103) #[.pointer (some ⟨cl, 0, none⟩), .pointer (some ⟨cg, 0, none⟩)], args := #[.func (.yield (w.heap.size + 1)) #[] #[]] }, W1, 103,
    #[.func (.yield (w.heap.size + 1)) #[] #[]] ++ #[.pointer (some ⟨cl, 0, none⟩), .pointer (some ⟨cg, 0, none⟩)], W1, ?_, ?_, ?_, ?_, fun h => (by cases h), ?_⟩
  · rw [← hW1, hrec]; exact run_enterLoop_outer _ _ _ _ _
  · simp only [resolve, hg]
    simp [go_sem]
  · intro f' hf'; trivial
  · have eg := enters_of Tryz.func103 (by kernel_rfl) rfl
    simp [invoke, go_sem, eg]
  · refine (each1_any gp G deps src U (w.heap.size + 1) (n - 1) cg cl sv
      (fun pre => Star (Ob (w.heap.size + 1) (.loop (rec .ready none))) (Star (Ob w.heap.size (.deferred (some []))) (E pre)))
      (fun pre => Ex fun c : Code => Star (Ob (w.heap.size + 1) (.loop (rec .done (some c)))) (Star (Ob w.heap.size (.deferred (some []))) (Ec c pre)))
      H fr W1 hU hUl hsl hd16 hR ?_ hcl hsv hcg hgp hs2).mono ?_
    · intro pre x H1 fr1 W hl hrx hx hnd hpre hst
      have hst0 := each_open hst
      have hL : W.heap[w.heap.size + 1]? = some (.loop (rec .ready none)) := (hst0.pick 2 (by simp)).ob_heap
      have hy := run_yield (P := Tryz.prog) (args := #[idV x]) hL (by rw [hrec]; simp [hps])
      rw [hrec] at hy
      refine ⟨fn, _, assign, body, hy, roundIn_of_wpIn hfn (wpIn_mono (hbody _ pre x H1 _ W hl hrx hx hnd hpre hst0) ?_)⟩
      rintro e a1 W1 hq
      cases e with
      | normal =>
        obtain ⟨H2, l2, en1, hst1, hb⟩ := hq
        have hL1 : W1.heap[w.heap.size + 1]? = some (.loop (rec .ready none)) := (hst1.pick 2 (by simp)).ob_heap
        have hr1 := run_beginRound (P := Tryz.prog) hL1 (by rw [hrec])
        refine ⟨_, hr1, ?_⟩
        have hst2 : St H2 (G :: E pre :: Ob (w.heap.size + 1) (.loop { rec .ready none with state := .busy }) :: Ob w.heap.size (.deferred (some [])) :: fr1) (W1.putObj (w.heap.size + 1) (.loop { rec .ready none with state := .busy })) :=
          ((hst1.pick 2 (by simp)).ob_put (.loop { rec .ready none with state := .busy })).perm (List.perm_append_comm (l₁ := [Ob (w.heap.size + 1) (.loop { rec .ready none with state := .busy })]) (l₂ := [G, E pre]) |>.append_right (Ob w.heap.size (.deferred (some [])) :: fr1))
        have en2 := en1.putObj (w.heap.size + 1) (.loop { rec .ready none with state := .busy })
        refine wpIn_mono (hb _ _ hst2) ?_
        have fin : ∀ (jump : Option Code) (X : HA) (H3 : Hp) (W3 : World), St H3 (G :: X :: Ob (w.heap.size + 1) (.loop { rec .ready none with state := .busy }) :: Ob w.heap.size (.deferred (some [])) :: fr1) W3 →
            (Instr.endRound (w.heap.size + 1) jump).run Tryz.prog W3 = .ok (.bool jump.isNone) (W3.putObj (w.heap.size + 1) (.loop (rec (if jump.isNone then .ready else .done) jump))) ∧
            St H3 (G :: Star (Ob (w.heap.size + 1) (.loop (rec (if jump.isNone then .ready else .done) jump))) (Star (Ob w.heap.size (.deferred (some []))) X) :: fr1) (W3.putObj (w.heap.size + 1) (.loop (rec (if jump.isNone then .ready else .done) jump))) := fun jump X H3 W3 h3 => by
          have h4 := h3.pick 2 (by simp)
          have hr := run_endRound (P := Tryz.prog) jump h4.ob_heap
          rw [hrec] at hr ⊢
          exact ⟨hr, each_shut (((h4.ob_put _).perm (List.perm_append_comm (l₁ := [Ob (w.heap.size + 1) _]) (l₂ := [G, X]) |>.append_right (Ob w.heap.size (.deferred (some [])) :: fr1))))⟩
        rintro e a3 W3 hp
        cases e with
        | normal =>
          obtain ⟨H3, l3, en3, hst3⟩ := hp
          obtain ⟨hr, h4⟩ := fin none _ H3 W3 hst3
          exact ⟨_, _, hr, H3, Hp.le_trans l2 l3, (en2.trans en3).putObj _ _, .inl ⟨rfl, h4⟩⟩
        | ret =>
          obtain ⟨H3, l3, en3, hst3⟩ := hp
          obtain ⟨hr, h4⟩ := fin (some .ret) _ H3 W3 hst3
          exact ⟨_, _, hr, H3, Hp.le_trans l2 l3, (en2.trans en3).putObj _ _, .inr ⟨rfl, (St.shutEx Code.ret h4.swap).swap⟩⟩
        | exit id =>
          obtain ⟨H3, l3, en3, hst3⟩ := hp
          obtain ⟨hr, h4⟩ := fin (some (.exit id)) _ H3 W3 hst3
          exact ⟨_, _, hr, H3, Hp.le_trans l2 l3, (en2.trans en3).putObj _ _, .inr ⟨rfl, (St.shutEx (Code.exit id) h4.swap).swap⟩⟩
        | goto t => exact hp.elim
        | panic ch => exact hp.elim
        | outgrown => exact hp.elim
      | exit id => exact hq.elim
      | goto t => exact hq.elim
      | ret => exact hq.elim
      | panic ch => exact hq.elim
      | outgrown => exact hq.elim
    · rintro e W2 ⟨⟨v, rfl⟩, H', hl, en, (⟨xs, hnd, hall, hst⟩ | ⟨xs, hall, hst⟩)⟩
      · have h1 := hst.swap.openStar.swap.openStar
        have h2 : St H' (Ob (w.heap.size + 1) (.loop (rec .ready none)) :: Ob w.heap.size (.deferred (some [])) :: E xs :: G :: fr) W2 := h1.perm ((List.perm_append_comm (l₁ := [_, _]) (l₂ := [Ob (w.heap.size + 1) (.loop (rec .ready none))])) |>.append_right (G :: fr))
        have hr := run_endLoop (P := Tryz.prog) h2.ob_heap (by rw [hrec]; simp)
        rw [hrec] at hr
        refine ⟨none, _, hr, ?_⟩
        have h3 := (h2.ob_put (.loop { rec .ready none with state := .exhausted })).drop
        rw [hrec] at h3
        exact hdone xs _ H' fr _ hl hnd hall (h3.perm (List.Perm.cons _ (List.Perm.swap _ _ _))) ((en1.trans en).putObj _ _)
      · obtain ⟨c, hst⟩ := hst.swap.openEx
        have h1 := hst.openStar.swap.openStar
        have h2 : St H' (Ob (w.heap.size + 1) (.loop (rec .done (some c))) :: Ob w.heap.size (.deferred (some [])) :: Ec c xs :: G :: fr) W2 := h1.perm ((List.perm_append_comm (l₁ := [_, _]) (l₂ := [Ob (w.heap.size + 1) (.loop (rec .done (some c)))])) |>.append_right (G :: fr))
        have hr := run_endLoop (P := Tryz.prog) h2.ob_heap (by rw [hrec]; simp)
        rw [hrec] at hr
        refine ⟨some c, _, hr, ?_⟩
        have h3 := (h2.ob_put (.loop { rec .done (some c) with state := .exhausted })).drop
        rw [hrec] at h3
        exact hstop xs c _ H' _ hl hall (h3.perm (List.Perm.cons _ (List.Perm.swap _ _ _))) ((en1.trans en).putObj _ _)
end Go.Proofs.YtcbckeoalmjcoaaGreat

/- What some ids reach: reach.each, From. -/
set_option linter.unusedVariables false
set_option linter.unusedSimpArgs false
namespace Go.Proofs.YtcbckeoalmjcoaaGreat
open Go.RowKit Go.Cw Go.Fl
attribute [local go_sem ↓] eql_id neq_id
attribute [local go_sem] Oper.semAt_some
attribute [local go_sem] wide_fn wide_fnR wide_dp wide_dpR wide_rd wide_rdR
set_option maxRecDepth 100000 in
theorem each_any (ga : Option Addr) (A : Option Addr) (m c : Nat) (H : Hp) (fr : List HA) (w : World) (h : St H fr w) :
    Calls Tryz.prog 80 #[.pointer ga, .slice A m c] w fun e w' => ∃ (cl cg : Nat) (H' : Hp), e = .returned (.func (.func 103) #[] #[.pointer (some ⟨cl, 0, none⟩), .pointer (some ⟨cg, 0, none⟩)]) ∧ Hp.le H H' ∧ St H' fr w' ∧ Env w w' ∧ H'.cell cl 0 = some (.slice A m c) ∧ H'.cell cg 0 = some (.pointer ga) := by
  have hmf : ∀ (fn : Fn) (first cap : Array Value) (w : World), (Instr.makeFunc fn first cap).run Tryz.prog w = .ok (.func fn first cap) w := fun _ _ _ _ => rfl
  obtain ⟨H1, l1, h1, y1⟩ := h.box #[.pointer ga] 27
  obtain ⟨H2, l2, h2, y2⟩ := h1.box #[.slice A m c] 35
  have c1 := Hp.cell_le l2 (y1 0 _ rfl)
  have c2 := y2 0 _ rfl
  have en := ((Env.refl w).alloc (.cells #[.pointer ga] 27)).alloc (.cells #[.slice A m c] 35)
  rw [World.size_alloc] at c2
  clear y1 y2
  go_enter Tryz.func80, Tryz.ntmps80
  go_wp2_with fail
  go_ret
  exact ⟨_, _, H2, rfl, Hp.le_trans l1 l2, h2, en, c2, c1⟩
/-- What From tells. -/
def FromG (deps : Id → List Id) (src : List Id) (G : HA) (H : Hp) (fr : List HA) (w : World) (e : Ending) (w' : World) : Prop :=
  ∃ v R H', e = .returned v ∧ Hp.le H H' ∧ St H' (Row 41 2 v (idl R) :: G :: fr) w' ∧ Env w w' ∧ Rises R ∧ ∀ a, a ∈ R ↔ Rch deps src a
def CollE (g : Nat) (pre : List Id) : HA := Ex fun v => Star (Blk g #[v] 35) (Row 41 2 v (idl pre))
theorem collOpen {H : Hp} {fr : List HA} {w : World} {g : Nat} {pre : List Id} (h : St H (CollE g pre :: fr) w) : ∃ A m c, St H (Blk g #[.slice A m c] 35 :: Row 41 2 (.slice A m c) (idl pre) :: fr) w := by
  obtain ⟨v, h1⟩ := h.openEx
  have h2 := h1.openStar
  obtain ⟨A, m, c, rfl, _⟩ := h2.swap.row_form
  exact ⟨A, m, c, h2⟩
theorem collShut {H : Hp} {fr : List HA} {w : World} {g : Nat} {pre : List Id} {v : Value} (h : St H (Blk g #[v] 35 :: Row 41 2 v (idl pre) :: fr) w) : St H (CollE g pre :: fr) w := St.shutEx v h.shutStar
end Go.Proofs.YtcbckeoalmjcoaaGreat
