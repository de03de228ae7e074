/- What some ids reach, one by one: the closure that reach.each makes. -/
import Derived.Test.YtelmhcbdpimaaaaRch
import Derived.Test.YtelmhcbdpimaaaaYield
import Derived.Test.YtelmhcbdpimaaaaPrem
set_option linter.unusedVariables false
set_option linter.unusedSimpArgs false
namespace Go.Proofs.Ytelmhcbdpimaaaa
open Go.RowKit Go.Cw Go.Fl
attribute [local go_sem ↓] eql_id neq_id
attribute [local go_sem] Oper.semAt_some
theorem wide_fn (f : FuncId) : Fence.wide.fn f = True := rfl
theorem wide_fnR (l : Nat) (f : FuncId) : (Fence.wide.inRound l).fn f = True := rfl
theorem wide_dp : Fence.wide.depth = none := rfl
theorem wide_dpR (l : Nat) : (Fence.wide.inRound l).depth = none := rfl
theorem wide_rd : Fence.wide.round = none := rfl
theorem wide_rdR (l : Nat) : (Fence.wide.inRound l).round = some l := rfl
attribute [local go_sem] wide_fn wide_fnR wide_dp wide_dpR wide_rd wide_rdR
/-- What an iterator leaves. -/
def EachR (deps : Id → List Id) (src : List Id) (G : HA) (D Dx : List Id → HA) (H : Hp) (fr : List HA) (W : World) (e : Ending) (W' : World) : Prop :=
  (∃ v, e = .returned v) ∧ ∃ H', Hp.le H H' ∧ Env W W' ∧ ((∃ xs, xs.Nodup ∧ (∀ a, a ∈ xs ↔ Rch deps src a) ∧ St H' (G :: D xs :: fr) W') ∨ (∃ xs, (∀ a ∈ xs, Rch deps src a) ∧ St H' (G :: Dx xs :: fr) W'))
/-- What a graph's Record must tell. -/
def RecOf (gp : Value) (G : HA) (deps : Id → List Id) (H0 : Hp) : Prop := ∀ (x : Id) (H : Hp) (fr : List HA) (w : World), Hp.le H0 H → St H (G :: fr) w →
  Calls Try.prog 63 #[gp, idV x] w fun e w' => ∃ (H' : Hp) (y : Rc) (b : Bool), Hp.le H H' ∧ St H' (G :: fr) w' ∧ Env w w' ∧ e = .returned (.tuple #[recV y, .bool b]) ∧ RcD H' y ∧ y.2.2.2.2.1 = deps x
/-- What a round must do. -/
def RoundOf (G : HA) (deps : Id → List Id) (src : List Id) (D Dx : List Id → HA) (H0 : Hp) (n : Nat) (l : Nat) : Prop := ∀ (pre : List Id) (x : Id) (H : Hp) (fr : List HA) (W : World), Hp.le H0 H → Rch deps src x → x ∉ pre → pre.Nodup → (∀ a ∈ pre, Rch deps src a) → St H (G :: D pre :: fr) W →
  YieldAt Fence.wide n Try.prog l #[idV x] W fun e W' => ∃ H', Hp.le H H' ∧ Env W W' ∧ ((e = .returned (.bool true) ∧ St H' (G :: D (pre ++ [x]) :: fr) W') ∨ (e = .returned (.bool false) ∧ St H' (G :: Dx (pre ++ [x]) :: fr) W'))
theorem addL_new {x : Id} {pre : List Id} (h : x ∉ pre) : addL x pre = pre ++ [x] := by unfold addL; rw [if_neg h]
theorem addL_old {x : Id} {pre : List Id} (h : x ∈ pre) : addL x pre = pre := by unfold addL; rw [if_pos h]
set_option maxRecDepth 100000 in
set_option maxHeartbeats 8000000 in
theorem each1_any (gp : Value) (G : HA) (deps : Id → List Id) (src U : List Id) (l n cg cl : Nat) (sv : Value) (D Dx : List Id → HA) (H : Hp) (fr : List HA) (W : World)
    (hU : ∀ a, Rch deps src a → a ∈ U) (hUl : U.length ≤ 100000) (hsl : src.length ≤ 100000) (hd16 : ∀ a, (deps a).length ≤ 16) (hR : RecOf gp G deps H) (hY : RoundOf G deps src D Dx H (n - 1) l)
    (hcl : H.cell cl 0 = some sv) (hsv : Rd H 2 sv (idl src)) (hcg : H.cell cg 0 = some gp) (hgp : ∃ a, gp = .pointer a) (h : St H (G :: D [] :: fr) W) :
    CallsIn Fence.wide n Try.prog 111 #[.func (.yield l) #[] #[], .pointer (some ⟨cl, 0, none⟩), .pointer (some ⟨cg, 0, none⟩)] W (EachR deps src G D Dx H fr W) := by
  obtain ⟨sA, sn, sc, rfl, hsn, hsc, _⟩ := hsv.form
  rw [idl_len] at hsn
  obtain rfl : sn = src.length := by omega
  obtain ⟨ga, rfl⟩ := hgp
  have hfin : ∀ (xs : List Id) (H' : Hp) (w' : World), Hp.le H H' → Dfs deps src xs [] → St H' (G :: D xs :: fr) w' → Env W w' → EachR deps src G D Dx H fr W (.returned (.tuple #[])) w' := fun xs H' w' hl hd h' en => ⟨⟨_, rfl⟩, H', hl, en, .inl ⟨xs, hd.nd, hd.all, h'⟩⟩
  have hstop : ∀ (xs : List Id) (H' : Hp) (w' : World), Hp.le H H' → (∀ a ∈ xs, Rch deps src a) → St H' (G :: Dx xs :: fr) w' → Env W w' → EachR deps src G D Dx H fr W (.returned (.tuple #[])) w' := fun xs H' w' hl hd h' en => ⟨⟨_, rfl⟩, H', hl, en, .inr ⟨xs, hd, h'⟩⟩
  generalize EachR deps src G D Dx H fr W = Q at *
  have hNew := Lib.hid (setNew_any (.slice none 0 0) [] W (Rw.nil W 2))
  replace hU := Lib.hid hU
  replace hfin := Lib.hid hfin
  replace hstop := Lib.hid hstop
  replace hR := Lib.hid hR
  replace hY := Lib.hid hY
  replace hd16 := Lib.hid hd16
  refine callsIn_of_wp Try.func111 rfl trivial ?_ rfl
  simp only [Try.ntmps111, List.size_toArray, List.length_cons, List.length_nil, Nat.reduceAdd, Nat.reduceSub, Array.replicate_succ, Array.replicate_zero, List.push_toArray, List.append_toArray, List.nil_append, List.cons_append]
  gi_wp2_with fail
  refine (callsIn_wide.2 hNew.out).mono ?_
  rintro e w1 he
  obtain ⟨s, rfl, h1, en1⟩ := ResE.lift h he
  have h2 := h1.row_lit 28 2 0 #[] rfl (by decide)
  have en2 := en1.alloc (.cells #[] 28)
  have c1 := h2.cell hcl
  have cl' := World.block_lt_of_cell? _ _ c1
  have hnw := News.rw (P := Try.prog) (hsv.rw h2) (idl_one src)
  clear h1 he hNew h
  gi_wp2_with (gi_at_builtin; refine wpListIn_append rfl (.tmp 10) (.tmp 11) 29 29 rfl Try.underlying29 (.inl ⟨_, Try.underlying29⟩) (.agg #[.int .i64 0, .int .i64 0]) 16 info_id rfl (by decide) (by decide) rfl rfl h2 hnw ?apB ?apK)
  case apB => simp [idl_len]; omega
  case apK =>
    intro lv w3 h3 en3
    replace en3 := en2.trans en3
    replace h3 : St H (Row 28 2 lv (idl src) :: SetA s [] :: G :: D [] :: fr) w3 := h3
    clear h2 en2 c1 cl' hnw
    gi_wp2_with fail
    gi_loopg [5] (U.length * 17 + src.length) (fun q s5 wr => ∃ (pre left : List Id) (H' : Hp), q = (U.length - pre.length) * 17 + left.length ∧ Hp.le H H' ∧ Hid (Dfs deps src pre left) ∧ left.length ≤ src.length + 16 * pre.length ∧ St H' (Row 28 2 s5 (idl left) :: SetA s pre :: G :: D pre :: fr) wr ∧ Env W wr)
    case atStart => exact ⟨[], src, H, by simp, Hp.le_refl _, Lib.hid (Dfs.start _ _), by simp, h3, en3⟩
    case round =>
      clear h3 en3
      obtain ⟨pre, left, H1, hq, l1, HD, hll, hst, hen⟩ := hrel
      have hpl := HD.out.len hU.out
      obtain ⟨A, m1, c, rfl, hm1, hmc, hmx⟩ := hst.row_form
      rw [idl_len] at hm1
      obtain rfl : m1 = left.length := by omega
      clear hm1
      rcases List.eq_nil_or_concat left with rfl | ⟨l0, x, rfl⟩
      · have hz := Lib.hid (hfin.out pre H1 _ l1 HD.out hst.drop.drop hen)
        gi_wp2_with fail
        go_end0
        exact hz.out
      · simp only [List.concat_eq_append] at *
        have hlen : (l0 ++ [x]).length = l0.length + 1 := by simp
        rw [hlen] at hst hmc hll hq
        obtain ⟨b, off, hA, hcr⟩ := (hst.row_rw (by decide)).cells (by omega)
        cases hA
        have q0 := hcr _ _ (idl_fst (l0 ++ [x]) l0.length (by simp))
        have q1 := hcr _ _ (idl_snd (l0 ++ [x]) l0.length (by simp))
        rw [← Nat.add_assoc] at q1
        rw [List.getElem_concat_length (i := l0.length) rfl] at q0 q1
        clear hcr
        have ql := World.block_lt_of_cell? _ _ q0
        have hrx : Hid (Rch deps src x) := Lib.hid (HD.out.rl x (by simp))
        obtain ⟨H2, l2, h4, y⟩ := hst.box #[.int .i64 x.1, .int .i64 x.2] 28
        have y0 := y 0 _ rfl
        have y1 := y 1 _ rfl
        have en4 := hen.alloc (.cells #[.int .i64 x.1, .int .i64 x.2] 28)
        clear y hst hen
        have h5 : St H2 (Row 28 2 (.slice (some ⟨b, off, none⟩) l0.length c) (idl l0) :: SetA s pre :: G :: D pre :: fr) (wr.alloc (.cells #[.int .i64 x.1, .int .i64 x.2] 28)) := by
          have := h4.row_take l0.length (by omega)
          rwa [idl_take, List.take_left'  rfl] at this
        have hAdd := setAdd_any s pre x H2 _ _ h5.swap
        have v0 := h5.cell y0
        have v1 := h5.cell y1
        have vl := World.block_lt_of_cell? _ _ v0
        have hw1 : IntKind.i64.wrap (((l0.length + 1 : Nat) : Int) - 1) = (l0.length : Int) := by rw [IntKind.wrap_i64]; omega
        have hw2 : ((l0.length + 1 : Nat) : Int) - 1 = (l0.length : Int) := by omega
        have hcz : ¬ c = l0.length := by omega
        have hc0 : ¬ c = 0 := by omega
        have hw3 : ((l0.length : Int) + 1) - 1 = (l0.length : Int) := by omega
        have hw4 : IntKind.i64.wrap (((l0.length : Int) + 1) - 1) = (l0.length : Int) := by rw [IntKind.wrap_i64]; omega
        replace hAdd := Lib.hid hAdd
        obtain ⟨x0, x1⟩ := x
        simp only at q0 q1 v0 v1 y0 y1
        gi_wp2_with fail
        generalize wr.heap.size = gb at *
        generalize wr.alloc (.cells #[.int .i64 x0, .int .i64 x1] 28) = wb at *
        clear q0 q1 ql v0 v1 vl h4 hw1 hw2 hw3 hw4
        refine (callsIn_wide.2 hAdd.out).mono ?_
        rintro e w4 ⟨rfl, h6, en6⟩
        replace en6 := en4.trans en6
        replace h6 : St H2 (SetA s (addL (x0, x1) pre) :: Row 28 2 (.slice (some ⟨b, off, none⟩) l0.length c) (idl l0) :: G :: D pre :: fr) w4 := h6
        clear en4 h5 hAdd
        have v0 := h6.cell y0
        have v1 := h6.cell y1
        have vl := World.block_lt_of_cell? _ _ v0
        have l12 := Hp.le_trans l1 l2
        by_cases hin : (x0, x1) ∈ pre
        · rw [decide_eq_true hin]
          rw [addL_old hin] at h6
          have hHD := Lib.hid (HD.out.skip hin)
          gi_wp2_with fail
          gi_roundg ((U.length - pre.length) * 17 + l0.length)
          case measure => omega
          case rel => exact ⟨pre, l0, H2, rfl, l12, hHD, by omega, h6.swap, en6⟩
        · rw [decide_eq_false hin]
          rw [addL_new hin] at h6
          have hHD := Lib.hid (HD.out.go hin)
          have hpl2 := hHD.out.len hU.out
          have hprr := Lib.hid (HD.out.rp)
          have h7 : St H2 (G :: D pre :: SetA s (pre ++ [(x0, x1)]) :: Row 28 2 (.slice (some ⟨b, off, none⟩) l0.length c) (idl l0) :: fr) w4 := h6.perm (List.perm_append_comm (l₁ := [_, _]) (l₂ := [G, D pre]) |>.append_right fr)
          have hYY := hY.out pre (x0, x1) H2 _ w4 l12 hrx.out hin HD.out.nd hprr.out h7
          obtain ⟨yfn, ytmps, yassign, ybody, hy, hRd⟩ := hYY
          replace hRd := Lib.hid hRd
          clear hin
          gi_wp2_with fail
          refine hRd.out.mono ?_
          rintro e w5 ⟨H3, l3, en5, (⟨rfl, h8⟩ | ⟨rfl, h8⟩)⟩
          · have l13 := Hp.le_trans l12 l3
            have en7 := en6.trans en5
            have u0 := h8.cell (Hp.cell_le l3 y0)
            have u1 := h8.cell (Hp.cell_le l3 y1)
            have ul := World.block_lt_of_cell? _ _ u0
            have gc := h8.cell (Hp.cell_le l13 hcg)
            have gl := World.block_lt_of_cell? _ _ gc
            have hRc := Lib.hid (hR.out (x0, x1) H3 _ w5 l13 h8)
            clear v0 v1 vl h7 h6 hy hRd
            gi_wp2_with fail
            refine (callsIn_wide.2 hRc.out).mono ?_
            rintro e w6 ⟨H4, yr, yb, l4, h9, en8, rfl, hyd, hydp⟩
            replace en8 := en7.trans en8
            clear u0 u1 ul gc gl hRc h8 en7
            obtain ⟨d1, d2, d3, hdv, hd4, _⟩ := hyd.d.form
            obtain ⟨b1, b2, b3, hbv, hb4, _⟩ := hyd.b.form
            obtain ⟨H5, l5, h10, ay⟩ := St.rcBox h9 yr
            have en9 := en8.alloc (.cells (rcA yr) 32)
            have hydd := hyd.d.mono l5
            obtain ⟨⟨t0, t1⟩, tq, td, tb, tD, tB⟩ := yr
            simp only at hdv hbv h10 en9 hydd hydp hd4
            subst hdv hbv
            have a2 := h10.cell ay.2.2.2.1
            simp only at a2
            have al := World.block_lt_of_cell? _ _ a2
            have h11 : St H5 (Row 28 2 (.slice (some ⟨b, off, none⟩) l0.length c) (idl l0) :: SetA s (pre ++ [(x0, x1)]) :: G :: D (pre ++ [(x0, x1)]) :: fr) _ := h10.perm ((List.perm_append_comm (l₁ := [G, D (pre ++ [(x0, x1)])]) (l₂ := [SetA s (pre ++ [(x0, x1)]), Row 28 2 (.slice (some ⟨b, off, none⟩) l0.length c) (idl l0)]) |>.append_right fr).trans (List.Perm.swap _ _ _))
            have hnw := News.rw (P := Try.prog) (hydd.rw h11) (idl_one tD)
            have hl16 := hd16.out (x0, x1)
            rw [← hydp] at hl16
            have hdx := Lib.hid hydp
            rw [idl_len] at hd4
            clear hydp
            gi_wp2_with (gi_at_builtin; refine wpListIn_append rfl (.tmp 41) (.tmp 43) 29 29 rfl Try.underlying29 (.inl ⟨_, Try.underlying29⟩) (.agg #[.int .i64 0, .int .i64 0]) 16 info_id rfl (by decide) (by decide) rfl rfl h11 hnw ?apB2 ?apK2)
            case apB2 => simp [idl_len]; omega
            case apK2 =>
              intro lv2 w7 h12 en10
              replace en10 := en9.trans en10
              rw [← idl_append] at h12
              have hHD2 : Hid (Dfs deps src (pre ++ [(x0, x1)]) (l0 ++ tD)) := Lib.hid (by rw [hdx.out]; exact hHD.out)
              clear hHD a2 al
              gi_wp2_with fail
              gi_roundg ((U.length - (pre.length + 1)) * 17 + (l0.length + tD.length))
              case measure => simp at hpl2; omega
              case rel => exact ⟨pre ++ [(x0, x1)], l0 ++ tD, H5, by simp, Hp.le_trans l13 (Hp.le_trans l4 l5), hHD2, by simp; omega, h12, en10⟩
          · have hz := Lib.hid (hstop.out (pre ++ [(x0, x1)]) H3 w5 (Hp.le_trans l12 l3) (fun a ha => by
              rcases List.mem_append.1 ha with ha | ha
              · exact hprr.out a ha
              · rw [List.mem_singleton] at ha; subst ha; exact hrx.out) (h8.drop.drop.drop.drop |> fun _ => h8.perm ((List.perm_append_comm (l₁ := [G, Dx (pre ++ [(x0, x1)])]) (l₂ := [SetA s (pre ++ [(x0, x1)]), Row 28 2 (.slice (some ⟨b, off, none⟩) l0.length c) (idl l0)]) |>.append_right fr)) |>.drop.drop) (en6.trans en5))
            gi_wp2_with fail
            refine bodyPost_ret (results_none rfl _ _ _) rfl ?_
            exact hz.out
end Go.Proofs.Ytelmhcbdpimaaaa
