/- Joined texts: CanRight. -/
import Derived.Test.YtcbckeoalmjcoaaGreatCGR25
import Derived.Test.YtcbckeoalmjcoaaGreatCGR26
/- canon.Right. -/
set_option linter.unusedVariables false
set_option linter.unusedSimpArgs false
namespace Go.Proofs.YtcbckeoalmjcoaaGreat
open Go.RowKit Go.Cw Go.Fl
attribute [local go_sem ↓] eql_id neq_id
theorem mayB_congr {nx : Id → List Id} {C : List (List Id)} {D E c : List Id} (h : ∀ a, a ∈ D ↔ a ∈ E) : mayB nx C D c = mayB nx C E c := by
  unfold mayB
  exact decide_eq_decide.2 ⟨fun ⟨h1, h2, h3, h4⟩ => ⟨h1, h2, fun k => h3 ((h _).2 k), fun d hd => (h d).1 (h4 d hd)⟩, fun ⟨h1, h2, h3, h4⟩ => ⟨h1, h2, fun k => h3 ((h _).1 k), fun d hd => (h d).2 (h4 d hd)⟩⟩
theorem right_step (nx : Id → List Id) (C : List (List Id)) (X : List Lv) (k : Nat) (h : k < X.length) {D : List Id} (hD : ∀ a, a ∈ D ↔ a ∈ (lists (X.take k)).flatten) : rightB nx C (lists (X.take k)).flatten (lists (X.drop k)) = (mayB nx C D X[k].1 && rightB nx C (lists (X.take (k + 1))).flatten (lists (X.drop (k + 1)))) := by
  rw [mayB_congr hD, flatl_step X k h, List.drop_eq_getElem_cons h]
  rfl
theorem mayB_nil (nx : Id → List Id) (C : List (List Id)) (D : List Id) : mayB nx C D [] = false := decide_eq_false (fun h => h.2.1 rfl)
theorem mayB_had {nx : Id → List Id} {C : List (List Id)} {D c : List Id} (h : hdI c ∈ D) : mayB nx C D c = false := decide_eq_false (fun k => k.2.2.1 h)
theorem mayB_not {nx : Id → List Id} {C : List (List Id)} {D c : List Id} (h : c ∉ C) : mayB nx C D c = false := decide_eq_false (fun k => h k.1)
theorem mayB_out {nx : Id → List Id} {C : List (List Id)} {D c : List Id} {d : Id} (h : d ∈ outP nx c) (hd : d ∉ D) : mayB nx C D c = false := decide_eq_false (fun k => hd (k.2.2.2 d h))
theorem mayB_yes {nx : Id → List Id} {C : List (List Id)} {D c : List Id} (h1 : c ∈ C) (h2 : c ≠ []) (h3 : hdI c ∉ D) (h4 : ∀ d ∈ outP nx c, d ∈ D) : mayB nx C D c = true := decide_eq_true ⟨h1, h2, h3, h4⟩
theorem hdI_at {c : List Id} (h : 0 < c.length) : hdI c = c[0] := by cases c with
  | nil => simp at h
  | cons a r => rfl
/-- Lists in a right order of a graph's components. -/
def RightOf (l : List Rp) (x : List (List Id)) : Prop := ∃ C, CompsOf l C ∧ rightB (dpsR l) C [] x = true
theorem rightOf_eq {l : List Rp} {C x : List (List Id)} (h : CompsOf l C) : rightB (dpsR l) C [] x = true ↔ RightOf l x :=
  ⟨fun k => ⟨C, h, k⟩, fun ⟨C', h', k⟩ => by rw [compsOf_eq h h']; exact k⟩
theorem comp_len {L : List Rc} {C : List (List Id)} (hC : CompsOf (L.map rp) C) {c : List Id} (hc : c ∈ C) : c.length ≤ L.length := by
  have h1 := (hC.one c hc).2.1
  have h2 := sub_len16 c (rids L) (kr_nodup h1) (fun a ha => by
    have := (cnStart hC).inU hc ha
    have := this.1
    rwa [pids_rp] at this)
  rwa [List.length_map] at h2
open Classical in
set_option maxRecDepth 100000 in
set_option maxHeartbeats 16000000 in
theorem canRight_any (p : Nat) (L : List Rc) (v : Value) (X : List Lv) (H : Hp) (fr : List HA) (w : World) (h : St H (GrA p L :: fr) w) (hg : GrOk H L) (hL : L.length ≤ 1000) (hv : Rd H 1 v (vals X)) (hX : LvOk H X) :
    Calls Tryz.prog 24 #[grP p, v] w (AskR (decide (RightOf (L.map rp) (lists X))) (GrA p L) H fr w) := by
  obtain ⟨z, hz⟩ : ∃ z, Hid (z = decide (RightOf (L.map rp) (lists X))) := ⟨_, Lib.hid rfl⟩
  rw [← hz.out]
  have hfin : ∀ (H' : Hp) (w' : World), Hp.le H H' → St H' (GrA p L :: fr) w' → Env w w' → AskR z (GrA p L) H fr w (.returned (.bool z)) w' := fun H' w' h1 h2 h3 => ⟨H', rfl, h1, h2, h3⟩
  generalize AskR z (GrA p L) H fr w = Q at *
  replace hfin := Lib.hid hfin
  have hCo := Lib.hid (comps_any p L H fr _ h hg hL)
  obtain ⟨vA, vn, vc, rfl, hv1, _⟩ := hv.form
  rw [vals_len] at hv1
  obtain rfl : vn = X.length := by omega
  replace hg := Lib.hid hg
  have hXb := hv.bound
  replace hX := Lib.hid hX
  clear hv1 h
  go_enter Tryz.func24, Tryz.ntmps24
  go_wp2_with fail
  refine hCo.out.mono ?_
  rintro e w2 ⟨cv, A, H2, rfl, l2, h2, en2, hA0, hC⟩
  obtain ⟨H3, l3, h3, hAr⟩ := h2.row_keep
  have m3 := run_makeMap (P := Tryz.prog) 82 w2
  have h4 : St H3 (Mp setC w2.heap.size (ents []) :: GrA p L :: fr) _ := h3.mp_made (C := setC)
  have en4 := en2.alloc (.map #[] 0)
  have l13 := Hp.le_trans l2 l3
  have hA := Lib.hid (hA0.mono l3)
  obtain ⟨aA, an, ac, rfl, ha1, _⟩ := hAr.form
  rw [vals_len] at ha1
  obtain rfl : an = A.length := by omega
  have hrr : Hid (z = rightB (dpsR (L.map rp)) (lists A) (lists (X.take 0)).flatten (lists (X.drop 0))) := Lib.hid (by
    rw [hz.out, List.drop_zero, Bool.eq_iff_iff, decide_eq_true_eq]
    exact (rightOf_eq hC).symm)
  have hin := Lib.hid (fun (c : List Id) (hne : c ≠ []) (hc : c ∈ lists A) => at_is hC (kfR_id _) hne hc)
  have hcl := Lib.hid (fun (c : List Id) (hc : c ∈ lists A) => comp_len hC hc)
  have hOu := Lib.hid (fun (u : Value) (a : List Id) (H' : Hp) (fr : List HA) (w : World) (hl : Hp.le H3 H') (h : St H' (GrA p L :: fr) w) (hu : Rd H' 2 u (idl a)) (hal : a.length ≤ L.length) => canOut_any p L u a H' fr w h (hg.out.mono (Hp.le_trans l13 hl)) hu (by omega))
  unfold OutR at hOu
  generalize dpsR (L.map rp) = nx at *
  clear hCo h2 h3 en2 hA0 hC ha1 hz hg
  go_wp2_with fail
  generalize w2.alloc (.map #[] 0) = W4 at *
  generalize w2.heap.size = gm at *
  go_loopw [19] (fun s19 wr => ∃ (k : Nat) (H' : Hp) (D : List Id), k ≤ X.length ∧ s19 = .int .i64 (k : Int) ∧ Hp.le H3 H' ∧ St H' (Mp setC gm (ents D) :: GrA p L :: fr) wr ∧ Env w wr ∧ Hid (∀ a, a ∈ D ↔ a ∈ (lists (X.take k)).flatten) ∧ Hid (z = rightB nx (lists A) (lists (X.take k)).flatten (lists (X.drop k)))) (fun s19 _ => X.length - (intOf s19).toNat)
  case atStart => exact ⟨0, H3, [], by omega, by go_num, Hp.le_refl _, h4, en4, Lib.hid (by simp [lists]), hrr⟩
  case round =>
    clear h4 en4 hrr m3
    obtain ⟨k, H4, D, hk, rfl, l4, hst, hen, hD, hz⟩ := hrel
    by_cases hlt : k < X.length
    · obtain ⟨b, off, hAe, hcr⟩ := ((hv.mono (Hp.le_trans l13 l4)).rw hst).cells (by omega)
      cases hAe
      have q0 := hcr _ _ (vals_get X k hlt)
      rw [Nat.mul_one] at q0
      clear hcr
      have ql := World.block_lt_of_cell? _ _ q0
      have hxr := (hX.out X[k] (List.getElem_mem hlt)).mono (Hp.le_trans l13 l4)
      have hzs := hz.out.trans (right_step nx (lists A) X k hlt hD.out)
      have hfl := Lib.hid (flatl_step X k hlt)
      have hk1 := Lib.hid (show k + 1 ≤ X.length by omega)
      generalize X[k] = x at *
      obtain ⟨xl, xv⟩ := x
      obtain ⟨xA, xn, xc, rfl, hx1, hx2, _⟩ := hxr.form
      simp only at hx1 hxr hzs q0 hfl
      rw [idl_len] at hx1
      obtain rfl : xn = xl.length := by omega
      clear hx1
      by_cases hx0 : xl.length = 0
      · obtain rfl := List.eq_nil_of_length_eq_zero hx0
        rw [mayB_nil, Bool.false_and] at hzs
        have hq := Lib.hid (hfin.out H4 wr (Hp.le_trans l13 l4) (hst.swap.drop |> fun _ => hst.drop) hen)
        rw [hzs] at hq
        clear hfin hst hen hz hzs
        go_wp2_with fail
        exact hq.out
      · have hpos : 0 < xl.length := by omega
        have hposi : (0 : Int) < (xl.length : Int) := by omega
        have hne0 : ((xl.length : Int) == 0) = false := by rw [beq_eq_false_iff_ne]; omega
        have hnil : xl ≠ [] := fun e => hx0 (by rw [e]; rfl)
        obtain ⟨tb, toff, hAe, htc⟩ := Rd.form2 hxr hpos
        cases hAe
        have t0 := htc _ _ (idl_fst xl 0 hpos)
        have t1 := htc _ _ (idl_snd xl 0 hpos)
        rw [Nat.zero_mul, Nat.add_zero] at t0
        rw [Nat.zero_mul, Nat.zero_add] at t1
        have hhd := hdI_at hpos
        generalize xl[0] = a at *
        obtain ⟨a0, a1⟩ := a
        simp only at t0 t1
        have u0 := hst.cell t0
        have u1 := hst.cell t1
        have ul := World.block_lt_of_cell? _ _ u0
        have hlk : (Instr.lookup 82 (.map (some gm)) (.agg #[.int .i64 a0, .int .i64 a1]) false).run Tryz.prog wr = .ok (.bool (decide ((a0, a1) ∈ D))) wr := by
          have := hst.mp_get false Tryz.underlying82 (zero_bool _) (a0, a1)
          rwa [ents_look] at this
        clear hx0 htc
        by_cases hhad : (a0, a1) ∈ D
        · rw [decide_eq_true hhad] at hlk
          rw [mayB_had (by rw [hhd]; exact hhad), Bool.false_and] at hzs
          have hq := Lib.hid (hfin.out H4 wr (Hp.le_trans l13 l4) hst.drop hen)
          rw [hzs] at hq
          clear hfin hst hen hz hzs hhad hhd
          go_wp2_with fail
          exact hq.out
        · rw [decide_eq_false hhad] at hlk
          have hAt := Lib.hid (compsAt_any (.slice aA A.length ac) A (a0, a1) wr ⟨(hAr.mono l4).rw hst, fun y hy => ((hA.out y hy).mono l4).rw hst⟩)
          have hin2 := hin.out xl hnil
          rw [hhd] at hin2
          replace hin2 := Lib.hid hin2
          have hsp := atFrom_spec (a0, a1) (lists A) 0
          unfold AtR at hAt
          generalize hat : atFrom (a0, a1) (lists A) 0 = at_ at *
          replace hzs := Lib.hid hzs
          replace hsp := Lib.hid hsp
          have hhd2 := Lib.hid (show hdI xl ∉ D by rw [hhd]; exact hhad)
          clear hhad hhd hat
          go_wp2_with fail
          refine hAt.out.mono ?_
          rintro e w5 ⟨rfl, hb5⟩
          have h5 := hst.below hb5
          have en5 := hen.trans (bel_env hb5)
          clear hAt hlk u0 u1 ul q0 ql hst hen hb5
          rcases hsp.out with ⟨hm1, hnot⟩ | ⟨i, hi, hie, hmi⟩
          · have hmem : xl ∉ lists A := fun hm => by
              obtain ⟨j, hj, h1, h2⟩ := hin2.out hm
              omega
            have hzf := hzs.out
            rw [mayB_not hmem, Bool.false_and] at hzf
            have hq := Lib.hid (hfin.out H4 w5 (Hp.le_trans l13 l4) h5.drop en5)
            rw [hzf] at hq
            have hm0 : at_ < 0 := by omega
            clear hfin h5 en5 hz hzs hzf hmem hsp hin2 hnot
            go_wp2_with fail
            exact hq.out
          · rw [lists_len16] at hi
            have hie2 : at_ = (i : Int) := by omega
            subst hie2
            have hi0 : ¬ (i : Int) < 0 := by omega
            have hi1 : (i : Int) < (A.length : Int) := by omega
            have hi2 : (0 : Int) ≤ (i : Int) := by omega
            have hAi : (lists A)[i]'(by rw [lists_len16]; exact hi) = A[i].1 := lists_at A i hi
            have hmem : xl ∈ lists A ↔ A[i].1 = xl := by
              rw [← hAi]
              constructor
              · intro hm
                obtain ⟨j, hj, h1, h2⟩ := hin2.out hm
                have : j = i := by omega
                subst this
                exact h2
              · intro e
                rw [← e]
                exact List.getElem_mem _
            obtain ⟨b2, off2, hAe, hcr⟩ := ((hAr.mono l4).rw h5).cells (by omega)
            cases hAe
            have p0 := hcr _ _ (vals_get A i hi)
            rw [Nat.mul_one] at p0
            have p0l := World.block_lt_of_cell? _ _ p0
            have hyr := (hA.out A[i] (List.getElem_mem hi)).mono l4
            clear hcr hAi hmi hie hsp hin2
            generalize A[i] = y at *
            obtain ⟨yl, yv⟩ := y
            obtain ⟨yA, yn, yc, rfl, _⟩ := hyr.form
            simp only at hyr hmem p0
            have hEq := Lib.hid (equalIds_any (.slice yA yn yc) (.slice (some ⟨tb, toff, none⟩) xl.length xc) yl xl w5 (hyr.rw h5) (hxr.rw h5))
            replace hmem := Lib.hid hmem
            go_wp2_with fail
            refine hEq.out.mono ?_
            rintro e w6 ⟨rfl, hb6⟩
            have h6 := h5.below hb6
            have en6 := en5.trans (bel_env hb6)
            clear hEq p0 p0l h5 en5 hb6
            by_cases heq : yl = xl
            · rw [decide_eq_true heq]
              have hmem2 := Lib.hid (hmem.out.2 heq)
              have hxll := hcl.out xl hmem2.out
              have hO := Lib.hid (hOu.out (.slice (some ⟨tb, toff, none⟩) xl.length xc) xl H4 (Mp setC gm (ents D) :: fr) w6 l4 h6.swap hxr hxll)
              clear hmem heq h6 hyr hi1 hi2
              go_wp2_with fail
              refine hO.out.mono ?_
              rintro e w7 ⟨ov, H5, rfl, l5, h7, en7⟩
              replace en7 := en6.trans en7
              obtain ⟨H6, l6, h8, hor⟩ := h7.row_keep
              replace h8 := h8.swap
              have l46 := Hp.le_trans l5 l6
              replace hxr := hxr.mono l46
              obtain ⟨O, hOe⟩ : ∃ O, outP nx xl = O := ⟨_, rfl⟩
              rw [hOe] at hor
              obtain ⟨oA, on, oc, rfl, ho1, _⟩ := hor.form
              rw [idl_len] at ho1
              obtain rfl : on = O.length := by omega
              have hOb := hor.bound
              replace hOe := Lib.hid hOe
              clear ho1 h7 hO en6
              go_wp2_with fail
              go_loopw [53] (fun s53 wr => ∃ (m : Nat) (H' : Hp), m ≤ O.length ∧ s53 = .int .i64 (m : Int) ∧ Hp.le H6 H' ∧ St H' (Mp setC gm (ents D) :: GrA p L :: fr) wr ∧ Env w wr ∧ Hid (∀ d ∈ O.take m, d ∈ D)) (fun s53 _ => O.length - (intOf s53).toNat)
              case atStart => exact ⟨0, H6, by omega, by go_num, Hp.le_refl _, h8, en7, Lib.hid (by simp)⟩
              case round =>
                clear h8 en7
                obtain ⟨m, H7, hm, rfl, l7, hst, hen, hal⟩ := hrel
                have l47 := Hp.le_trans l46 l7
                by_cases hmt : m < O.length
                · obtain ⟨b3, off3, hAe, hcr⟩ := ((hor.mono l7).rw hst).cells (by omega)
                  cases hAe
                  have r0 := hcr _ _ (idl_fst O m hmt)
                  have r1 := hcr _ _ (idl_snd O m hmt)
                  rw [← Nat.add_assoc] at r1
                  have rl := World.block_lt_of_cell? _ _ r0
                  have hdO := List.getElem_mem hmt
                  have htk : O.take (m + 1) = O.take m ++ [O[m]] := List.take_succ_eq_append_getElem hmt
                  have hm1 := Lib.hid (show m + 1 ≤ O.length by omega)
                  generalize O[m] = d at *
                  obtain ⟨H8, l8, h9, y⟩ := hst.box #[.int .i64 d.1, .int .i64 d.2] 41
                  have v0 := h9.cell (show H8.cell wr.heap.size 0 = some (.int .i64 d.1) from y 0 _ rfl)
                  have v1 := h9.cell (show H8.cell wr.heap.size 1 = some (.int .i64 d.2) from y 1 _ rfl)
                  have vl := World.block_lt_of_cell? _ _ v0
                  have en9 := hen.alloc (.cells #[.int .i64 d.1, .int .i64 d.2] 41)
                  obtain ⟨d0, d1⟩ := d
                  have hlk : (Instr.lookup 82 (.map (some gm)) (.agg #[.int .i64 d0, .int .i64 d1]) false).run Tryz.prog (wr.alloc (.cells #[.int .i64 d0, .int .i64 d1] 41)) = .ok (.bool (decide ((d0, d1) ∈ D))) (wr.alloc (.cells #[.int .i64 d0, .int .i64 d1] 41)) := by
                    have := h9.mp_get false Tryz.underlying82 (zero_bool _) (d0, d1)
                    rwa [ents_look] at this
                  simp only at r0 r1 v0 v1 h9 en9
                  clear hcr y hst hen
                  by_cases hdD : (d0, d1) ∈ D
                  · rw [decide_eq_true hdD] at hlk
                    have hal2 : Hid (∀ d ∈ O.take (m + 1), d ∈ D) := Lib.hid (fun d hd => by
                      rw [htk] at hd
                      rcases List.mem_append.1 hd with hd | hd
                      · exact hal.out d hd
                      · rw [List.mem_singleton] at hd; subst hd; exact hdD)
                    clear hdD hdO htk
                    go_wp2_with fail
                    go_roundw
                    case rel => exact ⟨m + 1, H8, hm1.out, by go_num, Hp.le_trans l7 l8, h9, en9, hal2⟩
                    case measure => simp [intOf]; have := hm1.out; omega
                  · rw [decide_eq_false hdD] at hlk
                    have hzf := hzs.out
                    rw [mayB_out (by rw [hOe.out]; exact hdO) hdD, Bool.false_and] at hzf
                    have hq := Lib.hid (hfin.out H8 _ (Hp.le_trans l13 (Hp.le_trans l4 (Hp.le_trans l47 l8))) h9.drop en9)
                    rw [hzf] at hq
                    clear hfin h9 en9 hz hzs hzf hdD hdO htk
                    go_wp2_with fail
                    exact hq.out
                · obtain rfl : m = O.length := by omega
                  rw [List.take_length] at hal
                  have hzn : Hid (z = rightB nx (lists A) (lists (X.take (k + 1))).flatten (lists (X.drop (k + 1)))) := Lib.hid (by
                    rw [hzs.out, mayB_yes hmem2.out hnil hhd2.out (fun d hd => hal.out d (by rw [← hOe.out]; exact hd)), Bool.true_and])
                  have h9 : St H7 (Mp setC gm (ents (addA D (xl.take 0))) :: GrA p L :: fr) wr := hst
                  clear hst hzs hal
                  go_wp2_with fail
                  go_loopw [64] (fun s64 wr => ∃ (q : Nat) (H' : Hp), q ≤ xl.length ∧ s64 = .int .i64 (q : Int) ∧ Hp.le H7 H' ∧ St H' (Mp setC gm (ents (addA D (xl.take q))) :: GrA p L :: fr) wr ∧ Env w wr) (fun s64 _ => xl.length - (intOf s64).toNat)
                  case atStart => exact ⟨0, H7, by omega, by go_num, Hp.le_refl _, h9, hen⟩
                  case round =>
                    clear h9 hen
                    obtain ⟨q, H8, hq, rfl, l8, hst, hen⟩ := hrel
                    by_cases hqt : q < xl.length
                    · obtain ⟨b3, off3, hAe, hcr⟩ := ((hxr.mono (Hp.le_trans l7 l8)).rw hst).cells (by omega)
                      cases hAe
                      have r0 := hcr _ _ (idl_fst xl q hqt)
                      have r1 := hcr _ _ (idl_snd xl q hqt)
                      rw [← Nat.add_assoc] at r1
                      have rl := World.block_lt_of_cell? _ _ r0
                      clear hcr
                      have hP : Hid (mput xl[q] () (ents (addA D (xl.take q))) = ents (addA D (xl.take (q + 1)))) := Lib.hid (by rw [addA_snoc D xl q hqt, ents_put])
                      have hq1 := Lib.hid (show q + 1 ≤ xl.length by omega)
                      generalize xl[q] = d at *
                      obtain ⟨H9, l9, h10, y⟩ := hst.box #[.int .i64 d.1, .int .i64 d.2] 41
                      have v0 := h10.cell (show H9.cell wr.heap.size 0 = some (.int .i64 d.1) from y 0 _ rfl)
                      have v1 := h10.cell (show H9.cell wr.heap.size 1 = some (.int .i64 d.2) from y 1 _ rfl)
                      have vl := World.block_lt_of_cell? _ _ v0
                      have en10 := hen.alloc (.cells #[.int .i64 d.1, .int .i64 d.2] 41)
                      clear y hst hen
                      obtain ⟨d0, d1⟩ := d
                      simp only at r0 r1 v0 v1
                      go_wp2_with (at_mapUpdate; refine wpList_mput h10 rfl (.tmp 68) (.tmp 69) (.const (.bool true)) rfl Tryz.underlying82 rfl (d0, d1) rfl () rfl ?_; intro w11 h11 en11)
                      replace en11 := en10.trans en11
                      rw [hP.out] at h11
                      clear h10 en10 v0 v1 vl r0 r1 rl
                      go_roundw
                      case rel => exact ⟨q + 1, H9, hq1.out, by go_num, Hp.le_trans l8 l9, h11, en11⟩
                      case measure => simp [intOf]; have := hq1.out; omega
                    · obtain rfl : q = xl.length := by omega
                      rw [List.take_length] at hst
                      have hD2 : Hid (∀ d, d ∈ addA D xl ↔ d ∈ (lists (X.take (k + 1))).flatten) := Lib.hid (fun d => by
                        rw [addA_mem, hD.out d, hfl.out, List.mem_append])
                      clear hD hfl
                      go_wp2_with fail
                      go_roundw
                      case rel => exact ⟨k + 1, H8, addA D xl, hk1.out, by go_num, Hp.le_trans l4 (Hp.le_trans l47 l8), hst, hen, hD2, hzn⟩
                      case measure => simp [intOf]; have := hk1.out; omega
            · rw [decide_eq_false heq]
              have hzf := hzs.out
              rw [mayB_not (fun hm => heq (hmem.out.1 hm)), Bool.false_and] at hzf
              have hq := Lib.hid (hfin.out H4 w6 (Hp.le_trans l13 l4) h6.drop en6)
              rw [hzf] at hq
              clear hfin h6 en6 hz hzs hzf hmem heq
              go_wp2_with fail
              exact hq.out
    · obtain rfl : k = X.length := by omega
      have hzt : z = true := by rw [hz.out, List.drop_length]; rfl
      have hq := Lib.hid (hfin.out H4 wr (Hp.le_trans l13 l4) hst.drop hen)
      rw [hzt] at hq
      clear hfin hz hst hen hzt
      go_wp2_with fail
      exact hq.out
end Go.Proofs.YtcbckeoalmjcoaaGreat
