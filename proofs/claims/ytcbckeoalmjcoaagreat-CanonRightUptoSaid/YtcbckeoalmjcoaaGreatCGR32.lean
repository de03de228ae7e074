/- Joined texts: CRefS. -/
import Derived.Test.YtcbckeoalmjcoaaGreatCGR20
import Derived.Test.YtcbckeoalmjcoaaGreatCGR31
/- Reference 17: Sorted. -/
set_option linter.unusedVariables false
set_option linter.unusedSimpArgs false
namespace Go.Proofs.YtcbckeoalmjcoaaGreat
open Go.RowKit Go.Cw Go.Fl
attribute [local go_sem ↓] eql_id neq_id
/-- What the reference's Sorted tells. -/
def RSortR (l : List Rc) (sm : List Id) (H : Hp) (fr : List HA) (w : World) (e : Ending) (w' : World) : Prop :=
  ∃ (v : Value) (R : List Id) (H' : Hp), e = .returned v ∧ Hp.le H H' ∧ St H' (Row 41 2 v (idl R) :: fr) w' ∧ Env w w' ∧ SortedOf (l.map rp) sm R
/-- A record's cells. -/
def RcC (w : World) (b o : Nat) (x : Rc) : Prop := w.cell? ⟨b, o, none⟩ = some (.int .i64 x.1.1) ∧ w.cell? ⟨b, o + 1, none⟩ = some (.int .i64 x.1.2) ∧ w.cell? ⟨b, o + 2, none⟩ = some (.int .i64 x.2.1) ∧ w.cell? ⟨b, o + 3, none⟩ = some x.2.2.1 ∧ w.cell? ⟨b, o + 4, none⟩ = some x.2.2.2.1
set_option maxRecDepth 100000 in
set_option maxHeartbeats 16000000 in
theorem ref17Sorted_any (u v : Value) (l : List Rc) (sm : List Id) (H : Hp) (fr : List HA) (w : World) (h : St H fr w) (hx : Rd H 5 u (recs l)) (hl : ∀ x ∈ l, RcD H x) (hlen : l.length ≤ 1000) (hv : Rd H 2 v (idl sm)) (hsl : sm.length ≤ 1000) :
    Calls Tryz.prog 17 #[u, v] w (RSortR l sm H fr w) := by
  have hfin : ∀ (v : Value) (R : List Id) (w' : World), St H (Row 41 2 v (idl R) :: fr) w' → Env w w' → SortedOf (l.map rp) sm R → RSortR l sm H fr w (.returned v) w' := fun v R w' h2 h3 h4 => ⟨v, R, H, rfl, Hp.le_refl _, h2, h3, h4⟩
  generalize RSortR l sm H fr w = Q at *
  replace hfin := Lib.hid hfin
  replace hl := Lib.hid hl
  obtain ⟨uA, un, uc, rfl, hu1, hu2, _⟩ := hx.form
  rw [recs_len] at hu1
  obtain rfl : un = l.length := by omega
  obtain ⟨vA, vn, vc, rfl, hv1, hv2, _⟩ := hv.form
  rw [idl_len] at hv1
  obtain rfl : vn = sm.length := by omega
  clear hu1 hv1
  have hFi := Lib.hid (fun (w' : World) (fr' : List HA) (a : Id) (h' : St H fr' w') => find_any _ l a w' (hx.rw h'))
  have h1 := h.row_lit 41 2 0 #[] rfl (by decide)
  have en1 := (Env.refl w).alloc (.cells #[] 41)
  have hI0 : Hid (RsI (l.map rp) sm [] 0) := Lib.hid ⟨by simp [KR, KRises], by simp⟩
  clear h
  go_enter Tryz.func17, Tryz.ntmps17
  go_wp2_with fail
  generalize w.alloc (.cells #[] 41) = W at *
  generalize w.heap.size = gz at *
  go_loopw [5, 6] (fun s5 s6 wr => ∃ (k : Nat) (out : List Id), k ≤ sm.length ∧ s6 = .int .i64 (k : Int) ∧ St H (Row 41 2 s5 (idl out) :: fr) wr ∧ Env w wr ∧ Hid (RsI (l.map rp) sm out k)) (fun _ s6 _ => sm.length - (intOf s6).toNat)
  case atStart => exact ⟨0, [], by omega, by go_num, h1, en1, hI0⟩
  case round =>
    clear h1 en1 hI0
    obtain ⟨k, out, hk, rfl, hst, hen, hI⟩ := hrel
    obtain ⟨oA, on, oc, rfl, ho1, ho2, _⟩ := hst.row_form
    rw [idl_len] at ho1
    obtain rfl : on = out.length := by omega
    clear ho1
    have hol := hI.out.len
    by_cases hlt : k < sm.length
    · obtain ⟨b, off, hA, hcr⟩ := Rd.form2 hv (by omega)
      cases hA
      have q0 := hcr _ _ (idl_fst sm k hlt)
      have q1 := hcr _ _ (idl_snd sm k hlt)
      rw [← Nat.add_assoc] at q1
      clear hcr
      have hsk := Lib.hid (fun hs => RsI.skip hlt hI.out hs)
      have hpu := Lib.hid (fun h1 h2 => RsI.put hlt hI.out h1 h2)
      have hom : Hid (∀ a ∈ out, a ∈ rids l) := Lib.hid (fun a ha => by have := ((hI.out.mem a).1 ha).2; rwa [pids_rp] at this)
      generalize sm[k] = x at *
      obtain ⟨x0, x1⟩ := x
      simp only at q0 q1
      have p0 := hst.cell q0
      have p1 := hst.cell q1
      have pl := World.block_lt_of_cell? _ _ p0
      have hk1 := Lib.hid (show k + 1 ≤ sm.length by omega)
      have hF1 := Lib.hid (hFi.out wr _ (x0, x1) hst)
      by_cases hxl : (x0, x1) ∈ rids l
      · obtain ⟨i, hi, hfi, hky⟩ := find_key (x0, x1) l hxl
        rw [hfi] at hF1
        have hin : decide ((i : Int) < 0) = false := decide_eq_false (by omega)
        have hin2 : ¬ ((i : Int) < 0) := by omega
        go_wp2_with fail
        refine hF1.out.mono ?_
        rintro e w3 ⟨rfl, hb3⟩
        have h3 := hst.below hb3
        have en3 := hen.trans (bel_env hb3)
        have p0 := h3.cell q0
        have p1 := h3.cell q1
        have pl := World.block_lt_of_cell? _ _ p0
        have hHs := Lib.hid (hasIds_any (.slice oA out.length oc) out (x0, x1) w3 (h3.row_rw (by decide)))
        clear hst hen hb3 hF1
        go_wp2_with fail
        refine hHs.out.mono ?_
        rintro e w4 ⟨rfl, hb4⟩
        have h4 := h3.below hb4
        have en4 := en3.trans (bel_env hb4)
        clear h3 en3 hHs hb4 p0 p1 pl
        by_cases hxo : (x0, x1) ∈ out
        · rw [decide_eq_true hxo]
          have hI2 := Lib.hid (hsk.out (.inr hxo))
          clear hsk hpu hky hfi hxo hxl
          go_wp2_with fail
          go_roundw
          case rel => exact ⟨k + 1, out, hk1.out, by go_num, h4, en4, hI2⟩
          case measure => simp [intOf]; omega
        · rw [decide_eq_false hxo]
          have hI2 := Lib.hid (hpu.out (by rw [pids_rp]; exact hxl) hxo)
          clear hsk hpu hfi hxo hxl
          have h5 := h4.row_lit 41 2 0 #[] rfl (by decide)
          have en5 := en4.alloc (.cells #[] 41)
          clear h4 en4
          go_wp2_with fail
          generalize w4.alloc (.cells #[] 41) = W4 at *
          generalize w4.heap.size = gy at *
          have hE0 : Hid (insI (kfR (l.map rp)) (x0, x1) out = [] ++ insR (kfR (l.map rp)) (x0, x1) false (out.drop 0)) := Lib.hid (by unfold insR; rfl)
          obtain ⟨ub, uoff, hA, hrc⟩ := Rd.form2 hx (by omega)
          cases hA
          obtain ⟨c0, c1, c2, c3, c4⟩ := recs_get l i hi
          replace c0 := hrc _ _ c0
          replace c1 := hrc _ _ c1
          replace c2 := hrc _ _ c2
          replace c3 := hrc _ _ c3
          replace c4 := hrc _ _ c4
          rw [← Nat.add_assoc] at c1 c2 c3 c4
          obtain ⟨d1, d2, d3, hdv, _⟩ := (hl.out _ (List.getElem_mem hi)).d.form
          obtain ⟨b1, b2, b3, hbv, _⟩ := (hl.out _ (List.getElem_mem hi)).b.form
          rw [hdv] at c3
          rw [hbv] at c4
          have hRl : ∀ (y : Rc) (w' : World), Calls Tryz.prog 48 #[recV l[i], recV y] w' fun e w'' => e = .returned (.bool (kLt (kfR (l.map rp) (x0, x1)) (ky y))) ∧ Below w'.heap.size w' w'' := fun y w' => by
            have := refLess_any l[i] y w'
            rwa [hky] at this
          generalize hXe : l[i] = X at *
          obtain ⟨⟨xr, xs⟩, xq, xdv, xbv, xD, xB⟩ := X
          simp only at hdv hbv
          subst hdv hbv
          simp only at c0 c1 c2
          change ∀ (y : Rc) (w' : World), Calls Tryz.prog 48 #[.agg #[.int .i64 xr, .int .i64 xs, .int .i64 xq, .slice d1 d2 d3, .slice b1 b2 b3], recV y] w' fun e w'' => e = .returned (.bool (kLt (kfR (l.map rp) (x0, x1)) (ky y))) ∧ Below w'.heap.size w' w'' at hRl
          replace hRl := Lib.hid hRl
          clear hky hXe hin hin2
          go_loopw [8, 9, 10] (fun s8 s9 s10 wr => ∃ (j : Nat) (nxt : List Id) (d : Bool), j ≤ out.length ∧ s10 = .int .i64 (j : Int) ∧ s9 = .bool d ∧ St H (Row 41 2 s8 (idl nxt) :: Row 41 2 (.slice oA out.length oc) (idl out) :: fr) wr ∧ Env w wr ∧ Hid (insI (kfR (l.map rp)) (x0, x1) out = nxt ++ insR (kfR (l.map rp)) (x0, x1) d (out.drop j))) (fun _ _ s10 _ => out.length - (intOf s10).toNat)
          case atStart => exact ⟨0, [], false, by omega, by go_num, rfl, h5, en5, hE0⟩
          case round =>
            clear h5 en5 hE0
            obtain ⟨j, nxt, d, hj, rfl, rfl, hst, hen, hE⟩ := hrel
            have hnl : nxt.length ≤ out.length + 1 := by
              have := congrArg List.length hE.out
              rw [insI_len, List.length_append] at this
              omega
            by_cases hjt : j < out.length
            · obtain ⟨ob, ooff, hA, hcr⟩ := ((hst.pick 1 (by simp)).row_rw (by decide)).cells (by omega)
              cases hA
              have hq : ∀ (l' : List HA) (w' : World), St H (Row 41 2 (.slice (some ⟨ob, ooff, none⟩) out.length oc) (idl out) :: l') w' → w'.cell? ⟨ob, ooff + j * 2, none⟩ = some (.int .i64 out[j].1) ∧ w'.cell? ⟨ob, ooff + j * 2 + 1, none⟩ = some (.int .i64 out[j].2) := fun l' w' h' => by
                obtain ⟨_, _, hA, hcr⟩ := (h'.row_rw (by decide)).cells (by omega)
                cases hA
                have a0 := hcr _ _ (idl_fst out j hjt)
                have a1 := hcr _ _ (idl_snd out j hjt)
                rw [← Nat.add_assoc] at a1
                exact ⟨a0, a1⟩
              have hyl : out[j] ∈ rids l := hom.out _ (List.getElem_mem hjt)
              have sD := Lib.hid (insR_done (kfR (l.map rp)) (x0, x1) out j hjt)
              have sL := Lib.hid (insR_less (kfR (l.map rp)) (x0, x1) out j hjt)
              have sN := Lib.hid (insR_not (kfR (l.map rp)) (x0, x1) out j hjt)
              have hj1 := Lib.hid (show j + 1 ≤ out.length by omega)
              clear hcr
              generalize out[j] = y at *
              obtain ⟨y0, y1⟩ := y
              simp only at hq
              cases d with
              | true =>
                have hE2 : Hid (insI (kfR (l.map rp)) (x0, x1) out = (nxt ++ [(y0, y1)]) ++ insR (kfR (l.map rp)) (x0, x1) true (out.drop (j + 1))) := Lib.hid (by rw [hE.out, sD.out]; simp)
                clear sD sL sN hyl hE
                go_wp2_with fail
                go_quiet (fail)
                have hst3 := hst.drewN nq
                have en3 : Env w (wr.drewN nq) := hen.drewN nq
                generalize wr.drewN nq = w3 at *
                obtain ⟨r0, r1⟩ := hq _ _ hst3.swap
                have rl := World.block_lt_of_cell? _ _ r0
                clear hst hen hq
                go_wp2_with (at_builtin; refine wpList_append rfl (.tmp 66) (.tmp 71) 35 35 rfl Tryz.underlying35 (.inl ⟨_, Tryz.underlying35⟩) (.agg #[.int .i64 0, .int .i64 0]) 16 info_id rfl (by decide) (by decide) rfl rfl (hst3.alloc _) (News.new w3 _ 1 #[.int .i64 y0, .int .i64 y1] rfl (by simp [Value.oneCell'])) ?apB5 ?apK5)
                case apB5 => first | (rw [idl_len]; omega) | (rw [idl_len]; simp; omega)
                case apK5 =>
                  intro lv2 w6 h6 en6
                  replace en6 := (en3.alloc _).trans en6
                  have h7 : St H (Row 41 2 lv2 (idl (nxt ++ [(y0, y1)])) :: Row 41 2 (.slice (some ⟨ob, ooff, none⟩) out.length oc) (idl out) :: fr) w6 := by rw [idl_append]; exact h6
                  clear r0 r1 rl hst3 h6
                  go_wp2_with fail
                  go_roundw
                  case rel => exact ⟨j + 1, _, true, hj1.out, by go_num, rfl, h7, en6, hE2⟩
                  case measure => simp [intOf]; omega
              | false =>
                obtain ⟨i2, hi2, hfi2, hky2⟩ := find_key (y0, y1) l hyl
                obtain ⟨e0, e1, e2, e3, e4⟩ := recs_get l i2 hi2
                replace e0 := hrc _ _ e0
                replace e1 := hrc _ _ e1
                replace e2 := hrc _ _ e2
                replace e3 := hrc _ _ e3
                replace e4 := hrc _ _ e4
                rw [← Nat.add_assoc] at e1 e2 e3 e4
                obtain ⟨f1, f2, f3, hdv2, _⟩ := (hl.out _ (List.getElem_mem hi2)).d.form
                obtain ⟨g1, g2, g3, hbv2, _⟩ := (hl.out _ (List.getElem_mem hi2)).b.form
                rw [hdv2] at e3
                rw [hbv2] at e4
                have hRy := fun w' => hRl.out l[i2] w'
                rw [hky2] at hRy
                generalize l[i2] = Y at *
                obtain ⟨⟨yr, ys⟩, yq, ydv, ybv, yD, yB⟩ := Y
                simp only at hdv2 hbv2
                subst hdv2 hbv2
                simp only at e0 e1 e2
                change ∀ (w' : World), Calls Tryz.prog 48 #[.agg #[.int .i64 xr, .int .i64 xs, .int .i64 xq, .slice d1 d2 d3, .slice b1 b2 b3], .agg #[.int .i64 yr, .int .i64 ys, .int .i64 yq, .slice f1 f2 f3, .slice g1 g2 g3]] w' fun e w'' => e = .returned (.bool (kLt (kfR (l.map rp) (x0, x1)) (kfR (l.map rp) (y0, y1)))) ∧ Below w'.heap.size w' w'' at hRy
                replace hRy := Lib.hid hRy
                have kk : ∀ (l' : List HA) (w' : World), St H (Row 41 2 (.slice (some ⟨ob, ooff, none⟩) out.length oc) (idl out) :: l') w' → (w'.cell? ⟨ob, ooff + j * 2, none⟩ = some (.int .i64 y0) ∧ w'.cell? ⟨ob, ooff + j * 2 + 1, none⟩ = some (.int .i64 y1)) ∧ (w'.cell? ⟨ub, uoff + i * 5, none⟩ = some (.int .i64 xr) ∧ w'.cell? ⟨ub, uoff + i * 5 + 1, none⟩ = some (.int .i64 xs) ∧ w'.cell? ⟨ub, uoff + i * 5 + 2, none⟩ = some (.int .i64 xq) ∧ w'.cell? ⟨ub, uoff + i * 5 + 3, none⟩ = some (.slice d1 d2 d3) ∧ w'.cell? ⟨ub, uoff + i * 5 + 4, none⟩ = some (.slice b1 b2 b3)) ∧ (w'.cell? ⟨ub, uoff + i2 * 5, none⟩ = some (.int .i64 yr) ∧ w'.cell? ⟨ub, uoff + i2 * 5 + 1, none⟩ = some (.int .i64 ys) ∧ w'.cell? ⟨ub, uoff + i2 * 5 + 2, none⟩ = some (.int .i64 yq) ∧ w'.cell? ⟨ub, uoff + i2 * 5 + 3, none⟩ = some (.slice f1 f2 f3) ∧ w'.cell? ⟨ub, uoff + i2 * 5 + 4, none⟩ = some (.slice g1 g2 g3)) :=
                  fun l' w' h' => ⟨hq l' w' h', ⟨h'.cell c0, h'.cell c1, h'.cell c2, h'.cell c3, h'.cell c4⟩, h'.cell e0, h'.cell e1, h'.cell e2, h'.cell e3, h'.cell e4⟩
                have hD := hst.drew
                have enD := hen.drew
                have kA := kk _ _ hD.swap
                have hF2 := hFi.out _ _ (y0, y1) hD
                rw [hfi2] at hF2
                replace hF2 := Lib.hid hF2
                have hb1 : (i : Int) < (l.length : Int) := by omega
                have hb2 : (i2 : Int) < (l.length : Int) := by omega
                replace kk := Lib.hid kk
                clear hst hen hky2 hfi2
                go_wp2_with fail
                refine wp_region_held_drew (S := fun w' => (w'.cell? ⟨ob, ooff + j * 2, none⟩ = some (.int .i64 y0) ∧ w'.cell? ⟨ob, ooff + j * 2 + 1, none⟩ = some (.int .i64 y1)) ∧ (w'.cell? ⟨ub, uoff + i * 5, none⟩ = some (.int .i64 xr) ∧ w'.cell? ⟨ub, uoff + i * 5 + 1, none⟩ = some (.int .i64 xs) ∧ w'.cell? ⟨ub, uoff + i * 5 + 2, none⟩ = some (.int .i64 xq) ∧ w'.cell? ⟨ub, uoff + i * 5 + 3, none⟩ = some (.slice d1 d2 d3) ∧ w'.cell? ⟨ub, uoff + i * 5 + 4, none⟩ = some (.slice b1 b2 b3)) ∧ (w'.cell? ⟨ub, uoff + i2 * 5, none⟩ = some (.int .i64 yr) ∧ w'.cell? ⟨ub, uoff + i2 * 5 + 1, none⟩ = some (.int .i64 ys) ∧ w'.cell? ⟨ub, uoff + i2 * 5 + 2, none⟩ = some (.int .i64 yq) ∧ w'.cell? ⟨ub, uoff + i2 * 5 + 3, none⟩ = some (.slice f1 f2 f3) ∧ w'.cell? ⟨ub, uoff + i2 * 5 + 4, none⟩ = some (.slice g1 g2 g3))) (by kernel_rfl) kA (fun hHeld => ?_)
                refine wpAnyH_take (i := 0) (oi := { dst := some 41, op := Go.Op.move (Go.Operand.tmp 9), type := 4, pos := "ref.go:26", after := #[], guard := none }) (v := ?_) rfl (by kernel_rfl) (by kernel_rfl) (by kernel_rfl) (fun _ _ _ h => h) (Or.inl ⟨by rfl, ?_⟩) (by assumption) ?_
                rotate_left
                · (intro w hSw; (try dsimp only at hSw); go_simp; (try (with_reducible rfl)))
                try simp only [Act.put, List.setIfInBounds_toArray, List.set_cons_zero, List.set_cons_succ]
                refine wpAnyH_take (i := 1) (oi := { dst := some 42, op := Go.Op.unOp Go.UnOp.not 4 (Go.Operand.tmp 41), type := 4, pos := "ref.go:26", after := #[{ on := 0, ground := Go.Ground.data }], guard := none }) (v := ?_) rfl (by kernel_rfl) (by kernel_rfl) (by kernel_rfl) (fun _ _ _ h => h) (Or.inl ⟨by rfl, ?_⟩) (by assumption) ?_
                rotate_left
                · (intro w hSw; (try dsimp only at hSw); go_simp; (try (with_reducible rfl)))
                try simp only [Act.put, List.setIfInBounds_toArray, List.set_cons_zero, List.set_cons_succ]
                refine wpAnyH_take (i := 2) (oi := { dst := some 43, op := Go.Op.move (Go.Operand.tmp 42), type := 4, pos := "ref.go:26", after := #[{ on := 1, ground := Go.Ground.data }], guard := none }) (v := ?_) rfl (by kernel_rfl) (by kernel_rfl) (by kernel_rfl) (fun _ _ _ h => h) (Or.inl ⟨by rfl, ?_⟩) (by assumption) ?_
                rotate_left
                · (intro w hSw; (try dsimp only at hSw); go_simp; (try (with_reducible rfl)))
                try simp only [Act.put, List.setIfInBounds_toArray, List.set_cons_zero, List.set_cons_succ]
                refine wpAnyH_take (i := 3) (oi := { dst := some 44, op := Go.Op.move (Go.Operand.tmp 0), type := 22, pos := "ref.go:26", after := #[{ on := 2, ground := Go.Ground.guard }], guard := some (2, true) }) (v := ?_) rfl (by kernel_rfl) (by kernel_rfl) (by kernel_rfl) (fun _ _ _ h => h) (Or.inl ⟨by rfl, ?_⟩) (by assumption) ?_
                rotate_left
                · (intro w hSw; (try dsimp only at hSw); go_simp; (try (with_reducible rfl)))
                try simp only [Act.put, List.setIfInBounds_toArray, List.set_cons_zero, List.set_cons_succ]
                refine wpAnyH_take (i := 4) (oi := { dst := some 45, op := Go.Op.move (Go.Operand.tmp 7), type := 3, pos := "ref.go:26", after := #[{ on := 2, ground := Go.Ground.guard }], guard := some (2, true) }) (v := ?_) rfl (by kernel_rfl) (by kernel_rfl) (by kernel_rfl) (fun _ _ _ h => h) (Or.inl ⟨by rfl, ?_⟩) (by assumption) ?_
                rotate_left
                · (intro w hSw; (try dsimp only at hSw); go_simp; (try (with_reducible rfl)))
                try simp only [Act.put, List.setIfInBounds_toArray, List.set_cons_zero, List.set_cons_succ]
                refine wpAnyH_take (i := 5) (oi := { dst := some 46, op := Go.Op.indexAddr 22 (Go.Operand.tmp 44) (Go.Operand.tmp 45), type := 0, pos := "ref.go:26", after := #[{ on := 3, ground := Go.Ground.data }, { on := 4, ground := Go.Ground.data }, { on := 2, ground := Go.Ground.guard }], guard := some (2, true) }) (v := ?_) rfl (by kernel_rfl) (by kernel_rfl) (by kernel_rfl) (fun _ _ _ h => h) (Or.inl ⟨by rfl, ?_⟩) (by assumption) ?_
                rotate_left
                · (intro w hSw; (try dsimp only at hSw); go_simp; (try (with_reducible rfl)))
                try simp only [Act.put, List.setIfInBounds_toArray, List.set_cons_zero, List.set_cons_succ]
                refine wpAnyH_take (i := 6) (oi := { dst := some 47, op := Go.Op.load 53 (Go.Operand.tmp 46), type := 53, pos := "ref.go:26", after := #[{ on := 5, ground := Go.Ground.data }, { on := 2, ground := Go.Ground.guard }], guard := some (2, true) }) (v := ?_) rfl (by kernel_rfl) (by kernel_rfl) (by kernel_rfl) (fun _ _ _ h => h) (Or.inl ⟨by rfl, ?_⟩) (by assumption) ?_
                rotate_left
                · (intro w hSw; (try dsimp only at hSw); go_simp; (try (with_reducible rfl)))
                try simp only [Act.put, List.setIfInBounds_toArray, List.set_cons_zero, List.set_cons_succ]
                refine wpAnyH_take (i := 7) (oi := { dst := some 48, op := Go.Op.move (Go.Operand.tmp 0), type := 22, pos := "ref.go:26", after := #[{ on := 2, ground := Go.Ground.guard }], guard := some (2, true) }) (v := ?_) rfl (by kernel_rfl) (by kernel_rfl) (by kernel_rfl) (fun _ _ _ h => h) (Or.inl ⟨by rfl, ?_⟩) (by assumption) ?_
                rotate_left
                · (intro w hSw; (try dsimp only at hSw); go_simp; (try (with_reducible rfl)))
                try simp only [Act.put, List.setIfInBounds_toArray, List.set_cons_zero, List.set_cons_succ]
                refine wpAnyH_take (i := 8) (oi := { dst := some 49, op := Go.Op.move (Go.Operand.tmp 0), type := 22, pos := "ref.go:26", after := #[{ on := 2, ground := Go.Ground.guard }], guard := some (2, true) }) (v := ?_) rfl (by kernel_rfl) (by kernel_rfl) (by kernel_rfl) (fun _ _ _ h => h) (Or.inl ⟨by rfl, ?_⟩) (by assumption) ?_
                rotate_left
                · (intro w hSw; (try dsimp only at hSw); go_simp; (try (with_reducible rfl)))
                try simp only [Act.put, List.setIfInBounds_toArray, List.set_cons_zero, List.set_cons_succ]
                refine wpAnyH_take (i := 9) (oi := { dst := some 50, op := Go.Op.move (Go.Operand.tmp 5), type := 35, pos := "ref.go:26", after := #[{ on := 2, ground := Go.Ground.guard }], guard := some (2, true) }) (v := ?_) rfl (by kernel_rfl) (by kernel_rfl) (by kernel_rfl) (fun _ _ _ h => h) (Or.inl ⟨by rfl, ?_⟩) (by assumption) ?_
                rotate_left
                · (intro w hSw; (try dsimp only at hSw); go_simp; (try (with_reducible rfl)))
                try simp only [Act.put, List.setIfInBounds_toArray, List.set_cons_zero, List.set_cons_succ]
                refine wpAnyH_take (i := 10) (oi := { dst := some 51, op := Go.Op.move (Go.Operand.tmp 10), type := 3, pos := "ref.go:26", after := #[{ on := 2, ground := Go.Ground.guard }], guard := some (2, true) }) (v := ?_) rfl (by kernel_rfl) (by kernel_rfl) (by kernel_rfl) (fun _ _ _ h => h) (Or.inl ⟨by rfl, ?_⟩) (by assumption) ?_
                rotate_left
                · (intro w hSw; (try dsimp only at hSw); go_simp; (try (with_reducible rfl)))
                try simp only [Act.put, List.setIfInBounds_toArray, List.set_cons_zero, List.set_cons_succ]
                refine wpAnyH_take (i := 11) (oi := { dst := some 52, op := Go.Op.indexAddr 35 (Go.Operand.tmp 50) (Go.Operand.tmp 51), type := 0, pos := "ref.go:26", after := #[{ on := 9, ground := Go.Ground.data }, { on := 10, ground := Go.Ground.data }, { on := 2, ground := Go.Ground.guard }], guard := some (2, true) }) (v := ?_) rfl (by kernel_rfl) (by kernel_rfl) (by kernel_rfl) (fun _ _ _ h => h) (Or.inl ⟨by rfl, ?_⟩) (by assumption) ?_
                rotate_left
                · (intro w hSw; (try dsimp only at hSw); go_simp; (try (with_reducible rfl)))
                try simp only [Act.put, List.setIfInBounds_toArray, List.set_cons_zero, List.set_cons_succ]
                refine wpAnyH_take (i := 12) (oi := { dst := some 53, op := Go.Op.load 41 (Go.Operand.tmp 52), type := 41, pos := "ref.go:26", after := #[{ on := 11, ground := Go.Ground.data }, { on := 2, ground := Go.Ground.guard }], guard := some (2, true) }) (v := ?_) rfl (by kernel_rfl) (by kernel_rfl) (by kernel_rfl) (fun _ _ _ h => h) (Or.inl ⟨by rfl, ?_⟩) (by assumption) ?_
                rotate_left
                · (intro w hSw; (try dsimp only at hSw); go_simp; (try (with_reducible rfl)))
                try simp only [Act.put, List.setIfInBounds_toArray, List.set_cons_zero, List.set_cons_succ]
                refine wpAnyH_ready (rs := [13]) (by kernel_rfl) (by simp) ?_
                refine AllReadyH.cons (o := { dst := some 54, op := Go.Op.call { callee := Go.Callee.value (Go.Operand.func 33), args := #[Go.Operand.tmp 49, Go.Operand.tmp 53], argTypes := #[22, 41] }, type := 3, pos := "ref.go:26", after := #[{ on := 8, ground := Go.Ground.data }, { on := 12, ground := Go.Ground.data }, { on := 2, ground := Go.Ground.chain }, { on := 2, ground := Go.Ground.guard }], guard := some (2, true) }) rfl (fun K hK => ?_) AllReadyH.nil
                go_simp
                refine hF2.out.mono ?_
                rintro e w6 ⟨rfl, hb6⟩
                have h6 := hD.below hb6
                have en6 := enD.trans (bel_env hb6)
                refine hK.out _ _ (kk.out _ _ h6.swap) (fun hHeld2 => ?_)
                clear hK K hHeld hb6
                try simp only [Act.put, List.setIfInBounds_toArray, List.set_cons_zero, List.set_cons_succ]
                refine wpAnyH_take (i := 14) (oi := { dst := some 55, op := Go.Op.indexAddr 22 (Go.Operand.tmp 48) (Go.Operand.tmp 54), type := 0, pos := "ref.go:26", after := #[{ on := 7, ground := Go.Ground.data }, { on := 13, ground := Go.Ground.data }, { on := 2, ground := Go.Ground.guard }], guard := some (2, true) }) (v := ?_) rfl (by kernel_rfl) (by kernel_rfl) (by kernel_rfl) (fun _ _ _ h => h) (Or.inl ⟨by rfl, ?_⟩) (by assumption) ?_
                rotate_left
                · (intro w hSw; (try dsimp only at hSw); go_simp; (try (with_reducible rfl)))
                try simp only [Act.put, List.setIfInBounds_toArray, List.set_cons_zero, List.set_cons_succ]
                refine wpAnyH_take (i := 15) (oi := { dst := some 56, op := Go.Op.load 53 (Go.Operand.tmp 55), type := 53, pos := "ref.go:26", after := #[{ on := 14, ground := Go.Ground.data }, { on := 2, ground := Go.Ground.guard }], guard := some (2, true) }) (v := ?_) rfl (by kernel_rfl) (by kernel_rfl) (by kernel_rfl) (fun _ _ _ h => h) (Or.inl ⟨by rfl, ?_⟩) (by assumption) ?_
                rotate_left
                · (intro w hSw; (try dsimp only at hSw); go_simp; (try (with_reducible rfl)))
                try simp only [Act.put, List.setIfInBounds_toArray, List.set_cons_zero, List.set_cons_succ]
                refine wpAnyH_ready (rs := [16]) (by kernel_rfl) (by simp) ?_
                refine AllReadyH.cons (o := { dst := some 57, op := Go.Op.call { callee := Go.Callee.value (Go.Operand.func 48), args := #[Go.Operand.tmp 47, Go.Operand.tmp 56], argTypes := #[53, 53] }, type := 4, pos := "ref.go:26", after := #[{ on := 6, ground := Go.Ground.data }, { on := 15, ground := Go.Ground.data }, { on := 13, ground := Go.Ground.chain }, { on := 2, ground := Go.Ground.guard }], guard := some (2, true) }) rfl (fun K hK => ?_) AllReadyH.nil
                go_simp
                refine (hRy.out _).mono ?_
                rintro e w7 ⟨rfl, hb7⟩
                have h7 := h6.below hb7
                have en7 := en6.trans (bel_env hb7)
                refine hK.out _ _ (kk.out _ _ h7.swap) (fun hHeld3 => ?_)
                clear hK K hHeld2 hb7
                try simp only [Act.put, List.setIfInBounds_toArray, List.set_cons_zero, List.set_cons_succ]
                refine wpAnyH_take (i := 17) (oi := { dst := some 58, op := Go.Op.pick (Go.Operand.tmp 43) (Go.Operand.tmp 57) (Go.Operand.const (Go.Value.bool false)), type := 4, pos := "ref.go:26", after := #[{ on := 2, ground := Go.Ground.data }, { on := 16, ground := Go.Ground.data }], guard := none }) (v := ?_) rfl (by kernel_rfl) (by kernel_rfl) (by kernel_rfl) (fun _ _ _ h => h) (Or.inl ⟨by rfl, ?_⟩) (by assumption) ?_
                rotate_left
                · (intro w hSw; (try dsimp only at hSw); go_simp; (try (with_reducible rfl)))
                try simp only [Act.put, List.setIfInBounds_toArray, List.set_cons_zero, List.set_cons_succ]
                refine wpAnyH_done (by kernel_rfl) ?_ _
                clear hHeld3 hF2 hRy kA hD enD h6 en6 kk
                obtain ⟨r0, r1⟩ := hq _ _ h7.swap
                have rl := World.block_lt_of_cell? _ _ r0
                have p0 := h7.cell q0
                have p1 := h7.cell q1
                have pl := World.block_lt_of_cell? _ _ p0
                cases hlt2 : kLt (kfR (l.map rp) (x0, x1)) (kfR (l.map rp) (y0, y1)) with
                | true =>
                  have hE2 : Hid (insI (kfR (l.map rp)) (x0, x1) out = (nxt ++ [(x0, x1)] ++ [(y0, y1)]) ++ insR (kfR (l.map rp)) (x0, x1) true (out.drop (j + 1))) := Lib.hid (by rw [hE.out, sL.out hlt2]; simp)
                  clear sD sL sN hE hlt2
                  go_wp2_with (at_builtin; refine wpList_append rfl (.tmp 59) (.tmp 64) 35 35 rfl Tryz.underlying35 (.inl ⟨_, Tryz.underlying35⟩) (.agg #[.int .i64 0, .int .i64 0]) 16 info_id rfl (by decide) (by decide) rfl rfl (h7.alloc _) (News.new w7 _ 1 #[.int .i64 x0, .int .i64 x1] rfl (by simp [Value.oneCell'])) ?apB6 ?apK6)
                  case apB6 => first | (rw [idl_len]; omega) | (rw [idl_len]; simp; omega)
                  case apK6 =>
                    intro lv2 w8 h8 en8
                    replace en8 := (en7.alloc _).trans en8
                    have h9 : St H (Row 41 2 lv2 (idl (nxt ++ [(x0, x1)])) :: Row 41 2 (.slice (some ⟨ob, ooff, none⟩) out.length oc) (idl out) :: fr) w8 := by rw [idl_append]; exact h8
                    clear r0 r1 rl h8 h7 p0 p1 pl
                    obtain ⟨r0, r1⟩ := hq _ _ h9.swap
                    have rl := World.block_lt_of_cell? _ _ r0
                    go_wp2_with (at_builtin; refine wpList_append rfl (.tmp 66) (.tmp 71) 35 35 rfl Tryz.underlying35 (.inl ⟨_, Tryz.underlying35⟩) (.agg #[.int .i64 0, .int .i64 0]) 16 info_id rfl (by decide) (by decide) rfl rfl (h9.alloc _) (News.new w8 _ 1 #[.int .i64 y0, .int .i64 y1] rfl (by simp [Value.oneCell'])) ?apB7 ?apK7)
                    case apB7 => first | (rw [idl_len]; omega) | (rw [idl_len]; simp; omega)
                    case apK7 =>
                      intro lv3 w10 h10 en10
                      replace en10 := (en8.alloc _).trans en10
                      have h11 : St H (Row 41 2 lv3 (idl (nxt ++ [(x0, x1)] ++ [(y0, y1)])) :: Row 41 2 (.slice (some ⟨ob, ooff, none⟩) out.length oc) (idl out) :: fr) w10 := by rw [idl_append]; exact h10
                      clear r0 r1 rl h9 h10 hq
                      go_wp2_with fail
                      go_roundw
                      case rel => exact ⟨j + 1, _, true, hj1.out, by go_num, rfl, h11, en10, hE2⟩
                      case measure => simp [intOf]; omega
                | false =>
                  have hE2 : Hid (insI (kfR (l.map rp)) (x0, x1) out = (nxt ++ [(y0, y1)]) ++ insR (kfR (l.map rp)) (x0, x1) false (out.drop (j + 1))) := Lib.hid (by rw [hE.out, sN.out hlt2]; simp)
                  clear sD sL sN hE hlt2 p0 p1 pl
                  go_wp2_with (at_builtin; refine wpList_append rfl (.tmp 66) (.tmp 71) 35 35 rfl Tryz.underlying35 (.inl ⟨_, Tryz.underlying35⟩) (.agg #[.int .i64 0, .int .i64 0]) 16 info_id rfl (by decide) (by decide) rfl rfl (h7.alloc _) (News.new w7 _ 1 #[.int .i64 y0, .int .i64 y1] rfl (by simp [Value.oneCell'])) ?apB8 ?apK8)
                  case apB8 => first | (rw [idl_len]; omega) | (rw [idl_len]; simp; omega)
                  case apK8 =>
                    intro lv2 w8 h8 en8
                    replace en8 := (en7.alloc _).trans en8
                    have h9 : St H (Row 41 2 lv2 (idl (nxt ++ [(y0, y1)])) :: Row 41 2 (.slice (some ⟨ob, ooff, none⟩) out.length oc) (idl out) :: fr) w8 := by rw [idl_append]; exact h8
                    clear r0 r1 rl h8 h7 hq
                    go_wp2_with fail
                    go_roundw
                    case rel => exact ⟨j + 1, _, false, hj1.out, by go_num, rfl, h9, en8, hE2⟩
                    case measure => simp [intOf]; omega
            · obtain rfl : j = out.length := by omega
              have hEe : Hid (insI (kfR (l.map rp)) (x0, x1) out = nxt ++ (if d then [] else [(x0, x1)])) := Lib.hid (by rw [hE.out, insR_end])
              clear hE
              cases d with
              | true =>
                have hI3 : Hid (RsI (l.map rp) sm nxt (k + 1)) := Lib.hid (by have := hEe.out; simp at this; rw [← this]; exact hI2.out)
                have h6 := hst.swap.drop
                clear hst hEe hI2
                go_wp2_with fail
                go_roundw
                case rel => exact ⟨k + 1, nxt, hk1.out, by go_num, h6, hen, hI3⟩
                case measure => simp [intOf]; omega
              | false =>
                have hI3 : Hid (RsI (l.map rp) sm (nxt ++ [(x0, x1)]) (k + 1)) := Lib.hid (by have := hEe.out; simp at this; rw [← this]; exact hI2.out)
                have h6 := hst.swap.drop
                have p0 := h6.cell q0
                have p1 := h6.cell q1
                have pl := World.block_lt_of_cell? _ _ p0
                clear hst hEe hI2
                go_wp2_with (at_builtin; refine wpList_append rfl (.tmp 75) (.tmp 80) 35 35 rfl Tryz.underlying35 (.inl ⟨_, Tryz.underlying35⟩) (.agg #[.int .i64 0, .int .i64 0]) 16 info_id rfl (by decide) (by decide) rfl rfl (h6.alloc _) (News.new wr _ 1 #[.int .i64 x0, .int .i64 x1] rfl (by simp [Value.oneCell'])) ?apB9 ?apK9)
                case apB9 => first | (rw [idl_len]; omega) | (rw [idl_len]; simp; omega)
                case apK9 =>
                  intro lv2 w8 h8 en8
                  replace en8 := (hen.alloc _).trans en8
                  have h9 : St H (Row 41 2 lv2 (idl (nxt ++ [(x0, x1)])) :: fr) w8 := by rw [idl_append]; exact h8
                  clear h8 h6 p0 p1 pl
                  go_wp2_with fail
                  go_roundw
                  case rel => exact ⟨k + 1, _, hk1.out, by go_num, h9, en8, hI3⟩
                  case measure => simp [intOf]; omega
      · obtain ⟨F, hFe⟩ : ∃ F, F = findAt (x0, x1) (rids l) 0 := ⟨_, rfl⟩
        have hFn : ¬ 0 ≤ F := by
          have := find_ge (x0, x1) l
          rw [decide_eq_false hxl, ← hFe] at this
          exact of_decide_eq_false this
        have hin : decide (F < 0) = true := decide_eq_true (by omega)
        have hin2 : F < 0 := by omega
        rw [← hFe] at hF1
        have hI2 := Lib.hid (hsk.out (.inl (by rw [pids_rp]; exact hxl)))
        clear hsk hpu hFe hxl
        go_wp2_with fail
        refine hF1.out.mono ?_
        rintro e w3 ⟨rfl, hb3⟩
        have h3 := hst.below hb3
        have en3 := hen.trans (bel_env hb3)
        clear hst hen p0 p1 pl hF1 hb3
        go_wp2_with fail
        go_roundw
        case rel => exact ⟨k + 1, out, hk1.out, by go_num, h3, en3, hI2⟩
        case measure => simp [intOf]; omega
    · obtain rfl : k = sm.length := by omega
      have hz := Lib.hid (hfin.out (.slice oA out.length oc) out wr hst hen ⟨hI.out.kr, fun a => by rw [hI.out.mem, List.take_length]⟩)
      clear hI hfin hst
      go_wp2_with fail
      exact hz.out
end Go.Proofs.YtcbckeoalmjcoaaGreat
