/- Joined texts: CRefO. -/
import Derived.Test.YtcbckeoalmjcoaaGreatCGR26
import Derived.Test.YtcbckeoalmjcoaaGreatCGR32
/- Reference 17: Of. -/
set_option linter.unusedVariables false
set_option linter.unusedSimpArgs false
namespace Go.Proofs.YtcbckeoalmjcoaaGreat
open Go.RowKit Go.Cw Go.Fl
attribute [local go_sem ↓] eql_id neq_id
/-- What the reference's Of tells. -/
def ROfR (l : List Rc) (H : Hp) (fr : List HA) (w : World) (e : Ending) (w' : World) : Prop :=
  ∃ (v : Value) (X : List Lv) (H' : Hp), e = .returned v ∧ Hp.le H H' ∧ St H' (Row 35 1 v (vals X) :: fr) w' ∧ Env w w' ∧ LvOk H' X ∧ CompsOf (l.map rp) (lists X)
theorem at_neg (a : Id) (F : List (List Id)) : (atFrom a F 0 < 0 ∧ ¬ ∃ c ∈ F, a ∈ c) ∨ (0 ≤ atFrom a F 0 ∧ ∃ c ∈ F, a ∈ c) := by
  rcases atFrom_spec a F 0 with ⟨h1, h2⟩ | ⟨i, h1, h2, h3⟩
  · exact .inl ⟨by omega, fun ⟨c, hc, ha⟩ => h2 c hc ha⟩
  · exact .inr ⟨by omega, _, List.getElem_mem h1, h3⟩
/-- What was gathered of a component. -/
def oneF (p : Id → Bool) (A : List Id) (i m : Nat) : List Id := ((A.drop i).take m).filter p
theorem oneF_snoc (p : Id → Bool) (A : List Id) (i m : Nat) (h : i + m < A.length) : oneF p A i (m + 1) = if p A[i + m] then oneF p A i m ++ [A[i + m]] else oneF p A i m := by
  unfold oneF
  rw [List.take_add_one, List.getElem?_drop, List.getElem?_eq_getElem h, List.filter_append]
  by_cases hp : p A[i + m] = true <;> simp [hp]
theorem oneF_next (p : Id → Bool) (A : List Id) (i m j : Nat) (hj : j = i + m) (h : j < A.length) : oneF p A i (m + 1) = if p A[j] then oneF p A i m ++ [A[j]] else oneF p A i m := by
  subst hj
  exact oneF_snoc p A i m h
theorem oneF_len (p : Id → Bool) (A : List Id) (i m : Nat) : (oneF p A i m).length ≤ A.length := by
  refine Nat.le_trans (List.length_filter_le ..) ?_
  rw [List.length_take, List.length_drop]
  omega
theorem oneF_end (p : Id → Bool) (A : List Id) (i m : Nat) (h : i + m = A.length) : oneF p A i m = (A.drop i).filter p := by
  unfold oneF
  rw [List.take_of_length_le (by rw [List.length_drop]; omega)]
open Classical in
set_option maxRecDepth 100000 in
set_option maxHeartbeats 16000000 in
theorem refOf_any (u : Value) (l : List Rc) (H : Hp) (fr : List HA) (w : World) (h : St H fr w) (hx : Rd H 5 u (recs l)) (hl : ∀ x ∈ l, RcD H x) (hl16 : ∀ x ∈ l, x.2.2.2.2.1.length ≤ 16) (hlen : l.length ≤ 1000) :
    Calls Tryz.prog 14 #[u] w (ROfR l H fr w) := by
  have hfin : ∀ (v : Value) (X : List Lv) (H' : Hp) (w' : World), Hp.le H H' → St H' (Row 35 1 v (vals X) :: fr) w' → Env w w' → LvOk H' X → CompsOf (l.map rp) (lists X) → ROfR l H fr w (.returned v) w' := fun v X H' w' h1 h2 h3 h4 h5 => ⟨v, X, H', rfl, h1, h2, h3, h4, h5⟩
  generalize ROfR l H fr w = Q at *
  replace hfin := Lib.hid hfin
  replace hl := Lib.hid hl
  have h1 := h.row_lit 35 1 0 #[] rfl (by decide)
  have en1 := (Env.refl w).alloc (.cells #[] 35)
  have hC := Lib.hid (refClosed_any u l H _ _ h1 hx hl.out hl16 hlen)
  clear h
  go_enter Tryz.func14, Tryz.ntmps14
  go_wp2_with fail
  generalize w.alloc (.cells #[] 35) = W at *
  generalize w.heap.size = gz at *
  refine hC.out.mono ?_
  rintro e w2 ⟨cv, C, H2, rfl, l2, h2, en2, hCr, hCm⟩
  replace en2 := en1.trans en2
  obtain ⟨H3, l3, h3, hCd⟩ := h2.row_keep
  have hCl : C.length ≤ 1000 := by
    have := sub_len16 C (rids l) (rises_nodup hCr) (fun a ha => ((hCm a).1 ha).1)
    rw [List.length_map] at this
    omega
  have l23 := Hp.le_trans l2 l3
  have hS := Lib.hid (ref17Sorted_any u cv l C H3 _ w2 h3 (hx.mono l23) (fun x hm => (hl.out x hm).mono l23) hlen hCd hCl)
  clear hC h1 h2 en1
  go_wp2_with fail
  refine hS.out.mono ?_
  rintro e w4 ⟨av, A, H4, rfl, l4, h4, en4, hA⟩
  replace en4 := en2.trans en4
  obtain ⟨H5, l5, h5, hAd⟩ := h4.row_keep
  have hAU : Hid (∀ a, a ∈ A ↔ clU (l.map rp) a) := Lib.hid (fun a => by
    rw [hA.2, hCm]
    unfold clU
    rw [pids_rp]
    exact ⟨fun h => h.1, fun h => ⟨h, h.1⟩⟩)
  have hAK := Lib.hid hA.1
  have hAl : A.length ≤ 1000 := Nat.le_trans (sub_len16 A C (kr_nodup hA.1) (fun a ha => ((hA.2 a).1 ha).1)) hCl
  obtain ⟨aA, an, ac, rfl, ha1, ha2, _⟩ := hAd.form
  rw [idl_len] at ha1
  obtain rfl : an = A.length := by omega
  have l05 := Hp.le_trans l23 (Hp.le_trans l4 l5)
  have hM := Lib.hid (fun (Hc : Hp) (fr' : List HA) (w' : World) (a b : Id) (hl' : Hp.le H5 Hc) (h' : St Hc fr' w') => refMut_any u l a b Hc fr' w' h' (hx.mono (Hp.le_trans l05 hl')) (fun x hm => (hl.out x hm).mono (Hp.le_trans l05 hl')) hl16 hlen)
  have hR0 : Hid (Rv (muD (l.map rp)) (kfR (l.map rp)) (clU (l.map rp)) A 0 (lists [])) := Lib.hid (Rv.start _ _ _ _)
  have h6 : St H5 (Row 35 1 (.slice (some ⟨gz, 0, none⟩) 0 0) (vals []) :: fr) w4 := h5
  clear hS h3 h4 h5 en2 hCr hCm hCd hA ha1 hCl
  go_wp2_with fail
  go_loopw [3, 5] (fun s3 s5 wr => ∃ (i : Nat) (H' : Hp) (X : List Lv), i ≤ A.length ∧ s5 = .int .i64 (i : Int) ∧ Hp.le H5 H' ∧ St H' (Row 35 1 s3 (vals X) :: fr) wr ∧ Env w wr ∧ Hid (LvOk H' X) ∧ Hid (Rv (muD (l.map rp)) (kfR (l.map rp)) (clU (l.map rp)) A i (lists X)) ∧ X.length ≤ i) (fun _ s5 _ => A.length - (intOf s5).toNat)
  case atStart => exact ⟨0, H5, [], by omega, by go_num, Hp.le_refl _, h6, en4, Lib.hid (fun x hx => by cases hx), hR0, by simp⟩
  case round =>
    clear h6 en4 hR0
    obtain ⟨i, H6, X, hi, rfl, l6, hst, hen, hX, hR, hXl⟩ := hrel
    obtain ⟨tA, tn, tc, rfl, ht1, ht2, _⟩ := hst.row_form
    rw [vals_len] at ht1
    obtain rfl : tn = X.length := by omega
    clear ht1
    by_cases hlt : i < A.length
    · obtain ⟨b, off, hA, hcr⟩ := Rd.form2 (hAd.mono l6) (by omega)
      cases hA
      have q0 := hcr _ _ (idl_fst A i hlt)
      have q1 := hcr _ _ (idl_snd A i hlt)
      rw [← Nat.add_assoc] at q1
      have hi1 := Lib.hid (show i + 1 ≤ A.length by omega)
      have hhad := Lib.hid (fun hc => Rv.had hR.out hlt hc)
      have hput := Lib.hid (fun hc => Rv.put muD_symm muD_trans (muD_refl _) clU_mu hAK.out hAU.out hR.out hlt hc)
      have hxin : A[i] ∈ rids l := by have := ((hAU.out _).1 (List.getElem_mem hlt)).1; rwa [pids_rp] at this
      generalize hAi : A[i] = x at *
      have hAt := Lib.hid (refAt_any (.slice tA X.length tc) X x wr ⟨hst.row_rw (by decide), fun y hy => (hX.out y hy).rw hst⟩)
      have hz := at_neg x (lists X)
      unfold AtR at hAt
      generalize atFrom x (lists X) 0 = z at *
      obtain ⟨x0, x1⟩ := x
      simp only at q0 q1
      have v0 := hst.cell q0
      have v1 := hst.cell q1
      have vl := World.block_lt_of_cell? _ _ v0
      clear hcr hR
      rcases hz with ⟨hz1, hz2⟩ | ⟨hz1, hz2⟩
      · have hz3 : decide (0 ≤ z) = false := decide_eq_false (by omega)
        have hput2 := Lib.hid (hput.out hz2)
        clear hput hhad hz2
        go_wp2_with fail
        refine hAt.out.mono ?_
        rintro e w7 ⟨rfl, hb7⟩
        have h7 := hst.below hb7
        have en7 := hen.trans (bel_env hb7)
        have h8 := h7.row_lit 41 2 0 #[] rfl (by decide)
        have en8 := en7.alloc (.cells #[] 41)
        clear hst hen h7 en7 hAt v0 v1 vl hb7
        go_wp2_with fail
        generalize w7.alloc (.cells #[] 41) = W7 at *
        generalize w7.heap.size = gy at *
        obtain ⟨pp, hpp⟩ : ∃ pp : Id → Bool, pp = (fun b => decide (muD (l.map rp) (x0, x1) b)) := ⟨_, rfl⟩
        rw [← hpp] at hput2
        replace hpp := Lib.hid hpp
        have h9 : St H6 (Row 41 2 (.slice (some ⟨gy, 0, none⟩) 0 0) (idl (oneF pp A i 0)) :: Row 35 1 (.slice tA X.length tc) (vals X) :: fr) W7 := h8
        clear h8
        go_loopw [6, 7] (fun s6 s7 wr => ∃ (m j : Nat) (H' : Hp), Hid (j = i + m) ∧ j ≤ A.length ∧ s7 = .int .i64 (j : Int) ∧ Hp.le H6 H' ∧ St H' (Row 41 2 s6 (idl (oneF pp A i m)) :: Row 35 1 (.slice tA X.length tc) (vals X) :: fr) wr ∧ Env w wr) (fun _ s7 _ => A.length - (intOf s7).toNat)
        case atStart => exact ⟨0, i, H6, Lib.hid rfl, by omega, by go_num, Hp.le_refl _, h9, en8⟩
        case round =>
          clear h9 en8
          obtain ⟨m, j, H7, hji, hm, rfl, l7, hst, hen⟩ := hrel
          by_cases hmt : j < A.length
          · obtain ⟨b2, off2, hA2, hcr⟩ := Rd.form2 (hAd.mono (Hp.le_trans l6 l7)) (by omega)
            cases hA2
            have q0 := Hp.cell_le l7 q0
            have q1 := Hp.cell_le l7 q1
            have r0 := hcr _ _ (idl_fst A j hmt)
            have r1 := hcr _ _ (idl_snd A j hmt)
            rw [← Nat.add_assoc] at r1
            have hon := oneF_next pp A i m j hji.out hmt
            have honl := oneF_len pp A i m
            have hm1 := Lib.hid (show j + 1 ≤ A.length by omega)
            have hji1 : Hid (j + 1 = i + (m + 1)) := Lib.hid (by have := hji.out; omega)
            have hyin : A[j] ∈ rids l := by have := ((hAU.out _).1 (List.getElem_mem hmt)).1; rwa [pids_rp] at this
            generalize A[j] = y at *
            have hDe : decide ((x0, x1) ∈ rids l ∧ y ∈ rids l ∧ muD (l.map rp) (x0, x1) y) = pp y := by
              rw [hpp.out]
              exact decide_eq_decide.2 ⟨fun h => h.2.2, fun h => ⟨hxin, hyin, h⟩⟩
            have hD := hst.drew
            have enD := hen.drew
            have hMu := hM.out H7 _ _ (x0, x1) y (Hp.le_trans l6 l7) hD
            rw [hDe] at hMu
            replace hMu := Lib.hid hMu
            obtain ⟨y0, y1⟩ := y
            simp only at r0 r1
            have kk : ∀ (H' : Hp) (l' : List HA) (w' : World), Hp.le H7 H' → St H' l' w' → w'.cell? ⟨b, off + i * 2, none⟩ = some (.int .i64 x0) ∧ w'.cell? ⟨b, off + i * 2 + 1, none⟩ = some (.int .i64 x1) ∧ w'.cell? ⟨b, off + j * 2, none⟩ = some (.int .i64 y0) ∧ w'.cell? ⟨b, off + j * 2 + 1, none⟩ = some (.int .i64 y1) := fun H' l' w' hl h' => ⟨h'.cell (Hp.cell_le hl q0), h'.cell (Hp.cell_le hl q1), h'.cell (Hp.cell_le hl r0), h'.cell (Hp.cell_le hl r1)⟩
            have kA := kk _ _ _ (Hp.le_refl _) hD
            replace kk := Lib.hid kk
            clear hst hen hcr hDe
            go_wp2_with fail
            refine wp_region_held_drew (S := fun w' => w'.cell? ⟨b, off + i * 2, none⟩ = some (.int .i64 x0) ∧ w'.cell? ⟨b, off + i * 2 + 1, none⟩ = some (.int .i64 x1) ∧ w'.cell? ⟨b, off + j * 2, none⟩ = some (.int .i64 y0) ∧ w'.cell? ⟨b, off + j * 2 + 1, none⟩ = some (.int .i64 y1)) (by kernel_rfl) kA (fun hHeld => ?_)
            refine wpAnyH_take (i := 0) (oi := { dst := some 34, op := Go.Op.move (Go.Operand.tmp 0), type := 22, pos := "ref.go:59", after := #[], guard := none }) (v := ?_) rfl (by kernel_rfl) (by kernel_rfl) (by kernel_rfl) (fun _ _ _ h => h) (Or.inl ⟨by rfl, ?_⟩) (by assumption) ?_
            rotate_left
            · (intro w hSw; (try dsimp only at hSw); go_simp; (try (with_reducible rfl)))
            try simp only [Act.put, List.setIfInBounds_toArray, List.set_cons_zero, List.set_cons_succ]
            refine wpAnyH_take (i := 1) (oi := { dst := some 35, op := Go.Op.move (Go.Operand.tmp 4), type := 35, pos := "ref.go:59", after := #[], guard := none }) (v := ?_) rfl (by kernel_rfl) (by kernel_rfl) (by kernel_rfl) (fun _ _ _ h => h) (Or.inl ⟨by rfl, ?_⟩) (by assumption) ?_
            rotate_left
            · (intro w hSw; (try dsimp only at hSw); go_simp; (try (with_reducible rfl)))
            try simp only [Act.put, List.setIfInBounds_toArray, List.set_cons_zero, List.set_cons_succ]
            refine wpAnyH_take (i := 2) (oi := { dst := some 36, op := Go.Op.move (Go.Operand.tmp 5), type := 3, pos := "ref.go:59", after := #[], guard := none }) (v := ?_) rfl (by kernel_rfl) (by kernel_rfl) (by kernel_rfl) (fun _ _ _ h => h) (Or.inl ⟨by rfl, ?_⟩) (by assumption) ?_
            rotate_left
            · (intro w hSw; (try dsimp only at hSw); go_simp; (try (with_reducible rfl)))
            try simp only [Act.put, List.setIfInBounds_toArray, List.set_cons_zero, List.set_cons_succ]
            refine wpAnyH_take (i := 3) (oi := { dst := some 37, op := Go.Op.indexAddr 35 (Go.Operand.tmp 35) (Go.Operand.tmp 36), type := 0, pos := "ref.go:59", after := #[{ on := 1, ground := Go.Ground.data }, { on := 2, ground := Go.Ground.data }], guard := none }) (v := ?_) rfl (by kernel_rfl) (by kernel_rfl) (by kernel_rfl) (fun _ _ _ h => h) (Or.inl ⟨by rfl, ?_⟩) (by assumption) ?_
            rotate_left
            · (intro w hSw; (try dsimp only at hSw); go_simp; (try (with_reducible rfl)))
            try simp only [Act.put, List.setIfInBounds_toArray, List.set_cons_zero, List.set_cons_succ]
            refine wpAnyH_take (i := 4) (oi := { dst := some 38, op := Go.Op.load 41 (Go.Operand.tmp 37), type := 41, pos := "ref.go:59", after := #[{ on := 3, ground := Go.Ground.data }], guard := none }) (v := ?_) rfl (by kernel_rfl) (by kernel_rfl) (by kernel_rfl) (fun _ _ _ h => h) (Or.inl ⟨by rfl, ?_⟩) (by assumption) ?_
            rotate_left
            · (intro w hSw; (try dsimp only at hSw); go_simp; (try (with_reducible rfl)))
            try simp only [Act.put, List.setIfInBounds_toArray, List.set_cons_zero, List.set_cons_succ]
            refine wpAnyH_take (i := 5) (oi := { dst := some 39, op := Go.Op.move (Go.Operand.tmp 4), type := 35, pos := "ref.go:59", after := #[], guard := none }) (v := ?_) rfl (by kernel_rfl) (by kernel_rfl) (by kernel_rfl) (fun _ _ _ h => h) (Or.inl ⟨by rfl, ?_⟩) (by assumption) ?_
            rotate_left
            · (intro w hSw; (try dsimp only at hSw); go_simp; (try (with_reducible rfl)))
            try simp only [Act.put, List.setIfInBounds_toArray, List.set_cons_zero, List.set_cons_succ]
            refine wpAnyH_take (i := 6) (oi := { dst := some 40, op := Go.Op.move (Go.Operand.tmp 7), type := 3, pos := "ref.go:59", after := #[], guard := none }) (v := ?_) rfl (by kernel_rfl) (by kernel_rfl) (by kernel_rfl) (fun _ _ _ h => h) (Or.inl ⟨by rfl, ?_⟩) (by assumption) ?_
            rotate_left
            · (intro w hSw; (try dsimp only at hSw); go_simp; (try (with_reducible rfl)))
            try simp only [Act.put, List.setIfInBounds_toArray, List.set_cons_zero, List.set_cons_succ]
            refine wpAnyH_take (i := 7) (oi := { dst := some 41, op := Go.Op.indexAddr 35 (Go.Operand.tmp 39) (Go.Operand.tmp 40), type := 0, pos := "ref.go:59", after := #[{ on := 5, ground := Go.Ground.data }, { on := 6, ground := Go.Ground.data }], guard := none }) (v := ?_) rfl (by kernel_rfl) (by kernel_rfl) (by kernel_rfl) (fun _ _ _ h => h) (Or.inl ⟨by rfl, ?_⟩) (by assumption) ?_
            rotate_left
            · (intro w hSw; (try dsimp only at hSw); go_simp; (try (with_reducible rfl)))
            try simp only [Act.put, List.setIfInBounds_toArray, List.set_cons_zero, List.set_cons_succ]
            refine wpAnyH_take (i := 8) (oi := { dst := some 42, op := Go.Op.load 41 (Go.Operand.tmp 41), type := 41, pos := "ref.go:59", after := #[{ on := 7, ground := Go.Ground.data }], guard := none }) (v := ?_) rfl (by kernel_rfl) (by kernel_rfl) (by kernel_rfl) (fun _ _ _ h => h) (Or.inl ⟨by rfl, ?_⟩) (by assumption) ?_
            rotate_left
            · (intro w hSw; (try dsimp only at hSw); go_simp; (try (with_reducible rfl)))
            try simp only [Act.put, List.setIfInBounds_toArray, List.set_cons_zero, List.set_cons_succ]
            refine wpAnyH_ready (rs := [9]) (by kernel_rfl) (by simp) ?_
            refine AllReadyH.cons (o := { dst := some 43, op := Go.Op.call { callee := Go.Callee.value (Go.Operand.func 19), args := #[Go.Operand.tmp 34, Go.Operand.tmp 38, Go.Operand.tmp 42], argTypes := #[22, 41, 41] }, type := 4, pos := "ref.go:59", after := #[{ on := 0, ground := Go.Ground.data }, { on := 4, ground := Go.Ground.data }, { on := 8, ground := Go.Ground.data }], guard := none }) rfl (fun K hK => ?_) AllReadyH.nil
            go_simp
            refine hMu.out.mono ?_
            rintro e w9 ⟨H8, rfl, l8, h9, en9⟩
            replace en9 := enD.trans en9
            refine hK.out _ _ (kk.out _ _ _ l8 h9) (fun hHeld2 => ?_)
            clear hK K hHeld
            try simp only [Act.put, List.setIfInBounds_toArray, List.set_cons_zero, List.set_cons_succ]
            refine wpAnyH_done (by kernel_rfl) ?_ _
            clear kA hMu hD enD kk hHeld2
            have l78 := Hp.le_trans l7 l8
            cases hpy : pp (y0, y1) with
            | true =>
              rw [if_pos hpy] at hon
              have hon2 := Lib.hid hon
              have r0 := h9.cell (Hp.cell_le l8 r0)
              have r1 := h9.cell (Hp.cell_le l8 r1)
              have rl := World.block_lt_of_cell? _ _ r0
              clear hon hpy q0 q1
              go_wp2_with (at_builtin; refine wpList_append rfl (.tmp 44) (.tmp 49) 35 35 rfl Tryz.underlying35 (.inl ⟨_, Tryz.underlying35⟩) (.agg #[.int .i64 0, .int .i64 0]) 16 info_id rfl (by decide) (by decide) rfl rfl (h9.alloc _) (News.new w9 _ 1 #[.int .i64 y0, .int .i64 y1] rfl (by simp [Value.oneCell'])) ?apB5 ?apK5)
              case apB5 => first | (rw [idl_len]; omega) | (rw [idl_len]; simp; omega)
              case apK5 =>
                intro lv2 w10 h10 en10
                replace en10 := (en9.alloc _).trans en10
                have h11 : St H8 (Row 41 2 lv2 (idl (oneF pp A i (m + 1))) :: Row 35 1 (.slice tA X.length tc) (vals X) :: fr) w10 := by rw [hon2.out, idl_append]; exact h10
                clear h10 h9 r0 r1 rl
                go_wp2_with fail
                go_roundw
                case rel => exact ⟨m + 1, j + 1, H8, hji1, hm1.out, by go_num, l78, h11, en10⟩
                case measure => simp [intOf]; have := hm1.out; omega
            | false =>
              rw [if_neg (by rw [hpy]; decide)] at hon
              rw [← hon] at h9
              clear hon hpy q0 q1 r0 r1
              go_wp2_with fail
              go_roundw
              case rel => exact ⟨m + 1, j + 1, H8, hji1, hm1.out, by go_num, l78, h9, en9⟩
              case measure => simp [intOf]; have := hm1.out; omega
          · have hend := oneF_end pp A i m (by have := hji.out; omega)
            rw [hend] at hst
            obtain ⟨oA, on, oc, rfl, _⟩ := hst.row_form
            obtain ⟨H8, l8, h8, hone⟩ := hst.row_keep
            have l68 := Hp.le_trans l7 l8
            have hX8 : Hid (LvOk H8 (X ++ [((A.drop i).filter pp, .slice oA on oc)])) := Lib.hid ((hX.out.mono l68).snoc (x := ((A.drop i).filter pp, .slice oA on oc)) hone)
            have hR8 : Hid (Rv (muD (l.map rp)) (kfR (l.map rp)) (clU (l.map rp)) A (i + 1) (lists (X ++ [((A.drop i).filter pp, .slice oA on oc)]))) := Lib.hid (by rw [lists_app]; exact hput2.out)
            clear hst hend hone
            go_wp2_with (at_builtin; refine wpList_append rfl (.tmp 51) (.tmp 53) 31 31 rfl Tryz.underlying31 (.inl ⟨_, Tryz.underlying31⟩) (.slice none 0 0) 24 info_ids rfl (by decide) (by decide) rfl rfl (h8.alloc _) (News.new wr _ 1 #[.slice oA on oc] rfl (by simp [Value.oneCell'])) ?apB6 ?apK6)
            case apB6 =>
              have hvl := vals_len X
              first | omega | (simp; omega) | (simp only [List.length_cons, List.length_nil]; omega)
            case apK6 =>
              intro lv2 w10 h10 en10
              replace en10 := (hen.alloc _).trans en10
              have h11 : St H8 (Row 35 1 lv2 (vals (X ++ [((A.drop i).filter pp, .slice oA on oc)])) :: fr) w10 := by rw [vals_app]; exact h10
              clear h10 h8
              go_wp2_with fail
              go_roundw
              case rel => exact ⟨i + 1, H8, _, hi1.out, by go_num, Hp.le_trans l6 l68, h11, en10, hX8, hR8, by simp; omega⟩
              case measure => simp [intOf]; have := hi1.out; omega
      · have hz3 : decide (0 ≤ z) = true := decide_eq_true hz1
        have hR2 := Lib.hid (hhad.out hz2)
        clear hput hhad hz2
        go_wp2_with fail
        refine hAt.out.mono ?_
        rintro e w7 ⟨rfl, hb7⟩
        have h7 := hst.below hb7
        have en7 := hen.trans (bel_env hb7)
        clear hst hen v0 v1 vl hAt
        go_wp2_with fail
        go_roundw
        case rel => exact ⟨i + 1, H6, X, hi1.out, by go_num, l6, h7, en7, hX, hR2, by omega⟩
        case measure => simp [intOf]; have := hi1.out; omega
    · obtain rfl : i = A.length := by omega
      have hz := Lib.hid (hfin.out (.slice tA X.length tc) X H6 wr (Hp.le_trans l05 l6) hst hen hX.out (hR.out.comps hAU.out))
      clear hst hX hR
      go_wp2_with fail
      exact hz.out
end Go.Proofs.YtcbckeoalmjcoaaGreat
