/- Joined texts: CanRefO. -/
import Derived.Test.YtcbckeoalmjcoaaGreatCO25
import Derived.Test.YtcbckeoalmjcoaaGreatCO34
/- Reference 18: Order. -/
set_option linter.unusedVariables false
set_option linter.unusedSimpArgs false
namespace Go.Proofs.YtcbckeoalmjcoaaGreat
open Go.RowKit Go.Cw Go.Fl
attribute [local go_sem ↓] eql_id neq_id
/-- What the reference's Order tells. -/
def ROrdR (l : List Rc) (H : Hp) (fr : List HA) (w : World) (e : Ending) (w' : World) : Prop :=
  ∃ (v : Value) (Y : List Lv) (H' : Hp), e = .returned v ∧ Hp.le H H' ∧ St H' (Row 35 1 v (vals Y) :: fr) w' ∧ Env w w' ∧ LvOk H' Y ∧ ∃ C, CompsOf (l.map rp) C ∧ lists Y = canonF (dpsR (l.map rp)) C.length C []
/-- The least free one from j on, or 0. -/
def LeastF (f : List Id → Bool) (X : List Lv) (j a : Nat) : Prop :=
  (a = 0 ∧ ∀ (m : Nat) (h : m < X.length), j ≤ m → f X[m].1 = false) ∨ (∃ h : a < X.length, j ≤ a ∧ f X[a].1 = true ∧ ∀ (m : Nat) (hm : m < X.length), j ≤ m → m < a → f X[m].1 = false)
theorem LeastF.hit {f : List Id → Bool} {X : List Lv} {i a : Nat} (hi : i < X.length) (hf : f X[i].1 = true) : LeastF f X i i := .inr ⟨hi, Nat.le_refl _, hf, fun m _ h1 h2 => absurd h1 (by omega)⟩
theorem LeastF.miss {f : List Id → Bool} {X : List Lv} {i a : Nat} (h : LeastF f X (i + 1) a) (hi : i < X.length) (hf : f X[i].1 = false) : LeastF f X i a := by
  rcases h with ⟨h1, h2⟩ | ⟨h1, h2, h3, h4⟩
  · refine .inl ⟨h1, fun m hm hj => ?_⟩
    by_cases e : m = i
    · subst e; exact hf
    · exact h2 m hm (by omega)
  · refine .inr ⟨h1, by omega, h3, fun m hm hj hl => ?_⟩
    by_cases e : m = i
    · subst e; exact hf
    · exact h4 m hm (by omega) hl
theorem LeastF.fin {f : List Id → Bool} {X : List Lv} {a : Nat} (h : LeastF f X 0 a) (hs : (lists X).findIdx f < (lists X).length) : ∃ h : a < X.length, f X[a].1 = true ∧ ∀ (m : Nat) (hm : m < X.length), m < a → f X[m].1 = false := by
  rcases h with ⟨h1, h2⟩ | ⟨h1, _, h3, h4⟩
  · have h5 : f ((lists X)[(lists X).findIdx f]'hs) = true := List.findIdx_getElem
    rw [lists_at X _ (by rw [← lists_len16]; exact hs), h2 _ _ (Nat.zero_le _)] at h5
    cases h5
  · exact ⟨h1, h3, fun m hm hl => h4 m hm (Nat.zero_le _) hl⟩
/-- What was asked of one list: k of the others. -/
def AskK (nx : Id → List Id) (X : List Lv) (xl : List Id) (i k : Nat) : Prop := ∀ (j : Nat) (h : j < X.length), j < k → j ≠ i → leadsB nx xl X[j].1 = false
/-- The answer so far. -/
def AskB (nx : Id → List Id) (X : List Lv) (xl : List Id) (i k : Nat) (B : Bool) : Prop := B = true ↔ AskK nx X xl i k
theorem AskK.self {nx : Id → List Id} {X : List Lv} {xl : List Id} {i : Nat} : AskK nx X xl i (i + 1) ↔ AskK nx X xl i i :=
  ⟨fun h j hj h1 h2 => h j hj (by omega) h2, fun h j hj h1 h2 => h j hj (by omega) h2⟩
theorem AskK.next {nx : Id → List Id} {X : List Lv} {xl : List Id} {i k : Nat} (hk : k < X.length) (hne : k ≠ i) : AskK nx X xl i (k + 1) ↔ AskK nx X xl i k ∧ leadsB nx xl X[k].1 = false :=
  ⟨fun h => ⟨fun j hj h1 h2 => h j hj (by omega) h2, h k hk (by omega) hne⟩, fun ⟨h, h3⟩ j hj h1 h2 => by
    by_cases e : j = k
    · subst e; exact h3
    · exact h j hj (by omega) h2⟩
theorem ask_free {nx : Id → List Id} {kf : Id → Ky} {U : Id → Prop} {C : List (List Id)} {X Y : List Lv} {i : Nat} (hi : i < X.length) (hcn : Cn nx kf U C (lists X) (lists Y)) : AskK nx X X[i].1 i X.length ↔ freeB nx (lists Y).flatten X[i].1 = true := by
  have := hcn.free (i := i) (by rw [lists_len16]; exact hi)
  rw [lists_at X i hi] at this
  rw [this]
  constructor
  · intro h k hk hne
    rw [lists_len16] at hk
    have h1 := h k hk hk hne
    rwa [← lists_at X k hk] at h1
  · intro h j hj _ hne
    have h1 := h j (by rw [lists_len16]; exact hj) hne
    rwa [lists_at X j hj] at h1
theorem Rd.form3 {H : Hp} {sz : Nat} {v : Value} {cs : List Value} (h : Rd H sz v cs) {n : Nat} (hl : cs.length = n * sz) (hn : 0 < n) (hs : 0 < sz) : ∃ b off c, v = .slice (some ⟨b, off, none⟩) n c ∧ n ≤ c ∧ c ≤ 9223372036854775807 ∧ ∀ j u, cs[j]? = some u → H.cell b (off + j) = some u := by
  obtain ⟨A, n', c, rfl, h1, h2, h3, h4⟩ := h
  have : n' = n := by
    rw [h1] at hl
    exact Nat.eq_of_mul_eq_mul_right hs hl
  subst this
  obtain ⟨b, off, rfl, hc⟩ := h4 hn
  exact ⟨b, off, c, rfl, h2, by simpa [maxLen] using h3, hc⟩
set_option maxRecDepth 100000 in
set_option maxHeartbeats 16000000 in
theorem refOrder_any (u : Value) (l : List Rc) (H : Hp) (fr : List HA) (w : World) (h : St H fr w) (hx : Rd H 5 u (recs l)) (hl : ∀ x ∈ l, RcD H x) (hl16 : ∀ x ∈ l, x.2.2.2.2.1.length ≤ 16) (hlen : l.length ≤ 1000) :
    Calls Tryz.prog 31 #[u] w (ROrdR l H fr w) := by
  have hfin : ∀ (v : Value) (Y : List Lv) (H' : Hp) (w' : World), Hp.le H H' → St H' (Row 35 1 v (vals Y) :: fr) w' → Env w w' → LvOk H' Y → (∃ C, CompsOf (l.map rp) C ∧ lists Y = canonF (dpsR (l.map rp)) C.length C []) → ROrdR l H fr w (.returned v) w' := fun v Y H' w' h1 h2 h3 h4 h5 => ⟨v, Y, H', rfl, h1, h2, h3, h4, h5⟩
  generalize ROrdR l H fr w = Q at *
  replace hfin := Lib.hid hfin
  have hCo := Lib.hid (refOf_any u l H fr w h hx hl hl16 hlen)
  have hLd := Lib.hid (fun (ua ub : Value) (a b : List Id) (Hc : Hp) (fr' : List HA) (w' : World) (hl' : Hp.le H Hc) (h' : St Hc fr' w') (ha : Rd Hc 2 ua (idl a)) (hb : Rd Hc 2 ub (idl b)) => refLeads_any u ua ub l a b w' ((hx.mono hl').rw h') (fun x hm => ((hl x hm).mono hl').rw h') (ha.rw h') (hb.rw h'))
  unfold LeadsBR at hLd
  replace hl := Lib.hid hl
  clear h
  go_enter Tryz.func31, Tryz.ntmps31
  go_wp2_with fail
  refine hCo.out.mono ?_
  rintro e w2 ⟨v, X0, H2, rfl, l2, h2, en2, hX0, hC⟩
  obtain ⟨H3, l3, h3, hXr⟩ := h2.row_keep
  have h4 := h3.row_lit 35 1 0 #[] rfl (by decide)
  have en4 := en2.alloc (.cells #[] 35)
  have l13 := Hp.le_trans l2 l3
  replace hX0 := Lib.hid (hX0.mono l3)
  have hCl : X0.length ≤ 1000 := by
    have h1 : ((lists X0).map hdI).Nodup := kr_nodup hC.hds
    have h2 := sub_len16 _ (rids l) h1 (fun a ha => by
      obtain ⟨c, hc, rfl⟩ := List.mem_map.1 ha
      have := (hC.one c hc).2.2.1.1
      rwa [pids_rp] at this)
    rw [List.length_map, List.length_map, lists_len16] at h2
    omega
  have hE : Hid (∃ C, CompsOf (l.map rp) C ∧ canonF (dpsR (l.map rp)) (lists X0).length (lists X0) [] = canonF (dpsR (l.map rp)) C.length C []) := Lib.hid ⟨_, hC, rfl⟩
  have hcn0 := Lib.hid (cnStart hC)
  generalize hR : canonF (dpsR (l.map rp)) (lists X0).length (lists X0) [] = R at *
  rw [lists_len16] at hR
  have hR0 : Hid (canonF (dpsR (l.map rp)) X0.length (lists X0) (lists []) = R) := Lib.hid hR
  obtain ⟨C, hCe⟩ : ∃ C, lists X0 = C := ⟨_, rfl⟩
  have hcn1 : Hid (Cn (dpsR (l.map rp)) (kfR (l.map rp)) (clU (l.map rp)) C (lists X0) (lists [])) := Lib.hid (by rw [← hCe]; exact hcn0.out)
  generalize dpsR (l.map rp) = nx at *
  generalize kfR (l.map rp) = kf at *
  generalize clU (l.map rp) = U at *
  obtain ⟨vA, vn, vc, rfl, hv1, _⟩ := hXr.form
  have h6 : St H3 (Row 35 1 (.slice (some ⟨w2.heap.size, 0, none⟩) 0 0) (vals []) :: fr) _ := h4
  clear hCo h2 h3 h4 en2 hcn0 hC hR hCe hv1
  go_wp2_with fail
  generalize w2.alloc (.cells #[] 35) = W4 at *
  generalize w2.heap.size = gz at *
  go_loopg [3, 4] X0.length (fun q s3 s4 wr => ∃ (X Y : List Lv) (H' : Hp), q = X.length ∧ Hp.le H3 H' ∧ St H' (Row 35 1 s4 (vals Y) :: fr) wr ∧ Rd H' 1 s3 (vals X) ∧ Env w wr ∧ Hid (LvOk H' X) ∧ Hid (LvOk H' Y) ∧ Hid (Cn nx kf U C (lists X) (lists Y)) ∧ Hid (canonF nx X.length (lists X) (lists Y) = R) ∧ X.length + Y.length ≤ 1000)
  case atStart => exact ⟨X0, [], H3, rfl, Hp.le_refl _, h6, hXr, en4, hX0, Lib.hid (fun x hx => by cases hx), hcn1, hR0, by simpa using hCl⟩
  case round =>
    clear h6 en4 hX0 hcn1 hR0 hCl hXr
    clear X0
    obtain ⟨X, Y, H5, rfl, l5, hst, hXr, hen, hX, hY, hcn, hR, hXY⟩ := hrel
    obtain ⟨yA, yn, yc, rfl, hy1, hy2, _⟩ := hst.row_form
    rw [vals_len] at hy1
    obtain rfl : yn = Y.length := by omega
    clear hy1
    by_cases hX0 : X.length = 0
    · obtain rfl : X = [] := List.eq_nil_of_length_eq_zero hX0
      obtain ⟨xA, xn, xc, rfl, hx1, _⟩ := hXr.form
      obtain rfl : xn = 0 := by simpa [vals] using hx1.symm
      have hz := Lib.hid (hfin.out _ Y H5 wr (Hp.le_trans l13 l5) hst hen hY.out (by
        obtain ⟨C', h1, h2⟩ := hE.out
        exact ⟨C', h1, by rw [← h2, ← hR.out]; rfl⟩))
      clear hst hX hY hcn hR hfin hLd hx1 hXr
      go_wp2_with fail
      exact hz.out
    · have hposn : 0 < X.length := by omega
      have hposd : decide (0 < X.length) = true := decide_eq_true hposn
      have hpos : (0 : Int) < (X.length : Int) := by omega
      have hsome := Lib.hid (hcn.out.some (fun e => hX0 (by rw [← lists_len16, e]; rfl)))
      clear hX0
      obtain ⟨b, off, xc, rfl, hxc, hxM, hcr⟩ := Rd.form3 hXr (vals_len X) hposn (by decide)
      have hL0 : Hid (LeastF (freeB nx (lists Y).flatten) X X.length 0) := Lib.hid (.inl ⟨rfl, fun m h1 h2 => absurd h1 (by omega)⟩)
      have hw0 : IntKind.i64.wrap ((X.length : Int) - 1) = (X.length : Int) - 1 := by rw [IntKind.wrap_i64]; omega
      have hcell := Lib.hid (fun (i : Nat) (hi : i < X.length) => show H5.cell b (off + i) = some X[i].2 from by have := hcr _ _ (vals_get X i hi); rwa [Nat.mul_one] at this)
      clear hcr
      go_wp2_with fail
      go_loopw [5, 6] (fun s5 s6 wr => ∃ (j a : Nat), j ≤ X.length ∧ s5 = .int .i64 (a : Int) ∧ s6 = .int .i64 ((j : Int) - 1) ∧ St H5 (Row 35 1 (.slice yA Y.length yc) (vals Y) :: fr) wr ∧ Env w wr ∧ Hid (LeastF (freeB nx (lists Y).flatten) X j a)) (fun _ s6 _ => (intOf s6 + 1).toNat)
      case atStart => exact ⟨X.length, 0, by omega, by go_num, by go_num, hst, hen, hL0⟩
      case round =>
        clear hst hen hL0 hw0
        obtain ⟨j, a, hj, rfl, rfl, hst, hen, hLF⟩ := hrel
        cases j with
        | zero =>
          obtain ⟨ha, hfa, hfm⟩ := hLF.out.fin hsome.out
          clear hLF hsome
          have hXe := ord_step ha hcn.out hfm hfa
          have hx1 := hX.out X[a] (List.getElem_mem ha)
          have c1 := hcell.out a ha
          have ha0 : (0 : Int) ≤ (a : Int) := by omega
          have ha1 : (a : Int) < (X.length : Int) := by omega
          have c1' := hst.cell c1
          have c1l := World.block_lt_of_cell? _ _ c1'
          have hv1 := vals_one hX.out
          have hver := vals_erase X a
          obtain ⟨Xe, hXee⟩ : ∃ Xe, Xe = X.eraseIdx a := ⟨_, rfl⟩
          have hXel : Xe.length = X.length - 1 := by rw [hXee, List.length_eraseIdx_of_lt ha]
          have hXok : LvOk H5 Xe := by rw [hXee]; exact hX.out.erase a
          rw [← hXee] at hXe hver
          generalize X[a] = x at *
          obtain ⟨xl, xv⟩ := x
          obtain ⟨cA, cn, cc, rfl, _⟩ := hx1.form
          simp only at hx1 c1 c1'
          have hst3 : Hid (∀ H', Hp.le H5 H' → Hid (LvOk H' Xe) ∧ Hid (LvOk H' (Y ++ [(xl, .slice cA cn cc)])) ∧ Hid (Cn nx kf U C (lists Xe) (lists (Y ++ [(xl, .slice cA cn cc)]))) ∧ Hid (canonF nx Xe.length (lists Xe) (lists (Y ++ [(xl, .slice cA cn cc)])) = R)) := Lib.hid (fun H' hl => ⟨Lib.hid (hXok.mono hl), Lib.hid ((hY.out.mono hl).snoc (x := (xl, .slice cA cn cc)) (hx1.mono hl)), Lib.hid hXe.1, Lib.hid (by rw [← hXe.2]; exact hR.out)⟩)
          clear hXe hXok hfa hfm hX hY hcn hR hcell hXee
          replace hv1 := Lib.hid hv1
          replace hver := Lib.hid hver
          go_wp2_with (at_builtin; refine wpList_append rfl (.tmp 49) (.tmp 54) 31 31 rfl Tryz.underlying31 (.inl ⟨_, Tryz.underlying31⟩) (.slice none 0 0) 24 info_ids rfl (by decide) (by decide) rfl rfl (hst.alloc _) (News.new wr _ 1 #[.slice cA cn cc] rfl (by simp [Value.oneCell'])) ?apB4 ?apK4)
          case apB4 =>
            have hvl := vals_len Y
            first | omega | (simp; omega) | (simp only [List.length_cons, List.length_nil]; omega)
          case apK4 =>
          intro lv2 w10 h10 en10
          replace en10 := (hen.alloc _).trans en10
          obtain ⟨qA, qn, qc, rfl, _⟩ := h10.row_form
          clear hst hen c1' c1l
          have hD := h10.drew
          have hE := hD.row_lit 35 1 0 #[] rfl (by decide)
          have hn1 : News Tryz.prog _ 1 (.slice (some ⟨b, off, none⟩) a xc) a ((vals X).take (a * 1)) := News.rw ((hXr.take a (by omega)).rw hE) (fun u hu => hv1.out u (List.mem_of_mem_take hu))
          obtain ⟨v3, w11, hrun1, h11, en11⟩ := hE.append_run 31 31 31 (.slice none 0 0) 24 Tryz.underlying31 (.inl ⟨_, Tryz.underlying31⟩) info_ids rfl (by decide) hn1 (by rw [List.length_take, vals_len]; simp; omega) (by decide)
          obtain ⟨rA, rn, rc, rfl, _⟩ := h11.row_form
          replace en11 := (en10.drew.alloc (.cells #[] 35)).trans en11
          have hn2 : ∀ (A' : Addr) (m c' : Nat), m = X.length - (a + 1) → (0 < m → A' = ⟨b, off + (a + 1), none⟩) → News Tryz.prog w11 1 (.slice (some A') m c') m ((vals X).drop ((a + 1) * 1)) := fun A' m c' hm hA => by
            subst hm
            refine News.slice (by rw [List.length_drop, vals_len]; omega) (fun hm => ⟨_, rfl, fun j u hj => ?_⟩) (fun u hu => hv1.out u (List.mem_of_mem_drop hu))
            rw [hA hm, add_lit, Nat.add_assoc]
            rw [List.getElem?_drop, Nat.mul_one] at hj
            obtain ⟨_, _, hA2, hcc⟩ := ((hXr.rw h11).cells (by omega))
            cases hA2
            exact hcc _ _ hj
          have hcn0 : ¬ xc = 0 := by omega
          have hac : (a : Int) ≤ (xc : Int) := by omega
          have ha2 : (a : Int) + 1 ≤ (X.length : Int) := by omega
          have haw : IntKind.i64.wrap ((a : Int) + 1) = (a : Int) + 1 := by rw [IntKind.wrap_i64]; omega
          have hle1 : (a : Int) ≤ (a : Int) + 1 := by omega
          have h01 : (0 : Int) ≤ (a : Int) + 1 := by omega
          have hXc2 : (X.length : Int) ≤ (xc : Int) := by omega
          by_cases hce : xc = a + 1
          · subst hce
            have hci2 : (a + 1) - (a + 1) = 0 := by omega
            have hXi2 : X.length - (a + 1) = 0 := by omega
            have hnB := hn2 ⟨b, off, none⟩ 0 0 (by omega) (fun h => absurd h (by omega))
            have hnA := True.intro
            obtain ⟨v4, w12, hrun2, h12, en12⟩ := h11.append_run 31 31 31 (.slice none 0 0) 24 Tryz.underlying31 (.inl ⟨_, Tryz.underlying31⟩) info_ids rfl (by decide) hnB (by simp only [List.length_append, List.length_take, List.length_drop, vals_len]; simp; omega) (by decide)
            obtain ⟨pA, pn, pc, rfl, _⟩ := h12.row_form
            rw [List.nil_append, hver.out] at h12
            replace en12 := en11.trans en12
            obtain ⟨H6, l6, h13, hXr2⟩ := h12.row_keep
            have h14 : St H6 (Row 35 1 (.slice qA qn qc) (vals (Y ++ [(xl, .slice cA cn cc)])) :: fr) w12 := by rw [vals_app]; exact h13
            have hst4 := hst3.out H6 l6
            replace hst3 := Lib.hid True.intro
            clear h10 h11 h12 h13 hXr hD hE hn1 hn2 hnA hnB en11 en10
            go_wp2_with fail
            refine wp_region_held_drew (S := fun _ => True) (by kernel_rfl) trivial (fun hHeld => ?_)
            refine wpAnyH_take (i := 1) (oi := { dst := some 57, op := Go.Op.move (Go.Operand.tmp 3), type := 31, pos := "ref.go:42", after := #[], guard := none }) (v := ?_) rfl (by kernel_rfl) (by kernel_rfl) (by kernel_rfl) (fun _ _ _ h => h) (Or.inl ⟨by rfl, ?_⟩) (by assumption) ?_
            rotate_left
            · (intro w hSw; (try dsimp only at hSw); go_simp; (try (with_reducible rfl)))
            try simp only [Act.put, List.setIfInBounds_toArray, List.set_cons_zero, List.set_cons_succ]
            refine wpAnyH_take (i := 2) (oi := { dst := some 58, op := Go.Op.move (Go.Operand.tmp 5), type := 3, pos := "ref.go:42", after := #[], guard := none }) (v := ?_) rfl (by kernel_rfl) (by kernel_rfl) (by kernel_rfl) (fun _ _ _ h => h) (Or.inl ⟨by rfl, ?_⟩) (by assumption) ?_
            rotate_left
            · (intro w hSw; (try dsimp only at hSw); go_simp; (try (with_reducible rfl)))
            try simp only [Act.put, List.setIfInBounds_toArray, List.set_cons_zero, List.set_cons_succ]
            refine wpAnyH_take (i := 3) (oi := { dst := some 59, op := Go.Op.slice 31 (Go.Operand.tmp 57) none (some (Go.Operand.tmp 58)) none, type := 31, pos := "ref.go:42", after := #[{ on := 1, ground := Go.Ground.data }, { on := 2, ground := Go.Ground.data }], guard := none }) (v := ?_) rfl (by kernel_rfl) (by kernel_rfl) (by kernel_rfl) (fun _ _ _ h => h) (Or.inl ⟨by rfl, ?_⟩) (by assumption) ?_
            rotate_left
            · (intro w hSw; (try dsimp only at hSw); go_simp; (try (with_reducible rfl)))
            try simp only [Act.put, List.setIfInBounds_toArray, List.set_cons_zero, List.set_cons_succ]
            refine wpAnyH_take (i := 5) (oi := { dst := some 61, op := Go.Op.move (Go.Operand.tmp 3), type := 31, pos := "ref.go:42", after := #[], guard := none }) (v := ?_) rfl (by kernel_rfl) (by kernel_rfl) (by kernel_rfl) (fun _ _ _ h => h) (Or.inl ⟨by rfl, ?_⟩) (by assumption) ?_
            rotate_left
            · (intro w hSw; (try dsimp only at hSw); go_simp; (try (with_reducible rfl)))
            try simp only [Act.put, List.setIfInBounds_toArray, List.set_cons_zero, List.set_cons_succ]
            refine wpAnyH_take (i := 6) (oi := { dst := some 62, op := Go.Op.move (Go.Operand.tmp 5), type := 3, pos := "ref.go:42", after := #[], guard := none }) (v := ?_) rfl (by kernel_rfl) (by kernel_rfl) (by kernel_rfl) (fun _ _ _ h => h) (Or.inl ⟨by rfl, ?_⟩) (by assumption) ?_
            rotate_left
            · (intro w hSw; (try dsimp only at hSw); go_simp; (try (with_reducible rfl)))
            try simp only [Act.put, List.setIfInBounds_toArray, List.set_cons_zero, List.set_cons_succ]
            refine wpAnyH_take (i := 7) (oi := { dst := some 63, op := Go.Op.binOp Go.BinOp.add 3 (Go.Operand.tmp 62) (Go.Operand.const (Go.Value.int Go.IntKind.i64 1)) 3, type := 3, pos := "ref.go:42", after := #[{ on := 6, ground := Go.Ground.data }], guard := none }) (v := ?_) rfl (by kernel_rfl) (by kernel_rfl) (by kernel_rfl) (fun _ _ _ h => h) (Or.inl ⟨by rfl, ?_⟩) (by assumption) ?_
            rotate_left
            · (intro w hSw; (try dsimp only at hSw); go_simp; (try (with_reducible rfl)))
            try simp only [Act.put, List.setIfInBounds_toArray, List.set_cons_zero, List.set_cons_succ]
            refine wpAnyH_take (i := 8) (oi := { dst := some 64, op := Go.Op.slice 31 (Go.Operand.tmp 61) (some (Go.Operand.tmp 63)) none none, type := 31, pos := "ref.go:42", after := #[{ on := 5, ground := Go.Ground.data }, { on := 7, ground := Go.Ground.data }], guard := none }) (v := ?_) rfl (by kernel_rfl) (by kernel_rfl) (by kernel_rfl) (fun _ _ _ h => h) (Or.inl ⟨by rfl, ?_⟩) (by assumption) ?_
            rotate_left
            · (intro w hSw; (try dsimp only at hSw); go_simp; (try (with_reducible rfl)))
            try simp only [Act.put, List.setIfInBounds_toArray, List.set_cons_zero, List.set_cons_succ]
            refine wpAnyH_ready (rs := [0]) (by kernel_rfl) (by simp) ?_
            refine AllReadyH.cons (o := { dst := some 56, op := Go.Op.buildSlice 31 0 #[], type := 31, pos := "ref.go:42", after := #[], guard := none }) rfl (fun K hK => ?_) AllReadyH.nil
            go_simp
            refine hK.out _ _ trivial (fun hHeld2 => ?_)
            clear hK K hHeld
            try simp only [Act.put, List.setIfInBounds_toArray, List.set_cons_zero, List.set_cons_succ]
            refine wpAnyH_ready (rs := [4]) (by kernel_rfl) (by simp) ?_
            refine AllReadyH.cons (o := { dst := some 60, op := Go.Op.call { callee := Go.Callee.builtin Go.Builtin.append, args := #[Go.Operand.tmp 56, Go.Operand.tmp 59], argTypes := #[31, 31] }, type := 31, pos := "ref.go:42", after := #[{ on := 0, ground := Go.Ground.data }, { on := 3, ground := Go.Ground.data }], guard := none }) rfl (fun K hK => ?_) AllReadyH.nil
            refine oper_append_at (.tmp 56) (.tmp 59) 31 31 31 hrun1 rfl rfl rfl rfl ?_
            refine hK.out _ _ trivial (fun hHeld3 => ?_)
            clear hK K hHeld2
            try simp only [Act.put, List.setIfInBounds_toArray, List.set_cons_zero, List.set_cons_succ]
            refine wpAnyH_ready (rs := [9]) (by kernel_rfl) (by simp) ?_
            refine AllReadyH.cons (o := { dst := some 65, op := Go.Op.call { callee := Go.Callee.builtin Go.Builtin.append, args := #[Go.Operand.tmp 60, Go.Operand.tmp 64], argTypes := #[31, 31] }, type := 31, pos := "ref.go:42", after := #[{ on := 4, ground := Go.Ground.data }, { on := 8, ground := Go.Ground.data }, { on := 4, ground := Go.Ground.chain }], guard := none }) rfl (fun K hK => ?_) AllReadyH.nil
            refine oper_append_at (.tmp 60) (.tmp 64) 31 31 31 hrun2 rfl rfl rfl rfl ?_
            refine hK.out _ _ trivial (fun hHeld4 => ?_)
            clear hK K hHeld3
            try simp only [Act.put, List.setIfInBounds_toArray, List.set_cons_zero, List.set_cons_succ]
            refine wpAnyH_take (i := 10) (oi := { dst := some 3, op := Go.Op.assign (Go.Operand.tmp 65), type := 31, pos := "ref.go:42", after := #[{ on := 9, ground := Go.Ground.data }, { on := 9, ground := Go.Ground.chain }, { on := 0, ground := Go.Ground.phase }, { on := 1, ground := Go.Ground.phase }, { on := 2, ground := Go.Ground.phase }, { on := 3, ground := Go.Ground.phase }, { on := 4, ground := Go.Ground.phase }, { on := 5, ground := Go.Ground.phase }, { on := 6, ground := Go.Ground.phase }, { on := 7, ground := Go.Ground.phase }, { on := 8, ground := Go.Ground.phase }, { on := 9, ground := Go.Ground.phase }], guard := none }) (v := ?_) rfl (by kernel_rfl) (by kernel_rfl) (by kernel_rfl) (fun _ _ _ h => h) (Or.inl ⟨by rfl, ?_⟩) (by assumption) ?_
            rotate_left
            · (intro w hSw; (try dsimp only at hSw); go_simp; (try (with_reducible rfl)))
            try simp only [Act.put, List.setIfInBounds_toArray, List.set_cons_zero, List.set_cons_succ]
            refine wpAnyH_done (by kernel_rfl) ?_ _
            clear hrun1 hrun2 hHeld4
            go_wp2_with fail
            go_roundg Xe.length
            case measure => omega
            case rel => exact ⟨Xe, _, H6, rfl, Hp.le_trans l5 l6, h14, hXr2, en12, hst4.1, hst4.2.1, hst4.2.2.1, hst4.2.2.2, by simp; omega⟩
          · have hce2 : ¬ (xc : Int) = (a : Int) + 1 := by omega
            have hnB := hn2 ⟨b, off + (a + 1), none⟩ (X.length - (a + 1)) (xc - (a + 1)) rfl (fun _ => rfl)
            have hnA := True.intro
            obtain ⟨v4, w12, hrun2, h12, en12⟩ := h11.append_run 31 31 31 (.slice none 0 0) 24 Tryz.underlying31 (.inl ⟨_, Tryz.underlying31⟩) info_ids rfl (by decide) hnB (by simp only [List.length_append, List.length_take, List.length_drop, vals_len]; simp; omega) (by decide)
            obtain ⟨pA, pn, pc, rfl, _⟩ := h12.row_form
            rw [List.nil_append, hver.out] at h12
            replace en12 := en11.trans en12
            obtain ⟨H6, l6, h13, hXr2⟩ := h12.row_keep
            have h14 : St H6 (Row 35 1 (.slice qA qn qc) (vals (Y ++ [(xl, .slice cA cn cc)])) :: fr) w12 := by rw [vals_app]; exact h13
            have hst4 := hst3.out H6 l6
            replace hst3 := Lib.hid True.intro
            clear h10 h11 h12 h13 hXr hD hE hn1 hn2 hnA hnB en11 en10
            go_wp2_with fail
            refine wp_region_held_drew (S := fun _ => True) (by kernel_rfl) trivial (fun hHeld => ?_)
            refine wpAnyH_take (i := 1) (oi := { dst := some 57, op := Go.Op.move (Go.Operand.tmp 3), type := 31, pos := "ref.go:42", after := #[], guard := none }) (v := ?_) rfl (by kernel_rfl) (by kernel_rfl) (by kernel_rfl) (fun _ _ _ h => h) (Or.inl ⟨by rfl, ?_⟩) (by assumption) ?_
            rotate_left
            · (intro w hSw; (try dsimp only at hSw); go_simp; (try (with_reducible rfl)))
            try simp only [Act.put, List.setIfInBounds_toArray, List.set_cons_zero, List.set_cons_succ]
            refine wpAnyH_take (i := 2) (oi := { dst := some 58, op := Go.Op.move (Go.Operand.tmp 5), type := 3, pos := "ref.go:42", after := #[], guard := none }) (v := ?_) rfl (by kernel_rfl) (by kernel_rfl) (by kernel_rfl) (fun _ _ _ h => h) (Or.inl ⟨by rfl, ?_⟩) (by assumption) ?_
            rotate_left
            · (intro w hSw; (try dsimp only at hSw); go_simp; (try (with_reducible rfl)))
            try simp only [Act.put, List.setIfInBounds_toArray, List.set_cons_zero, List.set_cons_succ]
            refine wpAnyH_take (i := 3) (oi := { dst := some 59, op := Go.Op.slice 31 (Go.Operand.tmp 57) none (some (Go.Operand.tmp 58)) none, type := 31, pos := "ref.go:42", after := #[{ on := 1, ground := Go.Ground.data }, { on := 2, ground := Go.Ground.data }], guard := none }) (v := ?_) rfl (by kernel_rfl) (by kernel_rfl) (by kernel_rfl) (fun _ _ _ h => h) (Or.inl ⟨by rfl, ?_⟩) (by assumption) ?_
            rotate_left
            · (intro w hSw; (try dsimp only at hSw); go_simp; (try (with_reducible rfl)))
            try simp only [Act.put, List.setIfInBounds_toArray, List.set_cons_zero, List.set_cons_succ]
            refine wpAnyH_take (i := 5) (oi := { dst := some 61, op := Go.Op.move (Go.Operand.tmp 3), type := 31, pos := "ref.go:42", after := #[], guard := none }) (v := ?_) rfl (by kernel_rfl) (by kernel_rfl) (by kernel_rfl) (fun _ _ _ h => h) (Or.inl ⟨by rfl, ?_⟩) (by assumption) ?_
            rotate_left
            · (intro w hSw; (try dsimp only at hSw); go_simp; (try (with_reducible rfl)))
            try simp only [Act.put, List.setIfInBounds_toArray, List.set_cons_zero, List.set_cons_succ]
            refine wpAnyH_take (i := 6) (oi := { dst := some 62, op := Go.Op.move (Go.Operand.tmp 5), type := 3, pos := "ref.go:42", after := #[], guard := none }) (v := ?_) rfl (by kernel_rfl) (by kernel_rfl) (by kernel_rfl) (fun _ _ _ h => h) (Or.inl ⟨by rfl, ?_⟩) (by assumption) ?_
            rotate_left
            · (intro w hSw; (try dsimp only at hSw); go_simp; (try (with_reducible rfl)))
            try simp only [Act.put, List.setIfInBounds_toArray, List.set_cons_zero, List.set_cons_succ]
            refine wpAnyH_take (i := 7) (oi := { dst := some 63, op := Go.Op.binOp Go.BinOp.add 3 (Go.Operand.tmp 62) (Go.Operand.const (Go.Value.int Go.IntKind.i64 1)) 3, type := 3, pos := "ref.go:42", after := #[{ on := 6, ground := Go.Ground.data }], guard := none }) (v := ?_) rfl (by kernel_rfl) (by kernel_rfl) (by kernel_rfl) (fun _ _ _ h => h) (Or.inl ⟨by rfl, ?_⟩) (by assumption) ?_
            rotate_left
            · (intro w hSw; (try dsimp only at hSw); go_simp; (try (with_reducible rfl)))
            try simp only [Act.put, List.setIfInBounds_toArray, List.set_cons_zero, List.set_cons_succ]
            refine wpAnyH_take (i := 8) (oi := { dst := some 64, op := Go.Op.slice 31 (Go.Operand.tmp 61) (some (Go.Operand.tmp 63)) none none, type := 31, pos := "ref.go:42", after := #[{ on := 5, ground := Go.Ground.data }, { on := 7, ground := Go.Ground.data }], guard := none }) (v := ?_) rfl (by kernel_rfl) (by kernel_rfl) (by kernel_rfl) (fun _ _ _ h => h) (Or.inl ⟨by rfl, ?_⟩) (by assumption) ?_
            rotate_left
            · (intro w hSw; (try dsimp only at hSw); go_simp; (try (with_reducible rfl)))
            try simp only [Act.put, List.setIfInBounds_toArray, List.set_cons_zero, List.set_cons_succ]
            refine wpAnyH_ready (rs := [0]) (by kernel_rfl) (by simp) ?_
            refine AllReadyH.cons (o := { dst := some 56, op := Go.Op.buildSlice 31 0 #[], type := 31, pos := "ref.go:42", after := #[], guard := none }) rfl (fun K hK => ?_) AllReadyH.nil
            go_simp
            refine hK.out _ _ trivial (fun hHeld2 => ?_)
            clear hK K hHeld
            try simp only [Act.put, List.setIfInBounds_toArray, List.set_cons_zero, List.set_cons_succ]
            refine wpAnyH_ready (rs := [4]) (by kernel_rfl) (by simp) ?_
            refine AllReadyH.cons (o := { dst := some 60, op := Go.Op.call { callee := Go.Callee.builtin Go.Builtin.append, args := #[Go.Operand.tmp 56, Go.Operand.tmp 59], argTypes := #[31, 31] }, type := 31, pos := "ref.go:42", after := #[{ on := 0, ground := Go.Ground.data }, { on := 3, ground := Go.Ground.data }], guard := none }) rfl (fun K hK => ?_) AllReadyH.nil
            refine oper_append_at (.tmp 56) (.tmp 59) 31 31 31 hrun1 rfl rfl rfl rfl ?_
            refine hK.out _ _ trivial (fun hHeld3 => ?_)
            clear hK K hHeld2
            try simp only [Act.put, List.setIfInBounds_toArray, List.set_cons_zero, List.set_cons_succ]
            refine wpAnyH_ready (rs := [9]) (by kernel_rfl) (by simp) ?_
            refine AllReadyH.cons (o := { dst := some 65, op := Go.Op.call { callee := Go.Callee.builtin Go.Builtin.append, args := #[Go.Operand.tmp 60, Go.Operand.tmp 64], argTypes := #[31, 31] }, type := 31, pos := "ref.go:42", after := #[{ on := 4, ground := Go.Ground.data }, { on := 8, ground := Go.Ground.data }, { on := 4, ground := Go.Ground.chain }], guard := none }) rfl (fun K hK => ?_) AllReadyH.nil
            refine oper_append_at (.tmp 60) (.tmp 64) 31 31 31 hrun2 rfl rfl rfl rfl ?_
            refine hK.out _ _ trivial (fun hHeld4 => ?_)
            clear hK K hHeld3
            try simp only [Act.put, List.setIfInBounds_toArray, List.set_cons_zero, List.set_cons_succ]
            refine wpAnyH_take (i := 10) (oi := { dst := some 3, op := Go.Op.assign (Go.Operand.tmp 65), type := 31, pos := "ref.go:42", after := #[{ on := 9, ground := Go.Ground.data }, { on := 9, ground := Go.Ground.chain }, { on := 0, ground := Go.Ground.phase }, { on := 1, ground := Go.Ground.phase }, { on := 2, ground := Go.Ground.phase }, { on := 3, ground := Go.Ground.phase }, { on := 4, ground := Go.Ground.phase }, { on := 5, ground := Go.Ground.phase }, { on := 6, ground := Go.Ground.phase }, { on := 7, ground := Go.Ground.phase }, { on := 8, ground := Go.Ground.phase }, { on := 9, ground := Go.Ground.phase }], guard := none }) (v := ?_) rfl (by kernel_rfl) (by kernel_rfl) (by kernel_rfl) (fun _ _ _ h => h) (Or.inl ⟨by rfl, ?_⟩) (by assumption) ?_
            rotate_left
            · (intro w hSw; (try dsimp only at hSw); go_simp; (try (with_reducible rfl)))
            try simp only [Act.put, List.setIfInBounds_toArray, List.set_cons_zero, List.set_cons_succ]
            refine wpAnyH_done (by kernel_rfl) ?_ _
            clear hrun1 hrun2 hHeld4
            go_wp2_with fail
            go_roundg Xe.length
            case measure => omega
            case rel => exact ⟨Xe, _, H6, rfl, Hp.le_trans l5 l6, h14, hXr2, en12, hst4.1, hst4.2.1, hst4.2.2.1, hst4.2.2.2, by simp; omega⟩
        | succ i =>
          have hj9 : (((i + 1 : Nat) : Int) - 1) = (i : Int) := by omega
          rw [hj9]
          have hi : i < X.length := by omega
          have c1 := hcell.out i hi
          have hAF := Lib.hid (ask_free hi hcn.out)
          have hmiss := Lib.hid (fun hf => hLF.out.miss hi hf)
          have hhit := Lib.hid (fun hf => LeastF.hit (a := a) (f := freeB nx (lists Y).flatten) hi hf)
          have hxr := hX.out X[i] (List.getElem_mem hi)
          generalize X[i] = x at *
          obtain ⟨xl, xv⟩ := x
          obtain ⟨xA, xn, xc', rfl, _⟩ := hxr.form
          simp only at c1 hxr hAF hmiss hhit
          have hB0 : Hid (AskB nx X xl i 0 true) := Lib.hid ⟨fun _ j hj h1 => absurd h1 (by omega), fun _ => rfl⟩
          have hwi : IntKind.i64.wrap ((i : Int) - 1) = (i : Int) - 1 := by rw [IntKind.wrap_i64]; omega
          have hi0 : (0 : Int) ≤ (i : Int) := by omega
          clear hLF
          go_wp2_with fail
          go_loopw [7, 8] (fun s7 s8 wr => ∃ (k : Nat) (B : Bool), k ≤ X.length ∧ s7 = .bool B ∧ s8 = .int .i64 (k : Int) ∧ St H5 (Row 35 1 (.slice yA Y.length yc) (vals Y) :: fr) wr ∧ Env w wr ∧ Hid (AskB nx X xl i k B)) (fun _ s8 _ => X.length - (intOf s8).toNat)
          case atStart => exact ⟨0, true, by omega, rfl, by go_num, hst, hen, hB0⟩
          case round =>
            clear hst hen hB0
            obtain ⟨k, B, hk, rfl, rfl, hst, hen, hB⟩ := hrel
            by_cases hkt : k < X.length
            · have hk1 := Lib.hid (show k + 1 ≤ X.length by omega)
              have hki : (k : Int) < (X.length : Int) := by omega
              have hii : (i : Int) < (X.length : Int) := by omega
              have hk0 : (0 : Int) ≤ (k : Int) := by omega
              have hD := hst.drew
              have enD := hen.drew
              cases B with
              | false =>
                have hB2 : Hid (AskB nx X xl i (k + 1) false) := Lib.hid (Iff.intro (fun h => by cases h) (fun h => hB.out.2 (fun (j : Nat) hj h1 h2 => h j hj (by omega) h2)))
                clear hst hen hB
                go_wp2_with fail
                refine wp_region_held_drew (S := fun _ => True) (by kernel_rfl) trivial (fun hHeld => ?_)
                refine wpAnyH_take (i := 0) (oi := { dst := some 28, op := Go.Op.move (Go.Operand.tmp 7), type := 4, pos := "ref.go:35", after := #[], guard := none }) (v := ?_) rfl (by kernel_rfl) (by kernel_rfl) (by kernel_rfl) (fun _ _ _ h => h) (Or.inl ⟨by rfl, ?_⟩) (by assumption) ?_
                rotate_left
                · (intro w hSw; (try dsimp only at hSw); go_simp; (try (with_reducible rfl)))
                try simp only [Act.put, List.setIfInBounds_toArray, List.set_cons_zero, List.set_cons_succ]
                refine wpAnyH_take (i := 1) (oi := { dst := some 29, op := Go.Op.move (Go.Operand.tmp 28), type := 4, pos := "ref.go:35", after := #[{ on := 0, ground := Go.Ground.data }], guard := none }) (v := ?_) rfl (by kernel_rfl) (by kernel_rfl) (by kernel_rfl) (fun _ _ _ h => h) (Or.inl ⟨by rfl, ?_⟩) (by assumption) ?_
                rotate_left
                · (intro w hSw; (try dsimp only at hSw); go_simp; (try (with_reducible rfl)))
                try simp only [Act.put, List.setIfInBounds_toArray, List.set_cons_zero, List.set_cons_succ]
                refine wpAnyH_take (i := 2) (oi := { dst := some 30, op := Go.Op.move (Go.Operand.tmp 8), type := 3, pos := "ref.go:35", after := #[{ on := 1, ground := Go.Ground.guard }], guard := some (1, true) }) (v := undef) rfl (by kernel_rfl) (by kernel_rfl) (by kernel_rfl) (fun _ _ _ h => h) (Or.inr ⟨by rfl, rfl⟩) (by assumption) ?_
                try simp only [Act.put, List.setIfInBounds_toArray, List.set_cons_zero, List.set_cons_succ]
                refine wpAnyH_take (i := 3) (oi := { dst := some 31, op := Go.Op.move (Go.Operand.tmp 6), type := 3, pos := "ref.go:35", after := #[{ on := 1, ground := Go.Ground.guard }], guard := some (1, true) }) (v := undef) rfl (by kernel_rfl) (by kernel_rfl) (by kernel_rfl) (fun _ _ _ h => h) (Or.inr ⟨by rfl, rfl⟩) (by assumption) ?_
                try simp only [Act.put, List.setIfInBounds_toArray, List.set_cons_zero, List.set_cons_succ]
                refine wpAnyH_take (i := 4) (oi := { dst := some 32, op := Go.Op.binOp Go.BinOp.eql 3 (Go.Operand.tmp 30) (Go.Operand.tmp 31) 3, type := 4, pos := "ref.go:35", after := #[{ on := 2, ground := Go.Ground.data }, { on := 3, ground := Go.Ground.data }, { on := 1, ground := Go.Ground.guard }], guard := some (1, true) }) (v := undef) rfl (by kernel_rfl) (by kernel_rfl) (by kernel_rfl) (fun _ _ _ h => h) (Or.inr ⟨by rfl, rfl⟩) (by assumption) ?_
                try simp only [Act.put, List.setIfInBounds_toArray, List.set_cons_zero, List.set_cons_succ]
                refine wpAnyH_take (i := 5) (oi := { dst := some 33, op := Go.Op.move (Go.Operand.tmp 32), type := 4, pos := "ref.go:35", after := #[{ on := 4, ground := Go.Ground.data }, { on := 1, ground := Go.Ground.chain }, { on := 1, ground := Go.Ground.guard }], guard := some (1, true) }) (v := undef) rfl (by kernel_rfl) (by kernel_rfl) (by kernel_rfl) (fun _ _ _ h => h) (Or.inr ⟨by rfl, rfl⟩) (by assumption) ?_
                try simp only [Act.put, List.setIfInBounds_toArray, List.set_cons_zero, List.set_cons_succ]
                refine wpAnyH_take (i := 6) (oi := { dst := some 34, op := Go.Op.move (Go.Operand.tmp 0), type := 22, pos := "ref.go:35", after := #[{ on := 5, ground := Go.Ground.guard }], guard := some (5, false) }) (v := undef) rfl (by kernel_rfl) (by kernel_rfl) (by kernel_rfl) (fun _ _ _ h => h) (Or.inr ⟨by rfl, rfl⟩) (by assumption) ?_
                try simp only [Act.put, List.setIfInBounds_toArray, List.set_cons_zero, List.set_cons_succ]
                refine wpAnyH_take (i := 7) (oi := { dst := some 35, op := Go.Op.move (Go.Operand.tmp 3), type := 31, pos := "ref.go:35", after := #[{ on := 5, ground := Go.Ground.guard }], guard := some (5, false) }) (v := undef) rfl (by kernel_rfl) (by kernel_rfl) (by kernel_rfl) (fun _ _ _ h => h) (Or.inr ⟨by rfl, rfl⟩) (by assumption) ?_
                try simp only [Act.put, List.setIfInBounds_toArray, List.set_cons_zero, List.set_cons_succ]
                refine wpAnyH_take (i := 8) (oi := { dst := some 36, op := Go.Op.move (Go.Operand.tmp 6), type := 3, pos := "ref.go:35", after := #[{ on := 5, ground := Go.Ground.guard }], guard := some (5, false) }) (v := undef) rfl (by kernel_rfl) (by kernel_rfl) (by kernel_rfl) (fun _ _ _ h => h) (Or.inr ⟨by rfl, rfl⟩) (by assumption) ?_
                try simp only [Act.put, List.setIfInBounds_toArray, List.set_cons_zero, List.set_cons_succ]
                refine wpAnyH_take (i := 9) (oi := { dst := some 37, op := Go.Op.indexAddr 31 (Go.Operand.tmp 35) (Go.Operand.tmp 36), type := 0, pos := "ref.go:35", after := #[{ on := 7, ground := Go.Ground.data }, { on := 8, ground := Go.Ground.data }, { on := 5, ground := Go.Ground.guard }], guard := some (5, false) }) (v := undef) rfl (by kernel_rfl) (by kernel_rfl) (by kernel_rfl) (fun _ _ _ h => h) (Or.inr ⟨by rfl, rfl⟩) (by assumption) ?_
                try simp only [Act.put, List.setIfInBounds_toArray, List.set_cons_zero, List.set_cons_succ]
                refine wpAnyH_take (i := 10) (oi := { dst := some 38, op := Go.Op.load 35 (Go.Operand.tmp 37), type := 35, pos := "ref.go:35", after := #[{ on := 9, ground := Go.Ground.data }, { on := 5, ground := Go.Ground.guard }], guard := some (5, false) }) (v := undef) rfl (by kernel_rfl) (by kernel_rfl) (by kernel_rfl) (fun _ _ _ h => h) (Or.inr ⟨by rfl, rfl⟩) (by assumption) ?_
                try simp only [Act.put, List.setIfInBounds_toArray, List.set_cons_zero, List.set_cons_succ]
                refine wpAnyH_take (i := 11) (oi := { dst := some 39, op := Go.Op.move (Go.Operand.tmp 3), type := 31, pos := "ref.go:35", after := #[{ on := 5, ground := Go.Ground.guard }], guard := some (5, false) }) (v := undef) rfl (by kernel_rfl) (by kernel_rfl) (by kernel_rfl) (fun _ _ _ h => h) (Or.inr ⟨by rfl, rfl⟩) (by assumption) ?_
                try simp only [Act.put, List.setIfInBounds_toArray, List.set_cons_zero, List.set_cons_succ]
                refine wpAnyH_take (i := 12) (oi := { dst := some 40, op := Go.Op.move (Go.Operand.tmp 8), type := 3, pos := "ref.go:35", after := #[{ on := 5, ground := Go.Ground.guard }], guard := some (5, false) }) (v := undef) rfl (by kernel_rfl) (by kernel_rfl) (by kernel_rfl) (fun _ _ _ h => h) (Or.inr ⟨by rfl, rfl⟩) (by assumption) ?_
                try simp only [Act.put, List.setIfInBounds_toArray, List.set_cons_zero, List.set_cons_succ]
                refine wpAnyH_take (i := 13) (oi := { dst := some 41, op := Go.Op.indexAddr 31 (Go.Operand.tmp 39) (Go.Operand.tmp 40), type := 0, pos := "ref.go:35", after := #[{ on := 11, ground := Go.Ground.data }, { on := 12, ground := Go.Ground.data }, { on := 5, ground := Go.Ground.guard }], guard := some (5, false) }) (v := undef) rfl (by kernel_rfl) (by kernel_rfl) (by kernel_rfl) (fun _ _ _ h => h) (Or.inr ⟨by rfl, rfl⟩) (by assumption) ?_
                try simp only [Act.put, List.setIfInBounds_toArray, List.set_cons_zero, List.set_cons_succ]
                refine wpAnyH_take (i := 14) (oi := { dst := some 42, op := Go.Op.load 35 (Go.Operand.tmp 41), type := 35, pos := "ref.go:35", after := #[{ on := 13, ground := Go.Ground.data }, { on := 5, ground := Go.Ground.guard }], guard := some (5, false) }) (v := undef) rfl (by kernel_rfl) (by kernel_rfl) (by kernel_rfl) (fun _ _ _ h => h) (Or.inr ⟨by rfl, rfl⟩) (by assumption) ?_
                try simp only [Act.put, List.setIfInBounds_toArray, List.set_cons_zero, List.set_cons_succ]
                refine wpAnyH_take (i := 15) (oi := { dst := some 43, op := Go.Op.call { callee := Go.Callee.value (Go.Operand.func 29), args := #[Go.Operand.tmp 34, Go.Operand.tmp 38, Go.Operand.tmp 42], argTypes := #[22, 35, 35] }, type := 4, pos := "ref.go:35", after := #[{ on := 6, ground := Go.Ground.data }, { on := 10, ground := Go.Ground.data }, { on := 14, ground := Go.Ground.data }, { on := 5, ground := Go.Ground.chain }, { on := 5, ground := Go.Ground.guard }], guard := some (5, false) }) (v := undef) rfl (by kernel_rfl) (by kernel_rfl) (by kernel_rfl) (fun _ _ _ h => h) (Or.inr ⟨by rfl, rfl⟩) (by assumption) ?_
                try simp only [Act.put, List.setIfInBounds_toArray, List.set_cons_zero, List.set_cons_succ]
                refine wpAnyH_take (i := 16) (oi := { dst := some 44, op := Go.Op.unOp Go.UnOp.not 4 (Go.Operand.tmp 43), type := 4, pos := "ref.go:35", after := #[{ on := 15, ground := Go.Ground.data }, { on := 5, ground := Go.Ground.guard }], guard := some (5, false) }) (v := undef) rfl (by kernel_rfl) (by kernel_rfl) (by kernel_rfl) (fun _ _ _ h => h) (Or.inr ⟨by rfl, rfl⟩) (by assumption) ?_
                try simp only [Act.put, List.setIfInBounds_toArray, List.set_cons_zero, List.set_cons_succ]
                refine wpAnyH_take (i := 17) (oi := { dst := some 45, op := Go.Op.pick (Go.Operand.tmp 33) (Go.Operand.const (Go.Value.bool true)) (Go.Operand.tmp 44), type := 4, pos := "ref.go:35", after := #[{ on := 5, ground := Go.Ground.data }, { on := 16, ground := Go.Ground.data }, { on := 1, ground := Go.Ground.guard }], guard := some (1, true) }) (v := undef) rfl (by kernel_rfl) (by kernel_rfl) (by kernel_rfl) (fun _ _ _ h => h) (Or.inr ⟨by rfl, rfl⟩) (by assumption) ?_
                try simp only [Act.put, List.setIfInBounds_toArray, List.set_cons_zero, List.set_cons_succ]
                refine wpAnyH_take (i := 18) (oi := { dst := some 46, op := Go.Op.pick (Go.Operand.tmp 29) (Go.Operand.tmp 45) (Go.Operand.const (Go.Value.bool false)), type := 4, pos := "ref.go:35", after := #[{ on := 1, ground := Go.Ground.data }, { on := 17, ground := Go.Ground.data }], guard := none }) (v := ?_) rfl (by kernel_rfl) (by kernel_rfl) (by kernel_rfl) (fun _ _ _ h => h) (Or.inl ⟨by rfl, ?_⟩) (by assumption) ?_
                rotate_left
                · (intro w hSw; (try dsimp only at hSw); go_simp; (try (with_reducible rfl)))
                try simp only [Act.put, List.setIfInBounds_toArray, List.set_cons_zero, List.set_cons_succ]
                refine wpAnyH_take (i := 19) (oi := { dst := some 7, op := Go.Op.assign (Go.Operand.tmp 46), type := 4, pos := "ref.go:35", after := #[{ on := 18, ground := Go.Ground.data }, { on := 15, ground := Go.Ground.chain }, { on := 0, ground := Go.Ground.phase }, { on := 1, ground := Go.Ground.phase }, { on := 2, ground := Go.Ground.phase }, { on := 3, ground := Go.Ground.phase }, { on := 4, ground := Go.Ground.phase }, { on := 5, ground := Go.Ground.phase }, { on := 6, ground := Go.Ground.phase }, { on := 7, ground := Go.Ground.phase }, { on := 8, ground := Go.Ground.phase }, { on := 9, ground := Go.Ground.phase }, { on := 10, ground := Go.Ground.phase }, { on := 11, ground := Go.Ground.phase }, { on := 12, ground := Go.Ground.phase }, { on := 13, ground := Go.Ground.phase }, { on := 14, ground := Go.Ground.phase }, { on := 15, ground := Go.Ground.phase }, { on := 16, ground := Go.Ground.phase }, { on := 17, ground := Go.Ground.phase }, { on := 18, ground := Go.Ground.phase }], guard := none }) (v := ?_) rfl (by kernel_rfl) (by kernel_rfl) (by kernel_rfl) (fun _ _ _ h => h) (Or.inl ⟨by rfl, ?_⟩) (by assumption) ?_
                rotate_left
                · (intro w hSw; (try dsimp only at hSw); go_simp; (try (with_reducible rfl)))
                try simp only [Act.put, List.setIfInBounds_toArray, List.set_cons_zero, List.set_cons_succ]
                refine wpAnyH_done (by kernel_rfl) ?_ _
                go_wp2_with fail
                go_roundw
                case rel => exact ⟨k + 1, false, hk1.out, rfl, by go_num, hD, enD, hB2⟩
                case measure => simp [intOf]; have := hk1.out; omega
              | true =>
                by_cases hki2 : k = i
                · subst hki2
                  have hB2 : Hid (AskB nx X xl k (k + 1) true) := Lib.hid (Iff.trans hB.out AskK.self.symm)
                  clear hst hen hB
                  go_wp2_with fail
                  refine wp_region_held_drew (S := fun _ => True) (by kernel_rfl) trivial (fun hHeld => ?_)
                  refine wpAnyH_take (i := 0) (oi := { dst := some 28, op := Go.Op.move (Go.Operand.tmp 7), type := 4, pos := "ref.go:35", after := #[], guard := none }) (v := ?_) rfl (by kernel_rfl) (by kernel_rfl) (by kernel_rfl) (fun _ _ _ h => h) (Or.inl ⟨by rfl, ?_⟩) (by assumption) ?_
                  rotate_left
                  · (intro w hSw; (try dsimp only at hSw); go_simp; (try (with_reducible rfl)))
                  try simp only [Act.put, List.setIfInBounds_toArray, List.set_cons_zero, List.set_cons_succ]
                  refine wpAnyH_take (i := 1) (oi := { dst := some 29, op := Go.Op.move (Go.Operand.tmp 28), type := 4, pos := "ref.go:35", after := #[{ on := 0, ground := Go.Ground.data }], guard := none }) (v := ?_) rfl (by kernel_rfl) (by kernel_rfl) (by kernel_rfl) (fun _ _ _ h => h) (Or.inl ⟨by rfl, ?_⟩) (by assumption) ?_
                  rotate_left
                  · (intro w hSw; (try dsimp only at hSw); go_simp; (try (with_reducible rfl)))
                  try simp only [Act.put, List.setIfInBounds_toArray, List.set_cons_zero, List.set_cons_succ]
                  refine wpAnyH_take (i := 2) (oi := { dst := some 30, op := Go.Op.move (Go.Operand.tmp 8), type := 3, pos := "ref.go:35", after := #[{ on := 1, ground := Go.Ground.guard }], guard := some (1, true) }) (v := ?_) rfl (by kernel_rfl) (by kernel_rfl) (by kernel_rfl) (fun _ _ _ h => h) (Or.inl ⟨by rfl, ?_⟩) (by assumption) ?_
                  rotate_left
                  · (intro w hSw; (try dsimp only at hSw); go_simp; (try (with_reducible rfl)))
                  try simp only [Act.put, List.setIfInBounds_toArray, List.set_cons_zero, List.set_cons_succ]
                  refine wpAnyH_take (i := 3) (oi := { dst := some 31, op := Go.Op.move (Go.Operand.tmp 6), type := 3, pos := "ref.go:35", after := #[{ on := 1, ground := Go.Ground.guard }], guard := some (1, true) }) (v := ?_) rfl (by kernel_rfl) (by kernel_rfl) (by kernel_rfl) (fun _ _ _ h => h) (Or.inl ⟨by rfl, ?_⟩) (by assumption) ?_
                  rotate_left
                  · (intro w hSw; (try dsimp only at hSw); go_simp; (try (with_reducible rfl)))
                  try simp only [Act.put, List.setIfInBounds_toArray, List.set_cons_zero, List.set_cons_succ]
                  refine wpAnyH_take (i := 4) (oi := { dst := some 32, op := Go.Op.binOp Go.BinOp.eql 3 (Go.Operand.tmp 30) (Go.Operand.tmp 31) 3, type := 4, pos := "ref.go:35", after := #[{ on := 2, ground := Go.Ground.data }, { on := 3, ground := Go.Ground.data }, { on := 1, ground := Go.Ground.guard }], guard := some (1, true) }) (v := ?_) rfl (by kernel_rfl) (by kernel_rfl) (by kernel_rfl) (fun _ _ _ h => h) (Or.inl ⟨by rfl, ?_⟩) (by assumption) ?_
                  rotate_left
                  · (intro w hSw; (try dsimp only at hSw); go_simp; (try (with_reducible rfl)))
                  try simp only [Act.put, List.setIfInBounds_toArray, List.set_cons_zero, List.set_cons_succ]
                  refine wpAnyH_take (i := 5) (oi := { dst := some 33, op := Go.Op.move (Go.Operand.tmp 32), type := 4, pos := "ref.go:35", after := #[{ on := 4, ground := Go.Ground.data }, { on := 1, ground := Go.Ground.chain }, { on := 1, ground := Go.Ground.guard }], guard := some (1, true) }) (v := ?_) rfl (by kernel_rfl) (by kernel_rfl) (by kernel_rfl) (fun _ _ _ h => h) (Or.inl ⟨by rfl, ?_⟩) (by assumption) ?_
                  rotate_left
                  · (intro w hSw; (try dsimp only at hSw); go_simp; (try (with_reducible rfl)))
                  try simp only [Act.put, List.setIfInBounds_toArray, List.set_cons_zero, List.set_cons_succ]
                  refine wpAnyH_take (i := 6) (oi := { dst := some 34, op := Go.Op.move (Go.Operand.tmp 0), type := 22, pos := "ref.go:35", after := #[{ on := 5, ground := Go.Ground.guard }], guard := some (5, false) }) (v := undef) rfl (by kernel_rfl) (by kernel_rfl) (by kernel_rfl) (fun _ _ _ h => h) (Or.inr ⟨by rfl, rfl⟩) (by assumption) ?_
                  try simp only [Act.put, List.setIfInBounds_toArray, List.set_cons_zero, List.set_cons_succ]
                  refine wpAnyH_take (i := 7) (oi := { dst := some 35, op := Go.Op.move (Go.Operand.tmp 3), type := 31, pos := "ref.go:35", after := #[{ on := 5, ground := Go.Ground.guard }], guard := some (5, false) }) (v := undef) rfl (by kernel_rfl) (by kernel_rfl) (by kernel_rfl) (fun _ _ _ h => h) (Or.inr ⟨by rfl, rfl⟩) (by assumption) ?_
                  try simp only [Act.put, List.setIfInBounds_toArray, List.set_cons_zero, List.set_cons_succ]
                  refine wpAnyH_take (i := 8) (oi := { dst := some 36, op := Go.Op.move (Go.Operand.tmp 6), type := 3, pos := "ref.go:35", after := #[{ on := 5, ground := Go.Ground.guard }], guard := some (5, false) }) (v := undef) rfl (by kernel_rfl) (by kernel_rfl) (by kernel_rfl) (fun _ _ _ h => h) (Or.inr ⟨by rfl, rfl⟩) (by assumption) ?_
                  try simp only [Act.put, List.setIfInBounds_toArray, List.set_cons_zero, List.set_cons_succ]
                  refine wpAnyH_take (i := 9) (oi := { dst := some 37, op := Go.Op.indexAddr 31 (Go.Operand.tmp 35) (Go.Operand.tmp 36), type := 0, pos := "ref.go:35", after := #[{ on := 7, ground := Go.Ground.data }, { on := 8, ground := Go.Ground.data }, { on := 5, ground := Go.Ground.guard }], guard := some (5, false) }) (v := undef) rfl (by kernel_rfl) (by kernel_rfl) (by kernel_rfl) (fun _ _ _ h => h) (Or.inr ⟨by rfl, rfl⟩) (by assumption) ?_
                  try simp only [Act.put, List.setIfInBounds_toArray, List.set_cons_zero, List.set_cons_succ]
                  refine wpAnyH_take (i := 10) (oi := { dst := some 38, op := Go.Op.load 35 (Go.Operand.tmp 37), type := 35, pos := "ref.go:35", after := #[{ on := 9, ground := Go.Ground.data }, { on := 5, ground := Go.Ground.guard }], guard := some (5, false) }) (v := undef) rfl (by kernel_rfl) (by kernel_rfl) (by kernel_rfl) (fun _ _ _ h => h) (Or.inr ⟨by rfl, rfl⟩) (by assumption) ?_
                  try simp only [Act.put, List.setIfInBounds_toArray, List.set_cons_zero, List.set_cons_succ]
                  refine wpAnyH_take (i := 11) (oi := { dst := some 39, op := Go.Op.move (Go.Operand.tmp 3), type := 31, pos := "ref.go:35", after := #[{ on := 5, ground := Go.Ground.guard }], guard := some (5, false) }) (v := undef) rfl (by kernel_rfl) (by kernel_rfl) (by kernel_rfl) (fun _ _ _ h => h) (Or.inr ⟨by rfl, rfl⟩) (by assumption) ?_
                  try simp only [Act.put, List.setIfInBounds_toArray, List.set_cons_zero, List.set_cons_succ]
                  refine wpAnyH_take (i := 12) (oi := { dst := some 40, op := Go.Op.move (Go.Operand.tmp 8), type := 3, pos := "ref.go:35", after := #[{ on := 5, ground := Go.Ground.guard }], guard := some (5, false) }) (v := undef) rfl (by kernel_rfl) (by kernel_rfl) (by kernel_rfl) (fun _ _ _ h => h) (Or.inr ⟨by rfl, rfl⟩) (by assumption) ?_
                  try simp only [Act.put, List.setIfInBounds_toArray, List.set_cons_zero, List.set_cons_succ]
                  refine wpAnyH_take (i := 13) (oi := { dst := some 41, op := Go.Op.indexAddr 31 (Go.Operand.tmp 39) (Go.Operand.tmp 40), type := 0, pos := "ref.go:35", after := #[{ on := 11, ground := Go.Ground.data }, { on := 12, ground := Go.Ground.data }, { on := 5, ground := Go.Ground.guard }], guard := some (5, false) }) (v := undef) rfl (by kernel_rfl) (by kernel_rfl) (by kernel_rfl) (fun _ _ _ h => h) (Or.inr ⟨by rfl, rfl⟩) (by assumption) ?_
                  try simp only [Act.put, List.setIfInBounds_toArray, List.set_cons_zero, List.set_cons_succ]
                  refine wpAnyH_take (i := 14) (oi := { dst := some 42, op := Go.Op.load 35 (Go.Operand.tmp 41), type := 35, pos := "ref.go:35", after := #[{ on := 13, ground := Go.Ground.data }, { on := 5, ground := Go.Ground.guard }], guard := some (5, false) }) (v := undef) rfl (by kernel_rfl) (by kernel_rfl) (by kernel_rfl) (fun _ _ _ h => h) (Or.inr ⟨by rfl, rfl⟩) (by assumption) ?_
                  try simp only [Act.put, List.setIfInBounds_toArray, List.set_cons_zero, List.set_cons_succ]
                  refine wpAnyH_take (i := 15) (oi := { dst := some 43, op := Go.Op.call { callee := Go.Callee.value (Go.Operand.func 29), args := #[Go.Operand.tmp 34, Go.Operand.tmp 38, Go.Operand.tmp 42], argTypes := #[22, 35, 35] }, type := 4, pos := "ref.go:35", after := #[{ on := 6, ground := Go.Ground.data }, { on := 10, ground := Go.Ground.data }, { on := 14, ground := Go.Ground.data }, { on := 5, ground := Go.Ground.chain }, { on := 5, ground := Go.Ground.guard }], guard := some (5, false) }) (v := undef) rfl (by kernel_rfl) (by kernel_rfl) (by kernel_rfl) (fun _ _ _ h => h) (Or.inr ⟨by rfl, rfl⟩) (by assumption) ?_
                  try simp only [Act.put, List.setIfInBounds_toArray, List.set_cons_zero, List.set_cons_succ]
                  refine wpAnyH_take (i := 16) (oi := { dst := some 44, op := Go.Op.unOp Go.UnOp.not 4 (Go.Operand.tmp 43), type := 4, pos := "ref.go:35", after := #[{ on := 15, ground := Go.Ground.data }, { on := 5, ground := Go.Ground.guard }], guard := some (5, false) }) (v := undef) rfl (by kernel_rfl) (by kernel_rfl) (by kernel_rfl) (fun _ _ _ h => h) (Or.inr ⟨by rfl, rfl⟩) (by assumption) ?_
                  try simp only [Act.put, List.setIfInBounds_toArray, List.set_cons_zero, List.set_cons_succ]
                  refine wpAnyH_take (i := 17) (oi := { dst := some 45, op := Go.Op.pick (Go.Operand.tmp 33) (Go.Operand.const (Go.Value.bool true)) (Go.Operand.tmp 44), type := 4, pos := "ref.go:35", after := #[{ on := 5, ground := Go.Ground.data }, { on := 16, ground := Go.Ground.data }, { on := 1, ground := Go.Ground.guard }], guard := some (1, true) }) (v := ?_) rfl (by kernel_rfl) (by kernel_rfl) (by kernel_rfl) (fun _ _ _ h => h) (Or.inl ⟨by rfl, ?_⟩) (by assumption) ?_
                  rotate_left
                  · (intro w hSw; (try dsimp only at hSw); go_simp; (try (with_reducible rfl)))
                  try simp only [Act.put, List.setIfInBounds_toArray, List.set_cons_zero, List.set_cons_succ]
                  refine wpAnyH_take (i := 18) (oi := { dst := some 46, op := Go.Op.pick (Go.Operand.tmp 29) (Go.Operand.tmp 45) (Go.Operand.const (Go.Value.bool false)), type := 4, pos := "ref.go:35", after := #[{ on := 1, ground := Go.Ground.data }, { on := 17, ground := Go.Ground.data }], guard := none }) (v := ?_) rfl (by kernel_rfl) (by kernel_rfl) (by kernel_rfl) (fun _ _ _ h => h) (Or.inl ⟨by rfl, ?_⟩) (by assumption) ?_
                  rotate_left
                  · (intro w hSw; (try dsimp only at hSw); go_simp; (try (with_reducible rfl)))
                  try simp only [Act.put, List.setIfInBounds_toArray, List.set_cons_zero, List.set_cons_succ]
                  refine wpAnyH_take (i := 19) (oi := { dst := some 7, op := Go.Op.assign (Go.Operand.tmp 46), type := 4, pos := "ref.go:35", after := #[{ on := 18, ground := Go.Ground.data }, { on := 15, ground := Go.Ground.chain }, { on := 0, ground := Go.Ground.phase }, { on := 1, ground := Go.Ground.phase }, { on := 2, ground := Go.Ground.phase }, { on := 3, ground := Go.Ground.phase }, { on := 4, ground := Go.Ground.phase }, { on := 5, ground := Go.Ground.phase }, { on := 6, ground := Go.Ground.phase }, { on := 7, ground := Go.Ground.phase }, { on := 8, ground := Go.Ground.phase }, { on := 9, ground := Go.Ground.phase }, { on := 10, ground := Go.Ground.phase }, { on := 11, ground := Go.Ground.phase }, { on := 12, ground := Go.Ground.phase }, { on := 13, ground := Go.Ground.phase }, { on := 14, ground := Go.Ground.phase }, { on := 15, ground := Go.Ground.phase }, { on := 16, ground := Go.Ground.phase }, { on := 17, ground := Go.Ground.phase }, { on := 18, ground := Go.Ground.phase }], guard := none }) (v := ?_) rfl (by kernel_rfl) (by kernel_rfl) (by kernel_rfl) (fun _ _ _ h => h) (Or.inl ⟨by rfl, ?_⟩) (by assumption) ?_
                  rotate_left
                  · (intro w hSw; (try dsimp only at hSw); go_simp; (try (with_reducible rfl)))
                  try simp only [Act.put, List.setIfInBounds_toArray, List.set_cons_zero, List.set_cons_succ]
                  refine wpAnyH_done (by kernel_rfl) ?_ _
                  go_wp2_with fail
                  go_roundw
                  case rel => exact ⟨k + 1, true, hk1.out, rfl, by go_num, hD, enD, hB2⟩
                  case measure => simp [intOf]; have := hk1.out; omega
                · have hne : ((k : Int) == (i : Int)) = false := by rw [beq_eq_false_iff_ne]; omega
                  have hned : decide ((k : Int) = (i : Int)) = false := decide_eq_false (by omega)
                  have c2 := hcell.out k hkt
                  have hyr := hX.out X[k] (List.getElem_mem hkt)
                  have hBn := AskK.next (nx := nx) (xl := xl) hkt hki2
                  generalize X[k] = y at *
                  obtain ⟨yl, yv⟩ := y
                  obtain ⟨zA, zn, zc, rfl, _⟩ := hyr.form
                  simp only at c2 hyr hBn
                  have hB2 : Hid (AskB nx X xl i (k + 1) (!leadsB nx xl yl)) := Lib.hid (by
                    unfold AskB
                    rw [hBn, Bool.not_eq_true']
                    exact ⟨fun h => ⟨hB.out.1 rfl, h⟩, fun h => h.2⟩)
                  have kk : ∀ (l' : List HA) (w' : World), St H5 l' w' → w'.cell? ⟨b, off + i, none⟩ = some (.slice xA xn xc') ∧ w'.cell? ⟨b, off + k, none⟩ = some (.slice zA zn zc) := fun l' w' h' => ⟨h'.cell c1, h'.cell c2⟩
                  have kA := kk _ _ hD
                  have hLe := hLd.out (.slice xA xn xc') (.slice zA zn zc) xl yl H5 _ _ (Hp.le_trans l13 l5) hD hxr hyr
                  generalize leadsB nx xl yl = LB at *
                  replace hLe := Lib.hid hLe
                  replace kk := Lib.hid kk
                  replace hki2 := Lib.hid hki2
                  clear hst hen hB hBn
                  go_wp2_with fail
                  refine wp_region_held_drew (S := fun w' => w'.cell? ⟨b, off + i, none⟩ = some (.slice xA xn xc') ∧ w'.cell? ⟨b, off + k, none⟩ = some (.slice zA zn zc)) (by kernel_rfl) kA (fun hHeld => ?_)
                  refine wpAnyH_take (i := 0) (oi := { dst := some 28, op := Go.Op.move (Go.Operand.tmp 7), type := 4, pos := "ref.go:35", after := #[], guard := none }) (v := ?_) rfl (by kernel_rfl) (by kernel_rfl) (by kernel_rfl) (fun _ _ _ h => h) (Or.inl ⟨by rfl, ?_⟩) (by assumption) ?_
                  rotate_left
                  · (intro w hSw; (try dsimp only at hSw); go_simp; (try (with_reducible rfl)))
                  try simp only [Act.put, List.setIfInBounds_toArray, List.set_cons_zero, List.set_cons_succ]
                  refine wpAnyH_take (i := 1) (oi := { dst := some 29, op := Go.Op.move (Go.Operand.tmp 28), type := 4, pos := "ref.go:35", after := #[{ on := 0, ground := Go.Ground.data }], guard := none }) (v := ?_) rfl (by kernel_rfl) (by kernel_rfl) (by kernel_rfl) (fun _ _ _ h => h) (Or.inl ⟨by rfl, ?_⟩) (by assumption) ?_
                  rotate_left
                  · (intro w hSw; (try dsimp only at hSw); go_simp; (try (with_reducible rfl)))
                  try simp only [Act.put, List.setIfInBounds_toArray, List.set_cons_zero, List.set_cons_succ]
                  refine wpAnyH_take (i := 2) (oi := { dst := some 30, op := Go.Op.move (Go.Operand.tmp 8), type := 3, pos := "ref.go:35", after := #[{ on := 1, ground := Go.Ground.guard }], guard := some (1, true) }) (v := ?_) rfl (by kernel_rfl) (by kernel_rfl) (by kernel_rfl) (fun _ _ _ h => h) (Or.inl ⟨by rfl, ?_⟩) (by assumption) ?_
                  rotate_left
                  · (intro w hSw; (try dsimp only at hSw); go_simp; (try (with_reducible rfl)))
                  try simp only [Act.put, List.setIfInBounds_toArray, List.set_cons_zero, List.set_cons_succ]
                  refine wpAnyH_take (i := 3) (oi := { dst := some 31, op := Go.Op.move (Go.Operand.tmp 6), type := 3, pos := "ref.go:35", after := #[{ on := 1, ground := Go.Ground.guard }], guard := some (1, true) }) (v := ?_) rfl (by kernel_rfl) (by kernel_rfl) (by kernel_rfl) (fun _ _ _ h => h) (Or.inl ⟨by rfl, ?_⟩) (by assumption) ?_
                  rotate_left
                  · (intro w hSw; (try dsimp only at hSw); go_simp; (try (with_reducible rfl)))
                  try simp only [Act.put, List.setIfInBounds_toArray, List.set_cons_zero, List.set_cons_succ]
                  refine wpAnyH_take (i := 4) (oi := { dst := some 32, op := Go.Op.binOp Go.BinOp.eql 3 (Go.Operand.tmp 30) (Go.Operand.tmp 31) 3, type := 4, pos := "ref.go:35", after := #[{ on := 2, ground := Go.Ground.data }, { on := 3, ground := Go.Ground.data }, { on := 1, ground := Go.Ground.guard }], guard := some (1, true) }) (v := ?_) rfl (by kernel_rfl) (by kernel_rfl) (by kernel_rfl) (fun _ _ _ h => h) (Or.inl ⟨by rfl, ?_⟩) (by assumption) ?_
                  rotate_left
                  · (intro w hSw; (try dsimp only at hSw); go_simp; (try (with_reducible rfl)))
                  try simp only [Act.put, List.setIfInBounds_toArray, List.set_cons_zero, List.set_cons_succ]
                  refine wpAnyH_take (i := 5) (oi := { dst := some 33, op := Go.Op.move (Go.Operand.tmp 32), type := 4, pos := "ref.go:35", after := #[{ on := 4, ground := Go.Ground.data }, { on := 1, ground := Go.Ground.chain }, { on := 1, ground := Go.Ground.guard }], guard := some (1, true) }) (v := ?_) rfl (by kernel_rfl) (by kernel_rfl) (by kernel_rfl) (fun _ _ _ h => h) (Or.inl ⟨by rfl, ?_⟩) (by assumption) ?_
                  rotate_left
                  · (intro w hSw; (try dsimp only at hSw); go_simp; (try (with_reducible rfl)))
                  try simp only [Act.put, List.setIfInBounds_toArray, List.set_cons_zero, List.set_cons_succ]
                  refine wpAnyH_take (i := 6) (oi := { dst := some 34, op := Go.Op.move (Go.Operand.tmp 0), type := 22, pos := "ref.go:35", after := #[{ on := 5, ground := Go.Ground.guard }], guard := some (5, false) }) (v := ?_) rfl (by kernel_rfl) (by kernel_rfl) (by kernel_rfl) (fun _ _ _ h => h) (Or.inl ⟨by rfl, ?_⟩) (by assumption) ?_
                  rotate_left
                  · (intro w hSw; (try dsimp only at hSw); go_simp; (try (with_reducible rfl)))
                  try simp only [Act.put, List.setIfInBounds_toArray, List.set_cons_zero, List.set_cons_succ]
                  refine wpAnyH_take (i := 7) (oi := { dst := some 35, op := Go.Op.move (Go.Operand.tmp 3), type := 31, pos := "ref.go:35", after := #[{ on := 5, ground := Go.Ground.guard }], guard := some (5, false) }) (v := ?_) rfl (by kernel_rfl) (by kernel_rfl) (by kernel_rfl) (fun _ _ _ h => h) (Or.inl ⟨by rfl, ?_⟩) (by assumption) ?_
                  rotate_left
                  · (intro w hSw; (try dsimp only at hSw); go_simp; (try (with_reducible rfl)))
                  try simp only [Act.put, List.setIfInBounds_toArray, List.set_cons_zero, List.set_cons_succ]
                  refine wpAnyH_take (i := 8) (oi := { dst := some 36, op := Go.Op.move (Go.Operand.tmp 6), type := 3, pos := "ref.go:35", after := #[{ on := 5, ground := Go.Ground.guard }], guard := some (5, false) }) (v := ?_) rfl (by kernel_rfl) (by kernel_rfl) (by kernel_rfl) (fun _ _ _ h => h) (Or.inl ⟨by rfl, ?_⟩) (by assumption) ?_
                  rotate_left
                  · (intro w hSw; (try dsimp only at hSw); go_simp; (try (with_reducible rfl)))
                  try simp only [Act.put, List.setIfInBounds_toArray, List.set_cons_zero, List.set_cons_succ]
                  refine wpAnyH_take (i := 9) (oi := { dst := some 37, op := Go.Op.indexAddr 31 (Go.Operand.tmp 35) (Go.Operand.tmp 36), type := 0, pos := "ref.go:35", after := #[{ on := 7, ground := Go.Ground.data }, { on := 8, ground := Go.Ground.data }, { on := 5, ground := Go.Ground.guard }], guard := some (5, false) }) (v := ?_) rfl (by kernel_rfl) (by kernel_rfl) (by kernel_rfl) (fun _ _ _ h => h) (Or.inl ⟨by rfl, ?_⟩) (by assumption) ?_
                  rotate_left
                  · (intro w hSw; (try dsimp only at hSw); go_simp; (try (with_reducible rfl)))
                  try simp only [Act.put, List.setIfInBounds_toArray, List.set_cons_zero, List.set_cons_succ]
                  refine wpAnyH_take (i := 10) (oi := { dst := some 38, op := Go.Op.load 35 (Go.Operand.tmp 37), type := 35, pos := "ref.go:35", after := #[{ on := 9, ground := Go.Ground.data }, { on := 5, ground := Go.Ground.guard }], guard := some (5, false) }) (v := ?_) rfl (by kernel_rfl) (by kernel_rfl) (by kernel_rfl) (fun _ _ _ h => h) (Or.inl ⟨by rfl, ?_⟩) (by assumption) ?_
                  rotate_left
                  · (intro w hSw; (try dsimp only at hSw); go_simp; (try (with_reducible rfl)))
                  try simp only [Act.put, List.setIfInBounds_toArray, List.set_cons_zero, List.set_cons_succ]
                  refine wpAnyH_take (i := 11) (oi := { dst := some 39, op := Go.Op.move (Go.Operand.tmp 3), type := 31, pos := "ref.go:35", after := #[{ on := 5, ground := Go.Ground.guard }], guard := some (5, false) }) (v := ?_) rfl (by kernel_rfl) (by kernel_rfl) (by kernel_rfl) (fun _ _ _ h => h) (Or.inl ⟨by rfl, ?_⟩) (by assumption) ?_
                  rotate_left
                  · (intro w hSw; (try dsimp only at hSw); go_simp; (try (with_reducible rfl)))
                  try simp only [Act.put, List.setIfInBounds_toArray, List.set_cons_zero, List.set_cons_succ]
                  refine wpAnyH_take (i := 12) (oi := { dst := some 40, op := Go.Op.move (Go.Operand.tmp 8), type := 3, pos := "ref.go:35", after := #[{ on := 5, ground := Go.Ground.guard }], guard := some (5, false) }) (v := ?_) rfl (by kernel_rfl) (by kernel_rfl) (by kernel_rfl) (fun _ _ _ h => h) (Or.inl ⟨by rfl, ?_⟩) (by assumption) ?_
                  rotate_left
                  · (intro w hSw; (try dsimp only at hSw); go_simp; (try (with_reducible rfl)))
                  try simp only [Act.put, List.setIfInBounds_toArray, List.set_cons_zero, List.set_cons_succ]
                  refine wpAnyH_take (i := 13) (oi := { dst := some 41, op := Go.Op.indexAddr 31 (Go.Operand.tmp 39) (Go.Operand.tmp 40), type := 0, pos := "ref.go:35", after := #[{ on := 11, ground := Go.Ground.data }, { on := 12, ground := Go.Ground.data }, { on := 5, ground := Go.Ground.guard }], guard := some (5, false) }) (v := ?_) rfl (by kernel_rfl) (by kernel_rfl) (by kernel_rfl) (fun _ _ _ h => h) (Or.inl ⟨by rfl, ?_⟩) (by assumption) ?_
                  rotate_left
                  · (intro w hSw; (try dsimp only at hSw); go_simp; (try (with_reducible rfl)))
                  try simp only [Act.put, List.setIfInBounds_toArray, List.set_cons_zero, List.set_cons_succ]
                  refine wpAnyH_take (i := 14) (oi := { dst := some 42, op := Go.Op.load 35 (Go.Operand.tmp 41), type := 35, pos := "ref.go:35", after := #[{ on := 13, ground := Go.Ground.data }, { on := 5, ground := Go.Ground.guard }], guard := some (5, false) }) (v := ?_) rfl (by kernel_rfl) (by kernel_rfl) (by kernel_rfl) (fun _ _ _ h => h) (Or.inl ⟨by rfl, ?_⟩) (by assumption) ?_
                  rotate_left
                  · (intro w hSw; (try dsimp only at hSw); go_simp; (try (with_reducible rfl)))
                  try simp only [Act.put, List.setIfInBounds_toArray, List.set_cons_zero, List.set_cons_succ]
                  refine wpAnyH_ready (rs := [15]) (by kernel_rfl) (by simp) ?_
                  refine AllReadyH.cons (o := { dst := some 43, op := Go.Op.call { callee := Go.Callee.value (Go.Operand.func 29), args := #[Go.Operand.tmp 34, Go.Operand.tmp 38, Go.Operand.tmp 42], argTypes := #[22, 35, 35] }, type := 4, pos := "ref.go:35", after := #[{ on := 6, ground := Go.Ground.data }, { on := 10, ground := Go.Ground.data }, { on := 14, ground := Go.Ground.data }, { on := 5, ground := Go.Ground.chain }, { on := 5, ground := Go.Ground.guard }], guard := some (5, false) }) rfl (fun K hK => ?_) AllReadyH.nil
                  go_simp
                  refine hLe.out.mono ?_
                  rintro e w9 ⟨rfl, hb9⟩
                  have h9 := hD.below hb9
                  have en9 := enD.trans (bel_env hb9)
                  refine hK.out _ _ (kk.out _ _ h9) (fun hHeld2 => ?_)
                  clear hK K hHeld
                  try simp only [Act.put, List.setIfInBounds_toArray, List.set_cons_zero, List.set_cons_succ]
                  refine wpAnyH_take (i := 16) (oi := { dst := some 44, op := Go.Op.unOp Go.UnOp.not 4 (Go.Operand.tmp 43), type := 4, pos := "ref.go:35", after := #[{ on := 15, ground := Go.Ground.data }, { on := 5, ground := Go.Ground.guard }], guard := some (5, false) }) (v := ?_) rfl (by kernel_rfl) (by kernel_rfl) (by kernel_rfl) (fun _ _ _ h => h) (Or.inl ⟨by rfl, ?_⟩) (by assumption) ?_
                  rotate_left
                  · (intro w hSw; (try dsimp only at hSw); go_simp; (try (with_reducible rfl)))
                  try simp only [Act.put, List.setIfInBounds_toArray, List.set_cons_zero, List.set_cons_succ]
                  refine wpAnyH_take (i := 17) (oi := { dst := some 45, op := Go.Op.pick (Go.Operand.tmp 33) (Go.Operand.const (Go.Value.bool true)) (Go.Operand.tmp 44), type := 4, pos := "ref.go:35", after := #[{ on := 5, ground := Go.Ground.data }, { on := 16, ground := Go.Ground.data }, { on := 1, ground := Go.Ground.guard }], guard := some (1, true) }) (v := ?_) rfl (by kernel_rfl) (by kernel_rfl) (by kernel_rfl) (fun _ _ _ h => h) (Or.inl ⟨by rfl, ?_⟩) (by assumption) ?_
                  rotate_left
                  · (intro w hSw; (try dsimp only at hSw); go_simp; (try (with_reducible rfl)))
                  try simp only [Act.put, List.setIfInBounds_toArray, List.set_cons_zero, List.set_cons_succ]
                  refine wpAnyH_take (i := 18) (oi := { dst := some 46, op := Go.Op.pick (Go.Operand.tmp 29) (Go.Operand.tmp 45) (Go.Operand.const (Go.Value.bool false)), type := 4, pos := "ref.go:35", after := #[{ on := 1, ground := Go.Ground.data }, { on := 17, ground := Go.Ground.data }], guard := none }) (v := ?_) rfl (by kernel_rfl) (by kernel_rfl) (by kernel_rfl) (fun _ _ _ h => h) (Or.inl ⟨by rfl, ?_⟩) (by assumption) ?_
                  rotate_left
                  · (intro w hSw; (try dsimp only at hSw); go_simp; (try (with_reducible rfl)))
                  try simp only [Act.put, List.setIfInBounds_toArray, List.set_cons_zero, List.set_cons_succ]
                  refine wpAnyH_take (i := 19) (oi := { dst := some 7, op := Go.Op.assign (Go.Operand.tmp 46), type := 4, pos := "ref.go:35", after := #[{ on := 18, ground := Go.Ground.data }, { on := 15, ground := Go.Ground.chain }, { on := 0, ground := Go.Ground.phase }, { on := 1, ground := Go.Ground.phase }, { on := 2, ground := Go.Ground.phase }, { on := 3, ground := Go.Ground.phase }, { on := 4, ground := Go.Ground.phase }, { on := 5, ground := Go.Ground.phase }, { on := 6, ground := Go.Ground.phase }, { on := 7, ground := Go.Ground.phase }, { on := 8, ground := Go.Ground.phase }, { on := 9, ground := Go.Ground.phase }, { on := 10, ground := Go.Ground.phase }, { on := 11, ground := Go.Ground.phase }, { on := 12, ground := Go.Ground.phase }, { on := 13, ground := Go.Ground.phase }, { on := 14, ground := Go.Ground.phase }, { on := 15, ground := Go.Ground.phase }, { on := 16, ground := Go.Ground.phase }, { on := 17, ground := Go.Ground.phase }, { on := 18, ground := Go.Ground.phase }], guard := none }) (v := ?_) rfl (by kernel_rfl) (by kernel_rfl) (by kernel_rfl) (fun _ _ _ h => h) (Or.inl ⟨by rfl, ?_⟩) (by assumption) ?_
                  rotate_left
                  · (intro w hSw; (try dsimp only at hSw); go_simp; (try (with_reducible rfl)))
                  try simp only [Act.put, List.setIfInBounds_toArray, List.set_cons_zero, List.set_cons_succ]
                  refine wpAnyH_done (by kernel_rfl) ?_ _
                  clear hLe hD enD kA kk hHeld2 hb9
                  cases LB with
                  | true =>
                    go_wp2_with fail
                    go_roundw
                    case rel => exact ⟨k + 1, false, hk1.out, rfl, by go_num, h9, en9, hB2⟩
                    case measure => simp [intOf]; have := hk1.out; omega
                  | false =>
                    go_wp2_with fail
                    go_roundw
                    case rel => exact ⟨k + 1, true, hk1.out, rfl, by go_num, h9, en9, hB2⟩
                    case measure => simp [intOf]; have := hk1.out; omega
            · obtain rfl : k = X.length := by omega
              cases B with
              | true =>
                have hLF := Lib.hid (hhit.out (hAF.out.1 (hB.out.1 rfl)))
                clear hB hhit hmiss hAF
                go_wp2_with fail
                go_roundw
                case rel => exact ⟨i, i, by omega, by go_num, by go_num, hst, hen, hLF⟩
                case measure => first | (simp [intOf]; done) | (simp [intOf]; omega)
              | false =>
                have hLF := Lib.hid (hmiss.out (by
                  cases hf : freeB nx (lists Y).flatten xl with
                  | false => rfl
                  | true => have := hB.out.2 (hAF.out.2 hf); cases this))
                clear hB hhit hmiss hAF
                go_wp2_with fail
                go_roundw
                case rel => exact ⟨i, a, by omega, by go_num, by go_num, hst, hen, hLF⟩
                case measure => first | (simp [intOf]; done) | (simp [intOf]; omega)
end Go.Proofs.YtcbckeoalmjcoaaGreat
