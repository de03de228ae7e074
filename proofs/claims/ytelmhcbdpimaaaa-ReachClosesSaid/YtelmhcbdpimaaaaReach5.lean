/- What some ids reach: open, Closed. -/
import Derived.Test.YtelmhcbdpimaaaaReach4
import Derived.Test.YtelmhcbdpimaaaaEdges7
set_option linter.unusedVariables false
set_option linter.unusedSimpArgs false
namespace Go.Proofs.Ytelmhcbdpimaaaa
open Go.RowKit Go.Cw Go.Fl
attribute [local go_sem ↓] eql_id neq_id
/-- Users of an id, and what is missing. -/
def usrF (L : List Rc) (a : Id) : List Id := sortL (usr a L)
def misF (L : List Rc) : List Id := sortL (mis (rids L) L)
theorem usrF_mem (L : List Rc) (a b : Id) : b ∈ usrF L a ↔ ∃ x ∈ L, x.1 = b ∧ a ∈ x.2.2.2.2.1 := by
  unfold usrF usr
  rw [sortL_mem]
  simp only [List.mem_map, List.mem_filter, decide_eq_true_eq]
  constructor
  · rintro ⟨x, ⟨h1, h2⟩, h3⟩; exact ⟨x, h1, h3, h2⟩
  · rintro ⟨x, h1, h3, h2⟩; exact ⟨x, ⟨h1, h2⟩, h3⟩
theorem misF_mem (L : List Rc) (b : Id) : b ∈ misF L ↔ b ∉ rids L ∧ ∃ x ∈ L, b ∈ x.2.2.2.2.1 := by
  unfold misF mis
  rw [sortL_mem]
  simp only [List.mem_flatMap, List.mem_filter, decide_eq_true_eq]
  constructor
  · rintro ⟨x, h1, h2, h3⟩; exact ⟨h3, x, h1, h2⟩
  · rintro ⟨h3, x, h1, h2⟩; exact ⟨x, h1, h2, h3⟩
theorem told_users {L : List Rc} {a : Id} {R : List Id} (hr : Rises R) (hm : ∀ b, b ∈ R ↔ ∃ x ∈ L, b ∈ (if a ∈ x.2.2.2.2.1 then [x.1] else [])) : R = usrF L a :=
  rises_eq hr (sortL_rises _) (fun b => by
    rw [hm, usrF_mem]
    constructor
    · rintro ⟨x, h1, h2⟩
      by_cases h : a ∈ x.2.2.2.2.1
      · rw [if_pos h, List.mem_singleton] at h2; exact ⟨x, h1, h2.symm, h⟩
      · rw [if_neg h] at h2; cases h2
    · rintro ⟨x, h1, rfl, h2⟩; exact ⟨x, h1, by rw [if_pos h2]; simp⟩)
theorem told_missing {L : List Rc} {R : List Id} (hr : Rises R) (hm : ∀ b, b ∈ R ↔ ∃ x ∈ L, b ∈ x.2.2.2.2.1.filter (fun d => decide (d ∉ rids L))) : R = misF L :=
  rises_eq hr (sortL_rises _) (fun b => by
    rw [hm, misF_mem]
    simp only [List.mem_filter, decide_eq_true_eq]
    constructor
    · rintro ⟨x, h1, h2, h3⟩; exact ⟨h3, x, h1, h2⟩
    · rintro ⟨h3, x, h1, h2⟩; exact ⟨x, h1, h2, h3⟩)
theorem usrF_len (L : List Rc) (a : Id) : (usrF L a).length ≤ L.length := Nat.le_trans (sortL_len _) (usr_len a L)
/-- What is open. -/
def Opn (L : List Rc) (a : Id) : Prop := Rch (usrF L) (misF L) a
theorem opn_mem {L : List Rc} {a : Id} (h : Opn L a) : a ∈ misF L ++ rids L := by
  cases h with
  | base h => exact List.mem_append.2 (.inl h)
  | step _ hb =>
    obtain ⟨x, hx, rfl, _⟩ := (usrF_mem _ _ _).1 hb
    exact List.mem_append.2 (.inr (List.mem_map.2 ⟨x, hx, rfl⟩))
theorem Dfs.go' {deps : Id → List Id} {l pre left : List Id} {x : Id} (h : Dfs deps l pre (left ++ [x])) (hx : x ∉ pre) : Dfs deps l (addL x pre) (left ++ deps x) := by rw [addL_new hx]; exact h.go hx
/-- What open leaves. -/
def OpenR (L : List Rc) (p : Nat) (H : Hp) (fr : List HA) (w : World) (e : Ending) (w' : World) : Prop :=
  ∃ (s : Nat) (B : List Id) (H' : Hp), e = .returned (setP s) ∧ Hp.le H H' ∧ St H' (SetA s B :: GrA p L :: fr) w' ∧ Env w w' ∧ ∀ a, a ∈ B ↔ Opn L a
set_option maxRecDepth 100000 in
set_option maxHeartbeats 8000000 in
theorem open_any (p : Nat) (L : List Rc) (H : Hp) (fr : List HA) (w : World) (h : St H (GrA p L :: fr) w) (hg : GrOk H L) (hL : L.length ≤ 1000) :
    Calls Try.prog 75 #[grP p] w (OpenR L p H fr w) := by
  have hfin : ∀ (s : Nat) (B : List Id) (H' : Hp) (w' : World), Hp.le H H' → St H' (SetA s B :: GrA p L :: fr) w' → Env w w' → Dfs (usrF L) (misF L) B [] → OpenR L p H fr w (.returned (setP s)) w' := fun s B H' w' h1 h2 h3 h4 => ⟨s, B, H', rfl, h1, h2, h3, h4.all⟩
  generalize OpenR L p H fr w = Q at *
  have hml : (misF L).length ≤ 16000 := Nat.le_trans (sortL_len _) (Nat.le_trans (mis_len _ L (fun x hx => (hg.b x hx).1)) (by omega))
  obtain ⟨U, hUe⟩ : ∃ U, U = misF L ++ rids L := ⟨_, rfl⟩
  have hU : Hid (∀ a, Rch (usrF L) (misF L) a → a ∈ U) := Lib.hid (fun a ha => by rw [hUe]; exact opn_mem ha)
  have hUl : U.length ≤ 17000 := by rw [hUe, List.length_append, List.length_map]; omega
  clear hUe
  have hNew := Lib.hid (setNew_any (.slice none 0 0) [] w (Rw.nil w 2))
  have hgH := Lib.hid hg
  have hul := Lib.hid (usrF_len L)
  replace hfin := Lib.hid hfin
  go_enter Try.func75, Try.ntmps75
  go_wp2_with fail
  refine hNew.out.mono ?_
  rintro e w1 he
  obtain ⟨s, rfl, h1, en1⟩ := ResE.lift h he
  have hM := Lib.hid (grMissing_any p L H _ w1 (h1.swap) hg.d (fun x hx => (hg.b x hx).1) (by omega))
  clear he hNew hg
  go_wp2_with fail
  refine hM.out.mono ?_
  rintro e w2 ⟨lv, R, rfl, h2, en2, hr, hm⟩
  obtain rfl := told_missing hr hm
  replace en2 := en1.trans en2
  clear hM hr hm h1 en1 h
  go_wp2_with fail
  go_loopg [4] (U.length * 1001 + (misF L).length) (fun q s4 wr => ∃ (pre left : List Id) (H' : Hp), q = (U.length - pre.length) * 1001 + left.length ∧ Hp.le H H' ∧ Hid (Dfs (usrF L) (misF L) pre left) ∧ left.length ≤ 16000 + 1000 * pre.length ∧ St H' (Row 28 2 s4 (idl left) :: SetA s pre :: GrA p L :: fr) wr ∧ Env w wr)
  case atStart => exact ⟨[], misF L, H, by simp, Hp.le_refl _, Lib.hid (Dfs.start _ _), by simp; omega, h2.perm (List.Perm.cons _ (List.Perm.swap _ _ _)), en2⟩
  case round =>
    clear h2 en2
    obtain ⟨pre, left, H1, hq, l1, HD, hll, hst, hen⟩ := hrel
    have hpl := HD.out.len hU.out
    obtain ⟨A, m1, c, rfl, hm1, hmc, hmx⟩ := hst.row_form
    rw [idl_len] at hm1
    obtain rfl : m1 = left.length := by omega
    clear hm1
    rcases List.eq_nil_or_concat left with rfl | ⟨l0, x, rfl⟩
    · have hz := Lib.hid (hfin.out s pre H1 _ l1 hst.drop hen HD.out)
      go_wp2_with fail
      exact hz.out
    · simp only [List.concat_eq_append] at *
      have hlen : (l0 ++ [x]).length = l0.length + 1 := by simp
      rw [hlen] at hst hmc hll hq
      obtain ⟨b, off, hA, hcr⟩ := (hst.row_rw (by decide)).cells (by omega)
      cases hA
      have q0 := hcr _ _ (idl_fst (l0 ++ [x]) l0.length (by simp))
      have q1 := hcr _ _ (idl_snd (l0 ++ [x]) l0.length (by simp))
      rw [← Nat.add_assoc] at q1
      rw [List.getElem_concat_length (i := l0.length) rfl] at q0 q1
      clear hcr
      have ql := World.block_lt_of_cell? _ _ q0
      obtain ⟨H2, l2, h4, y⟩ := hst.box #[.int .i64 x.1, .int .i64 x.2] 28
      have y0 := y 0 _ rfl
      have y1 := y 1 _ rfl
      have en4 := hen.alloc (.cells #[.int .i64 x.1, .int .i64 x.2] 28)
      clear y hst hen
      have h5 : St H2 (Row 28 2 (.slice (some ⟨b, off, none⟩) l0.length c) (idl l0) :: SetA s pre :: GrA p L :: fr) (wr.alloc (.cells #[.int .i64 x.1, .int .i64 x.2] 28)) := by
        have := h4.row_take l0.length (by omega)
        rwa [idl_take, List.take_left' rfl] at this
      have hAdd := setAdd_any s pre x H2 _ _ h5.swap
      have v0 := h5.cell y0
      have v1 := h5.cell y1
      have vl := World.block_lt_of_cell? _ _ v0
      have hw1 : IntKind.i64.wrap (((l0.length + 1 : Nat) : Int) - 1) = (l0.length : Int) := by rw [IntKind.wrap_i64]; omega
      have hw2 : ((l0.length + 1 : Nat) : Int) - 1 = (l0.length : Int) := by omega
      have hcz : ¬ c = l0.length := by omega
      have hc0 : ¬ c = 0 := by omega
      have hw3 : ((l0.length : Int) + 1) - 1 = (l0.length : Int) := by omega
      have hw4 : IntKind.i64.wrap (((l0.length : Int) + 1) - 1) = (l0.length : Int) := by rw [IntKind.wrap_i64]; omega
      replace hAdd := Lib.hid hAdd
      obtain ⟨x0, x1⟩ := x
      simp only at q0 q1 v0 v1 y0 y1
      go_wp2_with fail
      generalize wr.heap.size = gb at *
      generalize wr.alloc (.cells #[.int .i64 x0, .int .i64 x1] 28) = wb at *
      clear q0 q1 ql v0 v1 vl h4 hw1 hw2 hw3 hw4
      refine hAdd.out.mono ?_
      rintro e w4 ⟨rfl, h6, en6⟩
      replace en6 := en4.trans en6
      replace h6 : St H2 (SetA s (addL (x0, x1) pre) :: Row 28 2 (.slice (some ⟨b, off, none⟩) l0.length c) (idl l0) :: GrA p L :: fr) w4 := h6
      clear en4 h5 hAdd
      have v0 := h6.cell y0
      have v1 := h6.cell y1
      have vl := World.block_lt_of_cell? _ _ v0
      have l12 := Hp.le_trans l1 l2
      by_cases hin : (x0, x1) ∈ pre
      · rw [decide_eq_true hin]
        rw [addL_old hin] at h6
        have hHD := Lib.hid (HD.out.skip hin)
        go_wp2_with fail
        go_roundg ((U.length - pre.length) * 1001 + l0.length)
        case measure => omega
        case rel => exact ⟨pre, l0, H2, rfl, l12, hHD, by omega, h6.swap, en6⟩
      · rw [decide_eq_false hin]
        rw [addL_new hin] at h6
        have hHD := Lib.hid (HD.out.go hin)
        have hpl2 := hHD.out.len hU.out
        have hUs := Lib.hid (grUsers_any p L (x0, x1) H2 _ w4 (h6.pick 2 (by simp)) (fun x hx => (hgH.out.d x hx).mono l12) (by omega))
        clear hin
        go_wp2_with fail
        refine hUs.out.mono ?_
        rintro e w6 ⟨uv, R, rfl, h9, en8, hr, hm⟩
        obtain rfl := told_users hr hm
        replace en8 := en6.trans en8
        obtain ⟨u1, u2, u3, rfl, _⟩ := h9.row_form
        obtain ⟨H3, l3, h10, hrd⟩ := h9.row_keep
        have h11 : St H3 (Row 28 2 (.slice (some ⟨b, off, none⟩) l0.length c) (idl l0) :: SetA s (pre ++ [(x0, x1)]) :: GrA p L :: fr) w6 := h10.perm ((List.perm_append_comm (l₁ := [GrA p L]) (l₂ := [SetA s (pre ++ [(x0, x1)]), Row 28 2 (.slice (some ⟨b, off, none⟩) l0.length c) (idl l0)]) |>.append_right fr).trans (List.Perm.swap _ _ _))
        have hnw := News.rw (P := Try.prog) (hrd.rw h11) (idl_one (usrF L (x0, x1)))
        have hl16 := hul.out (x0, x1)
        have l13 := Hp.le_trans l12 l3
        clear hr hm h9 h10 hUs h6 en6 v0 v1 vl
        generalize usrF L (x0, x1) = tD at *
        go_wp2_with (at_builtin; refine wpList_append rfl (.tmp 26) (.tmp 29) 29 29 rfl Try.underlying29 (.inl ⟨_, Try.underlying29⟩) (.agg #[.int .i64 0, .int .i64 0]) 16 info_id rfl (by decide) (by decide) rfl rfl h11 hnw ?apB2 ?apK2)
        case apB2 => simp [idl_len]; omega
        case apK2 =>
          intro lv2 w7 h12 en10
          replace en10 := en8.trans en10
          rw [← idl_append] at h12
          go_wp2_with fail
          go_roundg ((U.length - (pre.length + 1)) * 1001 + (l0.length + tD.length))
          case measure => simp at hpl2; omega
          case rel => exact ⟨pre ++ [(x0, x1)], l0 ++ tD, H3, by simp, l13, hHD, by simp; omega, h12, en10⟩
end Go.Proofs.Ytelmhcbdpimaaaa
