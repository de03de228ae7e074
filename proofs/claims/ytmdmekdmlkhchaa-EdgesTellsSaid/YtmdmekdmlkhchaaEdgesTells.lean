/- Graphs: the law. -/
import Derived.Test.YtmdmekdmlkhchaaEdgesLaw
set_option linter.unusedVariables false
set_option linter.unusedSimpArgs false
namespace Go.Proofs.Ytmdmekdmlkhchaa
open Go.RowKit Go.Cw Go.Fl
attribute [local go_sem ↓] eql_id neq_id
theorem findAt_at (a : Id) : ∀ (l : List Id) (k : Int), a ∈ l → ∃ i, i < l.length ∧ findAt a l k = k + (i : Int) ∧ l[i]? = some a
  | [], _, h => by simp at h
  | x :: r, k, h => by
    by_cases hx : x = a
    · exact ⟨0, by simp, by simp [findAt, hx], by simp [hx]⟩
    · obtain ⟨i, hi, he, hg⟩ := findAt_at a r (k + 1) ((List.mem_cons.1 h).resolve_left (fun e => hx e.symm))
      exact ⟨i + 1, by simp; omega, by rw [findAt, if_neg hx, he]; omega, by simpa using hg⟩
theorem rd_at {H : Hp} {sz : Nat} {cs : List Value} {A : Option Addr} {n c : Nat} (h : Rd H sz (.slice A n c) cs) (hn : 0 < n) : ∃ b off, A = some ⟨b, off, none⟩ ∧ ∀ j u, cs[j]? = some u → H.cell b (off + j) = some u := by
  obtain ⟨A', n', c', hv, h1, h2, h3, h4⟩ := h
  cases hv
  exact h4 hn
theorem cmdsSame_refl (l : List Cm) : cmdsSame l l = true := by
  unfold cmdsSame
  rw [decide_eq_true rfl, Bool.true_and, List.all_eq_true]
  rintro ⟨x, y⟩ h
  have : x = y := by
    revert h
    induction l with
    | nil => intro h; simp at h
    | cons z r ih =>
      intro h
      rw [List.zip_cons_cons, List.mem_cons] at h
      rcases h with h | h
      · cases h; rfl
      · exact ih h
  subst this
  simp [cmSame]
theorem recSame_refl (x : Rp) : recSame x x = true := by unfold recSame; simp [cmdsSame_refl]
theorem rids_rp (l : List Rc) : rids l = (l.map rp).map (fun z : Rp => z.1) := by rw [List.map_map]; rfl
theorem edgesOf_rp (l : List Rc) : edgesOf l = ((l.map rp).map (fun z : Rp => z.2.2.1.length)).sum := by rw [List.map_map]; rfl
theorem mem_rp {L l : List Rc} (h : L.map rp = l.map rp) (f : Rp → Prop) : (∃ x ∈ L, f (rp x)) ↔ ∃ x ∈ l, f (rp x) := by
  have e : ∀ M : List Rc, (∃ x ∈ M, f (rp x)) ↔ ∃ y ∈ M.map rp, f y := fun M => ⟨fun ⟨x, hx, hf⟩ => ⟨rp x, List.mem_map.2 ⟨x, hx, rfl⟩, hf⟩, fun ⟨y, hy, hf⟩ => by obtain ⟨x, hx, rfl⟩ := List.mem_map.1 hy; exact ⟨x, hx, hf⟩⟩
  rw [e, e, h]
theorem told_ids {L l : List Rc} {R : List Id} (hr : Rises R) (hm : ∀ a, a ∈ R ↔ ∃ x ∈ L, a ∈ [x.1]) (h : L.map rp = l.map rp) : R = sortL (rids l) :=
  rises_eq hr (sortL_rises _) (fun a => by
    rw [hm, sortL_mem, mem_rp h (fun z => a ∈ [z.1])]
    simp [rids, eq_comm])
theorem told_mis {L l : List Rc} {R : List Id} (hr : Rises R) (hm : ∀ a, a ∈ R ↔ ∃ x ∈ L, a ∈ x.2.2.2.2.1.filter (fun d => decide (d ∉ rids L))) (h : L.map rp = l.map rp) : R = sortL (mis (rids l) l) :=
  rises_eq hr (sortL_rises _) (fun a => by
    have e : rids L = rids l := by rw [rids_rp, rids_rp, h]
    rw [hm, sortL_mem, e, mem_rp h (fun z => a ∈ z.2.2.1.filter (fun d => decide (d ∉ rids l)))]
    unfold mis
    rw [List.mem_flatMap])
theorem told_usr {L l : List Rc} {R : List Id} {b : Id} (hr : Rises R) (hm : ∀ a, a ∈ R ↔ ∃ x ∈ L, a ∈ (if b ∈ x.2.2.2.2.1 then [x.1] else [])) (h : L.map rp = l.map rp) : R = sortL (usr b l) :=
  rises_eq hr (sortL_rises _) (fun a => by
    rw [hm, sortL_mem, mem_rp h (fun z => a ∈ (if b ∈ z.2.2.1 then [z.1] else []))]
    unfold usr
    rw [List.mem_map]
    constructor
    · rintro ⟨x, hx, ha⟩
      split at ha
      · rename_i hb
        exact ⟨x, List.mem_filter.2 ⟨hx, by simpa using hb⟩, by simpa [eq_comm] using ha⟩
      · simp at ha
    · rintro ⟨x, hx, rfl⟩
      obtain ⟨h1, h2⟩ := List.mem_filter.1 hx
      exact ⟨x, h1, by rw [if_pos (by simpa using h2)]; simp⟩)
theorem gr_at {L : List Rc} {i : Nat} {a : Id} (hn : (rids L).Nodup) (hi : (rids L)[i]? = some a) : ∃ hl : i < L.length, L[i].1 = a ∧ mlook a (entsR L) = some L[i] := by
  obtain ⟨hl, he⟩ := List.getElem?_eq_some_iff.1 hi
  have hl' : i < L.length := by simpa [rids] using hl
  have hLa : L[i].1 = a := by simpa [rids] using he
  obtain ⟨y, hy, hya, hlk⟩ := entsR_some L a (he ▸ List.getElem_mem hl)
  obtain ⟨j, hj, rfl⟩ := List.getElem_of_mem hy
  have : i = j := (List.getElem_inj (h₀ := hl) (h₁ := by simpa [rids] using hj) hn).1 (by simp [rids, hLa, hya])
  subst this
  exact ⟨hl', hLa, hlk⟩
set_option maxRecDepth 100000 in
set_option maxHeartbeats 60000000 in
theorem edgesTells_any (u : Value) (l : List Rc) (a : Id) (w : World) (hx : Rw w 5 u (recs l)) (hl : ∀ x ∈ l, RcR w x) :
    Calls Try.prog 13 #[u, idV a] w fun e w' => e = .returned (.bool true) ∧ Below w.heap.size w w' := by
  obtain ⟨A, m, c, rfl, hn, hnc, hc⟩ := hx.form
  rw [recs_len] at hn
  obtain rfl : m = l.length := by omega
  clear hn
  obtain ⟨r, s⟩ := a
  obtain ⟨H1, l1, h1, y⟩ := (St.start w).box #[.int .i64 r, .int .i64 s] 42
  have y0 := y 0 _ rfl
  have y1 := y 1 _ rfl
  clear y
  have hrd := hx.rd.mono l1
  have hld : ∀ x ∈ l, RcD H1 x := fun x hm => ⟨(hl x hm).d.rd.mono l1, (hl x hm).b.rd.mono l1, (hl x hm).ok⟩
  have hFew := few15_any (.slice A l.length c) l 40 _ (hrd.rw h1) (fun x hm => (hld x hm).rw h1)
  have en1 := (Env.refl w).alloc (.cells #[.int .i64 r, .int .i64 s] 42)
  replace l1 := Lib.hid l1
  clear hx hl
  cases hfew : (fewR l && decide ((l.length : Int) ≤ 40)) with
  | false =>
    rw [hfew] at hFew
    replace hFew := Lib.hid hFew
    go_enter Try.func13, Try.ntmps13
    go_wp2_with fail
    refine hFew.out.mono ?_
    rintro e w2 ⟨rfl, hb2⟩
    go_wp2_with fail
    refine (works15 _).mono ?_
    rintro e w3 ⟨rfl, hb3⟩
    go_wp2_with fail
    go_ret
    exact ⟨rfl, (((h1.below hb2).below hb3).weaken l1.out).toBelow ((en1.trans (bel_env hb2)).trans (bel_env hb3))⟩
  | true =>
    rw [hfew] at hFew
    have hl40 : l.length ≤ 40 := by
      simp only [Bool.and_eq_true, decide_eq_true_eq] at hfew
      omega
    replace hFew := Lib.hid hFew
    have hNw := fun w2 (h2 : St H1 [] w2) => newGr_any (.slice A l.length c) l w2 (hrd.rw h2) (fun x hm => (hld x hm).rw h2) (by omega)
    have hRf := fun w2 (h2 : St H1 [] w2) => refGr_any (.slice A l.length c) l w2 (hrd.rw h2) (fun x hm => (hld x hm).rw h2)
    replace hNw := Lib.hid hNw
    replace hRf := Lib.hid hRf
    clear hfew
    have v0 := h1.cell y0
    have v1 := h1.cell y1
    have vl := World.block_lt_of_cell? _ _ v0
    go_enter Try.func13, Try.ntmps13
    go_wp2_with fail
    generalize w.alloc (.cells #[.int .i64 r, .int .i64 s] 42) = W at *
    generalize w.heap.size = gi at *
    refine hFew.out.mono ?_
    rintro e w2 ⟨rfl, hb2⟩
    have h2 : St H1 [] w2 := h1.below hb2
    have en2 := en1.trans (bel_env hb2)
    clear v0 v1 vl h1 hb2 en1
    go_wp2_with fail
    refine (hNw.out _ h2).mono ?_
    rintro e w3 (⟨hG, p, L, H, hle, h3, hLd, hLm, en3, rfl⟩ | ⟨hG, rfl, hb3⟩)
    case inr =>
      have h3 := h2.below hb3
      have en3 := en2.trans (bel_env hb3)
      clear hNw hb3 h2 en2
      have hRf3 := hRf.out _ h3
      clear hRf
      generalize gErr [] (l.map rp) = G at *
      have hGb : (G != 0) = true := by simpa using hG
      go_wp2_with fail
      refine hRf3.mono ?_
      rintro e w4 ⟨rfl, hb4⟩
      have h4 := h3.below hb4
      have en4 := en3.trans (bel_env hb4)
      have v0 := h4.cell y0
      have v1 := h4.cell y1
      have vl := World.block_lt_of_cell? _ _ v0
      clear hb4 h3 hRf3
      go_wp2_with fail
      refine (grRec_no (.pointer none) (r, s) _ (fun w' _ => grHas_nil (r, s) w')).mono ?_
      rintro e w5 ⟨rfl, hb5⟩
      have h5 := h4.below hb5
      have en5 := en4.trans (bel_env hb5)
      clear v0 v1 vl hb5 h4
      have h6 := h5.blk #[.int .i64 0, .int .i64 0, .int .i64 0, .slice none 0 0, .slice none 0 0] 49
      have en6 := en5.alloc (.cells #[.int .i64 0, .int .i64 0, .int .i64 0, .slice none 0 0, .slice none 0 0] 49)
      have r1 := h6.blk_cell 2
      have rl := h6.blk_lt
      have v0 := h6.cell y0
      have v1 := h6.cell y1
      have vl := World.block_lt_of_cell? _ _ v0
      go_wp2_with fail
      refine (grLen_nil _).mono ?_
      rintro e w7 ⟨rfl, rfl⟩
      go_wp2_with fail
      refine (grIds_nil _).mono ?_
      rintro e w7 ⟨rfl, rfl⟩
      go_wp2_with fail
      refine (grHas_nil (r, s) _).mono ?_
      rintro e w7 ⟨rfl, hb7⟩
      have h7 := h6.below hb7
      have en7 := en6.trans (bel_env hb7)
      generalize w5.heap.size = gr at *
      clear r1 rl v0 v1 vl h5 h6 hb7
      have r1 := h7.blk_cell 2
      have rl := h7.blk_lt
      go_wp2_with fail
      refine (grMissing_nil _).mono ?_
      rintro e w8 ⟨rfl, hb8⟩
      have h8 := h7.below hb8
      have en8 := en7.trans (bel_env hb8)
      clear r1 rl hb8 h7
      have v0 := h8.cell y0
      have v1 := h8.cell y1
      have vl := World.block_lt_of_cell? _ _ v0
      go_wp2_with fail
      refine (grUsers_nil (r, s) _).mono ?_
      rintro e w9 ⟨rfl, hb9⟩
      go_wp2_with fail
      refine (grEdges_nil _).mono ?_
      rintro e w10 ⟨rfl, rfl⟩
      go_wp2_with fail
      refine (works15 _).mono ?_
      rintro e w11 ⟨rfl, hb11⟩
      go_wp2_with fail
      go_ret
      exact ⟨rfl, (((h8.below hb9).below hb11).weaken l1.out).toBelow ((en8.trans (bel_env hb9)).trans (bel_env hb11))⟩
    have hle1 : Hp.le H1 H := Hp.le_trans (fun k o hk => h2.imm k o hk) hle
    have hz := gErr_zero _ _ hG
    have hl16 : ∀ x ∈ l, x.2.2.2.2.1.length ≤ 16 ∧ x.2.2.2.2.2.length ≤ 8 := fun x hm => recErr_len _ (hz _ (List.mem_map.2 ⟨x, hm, rfl⟩))
    have hRf3 := hRf.out _ ((h3.weaken hle1).drop)
    rw [hG] at hRf3
    have hL16 : ∀ x ∈ L, x.2.2.2.2.1.length ≤ 16 ∧ x.2.2.2.2.2.length ≤ 8 := fun x hm => recErr_len _ (hz _ (by rw [← hLm]; exact List.mem_map.2 ⟨x, hm, rfl⟩))
    have hLl : L.length = l.length := by simpa using congrArg List.length hLm
    have hLl2 : L.length ≤ 40 := by omega
    replace hLl := Lib.hid hLl
    have hEe : Hid (edgesOf L = edgesOf l) := Lib.hid (by rw [edgesOf_rp, edgesOf_rp, hLm])
    replace hG := Lib.hid hG
    replace hRf3 := Lib.hid hRf3
    replace hLm := Lib.hid hLm
    replace en3 := en2.trans en3
    clear hRf hNw hle hz h2 en2
    go_wp2_with fail
    refine hRf3.out.mono ?_
    rintro e w4 ⟨rfl, hb4⟩
    have h4 := h3.below hb4
    have en4 := en3.trans (bel_env hb4)
    clear hRf3 hb4 h3 en3
    go_wp2_with fail
    go_loopw [10, 11] (fun s10 s11 wr => ∃ k : Nat, k ≤ l.length ∧ s11 = .int .i64 (k : Int) ∧ s10 = .int .i64 (edgesOf (l.take k) : Int) ∧ wr = w4) (fun _ s11 _ => l.length - (intOf s11).toNat)
    case atStart => exact ⟨0, by omega, by go_num, rfl, rfl⟩
    case round =>
      obtain ⟨k, hk, rfl, rfl, rfl⟩ := hrel
      by_cases hlt : k < l.length
      · obtain ⟨b, off, hA, hcr⟩ := ((hrd.mono hle1).rw h4).cells (by omega)
        cases hA
        obtain ⟨-, -, -, p3, -⟩ := recs_get l k hlt
        replace p3 := hcr _ _ p3
        rw [← Nat.add_assoc] at p3
        clear hcr
        have hsum := edgesOf_take l k hlt
        have hbd := edgesOf_le (l.take k) (fun z hz => (hl16 z (List.mem_of_mem_take hz)).1)
        rw [List.length_take] at hbd
        have hxd := (hld l[k] (List.getElem_mem hlt))
        have hx16 := (hl16 l[k] (List.getElem_mem hlt)).1
        generalize l[k] = x at *
        obtain ⟨x0, x2, dv, bv, D, Bt⟩ := x
        obtain ⟨d1, d2, d3, hdv, hd4, _⟩ := hxd.d.form
        simp only at hdv hd4 p3 hsum hx16
        subst hdv
        rw [idl_len] at hd4
        obtain rfl : d2 = D.length := by omega
        have pl := World.block_lt_of_cell? _ _ p3
        have hw : IntKind.i64.wrap ((edgesOf (l.take k) : Int) + (D.length : Int)) = (edgesOf (l.take k) : Int) + (D.length : Int) := by rw [IntKind.wrap_i64]; omega
        replace hsum := Lib.hid hsum
        clear hxd
        go_wp2_with fail
        go_roundw
        case rel => exact ⟨k + 1, by omega, by go_num, by rw [hsum.out]; rfl, trivial⟩
        case measure => simp [intOf]; omega
      · obtain rfl : k = l.length := by omega
        rw [List.take_length] at *
        have v0 := h4.cell (Hp.cell_le hle1 y0)
        have v1 := h4.cell (Hp.cell_le hle1 y1)
        have vl := World.block_lt_of_cell? _ _ v0
        have hrl : rids L = rids l := by
          have := congrArg (List.map (fun z : Rp => z.1)) hLm.out
          simpa [rids, List.map_map, Function.comp_def] using this
        have hpos := findAt_pos (r, s) (rids l) 0 (by omega)
        have hat := findAt_at (r, s) (rids L) 0
        have hFi := find_any (.slice A l.length c) l (r, s) _ ((hrd.mono hle1).rw h4)
        rw [← hrl] at hFi
        rw [← hrl] at hpos
        generalize findAt (r, s) (rids L) 0 = z at *
        replace hFi := Lib.hid hFi
        replace hrl := Lib.hid hrl
        go_wp2_with fail
        refine hFi.out.mono ?_
        rintro e w5 ⟨rfl, hb5⟩
        have h5 := h4.below hb5
        have en5 := en4.trans (bel_env hb5)
        clear v0 v1 vl hFi hb5 h4
        have v0 := h5.cell (Hp.cell_le hle1 y0)
        have v1 := h5.cell (Hp.cell_le hle1 y1)
        have vl := World.block_lt_of_cell? _ _ v0
        by_cases hin : ((r, s) : Id) ∈ rids L
        · have hz : 0 ≤ z := hpos.2 hin
          obtain ⟨k, hk, hzk, hki⟩ := hat hin
          replace hzk : z = (k : Int) := by omega
          subst hzk
          obtain ⟨hkL, hk1, hlk⟩ := gr_at (gr_nodup h5) hki
          have hkl : k < l.length := by rw [← hLl.out]; exact hkL
          have hrpk : rp L[k] = rp l[k] := by
            have := congrArg (fun m : List Rp => m[k]?) hLm.out
            simpa [hkL, hkl] using this
          have hxL : L[k] ∈ L := List.getElem_mem hkL
          have hL16k := hL16 _ hxL
          have hRec := grRec_some p L L[k] H [] w5 h5 hLd hxL hL16k (by rw [hk1]; exact hlk)
          obtain ⟨lb, lo, hA, hcr⟩ := rd_at (hrd.mono hle1) (by omega)
          cases hA
          obtain ⟨p0, p1, p2, p3, p4⟩ := recs_get l k hkl
          replace p0 := hcr _ _ p0
          replace p1 := hcr _ _ p1
          replace p2 := hcr _ _ p2
          replace p3 := hcr _ _ p3
          replace p4 := hcr _ _ p4
          rw [← Nat.add_assoc] at p1 p2 p3 p4
          clear hcr
          have hlk2 := (hld l[k] (List.getElem_mem hkl)).mono hle1
          clear hlk hki hxL
          generalize L[k] = x at *
          generalize l[k] = y at *
          obtain ⟨⟨x0, x1⟩, q, xd, xb, D, Bt⟩ := x
          obtain ⟨⟨y0', y1'⟩, q', yd, yb, D', Bt'⟩ := y
          simp only [rp, Prod.mk.injEq] at hrpk hk1
          obtain ⟨⟨rfl, rfl⟩, rfl, rfl, rfl⟩ := hrpk
          obtain ⟨rfl, rfl⟩ := hk1
          obtain ⟨e1, e2, e3, hev, _⟩ := hlk2.d.form
          obtain ⟨f1, f2, f3, hfv, _⟩ := hlk2.b.form
          simp only at hev hfv p0 p1 p2 p3 p4 hRec hL16k
          subst hev hfv
          replace hRec := Lib.hid hRec
          replace hlk2 := Lib.hid hlk2
          clear hpos hat hz
          go_wp2_with fail
          refine hRec.out.mono ?_
          rintro e w6 ⟨dv', bv', rfl, h6, en6⟩
          obtain ⟨Hb, lb1, h7, hbv⟩ := h6.swap.row_keep
          obtain ⟨d1, d2, d3, rfl, hd4, _⟩ := h7.row_form
          rw [idl_len] at hd4
          obtain rfl : d2 = D.length := by omega
          clear hd4
          obtain ⟨b1, b2, b3, hbv', _⟩ := hbv.form
          subst hbv'
          clear v0 v1 vl hRec h5 h6
          obtain ⟨Hr, lr, h8, yr⟩ := h7.box #[.int .i64 x0, .int .i64 x1, .int .i64 q, .slice d1 D.length d3, .slice b1 b2 b3] 49
          have hE := (en5.trans en6).alloc (.cells #[.int .i64 x0, .int .i64 x1, .int .i64 q, .slice d1 D.length d3, .slice b1 b2 b3] 49)
          have z0 := yr 0 _ rfl
          have z1 := yr 1 _ rfl
          have z2 := yr 2 _ rfl
          have z3 := yr 3 _ rfl
          have z4 := yr 4 _ rfl
          clear yr
          have lec := Hp.le_trans lb1 lr
          have hrdc := (hrd.mono hle1).mono lec
          have hldc : ∀ x ∈ l, RcD _ x := fun x hm => ((hld x hm).mono hle1).mono lec
          have hLdc : ∀ x ∈ L, RcD _ x := fun x hm => (hLd x hm).mono lec
          have y0c := Hp.cell_le lec (Hp.cell_le hle1 y0)
          have y1c := Hp.cell_le lec (Hp.cell_le hle1 y1)
          replace p0 := Hp.cell_le lec p0
          replace p1 := Hp.cell_le lec p1
          replace p2 := Hp.cell_le lec p2
          replace p3 := Hp.cell_le lec p3
          replace p4 := Hp.cell_le lec p4
          have hrow := h8.drew
          have hG := hrow.swap
          have hHs := grHas_any p L (x0, x1) Hr _ _ hLdc hG
          rw [decide_eq_true hin] at hHs
          replace hHs := Lib.hid hHs
          replace hin := Lib.hid hin
          have kk : ∀ (l' : List HA) (w' : World), St Hr l' w' → (fun w' => w'.cell? ⟨gi, 0, none⟩ = some (.int .i64 x0) ∧ w'.cell? ⟨gi, 1, none⟩ = some (.int .i64 x1) ∧ w'.cell? ⟨w6.heap.size, 0, none⟩ = some (.int .i64 x0) ∧ w'.cell? ⟨w6.heap.size, 1, none⟩ = some (.int .i64 x1) ∧ w'.cell? ⟨w6.heap.size, 2, none⟩ = some (.int .i64 q) ∧ w'.cell? ⟨w6.heap.size, 3, none⟩ = some (.slice d1 D.length d3) ∧ w'.cell? ⟨w6.heap.size, 4, none⟩ = some (.slice b1 b2 b3) ∧ w'.cell? ⟨lb, lo + k * 5, none⟩ = some (.int .i64 x0) ∧ w'.cell? ⟨lb, lo + k * 5 + 1, none⟩ = some (.int .i64 x1) ∧ w'.cell? ⟨lb, lo + k * 5 + 2, none⟩ = some (.int .i64 q) ∧ w'.cell? ⟨lb, lo + k * 5 + 3, none⟩ = some (.slice e1 e2 e3) ∧ w'.cell? ⟨lb, lo + k * 5 + 4, none⟩ = some (.slice f1 f2 f3)) w' := fun l' w' h => ⟨h.cell y0c, h.cell y1c, h.cell z0, h.cell z1, h.cell z2, h.cell z3, h.cell z4, h.cell p0, h.cell p1, h.cell p2, h.cell p3, h.cell p4⟩
          have hrS := fun (w' : World) (h : St Hr (GrA p L :: Row 42 2 (.slice d1 D.length d3) (idl D) :: []) w') => refRecSame_any ((x0, x1), q, .slice d1 D.length d3, .slice b1 b2 b3, D, Bt) ((x0, x1), q, .slice e1 e2 e3, .slice f1 f2 f3, D, Bt) w' ⟨h.swap.row_rw (by omega), (hbv.mono lr).rw h, hlk2.out.ok⟩ ((hlk2.out.mono lec).rw h)
          simp only [recSame_refl] at hrS
          replace hrS := Lib.hid hrS
          have hzd : decide ((0 : Int) ≤ (k : Int)) = true := decide_eq_true (by omega)
          have hz0 : (0 : Int) ≤ (k : Int) := by omega
          have hzl : (k : Int) < (l.length : Int) := by omega
          clear h7 hbv
          go_wp2_with fail
          generalize w6.alloc (.cells #[.int .i64 x0, .int .i64 x1, .int .i64 q, .slice d1 D.length d3, .slice b1 b2 b3] 49) = W7 at *
          generalize w6.heap.size = gr at *
          refine wp_region_held_drew (S := (fun w' => w'.cell? ⟨gi, 0, none⟩ = some (.int .i64 x0) ∧ w'.cell? ⟨gi, 1, none⟩ = some (.int .i64 x1) ∧ w'.cell? ⟨gr, 0, none⟩ = some (.int .i64 x0) ∧ w'.cell? ⟨gr, 1, none⟩ = some (.int .i64 x1) ∧ w'.cell? ⟨gr, 2, none⟩ = some (.int .i64 q) ∧ w'.cell? ⟨gr, 3, none⟩ = some (.slice d1 D.length d3) ∧ w'.cell? ⟨gr, 4, none⟩ = some (.slice b1 b2 b3) ∧ w'.cell? ⟨lb, lo + k * 5, none⟩ = some (.int .i64 x0) ∧ w'.cell? ⟨lb, lo + k * 5 + 1, none⟩ = some (.int .i64 x1) ∧ w'.cell? ⟨lb, lo + k * 5 + 2, none⟩ = some (.int .i64 q) ∧ w'.cell? ⟨lb, lo + k * 5 + 3, none⟩ = some (.slice e1 e2 e3) ∧ w'.cell? ⟨lb, lo + k * 5 + 4, none⟩ = some (.slice f1 f2 f3))) (by kernel_rfl) (kk _ _ hG) (fun hHeld => ?_)
          replace hE := hE.drew
          clear hrow h8
          refine wpAnyH_take (i := 0) (oi := { dst := some 116, op := Go.Op.move (Go.Operand.tmp 14), type := 4, pos := "law.go:44", after := #[], guard := none }) (v := ?_) rfl (by kernel_rfl) (by kernel_rfl) (by kernel_rfl) (fun _ _ _ h => h) (Or.inl ⟨by rfl, ?_⟩) (by assumption) ?_
          rotate_left
          · (intro w hSw; (try dsimp only at hSw); go_simp; (try (with_reducible rfl)))
          try simp only [Act.put, List.setIfInBounds_toArray, List.set_cons_zero, List.set_cons_succ]
          refine wpAnyH_take (i := 1) (oi := { dst := some 117, op := Go.Op.move (Go.Operand.tmp 12), type := 3, pos := "law.go:44", after := #[], guard := none }) (v := ?_) rfl (by kernel_rfl) (by kernel_rfl) (by kernel_rfl) (fun _ _ _ h => h) (Or.inl ⟨by rfl, ?_⟩) (by assumption) ?_
          rotate_left
          · (intro w hSw; (try dsimp only at hSw); go_simp; (try (with_reducible rfl)))
          try simp only [Act.put, List.setIfInBounds_toArray, List.set_cons_zero, List.set_cons_succ]
          refine wpAnyH_take (i := 2) (oi := { dst := some 118, op := Go.Op.binOp Go.BinOp.geq 3 (Go.Operand.tmp 117) (Go.Operand.const (Go.Value.int Go.IntKind.i64 0)) 3, type := 4, pos := "law.go:44", after := #[{ on := 1, ground := Go.Ground.data }], guard := none }) (v := ?_) rfl (by kernel_rfl) (by kernel_rfl) (by kernel_rfl) (fun _ _ _ h => h) (Or.inl ⟨by rfl, ?_⟩) (by assumption) ?_
          rotate_left
          · (intro w hSw; (try dsimp only at hSw); go_simp; (try (with_reducible rfl)))
          try simp only [Act.put, List.setIfInBounds_toArray, List.set_cons_zero, List.set_cons_succ]
          refine wpAnyH_take (i := 3) (oi := { dst := some 119, op := Go.Op.binOp Go.BinOp.neq 4 (Go.Operand.tmp 116) (Go.Operand.tmp 118) 4, type := 4, pos := "law.go:44", after := #[{ on := 0, ground := Go.Ground.data }, { on := 2, ground := Go.Ground.data }], guard := none }) (v := ?_) rfl (by kernel_rfl) (by kernel_rfl) (by kernel_rfl) (fun _ _ _ h => h) (Or.inl ⟨by rfl, ?_⟩) (by assumption) ?_
          rotate_left
          · (intro w hSw; (try dsimp only at hSw); go_simp; (try (with_reducible rfl)))
          try simp only [Act.put, List.setIfInBounds_toArray, List.set_cons_zero, List.set_cons_succ]
          refine wpAnyH_take (i := 4) (oi := { dst := some 120, op := Go.Op.move (Go.Operand.tmp 119), type := 4, pos := "law.go:44", after := #[{ on := 3, ground := Go.Ground.data }], guard := none }) (v := ?_) rfl (by kernel_rfl) (by kernel_rfl) (by kernel_rfl) (fun _ _ _ h => h) (Or.inl ⟨by rfl, ?_⟩) (by assumption) ?_
          rotate_left
          · (intro w hSw; (try dsimp only at hSw); go_simp; (try (with_reducible rfl)))
          try simp only [Act.put, List.setIfInBounds_toArray, List.set_cons_zero, List.set_cons_succ]
          refine wpAnyH_take (i := 5) (oi := { dst := some 121, op := Go.Op.move (Go.Operand.tmp 5), type := 117, pos := "law.go:44", after := #[{ on := 4, ground := Go.Ground.guard }], guard := some (4, false) }) (v := ?_) rfl (by kernel_rfl) (by kernel_rfl) (by kernel_rfl) (fun _ _ _ h => h) (Or.inl ⟨by rfl, ?_⟩) (by assumption) ?_
          rotate_left
          · (intro w hSw; (try dsimp only at hSw); go_simp; (try (with_reducible rfl)))
          try simp only [Act.put, List.setIfInBounds_toArray, List.set_cons_zero, List.set_cons_succ]
          refine wpAnyH_take (i := 6) (oi := { dst := some 122, op := Go.Op.load 42 (Go.Operand.tmp 3), type := 42, pos := "law.go:44", after := #[{ on := 4, ground := Go.Ground.guard }], guard := some (4, false) }) (v := ?_) rfl (by kernel_rfl) (by kernel_rfl) (by kernel_rfl) (fun _ _ _ h => h) (Or.inl ⟨by rfl, ?_⟩) (by assumption) ?_
          rotate_left
          · (intro w hSw; (try dsimp only at hSw); go_simp; (try (with_reducible rfl)))
          try simp only [Act.put, List.setIfInBounds_toArray, List.set_cons_zero, List.set_cons_succ]
          refine wpAnyH_take (i := 8) (oi := { dst := some 124, op := Go.Op.move (Go.Operand.tmp 14), type := 4, pos := "law.go:44", after := #[{ on := 4, ground := Go.Ground.guard }], guard := some (4, false) }) (v := ?_) rfl (by kernel_rfl) (by kernel_rfl) (by kernel_rfl) (fun _ _ _ h => h) (Or.inl ⟨by rfl, ?_⟩) (by assumption) ?_
          rotate_left
          · (intro w hSw; (try dsimp only at hSw); go_simp; (try (with_reducible rfl)))
          try simp only [Act.put, List.setIfInBounds_toArray, List.set_cons_zero, List.set_cons_succ]
          refine wpAnyH_ready (rs := [7]) (by kernel_rfl) (by simp) ?_
          refine AllReadyH.cons (o := { dst := some 123, op := Go.Op.call { callee := Go.Callee.value (Go.Operand.func 85), args := #[Go.Operand.tmp 121, Go.Operand.tmp 122], argTypes := #[117, 42] }, type := 4, pos := "law.go:44", after := #[{ on := 5, ground := Go.Ground.data }, { on := 6, ground := Go.Ground.data }, { on := 4, ground := Go.Ground.chain }, { on := 4, ground := Go.Ground.guard }], guard := some (4, false) }) rfl (fun K hK => ?_) AllReadyH.nil
          go_simp
          refine hHs.out.mono ?_
          rintro e w8 ⟨rfl, hb8⟩
          replace hG := hG.below hb8
          replace hE := hE.trans (bel_env hb8)
          refine hK.out _ _ (kk _ _ hG) (fun hHeld2 => ?_)
          clear hK K hHeld hHs
          have hHeld := hHeld2
          clear hHeld2
          try simp only [Act.put, List.setIfInBounds_toArray, List.set_cons_zero, List.set_cons_succ]
          refine wpAnyH_take (i := 9) (oi := { dst := some 125, op := Go.Op.binOp Go.BinOp.neq 4 (Go.Operand.tmp 123) (Go.Operand.tmp 124) 4, type := 4, pos := "law.go:44", after := #[{ on := 7, ground := Go.Ground.data }, { on := 8, ground := Go.Ground.data }, { on := 4, ground := Go.Ground.guard }], guard := some (4, false) }) (v := ?_) rfl (by kernel_rfl) (by kernel_rfl) (by kernel_rfl) (fun _ _ _ h => h) (Or.inl ⟨by rfl, ?_⟩) (by assumption) ?_
          rotate_left
          · (intro w hSw; (try dsimp only at hSw); go_simp; (try (with_reducible rfl)))
          try simp only [Act.put, List.setIfInBounds_toArray, List.set_cons_zero, List.set_cons_succ]
          refine wpAnyH_take (i := 10) (oi := { dst := some 126, op := Go.Op.pick (Go.Operand.tmp 120) (Go.Operand.const (Go.Value.bool true)) (Go.Operand.tmp 125), type := 4, pos := "law.go:44", after := #[{ on := 4, ground := Go.Ground.data }, { on := 9, ground := Go.Ground.data }], guard := none }) (v := ?_) rfl (by kernel_rfl) (by kernel_rfl) (by kernel_rfl) (fun _ _ _ h => h) (Or.inl ⟨by rfl, ?_⟩) (by assumption) ?_
          rotate_left
          · (intro w hSw; (try dsimp only at hSw); go_simp; (try (with_reducible rfl)))
          try simp only [Act.put, List.setIfInBounds_toArray, List.set_cons_zero, List.set_cons_succ]
          refine wpAnyH_take (i := 11) (oi := { dst := some 127, op := Go.Op.move (Go.Operand.tmp 126), type := 4, pos := "law.go:44", after := #[{ on := 10, ground := Go.Ground.data }, { on := 7, ground := Go.Ground.chain }], guard := none }) (v := ?_) rfl (by kernel_rfl) (by kernel_rfl) (by kernel_rfl) (fun _ _ _ h => h) (Or.inl ⟨by rfl, ?_⟩) (by assumption) ?_
          rotate_left
          · (intro w hSw; (try dsimp only at hSw); go_simp; (try (with_reducible rfl)))
          try simp only [Act.put, List.setIfInBounds_toArray, List.set_cons_zero, List.set_cons_succ]
          refine wpAnyH_take (i := 12) (oi := { dst := some 128, op := Go.Op.move (Go.Operand.tmp 14), type := 4, pos := "law.go:44", after := #[{ on := 11, ground := Go.Ground.guard }], guard := some (11, false) }) (v := ?_) rfl (by kernel_rfl) (by kernel_rfl) (by kernel_rfl) (fun _ _ _ h => h) (Or.inl ⟨by rfl, ?_⟩) (by assumption) ?_
          rotate_left
          · (intro w hSw; (try dsimp only at hSw); go_simp; (try (with_reducible rfl)))
          try simp only [Act.put, List.setIfInBounds_toArray, List.set_cons_zero, List.set_cons_succ]
          refine wpAnyH_take (i := 13) (oi := { dst := some 129, op := Go.Op.move (Go.Operand.tmp 128), type := 4, pos := "law.go:44", after := #[{ on := 12, ground := Go.Ground.data }, { on := 11, ground := Go.Ground.chain }, { on := 11, ground := Go.Ground.guard }], guard := some (11, false) }) (v := ?_) rfl (by kernel_rfl) (by kernel_rfl) (by kernel_rfl) (fun _ _ _ h => h) (Or.inl ⟨by rfl, ?_⟩) (by assumption) ?_
          rotate_left
          · (intro w hSw; (try dsimp only at hSw); go_simp; (try (with_reducible rfl)))
          try simp only [Act.put, List.setIfInBounds_toArray, List.set_cons_zero, List.set_cons_succ]
          refine wpAnyH_take (i := 14) (oi := { dst := some 130, op := Go.Op.load 49 (Go.Operand.tmp 13), type := 49, pos := "law.go:44", after := #[{ on := 13, ground := Go.Ground.guard }], guard := some (13, true) }) (v := ?_) rfl (by kernel_rfl) (by kernel_rfl) (by kernel_rfl) (fun _ _ _ h => h) (Or.inl ⟨by rfl, ?_⟩) (by assumption) ?_
          rotate_left
          · (intro w hSw; (try dsimp only at hSw); go_simp; (try (with_reducible rfl)))
          try simp only [Act.put, List.setIfInBounds_toArray, List.set_cons_zero, List.set_cons_succ]
          refine wpAnyH_take (i := 15) (oi := { dst := some 131, op := Go.Op.move (Go.Operand.tmp 0), type := 38, pos := "law.go:44", after := #[{ on := 13, ground := Go.Ground.guard }], guard := some (13, true) }) (v := ?_) rfl (by kernel_rfl) (by kernel_rfl) (by kernel_rfl) (fun _ _ _ h => h) (Or.inl ⟨by rfl, ?_⟩) (by assumption) ?_
          rotate_left
          · (intro w hSw; (try dsimp only at hSw); go_simp; (try (with_reducible rfl)))
          try simp only [Act.put, List.setIfInBounds_toArray, List.set_cons_zero, List.set_cons_succ]
          refine wpAnyH_take (i := 16) (oi := { dst := some 132, op := Go.Op.move (Go.Operand.tmp 12), type := 3, pos := "law.go:44", after := #[{ on := 13, ground := Go.Ground.guard }], guard := some (13, true) }) (v := ?_) rfl (by kernel_rfl) (by kernel_rfl) (by kernel_rfl) (fun _ _ _ h => h) (Or.inl ⟨by rfl, ?_⟩) (by assumption) ?_
          rotate_left
          · (intro w hSw; (try dsimp only at hSw); go_simp; (try (with_reducible rfl)))
          try simp only [Act.put, List.setIfInBounds_toArray, List.set_cons_zero, List.set_cons_succ]
          refine wpAnyH_take (i := 17) (oi := { dst := some 133, op := Go.Op.indexAddr 38 (Go.Operand.tmp 131) (Go.Operand.tmp 132), type := 0, pos := "law.go:44", after := #[{ on := 15, ground := Go.Ground.data }, { on := 16, ground := Go.Ground.data }, { on := 13, ground := Go.Ground.guard }], guard := some (13, true) }) (v := ?_) rfl (by kernel_rfl) (by kernel_rfl) (by kernel_rfl) (fun _ _ _ h => h) (Or.inl ⟨by rfl, ?_⟩) (by assumption) ?_
          rotate_left
          · (intro w hSw; (try dsimp only at hSw); go_simp; (try (with_reducible rfl)))
          try simp only [Act.put, List.setIfInBounds_toArray, List.set_cons_zero, List.set_cons_succ]
          refine wpAnyH_take (i := 18) (oi := { dst := some 134, op := Go.Op.load 49 (Go.Operand.tmp 133), type := 49, pos := "law.go:44", after := #[{ on := 17, ground := Go.Ground.data }, { on := 13, ground := Go.Ground.guard }], guard := some (13, true) }) (v := ?_) rfl (by kernel_rfl) (by kernel_rfl) (by kernel_rfl) (fun _ _ _ h => h) (Or.inl ⟨by rfl, ?_⟩) (by assumption) ?_
          rotate_left
          · (intro w hSw; (try dsimp only at hSw); go_simp; (try (with_reducible rfl)))
          try simp only [Act.put, List.setIfInBounds_toArray, List.set_cons_zero, List.set_cons_succ]
          refine wpAnyH_ready (rs := [19]) (by kernel_rfl) (by simp) ?_
          refine AllReadyH.cons (o := { dst := some 135, op := Go.Op.call { callee := Go.Callee.value (Go.Operand.func 28), args := #[Go.Operand.tmp 130, Go.Operand.tmp 134], argTypes := #[49, 49] }, type := 4, pos := "law.go:44", after := #[{ on := 14, ground := Go.Ground.data }, { on := 18, ground := Go.Ground.data }, { on := 13, ground := Go.Ground.chain }, { on := 13, ground := Go.Ground.guard }], guard := some (13, true) }) rfl (fun K hK => ?_) AllReadyH.nil
          go_simp
          refine (hrS.out _ hG).mono ?_
          rintro e w9 ⟨rfl, hb9⟩
          replace hG := hG.below hb9
          replace hE := hE.trans (bel_env hb9)
          refine hK.out _ _ (kk _ _ hG) (fun hHeld2 => ?_)
          clear hK K hrS
          try simp only [Act.put, List.setIfInBounds_toArray, List.set_cons_zero, List.set_cons_succ]
          refine wpAnyH_take (i := 20) (oi := { dst := some 136, op := Go.Op.unOp Go.UnOp.not 4 (Go.Operand.tmp 135), type := 4, pos := "law.go:44", after := #[{ on := 19, ground := Go.Ground.data }, { on := 13, ground := Go.Ground.guard }], guard := some (13, true) }) (v := ?_) rfl (by kernel_rfl) (by kernel_rfl) (by kernel_rfl) (fun _ _ _ h => h) (Or.inl ⟨by rfl, ?_⟩) (by assumption) ?_
          rotate_left
          · (intro w hSw; (try dsimp only at hSw); go_simp; (try (with_reducible rfl)))
          try simp only [Act.put, List.setIfInBounds_toArray, List.set_cons_zero, List.set_cons_succ]
          refine wpAnyH_take (i := 21) (oi := { dst := some 137, op := Go.Op.pick (Go.Operand.tmp 129) (Go.Operand.tmp 136) (Go.Operand.const (Go.Value.bool false)), type := 4, pos := "law.go:44", after := #[{ on := 13, ground := Go.Ground.data }, { on := 20, ground := Go.Ground.data }, { on := 11, ground := Go.Ground.guard }], guard := some (11, false) }) (v := ?_) rfl (by kernel_rfl) (by kernel_rfl) (by kernel_rfl) (fun _ _ _ h => h) (Or.inl ⟨by rfl, ?_⟩) (by assumption) ?_
          rotate_left
          · (intro w hSw; (try dsimp only at hSw); go_simp; (try (with_reducible rfl)))
          try simp only [Act.put, List.setIfInBounds_toArray, List.set_cons_zero, List.set_cons_succ]
          refine wpAnyH_take (i := 22) (oi := { dst := some 138, op := Go.Op.pick (Go.Operand.tmp 127) (Go.Operand.const (Go.Value.bool true)) (Go.Operand.tmp 137), type := 4, pos := "law.go:44", after := #[{ on := 11, ground := Go.Ground.data }, { on := 21, ground := Go.Ground.data }], guard := none }) (v := ?_) rfl (by kernel_rfl) (by kernel_rfl) (by kernel_rfl) (fun _ _ _ h => h) (Or.inl ⟨by rfl, ?_⟩) (by assumption) ?_
          rotate_left
          · (intro w hSw; (try dsimp only at hSw); go_simp; (try (with_reducible rfl)))
          try simp only [Act.put, List.setIfInBounds_toArray, List.set_cons_zero, List.set_cons_succ]
          refine wpAnyH_done (by kernel_rfl) ?_ _
          clear hzd hz0 hzl
          go_wp2_with fail
          go_loopw [15] (fun i wr => ∃ (m : Nat) (E : List Id), m ≤ D.length ∧ E.length = D.length ∧ i = .int .i64 (m : Int) ∧ St Hr (Row 42 2 (.slice d1 D.length d3) (idl E) :: GrA p L :: []) wr ∧ Env w wr) (fun i _ => D.length - (intOf i).toNat)
          case atStart => exact ⟨0, D, by omega, rfl, by go_num, hG.swap, hE⟩
          case round =>
            clear hG hE
            obtain ⟨m, E, hm, hEl, rfl, hrow, hE⟩ := hrel
            have v3 := hrow.cell z3
            have v3l := World.block_lt_of_cell? _ _ v3
            by_cases hlt : m < D.length
            · obtain ⟨g9, o9, hA9, hg9, hc9, hf9⟩ := hrow.row_cells (by omega) (by omega)
              cases hA9
              have c0 := hc9 _ _ (idl_fst E m (by omega))
              have c1 := hc9 _ _ (idl_snd E m (by omega))
              have g0 := hf9 (m * 2)
              have g1 := hf9 (m * 2 + 1)
              rw [← Nat.add_assoc] at c1 g1
              have hset := (hrow.row_set (m * 2) (by rw [idl_len]; omega) (.int .i64 0)).row_set (m * 2 + 1) (by rw [List.length_set, idl_len]; omega) (.int .i64 0)
              rw [idl_set E m (0, 0) (by omega), ← Nat.add_assoc] at hset
              clear hc9 hf9
              replace hEl := Lib.hid hEl
              go_wp2_with fail
              go_roundw
              case rel => exact ⟨m + 1, E.set m (0, 0), by omega, by rw [List.length_set]; exact hEl.out, by go_num, hset, (hE.setCell _ _).setCell _ _⟩
              case measure => simp [intOf]; omega
            · obtain rfl : m = D.length := by omega
              have hG := hrow.swap
              clear hrow
              go_wp2_with fail
              have hLn := grLen_any p L _ _ _ hG.drew
              rw [hLl.out] at hLn
              replace hLn := Lib.hid hLn
              have hEd := grEdges_any p L _ _ _ hG.drew
              rw [hEe.out] at hEd
              replace hEd := Lib.hid hEd
              refine wp_region_held_drew (S := (fun w' => w'.cell? ⟨gi, 0, none⟩ = some (.int .i64 x0) ∧ w'.cell? ⟨gi, 1, none⟩ = some (.int .i64 x1))) (by kernel_rfl) ⟨hG.drew.cell y0c, hG.drew.cell y1c⟩ (fun hHeld => ?_)
              replace hG := hG.drew
              replace hE := hE.drew
              refine wpAnyH_take (i := 0) (oi := { dst := some 151, op := Go.Op.move (Go.Operand.tmp 5), type := 117, pos := "law.go:50", after := #[], guard := none }) (v := ?_) rfl (by kernel_rfl) (by kernel_rfl) (by kernel_rfl) (fun _ _ _ h => h) (Or.inl ⟨by rfl, ?_⟩) (by assumption) ?_
              rotate_left
              · (intro w hSw; (try dsimp only at hSw); go_simp; (try (with_reducible rfl)))
              try simp only [Act.put, List.setIfInBounds_toArray, List.set_cons_zero, List.set_cons_succ]
              refine wpAnyH_take (i := 2) (oi := { dst := some 153, op := Go.Op.move (Go.Operand.tmp 0), type := 38, pos := "law.go:50", after := #[], guard := none }) (v := ?_) rfl (by kernel_rfl) (by kernel_rfl) (by kernel_rfl) (fun _ _ _ h => h) (Or.inl ⟨by rfl, ?_⟩) (by assumption) ?_
              rotate_left
              · (intro w hSw; (try dsimp only at hSw); go_simp; (try (with_reducible rfl)))
              try simp only [Act.put, List.setIfInBounds_toArray, List.set_cons_zero, List.set_cons_succ]
              refine wpAnyH_take (i := 3) (oi := { dst := some 154, op := Go.Op.call { callee := Go.Callee.builtin Go.Builtin.len, args := #[Go.Operand.tmp 153], argTypes := #[38] }, type := 3, pos := "law.go:50", after := #[{ on := 2, ground := Go.Ground.data }], guard := none }) (v := ?_) rfl (by kernel_rfl) (by kernel_rfl) (by kernel_rfl) (fun _ _ _ h => h) (Or.inl ⟨by rfl, ?_⟩) (by assumption) ?_
              rotate_left
              · (intro w hSw; (try dsimp only at hSw); go_simp; (try (with_reducible rfl)))
              try simp only [Act.put, List.setIfInBounds_toArray, List.set_cons_zero, List.set_cons_succ]
              refine wpAnyH_ready (rs := [1]) (by kernel_rfl) (by simp) ?_
              refine AllReadyH.cons (o := { dst := some 152, op := Go.Op.call { callee := Go.Callee.value (Go.Operand.func 83), args := #[Go.Operand.tmp 151], argTypes := #[117] }, type := 3, pos := "law.go:50", after := #[{ on := 0, ground := Go.Ground.data }], guard := none }) rfl (fun K hK => ?_) AllReadyH.nil
              go_simp
              refine hLn.out.mono ?_
              rintro e wq ⟨rfl, rfl⟩
              refine hK.out _ _ hHeld (fun hHeld2 => ?_)
              clear hK K hHeld2
              try simp only [Act.put, List.setIfInBounds_toArray, List.set_cons_zero, List.set_cons_succ]
              refine wpAnyH_take (i := 4) (oi := { dst := some 155, op := Go.Op.binOp Go.BinOp.eql 3 (Go.Operand.tmp 152) (Go.Operand.tmp 154) 3, type := 4, pos := "law.go:50", after := #[{ on := 1, ground := Go.Ground.data }, { on := 3, ground := Go.Ground.data }], guard := none }) (v := ?_) rfl (by kernel_rfl) (by kernel_rfl) (by kernel_rfl) (fun _ _ _ h => h) (Or.inl ⟨by rfl, ?_⟩) (by assumption) ?_
              rotate_left
              · (intro w hSw; (try dsimp only at hSw); go_simp; (try (with_reducible rfl)))
              try simp only [Act.put, List.setIfInBounds_toArray, List.set_cons_zero, List.set_cons_succ]
              refine wpAnyH_take (i := 5) (oi := { dst := some 156, op := Go.Op.move (Go.Operand.tmp 155), type := 4, pos := "law.go:50", after := #[{ on := 4, ground := Go.Ground.data }, { on := 1, ground := Go.Ground.chain }], guard := none }) (v := ?_) rfl (by kernel_rfl) (by kernel_rfl) (by kernel_rfl) (fun _ _ _ h => h) (Or.inl ⟨by rfl, ?_⟩) (by assumption) ?_
              rotate_left
              · (intro w hSw; (try dsimp only at hSw); go_simp; (try (with_reducible rfl)))
              try simp only [Act.put, List.setIfInBounds_toArray, List.set_cons_zero, List.set_cons_succ]
              refine wpAnyH_take (i := 6) (oi := { dst := some 157, op := Go.Op.move (Go.Operand.tmp 5), type := 117, pos := "law.go:50", after := #[{ on := 5, ground := Go.Ground.guard }], guard := some (5, true) }) (v := ?_) rfl (by kernel_rfl) (by kernel_rfl) (by kernel_rfl) (fun _ _ _ h => h) (Or.inl ⟨by rfl, ?_⟩) (by assumption) ?_
              rotate_left
              · (intro w hSw; (try dsimp only at hSw); go_simp; (try (with_reducible rfl)))
              try simp only [Act.put, List.setIfInBounds_toArray, List.set_cons_zero, List.set_cons_succ]
              refine wpAnyH_take (i := 8) (oi := { dst := some 159, op := Go.Op.move (Go.Operand.tmp 10), type := 3, pos := "law.go:50", after := #[{ on := 5, ground := Go.Ground.guard }], guard := some (5, true) }) (v := ?_) rfl (by kernel_rfl) (by kernel_rfl) (by kernel_rfl) (fun _ _ _ h => h) (Or.inl ⟨by rfl, ?_⟩) (by assumption) ?_
              rotate_left
              · (intro w hSw; (try dsimp only at hSw); go_simp; (try (with_reducible rfl)))
              try simp only [Act.put, List.setIfInBounds_toArray, List.set_cons_zero, List.set_cons_succ]
              refine wpAnyH_ready (rs := [7]) (by kernel_rfl) (by simp) ?_
              refine AllReadyH.cons (o := { dst := some 158, op := Go.Op.call { callee := Go.Callee.value (Go.Operand.func 88), args := #[Go.Operand.tmp 157], argTypes := #[117] }, type := 3, pos := "law.go:50", after := #[{ on := 6, ground := Go.Ground.data }, { on := 5, ground := Go.Ground.chain }, { on := 5, ground := Go.Ground.guard }], guard := some (5, true) }) rfl (fun K hK => ?_) AllReadyH.nil
              go_simp
              refine hEd.out.mono ?_
              rintro e wq ⟨rfl, rfl⟩
              refine hK.out _ _ hHeld (fun hHeld2 => ?_)
              clear hK K hHeld2
              try simp only [Act.put, List.setIfInBounds_toArray, List.set_cons_zero, List.set_cons_succ]
              refine wpAnyH_take (i := 9) (oi := { dst := some 160, op := Go.Op.binOp Go.BinOp.eql 3 (Go.Operand.tmp 158) (Go.Operand.tmp 159) 3, type := 4, pos := "law.go:50", after := #[{ on := 7, ground := Go.Ground.data }, { on := 8, ground := Go.Ground.data }, { on := 5, ground := Go.Ground.guard }], guard := some (5, true) }) (v := ?_) rfl (by kernel_rfl) (by kernel_rfl) (by kernel_rfl) (fun _ _ _ h => h) (Or.inl ⟨by rfl, ?_⟩) (by assumption) ?_
              rotate_left
              · (intro w hSw; (try dsimp only at hSw); go_simp; (try (with_reducible rfl)))
              try simp only [Act.put, List.setIfInBounds_toArray, List.set_cons_zero, List.set_cons_succ]
              refine wpAnyH_take (i := 10) (oi := { dst := some 161, op := Go.Op.pick (Go.Operand.tmp 156) (Go.Operand.tmp 160) (Go.Operand.const (Go.Value.bool false)), type := 4, pos := "law.go:50", after := #[{ on := 5, ground := Go.Ground.data }, { on := 9, ground := Go.Ground.data }], guard := none }) (v := ?_) rfl (by kernel_rfl) (by kernel_rfl) (by kernel_rfl) (fun _ _ _ h => h) (Or.inl ⟨by rfl, ?_⟩) (by assumption) ?_
              rotate_left
              · (intro w hSw; (try dsimp only at hSw); go_simp; (try (with_reducible rfl)))
              try simp only [Act.put, List.setIfInBounds_toArray, List.set_cons_zero, List.set_cons_succ]
              refine wpAnyH_take (i := 11) (oi := { dst := some 162, op := Go.Op.move (Go.Operand.tmp 161), type := 4, pos := "law.go:50", after := #[{ on := 10, ground := Go.Ground.data }, { on := 7, ground := Go.Ground.chain }], guard := none }) (v := ?_) rfl (by kernel_rfl) (by kernel_rfl) (by kernel_rfl) (fun _ _ _ h => h) (Or.inl ⟨by rfl, ?_⟩) (by assumption) ?_
              rotate_left
              · (intro w hSw; (try dsimp only at hSw); go_simp; (try (with_reducible rfl)))
              try simp only [Act.put, List.setIfInBounds_toArray, List.set_cons_zero, List.set_cons_succ]
              refine wpAnyH_take (i := 12) (oi := { dst := some 163, op := Go.Op.move (Go.Operand.tmp 5), type := 117, pos := "law.go:50", after := #[{ on := 11, ground := Go.Ground.guard }], guard := some (11, true) }) (v := ?_) rfl (by kernel_rfl) (by kernel_rfl) (by kernel_rfl) (fun _ _ _ h => h) (Or.inl ⟨by rfl, ?_⟩) (by assumption) ?_
              rotate_left
              · (intro w hSw; (try dsimp only at hSw); go_simp; (try (with_reducible rfl)))
              try simp only [Act.put, List.setIfInBounds_toArray, List.set_cons_zero, List.set_cons_succ]
              refine wpAnyH_take (i := 14) (oi := { dst := some 165, op := Go.Op.move (Go.Operand.tmp 0), type := 38, pos := "law.go:50", after := #[{ on := 11, ground := Go.Ground.guard }], guard := some (11, true) }) (v := ?_) rfl (by kernel_rfl) (by kernel_rfl) (by kernel_rfl) (fun _ _ _ h => h) (Or.inl ⟨by rfl, ?_⟩) (by assumption) ?_
              rotate_left
              · (intro w hSw; (try dsimp only at hSw); go_simp; (try (with_reducible rfl)))
              try simp only [Act.put, List.setIfInBounds_toArray, List.set_cons_zero, List.set_cons_succ]
              refine wpAnyH_ready (rs := [13]) (by kernel_rfl) (by simp) ?_
              refine AllReadyH.cons (o := { dst := some 164, op := Go.Op.call { callee := Go.Callee.value (Go.Operand.func 84), args := #[Go.Operand.tmp 163], argTypes := #[117] }, type := 47, pos := "law.go:50", after := #[{ on := 12, ground := Go.Ground.data }, { on := 11, ground := Go.Ground.chain }, { on := 11, ground := Go.Ground.guard }], guard := some (11, true) }) rfl (fun K hK => ?_) AllReadyH.nil
              go_simp
              refine (grIds_any p L _ _ _ hG hLdc (by omega)).mono ?_
              rintro e wI ⟨vI, RI, rfl, hI, enq, hrI, hmI⟩
              replace hE := hE.trans enq
              clear enq
              obtain ⟨Hc2, l2, hG2, hvI⟩ := hI.row_keep
              clear hG hI
              have hG := hG2
              clear hG2
              replace hrdc := hrdc.mono l2
              replace hldc : ∀ x ∈ l, RcD _ x := fun x hm => (hldc x hm).mono l2
              replace hLdc : ∀ x ∈ L, RcD _ x := fun x hm => (hLdc x hm).mono l2
              replace y0c := Hp.cell_le l2 y0c
              replace y1c := Hp.cell_le l2 y1c
              replace lec := Hp.le_trans lec l2
              refine hK.out _ _ ⟨hG.cell y0c, hG.cell y1c⟩ (fun hHeld2 => ?_)
              clear hK K hHeld l2
              have hHeld := hHeld2
              clear hHeld2
              try simp only [Act.put, List.setIfInBounds_toArray, List.set_cons_zero, List.set_cons_succ]
              refine wpAnyH_ready (rs := [15]) (by kernel_rfl) (by simp) ?_
              refine AllReadyH.cons (o := { dst := some 166, op := Go.Op.call { callee := Go.Callee.value (Go.Operand.func 90), args := #[Go.Operand.tmp 165], argTypes := #[38] }, type := 47, pos := "law.go:50", after := #[{ on := 14, ground := Go.Ground.data }, { on := 13, ground := Go.Ground.chain }, { on := 11, ground := Go.Ground.guard }], guard := some (11, true) }) rfl (fun K hK => ?_) AllReadyH.nil
              go_simp
              refine (refGrIds_any _ l _ (hrdc.rw hG) (by omega)).mono ?_
              rintro e wI2 he
              obtain ⟨vI2, rfl, hI2, enq⟩ := ResE.lift hG he
              replace hE := hE.trans enq
              clear enq
              obtain ⟨Hc2, l2, hG2, hvI2⟩ := hI2.row_keep
              clear hG hI2 he
              have hG := hG2
              clear hG2
              replace hrdc := hrdc.mono l2
              replace hldc : ∀ x ∈ l, RcD _ x := fun x hm => (hldc x hm).mono l2
              replace hLdc : ∀ x ∈ L, RcD _ x := fun x hm => (hLdc x hm).mono l2
              replace y0c := Hp.cell_le l2 y0c
              replace y1c := Hp.cell_le l2 y1c
              replace lec := Hp.le_trans lec l2
              replace hvI := hvI.mono l2
              refine hK.out _ _ ⟨hG.cell y0c, hG.cell y1c⟩ (fun hHeld2 => ?_)
              clear hK K hHeld l2
              have hHeld := hHeld2
              clear hHeld2
              try simp only [Act.put, List.setIfInBounds_toArray, List.set_cons_zero, List.set_cons_succ]
              refine wpAnyH_ready (rs := [16]) (by kernel_rfl) (by simp) ?_
              refine AllReadyH.cons (o := { dst := some 167, op := Go.Op.call { callee := Go.Callee.value (Go.Operand.func 53), args := #[Go.Operand.tmp 164, Go.Operand.tmp 166], argTypes := #[47, 47] }, type := 4, pos := "law.go:50", after := #[{ on := 13, ground := Go.Ground.data }, { on := 15, ground := Go.Ground.data }, { on := 15, ground := Go.Ground.chain }, { on := 11, ground := Go.Ground.guard }], guard := some (11, true) }) rfl (fun K hK => ?_) AllReadyH.nil
              have hS := sameIds_any vI vI2 RI (sortL (rids l)) _ (hvI.rw hG) (hvI2.rw hG)
              rw [decide_eq_true (told_ids hrI hmI hLm.out)] at hS
              replace hS := Lib.hid hS
              clear hvI hvI2 hrI hmI
              go_simp
              refine hS.out.mono ?_
              rintro e ws1 ⟨rfl, hbs1⟩
              replace hG := hG.below hbs1
              replace hE := hE.trans (bel_env hbs1)
              refine hK.out _ _ ⟨hG.cell y0c, hG.cell y1c⟩ (fun hHeld2 => ?_)
              clear hK K hHeld hS
              have hHeld := hHeld2
              clear hHeld2
              try simp only [Act.put, List.setIfInBounds_toArray, List.set_cons_zero, List.set_cons_succ]
              refine wpAnyH_take (i := 17) (oi := { dst := some 168, op := Go.Op.pick (Go.Operand.tmp 162) (Go.Operand.tmp 167) (Go.Operand.const (Go.Value.bool false)), type := 4, pos := "law.go:50", after := #[{ on := 11, ground := Go.Ground.data }, { on := 16, ground := Go.Ground.data }], guard := none }) (v := ?_) rfl (by kernel_rfl) (by kernel_rfl) (by kernel_rfl) (fun _ _ _ h => h) (Or.inl ⟨by rfl, ?_⟩) (by assumption) ?_
              rotate_left
              · (intro w hSw; (try dsimp only at hSw); go_simp; (try (with_reducible rfl)))
              try simp only [Act.put, List.setIfInBounds_toArray, List.set_cons_zero, List.set_cons_succ]
              refine wpAnyH_take (i := 18) (oi := { dst := some 169, op := Go.Op.move (Go.Operand.tmp 168), type := 4, pos := "law.go:50", after := #[{ on := 17, ground := Go.Ground.data }, { on := 16, ground := Go.Ground.chain }], guard := none }) (v := ?_) rfl (by kernel_rfl) (by kernel_rfl) (by kernel_rfl) (fun _ _ _ h => h) (Or.inl ⟨by rfl, ?_⟩) (by assumption) ?_
              rotate_left
              · (intro w hSw; (try dsimp only at hSw); go_simp; (try (with_reducible rfl)))
              try simp only [Act.put, List.setIfInBounds_toArray, List.set_cons_zero, List.set_cons_succ]
              refine wpAnyH_take (i := 19) (oi := { dst := some 170, op := Go.Op.move (Go.Operand.tmp 5), type := 117, pos := "law.go:50", after := #[{ on := 18, ground := Go.Ground.guard }], guard := some (18, true) }) (v := ?_) rfl (by kernel_rfl) (by kernel_rfl) (by kernel_rfl) (fun _ _ _ h => h) (Or.inl ⟨by rfl, ?_⟩) (by assumption) ?_
              rotate_left
              · (intro w hSw; (try dsimp only at hSw); go_simp; (try (with_reducible rfl)))
              try simp only [Act.put, List.setIfInBounds_toArray, List.set_cons_zero, List.set_cons_succ]
              refine wpAnyH_take (i := 21) (oi := { dst := some 172, op := Go.Op.move (Go.Operand.tmp 0), type := 38, pos := "law.go:50", after := #[{ on := 18, ground := Go.Ground.guard }], guard := some (18, true) }) (v := ?_) rfl (by kernel_rfl) (by kernel_rfl) (by kernel_rfl) (fun _ _ _ h => h) (Or.inl ⟨by rfl, ?_⟩) (by assumption) ?_
              rotate_left
              · (intro w hSw; (try dsimp only at hSw); go_simp; (try (with_reducible rfl)))
              try simp only [Act.put, List.setIfInBounds_toArray, List.set_cons_zero, List.set_cons_succ]
              refine wpAnyH_ready (rs := [20]) (by kernel_rfl) (by simp) ?_
              refine AllReadyH.cons (o := { dst := some 171, op := Go.Op.call { callee := Go.Callee.value (Go.Operand.func 86), args := #[Go.Operand.tmp 170], argTypes := #[117] }, type := 47, pos := "law.go:50", after := #[{ on := 19, ground := Go.Ground.data }, { on := 18, ground := Go.Ground.chain }, { on := 18, ground := Go.Ground.guard }], guard := some (18, true) }) rfl (fun K hK => ?_) AllReadyH.nil
              go_simp
              refine (grMissing_any p L _ _ _ hG hLdc (fun x hm => (hL16 x hm).1) (by omega)).mono ?_
              rintro e wM ⟨vM, RM, rfl, hM, enq, hrM, hmM⟩
              replace hE := hE.trans enq
              clear enq
              obtain ⟨Hc2, l2, hG2, hvM⟩ := hM.row_keep
              clear hG hM
              have hG := hG2
              clear hG2
              replace hrdc := hrdc.mono l2
              replace hldc : ∀ x ∈ l, RcD _ x := fun x hm => (hldc x hm).mono l2
              replace hLdc : ∀ x ∈ L, RcD _ x := fun x hm => (hLdc x hm).mono l2
              replace y0c := Hp.cell_le l2 y0c
              replace y1c := Hp.cell_le l2 y1c
              replace lec := Hp.le_trans lec l2
              refine hK.out _ _ ⟨hG.cell y0c, hG.cell y1c⟩ (fun hHeld2 => ?_)
              clear hK K hHeld l2
              have hHeld := hHeld2
              clear hHeld2
              try simp only [Act.put, List.setIfInBounds_toArray, List.set_cons_zero, List.set_cons_succ]
              refine wpAnyH_ready (rs := [22]) (by kernel_rfl) (by simp) ?_
              refine AllReadyH.cons (o := { dst := some 173, op := Go.Op.call { callee := Go.Callee.value (Go.Operand.func 91), args := #[Go.Operand.tmp 172], argTypes := #[38] }, type := 47, pos := "law.go:50", after := #[{ on := 21, ground := Go.Ground.data }, { on := 20, ground := Go.Ground.chain }, { on := 18, ground := Go.Ground.guard }], guard := some (18, true) }) rfl (fun K hK => ?_) AllReadyH.nil
              go_simp
              refine (refMissing_any _ l _ (hrdc.rw hG) (fun x hm => (hldc x hm).rw hG) (fun x hm => (hl16 x hm).1) (by omega)).mono ?_
              rintro e wM2 he
              obtain ⟨vM2, rfl, hM2, enq⟩ := ResE.lift hG he
              replace hE := hE.trans enq
              clear enq
              obtain ⟨Hc2, l2, hG2, hvM2⟩ := hM2.row_keep
              clear hG hM2 he
              have hG := hG2
              clear hG2
              replace hrdc := hrdc.mono l2
              replace hldc : ∀ x ∈ l, RcD _ x := fun x hm => (hldc x hm).mono l2
              replace hLdc : ∀ x ∈ L, RcD _ x := fun x hm => (hLdc x hm).mono l2
              replace y0c := Hp.cell_le l2 y0c
              replace y1c := Hp.cell_le l2 y1c
              replace lec := Hp.le_trans lec l2
              replace hvM := hvM.mono l2
              refine hK.out _ _ ⟨hG.cell y0c, hG.cell y1c⟩ (fun hHeld2 => ?_)
              clear hK K hHeld l2
              have hHeld := hHeld2
              clear hHeld2
              try simp only [Act.put, List.setIfInBounds_toArray, List.set_cons_zero, List.set_cons_succ]
              refine wpAnyH_ready (rs := [23]) (by kernel_rfl) (by simp) ?_
              refine AllReadyH.cons (o := { dst := some 174, op := Go.Op.call { callee := Go.Callee.value (Go.Operand.func 53), args := #[Go.Operand.tmp 171, Go.Operand.tmp 173], argTypes := #[47, 47] }, type := 4, pos := "law.go:50", after := #[{ on := 20, ground := Go.Ground.data }, { on := 22, ground := Go.Ground.data }, { on := 22, ground := Go.Ground.chain }, { on := 18, ground := Go.Ground.guard }], guard := some (18, true) }) rfl (fun K hK => ?_) AllReadyH.nil
              have hS := sameIds_any vM vM2 RM (sortL (mis (rids l) l)) _ (hvM.rw hG) (hvM2.rw hG)
              rw [decide_eq_true (told_mis hrM hmM hLm.out)] at hS
              replace hS := Lib.hid hS
              clear hvM hvM2 hrM hmM
              go_simp
              refine hS.out.mono ?_
              rintro e ws2 ⟨rfl, hbs2⟩
              replace hG := hG.below hbs2
              replace hE := hE.trans (bel_env hbs2)
              refine hK.out _ _ ⟨hG.cell y0c, hG.cell y1c⟩ (fun hHeld2 => ?_)
              clear hK K hHeld hS
              have hHeld := hHeld2
              clear hHeld2
              try simp only [Act.put, List.setIfInBounds_toArray, List.set_cons_zero, List.set_cons_succ]
              refine wpAnyH_take (i := 24) (oi := { dst := some 175, op := Go.Op.pick (Go.Operand.tmp 169) (Go.Operand.tmp 174) (Go.Operand.const (Go.Value.bool false)), type := 4, pos := "law.go:50", after := #[{ on := 18, ground := Go.Ground.data }, { on := 23, ground := Go.Ground.data }], guard := none }) (v := ?_) rfl (by kernel_rfl) (by kernel_rfl) (by kernel_rfl) (fun _ _ _ h => h) (Or.inl ⟨by rfl, ?_⟩) (by assumption) ?_
              rotate_left
              · (intro w hSw; (try dsimp only at hSw); go_simp; (try (with_reducible rfl)))
              try simp only [Act.put, List.setIfInBounds_toArray, List.set_cons_zero, List.set_cons_succ]
              refine wpAnyH_take (i := 25) (oi := { dst := some 176, op := Go.Op.move (Go.Operand.tmp 175), type := 4, pos := "law.go:50", after := #[{ on := 24, ground := Go.Ground.data }, { on := 23, ground := Go.Ground.chain }], guard := none }) (v := ?_) rfl (by kernel_rfl) (by kernel_rfl) (by kernel_rfl) (fun _ _ _ h => h) (Or.inl ⟨by rfl, ?_⟩) (by assumption) ?_
              rotate_left
              · (intro w hSw; (try dsimp only at hSw); go_simp; (try (with_reducible rfl)))
              try simp only [Act.put, List.setIfInBounds_toArray, List.set_cons_zero, List.set_cons_succ]
              refine wpAnyH_take (i := 26) (oi := { dst := some 177, op := Go.Op.move (Go.Operand.tmp 5), type := 117, pos := "law.go:50", after := #[{ on := 25, ground := Go.Ground.guard }], guard := some (25, true) }) (v := ?_) rfl (by kernel_rfl) (by kernel_rfl) (by kernel_rfl) (fun _ _ _ h => h) (Or.inl ⟨by rfl, ?_⟩) (by assumption) ?_
              rotate_left
              · (intro w hSw; (try dsimp only at hSw); go_simp; (try (with_reducible rfl)))
              try simp only [Act.put, List.setIfInBounds_toArray, List.set_cons_zero, List.set_cons_succ]
              refine wpAnyH_take (i := 27) (oi := { dst := some 178, op := Go.Op.load 42 (Go.Operand.tmp 3), type := 42, pos := "law.go:50", after := #[{ on := 25, ground := Go.Ground.guard }], guard := some (25, true) }) (v := ?_) rfl (by kernel_rfl) (by kernel_rfl) (by kernel_rfl) (fun _ _ _ h => h) (Or.inl ⟨by rfl, ?_⟩) (by assumption) ?_
              rotate_left
              · (intro w hSw; (try dsimp only at hSw); go_simp; (try (with_reducible rfl)))
              try simp only [Act.put, List.setIfInBounds_toArray, List.set_cons_zero, List.set_cons_succ]
              refine wpAnyH_take (i := 29) (oi := { dst := some 180, op := Go.Op.move (Go.Operand.tmp 0), type := 38, pos := "law.go:50", after := #[{ on := 25, ground := Go.Ground.guard }], guard := some (25, true) }) (v := ?_) rfl (by kernel_rfl) (by kernel_rfl) (by kernel_rfl) (fun _ _ _ h => h) (Or.inl ⟨by rfl, ?_⟩) (by assumption) ?_
              rotate_left
              · (intro w hSw; (try dsimp only at hSw); go_simp; (try (with_reducible rfl)))
              try simp only [Act.put, List.setIfInBounds_toArray, List.set_cons_zero, List.set_cons_succ]
              refine wpAnyH_take (i := 30) (oi := { dst := some 181, op := Go.Op.load 42 (Go.Operand.tmp 3), type := 42, pos := "law.go:50", after := #[{ on := 25, ground := Go.Ground.guard }], guard := some (25, true) }) (v := ?_) rfl (by kernel_rfl) (by kernel_rfl) (by kernel_rfl) (fun _ _ _ h => h) (Or.inl ⟨by rfl, ?_⟩) (by assumption) ?_
              rotate_left
              · (intro w hSw; (try dsimp only at hSw); go_simp; (try (with_reducible rfl)))
              try simp only [Act.put, List.setIfInBounds_toArray, List.set_cons_zero, List.set_cons_succ]
              refine wpAnyH_ready (rs := [28]) (by kernel_rfl) (by simp) ?_
              refine AllReadyH.cons (o := { dst := some 179, op := Go.Op.call { callee := Go.Callee.value (Go.Operand.func 87), args := #[Go.Operand.tmp 177, Go.Operand.tmp 178], argTypes := #[117, 42] }, type := 47, pos := "law.go:50", after := #[{ on := 26, ground := Go.Ground.data }, { on := 27, ground := Go.Ground.data }, { on := 25, ground := Go.Ground.chain }, { on := 25, ground := Go.Ground.guard }], guard := some (25, true) }) rfl (fun K hK => ?_) AllReadyH.nil
              go_simp
              refine (grUsers_any p L (x0, x1) _ _ _ hG hLdc (by omega)).mono ?_
              rintro e wU ⟨vU, RU, rfl, hU, enq, hrU, hmU⟩
              replace hE := hE.trans enq
              clear enq
              obtain ⟨Hc2, l2, hG2, hvU⟩ := hU.row_keep
              clear hG hU
              have hG := hG2
              clear hG2
              replace hrdc := hrdc.mono l2
              replace hldc : ∀ x ∈ l, RcD _ x := fun x hm => (hldc x hm).mono l2
              replace hLdc : ∀ x ∈ L, RcD _ x := fun x hm => (hLdc x hm).mono l2
              replace y0c := Hp.cell_le l2 y0c
              replace y1c := Hp.cell_le l2 y1c
              replace lec := Hp.le_trans lec l2
              refine hK.out _ _ ⟨hG.cell y0c, hG.cell y1c⟩ (fun hHeld2 => ?_)
              clear hK K hHeld l2
              have hHeld := hHeld2
              clear hHeld2
              try simp only [Act.put, List.setIfInBounds_toArray, List.set_cons_zero, List.set_cons_succ]
              refine wpAnyH_ready (rs := [31]) (by kernel_rfl) (by simp) ?_
              refine AllReadyH.cons (o := { dst := some 182, op := Go.Op.call { callee := Go.Callee.value (Go.Operand.func 92), args := #[Go.Operand.tmp 180, Go.Operand.tmp 181], argTypes := #[38, 42] }, type := 47, pos := "law.go:50", after := #[{ on := 29, ground := Go.Ground.data }, { on := 30, ground := Go.Ground.data }, { on := 28, ground := Go.Ground.chain }, { on := 25, ground := Go.Ground.guard }], guard := some (25, true) }) rfl (fun K hK => ?_) AllReadyH.nil
              go_simp
              refine (refUsers_any _ l (x0, x1) _ (hrdc.rw hG) (fun x hm => (hldc x hm).rw hG) (by omega)).mono ?_
              rintro e wU2 he
              obtain ⟨vU2, rfl, hU2, enq⟩ := ResE.lift hG he
              replace hE := hE.trans enq
              clear enq
              obtain ⟨Hc2, l2, hG2, hvU2⟩ := hU2.row_keep
              clear hG hU2 he
              have hG := hG2
              clear hG2
              replace hrdc := hrdc.mono l2
              replace hldc : ∀ x ∈ l, RcD _ x := fun x hm => (hldc x hm).mono l2
              replace hLdc : ∀ x ∈ L, RcD _ x := fun x hm => (hLdc x hm).mono l2
              replace y0c := Hp.cell_le l2 y0c
              replace y1c := Hp.cell_le l2 y1c
              replace lec := Hp.le_trans lec l2
              replace hvU := hvU.mono l2
              refine hK.out _ _ ⟨hG.cell y0c, hG.cell y1c⟩ (fun hHeld2 => ?_)
              clear hK K hHeld l2
              have hHeld := hHeld2
              clear hHeld2
              try simp only [Act.put, List.setIfInBounds_toArray, List.set_cons_zero, List.set_cons_succ]
              refine wpAnyH_ready (rs := [32]) (by kernel_rfl) (by simp) ?_
              refine AllReadyH.cons (o := { dst := some 183, op := Go.Op.call { callee := Go.Callee.value (Go.Operand.func 53), args := #[Go.Operand.tmp 179, Go.Operand.tmp 182], argTypes := #[47, 47] }, type := 4, pos := "law.go:50", after := #[{ on := 28, ground := Go.Ground.data }, { on := 31, ground := Go.Ground.data }, { on := 31, ground := Go.Ground.chain }, { on := 25, ground := Go.Ground.guard }], guard := some (25, true) }) rfl (fun K hK => ?_) AllReadyH.nil
              have hS := sameIds_any vU vU2 RU (sortL (usr (x0, x1) l)) _ (hvU.rw hG) (hvU2.rw hG)
              rw [decide_eq_true (told_usr hrU hmU hLm.out)] at hS
              replace hS := Lib.hid hS
              clear hvU hvU2 hrU hmU
              go_simp
              refine hS.out.mono ?_
              rintro e ws3 ⟨rfl, hbs3⟩
              replace hG := hG.below hbs3
              replace hE := hE.trans (bel_env hbs3)
              refine hK.out _ _ ⟨hG.cell y0c, hG.cell y1c⟩ (fun hHeld2 => ?_)
              clear hK K hHeld hS
              have hHeld := hHeld2
              clear hHeld2
              try simp only [Act.put, List.setIfInBounds_toArray, List.set_cons_zero, List.set_cons_succ]
              refine wpAnyH_take (i := 33) (oi := { dst := some 184, op := Go.Op.pick (Go.Operand.tmp 176) (Go.Operand.tmp 183) (Go.Operand.const (Go.Value.bool false)), type := 4, pos := "law.go:50", after := #[{ on := 25, ground := Go.Ground.data }, { on := 32, ground := Go.Ground.data }], guard := none }) (v := ?_) rfl (by kernel_rfl) (by kernel_rfl) (by kernel_rfl) (fun _ _ _ h => h) (Or.inl ⟨by rfl, ?_⟩) (by assumption) ?_
              rotate_left
              · (intro w hSw; (try dsimp only at hSw); go_simp; (try (with_reducible rfl)))
              try simp only [Act.put, List.setIfInBounds_toArray, List.set_cons_zero, List.set_cons_succ]
              refine wpAnyH_take (i := 34) (oi := { dst := some 185, op := Go.Op.move (Go.Operand.tmp 184), type := 4, pos := "law.go:50", after := #[{ on := 33, ground := Go.Ground.data }, { on := 32, ground := Go.Ground.chain }], guard := none }) (v := ?_) rfl (by kernel_rfl) (by kernel_rfl) (by kernel_rfl) (fun _ _ _ h => h) (Or.inl ⟨by rfl, ?_⟩) (by assumption) ?_
              rotate_left
              · (intro w hSw; (try dsimp only at hSw); go_simp; (try (with_reducible rfl)))
              try simp only [Act.put, List.setIfInBounds_toArray, List.set_cons_zero, List.set_cons_succ]
              refine wpAnyH_ready (rs := [35]) (by kernel_rfl) (by simp) ?_
              refine AllReadyH.cons (o := { dst := some 186, op := Go.Op.call { callee := Go.Callee.value (Go.Operand.func 79), args := #[], argTypes := #[] }, type := 4, pos := "law.go:50", after := #[{ on := 34, ground := Go.Ground.chain }, { on := 34, ground := Go.Ground.guard }], guard := some (34, true) }) rfl (fun K hK => ?_) AllReadyH.nil
              go_simp
              refine (works15 _).mono ?_
              rintro e wz ⟨rfl, hbz⟩
              replace hG := hG.below hbz
              replace hE := hE.trans (bel_env hbz)
              refine hK.out _ _ ⟨hG.cell y0c, hG.cell y1c⟩ (fun hHeld2 => ?_)
              clear hK K hHeld
              try simp only [Act.put, List.setIfInBounds_toArray, List.set_cons_zero, List.set_cons_succ]
              refine wpAnyH_take (i := 36) (oi := { dst := some 187, op := Go.Op.pick (Go.Operand.tmp 185) (Go.Operand.tmp 186) (Go.Operand.const (Go.Value.bool false)), type := 4, pos := "law.go:50", after := #[{ on := 34, ground := Go.Ground.data }, { on := 35, ground := Go.Ground.data }], guard := none }) (v := ?_) rfl (by kernel_rfl) (by kernel_rfl) (by kernel_rfl) (fun _ _ _ h => h) (Or.inl ⟨by rfl, ?_⟩) (by assumption) ?_
              rotate_left
              · (intro w hSw; (try dsimp only at hSw); go_simp; (try (with_reducible rfl)))
              try simp only [Act.put, List.setIfInBounds_toArray, List.set_cons_zero, List.set_cons_succ]
              refine wpAnyH_take (i := 37) (oi := { dst := some 4, op := Go.Op.assign (Go.Operand.tmp 187), type := 4, pos := "law.go:50", after := #[{ on := 36, ground := Go.Ground.data }, { on := 35, ground := Go.Ground.chain }, { on := 0, ground := Go.Ground.phase }, { on := 1, ground := Go.Ground.phase }, { on := 2, ground := Go.Ground.phase }, { on := 3, ground := Go.Ground.phase }, { on := 4, ground := Go.Ground.phase }, { on := 5, ground := Go.Ground.phase }, { on := 6, ground := Go.Ground.phase }, { on := 7, ground := Go.Ground.phase }, { on := 8, ground := Go.Ground.phase }, { on := 9, ground := Go.Ground.phase }, { on := 10, ground := Go.Ground.phase }, { on := 11, ground := Go.Ground.phase }, { on := 12, ground := Go.Ground.phase }, { on := 13, ground := Go.Ground.phase }, { on := 14, ground := Go.Ground.phase }, { on := 15, ground := Go.Ground.phase }, { on := 16, ground := Go.Ground.phase }, { on := 17, ground := Go.Ground.phase }, { on := 18, ground := Go.Ground.phase }, { on := 19, ground := Go.Ground.phase }, { on := 20, ground := Go.Ground.phase }, { on := 21, ground := Go.Ground.phase }, { on := 22, ground := Go.Ground.phase }, { on := 23, ground := Go.Ground.phase }, { on := 24, ground := Go.Ground.phase }, { on := 25, ground := Go.Ground.phase }, { on := 26, ground := Go.Ground.phase }, { on := 27, ground := Go.Ground.phase }, { on := 28, ground := Go.Ground.phase }, { on := 29, ground := Go.Ground.phase }, { on := 30, ground := Go.Ground.phase }, { on := 31, ground := Go.Ground.phase }, { on := 32, ground := Go.Ground.phase }, { on := 33, ground := Go.Ground.phase }, { on := 34, ground := Go.Ground.phase }, { on := 35, ground := Go.Ground.phase }, { on := 36, ground := Go.Ground.phase }], guard := none }) (v := ?_) rfl (by kernel_rfl) (by kernel_rfl) (by kernel_rfl) (fun _ _ _ h => h) (Or.inl ⟨by rfl, ?_⟩) (by assumption) ?_
              rotate_left
              · (intro w hSw; (try dsimp only at hSw); go_simp; (try (with_reducible rfl)))
              try simp only [Act.put, List.setIfInBounds_toArray, List.set_cons_zero, List.set_cons_succ]
              refine wpAnyH_done (by kernel_rfl) ?_ _
              go_wp2_with fail
              go_ret
              exact ⟨rfl, (hG.weaken (Hp.le_trans l1.out (Hp.le_trans hle1 lec))).toBelow hE⟩
        · have hz : z < 0 := by
            rcases Int.lt_or_le z 0 with h | h
            · exact h
            · exact absurd (hpos.1 h) hin
          have hNo := grRec_no (grP p) (r, s) w5 (fun w' hb => by
            have := grHas_any p L (r, s) H [] w' hLd (h5.below hb)
            rwa [decide_eq_false hin] at this)
          replace hNo := Lib.hid hNo
          go_wp2_with fail
          refine hNo.out.mono ?_
          rintro e w6 ⟨rfl, hb6⟩
          have h6 := h5.below hb6
          obtain ⟨Hr, lr, h7, yr⟩ := h6.box #[.int .i64 0, .int .i64 0, .int .i64 0, .slice none 0 0, .slice none 0 0] 49
          have hE := (en5.trans (bel_env hb6)).alloc (.cells #[.int .i64 0, .int .i64 0, .int .i64 0, .slice none 0 0, .slice none 0 0] 49)
          have yr3 := yr 3 _ rfl
          clear yr
          have lec := lr
          have hrdc := (hrd.mono hle1).mono lec
          have hldc : ∀ x ∈ l, RcD _ x := fun x hm => ((hld x hm).mono hle1).mono lec
          have hLdc : ∀ x ∈ L, RcD _ x := fun x hm => (hLd x hm).mono lec
          have y0c := Hp.cell_le lec (Hp.cell_le hle1 y0)
          have y1c := Hp.cell_le lec (Hp.cell_le hle1 y1)
          have hzd : decide (0 ≤ z) = false := decide_eq_false (by omega)
          have hHs := grHas_any p L (r, s) Hr [] _ hLdc h7.drew
          rw [decide_eq_false hin] at hHs
          replace hHs := Lib.hid hHs
          replace hin := Lib.hid hin
          clear v0 v1 vl hNo h5 hb6
          go_wp2_with fail
          generalize w6.alloc (.cells #[.int .i64 0, .int .i64 0, .int .i64 0, .slice none 0 0, .slice none 0 0] 49) = W7 at *
          generalize w6.heap.size = gr at *
          refine wp_region_held_drew (S := (fun w' => w'.cell? ⟨gi, 0, none⟩ = some (.int .i64 r) ∧ w'.cell? ⟨gi, 1, none⟩ = some (.int .i64 s))) (by kernel_rfl) ⟨h7.drew.cell y0c, h7.drew.cell y1c⟩ (fun hHeld => ?_)
          have hG := h7.drew
          replace hE := hE.drew
          clear h7
          refine wpAnyH_take (i := 0) (oi := { dst := some 116, op := Go.Op.move (Go.Operand.tmp 14), type := 4, pos := "law.go:44", after := #[], guard := none }) (v := ?_) rfl (by kernel_rfl) (by kernel_rfl) (by kernel_rfl) (fun _ _ _ h => h) (Or.inl ⟨by rfl, ?_⟩) (by assumption) ?_
          rotate_left
          · (intro w hSw; (try dsimp only at hSw); go_simp; (try (with_reducible rfl)))
          try simp only [Act.put, List.setIfInBounds_toArray, List.set_cons_zero, List.set_cons_succ]
          refine wpAnyH_take (i := 1) (oi := { dst := some 117, op := Go.Op.move (Go.Operand.tmp 12), type := 3, pos := "law.go:44", after := #[], guard := none }) (v := ?_) rfl (by kernel_rfl) (by kernel_rfl) (by kernel_rfl) (fun _ _ _ h => h) (Or.inl ⟨by rfl, ?_⟩) (by assumption) ?_
          rotate_left
          · (intro w hSw; (try dsimp only at hSw); go_simp; (try (with_reducible rfl)))
          try simp only [Act.put, List.setIfInBounds_toArray, List.set_cons_zero, List.set_cons_succ]
          refine wpAnyH_take (i := 2) (oi := { dst := some 118, op := Go.Op.binOp Go.BinOp.geq 3 (Go.Operand.tmp 117) (Go.Operand.const (Go.Value.int Go.IntKind.i64 0)) 3, type := 4, pos := "law.go:44", after := #[{ on := 1, ground := Go.Ground.data }], guard := none }) (v := ?_) rfl (by kernel_rfl) (by kernel_rfl) (by kernel_rfl) (fun _ _ _ h => h) (Or.inl ⟨by rfl, ?_⟩) (by assumption) ?_
          rotate_left
          · (intro w hSw; (try dsimp only at hSw); go_simp; (try (with_reducible rfl)))
          try simp only [Act.put, List.setIfInBounds_toArray, List.set_cons_zero, List.set_cons_succ]
          refine wpAnyH_take (i := 3) (oi := { dst := some 119, op := Go.Op.binOp Go.BinOp.neq 4 (Go.Operand.tmp 116) (Go.Operand.tmp 118) 4, type := 4, pos := "law.go:44", after := #[{ on := 0, ground := Go.Ground.data }, { on := 2, ground := Go.Ground.data }], guard := none }) (v := ?_) rfl (by kernel_rfl) (by kernel_rfl) (by kernel_rfl) (fun _ _ _ h => h) (Or.inl ⟨by rfl, ?_⟩) (by assumption) ?_
          rotate_left
          · (intro w hSw; (try dsimp only at hSw); go_simp; (try (with_reducible rfl)))
          try simp only [Act.put, List.setIfInBounds_toArray, List.set_cons_zero, List.set_cons_succ]
          refine wpAnyH_take (i := 4) (oi := { dst := some 120, op := Go.Op.move (Go.Operand.tmp 119), type := 4, pos := "law.go:44", after := #[{ on := 3, ground := Go.Ground.data }], guard := none }) (v := ?_) rfl (by kernel_rfl) (by kernel_rfl) (by kernel_rfl) (fun _ _ _ h => h) (Or.inl ⟨by rfl, ?_⟩) (by assumption) ?_
          rotate_left
          · (intro w hSw; (try dsimp only at hSw); go_simp; (try (with_reducible rfl)))
          try simp only [Act.put, List.setIfInBounds_toArray, List.set_cons_zero, List.set_cons_succ]
          refine wpAnyH_take (i := 5) (oi := { dst := some 121, op := Go.Op.move (Go.Operand.tmp 5), type := 117, pos := "law.go:44", after := #[{ on := 4, ground := Go.Ground.guard }], guard := some (4, false) }) (v := ?_) rfl (by kernel_rfl) (by kernel_rfl) (by kernel_rfl) (fun _ _ _ h => h) (Or.inl ⟨by rfl, ?_⟩) (by assumption) ?_
          rotate_left
          · (intro w hSw; (try dsimp only at hSw); go_simp; (try (with_reducible rfl)))
          try simp only [Act.put, List.setIfInBounds_toArray, List.set_cons_zero, List.set_cons_succ]
          refine wpAnyH_take (i := 6) (oi := { dst := some 122, op := Go.Op.load 42 (Go.Operand.tmp 3), type := 42, pos := "law.go:44", after := #[{ on := 4, ground := Go.Ground.guard }], guard := some (4, false) }) (v := ?_) rfl (by kernel_rfl) (by kernel_rfl) (by kernel_rfl) (fun _ _ _ h => h) (Or.inl ⟨by rfl, ?_⟩) (by assumption) ?_
          rotate_left
          · (intro w hSw; (try dsimp only at hSw); go_simp; (try (with_reducible rfl)))
          try simp only [Act.put, List.setIfInBounds_toArray, List.set_cons_zero, List.set_cons_succ]
          refine wpAnyH_take (i := 8) (oi := { dst := some 124, op := Go.Op.move (Go.Operand.tmp 14), type := 4, pos := "law.go:44", after := #[{ on := 4, ground := Go.Ground.guard }], guard := some (4, false) }) (v := ?_) rfl (by kernel_rfl) (by kernel_rfl) (by kernel_rfl) (fun _ _ _ h => h) (Or.inl ⟨by rfl, ?_⟩) (by assumption) ?_
          rotate_left
          · (intro w hSw; (try dsimp only at hSw); go_simp; (try (with_reducible rfl)))
          try simp only [Act.put, List.setIfInBounds_toArray, List.set_cons_zero, List.set_cons_succ]
          refine wpAnyH_ready (rs := [7]) (by kernel_rfl) (by simp) ?_
          refine AllReadyH.cons (o := { dst := some 123, op := Go.Op.call { callee := Go.Callee.value (Go.Operand.func 85), args := #[Go.Operand.tmp 121, Go.Operand.tmp 122], argTypes := #[117, 42] }, type := 4, pos := "law.go:44", after := #[{ on := 5, ground := Go.Ground.data }, { on := 6, ground := Go.Ground.data }, { on := 4, ground := Go.Ground.chain }, { on := 4, ground := Go.Ground.guard }], guard := some (4, false) }) rfl (fun K hK => ?_) AllReadyH.nil
          go_simp
          refine hHs.out.mono ?_
          rintro e w8 ⟨rfl, hb8⟩
          replace hG := hG.below hb8
          replace hE := hE.trans (bel_env hb8)
          refine hK.out _ _ ⟨hG.cell y0c, hG.cell y1c⟩ (fun hHeld2 => ?_)
          clear hK K hHeld hHs
          have hHeld := hHeld2
          clear hHeld2
          try simp only [Act.put, List.setIfInBounds_toArray, List.set_cons_zero, List.set_cons_succ]
          refine wpAnyH_take (i := 9) (oi := { dst := some 125, op := Go.Op.binOp Go.BinOp.neq 4 (Go.Operand.tmp 123) (Go.Operand.tmp 124) 4, type := 4, pos := "law.go:44", after := #[{ on := 7, ground := Go.Ground.data }, { on := 8, ground := Go.Ground.data }, { on := 4, ground := Go.Ground.guard }], guard := some (4, false) }) (v := ?_) rfl (by kernel_rfl) (by kernel_rfl) (by kernel_rfl) (fun _ _ _ h => h) (Or.inl ⟨by rfl, ?_⟩) (by assumption) ?_
          rotate_left
          · (intro w hSw; (try dsimp only at hSw); go_simp; (try (with_reducible rfl)))
          try simp only [Act.put, List.setIfInBounds_toArray, List.set_cons_zero, List.set_cons_succ]
          refine wpAnyH_take (i := 10) (oi := { dst := some 126, op := Go.Op.pick (Go.Operand.tmp 120) (Go.Operand.const (Go.Value.bool true)) (Go.Operand.tmp 125), type := 4, pos := "law.go:44", after := #[{ on := 4, ground := Go.Ground.data }, { on := 9, ground := Go.Ground.data }], guard := none }) (v := ?_) rfl (by kernel_rfl) (by kernel_rfl) (by kernel_rfl) (fun _ _ _ h => h) (Or.inl ⟨by rfl, ?_⟩) (by assumption) ?_
          rotate_left
          · (intro w hSw; (try dsimp only at hSw); go_simp; (try (with_reducible rfl)))
          try simp only [Act.put, List.setIfInBounds_toArray, List.set_cons_zero, List.set_cons_succ]
          refine wpAnyH_take (i := 11) (oi := { dst := some 127, op := Go.Op.move (Go.Operand.tmp 126), type := 4, pos := "law.go:44", after := #[{ on := 10, ground := Go.Ground.data }, { on := 7, ground := Go.Ground.chain }], guard := none }) (v := ?_) rfl (by kernel_rfl) (by kernel_rfl) (by kernel_rfl) (fun _ _ _ h => h) (Or.inl ⟨by rfl, ?_⟩) (by assumption) ?_
          rotate_left
          · (intro w hSw; (try dsimp only at hSw); go_simp; (try (with_reducible rfl)))
          try simp only [Act.put, List.setIfInBounds_toArray, List.set_cons_zero, List.set_cons_succ]
          refine wpAnyH_take (i := 12) (oi := { dst := some 128, op := Go.Op.move (Go.Operand.tmp 14), type := 4, pos := "law.go:44", after := #[{ on := 11, ground := Go.Ground.guard }], guard := some (11, false) }) (v := ?_) rfl (by kernel_rfl) (by kernel_rfl) (by kernel_rfl) (fun _ _ _ h => h) (Or.inl ⟨by rfl, ?_⟩) (by assumption) ?_
          rotate_left
          · (intro w hSw; (try dsimp only at hSw); go_simp; (try (with_reducible rfl)))
          try simp only [Act.put, List.setIfInBounds_toArray, List.set_cons_zero, List.set_cons_succ]
          refine wpAnyH_take (i := 13) (oi := { dst := some 129, op := Go.Op.move (Go.Operand.tmp 128), type := 4, pos := "law.go:44", after := #[{ on := 12, ground := Go.Ground.data }, { on := 11, ground := Go.Ground.chain }, { on := 11, ground := Go.Ground.guard }], guard := some (11, false) }) (v := ?_) rfl (by kernel_rfl) (by kernel_rfl) (by kernel_rfl) (fun _ _ _ h => h) (Or.inl ⟨by rfl, ?_⟩) (by assumption) ?_
          rotate_left
          · (intro w hSw; (try dsimp only at hSw); go_simp; (try (with_reducible rfl)))
          try simp only [Act.put, List.setIfInBounds_toArray, List.set_cons_zero, List.set_cons_succ]
          refine wpAnyH_take (i := 14) (oi := { dst := some 130, op := Go.Op.load 49 (Go.Operand.tmp 13), type := 49, pos := "law.go:44", after := #[{ on := 13, ground := Go.Ground.guard }], guard := some (13, true) }) (v := undef) rfl (by kernel_rfl) (by kernel_rfl) (by kernel_rfl) (fun _ _ _ h => h) (Or.inr ⟨by rfl, rfl⟩) (by assumption) ?_
          try simp only [Act.put, List.setIfInBounds_toArray, List.set_cons_zero, List.set_cons_succ]
          refine wpAnyH_take (i := 15) (oi := { dst := some 131, op := Go.Op.move (Go.Operand.tmp 0), type := 38, pos := "law.go:44", after := #[{ on := 13, ground := Go.Ground.guard }], guard := some (13, true) }) (v := undef) rfl (by kernel_rfl) (by kernel_rfl) (by kernel_rfl) (fun _ _ _ h => h) (Or.inr ⟨by rfl, rfl⟩) (by assumption) ?_
          try simp only [Act.put, List.setIfInBounds_toArray, List.set_cons_zero, List.set_cons_succ]
          refine wpAnyH_take (i := 16) (oi := { dst := some 132, op := Go.Op.move (Go.Operand.tmp 12), type := 3, pos := "law.go:44", after := #[{ on := 13, ground := Go.Ground.guard }], guard := some (13, true) }) (v := undef) rfl (by kernel_rfl) (by kernel_rfl) (by kernel_rfl) (fun _ _ _ h => h) (Or.inr ⟨by rfl, rfl⟩) (by assumption) ?_
          try simp only [Act.put, List.setIfInBounds_toArray, List.set_cons_zero, List.set_cons_succ]
          refine wpAnyH_take (i := 17) (oi := { dst := some 133, op := Go.Op.indexAddr 38 (Go.Operand.tmp 131) (Go.Operand.tmp 132), type := 0, pos := "law.go:44", after := #[{ on := 15, ground := Go.Ground.data }, { on := 16, ground := Go.Ground.data }, { on := 13, ground := Go.Ground.guard }], guard := some (13, true) }) (v := undef) rfl (by kernel_rfl) (by kernel_rfl) (by kernel_rfl) (fun _ _ _ h => h) (Or.inr ⟨by rfl, rfl⟩) (by assumption) ?_
          try simp only [Act.put, List.setIfInBounds_toArray, List.set_cons_zero, List.set_cons_succ]
          refine wpAnyH_take (i := 18) (oi := { dst := some 134, op := Go.Op.load 49 (Go.Operand.tmp 133), type := 49, pos := "law.go:44", after := #[{ on := 17, ground := Go.Ground.data }, { on := 13, ground := Go.Ground.guard }], guard := some (13, true) }) (v := undef) rfl (by kernel_rfl) (by kernel_rfl) (by kernel_rfl) (fun _ _ _ h => h) (Or.inr ⟨by rfl, rfl⟩) (by assumption) ?_
          try simp only [Act.put, List.setIfInBounds_toArray, List.set_cons_zero, List.set_cons_succ]
          refine wpAnyH_take (i := 19) (oi := { dst := some 135, op := Go.Op.call { callee := Go.Callee.value (Go.Operand.func 28), args := #[Go.Operand.tmp 130, Go.Operand.tmp 134], argTypes := #[49, 49] }, type := 4, pos := "law.go:44", after := #[{ on := 14, ground := Go.Ground.data }, { on := 18, ground := Go.Ground.data }, { on := 13, ground := Go.Ground.chain }, { on := 13, ground := Go.Ground.guard }], guard := some (13, true) }) (v := undef) rfl (by kernel_rfl) (by kernel_rfl) (by kernel_rfl) (fun _ _ _ h => h) (Or.inr ⟨by rfl, rfl⟩) (by assumption) ?_
          try simp only [Act.put, List.setIfInBounds_toArray, List.set_cons_zero, List.set_cons_succ]
          refine wpAnyH_take (i := 20) (oi := { dst := some 136, op := Go.Op.unOp Go.UnOp.not 4 (Go.Operand.tmp 135), type := 4, pos := "law.go:44", after := #[{ on := 19, ground := Go.Ground.data }, { on := 13, ground := Go.Ground.guard }], guard := some (13, true) }) (v := undef) rfl (by kernel_rfl) (by kernel_rfl) (by kernel_rfl) (fun _ _ _ h => h) (Or.inr ⟨by rfl, rfl⟩) (by assumption) ?_
          try simp only [Act.put, List.setIfInBounds_toArray, List.set_cons_zero, List.set_cons_succ]
          refine wpAnyH_take (i := 21) (oi := { dst := some 137, op := Go.Op.pick (Go.Operand.tmp 129) (Go.Operand.tmp 136) (Go.Operand.const (Go.Value.bool false)), type := 4, pos := "law.go:44", after := #[{ on := 13, ground := Go.Ground.data }, { on := 20, ground := Go.Ground.data }, { on := 11, ground := Go.Ground.guard }], guard := some (11, false) }) (v := ?_) rfl (by kernel_rfl) (by kernel_rfl) (by kernel_rfl) (fun _ _ _ h => h) (Or.inl ⟨by rfl, ?_⟩) (by assumption) ?_
          rotate_left
          · (intro w hSw; (try dsimp only at hSw); go_simp; (try (with_reducible rfl)))
          try simp only [Act.put, List.setIfInBounds_toArray, List.set_cons_zero, List.set_cons_succ]
          refine wpAnyH_take (i := 22) (oi := { dst := some 138, op := Go.Op.pick (Go.Operand.tmp 127) (Go.Operand.const (Go.Value.bool true)) (Go.Operand.tmp 137), type := 4, pos := "law.go:44", after := #[{ on := 11, ground := Go.Ground.data }, { on := 21, ground := Go.Ground.data }], guard := none }) (v := ?_) rfl (by kernel_rfl) (by kernel_rfl) (by kernel_rfl) (fun _ _ _ h => h) (Or.inl ⟨by rfl, ?_⟩) (by assumption) ?_
          rotate_left
          · (intro w hSw; (try dsimp only at hSw); go_simp; (try (with_reducible rfl)))
          try simp only [Act.put, List.setIfInBounds_toArray, List.set_cons_zero, List.set_cons_succ]
          refine wpAnyH_done (by kernel_rfl) ?_ _
          have v3 := hG.cell yr3
          have v3l := World.block_lt_of_cell? _ _ v3
          clear hzd hHeld
          go_wp2_with fail
          go_loopw [15] (fun i wr => i = .int .i64 0 ∧ wr = w8) (fun _ _ => 0)
          case atStart => exact ⟨rfl, rfl⟩
          case round =>
            obtain ⟨rfl, rfl⟩ := hrel
            go_wp2_with fail
            have hLn := grLen_any p L _ _ _ hG.drew
            rw [hLl.out] at hLn
            replace hLn := Lib.hid hLn
            have hEd := grEdges_any p L _ _ _ hG.drew
            rw [hEe.out] at hEd
            replace hEd := Lib.hid hEd
            refine wp_region_held_drew (S := (fun w' => w'.cell? ⟨gi, 0, none⟩ = some (.int .i64 r) ∧ w'.cell? ⟨gi, 1, none⟩ = some (.int .i64 s))) (by kernel_rfl) ⟨hG.drew.cell y0c, hG.drew.cell y1c⟩ (fun hHeld => ?_)
            replace hG := hG.drew
            replace hE := hE.drew
            refine wpAnyH_take (i := 0) (oi := { dst := some 151, op := Go.Op.move (Go.Operand.tmp 5), type := 117, pos := "law.go:50", after := #[], guard := none }) (v := ?_) rfl (by kernel_rfl) (by kernel_rfl) (by kernel_rfl) (fun _ _ _ h => h) (Or.inl ⟨by rfl, ?_⟩) (by assumption) ?_
            rotate_left
            · (intro w hSw; (try dsimp only at hSw); go_simp; (try (with_reducible rfl)))
            try simp only [Act.put, List.setIfInBounds_toArray, List.set_cons_zero, List.set_cons_succ]
            refine wpAnyH_take (i := 2) (oi := { dst := some 153, op := Go.Op.move (Go.Operand.tmp 0), type := 38, pos := "law.go:50", after := #[], guard := none }) (v := ?_) rfl (by kernel_rfl) (by kernel_rfl) (by kernel_rfl) (fun _ _ _ h => h) (Or.inl ⟨by rfl, ?_⟩) (by assumption) ?_
            rotate_left
            · (intro w hSw; (try dsimp only at hSw); go_simp; (try (with_reducible rfl)))
            try simp only [Act.put, List.setIfInBounds_toArray, List.set_cons_zero, List.set_cons_succ]
            refine wpAnyH_take (i := 3) (oi := { dst := some 154, op := Go.Op.call { callee := Go.Callee.builtin Go.Builtin.len, args := #[Go.Operand.tmp 153], argTypes := #[38] }, type := 3, pos := "law.go:50", after := #[{ on := 2, ground := Go.Ground.data }], guard := none }) (v := ?_) rfl (by kernel_rfl) (by kernel_rfl) (by kernel_rfl) (fun _ _ _ h => h) (Or.inl ⟨by rfl, ?_⟩) (by assumption) ?_
            rotate_left
            · (intro w hSw; (try dsimp only at hSw); go_simp; (try (with_reducible rfl)))
            try simp only [Act.put, List.setIfInBounds_toArray, List.set_cons_zero, List.set_cons_succ]
            refine wpAnyH_ready (rs := [1]) (by kernel_rfl) (by simp) ?_
            refine AllReadyH.cons (o := { dst := some 152, op := Go.Op.call { callee := Go.Callee.value (Go.Operand.func 83), args := #[Go.Operand.tmp 151], argTypes := #[117] }, type := 3, pos := "law.go:50", after := #[{ on := 0, ground := Go.Ground.data }], guard := none }) rfl (fun K hK => ?_) AllReadyH.nil
            go_simp
            refine hLn.out.mono ?_
            rintro e wq ⟨rfl, rfl⟩
            refine hK.out _ _ hHeld (fun hHeld2 => ?_)
            clear hK K hHeld2
            try simp only [Act.put, List.setIfInBounds_toArray, List.set_cons_zero, List.set_cons_succ]
            refine wpAnyH_take (i := 4) (oi := { dst := some 155, op := Go.Op.binOp Go.BinOp.eql 3 (Go.Operand.tmp 152) (Go.Operand.tmp 154) 3, type := 4, pos := "law.go:50", after := #[{ on := 1, ground := Go.Ground.data }, { on := 3, ground := Go.Ground.data }], guard := none }) (v := ?_) rfl (by kernel_rfl) (by kernel_rfl) (by kernel_rfl) (fun _ _ _ h => h) (Or.inl ⟨by rfl, ?_⟩) (by assumption) ?_
            rotate_left
            · (intro w hSw; (try dsimp only at hSw); go_simp; (try (with_reducible rfl)))
            try simp only [Act.put, List.setIfInBounds_toArray, List.set_cons_zero, List.set_cons_succ]
            refine wpAnyH_take (i := 5) (oi := { dst := some 156, op := Go.Op.move (Go.Operand.tmp 155), type := 4, pos := "law.go:50", after := #[{ on := 4, ground := Go.Ground.data }, { on := 1, ground := Go.Ground.chain }], guard := none }) (v := ?_) rfl (by kernel_rfl) (by kernel_rfl) (by kernel_rfl) (fun _ _ _ h => h) (Or.inl ⟨by rfl, ?_⟩) (by assumption) ?_
            rotate_left
            · (intro w hSw; (try dsimp only at hSw); go_simp; (try (with_reducible rfl)))
            try simp only [Act.put, List.setIfInBounds_toArray, List.set_cons_zero, List.set_cons_succ]
            refine wpAnyH_take (i := 6) (oi := { dst := some 157, op := Go.Op.move (Go.Operand.tmp 5), type := 117, pos := "law.go:50", after := #[{ on := 5, ground := Go.Ground.guard }], guard := some (5, true) }) (v := ?_) rfl (by kernel_rfl) (by kernel_rfl) (by kernel_rfl) (fun _ _ _ h => h) (Or.inl ⟨by rfl, ?_⟩) (by assumption) ?_
            rotate_left
            · (intro w hSw; (try dsimp only at hSw); go_simp; (try (with_reducible rfl)))
            try simp only [Act.put, List.setIfInBounds_toArray, List.set_cons_zero, List.set_cons_succ]
            refine wpAnyH_take (i := 8) (oi := { dst := some 159, op := Go.Op.move (Go.Operand.tmp 10), type := 3, pos := "law.go:50", after := #[{ on := 5, ground := Go.Ground.guard }], guard := some (5, true) }) (v := ?_) rfl (by kernel_rfl) (by kernel_rfl) (by kernel_rfl) (fun _ _ _ h => h) (Or.inl ⟨by rfl, ?_⟩) (by assumption) ?_
            rotate_left
            · (intro w hSw; (try dsimp only at hSw); go_simp; (try (with_reducible rfl)))
            try simp only [Act.put, List.setIfInBounds_toArray, List.set_cons_zero, List.set_cons_succ]
            refine wpAnyH_ready (rs := [7]) (by kernel_rfl) (by simp) ?_
            refine AllReadyH.cons (o := { dst := some 158, op := Go.Op.call { callee := Go.Callee.value (Go.Operand.func 88), args := #[Go.Operand.tmp 157], argTypes := #[117] }, type := 3, pos := "law.go:50", after := #[{ on := 6, ground := Go.Ground.data }, { on := 5, ground := Go.Ground.chain }, { on := 5, ground := Go.Ground.guard }], guard := some (5, true) }) rfl (fun K hK => ?_) AllReadyH.nil
            go_simp
            refine hEd.out.mono ?_
            rintro e wq ⟨rfl, rfl⟩
            refine hK.out _ _ hHeld (fun hHeld2 => ?_)
            clear hK K hHeld2
            try simp only [Act.put, List.setIfInBounds_toArray, List.set_cons_zero, List.set_cons_succ]
            refine wpAnyH_take (i := 9) (oi := { dst := some 160, op := Go.Op.binOp Go.BinOp.eql 3 (Go.Operand.tmp 158) (Go.Operand.tmp 159) 3, type := 4, pos := "law.go:50", after := #[{ on := 7, ground := Go.Ground.data }, { on := 8, ground := Go.Ground.data }, { on := 5, ground := Go.Ground.guard }], guard := some (5, true) }) (v := ?_) rfl (by kernel_rfl) (by kernel_rfl) (by kernel_rfl) (fun _ _ _ h => h) (Or.inl ⟨by rfl, ?_⟩) (by assumption) ?_
            rotate_left
            · (intro w hSw; (try dsimp only at hSw); go_simp; (try (with_reducible rfl)))
            try simp only [Act.put, List.setIfInBounds_toArray, List.set_cons_zero, List.set_cons_succ]
            refine wpAnyH_take (i := 10) (oi := { dst := some 161, op := Go.Op.pick (Go.Operand.tmp 156) (Go.Operand.tmp 160) (Go.Operand.const (Go.Value.bool false)), type := 4, pos := "law.go:50", after := #[{ on := 5, ground := Go.Ground.data }, { on := 9, ground := Go.Ground.data }], guard := none }) (v := ?_) rfl (by kernel_rfl) (by kernel_rfl) (by kernel_rfl) (fun _ _ _ h => h) (Or.inl ⟨by rfl, ?_⟩) (by assumption) ?_
            rotate_left
            · (intro w hSw; (try dsimp only at hSw); go_simp; (try (with_reducible rfl)))
            try simp only [Act.put, List.setIfInBounds_toArray, List.set_cons_zero, List.set_cons_succ]
            refine wpAnyH_take (i := 11) (oi := { dst := some 162, op := Go.Op.move (Go.Operand.tmp 161), type := 4, pos := "law.go:50", after := #[{ on := 10, ground := Go.Ground.data }, { on := 7, ground := Go.Ground.chain }], guard := none }) (v := ?_) rfl (by kernel_rfl) (by kernel_rfl) (by kernel_rfl) (fun _ _ _ h => h) (Or.inl ⟨by rfl, ?_⟩) (by assumption) ?_
            rotate_left
            · (intro w hSw; (try dsimp only at hSw); go_simp; (try (with_reducible rfl)))
            try simp only [Act.put, List.setIfInBounds_toArray, List.set_cons_zero, List.set_cons_succ]
            refine wpAnyH_take (i := 12) (oi := { dst := some 163, op := Go.Op.move (Go.Operand.tmp 5), type := 117, pos := "law.go:50", after := #[{ on := 11, ground := Go.Ground.guard }], guard := some (11, true) }) (v := ?_) rfl (by kernel_rfl) (by kernel_rfl) (by kernel_rfl) (fun _ _ _ h => h) (Or.inl ⟨by rfl, ?_⟩) (by assumption) ?_
            rotate_left
            · (intro w hSw; (try dsimp only at hSw); go_simp; (try (with_reducible rfl)))
            try simp only [Act.put, List.setIfInBounds_toArray, List.set_cons_zero, List.set_cons_succ]
            refine wpAnyH_take (i := 14) (oi := { dst := some 165, op := Go.Op.move (Go.Operand.tmp 0), type := 38, pos := "law.go:50", after := #[{ on := 11, ground := Go.Ground.guard }], guard := some (11, true) }) (v := ?_) rfl (by kernel_rfl) (by kernel_rfl) (by kernel_rfl) (fun _ _ _ h => h) (Or.inl ⟨by rfl, ?_⟩) (by assumption) ?_
            rotate_left
            · (intro w hSw; (try dsimp only at hSw); go_simp; (try (with_reducible rfl)))
            try simp only [Act.put, List.setIfInBounds_toArray, List.set_cons_zero, List.set_cons_succ]
            refine wpAnyH_ready (rs := [13]) (by kernel_rfl) (by simp) ?_
            refine AllReadyH.cons (o := { dst := some 164, op := Go.Op.call { callee := Go.Callee.value (Go.Operand.func 84), args := #[Go.Operand.tmp 163], argTypes := #[117] }, type := 47, pos := "law.go:50", after := #[{ on := 12, ground := Go.Ground.data }, { on := 11, ground := Go.Ground.chain }, { on := 11, ground := Go.Ground.guard }], guard := some (11, true) }) rfl (fun K hK => ?_) AllReadyH.nil
            go_simp
            refine (grIds_any p L _ _ _ hG hLdc (by omega)).mono ?_
            rintro e wI ⟨vI, RI, rfl, hI, enq, hrI, hmI⟩
            replace hE := hE.trans enq
            clear enq
            obtain ⟨Hc2, l2, hG2, hvI⟩ := hI.row_keep
            clear hG hI
            have hG := hG2
            clear hG2
            replace hrdc := hrdc.mono l2
            replace hldc : ∀ x ∈ l, RcD _ x := fun x hm => (hldc x hm).mono l2
            replace hLdc : ∀ x ∈ L, RcD _ x := fun x hm => (hLdc x hm).mono l2
            replace y0c := Hp.cell_le l2 y0c
            replace y1c := Hp.cell_le l2 y1c
            replace lec := Hp.le_trans lec l2
            refine hK.out _ _ ⟨hG.cell y0c, hG.cell y1c⟩ (fun hHeld2 => ?_)
            clear hK K hHeld l2
            have hHeld := hHeld2
            clear hHeld2
            try simp only [Act.put, List.setIfInBounds_toArray, List.set_cons_zero, List.set_cons_succ]
            refine wpAnyH_ready (rs := [15]) (by kernel_rfl) (by simp) ?_
            refine AllReadyH.cons (o := { dst := some 166, op := Go.Op.call { callee := Go.Callee.value (Go.Operand.func 90), args := #[Go.Operand.tmp 165], argTypes := #[38] }, type := 47, pos := "law.go:50", after := #[{ on := 14, ground := Go.Ground.data }, { on := 13, ground := Go.Ground.chain }, { on := 11, ground := Go.Ground.guard }], guard := some (11, true) }) rfl (fun K hK => ?_) AllReadyH.nil
            go_simp
            refine (refGrIds_any _ l _ (hrdc.rw hG) (by omega)).mono ?_
            rintro e wI2 he
            obtain ⟨vI2, rfl, hI2, enq⟩ := ResE.lift hG he
            replace hE := hE.trans enq
            clear enq
            obtain ⟨Hc2, l2, hG2, hvI2⟩ := hI2.row_keep
            clear hG hI2 he
            have hG := hG2
            clear hG2
            replace hrdc := hrdc.mono l2
            replace hldc : ∀ x ∈ l, RcD _ x := fun x hm => (hldc x hm).mono l2
            replace hLdc : ∀ x ∈ L, RcD _ x := fun x hm => (hLdc x hm).mono l2
            replace y0c := Hp.cell_le l2 y0c
            replace y1c := Hp.cell_le l2 y1c
            replace lec := Hp.le_trans lec l2
            replace hvI := hvI.mono l2
            refine hK.out _ _ ⟨hG.cell y0c, hG.cell y1c⟩ (fun hHeld2 => ?_)
            clear hK K hHeld l2
            have hHeld := hHeld2
            clear hHeld2
            try simp only [Act.put, List.setIfInBounds_toArray, List.set_cons_zero, List.set_cons_succ]
            refine wpAnyH_ready (rs := [16]) (by kernel_rfl) (by simp) ?_
            refine AllReadyH.cons (o := { dst := some 167, op := Go.Op.call { callee := Go.Callee.value (Go.Operand.func 53), args := #[Go.Operand.tmp 164, Go.Operand.tmp 166], argTypes := #[47, 47] }, type := 4, pos := "law.go:50", after := #[{ on := 13, ground := Go.Ground.data }, { on := 15, ground := Go.Ground.data }, { on := 15, ground := Go.Ground.chain }, { on := 11, ground := Go.Ground.guard }], guard := some (11, true) }) rfl (fun K hK => ?_) AllReadyH.nil
            have hS := sameIds_any vI vI2 RI (sortL (rids l)) _ (hvI.rw hG) (hvI2.rw hG)
            rw [decide_eq_true (told_ids hrI hmI hLm.out)] at hS
            replace hS := Lib.hid hS
            clear hvI hvI2 hrI hmI
            go_simp
            refine hS.out.mono ?_
            rintro e ws1 ⟨rfl, hbs1⟩
            replace hG := hG.below hbs1
            replace hE := hE.trans (bel_env hbs1)
            refine hK.out _ _ ⟨hG.cell y0c, hG.cell y1c⟩ (fun hHeld2 => ?_)
            clear hK K hHeld hS
            have hHeld := hHeld2
            clear hHeld2
            try simp only [Act.put, List.setIfInBounds_toArray, List.set_cons_zero, List.set_cons_succ]
            refine wpAnyH_take (i := 17) (oi := { dst := some 168, op := Go.Op.pick (Go.Operand.tmp 162) (Go.Operand.tmp 167) (Go.Operand.const (Go.Value.bool false)), type := 4, pos := "law.go:50", after := #[{ on := 11, ground := Go.Ground.data }, { on := 16, ground := Go.Ground.data }], guard := none }) (v := ?_) rfl (by kernel_rfl) (by kernel_rfl) (by kernel_rfl) (fun _ _ _ h => h) (Or.inl ⟨by rfl, ?_⟩) (by assumption) ?_
            rotate_left
            · (intro w hSw; (try dsimp only at hSw); go_simp; (try (with_reducible rfl)))
            try simp only [Act.put, List.setIfInBounds_toArray, List.set_cons_zero, List.set_cons_succ]
            refine wpAnyH_take (i := 18) (oi := { dst := some 169, op := Go.Op.move (Go.Operand.tmp 168), type := 4, pos := "law.go:50", after := #[{ on := 17, ground := Go.Ground.data }, { on := 16, ground := Go.Ground.chain }], guard := none }) (v := ?_) rfl (by kernel_rfl) (by kernel_rfl) (by kernel_rfl) (fun _ _ _ h => h) (Or.inl ⟨by rfl, ?_⟩) (by assumption) ?_
            rotate_left
            · (intro w hSw; (try dsimp only at hSw); go_simp; (try (with_reducible rfl)))
            try simp only [Act.put, List.setIfInBounds_toArray, List.set_cons_zero, List.set_cons_succ]
            refine wpAnyH_take (i := 19) (oi := { dst := some 170, op := Go.Op.move (Go.Operand.tmp 5), type := 117, pos := "law.go:50", after := #[{ on := 18, ground := Go.Ground.guard }], guard := some (18, true) }) (v := ?_) rfl (by kernel_rfl) (by kernel_rfl) (by kernel_rfl) (fun _ _ _ h => h) (Or.inl ⟨by rfl, ?_⟩) (by assumption) ?_
            rotate_left
            · (intro w hSw; (try dsimp only at hSw); go_simp; (try (with_reducible rfl)))
            try simp only [Act.put, List.setIfInBounds_toArray, List.set_cons_zero, List.set_cons_succ]
            refine wpAnyH_take (i := 21) (oi := { dst := some 172, op := Go.Op.move (Go.Operand.tmp 0), type := 38, pos := "law.go:50", after := #[{ on := 18, ground := Go.Ground.guard }], guard := some (18, true) }) (v := ?_) rfl (by kernel_rfl) (by kernel_rfl) (by kernel_rfl) (fun _ _ _ h => h) (Or.inl ⟨by rfl, ?_⟩) (by assumption) ?_
            rotate_left
            · (intro w hSw; (try dsimp only at hSw); go_simp; (try (with_reducible rfl)))
            try simp only [Act.put, List.setIfInBounds_toArray, List.set_cons_zero, List.set_cons_succ]
            refine wpAnyH_ready (rs := [20]) (by kernel_rfl) (by simp) ?_
            refine AllReadyH.cons (o := { dst := some 171, op := Go.Op.call { callee := Go.Callee.value (Go.Operand.func 86), args := #[Go.Operand.tmp 170], argTypes := #[117] }, type := 47, pos := "law.go:50", after := #[{ on := 19, ground := Go.Ground.data }, { on := 18, ground := Go.Ground.chain }, { on := 18, ground := Go.Ground.guard }], guard := some (18, true) }) rfl (fun K hK => ?_) AllReadyH.nil
            go_simp
            refine (grMissing_any p L _ _ _ hG hLdc (fun x hm => (hL16 x hm).1) (by omega)).mono ?_
            rintro e wM ⟨vM, RM, rfl, hM, enq, hrM, hmM⟩
            replace hE := hE.trans enq
            clear enq
            obtain ⟨Hc2, l2, hG2, hvM⟩ := hM.row_keep
            clear hG hM
            have hG := hG2
            clear hG2
            replace hrdc := hrdc.mono l2
            replace hldc : ∀ x ∈ l, RcD _ x := fun x hm => (hldc x hm).mono l2
            replace hLdc : ∀ x ∈ L, RcD _ x := fun x hm => (hLdc x hm).mono l2
            replace y0c := Hp.cell_le l2 y0c
            replace y1c := Hp.cell_le l2 y1c
            replace lec := Hp.le_trans lec l2
            refine hK.out _ _ ⟨hG.cell y0c, hG.cell y1c⟩ (fun hHeld2 => ?_)
            clear hK K hHeld l2
            have hHeld := hHeld2
            clear hHeld2
            try simp only [Act.put, List.setIfInBounds_toArray, List.set_cons_zero, List.set_cons_succ]
            refine wpAnyH_ready (rs := [22]) (by kernel_rfl) (by simp) ?_
            refine AllReadyH.cons (o := { dst := some 173, op := Go.Op.call { callee := Go.Callee.value (Go.Operand.func 91), args := #[Go.Operand.tmp 172], argTypes := #[38] }, type := 47, pos := "law.go:50", after := #[{ on := 21, ground := Go.Ground.data }, { on := 20, ground := Go.Ground.chain }, { on := 18, ground := Go.Ground.guard }], guard := some (18, true) }) rfl (fun K hK => ?_) AllReadyH.nil
            go_simp
            refine (refMissing_any _ l _ (hrdc.rw hG) (fun x hm => (hldc x hm).rw hG) (fun x hm => (hl16 x hm).1) (by omega)).mono ?_
            rintro e wM2 he
            obtain ⟨vM2, rfl, hM2, enq⟩ := ResE.lift hG he
            replace hE := hE.trans enq
            clear enq
            obtain ⟨Hc2, l2, hG2, hvM2⟩ := hM2.row_keep
            clear hG hM2 he
            have hG := hG2
            clear hG2
            replace hrdc := hrdc.mono l2
            replace hldc : ∀ x ∈ l, RcD _ x := fun x hm => (hldc x hm).mono l2
            replace hLdc : ∀ x ∈ L, RcD _ x := fun x hm => (hLdc x hm).mono l2
            replace y0c := Hp.cell_le l2 y0c
            replace y1c := Hp.cell_le l2 y1c
            replace lec := Hp.le_trans lec l2
            replace hvM := hvM.mono l2
            refine hK.out _ _ ⟨hG.cell y0c, hG.cell y1c⟩ (fun hHeld2 => ?_)
            clear hK K hHeld l2
            have hHeld := hHeld2
            clear hHeld2
            try simp only [Act.put, List.setIfInBounds_toArray, List.set_cons_zero, List.set_cons_succ]
            refine wpAnyH_ready (rs := [23]) (by kernel_rfl) (by simp) ?_
            refine AllReadyH.cons (o := { dst := some 174, op := Go.Op.call { callee := Go.Callee.value (Go.Operand.func 53), args := #[Go.Operand.tmp 171, Go.Operand.tmp 173], argTypes := #[47, 47] }, type := 4, pos := "law.go:50", after := #[{ on := 20, ground := Go.Ground.data }, { on := 22, ground := Go.Ground.data }, { on := 22, ground := Go.Ground.chain }, { on := 18, ground := Go.Ground.guard }], guard := some (18, true) }) rfl (fun K hK => ?_) AllReadyH.nil
            have hS := sameIds_any vM vM2 RM (sortL (mis (rids l) l)) _ (hvM.rw hG) (hvM2.rw hG)
            rw [decide_eq_true (told_mis hrM hmM hLm.out)] at hS
            replace hS := Lib.hid hS
            clear hvM hvM2 hrM hmM
            go_simp
            refine hS.out.mono ?_
            rintro e ws2 ⟨rfl, hbs2⟩
            replace hG := hG.below hbs2
            replace hE := hE.trans (bel_env hbs2)
            refine hK.out _ _ ⟨hG.cell y0c, hG.cell y1c⟩ (fun hHeld2 => ?_)
            clear hK K hHeld hS
            have hHeld := hHeld2
            clear hHeld2
            try simp only [Act.put, List.setIfInBounds_toArray, List.set_cons_zero, List.set_cons_succ]
            refine wpAnyH_take (i := 24) (oi := { dst := some 175, op := Go.Op.pick (Go.Operand.tmp 169) (Go.Operand.tmp 174) (Go.Operand.const (Go.Value.bool false)), type := 4, pos := "law.go:50", after := #[{ on := 18, ground := Go.Ground.data }, { on := 23, ground := Go.Ground.data }], guard := none }) (v := ?_) rfl (by kernel_rfl) (by kernel_rfl) (by kernel_rfl) (fun _ _ _ h => h) (Or.inl ⟨by rfl, ?_⟩) (by assumption) ?_
            rotate_left
            · (intro w hSw; (try dsimp only at hSw); go_simp; (try (with_reducible rfl)))
            try simp only [Act.put, List.setIfInBounds_toArray, List.set_cons_zero, List.set_cons_succ]
            refine wpAnyH_take (i := 25) (oi := { dst := some 176, op := Go.Op.move (Go.Operand.tmp 175), type := 4, pos := "law.go:50", after := #[{ on := 24, ground := Go.Ground.data }, { on := 23, ground := Go.Ground.chain }], guard := none }) (v := ?_) rfl (by kernel_rfl) (by kernel_rfl) (by kernel_rfl) (fun _ _ _ h => h) (Or.inl ⟨by rfl, ?_⟩) (by assumption) ?_
            rotate_left
            · (intro w hSw; (try dsimp only at hSw); go_simp; (try (with_reducible rfl)))
            try simp only [Act.put, List.setIfInBounds_toArray, List.set_cons_zero, List.set_cons_succ]
            refine wpAnyH_take (i := 26) (oi := { dst := some 177, op := Go.Op.move (Go.Operand.tmp 5), type := 117, pos := "law.go:50", after := #[{ on := 25, ground := Go.Ground.guard }], guard := some (25, true) }) (v := ?_) rfl (by kernel_rfl) (by kernel_rfl) (by kernel_rfl) (fun _ _ _ h => h) (Or.inl ⟨by rfl, ?_⟩) (by assumption) ?_
            rotate_left
            · (intro w hSw; (try dsimp only at hSw); go_simp; (try (with_reducible rfl)))
            try simp only [Act.put, List.setIfInBounds_toArray, List.set_cons_zero, List.set_cons_succ]
            refine wpAnyH_take (i := 27) (oi := { dst := some 178, op := Go.Op.load 42 (Go.Operand.tmp 3), type := 42, pos := "law.go:50", after := #[{ on := 25, ground := Go.Ground.guard }], guard := some (25, true) }) (v := ?_) rfl (by kernel_rfl) (by kernel_rfl) (by kernel_rfl) (fun _ _ _ h => h) (Or.inl ⟨by rfl, ?_⟩) (by assumption) ?_
            rotate_left
            · (intro w hSw; (try dsimp only at hSw); go_simp; (try (with_reducible rfl)))
            try simp only [Act.put, List.setIfInBounds_toArray, List.set_cons_zero, List.set_cons_succ]
            refine wpAnyH_take (i := 29) (oi := { dst := some 180, op := Go.Op.move (Go.Operand.tmp 0), type := 38, pos := "law.go:50", after := #[{ on := 25, ground := Go.Ground.guard }], guard := some (25, true) }) (v := ?_) rfl (by kernel_rfl) (by kernel_rfl) (by kernel_rfl) (fun _ _ _ h => h) (Or.inl ⟨by rfl, ?_⟩) (by assumption) ?_
            rotate_left
            · (intro w hSw; (try dsimp only at hSw); go_simp; (try (with_reducible rfl)))
            try simp only [Act.put, List.setIfInBounds_toArray, List.set_cons_zero, List.set_cons_succ]
            refine wpAnyH_take (i := 30) (oi := { dst := some 181, op := Go.Op.load 42 (Go.Operand.tmp 3), type := 42, pos := "law.go:50", after := #[{ on := 25, ground := Go.Ground.guard }], guard := some (25, true) }) (v := ?_) rfl (by kernel_rfl) (by kernel_rfl) (by kernel_rfl) (fun _ _ _ h => h) (Or.inl ⟨by rfl, ?_⟩) (by assumption) ?_
            rotate_left
            · (intro w hSw; (try dsimp only at hSw); go_simp; (try (with_reducible rfl)))
            try simp only [Act.put, List.setIfInBounds_toArray, List.set_cons_zero, List.set_cons_succ]
            refine wpAnyH_ready (rs := [28]) (by kernel_rfl) (by simp) ?_
            refine AllReadyH.cons (o := { dst := some 179, op := Go.Op.call { callee := Go.Callee.value (Go.Operand.func 87), args := #[Go.Operand.tmp 177, Go.Operand.tmp 178], argTypes := #[117, 42] }, type := 47, pos := "law.go:50", after := #[{ on := 26, ground := Go.Ground.data }, { on := 27, ground := Go.Ground.data }, { on := 25, ground := Go.Ground.chain }, { on := 25, ground := Go.Ground.guard }], guard := some (25, true) }) rfl (fun K hK => ?_) AllReadyH.nil
            go_simp
            refine (grUsers_any p L (r, s) _ _ _ hG hLdc (by omega)).mono ?_
            rintro e wU ⟨vU, RU, rfl, hU, enq, hrU, hmU⟩
            replace hE := hE.trans enq
            clear enq
            obtain ⟨Hc2, l2, hG2, hvU⟩ := hU.row_keep
            clear hG hU
            have hG := hG2
            clear hG2
            replace hrdc := hrdc.mono l2
            replace hldc : ∀ x ∈ l, RcD _ x := fun x hm => (hldc x hm).mono l2
            replace hLdc : ∀ x ∈ L, RcD _ x := fun x hm => (hLdc x hm).mono l2
            replace y0c := Hp.cell_le l2 y0c
            replace y1c := Hp.cell_le l2 y1c
            replace lec := Hp.le_trans lec l2
            refine hK.out _ _ ⟨hG.cell y0c, hG.cell y1c⟩ (fun hHeld2 => ?_)
            clear hK K hHeld l2
            have hHeld := hHeld2
            clear hHeld2
            try simp only [Act.put, List.setIfInBounds_toArray, List.set_cons_zero, List.set_cons_succ]
            refine wpAnyH_ready (rs := [31]) (by kernel_rfl) (by simp) ?_
            refine AllReadyH.cons (o := { dst := some 182, op := Go.Op.call { callee := Go.Callee.value (Go.Operand.func 92), args := #[Go.Operand.tmp 180, Go.Operand.tmp 181], argTypes := #[38, 42] }, type := 47, pos := "law.go:50", after := #[{ on := 29, ground := Go.Ground.data }, { on := 30, ground := Go.Ground.data }, { on := 28, ground := Go.Ground.chain }, { on := 25, ground := Go.Ground.guard }], guard := some (25, true) }) rfl (fun K hK => ?_) AllReadyH.nil
            go_simp
            refine (refUsers_any _ l (r, s) _ (hrdc.rw hG) (fun x hm => (hldc x hm).rw hG) (by omega)).mono ?_
            rintro e wU2 he
            obtain ⟨vU2, rfl, hU2, enq⟩ := ResE.lift hG he
            replace hE := hE.trans enq
            clear enq
            obtain ⟨Hc2, l2, hG2, hvU2⟩ := hU2.row_keep
            clear hG hU2 he
            have hG := hG2
            clear hG2
            replace hrdc := hrdc.mono l2
            replace hldc : ∀ x ∈ l, RcD _ x := fun x hm => (hldc x hm).mono l2
            replace hLdc : ∀ x ∈ L, RcD _ x := fun x hm => (hLdc x hm).mono l2
            replace y0c := Hp.cell_le l2 y0c
            replace y1c := Hp.cell_le l2 y1c
            replace lec := Hp.le_trans lec l2
            replace hvU := hvU.mono l2
            refine hK.out _ _ ⟨hG.cell y0c, hG.cell y1c⟩ (fun hHeld2 => ?_)
            clear hK K hHeld l2
            have hHeld := hHeld2
            clear hHeld2
            try simp only [Act.put, List.setIfInBounds_toArray, List.set_cons_zero, List.set_cons_succ]
            refine wpAnyH_ready (rs := [32]) (by kernel_rfl) (by simp) ?_
            refine AllReadyH.cons (o := { dst := some 183, op := Go.Op.call { callee := Go.Callee.value (Go.Operand.func 53), args := #[Go.Operand.tmp 179, Go.Operand.tmp 182], argTypes := #[47, 47] }, type := 4, pos := "law.go:50", after := #[{ on := 28, ground := Go.Ground.data }, { on := 31, ground := Go.Ground.data }, { on := 31, ground := Go.Ground.chain }, { on := 25, ground := Go.Ground.guard }], guard := some (25, true) }) rfl (fun K hK => ?_) AllReadyH.nil
            have hS := sameIds_any vU vU2 RU (sortL (usr (r, s) l)) _ (hvU.rw hG) (hvU2.rw hG)
            rw [decide_eq_true (told_usr hrU hmU hLm.out)] at hS
            replace hS := Lib.hid hS
            clear hvU hvU2 hrU hmU
            go_simp
            refine hS.out.mono ?_
            rintro e ws3 ⟨rfl, hbs3⟩
            replace hG := hG.below hbs3
            replace hE := hE.trans (bel_env hbs3)
            refine hK.out _ _ ⟨hG.cell y0c, hG.cell y1c⟩ (fun hHeld2 => ?_)
            clear hK K hHeld hS
            have hHeld := hHeld2
            clear hHeld2
            try simp only [Act.put, List.setIfInBounds_toArray, List.set_cons_zero, List.set_cons_succ]
            refine wpAnyH_take (i := 33) (oi := { dst := some 184, op := Go.Op.pick (Go.Operand.tmp 176) (Go.Operand.tmp 183) (Go.Operand.const (Go.Value.bool false)), type := 4, pos := "law.go:50", after := #[{ on := 25, ground := Go.Ground.data }, { on := 32, ground := Go.Ground.data }], guard := none }) (v := ?_) rfl (by kernel_rfl) (by kernel_rfl) (by kernel_rfl) (fun _ _ _ h => h) (Or.inl ⟨by rfl, ?_⟩) (by assumption) ?_
            rotate_left
            · (intro w hSw; (try dsimp only at hSw); go_simp; (try (with_reducible rfl)))
            try simp only [Act.put, List.setIfInBounds_toArray, List.set_cons_zero, List.set_cons_succ]
            refine wpAnyH_take (i := 34) (oi := { dst := some 185, op := Go.Op.move (Go.Operand.tmp 184), type := 4, pos := "law.go:50", after := #[{ on := 33, ground := Go.Ground.data }, { on := 32, ground := Go.Ground.chain }], guard := none }) (v := ?_) rfl (by kernel_rfl) (by kernel_rfl) (by kernel_rfl) (fun _ _ _ h => h) (Or.inl ⟨by rfl, ?_⟩) (by assumption) ?_
            rotate_left
            · (intro w hSw; (try dsimp only at hSw); go_simp; (try (with_reducible rfl)))
            try simp only [Act.put, List.setIfInBounds_toArray, List.set_cons_zero, List.set_cons_succ]
            refine wpAnyH_ready (rs := [35]) (by kernel_rfl) (by simp) ?_
            refine AllReadyH.cons (o := { dst := some 186, op := Go.Op.call { callee := Go.Callee.value (Go.Operand.func 79), args := #[], argTypes := #[] }, type := 4, pos := "law.go:50", after := #[{ on := 34, ground := Go.Ground.chain }, { on := 34, ground := Go.Ground.guard }], guard := some (34, true) }) rfl (fun K hK => ?_) AllReadyH.nil
            go_simp
            refine (works15 _).mono ?_
            rintro e wz ⟨rfl, hbz⟩
            replace hG := hG.below hbz
            replace hE := hE.trans (bel_env hbz)
            refine hK.out _ _ ⟨hG.cell y0c, hG.cell y1c⟩ (fun hHeld2 => ?_)
            clear hK K hHeld
            try simp only [Act.put, List.setIfInBounds_toArray, List.set_cons_zero, List.set_cons_succ]
            refine wpAnyH_take (i := 36) (oi := { dst := some 187, op := Go.Op.pick (Go.Operand.tmp 185) (Go.Operand.tmp 186) (Go.Operand.const (Go.Value.bool false)), type := 4, pos := "law.go:50", after := #[{ on := 34, ground := Go.Ground.data }, { on := 35, ground := Go.Ground.data }], guard := none }) (v := ?_) rfl (by kernel_rfl) (by kernel_rfl) (by kernel_rfl) (fun _ _ _ h => h) (Or.inl ⟨by rfl, ?_⟩) (by assumption) ?_
            rotate_left
            · (intro w hSw; (try dsimp only at hSw); go_simp; (try (with_reducible rfl)))
            try simp only [Act.put, List.setIfInBounds_toArray, List.set_cons_zero, List.set_cons_succ]
            refine wpAnyH_take (i := 37) (oi := { dst := some 4, op := Go.Op.assign (Go.Operand.tmp 187), type := 4, pos := "law.go:50", after := #[{ on := 36, ground := Go.Ground.data }, { on := 35, ground := Go.Ground.chain }, { on := 0, ground := Go.Ground.phase }, { on := 1, ground := Go.Ground.phase }, { on := 2, ground := Go.Ground.phase }, { on := 3, ground := Go.Ground.phase }, { on := 4, ground := Go.Ground.phase }, { on := 5, ground := Go.Ground.phase }, { on := 6, ground := Go.Ground.phase }, { on := 7, ground := Go.Ground.phase }, { on := 8, ground := Go.Ground.phase }, { on := 9, ground := Go.Ground.phase }, { on := 10, ground := Go.Ground.phase }, { on := 11, ground := Go.Ground.phase }, { on := 12, ground := Go.Ground.phase }, { on := 13, ground := Go.Ground.phase }, { on := 14, ground := Go.Ground.phase }, { on := 15, ground := Go.Ground.phase }, { on := 16, ground := Go.Ground.phase }, { on := 17, ground := Go.Ground.phase }, { on := 18, ground := Go.Ground.phase }, { on := 19, ground := Go.Ground.phase }, { on := 20, ground := Go.Ground.phase }, { on := 21, ground := Go.Ground.phase }, { on := 22, ground := Go.Ground.phase }, { on := 23, ground := Go.Ground.phase }, { on := 24, ground := Go.Ground.phase }, { on := 25, ground := Go.Ground.phase }, { on := 26, ground := Go.Ground.phase }, { on := 27, ground := Go.Ground.phase }, { on := 28, ground := Go.Ground.phase }, { on := 29, ground := Go.Ground.phase }, { on := 30, ground := Go.Ground.phase }, { on := 31, ground := Go.Ground.phase }, { on := 32, ground := Go.Ground.phase }, { on := 33, ground := Go.Ground.phase }, { on := 34, ground := Go.Ground.phase }, { on := 35, ground := Go.Ground.phase }, { on := 36, ground := Go.Ground.phase }], guard := none }) (v := ?_) rfl (by kernel_rfl) (by kernel_rfl) (by kernel_rfl) (fun _ _ _ h => h) (Or.inl ⟨by rfl, ?_⟩) (by assumption) ?_
            rotate_left
            · (intro w hSw; (try dsimp only at hSw); go_simp; (try (with_reducible rfl)))
            try simp only [Act.put, List.setIfInBounds_toArray, List.set_cons_zero, List.set_cons_succ]
            refine wpAnyH_done (by kernel_rfl) ?_ _
            go_wp2_with fail
            go_ret
            exact ⟨rfl, (hG.weaken (Hp.le_trans l1.out (Hp.le_trans hle1 lec))).toBelow hE⟩
end Go.Proofs.Ytmdmekdmlkhchaa
