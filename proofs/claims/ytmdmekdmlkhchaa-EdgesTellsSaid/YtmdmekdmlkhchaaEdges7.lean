/- Graphs: the reference's Ids, Users, Missing. -/
import Derived.Test.YtmdmekdmlkhchaaEdges6
set_option linter.unusedVariables false
set_option linter.unusedSimpArgs false
namespace Go.Proofs.Ytmdmekdmlkhchaa
open Go.RowKit Go.Cw Go.Fl
attribute [local go_sem ↓] eql_id neq_id
theorem sortL_push (M : List Id) (x : Id) : sortL (M ++ [x]) = putL x (sortL M) := by unfold sortL; rw [List.foldl_append]; rfl
set_option maxRecDepth 100000 in
set_option maxHeartbeats 1600000 in
theorem refGrIds_any (u : Value) (l : List Rc) (w : World) (hx : Rw w 5 u (recs l)) (hlen : l.length ≤ 1000000) :
    Calls Try.prog 90 #[u] w (ResE (snap w) [] w (fun v => v) (fun v => [Row 42 2 v (idl (sortL (rids l)))])) := by
  obtain ⟨A, n, c, rfl, hn, hnc, hc⟩ := hx.form
  rw [recs_len] at hn
  obtain rfl : n = l.length := by omega
  clear hn
  have h1 := (St.start w).row_lit 42 2 0 #[] rfl (by decide)
  have en1 := (Env.refl w).alloc (.cells #[] 42)
  have hrd := hx.rd
  go_enter Try.func90, Try.ntmps90
  go_wp2_with fail
  go_loopw [3, 4] (fun lv i wr => ∃ k : Nat, k ≤ l.length ∧ i = .int .i64 k ∧ St (snap w) [Row 42 2 lv (idl (sortL (rids (l.take k))))] wr ∧ Env w wr) (fun _ i _ => l.length - (intOf i).toNat)
  case atStart => exact ⟨0, Nat.zero_le _, rfl, h1, en1⟩
  case round =>
    clear h1 en1
    obtain ⟨k, hk, rfl, hst, hen⟩ := hrel
    by_cases hlt : k < l.length
    · have htk : rids (l.take (k + 1)) = rids (l.take k) ++ [l[k].1] := by unfold rids; rw [List.take_add_one, List.getElem?_eq_getElem hlt, List.map_append]; rfl
      have hsl : (sortL (rids (l.take k))).length ≤ k := by
        have := sortL_len (rids (l.take k))
        have h2 : (rids (l.take k)).length ≤ k := by rw [List.length_map, List.length_take]; omega
        omega
      obtain ⟨b, off, hA, hcr⟩ := (hrd.rw hst).cells (by omega)
      cases hA
      obtain ⟨p0, p1, -, -, -⟩ := recs_get l k hlt
      replace p0 := hcr _ _ p0
      replace p1 := hcr _ _ p1
      rw [← Nat.add_assoc] at p1
      clear hcr
      have pl := World.block_lt_of_cell? _ _ p0
      generalize l[k].1 = x at *
      obtain ⟨x0, x1⟩ := x
      have HN : Hid (putL (x0, x1) (sortL (rids (l.take k))) = sortL (rids (l.take (k + 1)))) := Lib.hid (by rw [htk, sortL_push])
      clear htk
      go_wp2_with fail
      refine (put_own _ _ (x0, x1) _ _ _ hst (by omega)).mono ?_
      rintro e w3 ⟨v', rfl, h3, en3⟩
      rw [HN.out] at h3
      go_wp2_with fail
      go_roundw
      case rel => exact ⟨k + 1, by omega, by go_num, h3, hen.trans en3⟩
      case measure => simp [intOf]; omega
    · obtain rfl : k = l.length := by omega
      rw [List.take_length] at hst
      go_wp2_with fail
      go_ret
      exact ⟨_, rfl, hst, hen⟩
/-- Who depends on one. -/
def usr (a : Id) (l : List Rc) : List Id := (l.filter (fun x => decide (a ∈ x.2.2.2.2.1))).map (·.1)
theorem usr_step (a : Id) (l : List Rc) (k : Nat) (h : k < l.length) : usr a (l.take (k + 1)) = if a ∈ l[k].2.2.2.2.1 then usr a (l.take k) ++ [l[k].1] else usr a (l.take k) := by
  unfold usr
  rw [List.take_add_one, List.getElem?_eq_getElem h, List.filter_append, List.map_append]
  by_cases hm : a ∈ l[k].2.2.2.2.1 <;> simp [hm]
theorem usr_len (a : Id) (l : List Rc) : (usr a l).length ≤ l.length := by
  unfold usr
  rw [List.length_map]
  exact List.length_filter_le ..
set_option maxRecDepth 100000 in
set_option maxHeartbeats 1600000 in
theorem refUsers_any (u : Value) (l : List Rc) (a : Id) (w : World) (hx : Rw w 5 u (recs l)) (hl : ∀ x ∈ l, RcR w x) (hlen : l.length ≤ 1000000) :
    Calls Try.prog 92 #[u, idV a] w (ResE (snap w) [] w (fun v => v) (fun v => [Row 42 2 v (idl (sortL (usr a l)))])) := by
  obtain ⟨A, n, c, rfl, hn, hnc, hc⟩ := hx.form
  rw [recs_len] at hn
  obtain rfl : n = l.length := by omega
  clear hn
  obtain ⟨r, s⟩ := a
  obtain ⟨H1, l1, h1, y⟩ := (St.start w).box #[.int .i64 r, .int .i64 s] 42
  have y0 := y 0 _ rfl
  have y1 := y 1 _ rfl
  clear y
  have h2 := h1.row_lit 42 2 0 #[] rfl (by decide)
  have e1 : (w.alloc (.cells #[.int .i64 r, .int .i64 s] 42)).heap.size = w.heap.size + 1 := by simp
  rw [e1] at h2
  have en2 := ((Env.refl w).alloc (.cells #[.int .i64 r, .int .i64 s] 42)).alloc (.cells #[] 42)
  have hrd := hx.rd.mono l1
  have hld : ∀ x ∈ l, RcD H1 x := fun x hm => ⟨(hl x hm).d.rd.mono l1, (hl x hm).b.rd.mono l1, (hl x hm).ok⟩
  clear hx hl h1 e1
  go_enter Try.func92, Try.ntmps92
  go_wp2_with fail
  go_loopw [5, 6] (fun lv i wr => ∃ k : Nat, k ≤ l.length ∧ i = .int .i64 k ∧ St H1 [Row 42 2 lv (idl (sortL (usr (r, s) (l.take k))))] wr ∧ Env w wr) (fun _ i _ => l.length - (intOf i).toNat)
  case atStart => exact ⟨0, Nat.zero_le _, rfl, h2, en2⟩
  case round =>
    clear h2 en2
    obtain ⟨k, hk, rfl, hst, hen⟩ := hrel
    by_cases hlt : k < l.length
    · have hus := usr_step (r, s) l k hlt
      have hsl : (sortL (usr (r, s) (l.take k))).length ≤ k := by
        have := sortL_len (usr (r, s) (l.take k))
        have h2 := usr_len (r, s) (l.take k)
        rw [List.length_take] at h2
        omega
      obtain ⟨b, off, hA, hcr⟩ := (hrd.rw hst).cells (by omega)
      cases hA
      obtain ⟨p0, p1, -, p3, -⟩ := recs_get l k hlt
      replace p0 := hcr _ _ p0
      replace p1 := hcr _ _ p1
      replace p3 := hcr _ _ p3
      rw [← Nat.add_assoc] at p1 p3
      clear hcr
      have hxd := hld l[k] (List.getElem_mem hlt)
      generalize l[k] = x at *
      obtain ⟨⟨x0, x1⟩, x2, dv, bv, D, Bt⟩ := x
      obtain ⟨d1, d2, d3, hdv, _⟩ := hxd.d.form
      simp only at hdv p0 p1 p3 hus
      subst hdv
      have pl := World.block_lt_of_cell? _ _ p0
      have v0 := hst.cell y0
      have v1 := hst.cell y1
      have vl := World.block_lt_of_cell? _ _ v0
      have hH := hasIds_any _ D (r, s) _ (hxd.d.rw hst.drew)
      by_cases hm : ((r, s) : Id) ∈ D
      · rw [decide_eq_true hm] at hH
        rw [if_pos hm] at hus
        have HN : Hid (putL (x0, x1) (sortL (usr (r, s) (l.take k))) = sortL (usr (r, s) (l.take (k + 1)))) := Lib.hid (by rw [hus, sortL_push])
        replace hH := Lib.hid hH
        clear hm hus
        go_wp2_with fail
        go_still_tail 6, (by kernel_rfl)
        change wpList _ _ _ _ _ wr.drew
        go_wp2_with fail
        refine hH.out.mono ?_
        rintro e w3 ⟨rfl, hb3⟩
        have h3 := hst.drew.below hb3
        have en3 := hen.drew.trans (bel_env hb3)
        have q0 := (hb3.cell (p := ⟨b, off + k * 5, none⟩) pl).trans p0
        have q1 := (hb3.cell (p := ⟨b, off + k * 5 + 1, none⟩) pl).trans p1
        have ql := World.block_lt_of_cell? _ _ q0
        clear p0 p1 p3 pl v0 v1 vl
        go_wp2_with fail
        refine (put_own _ _ (x0, x1) _ _ _ h3 (by omega)).mono ?_
        rintro e w4 ⟨v', rfl, h4, en4⟩
        rw [HN.out] at h4
        go_wp2_with fail
        go_roundw
        case rel => exact ⟨k + 1, by omega, by go_num, h4, en3.trans en4⟩
        case measure => simp [intOf]; omega
      · rw [decide_eq_false hm] at hH
        rw [if_neg hm] at hus
        replace hus := Lib.hid hus
        replace hH := Lib.hid hH
        clear hm
        go_wp2_with fail
        go_still_tail 6, (by kernel_rfl)
        change wpList _ _ _ _ _ wr.drew
        go_wp2_with fail
        refine hH.out.mono ?_
        rintro e w3 ⟨rfl, hb3⟩
        go_wp2_with fail
        go_roundw
        case rel => exact ⟨k + 1, by omega, by go_num, by rw [hus.out]; exact hst.drew.below hb3, hen.drew.trans (bel_env hb3)⟩
        case measure => simp [intOf]; omega
    · obtain rfl : k = l.length := by omega
      rw [List.take_length] at hst
      go_wp2_with fail
      go_ret
      exact ⟨_, rfl, hst.weaken l1, hen⟩
/-- What is missing. -/
def mis (K : List Id) (l : List Rc) : List Id := l.flatMap (fun x => x.2.2.2.2.1.filter (fun d => decide (d ∉ K)))
theorem mis_step (K : List Id) (l : List Rc) (k : Nat) (h : k < l.length) : mis K (l.take (k + 1)) = mis K (l.take k) ++ l[k].2.2.2.2.1.filter (fun d => decide (d ∉ K)) := by
  unfold mis
  rw [List.take_add_one, List.getElem?_eq_getElem h, List.flatMap_append]
  simp
theorem mis_len (K : List Id) (l : List Rc) (h : ∀ x ∈ l, x.2.2.2.2.1.length ≤ 16) : (mis K l).length ≤ 16 * l.length := flat_le _ l (fun x hx => Nat.le_trans (List.length_filter_le ..) (h x hx))
set_option maxRecDepth 100000 in
set_option maxHeartbeats 3200000 in
theorem refMissing_any (u : Value) (l : List Rc) (w : World) (hx : Rw w 5 u (recs l)) (hl : ∀ x ∈ l, RcR w x) (hl16 : ∀ x ∈ l, x.2.2.2.2.1.length ≤ 16) (hlen : l.length ≤ 1000000) :
    Calls Try.prog 91 #[u] w (ResE (snap w) [] w (fun v => v) (fun v => [Row 42 2 v (idl (sortL (mis (rids l) l)))])) := by
  obtain ⟨A, n, c, rfl, hn, hnc, hc⟩ := hx.form
  rw [recs_len] at hn
  obtain rfl : n = l.length := by omega
  clear hn
  have h1 := (St.start w).row_lit 42 2 0 #[] rfl (by decide)
  have en1 := (Env.refl w).alloc (.cells #[] 42)
  have hrd := hx.rd
  have hld : ∀ x ∈ l, RcD (snap w) x := fun x hm => ⟨(hl x hm).d.rd, (hl x hm).b.rd, (hl x hm).ok⟩
  have hF := fun (w' : World) (d : Id) (hb : Below w.heap.size w w') => find_any (.slice A l.length c) l d w' (hx.below hb)
  have hpos := fun (d : Id) => findAt_pos d (rids l) 0 (by omega)
  obtain ⟨K, hK⟩ : ∃ K, K = rids l := ⟨_, rfl⟩
  rw [← hK] at hF hpos ⊢
  replace hF := Lib.hid hF
  replace hpos := Lib.hid hpos
  clear hK hx hl
  go_enter Try.func91, Try.ntmps91
  go_wp2_with fail
  go_loopw [3, 4] (fun lv i wr => ∃ k : Nat, k ≤ l.length ∧ i = .int .i64 k ∧ St (snap w) [Row 42 2 lv (idl (sortL (mis K (l.take k))))] wr ∧ Env w wr) (fun _ i _ => l.length - (intOf i).toNat)
  case atStart => exact ⟨0, Nat.zero_le _, rfl, h1, en1⟩
  case round =>
    clear h1 en1
    obtain ⟨k, hk, rfl, hst0, hen0⟩ := hrel
    by_cases hlt : k < l.length
    · have hms := mis_step K l k hlt
      have hml := mis_len K (l.take k) (fun x hx => hl16 x (List.mem_of_mem_take hx))
      rw [List.length_take] at hml
      obtain ⟨b, off, hA, hcr⟩ := (hrd.rw hst0).cells (by omega)
      cases hA
      obtain ⟨-, -, -, p3, -⟩ := recs_get l k hlt
      replace p3 := hcr _ _ p3
      rw [← Nat.add_assoc] at p3
      have hxd := hld l[k] (List.getElem_mem hlt)
      have hx16 := hl16 l[k] (List.getElem_mem hlt)
      clear hcr
      have hP : ∀ wr', Below w.heap.size w wr' → wr'.cell? ⟨b, off + k * 5 + 3, none⟩ = some l[k].2.2.1 := by
        obtain ⟨A', n', c', hv, h1', _, _, h4'⟩ := hrd
        cases hv
        obtain ⟨b', o', hA', hc'⟩ := h4' (by omega)
        cases hA'
        intro wr' hb'
        obtain ⟨-, -, -, q3, -⟩ := recs_get l k hlt
        have := hc' _ _ q3
        rw [← Nat.add_assoc] at this
        exact (((St.start w).below hb')).cell this
      clear p3
      generalize l[k] = x at *
      obtain ⟨⟨x0, x1⟩, x2, dv, bv, D, Bt⟩ := x
      obtain ⟨d1, d2, d3, hdv, hd4, hd5, hd6⟩ := hxd.d.form
      have hD := hxd.d
      simp only at hdv hd4 hms hx16 hP hD
      subst hdv
      rw [idl_len] at hd4
      obtain rfl : d2 = D.length := by omega
      clear hxd
      replace hms := Lib.hid hms
      replace hP := Lib.hid hP
      generalize mis K (l.take k) = M at *
      have hkl : (k : Int) < (l.length : Int) := by omega
      have hk0 : (0 : Int) ≤ (k : Int) := by omega
      go_wp2_with fail
      go_loopw [3, 5] (fun lv j wr => ∃ m : Nat, m ≤ D.length ∧ j = .int .i64 (m : Int) ∧ St (snap w) [Row 42 2 lv (idl (sortL (M ++ (D.take m).filter (fun d => decide (d ∉ K)))))] wr ∧ Env w wr) (fun _ j _ => D.length - (intOf j).toNat)
      case atStart => exact ⟨0, by omega, by go_num, by simpa using hst0, hen0⟩
      case round =>
        clear hst0 hen0
        obtain ⟨m, hm, rfl, hst, hen⟩ := hrel
        have hb := hst.drop.toBelow hen
        have p3 := hP.out wr hb
        have pl := World.block_lt_of_cell? _ _ p3
        by_cases hmD : m < D.length
        · have hfs := filt_step K D m hmD
          have hll : (sortL (M ++ (D.take m).filter (fun d => decide (d ∉ K)))).length ≤ 16 * 1000000 + 16 := by
            have a1 := sortL_len (M ++ (D.take m).filter (fun d => decide (d ∉ K)))
            have a2 : ((D.take m).filter (fun d => decide (d ∉ K))).length ≤ m := Nat.le_trans (List.length_filter_le ..) (by rw [List.length_take]; omega)
            rw [List.length_append] at a1
            omega
          obtain ⟨b2, off2, hA, hcr⟩ := (hD.rw hst).cells (by omega)
          cases hA
          have q0 := hcr _ _ (idl_fst D m hmD)
          have q1 := hcr _ _ (idl_snd D m hmD)
          rw [← Nat.add_assoc] at q1
          clear hcr
          have ql := World.block_lt_of_cell? _ _ q0
          generalize D[m] = d at *
          obtain ⟨r, s⟩ := d
          simp only at q0 q1
          have hC := hF.out wr (r, s) hb
          have hz := hpos.out (r, s)
          generalize findAt (r, s) K 0 = z at *
          replace hC := Lib.hid hC
          generalize (D.take m).filter (fun d => decide (d ∉ K)) = out at *
          by_cases hd : ((r, s) : Id) ∈ K
          · rw [if_pos hd, List.append_nil] at hfs
            have hz0 : ¬ z < 0 := by have := hz.2 hd; omega
            replace hfs := Lib.hid hfs
            clear hd hz
            go_wp2_with fail
            refine hC.out.mono ?_
            rintro e w3 ⟨rfl, hb3⟩
            go_wp2_with fail
            go_roundw
            case rel => exact ⟨m + 1, by omega, by go_num, by rw [hfs.out]; exact hst.below hb3, hen.trans (bel_env hb3)⟩
            case measure => simp [intOf]; omega
          · rw [if_neg hd] at hfs
            have hz0 : z < 0 := by
              rcases Int.lt_or_le z 0 with h | h
              · exact h
              · exact absurd (hz.1 h) hd
            have HN : Hid (putL (r, s) (sortL (M ++ out)) = sortL (M ++ (out ++ [(r, s)]))) := Lib.hid (by rw [← List.append_assoc, sortL_push])
            replace hfs := Lib.hid hfs
            clear hd hz
            go_wp2_with fail
            refine hC.out.mono ?_
            rintro e w3 ⟨rfl, hb3⟩
            have h3 := hst.below hb3
            have en3 := hen.trans (bel_env hb3)
            have u3 := (hb3.cell (p := ⟨b, off + k * 5 + 3, none⟩) pl).trans p3
            have u0 := (hb3.cell (p := ⟨b2, off2 + m * 2, none⟩) ql).trans q0
            have u1 := (hb3.cell (p := ⟨b2, off2 + m * 2 + 1, none⟩) ql).trans q1
            have ul := World.block_lt_of_cell? _ _ u3
            have ul2 := World.block_lt_of_cell? _ _ u0
            clear p3 q0 q1 pl ql
            go_wp2_with fail
            refine (put_own _ _ (r, s) _ _ _ h3 (by omega)).mono ?_
            rintro e w4 ⟨v', rfl, h4, en4⟩
            rw [HN.out] at h4
            go_wp2_with fail
            go_roundw
            case rel => exact ⟨m + 1, by omega, by go_num, by rw [hfs.out]; exact h4, en3.trans en4⟩
            case measure => simp [intOf]; omega
        · obtain rfl : m = D.length := by omega
          rw [List.take_length, ← hms.out] at hst
          go_wp2_with fail
          go_roundw
          case rel => exact ⟨k + 1, by omega, by go_num, hst, hen⟩
          case measure => simp [intOf]; omega
    · obtain rfl : k = l.length := by omega
      rw [List.take_length] at hst0
      go_wp2_with fail
      go_ret
      exact ⟨_, rfl, hst0, hen0⟩
end Go.Proofs.Ytmdmekdmlkhchaa
