/- Graphs: the reference. -/
import Derived.Test.YtelmhcbdpimaaaaEdges5
set_option linter.unusedVariables false
set_option linter.unusedSimpArgs false
namespace Go.Proofs.Ytelmhcbdpimaaaa
open Go.RowKit Go.Cw Go.Fl
attribute [local go_sem ↓] eql_id neq_id
theorem findAt_pos (a : Id) : ∀ (l : List Id) (k : Int), 0 ≤ k → (0 ≤ findAt a l k ↔ a ∈ l)
  | [], k, _ => by simp [findAt]
  | x :: r, k, hk => by
    unfold findAt
    by_cases h : x = a
    · rw [if_pos h]; simp [h, hk]
    · rw [if_neg h, findAt_pos a r (k + 1) (by omega)]
      simp only [List.mem_cons]
      exact ⟨.inr, fun h2 => h2.resolve_left (fun e => h e.symm)⟩
theorem recs_take (l : List Rc) (k : Nat) : (recs l).take (k * 5) = recs (l.take k) := by
  unfold recs
  induction l generalizing k with
  | nil => simp
  | cons x r ih =>
    cases k with
    | zero => simp
    | succ k =>
      rw [List.take_succ_cons, List.flatMap_cons, List.flatMap_cons, ← ih k, List.take_append]
      have h5 : (recc x).length = 5 := rfl
      rw [h5, List.take_of_length_le (by rw [h5]; omega), show (k + 1) * 5 - 5 = k * 5 by omega]
set_option maxRecDepth 100000 in
set_option maxHeartbeats 3200000 in
theorem refGr_any (u : Value) (l : List Rc) (w : World) (hx : Rw w 5 u (recs l)) (hl : ∀ x ∈ l, RcR w x) :
    Calls Try.prog 23 #[u] w fun e w' => e = .returned (.int .i64 (gErr [] (l.map rp))) ∧ Below w.heap.size w w' := by
  obtain ⟨A, n, c, rfl, hn, hnc, hc⟩ := hx.form
  rw [recs_len] at hn
  obtain rfl : n = l.length := by omega
  clear hn
  obtain ⟨G, hG⟩ : ∃ G, Hid (gErr [] (l.map rp) = G) := ⟨_, Lib.hid rfl⟩
  rw [hG.out]
  have hstart := Lib.hid (show gErr (rids (l.take 0)) ((l.drop 0).map rp) = G from hG.out)
  clear hG
  go_enter Try.func23, Try.ntmps23
  go_wp2_with fail
  go_loopw [3] (fun i wr => ∃ k : Nat, k ≤ l.length ∧ i = .int .i64 (k : Int) ∧ Below w.heap.size w wr ∧ Hid (gErr (rids (l.take k)) ((l.drop k).map rp) = G)) (fun i _ => l.length - (intOf i).toNat)
  case atStart => exact ⟨0, by omega, by go_num, Below.refl _ _, hstart⟩
  case round =>
    obtain ⟨k, hk, rfl, hb, hg⟩ := hrel
    by_cases hlt : k < l.length
    · have hxw := hx.below hb
      obtain ⟨b, off, hA, hcr⟩ := hxw.cells (by omega)
      cases hA
      obtain ⟨p0, p1, p2, p3, p4⟩ := recs_get l k hlt
      replace p0 := hcr _ _ p0
      replace p1 := hcr _ _ p1
      replace p2 := hcr _ _ p2
      replace p3 := hcr _ _ p3
      replace p4 := hcr _ _ p4
      rw [← Nat.add_assoc] at p1 p2 p3 p4
      clear hcr
      have hst := gErr_step l k hlt (rids (l.take k))
      rw [hg.out] at hst
      have hxk := (hl l[k] (List.getElem_mem hlt)).below hb
      have htk : rids (l.take (k + 1)) = rids (l.take k) ++ [l[k].1] := by unfold rids; rw [List.take_add_one, List.getElem?_eq_getElem hlt, List.map_append]; rfl
      replace htk := Lib.hid htk
      have hct := hxw.upto k hk
      rw [recs_take] at hct
      generalize l[k] = x at *
      obtain ⟨⟨r, s⟩, q, dv, bv, D, Bt⟩ := x
      obtain ⟨d1, d2, d3, hdv, _⟩ := hxk.d.form
      obtain ⟨b1, b2, b3, hbv, _⟩ := hxk.b.form
      simp only at hdv hbv p0 p1 p2 p3 p4 hst
      subst hdv hbv
      have hC := fun w' => refRec_any ((r, s), q, .slice d1 d2 d3, .slice b1 b2 b3, D, Bt) w'
      have pl := World.block_lt_of_cell? _ _ p0
      have hbw := hb.size
      by_cases hE : recErr (rp ((r, s), q, .slice d1 d2 d3, .slice b1 b2 b3, D, Bt)) = 0
      · rw [if_neg (by simpa using hE)] at hst
        rw [hE] at hC
        replace hC := Lib.hid (hC _ hxk)
        have hF := fun w' (hb' : Below wr.heap.size wr w') => find_any _ (l.take k) (r, s) w' (hct.below hb')
        have hpos := findAt_pos (r, s) (rids (l.take k)) 0 (by omega)
        generalize findAt (r, s) (rids (l.take k)) 0 = z at *
        replace hF := Lib.hid hF
        have hk0 : (0 : Int) ≤ (k : Int) := by omega
        have hkl : (k : Int) ≤ (l.length : Int) := by omega
        have hkl2 : (k : Int) < (l.length : Int) := by omega
        have hkc : (k : Int) ≤ (c : Int) := by omega
        clear hE hct
        by_cases hd : ((r, s) : Id) ∈ rids (l.take k)
        · rw [if_pos hd] at hst
          have hz : 0 ≤ z := hpos.2 hd
          have hzl : ¬ z < 0 := by omega
          clear hpos hd
          subst hst
          go_wp2_with fail
          refine (hC.out).mono ?_
          rintro e w3 ⟨rfl, hb3⟩
          have q0 := (hb3.cell (p := ⟨b, off + k * 5, none⟩) pl).trans p0
          have q1 := (hb3.cell (p := ⟨b, off + k * 5 + 1, none⟩) pl).trans p1
          have ql := World.block_lt_of_cell? _ _ q0
          clear p0 p1 p2 p3 p4
          go_wp2_with fail
          go_still_tail 8, (by kernel_rfl)
          change wpList _ _ _ _ _ w3.drew
          go_wp2_with fail
          refine (hF.out _ hb3.drew).mono ?_
          rintro e w4 ⟨rfl, hb4⟩
          go_wp2_with fail
          go_ret
          exact ⟨rfl, (hb.trans (hb3.drew.mono hbw)).trans (hb4.mono (Nat.le_trans hbw hb3.size))⟩
        · rw [if_neg hd] at hst
          have hz : z < 0 := by
            rcases Int.lt_or_le z 0 with h | h
            · exact h
            · exact absurd (hpos.1 h) hd
          have hzl : ¬ 0 ≤ z := by omega
          replace hst := Lib.hid hst
          clear hpos hd
          go_wp2_with fail
          refine (hC.out).mono ?_
          rintro e w3 ⟨rfl, hb3⟩
          have q0 := (hb3.cell (p := ⟨b, off + k * 5, none⟩) pl).trans p0
          have q1 := (hb3.cell (p := ⟨b, off + k * 5 + 1, none⟩) pl).trans p1
          have ql := World.block_lt_of_cell? _ _ q0
          clear p0 p1 p2 p3 p4
          go_wp2_with fail
          go_still_tail 8, (by kernel_rfl)
          change wpList _ _ _ _ _ w3.drew
          go_wp2_with fail
          refine (hF.out _ hb3.drew).mono ?_
          rintro e w4 ⟨rfl, hb4⟩
          go_wp2_with fail
          go_roundw
          case rel => exact ⟨k + 1, by omega, by go_num, (hb.trans (hb3.drew.mono hbw)).trans (hb4.mono (Nat.le_trans hbw hb3.size)), Lib.hid (by rw [htk.out]; exact hst.out.symm)⟩
          case measure => simp [intOf]; omega
      · rw [if_pos (by simpa using hE)] at hst
        have hne : (recErr (rp ((r, s), q, .slice d1 d2 d3, .slice b1 b2 b3, D, Bt)) != 0) = true := by simpa using hE
        rw [← hst] at hC hne
        have hC2 := fun w' (hb' : Below wr.heap.size wr w') => hC _ (hxk.below hb')
        replace hC2 := Lib.hid hC2
        clear hC hE hst hct
        go_wp2_with fail
        refine (hC2.out _ (Below.refl _ _)).mono ?_
        rintro e w3 ⟨rfl, hb3⟩
        have q0 := (hb3.cell (p := ⟨b, off + k * 5, none⟩) pl).trans p0
        have q1 := (hb3.cell (p := ⟨b, off + k * 5 + 1, none⟩) pl).trans p1
        have q2 := (hb3.cell (p := ⟨b, off + k * 5 + 2, none⟩) pl).trans p2
        have q3 := (hb3.cell (p := ⟨b, off + k * 5 + 3, none⟩) pl).trans p3
        have q4 := (hb3.cell (p := ⟨b, off + k * 5 + 4, none⟩) pl).trans p4
        have ql := World.block_lt_of_cell? _ _ q0
        clear p0 p1 p2 p3 p4
        go_wp2_with fail
        refine (hC2.out _ hb3).mono ?_
        rintro e w4 ⟨rfl, hb4⟩
        go_wp2_with fail
        go_ret
        exact ⟨rfl, (hb.trans (hb3.mono hbw)).trans (hb4.mono (Nat.le_trans hbw hb3.size))⟩
    · obtain rfl : k = l.length := by omega
      have hG0 : G = 0 := by rw [← hg.out, List.drop_length]; rfl
      subst hG0
      go_wp2_with fail
      go_ret
      exact ⟨rfl, hb⟩
end Go.Proofs.Ytelmhcbdpimaaaa
