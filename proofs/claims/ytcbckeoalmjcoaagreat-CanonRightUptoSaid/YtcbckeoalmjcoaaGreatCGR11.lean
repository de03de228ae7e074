/- Joined texts: Edges6, Few, Graph. -/
import Derived.Test.YtcbckeoalmjcoaaGreatCGR10
/- Graphs: the reference. -/
set_option linter.unusedVariables false
set_option linter.unusedSimpArgs false
namespace Go.Proofs.YtcbckeoalmjcoaaGreat
open Go.RowKit Go.Cw Go.Fl
attribute [local go_sem ↓] eql_id neq_id
theorem findAt_pos (a : Id) : ∀ (l : List Id) (k : Int), 0 ≤ k → (0 ≤ findAt a l k ↔ a ∈ l)
  | [], k, _ => by simp [findAt]
  | x :: r, k, hk => by
    unfold findAt
    by_cases h : x = a
    · rw [if_pos h]; simp [h, hk]
    · rw [if_neg h, findAt_pos a r (k + 1) (by omega)]
      simp only [List.mem_cons]
      exact ⟨.inr, fun h2 => h2.resolve_left (fun e => h e.symm)⟩
theorem recs_take (l : List Rc) (k : Nat) : (recs l).take (k * 5) = recs (l.take k) := by
  unfold recs
  induction l generalizing k with
  | nil => simp
  | cons x r ih =>
    cases k with
    | zero => simp
    | succ k =>
      rw [List.take_succ_cons, List.flatMap_cons, List.flatMap_cons, ← ih k, List.take_append]
      have h5 : (recc x).length = 5 := rfl
      rw [h5, List.take_of_length_le (by rw [h5]; omega), show (k + 1) * 5 - 5 = k * 5 by omega]
set_option maxRecDepth 100000 in
set_option maxHeartbeats 3200000 in
theorem refGr_any (u : Value) (l : List Rc) (w : World) (hx : Rw w 5 u (recs l)) (hl : ∀ x ∈ l, RcR w x) :
    Calls Tryz.prog 9 #[u] w fun e w' => e = .returned (.int .i64 (gErr [] (l.map rp))) ∧ Below w.heap.size w w' := by
  obtain ⟨A, n, c, rfl, hn, hnc, hc⟩ := hx.form
  rw [recs_len] at hn
  obtain rfl : n = l.length := by omega
  clear hn
  obtain ⟨G, hG⟩ : ∃ G, Hid (gErr [] (l.map rp) = G) := ⟨_, Lib.hid rfl⟩
  rw [hG.out]
  have hstart := Lib.hid (show gErr (rids (l.take 0)) ((l.drop 0).map rp) = G from hG.out)
  clear hG
  go_enter Tryz.func9, Tryz.ntmps9
  go_wp2_with fail
  go_loopw [3] (fun i wr => ∃ k : Nat, k ≤ l.length ∧ i = .int .i64 (k : Int) ∧ Below w.heap.size w wr ∧ Hid (gErr (rids (l.take k)) ((l.drop k).map rp) = G)) (fun i _ => l.length - (intOf i).toNat)
  case atStart => exact ⟨0, by omega, by go_num, Below.refl _ _, hstart⟩
  case round =>
    obtain ⟨k, hk, rfl, hb, hg⟩ := hrel
    by_cases hlt : k < l.length
    · have hxw := hx.below hb
      obtain ⟨b, off, hA, hcr⟩ := hxw.cells (by omega)
      cases hA
      obtain ⟨p0, p1, p2, p3, p4⟩ := recs_get l k hlt
      replace p0 := hcr _ _ p0
      replace p1 := hcr _ _ p1
      replace p2 := hcr _ _ p2
      replace p3 := hcr _ _ p3
      replace p4 := hcr _ _ p4
      rw [← Nat.add_assoc] at p1 p2 p3 p4
      clear hcr
      have hst := gErr_step l k hlt (rids (l.take k))
      rw [hg.out] at hst
      have hxk := (hl l[k] (List.getElem_mem hlt)).below hb
      have htk : rids (l.take (k + 1)) = rids (l.take k) ++ [l[k].1] := by unfold rids; rw [List.take_add_one, List.getElem?_eq_getElem hlt, List.map_append]; rfl
      replace htk := Lib.hid htk
      have hct := hxw.upto k hk
      rw [recs_take] at hct
      generalize l[k] = x at *
      obtain ⟨⟨r, s⟩, q, dv, bv, D, Bt⟩ := x
      obtain ⟨d1, d2, d3, hdv, _⟩ := hxk.d.form
      obtain ⟨b1, b2, b3, hbv, _⟩ := hxk.b.form
      simp only at hdv hbv p0 p1 p2 p3 p4 hst
      subst hdv hbv
      have hC := fun w' => refRec_any ((r, s), q, .slice d1 d2 d3, .slice b1 b2 b3, D, Bt) w'
      have pl := World.block_lt_of_cell? _ _ p0
      have hbw := hb.size
      by_cases hE : recErr (rp ((r, s), q, .slice d1 d2 d3, .slice b1 b2 b3, D, Bt)) = 0
      · rw [if_neg (by simpa using hE)] at hst
        rw [hE] at hC
        replace hC := Lib.hid (hC _ hxk)
        have hF := fun w' (hb' : Below wr.heap.size wr w') => find_any _ (l.take k) (r, s) w' (hct.below hb')
        have hpos := findAt_pos (r, s) (rids (l.take k)) 0 (by omega)
        generalize findAt (r, s) (rids (l.take k)) 0 = z at *
        replace hF := Lib.hid hF
        have hk0 : (0 : Int) ≤ (k : Int) := by omega
        have hkl : (k : Int) ≤ (l.length : Int) := by omega
        have hkl2 : (k : Int) < (l.length : Int) := by omega
        have hkc : (k : Int) ≤ (c : Int) := by omega
        clear hE hct
        by_cases hd : ((r, s) : Id) ∈ rids (l.take k)
        · rw [if_pos hd] at hst
          have hz : 0 ≤ z := hpos.2 hd
          have hzl : ¬ z < 0 := by omega
          clear hpos hd
          subst hst
          go_wp2_with fail
          refine (hC.out).mono ?_
          rintro e w3 ⟨rfl, hb3⟩
          have q0 := (hb3.cell (p := ⟨b, off + k * 5, none⟩) pl).trans p0
          have q1 := (hb3.cell (p := ⟨b, off + k * 5 + 1, none⟩) pl).trans p1
          have ql := World.block_lt_of_cell? _ _ q0
          clear p0 p1 p2 p3 p4
          go_wp2_with fail
          go_still_tail 8, (by kernel_rfl)
          change wpList _ _ _ _ _ w3.drew
          go_wp2_with fail
          refine (hF.out _ hb3.drew).mono ?_
          rintro e w4 ⟨rfl, hb4⟩
          go_wp2_with fail
          go_ret
          exact ⟨rfl, (hb.trans (hb3.drew.mono hbw)).trans (hb4.mono (Nat.le_trans hbw hb3.size))⟩
        · rw [if_neg hd] at hst
          have hz : z < 0 := by
            rcases Int.lt_or_le z 0 with h | h
            · exact h
            · exact absurd (hpos.1 h) hd
          have hzl : ¬ 0 ≤ z := by omega
          replace hst := Lib.hid hst
          clear hpos hd
          go_wp2_with fail
          refine (hC.out).mono ?_
          rintro e w3 ⟨rfl, hb3⟩
          have q0 := (hb3.cell (p := ⟨b, off + k * 5, none⟩) pl).trans p0
          have q1 := (hb3.cell (p := ⟨b, off + k * 5 + 1, none⟩) pl).trans p1
          have ql := World.block_lt_of_cell? _ _ q0
          clear p0 p1 p2 p3 p4
          go_wp2_with fail
          go_still_tail 8, (by kernel_rfl)
          change wpList _ _ _ _ _ w3.drew
          go_wp2_with fail
          refine (hF.out _ hb3.drew).mono ?_
          rintro e w4 ⟨rfl, hb4⟩
          go_wp2_with fail
          go_roundw
          case rel => exact ⟨k + 1, by omega, by go_num, (hb.trans (hb3.drew.mono hbw)).trans (hb4.mono (Nat.le_trans hbw hb3.size)), Lib.hid (by rw [htk.out]; exact hst.out.symm)⟩
          case measure => simp [intOf]; omega
      · rw [if_pos (by simpa using hE)] at hst
        have hne : (recErr (rp ((r, s), q, .slice d1 d2 d3, .slice b1 b2 b3, D, Bt)) != 0) = true := by simpa using hE
        rw [← hst] at hC hne
        have hC2 := fun w' (hb' : Below wr.heap.size wr w') => hC _ (hxk.below hb')
        replace hC2 := Lib.hid hC2
        clear hC hE hst hct
        go_wp2_with fail
        refine (hC2.out _ (Below.refl _ _)).mono ?_
        rintro e w3 ⟨rfl, hb3⟩
        have q0 := (hb3.cell (p := ⟨b, off + k * 5, none⟩) pl).trans p0
        have q1 := (hb3.cell (p := ⟨b, off + k * 5 + 1, none⟩) pl).trans p1
        have q2 := (hb3.cell (p := ⟨b, off + k * 5 + 2, none⟩) pl).trans p2
        have q3 := (hb3.cell (p := ⟨b, off + k * 5 + 3, none⟩) pl).trans p3
        have q4 := (hb3.cell (p := ⟨b, off + k * 5 + 4, none⟩) pl).trans p4
        have ql := World.block_lt_of_cell? _ _ q0
        clear p0 p1 p2 p3 p4
        go_wp2_with fail
        refine (hC2.out _ hb3).mono ?_
        rintro e w4 ⟨rfl, hb4⟩
        go_wp2_with fail
        go_ret
        exact ⟨rfl, (hb.trans (hb3.mono hbw)).trans (hb4.mono (Nat.le_trans hbw hb3.size))⟩
    · obtain rfl : k = l.length := by omega
      have hG0 : G = 0 := by rw [← hg.out, List.drop_length]; rfl
      subst hG0
      go_wp2_with fail
      go_ret
      exact ⟨rfl, hb⟩
end Go.Proofs.YtcbckeoalmjcoaaGreat

/- Graphs: Few, small facts. -/
set_option linter.unusedVariables false
set_option linter.unusedSimpArgs false
namespace Go.Proofs.YtcbckeoalmjcoaaGreat
open Go.RowKit Go.Cw Go.Fl
attribute [local go_sem ↓] eql_id neq_id
def fewR (l : List Rc) : Bool := l.all (fun x => decide (x.2.2.2.2.1.length ≤ 20) && decide (x.2.2.2.2.2.length ≤ 20))
theorem fewR_step (l : List Rc) (k : Nat) (h : k < l.length) : fewR (l.drop k) = (decide (l[k].2.2.2.2.1.length ≤ 20) && decide (l[k].2.2.2.2.2.length ≤ 20) && fewR (l.drop (k + 1))) := by
  unfold fewR
  rw [List.drop_eq_getElem_cons h, List.all_cons]
set_option maxRecDepth 100000 in
set_option maxHeartbeats 1600000 in
theorem few15_any (u : Value) (l : List Rc) (n : Int) (w : World) (hx : Rw w 5 u (recs l)) (hl : ∀ x ∈ l, RcR w x) :
    Calls Tryz.prog 8 #[u, .int .i64 n] w fun e w' => e = .returned (.bool (fewR l && decide ((l.length : Int) ≤ n))) ∧ Below w.heap.size w w' := by
  obtain ⟨A, m, c, rfl, hn, hnc, hc⟩ := hx.form
  rw [recs_len] at hn
  obtain rfl : m = l.length := by omega
  clear hn
  obtain ⟨G, hG⟩ : ∃ G, Hid (fewR l = G) := ⟨_, Lib.hid rfl⟩
  rw [hG.out]
  have hst0 := Lib.hid (show fewR (l.drop 0) = G from hG.out)
  obtain ⟨B, hB⟩ : ∃ B, Hid (B = decide ((l.length : Int) ≤ n)) := ⟨_, Lib.hid rfl⟩
  rw [← hB.out]
  clear hG
  go_enter Tryz.func8, Tryz.ntmps8
  go_wp2_with fail
  go_loopw [5] (fun i wr => ∃ k : Nat, k ≤ l.length ∧ i = .int .i64 (k : Int) ∧ wr = w ∧ Hid (fewR (l.drop k) = G)) (fun i _ => l.length - (intOf i).toNat)
  case atStart => exact ⟨0, by omega, by go_num, rfl, hst0⟩
  case round =>
    clear hst0
    obtain ⟨k, hk, rfl, rfl, hg⟩ := hrel
    by_cases hlt : k < l.length
    · obtain ⟨b, off, hA, hcr⟩ := hx.cells (by omega)
      cases hA
      obtain ⟨-, -, -, p3, p4⟩ := recs_get l k hlt
      replace p3 := hcr _ _ p3
      replace p4 := hcr _ _ p4
      rw [← Nat.add_assoc] at p3 p4
      clear hcr
      have hst := fewR_step l k hlt
      rw [hg.out] at hst
      have hxk := hl l[k] (List.getElem_mem hlt)
      generalize l[k] = x at *
      obtain ⟨⟨x0, x1⟩, x2, dv, bv, D, Bt⟩ := x
      obtain ⟨d1, d2, d3, hdv, hd4, _⟩ := hxk.d.form
      obtain ⟨b1, b2, b3, hbv, hb4, _⟩ := hxk.b.form
      simp only at hdv hbv p3 p4 hst hd4 hb4
      subst hdv hbv
      rw [idl_len] at hd4
      rw [cml_len] at hb4
      obtain rfl : d2 = D.length := by omega
      obtain rfl : b2 = Bt.length := by omega
      have pl := World.block_lt_of_cell? _ _ p3
      clear hxk hl hx
      by_cases h1 : D.length ≤ 20
      · have h1' : ¬ (20 : Int) < (D.length : Int) := by omega
        have h1b : decide ((20 : Int) < (D.length : Int)) = false := by simpa using h1'
        by_cases h2 : Bt.length ≤ 20
        · rw [decide_eq_true h1, decide_eq_true h2, Bool.true_and, Bool.true_and] at hst
          have h2' : ¬ (20 : Int) < (Bt.length : Int) := by omega
          replace hst := Lib.hid hst
          go_wp2_with fail
          go_roundw
          case rel => exact ⟨k + 1, by omega, by go_num, trivial, Lib.hid hst.out.symm⟩
          case measure => simp [intOf]; omega
        · rw [decide_eq_false h2, Bool.and_false, Bool.false_and] at hst
          have h2' : (20 : Int) < (Bt.length : Int) := by omega
          subst hst
          go_wp2_with fail
          go_ret
          exact ⟨rfl, Below.refl _ _⟩
      · rw [decide_eq_false h1, Bool.false_and, Bool.false_and] at hst
        have h1' : (20 : Int) < (D.length : Int) := by omega
        subst hst
        go_wp2_with fail
        go_ret
        exact ⟨rfl, Below.refl _ _⟩
    · obtain rfl : k = l.length := by omega
      have hG0 : G = true := by rw [← hg.out, List.drop_length]; rfl
      subst hG0
      go_wp2_with fail
      go_ret
      exact ⟨by rw [hB.out]; rfl, Below.refl _ _⟩
/-- A list that rises and has one id alone. -/
theorem rises_one {R : List Id} {a : Id} (hr : Rises R) (h : ∀ b, b ∈ R ↔ b = a) : R = [a] := rises_eq hr (List.pairwise_singleton _ _) (fun b => by rw [h]; simp)
theorem gErr_zero : ∀ (l : List Rp) (seen : List Id), gErr seen l = 0 → ∀ x ∈ l, recErr x = 0
  | [], _, _, x, hx => by simp at hx
  | y :: r, seen, h, x, hx => by
    unfold gErr at h
    by_cases h1 : recErr y = 0
    · rw [if_neg (by simpa using h1)] at h
      by_cases h2 : y.1 ∈ seen
      · rw [if_pos h2] at h; omega
      · rw [if_neg h2] at h
        rcases List.mem_cons.1 hx with rfl | hx
        · exact h1
        · exact gErr_zero r _ h x hx
    · rw [if_pos (by simpa using h1)] at h
      exact absurd h h1
theorem edgesOf_take (l : List Rc) (k : Nat) (h : k < l.length) : edgesOf (l.take (k + 1)) = edgesOf (l.take k) + l[k].2.2.2.2.1.length := by
  rw [List.take_add_one, List.getElem?_eq_getElem h]
  exact edgesOf_snoc _ _
end Go.Proofs.YtcbckeoalmjcoaaGreat

/- Graphs: a record that may be there. -/
set_option linter.unusedVariables false
set_option linter.unusedSimpArgs false
namespace Go.Proofs.YtcbckeoalmjcoaaGreat
open Go.RowKit Go.Cw Go.Fl
attribute [local go_sem ↓] eql_id neq_id
theorem findAt_at (a : Id) : ∀ (l : List Id) (k : Int), a ∈ l → ∃ i, i < l.length ∧ findAt a l k = k + (i : Int) ∧ l[i]? = some a
  | [], _, h => by simp at h
  | x :: r, k, h => by
    by_cases hx : x = a
    · exact ⟨0, by simp, by simp [findAt, hx], by simp [hx]⟩
    · obtain ⟨i, hi, he, hg⟩ := findAt_at a r (k + 1) ((List.mem_cons.1 h).resolve_left (fun e => hx e.symm))
      exact ⟨i + 1, by simp; omega, by rw [findAt, if_neg hx, he]; omega, by simpa using hg⟩
theorem rd_at {H : Hp} {sz : Nat} {cs : List Value} {A : Option Addr} {n c : Nat} (h : Rd H sz (.slice A n c) cs) (hn : 0 < n) : ∃ b off, A = some ⟨b, off, none⟩ ∧ ∀ j u, cs[j]? = some u → H.cell b (off + j) = some u := by
  obtain ⟨A', n', c', hv, h1, h2, h3, h4⟩ := h
  cases hv
  exact h4 hn
theorem cmdsSame_refl (l : List Cm) : cmdsSame l l = true := by
  unfold cmdsSame
  rw [decide_eq_true rfl, Bool.true_and, List.all_eq_true]
  rintro ⟨x, y⟩ h
  have : x = y := by
    revert h
    induction l with
    | nil => intro h; simp at h
    | cons z r ih =>
      intro h
      rw [List.zip_cons_cons, List.mem_cons] at h
      rcases h with h | h
      · cases h; rfl
      · exact ih h
  subst this
  simp [cmSame]
theorem recSame_refl (x : Rp) : recSame x x = true := by unfold recSame; simp [cmdsSame_refl]
theorem rids_rp (l : List Rc) : rids l = (l.map rp).map (fun z : Rp => z.1) := by rw [List.map_map]; rfl
theorem edgesOf_rp (l : List Rc) : edgesOf l = ((l.map rp).map (fun z : Rp => z.2.2.1.length)).sum := by rw [List.map_map]; rfl
theorem mem_rp {L l : List Rc} (h : L.map rp = l.map rp) (f : Rp → Prop) : (∃ x ∈ L, f (rp x)) ↔ ∃ x ∈ l, f (rp x) := by
  have e : ∀ M : List Rc, (∃ x ∈ M, f (rp x)) ↔ ∃ y ∈ M.map rp, f y := fun M => ⟨fun ⟨x, hx, hf⟩ => ⟨rp x, List.mem_map.2 ⟨x, hx, rfl⟩, hf⟩, fun ⟨y, hy, hf⟩ => by obtain ⟨x, hx, rfl⟩ := List.mem_map.1 hy; exact ⟨x, hx, hf⟩⟩
  rw [e, e, h]
theorem gr_at {L : List Rc} {i : Nat} {a : Id} (hn : (rids L).Nodup) (hi : (rids L)[i]? = some a) : ∃ hl : i < L.length, L[i].1 = a ∧ mlook a (entsR L) = some L[i] := by
  obtain ⟨hl, he⟩ := List.getElem?_eq_some_iff.1 hi
  have hl' : i < L.length := by simpa [rids] using hl
  have hLa : L[i].1 = a := by simpa [rids] using he
  obtain ⟨y, hy, hya, hlk⟩ := entsR_some L a (he ▸ List.getElem_mem hl)
  obtain ⟨j, hj, rfl⟩ := List.getElem_of_mem hy
  have : i = j := (List.getElem_inj (h₀ := hl) (h₁ := by simpa [rids] using hj) hn).1 (by simp [rids, hLa, hya])
  subst this
  exact ⟨hl', hLa, hlk⟩
abbrev zeroRp : Rp := ((0, 0), 0, [], [])
abbrev zeroRc : Rc := ((0, 0), 0, .slice none 0 0, .slice none 0 0, [], [])
/-- The record of an id; else the zero one. -/
def lookR (l : List Rp) (a : Id) : Rp := (l.find? (fun x => decide (x.1 = a))).getD zeroRp
def pids (l : List Rp) : List Id := l.map (fun x => x.1)
theorem pids_rp (l : List Rc) : pids (l.map rp) = rids l := by simp [pids, rids, List.map_map, Function.comp_def]
theorem lookR_mem {l : List Rp} {a : Id} (h : a ∈ pids l) : lookR l a ∈ l ∧ (lookR l a).1 = a := by
  unfold lookR
  cases hf : l.find? (fun x => decide (x.1 = a)) with
  | none =>
    obtain ⟨x, hx, hxa⟩ := List.mem_map.1 h
    have := List.find?_eq_none.1 hf x hx
    simp [hxa] at this
  | some x => exact ⟨List.mem_of_find?_eq_some hf, by simpa using List.find?_some hf⟩
theorem lookR_none {l : List Rp} {a : Id} (h : a ∉ pids l) : lookR l a = zeroRp := by
  unfold lookR
  rw [List.find?_eq_none.2 (fun x hx => by simp only [decide_eq_true_eq]; exact fun e => h (List.mem_map.2 ⟨x, hx, e⟩))]
  rfl
theorem lookR_ent : ∀ (L : List Rc) (a : Id), a ∈ rids L → ∃ x ∈ L, x.1 = a ∧ mlook a (entsR L) = some x ∧ rp x = lookR (L.map rp) a
  | [], _, h => by simp [rids] at h
  | x :: r, a, h => by
    by_cases hx : x.1 = a
    · exact ⟨x, by simp, hx, by show (if x.1 = a then _ else _) = _; rw [if_pos hx], by unfold lookR; rw [List.map_cons, List.find?_cons_of_pos (by simpa using hx)]; rfl⟩
    · have h2 : a ∈ rids r := by
        simp only [rids, List.map_cons, List.mem_cons] at h
        exact h.resolve_left (fun e => hx e.symm)
      obtain ⟨y, hy, hya, hl, hr⟩ := lookR_ent r a h2
      refine ⟨y, List.mem_cons_of_mem _ hy, hya, by show (if x.1 = a then _ else _) = _; rw [if_neg hx]; exact hl, ?_⟩
      rw [hr]
      unfold lookR
      rw [List.map_cons, List.find?_cons_of_neg (by simpa using hx)]
/-- What is known of a graph's records. -/
structure GrOk (H : Hp) (L : List Rc) : Prop where
  d : ∀ x ∈ L, RcD H x
  b : ∀ x ∈ L, x.2.2.2.2.1.length ≤ 16 ∧ x.2.2.2.2.2.length ≤ 8
  n : L.length ≤ 1000000
theorem GrOk.mono {H H' : Hp} {L : List Rc} (h : GrOk H L) (hl : Hp.le H H') : GrOk H' L := ⟨fun x hx => (h.d x hx).mono hl, h.b, h.n⟩
/-- What Record tells. -/
def RecRes (H : Hp) (p : Nat) (L : List Rc) (fr : List HA) (a : Id) (w : World) (e : Ending) (w' : World) : Prop :=
  ∃ (H' : Hp) (y : Rc), Hp.le H H' ∧ St H' (GrA p L :: fr) w' ∧ Env w w' ∧ e = .returned (.tuple #[recV y, .bool (decide (a ∈ rids L))]) ∧ RcD H' y ∧ rp y = lookR (L.map rp) a
theorem lookR_len {H : Hp} {L : List Rc} (h : GrOk H L) (a : Id) : (lookR (L.map rp) a).2.2.1.length ≤ 16 ∧ (lookR (L.map rp) a).2.2.2.length ≤ 8 := by
  by_cases hm : a ∈ rids L
  · obtain ⟨x, hx, _, _, hr⟩ := lookR_ent L a hm
    rw [← hr]
    exact h.b x hx
  · rw [lookR_none (by rw [pids_rp]; exact hm)]
    simp
theorem grRecord_any (p : Nat) (L : List Rc) (a : Id) (H : Hp) (fr : List HA) (w : World) (h : St H (GrA p L :: fr) w) (hg : GrOk H L) :
    Calls Tryz.prog 40 #[grP p, idV a] w (RecRes H p L fr a w) := by
  by_cases hm : a ∈ rids L
  · obtain ⟨x, hx, rfl, hl, hr⟩ := lookR_ent L a hm
    refine (grRec_some p L x H fr w h hg.d hx (hg.b x hx) hl).mono ?_
    rintro e w' ⟨dv, bv, rfl, h2, en⟩
    obtain ⟨H1, l1, h3, hd⟩ := h2.row_keep
    obtain ⟨H2, l2, h4, hb⟩ := h3.row_keep
    exact ⟨H2, (x.1, x.2.1, dv, bv, x.2.2.2.2.1, x.2.2.2.2.2), Hp.le_trans l1 l2, h4, en, by rw [decide_eq_true hm], ⟨hd.mono l2, hb, (hg.d x hx).ok⟩, hr⟩
  · refine (grRec_no (grP p) a w (fun w' hb => by
      have := grHas_any p L a H fr w' hg.d (h.below hb)
      rwa [decide_eq_false hm] at this)).mono ?_
    rintro e w' ⟨rfl, hb⟩
    exact ⟨H, zeroRc, Hp.le_refl _, h.below hb, bel_env hb, by rw [decide_eq_false hm], ⟨Rd.nil _ _, Rd.nil _ _, fun c hc => by simp at hc⟩, (lookR_none (by rw [pids_rp]; exact hm)).symm⟩
/-- A nil graph's record. -/
theorem grRecord_nil (a : Id) (w : World) : Calls Tryz.prog 40 #[.pointer none, idV a] w fun e w' => e = .returned (.tuple #[recZ, .bool false]) ∧ Below w.heap.size w w' :=
  grRec_no (.pointer none) a w (fun w' _ => grHas_nil a w')
theorem info_rec : (Tryz.prog.info? 53).map (fun i => (i.zero, i.size, i.bytes)) = some (some (.agg #[.int .i64 0, .int .i64 0, .int .i64 0, .slice none 0 0, .slice none 0 0]), 5, 72) := by kernel_rfl
theorem results_cell2_tmp {fn : Func} {p q u : Tmp} {ty ty2 : TypeId} (h : fn.results = #[.cell p ty, .cell q ty2, .tmp u]) (tmps : Array Value) (P : Program) (w : World) :
    (results fn tmps).run P w =
      ((asAddr (tmps.getD p undef)).run P w).andThen fun a w₁ => ((loadVar ty a).run P w₁).andThen fun v w₂ => ((asAddr (tmps.getD q undef)).run P w₂).andThen fun b w₃ => ((loadVar ty2 b).run P w₃).andThen fun v2 w₄ => .ok (.tuple #[v, v2, tmps.getD u undef]) w₄ := by
  simp only [results, h]
  simp [Sem.run_bind, Result.andThen]
/-- A block of one's own becomes one that stays: its cells. -/
theorem St.blk_for_good {H : Hp} {l : List HA} {w : World} {g : Nat} {cs : Array Value} {t : TypeId} (h : St H (Blk g cs t :: l) w) : ∃ H', Hp.le H H' ∧ St H' l w ∧ ∀ i, H'.cell g i = cs[i]? := by
  obtain ⟨hk, hn⟩ := h.blk_keep
  exact ⟨_, Hp.le_put hn, hk, fun i => by simp [Hp.cell, Hp.put_same]⟩
theorem news_at {P : Program} {sz : Nat} (w : World) (e : TypeId) (n : Nat) (cs : Array Value) (hl : cs.size = n * sz) (h1 : ∀ u ∈ cs.toList, u.oneCell' = true) {g : Nat} (hg : w.heap.size = g) : News P (w.alloc (.cells cs e)) sz (.slice (some ⟨g, 0, none⟩) n n) n cs.toList := hg ▸ News.new w e n cs hl h1
theorem recs_append (l m : List Rc) : recs (l ++ m) = recs l ++ recs m := by simp [recs, List.flatMap_append]
theorem rec_one (x : Rc) {H : Hp} (h : RcD H x) : ∀ u ∈ recc x, u.oneCell' = true := by
  obtain ⟨d1, d2, d3, hd, _⟩ := h.d.form
  obtain ⟨b1, b2, b3, hb, _⟩ := h.b.form
  intro u hu
  simp only [recc, hd, hb, List.mem_cons, List.not_mem_nil, or_false] at hu
  rcases hu with rfl | rfl | rfl | rfl | rfl <;> simp [Value.oneCell']
/-- The ids that are told are those of the records, in order. -/
theorem told_pids {L : List Rc} {R : List Id} (hr : Rises R) (hm : ∀ a, a ∈ R ↔ ∃ x ∈ L, a ∈ [x.1]) : R = sortL (rids L) :=
  rises_eq hr (sortL_rises _) (fun a => by
    rw [hm, sortL_mem]
    simp [rids, eq_comm])
/-- A graph whose records are given by New. -/
theorem NewR.ok {w w' : World} {l : List Rp} {e : Ending} (h : NewR w l e w') (hl : l.length ≤ 1000000) :
    (gErr [] l = 0 ∧ ∃ p L H, Hp.le (snap w) H ∧ St H [GrA p L] w' ∧ GrOk H L ∧ L.map rp = l ∧ Env w w' ∧ e = .returned (.tuple #[grP p, .int .i64 0])) ∨
    (gErr [] l ≠ 0 ∧ e = .returned (.tuple #[.pointer none, .int .i64 (gErr [] l)]) ∧ Below w.heap.size w w') := by
  rcases h with ⟨h0, p, L, H, hle, hst, hd, hm, en, he⟩ | h
  · refine .inl ⟨h0, p, L, H, hle, hst, ⟨hd, fun x hx => ?_, ?_⟩, hm, en, he⟩
    · exact recErr_len _ (gErr_zero _ _ h0 _ (by rw [← hm]; exact List.mem_map.2 ⟨x, hx, rfl⟩))
    · have := congrArg List.length hm
      rw [List.length_map] at this
      omega
  · exact .inr h
end Go.Proofs.YtcbckeoalmjcoaaGreat
