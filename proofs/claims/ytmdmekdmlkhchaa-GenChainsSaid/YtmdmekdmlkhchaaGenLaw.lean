/- The law of chains and rings: walked. -/
import Derived.Test.YtmdmekdmlkhchaaGen
import Derived.StillTailTactics
set_option linter.unusedVariables false
set_option linter.unusedSimpArgs false
namespace Go.Proofs.Ytmdmekdmlkhchaa
open Go.RowKit Go.Cw
attribute [local go_sem ↓] eql_id neq_id
theorem one1_cells (s : ByteArray) : (one1 s)[0]? = some (.int .i64 4) ∧ (one1 s)[1]? = some (.string s) ∧ (one1 s)[2]? = some (.float .f64 4607182418800017408) := ⟨rfl, rfl, rfl⟩
set_option maxRecDepth 100000 in
set_option maxHeartbeats 800000 in
theorem cmdSame_one (s : ByteArray) (w : World) :
    Calls Try.prog 126 #[.agg #[.int .i64 4, .string s, .float .f64 4607182418800017408], .agg #[.int .i64 4, .string s, .float .f64 4607182418800017408]] w fun e w' => e = .returned (.bool true) ∧ Below w.heap.size w w' := by
  have hb := ((Below.refl w.heap.size w).alloc (Nat.le_refl _) (.cells #[.int .i64 4, .string s, .float .f64 4607182418800017408] 45)).alloc (by simp) (.cells #[.int .i64 4, .string s, .float .f64 4607182418800017408] 45)
  go_enter Try.func126, Try.ntmps126
  go_wp2_with fail
  refine (refSame_one _).mono ?_
  rintro e w2 ⟨rfl, hb2⟩
  subst hb2
  go_wp2_with fail
  go_ret
  exact ⟨rfl, hb⟩
set_option maxRecDepth 100000 in
set_option maxHeartbeats 800000 in
theorem batchSame_one (s : ByteArray) (u v : Value) (w : World) (hu : Rw w 3 u (one1 s)) (hv : Rw w 3 v (one1 s)) :
    Calls Try.prog 95 #[u, v] w fun e w' => e = .returned (.bool true) ∧ Below w.heap.size w w' := by
  obtain ⟨A, n, c, rfl, hl, hn, hc⟩ := hu.form
  obtain ⟨A', n', c', rfl, hl', hn', hc'⟩ := hv.form
  have hl3 : (one1 s).length = 3 := rfl
  obtain rfl : n = 1 := by omega
  obtain rfl : n' = 1 := by omega
  obtain ⟨b, off, rfl, hcu⟩ := hu.cells (by omega)
  obtain ⟨b', off', rfl, hcv⟩ := hv.cells (by omega)
  have u0 := hcu 0 _ (one1_cells s).1
  have u1 := hcu 1 _ (one1_cells s).2.1
  have u2 := hcu 2 _ (one1_cells s).2.2
  have v0 := hcv 0 _ (one1_cells s).1
  have v1 := hcv 1 _ (one1_cells s).2.1
  have v2 := hcv 2 _ (one1_cells s).2.2
  simp only [Nat.add_zero] at u0 v0
  clear hcu hcv hl hl' hl3
  go_enter Try.func95, Try.ntmps95
  go_wp2_with fail
  go_loopw [5] (fun i wr => ∃ k : Nat, k ≤ 1 ∧ i = .int .i64 k ∧ Below w.heap.size w wr ∧ (k = 0 → wr = w)) (fun i _ => 1 - (intOf i).toNat)
  case atStart => exact ⟨0, by omega, rfl, Below.refl _ _, fun _ => rfl⟩
  case round =>
    obtain ⟨k, hk, rfl, hb, hw⟩ := hrel
    rcases Nat.lt_or_ge k 1 with h1 | h1
    · obtain rfl : k = 0 := by omega
      have hw := hw rfl
      subst hw
      clear hb
      go_wp2_with fail
      go_still_tail 8, (by kernel_rfl)
      change wpList _ _ _ _ _ wr.drew
      go_wp2_with fail
      refine (cmdSame_one s _).mono ?_
      rintro e w2 ⟨rfl, hb2⟩
      go_wp2_with fail
      go_roundw
      case rel => exact ⟨1, by omega, by go_num, (bel_drewN (Below.refl _ _) 1).trans hb2, by simp⟩
      case measure => simp [intOf]
    · obtain rfl : k = 1 := by omega
      go_wp2_with fail
      go_ret
      exact ⟨rfl, hb⟩
set_option maxRecDepth 100000 in
set_option maxHeartbeats 800000 in
theorem recSame_one (s : ByteArray) (m : Int) (d : List Id) (u v u' v' : Value) (w : World) (hu : Rw w 2 u (idl d)) (hv : Rw w 3 v (one1 s)) (hu' : Rw w 2 u' (idl d)) (hv' : Rw w 3 v' (one1 s)) :
    Calls Try.prog 28 #[.agg #[.int .i64 0, .int .i64 m, .int .i64 m, u, v], .agg #[.int .i64 0, .int .i64 m, .int .i64 m, u', v']] w fun e w' => e = .returned (.bool true) ∧ Below w.heap.size w w' := by
  have hid : idEq 0 m 0 m = true := by simp [idEq]
  have q1 := hu.alloc (.cells #[.int .i64 0, .int .i64 m, .int .i64 m, u, v] 49) |>.alloc (.cells #[.int .i64 0, .int .i64 m, .int .i64 m, u', v'] 49)
  have q2 := hv.alloc (.cells #[.int .i64 0, .int .i64 m, .int .i64 m, u, v] 49) |>.alloc (.cells #[.int .i64 0, .int .i64 m, .int .i64 m, u', v'] 49)
  have q3 := hu'.alloc (.cells #[.int .i64 0, .int .i64 m, .int .i64 m, u, v] 49) |>.alloc (.cells #[.int .i64 0, .int .i64 m, .int .i64 m, u', v'] 49)
  have q4 := hv'.alloc (.cells #[.int .i64 0, .int .i64 m, .int .i64 m, u, v] 49) |>.alloc (.cells #[.int .i64 0, .int .i64 m, .int .i64 m, u', v'] 49)
  obtain ⟨H1, l1, s1, c1⟩ := (St.start w).box #[.int .i64 0, .int .i64 m, .int .i64 m, u, v] 49
  obtain ⟨H2, l2, s2, c2⟩ := s1.box #[.int .i64 0, .int .i64 m, .int .i64 m, u', v'] 49
  have hle := Hp.le_trans l1 l2
  have en : Env w ((w.alloc (.cells #[.int .i64 0, .int .i64 m, .int .i64 m, u, v] 49)).alloc (.cells #[.int .i64 0, .int .i64 m, .int .i64 m, u', v'] 49)) := ((Env.refl w).alloc _).alloc _
  have x2 := Hp.cell_le l2 (c1 3 _ rfl)
  have x3 := Hp.cell_le l2 (c1 4 _ rfl)
  have y2 := c2 3 _ rfl
  have y3 := c2 4 _ rfl
  have hz : (w.alloc (.cells #[.int .i64 0, .int .i64 m, .int .i64 m, u, v] 49)).heap.size = w.heap.size + 1 := by simp
  rw [hz] at y2 y3
  clear c1 c2 s1 hz
  obtain ⟨A, n, c, rfl, _, _, _⟩ := hu.form
  obtain ⟨B, n2, c2, rfl, _, _, _⟩ := hv.form
  obtain ⟨A', n', c', rfl, _, _, _⟩ := hu'.form
  obtain ⟨B', n2', c2', rfl, _, _, _⟩ := hv'.form
  go_enter Try.func28, Try.ntmps28
  go_wp2_with fail
  generalize ((w.alloc (.cells #[.int .i64 0, .int .i64 m, .int .i64 m, .slice A n c, .slice B n2 c2] 49)).alloc (.cells #[.int .i64 0, .int .i64 m, .int .i64 m, .slice A' n' c', .slice B' n2' c2'] 49)) = w1 at *
  refine (sameIds_any _ _ d d _ q1 q3).mono ?_
  rintro e w2 ⟨rfl, hb2⟩
  rw [decide_eq_true rfl]
  have s3 := s2.below hb2
  have x3 := s3.cell x3
  have y3 := s3.cell y3
  go_wp2_with fail
  refine (batchSame_one s _ _ _ (q2.below hb2) (q4.below hb2)).mono ?_
  rintro e w3 ⟨rfl, hb3⟩
  go_wp2_with fail
  go_ret
  exact ⟨rfl, ((s3.below hb3).weaken hle).toBelow ((en.trans (bel_env hb2)).trans (bel_env hb3))⟩
theorem snap_le {w w' : World} (hb : Below w.heap.size w w') : Hp.le (snap w) (snap w') := fun k o hk => by
  have hlt : k < w.heap.size := (Array.getElem?_eq_some_iff.1 hk).1
  exact (hb.block k hlt).trans hk
theorem GoodR.snap {H : Hp} {s : ByteArray} {d : List Id} {j : Nat} {x : Int × Value × Value} {l : List HA} {w : World} (h : GoodR H s d j x) (hst : St H l w) : GoodR (snap w) s d j x := ⟨h.1, (h.2.1.rw hst).rd, (h.2.2.rw hst).rd⟩
theorem chain_at (n : Nat) (s : ByteArray) (w : World) (h1 : 1 ≤ n) (h64 : n ≤ 64) (hk : keyOk s = true) (hs : s.size ≤ 9223372036854775807) :
    Calls Try.prog 25 #[.int .i64 n, .string s] w fun e w' => ∃ v L, e = .returned v ∧ Below w.heap.size w w' ∧ Rw w' 5 v (rcs L) ∧ L.length = n ∧ ∀ j x, L[j]? = some x → GoodR (snap w') s (cdep j) j x := by
  refine (chain_yes n s w h1 h64 hk hs).mono ?_
  rintro e w1 ⟨H, v, L, hle, rfl, hst, hen, hL, hG⟩
  obtain ⟨H', hle', hst', hR⟩ := hst.row_keep
  exact ⟨v, L, rfl, (hst.weaken hle).toBelow hen, hR.rw hst', hL, fun j x hj => (hG j x hj).snap hst⟩
theorem ring_at (n : Nat) (s : ByteArray) (w : World) (h1 : 1 ≤ n) (h64 : n ≤ 64) (hk : keyOk s = true) (hs : s.size ≤ 9223372036854775807) :
    Calls Try.prog 26 #[.int .i64 n, .string s] w fun e w' => ∃ v L, e = .returned v ∧ Below w.heap.size w w' ∧ Rw w' 5 v (rcs L) ∧ L.length = n ∧ ∀ j x, L[j]? = some x → GoodR (snap w') s (rdep n j) j x := by
  refine (ring_yes n s w h1 h64 hk hs).mono ?_
  rintro e w1 ⟨H, v, L, hle, rfl, hst, hen, hL, hG⟩
  obtain ⟨H', hle', hst', hR⟩ := hst.row_keep
  exact ⟨v, L, rfl, (hst.weaken hle).toBelow hen, hR.rw hst', hL, fun j x hj => (hG j x hj).snap hst⟩
/-- Cells of record number j. -/
theorem rcs_get (l : List (Int × Value × Value)) (j : Nat) (x : Int × Value × Value) (h : l[j]? = some x) : (rcs l)[j * 5]? = some (.int .i64 0) ∧ (rcs l)[j * 5 + 1]? = some (.int .i64 x.1) ∧ (rcs l)[j * 5 + 2]? = some (.int .i64 x.1) ∧ (rcs l)[j * 5 + 3]? = some x.2.1 ∧ (rcs l)[j * 5 + 4]? = some x.2.2 := by
  obtain ⟨hj, rfl⟩ := List.getElem?_eq_some_iff.1 h
  have := fun i hi => flat_get rc 5 (fun _ => rfl) l j i hj hi
  exact ⟨this 0 (by omega), this 1 (by omega), this 2 (by omega), this 3 (by omega), this 4 (by omega)⟩
set_option maxRecDepth 100000 in
set_option maxHeartbeats 800000 in
theorem works32 (w : World) : Calls Try.prog 24 #[] w fun e w' => e = .returned (.bool true) ∧ Below w.heap.size w w' := by
  go_enter Try.func24, Try.ntmps24
  go_wp2_with fail
  refine (chain_at 2 ⟨#[107]⟩ w (by decide) (by decide) (by decide +kernel) (by decide)).mono ?_
  rintro e w1 ⟨v1, L1, rfl, hb1, hr1, hl1, hg1⟩
  go_wp2_with fail
  refine (ring_at 3 ⟨#[107]⟩ w1 (by decide) (by decide) (by decide +kernel) (by decide)).mono ?_
  rintro e w2 ⟨v2, L2, rfl, hb2, hr2, hl2, hg2⟩
  have hr1' := hr1.below hb2
  have hs := snap_le hb2
  obtain ⟨x1, hx1⟩ : ∃ x, L1[1]? = some x := ⟨_, List.getElem?_eq_getElem (by omega)⟩
  obtain ⟨x2, hx2⟩ : ∃ x, L2[0]? = some x := ⟨_, List.getElem?_eq_getElem (by omega)⟩
  obtain ⟨_, hd1, _⟩ := (hg1 1 x1 hx1).mono hs
  obtain ⟨_, hd2, _⟩ := hg2 0 x2 hx2
  obtain ⟨A1, n1, c1, rfl, e1, _, _⟩ := hr1'.form
  obtain ⟨A2, n2, c2, rfl, e2, _, _⟩ := hr2.form
  rw [rcs_len] at e1 e2
  obtain rfl : n1 = 2 := by omega
  obtain rfl : n2 = 3 := by omega
  obtain ⟨b1, o1, rfl, hc1⟩ := hr1'.cells (by omega)
  obtain ⟨b2, o2, rfl, hc2⟩ := hr2.cells (by omega)
  have k1 := hc1 _ _ (rcs_get L1 1 x1 hx1).2.2.2.1
  have k2 := hc2 _ _ (rcs_get L2 0 x2 hx2).2.2.2.1
  rw [← Nat.add_assoc] at k1 k2
  simp only [Nat.zero_mul, Nat.add_zero] at k2
  have lt1 := World.block_lt_of_cell? _ _ k1
  have lt2 := World.block_lt_of_cell? _ _ k2
  obtain ⟨D1, dn1, dc1, hD1, _, _, _⟩ := hd1.form
  obtain ⟨D2, dn2, dc2, hD2, hdl, _, _⟩ := hd2.form
  obtain rfl : dn2 = 1 := by
    have : (idl (rdep 3 0)).length = 2 := rfl
    omega
  have hrd1 := hd1.rw (St.start w2)
  rw [hD1] at k1 hrd1
  rw [hD2] at k2
  have a1 := (St.start w2).row_lit 42 2 1 #[.int .i64 0, .int .i64 1] rfl (by decide)
  go_wp2_with fail
  refine (sameIds_any _ _ [(0, 1)] [(0, 1)] _ (hrd1.alloc _) (a1.row_rw (by decide))).mono ?_
  rintro e w3 ⟨rfl, hb3⟩
  rw [decide_eq_true rfl]
  have hbb : Below w2.heap.size w2 w3 := by
    have := (St.start w2).alloc (.cells #[.int .i64 0, .int .i64 1] 42) |>.below hb3
    exact this.toBelow (((Env.refl w2).alloc _).trans (bel_env hb3))
  have k2 := (hbb.cell (p := ⟨b2, o2 + 3, none⟩) lt2).trans k2
  go_wp2_with fail
  go_ret
  exact ⟨rfl, ((St.start w2).below hbb |>.weaken (Hp.le_trans (snap_le hb1) (snap_le hb2))).toBelow (((bel_env hb1).trans (bel_env hb2)).trans (bel_env hbb))⟩
/-- One round of the law: the record that must be, and what there is. -/
theorem St.blkAt {H : Hp} {l : List HA} {w : World} (h : St H l w) (cs : Array Value) (t : TypeId) (g : Nat) (hg : g = w.heap.size) : St H (Blk g cs t :: l) (w.alloc (.cells cs t)) := by
  subst hg
  exact h.blk cs t
set_option maxRecDepth 100000 in
set_option maxHeartbeats 1600000 in
theorem genChains_any (n : Int) (s : ByteArray) (w : World) (hs : s.size ≤ 9223372036854775807) :
    Calls Try.prog 4 #[.int .i64 n, .string s] w fun e w' => e = .returned (.bool true) ∧ Below w.heap.size w w' := by
  by_cases hs1 : (100 : Int) < s.size
  · go_enter Try.func4, Try.ntmps4
    go_wp2_with fail
    refine (works32 _).mono ?_
    rintro e w1 ⟨rfl, hb1⟩
    go_wp2_with fail
    go_ret
    exact ⟨rfl, hb1⟩
  by_cases hn1 : (1000 : Int) < n
  · go_enter Try.func4, Try.ntmps4
    go_wp2_with fail
    refine (works32 _).mono ?_
    rintro e w1 ⟨rfl, hb1⟩
    go_wp2_with fail
    go_ret
    exact ⟨rfl, hb1⟩
  cases hok : chainOk n s with
  | false =>
    go_enter Try.func4, Try.ntmps4
    go_wp2_with fail
    refine (chain_no n s _ hok hs).mono ?_
    rintro e w1 ⟨rfl, hb1⟩
    go_wp2_with fail
    refine (ring_no n s _ hok hs).mono ?_
    rintro e w2 ⟨rfl, hb2⟩
    have hbb : Below w.heap.size w w2 := ((St.start w2).weaken (Hp.le_trans (snap_le hb1) (snap_le hb2))).toBelow ((bel_env hb1).trans (bel_env hb2))
    by_cases h1 : n < 1
    · go_wp2_with fail
      refine (works32 _).mono ?_
      rintro e w3 ⟨rfl, hb3⟩
      go_wp2_with fail
      go_ret
      exact ⟨rfl, ((St.start w3).weaken (Hp.le_trans (snap_le hbb) (snap_le hb3))).toBelow ((bel_env hbb).trans (bel_env hb3))⟩
    · by_cases h2 : 64 < n
      · go_wp2_with fail
        refine (works32 _).mono ?_
        rintro e w3 ⟨rfl, hb3⟩
        go_wp2_with fail
        go_ret
        exact ⟨rfl, ((St.start w3).weaken (Hp.le_trans (snap_le hbb) (snap_le hb3))).toBelow ((bel_env hbb).trans (bel_env hb3))⟩
      · have hk : keyOk s = false := by
          unfold chainOk at hok
          rw [decide_eq_true (by omega), decide_eq_true (by omega)] at hok
          simpa using hok
        have h3 : 1 ≤ n := by omega
        have h4 : n ≤ 64 := by omega
        go_wp2_with fail
        refine (refKey_any s _ hs).mono ?_
        rintro e w2' ⟨rfl, hb2'⟩
        subst hb2'
        rw [hk]
        go_wp2_with fail
        refine (works32 _).mono ?_
        rintro e w3 ⟨rfl, hb3⟩
        go_wp2_with fail
        go_ret
        exact ⟨rfl, ((St.start w3).weaken (Hp.le_trans (snap_le hbb) (snap_le hb3))).toBelow ((bel_env hbb).trans (bel_env hb3))⟩
  | true =>
    obtain ⟨⟨h1, h64⟩, hk⟩ : (1 ≤ n ∧ n ≤ 64) ∧ keyOk s = true := by
      unfold chainOk at hok
      simpa using hok
    obtain ⟨N, rfl⟩ : ∃ N : Nat, n = N := ⟨n.toNat, by omega⟩
    clear hok
    go_enter Try.func4, Try.ntmps4
    go_wp2_with fail
    refine (chain_at N s w (by omega) (by omega) hk hs).mono ?_
    rintro e w1 ⟨v1, L1, rfl, hb1, hr1, hl1, hg1⟩
    go_wp2_with fail
    refine (ring_at N s w1 (by omega) (by omega) hk hs).mono ?_
    rintro e w2 ⟨v2, L2, rfl, hb2, hr2, hl2, hg2⟩
    have hr1' := (hr1.below hb2).rd
    have hr2' := hr2.rd
    have hs2 := snap_le hb2
    have hg1' := fun j x hj => (hg1 j x hj).mono hs2
    have hen2 := (bel_env hb1).trans (bel_env hb2)
    have hle := Hp.le_trans (snap_le hb1) hs2
    have hst2 := St.start w2
    generalize snap w2 = H at *
    obtain ⟨A1, n1, c1, rfl, e1, _, _⟩ := hr1'.form
    obtain ⟨A2, n2, c2, rfl, e2, _, _⟩ := hr2'.form
    rw [rcs_len] at e1 e2
    obtain rfl : n1 = N := by omega
    obtain rfl : n2 = n1 := by omega
    clear hr1 hr2 hg1 hb1 hb2 hs2
    go_wp2_with fail
    refine (refKey_any s _ hs).mono ?_
    rintro e w2' ⟨rfl, hb2'⟩
    subst hb2'
    rw [hk]
    go_wp2_with fail
    go_loopw [7] (fun i wr => ∃ k : Nat, k ≤ n2 ∧ i = .int .i64 k ∧ St H [] wr ∧ Env w wr) (fun i _ => n2 - (intOf i).toNat)
    case atStart => exact ⟨0, Nat.zero_le _, rfl, hst2, hen2⟩
    case round =>
      obtain ⟨k, hk', rfl, hst, hen⟩ := hrel
      by_cases hlt : k < n2
      · obtain ⟨⟨y1, d1, e1'⟩, hx1⟩ : ∃ x, L1[k]? = some x := ⟨_, List.getElem?_eq_getElem (by omega)⟩
        obtain ⟨⟨y2, d2, e2'⟩, hx2⟩ : ∃ x, L2[k]? = some x := ⟨_, List.getElem?_eq_getElem (by omega)⟩
        obtain ⟨hy1, hd1, he1⟩ := hg1' k _ hx1
        obtain ⟨hy2, hd2, he2⟩ := hg2 k _ hx2
        simp only at hy1 hy2 hd1 hd2 he1 he2
        subst hy1 hy2
        have a1 := hst.row_litAt 45 3 1 #[.int .i64 4, .string s, .float .f64 4607182418800017408] wr.heap.size rfl rfl (by decide)
        obtain ⟨H1, l1, b1, hB⟩ := a1.row_keep
        rcases Nat.eq_zero_or_pos k with hk0 | hk0
        · have t1 : ¬ (0 : Int) < k := by omega
          have t2 : ((k : Int) == 0) = true := by rw [hk0]; rfl
          have hcd : cdep k = [] := if_pos hk0
          rw [hcd] at hd1
          have a2 := St.blkAt b1 #[.int .i64 0, .int .i64 (k + 1), .int .i64 (k + 1), .slice none 0 0, .slice (some ⟨wr.heap.size, 0, none⟩) 1 1] 49 (wr.heap.size + 1) (by simp)
          have en3 := (hen.alloc (.cells #[.int .i64 4, .string s, .float .f64 4607182418800017408] 45)).alloc (.cells #[.int .i64 0, .int .i64 (k + 1), .int .i64 (k + 1), .slice none 0 0, .slice (some ⟨wr.heap.size, 0, none⟩) 1 1] 49)
          by_cases hN : 1 < n2
          · have hN' : (1 : Int) < n2 := by omega
            rw [show rdep n2 k = [(0, (n2 : Int))] from if_pos ⟨hk0, hN⟩] at hd2
            clear hk0
            go_wp2_with fail
            generalize (wr.alloc (.cells #[.int .i64 4, .string s, .float .f64 4607182418800017408] 45)).alloc (.cells #[.int .i64 0, .int .i64 (k + 1), .int .i64 (k + 1), .slice none 0 0, .slice (some ⟨wr.heap.size, 0, none⟩) 1 1] 49) = W3 at *
            generalize wr.heap.size + 1 = g at *
            generalize wr.heap.size = gb at *
            obtain ⟨cb, co, cA, cc⟩ := Rd.cells (hr1'.mono l1) a2 (by omega)
            cases cA
            have q0 := cc _ _ (rcs_get L1 k _ hx1).1
            have q1 := cc _ _ (rcs_get L1 k _ hx1).2.1
            have q2 := cc _ _ (rcs_get L1 k _ hx1).2.2.1
            have q3 := cc _ _ (rcs_get L1 k _ hx1).2.2.2.1
            have q4 := cc _ _ (rcs_get L1 k _ hx1).2.2.2.2
            rw [← Nat.add_assoc] at q1 q2 q3 q4
            have z0 : (W3).cell? ⟨g, 0, none⟩ = some (.int .i64 0) := (a2).blk_cell 0
            have z1 : (W3).cell? ⟨g, 1, none⟩ = some (.int .i64 (k + 1)) := (a2).blk_cell 1
            have z2 : (W3).cell? ⟨g, 2, none⟩ = some (.int .i64 (k + 1)) := (a2).blk_cell 2
            have z3 : (W3).cell? ⟨g, 3, none⟩ = some (.slice none 0 0) := (a2).blk_cell 3
            have z4 : (W3).cell? ⟨g, 4, none⟩ = some (.slice (some ⟨gb, 0, none⟩) 1 1) := (a2).blk_cell 4
            clear cc
            go_still_tail 5, (by kernel_rfl)
            change wpList _ _ _ _ _ (W3).drew
            go_wp2_with fail
            refine (recSame_one s (k + 1) ([]) _ _ _ _ _ (Rd.rw (hd1.mono l1) a2.drew) (Rd.rw (he1.mono l1) a2.drew) (Rd.rw (Rd.nil H1 2) a2.drew) (Rd.rw hB a2.drew)).mono ?_
            rintro e w5 ⟨rfl, hb5⟩
            have a5 := a2.drew.below hb5
            have f5 := a5.blk_free 3
            have bl5 := a5.blk_lt
            have y3 : w5.cell? ⟨g, 3, none⟩ = some (.slice none 0 0) := a5.blk_cell 3
            have en5 := en3.drew.trans (bel_env hb5)
            have a6 := a5.blk_set 3 (.slice (some ⟨w5.heap.size, 0, none⟩) 1 1)
            have a7 := a6.row_litAt 42 2 1 #[.int .i64 0, .int .i64 n2] w5.heap.size (by simp) rfl (by decide)
            obtain ⟨H6, l6, a8, hD⟩ := a7.row_keep
            have en8 := (en5.setCell ⟨g, 3, none⟩ (.slice (some ⟨w5.heap.size, 0, none⟩) 1 1)).alloc (.cells #[.int .i64 0, .int .i64 n2] 42)
            clear q0 q1 q2 q3 q4 z0 z1 z2 z3 z4
            go_wp2_with fail
            generalize ((w5.setCell ⟨g, 3, none⟩ (.slice (some ⟨w5.heap.size, 0, none⟩) 1 1)).alloc (.cells #[.int .i64 0, .int .i64 n2] 42)) = W8 at *
            clear f5 bl5 y3
            obtain ⟨cb, co, cA, cc⟩ := Rd.cells ((hr2'.mono l1).mono l6) a8 (by omega)
            cases cA
            have q0 := cc _ _ (rcs_get L2 k _ hx2).1
            have q1 := cc _ _ (rcs_get L2 k _ hx2).2.1
            have q2 := cc _ _ (rcs_get L2 k _ hx2).2.2.1
            have q3 := cc _ _ (rcs_get L2 k _ hx2).2.2.2.1
            have q4 := cc _ _ (rcs_get L2 k _ hx2).2.2.2.2
            rw [← Nat.add_assoc] at q1 q2 q3 q4
            have z0 : (W8).cell? ⟨g, 0, none⟩ = some (.int .i64 0) := (a8).blk_cell 0
            have z1 : (W8).cell? ⟨g, 1, none⟩ = some (.int .i64 (k + 1)) := (a8).blk_cell 1
            have z2 : (W8).cell? ⟨g, 2, none⟩ = some (.int .i64 (k + 1)) := (a8).blk_cell 2
            have z3 : (W8).cell? ⟨g, 3, none⟩ = some (.slice (some ⟨w5.heap.size, 0, none⟩) 1 1) := (a8).blk_cell 3
            have z4 : (W8).cell? ⟨g, 4, none⟩ = some (.slice (some ⟨gb, 0, none⟩) 1 1) := (a8).blk_cell 4
            clear cc
            go_still_tail 5, (by kernel_rfl)
            change wpList _ _ _ _ _ (W8).drew
            go_wp2_with fail
            refine (recSame_one s (k + 1) ([(0, (n2 : Int))]) _ _ _ _ _ (Rd.rw ((hd2.mono l1).mono l6) a8.drew) (Rd.rw ((he2.mono l1).mono l6) a8.drew) (Rd.rw hD a8.drew) (Rd.rw (hB.mono l6) a8.drew)).mono ?_
            rintro e w9 ⟨rfl, hb9⟩
            have a9 := a8.drew.below hb9
            go_wp2_with fail
            go_roundw
            case rel => exact ⟨k + 1, by omega, by go_num, a9.drop.weaken (Hp.le_trans l1 l6), en8.drew.trans (bel_env hb9)⟩
            case measure => simp [intOf]; omega
          · have hN' : ¬ (1 : Int) < n2 := by omega
            rw [show rdep n2 k = [] from (if_neg (fun h => hN h.2)).trans hcd] at hd2
            clear hk0
            go_wp2_with fail
            generalize (wr.alloc (.cells #[.int .i64 4, .string s, .float .f64 4607182418800017408] 45)).alloc (.cells #[.int .i64 0, .int .i64 (k + 1), .int .i64 (k + 1), .slice none 0 0, .slice (some ⟨wr.heap.size, 0, none⟩) 1 1] 49) = W3 at *
            generalize wr.heap.size + 1 = g at *
            generalize wr.heap.size = gb at *
            obtain ⟨cb, co, cA, cc⟩ := Rd.cells (hr1'.mono l1) a2 (by omega)
            cases cA
            have q0 := cc _ _ (rcs_get L1 k _ hx1).1
            have q1 := cc _ _ (rcs_get L1 k _ hx1).2.1
            have q2 := cc _ _ (rcs_get L1 k _ hx1).2.2.1
            have q3 := cc _ _ (rcs_get L1 k _ hx1).2.2.2.1
            have q4 := cc _ _ (rcs_get L1 k _ hx1).2.2.2.2
            rw [← Nat.add_assoc] at q1 q2 q3 q4
            have z0 : (W3).cell? ⟨g, 0, none⟩ = some (.int .i64 0) := (a2).blk_cell 0
            have z1 : (W3).cell? ⟨g, 1, none⟩ = some (.int .i64 (k + 1)) := (a2).blk_cell 1
            have z2 : (W3).cell? ⟨g, 2, none⟩ = some (.int .i64 (k + 1)) := (a2).blk_cell 2
            have z3 : (W3).cell? ⟨g, 3, none⟩ = some (.slice none 0 0) := (a2).blk_cell 3
            have z4 : (W3).cell? ⟨g, 4, none⟩ = some (.slice (some ⟨gb, 0, none⟩) 1 1) := (a2).blk_cell 4
            clear cc
            go_still_tail 5, (by kernel_rfl)
            change wpList _ _ _ _ _ (W3).drew
            go_wp2_with fail
            refine (recSame_one s (k + 1) ([]) _ _ _ _ _ (Rd.rw (hd1.mono l1) a2.drew) (Rd.rw (he1.mono l1) a2.drew) (Rd.rw (Rd.nil H1 2) a2.drew) (Rd.rw hB a2.drew)).mono ?_
            rintro e w5 ⟨rfl, hb5⟩
            have a5 := a2.drew.below hb5
            clear q0 q1 q2 q3 q4 z0 z1 z2 z3 z4
            go_wp2_with fail
            obtain ⟨cb, co, cA, cc⟩ := Rd.cells (hr2'.mono l1) a5 (by omega)
            cases cA
            have q0 := cc _ _ (rcs_get L2 k _ hx2).1
            have q1 := cc _ _ (rcs_get L2 k _ hx2).2.1
            have q2 := cc _ _ (rcs_get L2 k _ hx2).2.2.1
            have q3 := cc _ _ (rcs_get L2 k _ hx2).2.2.2.1
            have q4 := cc _ _ (rcs_get L2 k _ hx2).2.2.2.2
            rw [← Nat.add_assoc] at q1 q2 q3 q4
            have z0 : (w5).cell? ⟨g, 0, none⟩ = some (.int .i64 0) := (a5).blk_cell 0
            have z1 : (w5).cell? ⟨g, 1, none⟩ = some (.int .i64 (k + 1)) := (a5).blk_cell 1
            have z2 : (w5).cell? ⟨g, 2, none⟩ = some (.int .i64 (k + 1)) := (a5).blk_cell 2
            have z3 : (w5).cell? ⟨g, 3, none⟩ = some (.slice none 0 0) := (a5).blk_cell 3
            have z4 : (w5).cell? ⟨g, 4, none⟩ = some (.slice (some ⟨gb, 0, none⟩) 1 1) := (a5).blk_cell 4
            clear cc
            go_still_tail 5, (by kernel_rfl)
            change wpList _ _ _ _ _ (w5).drew
            go_wp2_with fail
            refine (recSame_one s (k + 1) ([]) _ _ _ _ _ (Rd.rw (hd2.mono l1) a5.drew) (Rd.rw (he2.mono l1) a5.drew) (Rd.rw (Rd.nil H1 2) a5.drew) (Rd.rw hB a5.drew)).mono ?_
            rintro e w9 ⟨rfl, hb9⟩
            have a9 := a5.drew.below hb9
            go_wp2_with fail
            go_roundw
            case rel => exact ⟨k + 1, by omega, by go_num, a9.drop.weaken l1, ((en3.drew.trans (bel_env hb5)).drew).trans (bel_env hb9)⟩
            case measure => simp [intOf]; omega
        · have t1 : (0 : Int) < k := by omega
          have t2 : ((k : Int) == 0) = false := beq_eq_false_iff_ne.2 (by omega)
          have hcd : cdep k = [(0, (k : Int))] := if_neg (by omega)
          have hrd : rdep n2 k = [(0, (k : Int))] := (if_neg (fun h => by omega)).trans hcd
          rw [hcd] at hd1
          rw [hrd] at hd2
          have a2 := St.blkAt b1 #[.int .i64 0, .int .i64 (k + 1), .int .i64 (k + 1), .slice (some ⟨wr.heap.size + 1 + 1, 0, none⟩) 1 1, .slice (some ⟨wr.heap.size, 0, none⟩) 1 1] 49 (wr.heap.size + 1) (by simp)
          have a3 := a2.row_litAt 42 2 1 #[.int .i64 0, .int .i64 k] (wr.heap.size + 1 + 1) (by simp) rfl (by decide)
          have en3 := ((hen.alloc (.cells #[.int .i64 4, .string s, .float .f64 4607182418800017408] 45)).alloc (.cells #[.int .i64 0, .int .i64 (k + 1), .int .i64 (k + 1), .slice (some ⟨wr.heap.size + 1 + 1, 0, none⟩) 1 1, .slice (some ⟨wr.heap.size, 0, none⟩) 1 1] 49)).alloc (.cells #[.int .i64 0, .int .i64 k] 42)
          obtain ⟨H3, l3, a4, hD⟩ := a3.row_keep
          go_wp2_with fail
          generalize ((wr.alloc (.cells #[.int .i64 4, .string s, .float .f64 4607182418800017408] 45)).alloc (.cells #[.int .i64 0, .int .i64 (k + 1), .int .i64 (k + 1), .slice (some ⟨wr.heap.size + 1 + 1, 0, none⟩) 1 1, .slice (some ⟨wr.heap.size, 0, none⟩) 1 1] 49)).alloc (.cells #[.int .i64 0, .int .i64 k] 42) = W3 at *
          generalize wr.heap.size + 1 + 1 = gi at *
          generalize wr.heap.size + 1 = g at *
          generalize wr.heap.size = gb at *
          obtain ⟨cb, co, cA, cc⟩ := Rd.cells ((hr1'.mono l1).mono l3) a4 (by omega)
          cases cA
          have q0 := cc _ _ (rcs_get L1 k _ hx1).1
          have q1 := cc _ _ (rcs_get L1 k _ hx1).2.1
          have q2 := cc _ _ (rcs_get L1 k _ hx1).2.2.1
          have q3 := cc _ _ (rcs_get L1 k _ hx1).2.2.2.1
          have q4 := cc _ _ (rcs_get L1 k _ hx1).2.2.2.2
          rw [← Nat.add_assoc] at q1 q2 q3 q4
          have z0 : (W3).cell? ⟨g, 0, none⟩ = some (.int .i64 0) := (a4).blk_cell 0
          have z1 : (W3).cell? ⟨g, 1, none⟩ = some (.int .i64 (k + 1)) := (a4).blk_cell 1
          have z2 : (W3).cell? ⟨g, 2, none⟩ = some (.int .i64 (k + 1)) := (a4).blk_cell 2
          have z3 : (W3).cell? ⟨g, 3, none⟩ = some (.slice (some ⟨gi, 0, none⟩) 1 1) := (a4).blk_cell 3
          have z4 : (W3).cell? ⟨g, 4, none⟩ = some (.slice (some ⟨gb, 0, none⟩) 1 1) := (a4).blk_cell 4
          clear cc
          go_still_tail 5, (by kernel_rfl)
          change wpList _ _ _ _ _ (W3).drew
          go_wp2_with fail
          refine (recSame_one s (k + 1) ([(0, (k : Int))]) _ _ _ _ _ (Rd.rw ((hd1.mono l1).mono l3) a4.drew) (Rd.rw ((he1.mono l1).mono l3) a4.drew) (Rd.rw hD a4.drew) (Rd.rw (hB.mono l3) a4.drew)).mono ?_
          rintro e w5 ⟨rfl, hb5⟩
          have a5 := a4.drew.below hb5
          clear q0 q1 q2 q3 q4 z0 z1 z2 z3 z4
          go_wp2_with fail
          obtain ⟨cb, co, cA, cc⟩ := Rd.cells ((hr2'.mono l1).mono l3) a5 (by omega)
          cases cA
          have q0 := cc _ _ (rcs_get L2 k _ hx2).1
          have q1 := cc _ _ (rcs_get L2 k _ hx2).2.1
          have q2 := cc _ _ (rcs_get L2 k _ hx2).2.2.1
          have q3 := cc _ _ (rcs_get L2 k _ hx2).2.2.2.1
          have q4 := cc _ _ (rcs_get L2 k _ hx2).2.2.2.2
          rw [← Nat.add_assoc] at q1 q2 q3 q4
          have z0 : (w5).cell? ⟨g, 0, none⟩ = some (.int .i64 0) := (a5).blk_cell 0
          have z1 : (w5).cell? ⟨g, 1, none⟩ = some (.int .i64 (k + 1)) := (a5).blk_cell 1
          have z2 : (w5).cell? ⟨g, 2, none⟩ = some (.int .i64 (k + 1)) := (a5).blk_cell 2
          have z3 : (w5).cell? ⟨g, 3, none⟩ = some (.slice (some ⟨gi, 0, none⟩) 1 1) := (a5).blk_cell 3
          have z4 : (w5).cell? ⟨g, 4, none⟩ = some (.slice (some ⟨gb, 0, none⟩) 1 1) := (a5).blk_cell 4
          clear cc
          go_still_tail 5, (by kernel_rfl)
          change wpList _ _ _ _ _ (w5).drew
          go_wp2_with fail
          refine (recSame_one s (k + 1) ([(0, (k : Int))]) _ _ _ _ _ (Rd.rw ((hd2.mono l1).mono l3) a5.drew) (Rd.rw ((he2.mono l1).mono l3) a5.drew) (Rd.rw hD a5.drew) (Rd.rw (hB.mono l3) a5.drew)).mono ?_
          rintro e w9 ⟨rfl, hb9⟩
          have a9 := a5.drew.below hb9
          go_wp2_with fail
          go_roundw
          case rel => exact ⟨k + 1, by omega, by go_num, a9.drop.weaken (Hp.le_trans l1 l3), ((en3.drew.trans (bel_env hb5)).drew).trans (bel_env hb9)⟩
          case measure => simp [intOf]; omega
      · go_wp2_with fail
        refine (works32 _).mono ?_
        rintro e w3 ⟨rfl, hb3⟩
        go_wp2_with fail
        go_ret
        exact ⟨rfl, ((hst.below hb3).weaken hle).toBelow (hen.trans (bel_env hb3))⟩
end Go.Proofs.Ytmdmekdmlkhchaa
