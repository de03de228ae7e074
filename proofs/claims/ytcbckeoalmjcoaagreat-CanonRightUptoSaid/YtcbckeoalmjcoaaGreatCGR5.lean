/- Joined texts: Compact, Flt, Real. -/
import Ieee.Arith
import Derived.Test.YtcbckeoalmjcoaaGreatCGR3
import Derived.Test.YtcbckeoalmjcoaaGreatCGR4
/- slices.Compact of ids, ident.Sorted of any. -/
set_option linter.unusedVariables false
set_option linter.unusedSimpArgs false
namespace Go.Cw
open Go.RowKit Go.Lib
section
variable {P : Program} {H : Hp} {l : List HA} {w : World} {e : TypeId} {sz : Nat} {cs : List Value}
/-- Cells stored over a row of one's own, from its element k on: m elements. -/
theorem St.store_row {g off n c : Nat} (h : St H (Row e sz (.slice (some ⟨g, off, none⟩) n c) cs :: l) w) (k m : Nat) (news : List Value) (hn : news.length = m * sz) (hk : (k + m) * sz ≤ cs.length) (h1 : ∀ u ∈ news, u.oneCell' = true) :
    ∃ w', (storeCells ⟨g, off + k * sz, none⟩ news).run P w = .ok () w' ∧ St H (Row e sz (.slice (some ⟨g, off, none⟩) n c) (cs.take (k * sz) ++ news ++ cs.drop ((k + m) * sz)) :: l) w' ∧ Env w w' := by
  have hadd : (k + m) * sz = k * sz + m * sz := Nat.add_mul ..
  obtain ⟨S, ⟨S1, S2, hR, h2, hdj, hs⟩, hno⟩ := h.sep
  rcases hR with ⟨hv, _⟩ | ⟨g', off', n', cap, cur, hv, hl', hc', hM', hh, hs', hjj, hS⟩
  · cases hv
  · cases hv
    have hM0 := hM'
    have hcl : cs.length ≤ c * sz := by rw [hl']; exact Nat.mul_le_mul_right _ hc'
    have hst := run_storeCells_cells (P := P) g (off + k * sz) news 0 w
      (fun j hj => by
        simp only [Nat.add_zero, World.cell?, hh]
        rw [if_neg (by simp)]
        simp
        omega)
      (fun j hj => by simp [World.frozen?, hh]) h1
    simp only [Nat.add_zero] at hst
    obtain ⟨cur', hh', hsz', hlow, hnew, hfar⟩ := setCells_heap g news (off + k * sz) w cur e hh (by omega)
    have hbey := setCells_far g news (off + k * sz) w cur e hh cur' e hh'
    refine ⟨w.setCells g (off + k * sz) news, ?_, ?_, setCells_env _ _ _ _⟩
    · exact hst
    · refine h.turn (setCells_env _ _ _ _).size (fun S hS => ?_)
      rcases hS with ⟨hv, _⟩ | ⟨g', off', n', cap', cur2, hv, _, _, _, hh2, _, _, hS⟩
      · cases hv
      · cases hv
        refine ⟨S, .inr ⟨g, off, n, c, cur', rfl, ?_, hc', hM', hh', by omega, fun j u hj => ?_, hS⟩, fun k hk => .inl hk, fun k _ hk => hfar k (fun e => hk ((hS k).2 e))⟩
        · simp only [List.length_append, List.length_take, List.length_drop]
          omega
        · have hlt : (cs.take (k * sz)).length = k * sz := by rw [List.length_take]; omega
          rw [List.append_assoc] at hj
          rcases Nat.lt_or_ge j (k * sz) with hj1 | hj1
          · rw [List.getElem?_append_left (by omega), List.getElem?_take_of_lt hj1] at hj
            rw [hlow (off + j) (by omega)]
            exact hjj j u hj
          · rw [List.getElem?_append_right (by omega), hlt] at hj
            rcases Nat.lt_or_ge (j - k * sz) news.length with hj2 | hj2
            · rw [List.getElem?_append_left hj2] at hj
              have := hnew _ u hj
              rwa [show off + k * sz + (j - k * sz) = off + j by omega] at this
            · rw [List.getElem?_append_right hj2, List.getElem?_drop, show (k + m) * sz + (j - k * sz - news.length) = j by omega] at hj
              rw [hbey (off + j) (by omega)]
              exact hjj j u hj
/-- clear(s[k:]), s a row of one's own. -/
theorem St.clear_row {g off n c : Nat} (h : St H (Row e sz (.slice (some ⟨g, off, none⟩) n c) cs :: l) w) (t ty : TypeId) (z : Value) (ht : P.underlying t = some (.slice e)) (hv : ∀ w, (zeroValue e).run P w = .ok z w) (hzs : z.cells.size = sz) (hz1 : ∀ u ∈ z.cells.toList, u.oneCell' = true) (k m c' o' : Nat) (ho : 0 < m → o' = off + k * sz) (hk : k + m = n) :
    ∃ w' zs, (Builtin.clear_ #[t] ty #[.slice (some ⟨g, o', none⟩) m c']).run P w = .ok (.tuple #[]) w' ∧ St H (Row e sz (.slice (some ⟨g, off, none⟩) n c) (cs.take (k * sz) ++ zs) :: l) w' ∧ Env w w' := by
  obtain ⟨A, n', c'', hvv, hl, hnc, hM⟩ := h.row_form
  cases hvv
  subst hk
  rcases Nat.eq_zero_or_pos m with rfl | hm
  · refine ⟨w, cs.drop (k * sz), ?_, by rw [List.take_append_drop]; exact h, Env.refl w⟩
    simp [Builtin.clear_, run_underlying ht]
  · obtain rfl := ho hm
    have hzl : (Builtin.zeroCells z.cells m).toList.length = m * sz := by simp [size_zeroCells, hzs]
    obtain ⟨w', hst, h', en⟩ := h.store_row (P := P) k m (Builtin.zeroCells z.cells m).toList hzl (by rw [hl]; exact Nat.le_refl _) (fun u hu => by
      simp only [Builtin.zeroCells, Array.toList_map, List.mem_map, Array.toList_range, List.mem_range] at hu
      obtain ⟨i, hi, rfl⟩ := hu
      have hpos : 0 < z.cells.size := by
        rcases Nat.eq_zero_or_pos z.cells.size with h0 | h0
        · rw [h0, Nat.mul_zero] at hi; omega
        · exact h0
      have hlt := Nat.mod_lt i hpos
      rw [getElem!_pos z.cells (i % z.cells.size) hlt]
      exact hz1 _ (by simp))
    refine ⟨w', (Builtin.zeroCells z.cells m).toList, ?_, ?_, en⟩
    · obtain ⟨m', rfl⟩ : ∃ m', m = m' + 1 := ⟨m - 1, by omega⟩
      simp [Builtin.clear_, run_underlying ht, hv, hst]
    · rw [List.drop_of_length_le (by rw [hl]; exact Nat.le_refl _), List.append_nil] at h'
      exact h'
end
end Go.Cw
namespace Go.Proofs.YtcbckeoalmjcoaaGreat
open Go.RowKit Go.Cw
attribute [local go_sem ↓] eql_id neq_id
/-- The elements ahead of j that are not as the one ahead of them. -/
def runsTo (l : List Id) : Nat → List Id
  | 0 => []
  | j + 1 => if j ≠ 0 ∧ l[j]? = l[j - 1]? then runsTo l j else runsTo l j ++ (l[j]?).toList
def runs (l : List Id) : List Id := runsTo l l.length
theorem runsTo_len (l : List Id) : ∀ j, (runsTo l j).length ≤ j
  | 0 => Nat.le_refl _
  | j + 1 => by
    have := runsTo_len l j
    have h2 : (l[j]?).toList.length ≤ 1 := by cases l[j]? <;> simp
    unfold runsTo
    split
    · omega
    · rw [List.length_append]; omega
theorem runsTo_take (l : List Id) : ∀ j, j ≤ l.length → (∀ i, 1 ≤ i → i < j → l[i]? ≠ l[i - 1]?) → runsTo l j = l.take j
  | 0, _, _ => rfl
  | j + 1, hj, h => by
    rw [runsTo, if_neg (fun hh => h j (by omega) (by omega) hh.2), runsTo_take l j (by omega) (fun i h1 h2 => h i h1 (by omega)), List.take_add_one]
theorem runsTo_eq (l : List Id) (j : Nat) (h0 : 1 ≤ j) (h : l[j]? = l[j - 1]?) : runsTo l (j + 1) = runsTo l j := by
  rw [runsTo, if_pos ⟨by omega, h⟩]
theorem runsTo_ne (l : List Id) (j : Nat) (hj : j < l.length) (h : ¬ l[j]? = l[j - 1]?) : runsTo l (j + 1) = runsTo l j ++ [l[j]] := by
  rw [runsTo, if_neg (fun hh => h hh.2), List.getElem?_eq_getElem hj]
  rfl
theorem idl_set (l : List Id) (k : Nat) (x : Id) (hk : k < l.length) : ((idl l).set (k * 2) (.int .i64 x.1)).set (k * 2 + 1) (.int .i64 x.2) = idl (l.set k x) := by
  apply List.ext_getElem?
  intro i
  have hL : (idl l).length = l.length * 2 := idl_len l
  rcases Nat.lt_or_ge i (l.length * 2) with hi | hi
  · obtain ⟨q, rfl | rfl⟩ : ∃ q, i = q * 2 ∨ i = q * 2 + 1 := ⟨i / 2, by omega⟩
    · rw [idl_fst (l.set k x) q (by rw [List.length_set]; omega), List.getElem?_set_ne (by omega)]
      by_cases hq : k = q
      · subst hq
        rw [List.getElem?_set_self (by omega), List.getElem_set_self]
      · rw [List.getElem?_set_ne (by omega), idl_fst l q (by omega), List.getElem_set_ne hq]
    · rw [idl_snd (l.set k x) q (by rw [List.length_set]; omega)]
      by_cases hq : k = q
      · subst hq
        rw [List.getElem?_set_self (by rw [List.length_set]; omega), List.getElem_set_self]
      · rw [List.getElem?_set_ne (by omega), List.getElem?_set_ne (by omega), idl_snd l q (by omega), List.getElem_set_ne hq]
  · rw [List.getElem?_eq_none (by rw [List.length_set, List.length_set, hL]; exact hi), List.getElem?_eq_none (by rw [idl_len, List.length_set]; exact hi)]
theorem zeroId (w : World) : (zeroValue 41).run Tryz.prog w = .ok (.agg #[.int .i64 0, .int .i64 0]) w := by kernel_rfl
set_option maxRecDepth 100000 in
set_option maxHeartbeats 3200000 in
theorem compact_own (g off n c : Nat) (l : List Id) (H : Hp) (fr : List HA) (w : World) (h : St H (Row 41 2 (.slice (some ⟨g, off, none⟩) n c) (idl l) :: fr) w) :
    Calls Tryz.prog 77 #[.slice (some ⟨g, off, none⟩) n c] w fun e w' => ∃ n', e = .returned (.slice (some ⟨g, off, none⟩) n' c) ∧ St H (Row 41 2 (.slice (some ⟨g, off, none⟩) n' c) (idl (runs l)) :: fr) w' ∧ Env w w' := by
  obtain ⟨A, n0, c0, hv, hl, hn, hc⟩ := h.row_form
  cases hv
  rw [idl_len] at hl
  obtain rfl : n = l.length := by omega
  clear hl
  have hc' : c ≤ 9223372036854775807 := by simpa [maxLen] using hc
  rcases Nat.lt_or_ge l.length 2 with h2 | h2
  · have h2' : (l.length : Int) < 2 := by omega
    have hr : runs l = l := by
      unfold runs
      rw [runsTo_take l _ (Nat.le_refl _) (fun i h1 h3 => by omega), List.take_length]
    go_enter Tryz.func77, Tryz.ntmps77
    go_wp2_with fail
    go_ret
    exact ⟨_, rfl, by rw [hr]; exact h, Env.refl _⟩
  · have h2' : ¬ (l.length : Int) < 2 := by omega
    go_enter Tryz.func77, Tryz.ntmps77
    go_wp2_with fail
    go_loopw [3] (fun i wr => ∃ k : Nat, 1 ≤ k ∧ k ≤ l.length ∧ i = .int .i64 k ∧ St H (Row 41 2 (.slice (some ⟨g, off, none⟩) l.length c) (idl l) :: fr) wr ∧ Env w wr ∧ Hid (∀ i, 1 ≤ i → i < k → l[i]? ≠ l[i - 1]?)) (fun i _ => l.length - (intOf i).toNat)
    case atStart => exact ⟨1, by omega, by omega, by go_num, h, Env.refl _, Lib.hid (fun i h1 h3 => by omega)⟩
    case round =>
      clear h
      obtain ⟨k, hk1, hk, rfl, h, en, hno⟩ := hrel
      obtain ⟨b', o', hA, hgl, hcr, hfr⟩ := h.row_cells (by omega) (by decide)
      cases hA
      by_cases hlt : k < l.length
      · obtain ⟨m, hkm⟩ : ∃ m, Hid (k = m + 1) := ⟨k - 1, Lib.hid (by omega)⟩
        have hmk : m < l.length := by have := hkm.out; omega
        have p1 := hcr _ _ (idl_fst l k hlt)
        have p2 := hcr _ _ (idl_snd l k hlt)
        have q1 := hcr _ _ (idl_fst l m hmk)
        have q2 := hcr _ _ (idl_snd l m hmk)
        rw [← Nat.add_assoc] at p2 q2
        have hq1 : l[k]? = some l[k] := List.getElem?_eq_getElem hlt
        have hq2 : l[k - 1]? = some l[m] := by rw [show k - 1 = m by have := hkm.out; omega]; exact List.getElem?_eq_getElem (by omega)
        obtain ⟨x, HX⟩ : ∃ x, Hid (x = l[k]) := ⟨_, Lib.hid rfl⟩
        obtain ⟨y, HY⟩ : ∃ y, Hid (y = l[m]) := ⟨_, Lib.hid rfl⟩
        rw [← HX.out] at p1 p2 hq1
        rw [← HY.out] at q1 q2 hq2
        replace hq1 := Lib.hid hq1
        replace hq2 := Lib.hid hq2
        clear hcr hfr
        have hw1 : IntKind.i64.wrap ((k : Int) - 1) = (m : Int) := by have := hkm.out; rw [IntKind.wrap_i64]; omega
        have hw3 : (k : Int) - 1 = (m : Int) := by have := hkm.out; omega
        have hw2 : IntKind.i64.wrap (m : Int) = (m : Int) := by rw [IntKind.wrap_i64]; omega
        have hi0 : (0 : Int) ≤ (k : Int) := by omega
        have hm0 : (0 : Int) ≤ (m : Int) := by omega
        have hml : (m : Int) < (l.length : Int) := by have := hkm.out; omega
        have hm1 : (k : Int) < (l.length : Int) := by omega
        by_cases hxy : x = y
        · have hne := idEq_of hxy
          replace hxy := Lib.hid hxy
          go_wp2_with fail
          go_quiet (fail)
          have h4 := h.drewN nq
          have en4 := en.drewN nq
          generalize wr.drewN nq = w4 at *
          have hin2 : (k : Int) ≤ (l.length : Int) := by omega
          have hlc : (l.length : Int) ≤ (c : Int) := by omega
          have hic : (k : Int) ≤ (c : Int) := by omega
          have hcm : ¬ c = k := by omega
          have hcm2 : ¬ c - k = 0 := by omega
          have hbase := Lib.hid (runsTo_take l k (by omega) hno.out)
          have heqm := Lib.hid (runsTo_eq l k (by omega) (by rw [hq1.out, hq2.out, hxy.out]))
          clear hq1 hq2 hxy HX HY p1 p2 q1 q2 hne hno hw1 hw2 hw3 hm1
          go_wp2_with fail
          go_loopw [3, 5] (fun s3 s5 wr => ∃ (z q : Nat) (L : List Id), k + q ≤ l.length ∧ 1 ≤ q ∧ s3 = .int .i64 (z : Int) ∧ s5 = .int .i64 (q : Int) ∧ L.length = l.length ∧ z + 1 ≤ k + q ∧ Hid (L.take z = runsTo l (k + q) ∧ z = (runsTo l (k + q)).length) ∧ Hid (∀ i, k + q ≤ i + 1 → L[i]? = l[i]?) ∧ St H (Row 41 2 (.slice (some ⟨g, off, none⟩) l.length c) (idl L) :: fr) wr ∧ Env w wr) (fun _ s5 _ => l.length - (intOf s5).toNat)
          case atStart =>
            refine ⟨k, 1, l, by omega, by omega, by go_num, by go_num, rfl, by omega, Lib.hid ?_, Lib.hid (fun _ _ => rfl), h4, en4⟩
            rw [heqm.out, hbase.out, List.length_take]
            exact ⟨rfl, by omega⟩
          case round =>
            clear h4 en4 heqm hbase
            obtain ⟨z, q, L, hq, hq0, rfl, rfl, hLl, hzq, hLk, hLs, h5, en5⟩ := hrel
            obtain ⟨b', o', hA, hgl, hcr, hfr⟩ := h5.row_cells (by omega) (by decide)
            cases hA
            have hk0 : (0 : Int) ≤ (z : Int) := by omega
            have hkl : (z : Int) < (l.length : Int) := by omega
            have hkl' : (z : Int) ≤ (l.length : Int) := by omega
            have hkc : (z : Int) ≤ (c : Int) := by omega
            obtain ⟨p, hpq⟩ : ∃ p, Hid (q = p + 1) := ⟨q - 1, Lib.hid (by omega)⟩
            by_cases hlt : k + q < l.length
            · have hj0 : L[k + q]? = l[k + q]? := hLs.out _ (by omega)
              have hkp : k + p < L.length := by have := hpq.out; omega
              have hj1 : L[k + p]? = l[k + p]? := hLs.out _ (by have := hpq.out; omega)
              have p1 := hcr _ _ (idl_fst L (k + q) (by omega))
              have p2 := hcr _ _ (idl_snd L (k + q) (by omega))
              have q1 := hcr _ _ (idl_fst L (k + p) hkp)
              have q2 := hcr _ _ (idl_snd L (k + p) hkp)
              rw [show off + (k + q) * 2 = off + k * 2 + q * 2 by omega] at p1
              rw [show off + ((k + q) * 2 + 1) = off + k * 2 + q * 2 + 1 by omega] at p2
              rw [show off + (k + p) * 2 = off + k * 2 + p * 2 by omega] at q1
              rw [show off + ((k + p) * 2 + 1) = off + k * 2 + p * 2 + 1 by omega] at q2
              have hq1 : l[k + q]? = some L[k + q] := by rw [← hj0]; exact List.getElem?_eq_getElem (by omega)
              have hq2 : l[k + q - 1]? = some L[k + p] := by rw [show k + q - 1 = k + p by have := hpq.out; omega, ← hj1]; exact List.getElem?_eq_getElem hkp
              obtain ⟨x, HX⟩ : ∃ x, Hid (x = L[k + q]) := ⟨_, Lib.hid rfl⟩
              obtain ⟨y, HY⟩ : ∃ y, Hid (y = L[k + p]) := ⟨_, Lib.hid rfl⟩
              rw [← HX.out] at p1 p2 hq1
              rw [← HY.out] at q1 q2 hq2
              replace hq1 := Lib.hid hq1
              replace hq2 := Lib.hid hq2
              have hlt2 : (q : Int) < ((l.length - k : Nat) : Int) := by omega
              have hlt3 : (p : Int) < ((l.length - k : Nat) : Int) := by have := hpq.out; omega
              have hw1 : IntKind.i64.wrap ((q : Int) - 1) = (p : Int) := by have := hpq.out; rw [IntKind.wrap_i64]; omega
              have hw3 : (q : Int) - 1 = (p : Int) := by have := hpq.out; omega
              have hw2 : IntKind.i64.wrap (p : Int) = (p : Int) := by rw [IntKind.wrap_i64]; omega
              have hi0' : (0 : Int) ≤ (q : Int) := by omega
              have hm0' : (0 : Int) ≤ (p : Int) := by omega
              clear hj0 hj1
              by_cases hxy : x = y
              · have hne := idEq_of hxy
                have hstep := Lib.hid (runsTo_eq l (k + q) (by omega) (by rw [hq1.out, hq2.out, hxy]))
                replace hxy := Lib.hid hxy
                clear hcr hfr
                go_wp2_with fail
                go_quiet (fail)
                go_wp2_with fail
                go_roundw
                case rel => exact ⟨z, q + 1, L, by omega, by omega, rfl, by go_num, hLl, by omega, Lib.hid (by rw [show k + (q + 1) = k + q + 1 by omega, hstep.out]; exact hLk.out), Lib.hid (fun i hi => hLs.out i (by omega)), h5.drewN _, en5.drewN _⟩
                case measure => simp [intOf]; omega
              · have hne := idEq_no hxy
                have hstep := Lib.hid (runsTo_ne l (k + q) hlt (by
                  rw [hq1.out, hq2.out]
                  intro he
                  exact hxy (by injection he)))
                have hxl : x = l[k + q] := by
                  have := hq1.out
                  rw [List.getElem?_eq_getElem hlt] at this
                  injection this with this
                  exact this.symm
                replace hxy := Lib.hid hxy
                rw [← hxl] at hstep
                clear hxl
                go_wp2_with fail
                go_quiet (fail)
                have h6 := h5.drewN nq
                have en6 := en5.drewN nq
                clear hcr hfr h5 en5 hgl p1 p2 q1 q2
                generalize wr.drewN nq = w6 at *
                obtain ⟨b', o', hA, hgl, hcr, hfr⟩ := h6.row_cells (by omega) (by decide)
                cases hA
                obtain ⟨x1, x2⟩ := x
                have p1 := hcr _ _ (idl_fst L (k + q) (by omega))
                have p2 := hcr _ _ (idl_snd L (k + q) (by omega))
                rw [show off + (k + q) * 2 = off + k * 2 + q * 2 by omega, ← HX.out] at p1
                rw [show off + ((k + q) * 2 + 1) = off + k * 2 + q * 2 + 1 by omega, ← HX.out] at p2
                have zf0 := hfr (z * 2)
                have zf1 := hfr (z * 2 + 1)
                have z0 := hcr _ _ (idl_fst L z (by omega))
                have z1 := hcr _ _ (idl_snd L z (by omega))
                rw [← Nat.add_assoc] at z1 zf1
                have h7 := (h6.row_set (z * 2) (by rw [idl_len]; omega) (.int .i64 x1)).row_set (z * 2 + 1) (by rw [List.length_set, idl_len]; omega) (.int .i64 x2)
                rw [idl_set L z (x1, x2) (by omega), ← Nat.add_assoc] at h7
                have en7 := (en6.setCell ⟨g, off + z * 2, none⟩ (.int .i64 x1)).setCell ⟨g, off + z * 2 + 1, none⟩ (.int .i64 x2)
                clear hcr hfr h6 en6
                go_wp2_with fail
                go_roundw
                case rel => exact ⟨z + 1, q + 1, L.set z (x1, x2), by omega, by omega, by go_num, by go_num, by rw [List.length_set]; exact hLl, by omega, Lib.hid (by
                  obtain ⟨u1, u2⟩ := hLk.out
                  rw [show k + (q + 1) = k + q + 1 by omega, hstep.out, List.length_append, ← u2, List.take_add_one, List.take_set_of_le (Nat.le_refl _), u1, List.getElem?_set_self (by omega)]
                  exact ⟨rfl, rfl⟩), Lib.hid (fun i hi => by rw [List.getElem?_set_ne (by omega)]; exact hLs.out i (by omega)), h7, en7⟩
                case measure => simp [intOf]; omega
            · have hkq : k + q = l.length := by omega
              have hq2 : ¬ (q : Int) < ((l.length - k : Nat) : Int) := by omega
              obtain ⟨w8, zs, hcl, h8, en8⟩ := h5.clear_row (P := Tryz.prog) 35 0 (.agg #[.int .i64 0, .int .i64 0]) Tryz.underlying35 zeroId rfl (by simp [Value.oneCell', Value.cells]) z (l.length - z) (c - z) (off + z * 2) (fun _ => rfl) (by omega)
              have hzl : ¬ c = z := by omega
              have hzl2 : ¬ c - z = 0 := by omega
              have hlc2 : (l.length : Int) ≤ (c : Int) := by omega
              have h9 := h8.row_take z (by omega)
              have hLid : (idl L).length = l.length * 2 := by rw [idl_len, hLl]
              have htk : ((idl L).take (z * 2) ++ zs).take (z * 2) = idl (runs l) := by
                rw [List.take_append_of_le_length (by rw [List.length_take]; omega), List.take_take, Nat.min_self, idl_take, hLk.out.1, hkq]
                rfl
              rw [htk] at h9
              have en9 := en5.trans en8
              clear h8 en8 h5 en5 hcr hfr
              go_wp2_with fail
              go_ret
              exact ⟨z, rfl, h9, en9⟩
        · have hne := idEq_no hxy
          replace hxy := Lib.hid hxy
          go_wp2_with fail
          go_quiet (fail)
          go_wp2_with fail
          go_roundw
          case rel => exact ⟨k + 1, by omega, by omega, by go_num, h.drewN _, en.drewN _, Lib.hid (fun i h1 h3 => by
            rcases Nat.lt_or_ge i k with hi | hi
            · exact hno.out i h1 hi
            · obtain rfl : i = k := by omega
              rw [hq1.out, hq2.out]
              intro he
              exact hxy.out (by injection he))⟩
          case measure => simp [intOf]; omega
      · obtain rfl : k = l.length := by omega
        have hr : runs l = l := by
          unfold runs
          rw [runsTo_take l _ (Nat.le_refl _) hno.out, List.take_length]
        go_wp2_with fail
        go_ret
        exact ⟨_, rfl, by rw [hr]; exact h, en⟩
set_option maxRecDepth 100000 in
set_option maxHeartbeats 1600000 in
theorem identSorted_any (u : Value) (l : List Id) (w : World) (hx : Rw w 2 u (idl l)) (hlen : l.length * 16 ≤ 140737488355328) :
    Calls Tryz.prog 43 #[u] w (ResE (snap w) [] w (fun v => v) (fun v => [Row 41 2 v (idl (runs (idSort l)))])) := by
  obtain ⟨A, n, c, rfl, hl, hn, hc⟩ := hx.form
  rw [idl_len] at hl
  obtain rfl : n = l.length := by omega
  clear hl
  have eg : ∀ args w, (callFunc 76 args).run Tryz.prog w = .ok (.enter 76 args) w := enters_of Tryz.func76 (by kernel_rfl) rfl
  have h1 := (St.start w).row_lit 41 2 0 #[] rfl (by decide)
  go_enter Tryz.func43, Tryz.ntmps43
  go_wp2_with (at_builtin; refine wpList_append rfl (.tmp 4) (.tmp 5) 35 35 rfl Tryz.underlying35 (.inl ⟨_, Tryz.underlying35⟩) (.agg #[.int .i64 0, .int .i64 0]) 16 info_id rfl (by decide) (by decide) rfl rfl h1 (News.rw (hx.alloc _) (idl_one l)) ?apB ?apK)
  case apB => rw [idl_len]; omega
  intro v' w2 h2 en2
  obtain ⟨A', n', c', rfl, hl', hn', hc'⟩ := h2.row_form
  rw [idl_len] at hl'
  obtain rfl : n' = l.length := by omega
  have en2' := ((Env.refl w).alloc (.cells #[] 41)).trans en2
  rcases Nat.eq_zero_or_pos l.length with h0 | h0
  · have hl0 : l = [] := List.length_eq_zero_iff.1 h0
    subst hl0
    have hcon := AnyF.slices_SortFunc_none { sortId with } A' c' (.func (.func 76) #[] #[]) w2
    change Calls Tryz.prog 46 _ _ _ at hcon
    go_wp2_with fail
    refine hcon.mono ?_
    rintro e w3 ⟨rfl, rfl⟩
    go_wp2_with fail
    refine (compact_apart _ [] _ (h2.row_rw (by omega)) (fun k h => by simp at h)).mono ?_
    rintro e w4 ⟨rfl, hb4⟩
    go_wp2_with fail
    go_ret
    have e0 : runs (idSort []) = [] := by simp [idSort, runs, runsTo]
    exact ⟨_, rfl, by rw [e0]; exact h2.below hb4, en2'.trans (bel_env hb4)⟩
  · obtain ⟨b, off, hA, _⟩ := h2.row_cells h0 (by omega)
    cases hA
    obtain ⟨hH, hlt⟩ := holds_row h2 h0
    have hcon := AnyQ.slices_SortFunc_total sortId 2 Tryz.isAgg41 Tryz.sizeOf41 idc (fun _ => rfl) (fun x v hv => by simp [idc] at hv; rcases hv with rfl | rfl <;> rfl) cmpId swo_id 76 #[] b off c' l.toArray w2 eg (cmpLays_id b off l.toArray.size w2) hH hlt (by simp; omega) total_id
    change Calls Tryz.prog 46 _ _ _ at hcon
    clear eg hH
    go_wp2_with fail
    refine hcon.mono ?_
    rintro e w3 ⟨rfl, m, os, rfl⟩
    have hs := row_sort h2 (idSort l) (idSort_len l) m os
    change St _ _ (sortWorldK idc 2 w2 b off m (l.toArray.toList.mergeSort fun x y => !(ltOf cmpId) y x).toArray os) ∧ Env w2 (sortWorldK idc 2 w2 b off m (l.toArray.toList.mergeSort fun x y => !(ltOf cmpId) y x).toArray os) at hs
    obtain ⟨h3, en3⟩ := hs
    generalize sortWorldK idc 2 w2 b off m (l.toArray.toList.mergeSort fun x y => !(ltOf cmpId) y x).toArray os = W at *
    go_wp2_with fail
    refine (compact_own _ _ _ _ _ _ _ _ h3).mono ?_
    rintro e w4 ⟨n4, rfl, h4, en4⟩
    go_wp2_with fail
    go_ret
    exact ⟨_, rfl, h4, (en2'.trans en3).trans en4⟩
theorem runsTo_mem (l : List Id) : ∀ j, j ≤ l.length → ∀ a, a ∈ runsTo l j ↔ a ∈ l.take j
  | 0, _, a => by simp [runsTo]
  | j + 1, hj, a => by
    have ih := runsTo_mem l j (by omega) a
    rw [List.take_add_one, List.getElem?_eq_getElem (by omega)]
    by_cases h : j ≠ 0 ∧ l[j]? = l[j - 1]?
    · rw [runsTo, if_pos h, ih]
      simp only [Option.toList, List.mem_append, List.mem_singleton]
      refine ⟨.inl, fun hh => hh.elim id (fun he => ?_)⟩
      have h2 := h.2
      rw [List.getElem?_eq_getElem (by omega), List.getElem?_eq_getElem (by omega)] at h2
      injection h2 with h2
      subst he
      rw [h2]
      exact List.mem_iff_getElem?.2 ⟨j - 1, by rw [List.getElem?_take_of_lt (by omega), List.getElem?_eq_getElem (by omega)]⟩
    · rw [runsTo, if_neg h, List.mem_append, List.mem_append, ih, List.getElem?_eq_getElem (by omega)]
theorem runs_mem (l : List Id) (a : Id) : a ∈ runs l ↔ a ∈ l := by
  unfold runs
  rw [runsTo_mem l _ (Nat.le_refl _), List.take_length]
/-- In order, doubles let in. -/
def Climbs (l : List Id) : Prop := l.Pairwise (fun a b => idLt b a = false)
theorem climbs_sort (l : List Id) : Climbs (idSort l) := by
  unfold Climbs idSort
  have := List.pairwise_mergeSort (le := fun x y => !(ltOf cmpId) y x) (fun a b c hab hbc => by
    simp only [ltOf_id, Bool.not_eq_true', idLt_no] at *
    omega) (fun a b => by
    simp only [ltOf_id, Bool.or_eq_true, Bool.not_eq_true', idLt_no]
    omega) l
  exact this.imp (fun {a b} h => by simpa [ltOf_id] using h)
theorem runsTo_rises (l : List Id) (hc : Climbs l) : ∀ j, j ≤ l.length → Rises (runsTo l j)
  | 0, _ => List.Pairwise.nil
  | j + 1, hj => by
    have ih := runsTo_rises l hc j (by omega)
    by_cases h : j ≠ 0 ∧ l[j]? = l[j - 1]?
    · rw [runsTo, if_pos h]; exact ih
    · rw [runsTo, if_neg h, List.getElem?_eq_getElem (by omega)]
      refine List.pairwise_append.2 ⟨ih, List.pairwise_singleton _ _, fun a ha b hb => ?_⟩
      obtain rfl : b = l[j] := by simpa using hb
      have hm := (runsTo_mem l j (by omega) a).1 ha
      obtain ⟨i, hi⟩ := List.mem_iff_getElem?.1 hm
      have hij : i < j := by
        rcases Nat.lt_or_ge i j with h1 | h1
        · exact h1
        · rw [List.getElem?_eq_none (by rw [List.length_take]; omega)] at hi; cases hi
      rw [List.getElem?_take_of_lt hij, List.getElem?_eq_getElem (by omega)] at hi
      injection hi with hi
      subst hi
      have hp := List.pairwise_iff_getElem.1 hc
      have h1 : idLt l[j] l[j - 1] = false := hp (j - 1) j (by omega) (by omega) (by omega)
      have h2 : ¬ l[j] = l[j - 1] := fun he => h ⟨by omega, by rw [List.getElem?_eq_getElem (by omega), List.getElem?_eq_getElem (by omega), he]⟩
      have h3 : idLt l[j - 1] l[i] = false ∨ i = j - 1 := by
        rcases Nat.lt_or_ge i (j - 1) with h4 | h4
        · exact .inl (hp i (j - 1) (by omega) (by omega) h4)
        · exact .inr (by omega)
      rw [idLt_iff]
      rw [idLt_no] at h1
      have h2' : ¬ (l[j].1 = l[j - 1].1 ∧ l[j].2 = l[j - 1].2) := fun hh => h2 (Prod.ext hh.1 hh.2)
      rcases h3 with h3 | rfl
      · rw [idLt_no] at h3
        omega
      · omega
theorem runs_sort_rises (l : List Id) : Rises (runs (idSort l)) := runsTo_rises _ (climbs_sort l) _ (Nat.le_refl _)
theorem runs_sort_mem (l : List Id) (a : Id) : a ∈ runs (idSort l) ↔ a ∈ l := by
  rw [runs_mem]
  exact List.mem_mergeSort
end Go.Proofs.YtcbckeoalmjcoaaGreat

/- Floating point words: when two are equal, when one is nought: plain lemmas, of no program. -/
set_option linter.unusedVariables false
set_option linter.unusedSimpArgs false
namespace Go.Fl
open Ieee
def B : Nat := 4503599627370496
def top : Nat := 9218868437227405312
def half : Nat := 9223372036854775808
theorem B_eq : Ieee.double.binade = B := rfl
theorem top_eq : Ieee.double.infRung = top := rfl
theorem half_eq : Ieee.double.signWeight = half := rfl
def rung (b : Nat) : Nat := b % half
def neg (b : Nat) : Bool := b / half % 2 == 1
def mag (r : Nat) : Nat := if r < B then r else B + r % B
def plc (r : Nat) : Nat := if r < B then 0 else r / B - 1
/-- The number of a rung, in units of the least. -/
def V (r : Nat) : Nat := mag r * 2 ^ plc r
theorem read_num {b : Nat} (h : rung b < top) : Ieee.double.read b = .number (neg b) (mag (rung b)) (-1074 + plc (rung b)) := by
  unfold Ieee.Format.read
  simp only [B_eq, top_eq, half_eq]
  change (if rung b < B then Datum.number (neg b) (rung b) _ else if rung b < top then _ else _) = _
  unfold mag plc
  by_cases h1 : rung b < B
  · rw [if_pos h1, if_pos h1, if_pos h1]; rfl
  · rw [if_neg h1, if_pos h, if_neg h1, if_neg h1]; rfl
theorem read_inf {b : Nat} (h : rung b = top) : Ieee.double.read b = .infinity (neg b) := by
  unfold Ieee.Format.read
  simp only [B_eq, top_eq, half_eq]
  change (if rung b < B then _ else if rung b < top then _ else if rung b = top then _ else _) = _
  rw [if_neg (by rw [h]; decide), if_neg (by omega), if_pos h]; rfl
theorem read_nan {b : Nat} (h : top < rung b) : Ieee.double.read b = .nan (neg b) (rung b - top) := by
  unfold Ieee.Format.read
  simp only [B_eq, top_eq, half_eq]
  change (if rung b < B then _ else if rung b < top then _ else if rung b = top then _ else _) = _
  rw [if_neg (by have : B < top := by decide
                 omega), if_neg (by omega), if_neg (by omega)]; rfl
theorem V_lt (r : Nat) : V r < B * 2 ^ (r / B) ∧ (B ≤ r → B * 2 ^ (r / B - 1) ≤ V r) ∧ (r < B → V r = r) := by
  unfold V mag plc
  by_cases h : r < B
  · simp only [if_pos h, Nat.pow_zero, Nat.mul_one]
    refine ⟨?_, fun h' => by omega, fun _ => trivial⟩
    rw [Nat.div_eq_of_lt h, Nat.pow_zero, Nat.mul_one]; exact h
  · simp only [if_neg h]
    have hB : 0 < B := by decide
    have hd : 1 ≤ r / B := (Nat.one_le_div_iff hB).2 (by omega)
    refine ⟨?_, fun _ => Nat.mul_le_mul_right _ (by omega), fun h' => absurd h' h⟩
    have h1 : B + r % B < B * 2 := by have := Nat.mod_lt r hB; omega
    have h2 : 2 ^ (r / B) = 2 * 2 ^ (r / B - 1) := by
      obtain ⟨e, he⟩ : ∃ e, r / B = e + 1 := ⟨r / B - 1, by omega⟩
      rw [he, Nat.pow_succ, Nat.add_sub_cancel, Nat.mul_comm]
    rw [h2, ← Nat.mul_assoc]
    exact Nat.mul_lt_mul_of_pos_right h1 (Nat.two_pow_pos _)
theorem V_inj_lt {r s : Nat} (h : r < s) : V r < V s := by
  have hB : 0 < B := by decide
  by_cases hs : s < B
  · rw [(V_lt r).2.2 (by omega), (V_lt s).2.2 hs]; exact h
  · by_cases hr : r < B
    · refine Nat.lt_of_lt_of_le (V_lt r).1 ?_
      rw [Nat.div_eq_of_lt hr, Nat.pow_zero, Nat.mul_one]
      refine Nat.le_trans ?_ ((V_lt s).2.1 (by omega))
      exact Nat.le_mul_of_pos_right _ (Nat.two_pow_pos _)
    · rcases Nat.lt_or_ge (r / B) (s / B) with hd | hd
      · refine Nat.lt_of_lt_of_le (V_lt r).1 (Nat.le_trans ?_ ((V_lt s).2.1 (by omega)))
        exact Nat.mul_le_mul_left _ (Nat.pow_le_pow_right (by decide) (by omega))
      · have he : r / B = s / B := Nat.le_antisymm (Nat.div_le_div_right (Nat.le_of_lt h)) hd
        unfold V mag plc
        rw [if_neg hs, if_neg hr, if_neg hs, if_neg hr, he]
        refine Nat.mul_lt_mul_of_pos_right ?_ (Nat.two_pow_pos _)
        have h1 := Nat.div_add_mod r B
        have h2 := Nat.div_add_mod s B
        rw [he] at h1
        omega
theorem V_inj {r s : Nat} (h : V r = V s) : r = s := by
  rcases Nat.lt_trichotomy r s with h1 | h1 | h1
  · have := V_inj_lt h1; omega
  · exact h1
  · have := V_inj_lt h1; omega
theorem V_zero {r : Nat} : V r = 0 ↔ r = 0 := by
  constructor
  · intro h
    refine V_inj (h.trans ?_)
    exact ((V_lt 0).2.2 (by decide)).symm
  · rintro rfl; exact (V_lt 0).2.2 (by decide)
/-- A number as an integer, in units of the least. -/
def IV (b : Nat) : Int := if neg b then -((V (rung b) : Nat) : Int) else ((V (rung b) : Nat) : Int)
theorem signed_mul (s : Bool) (m i k : Nat) : signed s m i * ((2 ^ k : Nat) : Int) = if s then -((m * 2 ^ (i + k) : Nat) : Int) else ((m * 2 ^ (i + k) : Nat) : Int) := by
  have h : (m <<< i) * 2 ^ k = m * 2 ^ (i + k) := by rw [Nat.shiftLeft_eq, Nat.mul_assoc, ← Nat.pow_add]
  unfold signed
  cases s
  · simp only [Bool.false_eq_true, if_false]; rw [← h]; push_cast; rfl
  · simp only [if_true]; rw [← h]; push_cast; rw [Int.neg_mul]
theorem cmp_num (s t : Bool) (m n p q : Nat) : (Datum.number s m (-1074 + (p : Int))).order (Datum.number t n (-1074 + (q : Int))) = some (compare (if s then -((m * 2 ^ p : Nat) : Int) else ((m * 2 ^ p : Nat) : Int)) (if t then -((n * 2 ^ q : Nat) : Int) else ((n * 2 ^ q : Nat) : Int))) := by
  unfold Datum.order
  simp only
  congr 1
  have hmin : min (-1074 + (p : Int)) (-1074 + (q : Int)) = -1074 + ((min p q : Nat) : Int) := by omega
  rw [hmin]
  have h1 : ((-1074 + (p : Int)) - (-1074 + ((min p q : Nat) : Int))).toNat = p - min p q := by omega
  have h2 : ((-1074 + (q : Int)) - (-1074 + ((min p q : Nat) : Int))).toNat = q - min p q := by omega
  rw [h1, h2]
  have e1 := signed_mul s m (p - min p q) (min p q)
  have e2 := signed_mul t n (q - min p q) (min p q)
  rw [show p - min p q + min p q = p by omega] at e1
  rw [show q - min p q + min p q = q by omega] at e2
  rw [← e1, ← e2]
  have hp : (0 : Int) < ((2 ^ min p q : Nat) : Int) := by exact_mod_cast Nat.two_pow_pos _
  generalize signed s m (p - min p q) = x
  generalize signed t n (q - min p q) = y
  generalize ((2 ^ min p q : Nat) : Int) = z at hp
  simp only [compare, compareOfLessAndEq]
  have a1 : (x * z < y * z) ↔ x < y := ⟨fun h => Int.lt_of_mul_lt_mul_right h (Int.le_of_lt hp), fun h => Int.mul_lt_mul_of_pos_right h hp⟩
  have a2 : (x * z = y * z) ↔ x = y := ⟨fun h => Int.eq_of_mul_eq_mul_right (by omega) h, fun h => by rw [h]⟩
  by_cases h : x < y
  · rw [if_pos h, if_pos (a1.2 h)]
  · rw [if_neg h, if_neg (fun h' => h (a1.1 h'))]
    by_cases h' : x = y
    · rw [if_pos h', if_pos (a2.2 h')]
    · rw [if_neg h', if_neg (fun h'' => h' (a2.1 h''))]
def isNan (b : Nat) : Bool := decide (top < rung b)
theorem order_num {a b : Nat} (ha : rung a < top) (hb : rung b < top) : Ieee.double.order a b = some (compare (IV a) (IV b)) := by
  unfold Format.order
  rw [read_num ha, read_num hb, cmp_num]
  rfl
theorem order_nan_l {a b : Nat} (ha : top < rung a) : Ieee.double.order a b = none := by
  unfold Format.order
  rw [read_nan ha]
  rfl
theorem order_nan_r {a b : Nat} (hb : top < rung b) : Ieee.double.order a b = none := by
  unfold Format.order
  rw [read_nan hb]
  cases Ieee.double.read a <;> rfl
theorem rung_neg {a b : Nat} (ha : a < 18446744073709551616) (hb : b < 18446744073709551616) (h1 : rung a = rung b) (h2 : neg a = neg b) : a = b := by
  unfold rung neg half at *
  have h3 : (a / 9223372036854775808 % 2 = 1) ↔ (b / 9223372036854775808 % 2 = 1) := by
    constructor
    · intro h; have := h2 ▸ (beq_iff_eq.2 h); exact beq_iff_eq.1 this
    · intro h; have := h2.symm ▸ (beq_iff_eq.2 h); exact beq_iff_eq.1 this
  omega
/-- Two words stand for the same number. -/
theorem order_eq {a b : Nat} (ha : a < 18446744073709551616) (hb : b < 18446744073709551616) : Ieee.double.order a b = some .eq ↔ isNan a = false ∧ isNan b = false ∧ (a = b ∨ (rung a = 0 ∧ rung b = 0)) := by
  have htop : 0 < top := by decide
  unfold isNan
  rcases Nat.lt_trichotomy (rung a) top with h1 | h1 | h1
  · rcases Nat.lt_trichotomy (rung b) top with h2 | h2 | h2
    · rw [order_num h1, decide_eq_false (by omega), decide_eq_false (by omega)]
      · simp only [Option.some.injEq, true_and]
        rw [show (compare (IV a) (IV b) = .eq) ↔ IV a = IV b from by simp [compare, compareOfLessAndEq]; split <;> simp_all <;> omega]
        unfold IV
        constructor
        · intro h
          cases ea : neg a <;> cases eb : neg b <;> simp only [ea, eb, Bool.false_eq_true, if_false, if_true] at h
          · exact .inl (rung_neg ha hb (V_inj (by omega)) (by rw [ea, eb]))
          · exact .inr ⟨V_zero.1 (by omega), V_zero.1 (by omega)⟩
          · exact .inr ⟨V_zero.1 (by omega), V_zero.1 (by omega)⟩
          · exact .inl (rung_neg ha hb (V_inj (by omega)) (by rw [ea, eb]))
        · rintro (rfl | ⟨h3, h4⟩)
          · rfl
          · rw [h3, h4, V_zero.2 rfl]; split <;> split <;> rfl
      · exact h2
    · have : Ieee.double.order a b ≠ some .eq := by
        unfold Format.order
        rw [read_num h1, read_inf h2]
        unfold Datum.order
        simp only
        split <;> simp
      constructor
      · intro h; exact absurd h this
      · rintro ⟨_, _, (rfl | ⟨h3, h4⟩)⟩ <;> omega
    · rw [order_nan_r h2, decide_eq_true h2]; simp
  · rcases Nat.lt_trichotomy (rung b) top with h2 | h2 | h2
    · have : Ieee.double.order a b ≠ some .eq := by
        unfold Format.order
        rw [read_num h2, read_inf h1]
        unfold Datum.order
        simp only
        split <;> simp
      constructor
      · intro h; exact absurd h this
      · rintro ⟨_, _, (rfl | ⟨h3, h4⟩)⟩ <;> omega
    · rw [decide_eq_false (by omega), decide_eq_false (by omega)]
      unfold Format.order
      rw [read_inf h1, read_inf h2]
      unfold Datum.order
      simp only [true_and]
      constructor
      · intro h
        refine .inl (rung_neg ha hb (by omega) ?_)
        cases ea : neg a <;> cases eb : neg b <;> rw [ea, eb] at h <;> first | rfl | (revert h; decide)
      · rintro (rfl | ⟨h3, h4⟩)
        · cases neg a <;> rfl
        · omega
    · rw [order_nan_r h2, decide_eq_true h2]; simp
  · rw [order_nan_l h1, decide_eq_true h1]; simp
end Go.Fl

/- Numbers: the reference's sameness and kinds, at every number. -/
set_option linter.unusedVariables false
set_option linter.unusedSimpArgs false
namespace Go.Proofs.YtcbckeoalmjcoaaGreat
open Go.RowKit Go.Cw Go.Fl
theorem fmt_eq : FloatKind.f64.format = Ieee.double := rfl
theorem nan_eq {b : Nat} (hb : b < 18446744073709551616) : (FloatKind.f64.format.order b b != some Ordering.eq) = isNan b := by
  rw [fmt_eq]
  cases h : isNan b with
  | true =>
    have : Ieee.double.order b b = none := order_nan_l (of_decide_eq_true h)
    rw [this]; rfl
  | false =>
    rw [(order_eq hb hb).2 ⟨h, h, .inl rfl⟩]; rfl
theorem eqB {a b : Nat} (ha : a < 18446744073709551616) (hb : b < 18446744073709551616) : (FloatKind.f64.format.order a b == some Ordering.eq) = ((!isNan a && !isNan b) && (decide (a = b) || (decide (rung a = 0) && decide (rung b = 0)))) := by
  rw [fmt_eq, Bool.eq_iff_iff, beq_iff_eq, order_eq ha hb]
  simp [and_assoc]
theorem bitsOf_nan {b : Nat} (hb : b < 18446744073709551616) : bitsOf b = if isNan b then 9221120237041090561 else b := by
  unfold bitsOf
  rw [nan_eq hb]
theorem nan_word : isNan 9221120237041090561 = true := by decide
theorem zero_words {b : Nat} (hb : b < 18446744073709551616) (h : rung b = 0) : b = 0 ∨ b = 9223372036854775808 := by
  unfold rung half at h; omega
theorem run_fmul {P : Program} {t : TypeId} {x y z : Nat} (h : FloatKind.f64.format.mul x y = some z) (w : World) : (binOp .mul t (.float .f64 x) (.float .f64 y)).run P w = .ok (.float .f64 z) w := by
  simp [binOp, Op.floatArith, h]
theorem run_fdiv {P : Program} {t : TypeId} {x y z : Nat} (h : FloatKind.f64.format.div x y = some z) (w : World) : (binOp .quo t (.float .f64 x) (.float .f64 y)).run P w = .ok (.float .f64 z) w := by
  simp [binOp, Op.floatArith, h]
theorem run_fadd {P : Program} {t : TypeId} {x y z : Nat} (h : FloatKind.f64.format.add x y = some z) (w : World) : (binOp .add t (.float .f64 x) (.float .f64 y)).run P w = .ok (.float .f64 z) w := by
  simp [binOp, Op.floatArith, h]
theorem run_fsub {P : Program} {t : TypeId} {x y z : Nat} (h : FloatKind.f64.format.sub x y = some z) (w : World) : (binOp .sub t (.float .f64 x) (.float .f64 y)).run P w = .ok (.float .f64 z) w := by
  simp [binOp, Op.floatArith, h]
theorem div_p0 : FloatKind.f64.format.div 4607182418800017408 0 = some 9218868437227405312 := by decide +kernel
theorem div_n0 : FloatKind.f64.format.div 4607182418800017408 9223372036854775808 = some 18442240474082181120 := by decide +kernel
theorem inf_pp : (FloatKind.f64.format.order 9218868437227405312 9218868437227405312 == some Ordering.eq) = true := by decide +kernel
theorem inf_pn : (FloatKind.f64.format.order 9218868437227405312 18442240474082181120 == some Ordering.eq) = false := by decide +kernel
theorem inf_np : (FloatKind.f64.format.order 18442240474082181120 9218868437227405312 == some Ordering.eq) = false := by decide +kernel
theorem inf_nn : (FloatKind.f64.format.order 18442240474082181120 18442240474082181120 == some Ordering.eq) = true := by decide +kernel
theorem inf_lt0 : (FloatKind.f64.format.order 9218868437227405312 0 == some Ordering.lt) = false := by decide +kernel
theorem ninf_lt0 : (FloatKind.f64.format.order 18442240474082181120 0 == some Ordering.lt) = true := by decide +kernel
theorem z_pp : (FloatKind.f64.format.order 0 0 == some Ordering.eq) = true := by decide +kernel
theorem z_np : (FloatKind.f64.format.order 9223372036854775808 0 == some Ordering.eq) = true := by decide +kernel
/-- The word of a power of two. -/
def pw (k : Nat) : Nat := (1023 + k) * 4503599627370496
theorem mul2 : ∀ k : Fin 1023, FloatKind.f64.format.mul 4611686018427387904 (pw k.val) = some (pw (k.val + 1)) := by decide +kernel
theorem big1 : FloatKind.f64.format.div 9214364837600034816 4841369599423283200 = some 8980177656976769024 := by decide +kernel
theorem big2 : FloatKind.f64.format.sub 9214364837600034816 8980177656976769024 = some 9214364837600034814 := by decide +kernel
theorem big3 : FloatKind.f64.format.add 9214364837600034816 9214364837600034814 = some 9218868437227405311 := by decide +kernel
set_option maxRecDepth 100000 in
set_option maxHeartbeats 1600000 in
theorem big_any (w : World) : Calls Tryz.prog 115 #[] w fun e w' => e = .returned (.float .f64 9218868437227405311) ∧ w = w' := by
  go_enter Tryz.func115, Tryz.ntmps115
  go_wp2_with fail
  go_loop [1, 2] (fun s1 s2 => ∃ k : Nat, k ≤ 1023 ∧ s2 = .int .i64 (k : Int) ∧ s1 = .float .f64 (pw k)) (fun _ s2 => 1023 - (intOf s2).toNat)
  case atStart => exact ⟨0, by omega, rfl, rfl⟩
  case round =>
    obtain ⟨k, hk, rfl, rfl⟩ := hrel
    by_cases hlt : k < 1023
    · have hm := mul2 ⟨k, hlt⟩
      replace hm := @run_fmul Tryz.prog 112 _ _ _ hm
      simp only at hm
      generalize pw k = x at *
      generalize hy : pw (k + 1) = y at *
      replace hy := Lib.hid hy
      have hI : (k : Int) < 1023 := by omega
      go_wp2_with fail
      go_round
      case rel => exact ⟨k + 1, by omega, by go_num, by rw [hy.out]⟩
      case measure => simp [intOf]; omega
    · obtain rfl : k = 1023 := by omega
      have h0 : pw 1023 = 9214364837600034816 := by decide
      rw [h0]
      have h1 := @run_fdiv Tryz.prog 112 _ _ _ big1
      have h2 := @run_fsub Tryz.prog 112 _ _ _ big2
      have h3 := @run_fadd Tryz.prog 112 _ _ _ big3
      clear h0
      go_wp2_with fail
      go_ret
      exact ⟨rfl, rfl⟩
end Go.Proofs.YtcbckeoalmjcoaaGreat
