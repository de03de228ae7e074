/- slices.Compact of ids, ident.Sorted of any. -/
import Derived.Test.YtohgcghobidfpaaDoorIdset2
import Derived.Test.YtohgcghobidfpaaDoorBytes
set_option linter.unusedVariables false
set_option linter.unusedSimpArgs false
namespace Go.Cw
open Go.RowKit Go.Lib
section
variable {P : Program} {H : Hp} {l : List HA} {w : World} {e : TypeId} {sz : Nat} {cs : List Value}
/-- Cells stored over a row of one's own, from its element k on: m elements. -/
theorem St.store_row {g off n c : Nat} (h : St H (Row e sz (.slice (some ⟨g, off, none⟩) n c) cs :: l) w) (k m : Nat) (news : List Value) (hn : news.length = m * sz) (hk : (k + m) * sz ≤ cs.length) (h1 : ∀ u ∈ news, u.oneCell' = true) :
    ∃ w', (storeCells ⟨g, off + k * sz, none⟩ news).run P w = .ok () w' ∧ St H (Row e sz (.slice (some ⟨g, off, none⟩) n c) (cs.take (k * sz) ++ news ++ cs.drop ((k + m) * sz)) :: l) w' ∧ Env w w' := by
  have hadd : (k + m) * sz = k * sz + m * sz := Nat.add_mul ..
  obtain ⟨S, ⟨S1, S2, hR, h2, hdj, hs⟩, hno⟩ := h.sep
  rcases hR with ⟨hv, _⟩ | ⟨g', off', n', cap, cur, hv, hl', hc', hM', hh, hs', hjj, hS⟩
  · cases hv
  · cases hv
    have hM0 := hM'
    have hcl : cs.length ≤ c * sz := by rw [hl']; exact Nat.mul_le_mul_right _ hc'
    have hst := run_storeCells_cells (P := P) g (off + k * sz) news 0 w
      (fun j hj => by
        simp only [Nat.add_zero, World.cell?, hh]
        rw [if_neg (by simp)]
        simp
        omega)
      (fun j hj => by simp [World.frozen?, hh]) h1
    simp only [Nat.add_zero] at hst
    obtain ⟨cur', hh', hsz', hlow, hnew, hfar⟩ := setCells_heap g news (off + k * sz) w cur e hh (by omega)
    have hbey := setCells_far g news (off + k * sz) w cur e hh cur' e hh'
    refine ⟨w.setCells g (off + k * sz) news, ?_, ?_, setCells_env _ _ _ _⟩
    · exact hst
    · refine h.turn (setCells_env _ _ _ _).size (fun S hS => ?_)
      rcases hS with ⟨hv, _⟩ | ⟨g', off', n', cap', cur2, hv, _, _, _, hh2, _, _, hS⟩
      · cases hv
      · cases hv
        refine ⟨S, .inr ⟨g, off, n, c, cur', rfl, ?_, hc', hM', hh', by omega, fun j u hj => ?_, hS⟩, fun k hk => .inl hk, fun k _ hk => hfar k (fun e => hk ((hS k).2 e))⟩
        · simp only [List.length_append, List.length_take, List.length_drop]
          omega
        · have hlt : (cs.take (k * sz)).length = k * sz := by rw [List.length_take]; omega
          rw [List.append_assoc] at hj
          rcases Nat.lt_or_ge j (k * sz) with hj1 | hj1
          · rw [List.getElem?_append_left (by omega), List.getElem?_take_of_lt hj1] at hj
            rw [hlow (off + j) (by omega)]
            exact hjj j u hj
          · rw [List.getElem?_append_right (by omega), hlt] at hj
            rcases Nat.lt_or_ge (j - k * sz) news.length with hj2 | hj2
            · rw [List.getElem?_append_left hj2] at hj
              have := hnew _ u hj
              rwa [show off + k * sz + (j - k * sz) = off + j by omega] at this
            · rw [List.getElem?_append_right hj2, List.getElem?_drop, show (k + m) * sz + (j - k * sz - news.length) = j by omega] at hj
              rw [hbey (off + j) (by omega)]
              exact hjj j u hj
/-- clear(s[k:]), s a row of one's own. -/
theorem St.clear_row {g off n c : Nat} (h : St H (Row e sz (.slice (some ⟨g, off, none⟩) n c) cs :: l) w) (t ty : TypeId) (z : Value) (ht : P.underlying t = some (.slice e)) (hv : ∀ w, (zeroValue e).run P w = .ok z w) (hzs : z.cells.size = sz) (hz1 : ∀ u ∈ z.cells.toList, u.oneCell' = true) (k m c' o' : Nat) (ho : 0 < m → o' = off + k * sz) (hk : k + m = n) :
    ∃ w' zs, (Builtin.clear_ #[t] ty #[.slice (some ⟨g, o', none⟩) m c']).run P w = .ok (.tuple #[]) w' ∧ St H (Row e sz (.slice (some ⟨g, off, none⟩) n c) (cs.take (k * sz) ++ zs) :: l) w' ∧ Env w w' := by
  obtain ⟨A, n', c'', hvv, hl, hnc, hM⟩ := h.row_form
  cases hvv
  subst hk
  rcases Nat.eq_zero_or_pos m with rfl | hm
  · refine ⟨w, cs.drop (k * sz), ?_, by rw [List.take_append_drop]; exact h, Env.refl w⟩
    simp [Builtin.clear_, run_underlying ht]
  · obtain rfl := ho hm
    have hzl : (Builtin.zeroCells z.cells m).toList.length = m * sz := by simp [size_zeroCells, hzs]
    obtain ⟨w', hst, h', en⟩ := h.store_row (P := P) k m (Builtin.zeroCells z.cells m).toList hzl (by rw [hl]; exact Nat.le_refl _) (fun u hu => by
      simp only [Builtin.zeroCells, Array.toList_map, List.mem_map, Array.toList_range, List.mem_range] at hu
      obtain ⟨i, hi, rfl⟩ := hu
      have hpos : 0 < z.cells.size := by
        rcases Nat.eq_zero_or_pos z.cells.size with h0 | h0
        · rw [h0, Nat.mul_zero] at hi; omega
        · exact h0
      have hlt := Nat.mod_lt i hpos
      rw [getElem!_pos z.cells (i % z.cells.size) hlt]
      exact hz1 _ (by simp))
    refine ⟨w', (Builtin.zeroCells z.cells m).toList, ?_, ?_, en⟩
    · obtain ⟨m', rfl⟩ : ∃ m', m = m' + 1 := ⟨m - 1, by omega⟩
      simp [Builtin.clear_, run_underlying ht, hv, hst]
    · rw [List.drop_of_length_le (by rw [hl]; exact Nat.le_refl _), List.append_nil] at h'
      exact h'
end
end Go.Cw
namespace Go.Proofs.YtohgcghobidfpaaDoor
open Go.RowKit Go.Cw
attribute [local go_sem ↓] eql_id neq_id
/-- The elements ahead of j that are not as the one ahead of them. -/
def runsTo (l : List Id) : Nat → List Id
  | 0 => []
  | j + 1 => if j ≠ 0 ∧ l[j]? = l[j - 1]? then runsTo l j else runsTo l j ++ (l[j]?).toList
def runs (l : List Id) : List Id := runsTo l l.length
theorem runsTo_len (l : List Id) : ∀ j, (runsTo l j).length ≤ j
  | 0 => Nat.le_refl _
  | j + 1 => by
    have := runsTo_len l j
    have h2 : (l[j]?).toList.length ≤ 1 := by cases l[j]? <;> simp
    unfold runsTo
    split
    · omega
    · rw [List.length_append]; omega
theorem runsTo_take (l : List Id) : ∀ j, j ≤ l.length → (∀ i, 1 ≤ i → i < j → l[i]? ≠ l[i - 1]?) → runsTo l j = l.take j
  | 0, _, _ => rfl
  | j + 1, hj, h => by
    rw [runsTo, if_neg (fun hh => h j (by omega) (by omega) hh.2), runsTo_take l j (by omega) (fun i h1 h2 => h i h1 (by omega)), List.take_add_one]
theorem runsTo_eq (l : List Id) (j : Nat) (h0 : 1 ≤ j) (h : l[j]? = l[j - 1]?) : runsTo l (j + 1) = runsTo l j := by
  rw [runsTo, if_pos ⟨by omega, h⟩]
theorem runsTo_ne (l : List Id) (j : Nat) (hj : j < l.length) (h : ¬ l[j]? = l[j - 1]?) : runsTo l (j + 1) = runsTo l j ++ [l[j]] := by
  rw [runsTo, if_neg (fun hh => h hh.2), List.getElem?_eq_getElem hj]
  rfl
theorem idl_set (l : List Id) (k : Nat) (x : Id) (hk : k < l.length) : ((idl l).set (k * 2) (.int .i64 x.1)).set (k * 2 + 1) (.int .i64 x.2) = idl (l.set k x) := by
  apply List.ext_getElem?
  intro i
  have hL : (idl l).length = l.length * 2 := idl_len l
  rcases Nat.lt_or_ge i (l.length * 2) with hi | hi
  · obtain ⟨q, rfl | rfl⟩ : ∃ q, i = q * 2 ∨ i = q * 2 + 1 := ⟨i / 2, by omega⟩
    · rw [idl_fst (l.set k x) q (by rw [List.length_set]; omega), List.getElem?_set_ne (by omega)]
      by_cases hq : k = q
      · subst hq
        rw [List.getElem?_set_self (by omega), List.getElem_set_self]
      · rw [List.getElem?_set_ne (by omega), idl_fst l q (by omega), List.getElem_set_ne hq]
    · rw [idl_snd (l.set k x) q (by rw [List.length_set]; omega)]
      by_cases hq : k = q
      · subst hq
        rw [List.getElem?_set_self (by rw [List.length_set]; omega), List.getElem_set_self]
      · rw [List.getElem?_set_ne (by omega), List.getElem?_set_ne (by omega), idl_snd l q (by omega), List.getElem_set_ne hq]
  · rw [List.getElem?_eq_none (by rw [List.length_set, List.length_set, hL]; exact hi), List.getElem?_eq_none (by rw [idl_len, List.length_set]; exact hi)]
theorem zeroId (w : World) : (zeroValue 23).run Tryd.prog w = .ok (.agg #[.int .i64 0, .int .i64 0]) w := by kernel_rfl
set_option maxRecDepth 100000 in
set_option maxHeartbeats 3200000 in
theorem compact_own (g off n c : Nat) (l : List Id) (H : Hp) (fr : List HA) (w : World) (h : St H (Row 23 2 (.slice (some ⟨g, off, none⟩) n c) (idl l) :: fr) w) :
    Calls Tryd.prog 65 #[.slice (some ⟨g, off, none⟩) n c] w fun e w' => ∃ n', e = .returned (.slice (some ⟨g, off, none⟩) n' c) ∧ St H (Row 23 2 (.slice (some ⟨g, off, none⟩) n' c) (idl (runs l)) :: fr) w' ∧ Env w w' := by
  obtain ⟨A, n0, c0, hv, hl, hn, hc⟩ := h.row_form
  cases hv
  rw [idl_len] at hl
  obtain rfl : n = l.length := by omega
  clear hl
  have hc' : c ≤ 9223372036854775807 := by simpa [maxLen] using hc
  rcases Nat.lt_or_ge l.length 2 with h2 | h2
  · have h2' : (l.length : Int) < 2 := by omega
    have hr : runs l = l := by
      unfold runs
      rw [runsTo_take l _ (Nat.le_refl _) (fun i h1 h3 => by omega), List.take_length]
    go_enter Tryd.func65, Tryd.ntmps65
    go_wp2_with fail
    go_ret
    exact ⟨_, rfl, by rw [hr]; exact h, Env.refl _⟩
  · have h2' : ¬ (l.length : Int) < 2 := by omega
    go_enter Tryd.func65, Tryd.ntmps65
    go_wp2_with fail
    go_loopw [3] (fun i wr => ∃ k : Nat, 1 ≤ k ∧ k ≤ l.length ∧ i = .int .i64 k ∧ St H (Row 23 2 (.slice (some ⟨g, off, none⟩) l.length c) (idl l) :: fr) wr ∧ Env w wr ∧ Hid (∀ i, 1 ≤ i → i < k → l[i]? ≠ l[i - 1]?)) (fun i _ => l.length - (intOf i).toNat)
    case atStart => exact ⟨1, by omega, by omega, by go_num, h, Env.refl _, Lib.hid (fun i h1 h3 => by omega)⟩
    case round =>
      clear h
      obtain ⟨k, hk1, hk, rfl, h, en, hno⟩ := hrel
      obtain ⟨b', o', hA, hgl, hcr, hfr⟩ := h.row_cells (by omega) (by decide)
      cases hA
      by_cases hlt : k < l.length
      · obtain ⟨m, hkm⟩ : ∃ m, Hid (k = m + 1) := ⟨k - 1, Lib.hid (by omega)⟩
        have hmk : m < l.length := by have := hkm.out; omega
        have p1 := hcr _ _ (idl_fst l k hlt)
        have p2 := hcr _ _ (idl_snd l k hlt)
        have q1 := hcr _ _ (idl_fst l m hmk)
        have q2 := hcr _ _ (idl_snd l m hmk)
        rw [← Nat.add_assoc] at p2 q2
        have hq1 : l[k]? = some l[k] := List.getElem?_eq_getElem hlt
        have hq2 : l[k - 1]? = some l[m] := by rw [show k - 1 = m by have := hkm.out; omega]; exact List.getElem?_eq_getElem (by omega)
        obtain ⟨x, HX⟩ : ∃ x, Hid (x = l[k]) := ⟨_, Lib.hid rfl⟩
        obtain ⟨y, HY⟩ : ∃ y, Hid (y = l[m]) := ⟨_, Lib.hid rfl⟩
        rw [← HX.out] at p1 p2 hq1
        rw [← HY.out] at q1 q2 hq2
        replace hq1 := Lib.hid hq1
        replace hq2 := Lib.hid hq2
        clear hcr hfr
        have hw1 : IntKind.i64.wrap ((k : Int) - 1) = (m : Int) := by have := hkm.out; rw [IntKind.wrap_i64]; omega
        have hw3 : (k : Int) - 1 = (m : Int) := by have := hkm.out; omega
        have hw2 : IntKind.i64.wrap (m : Int) = (m : Int) := by rw [IntKind.wrap_i64]; omega
        have hi0 : (0 : Int) ≤ (k : Int) := by omega
        have hm0 : (0 : Int) ≤ (m : Int) := by omega
        have hml : (m : Int) < (l.length : Int) := by have := hkm.out; omega
        have hm1 : (k : Int) < (l.length : Int) := by omega
        by_cases hxy : x = y
        · have hne := idEq_of hxy
          replace hxy := Lib.hid hxy
          go_wp2_with fail
          go_quiet (fail)
          have h4 := h.drewN nq
          have en4 := en.drewN nq
          generalize wr.drewN nq = w4 at *
          have hin2 : (k : Int) ≤ (l.length : Int) := by omega
          have hlc : (l.length : Int) ≤ (c : Int) := by omega
          have hic : (k : Int) ≤ (c : Int) := by omega
          have hcm : ¬ c = k := by omega
          have hcm2 : ¬ c - k = 0 := by omega
          have hbase := Lib.hid (runsTo_take l k (by omega) hno.out)
          have heqm := Lib.hid (runsTo_eq l k (by omega) (by rw [hq1.out, hq2.out, hxy.out]))
          clear hq1 hq2 hxy HX HY p1 p2 q1 q2 hne hno hw1 hw2 hw3 hm1
          go_wp2_with fail
          go_loopw [3, 5] (fun s3 s5 wr => ∃ (z q : Nat) (L : List Id), k + q ≤ l.length ∧ 1 ≤ q ∧ s3 = .int .i64 (z : Int) ∧ s5 = .int .i64 (q : Int) ∧ L.length = l.length ∧ z + 1 ≤ k + q ∧ Hid (L.take z = runsTo l (k + q) ∧ z = (runsTo l (k + q)).length) ∧ Hid (∀ i, k + q ≤ i + 1 → L[i]? = l[i]?) ∧ St H (Row 23 2 (.slice (some ⟨g, off, none⟩) l.length c) (idl L) :: fr) wr ∧ Env w wr) (fun _ s5 _ => l.length - (intOf s5).toNat)
          case atStart =>
            refine ⟨k, 1, l, by omega, by omega, by go_num, by go_num, rfl, by omega, Lib.hid ?_, Lib.hid (fun _ _ => rfl), h4, en4⟩
            rw [heqm.out, hbase.out, List.length_take]
            exact ⟨rfl, by omega⟩
          case round =>
            clear h4 en4 heqm hbase
            obtain ⟨z, q, L, hq, hq0, rfl, rfl, hLl, hzq, hLk, hLs, h5, en5⟩ := hrel
            obtain ⟨b', o', hA, hgl, hcr, hfr⟩ := h5.row_cells (by omega) (by decide)
            cases hA
            have hk0 : (0 : Int) ≤ (z : Int) := by omega
            have hkl : (z : Int) < (l.length : Int) := by omega
            have hkl' : (z : Int) ≤ (l.length : Int) := by omega
            have hkc : (z : Int) ≤ (c : Int) := by omega
            obtain ⟨p, hpq⟩ : ∃ p, Hid (q = p + 1) := ⟨q - 1, Lib.hid (by omega)⟩
            by_cases hlt : k + q < l.length
            · have hj0 : L[k + q]? = l[k + q]? := hLs.out _ (by omega)
              have hkp : k + p < L.length := by have := hpq.out; omega
              have hj1 : L[k + p]? = l[k + p]? := hLs.out _ (by have := hpq.out; omega)
              have p1 := hcr _ _ (idl_fst L (k + q) (by omega))
              have p2 := hcr _ _ (idl_snd L (k + q) (by omega))
              have q1 := hcr _ _ (idl_fst L (k + p) hkp)
              have q2 := hcr _ _ (idl_snd L (k + p) hkp)
              rw [show off + (k + q) * 2 = off + k * 2 + q * 2 by omega] at p1
              rw [show off + ((k + q) * 2 + 1) = off + k * 2 + q * 2 + 1 by omega] at p2
              rw [show off + (k + p) * 2 = off + k * 2 + p * 2 by omega] at q1
              rw [show off + ((k + p) * 2 + 1) = off + k * 2 + p * 2 + 1 by omega] at q2
              have hq1 : l[k + q]? = some L[k + q] := by rw [← hj0]; exact List.getElem?_eq_getElem (by omega)
              have hq2 : l[k + q - 1]? = some L[k + p] := by rw [show k + q - 1 = k + p by have := hpq.out; omega, ← hj1]; exact List.getElem?_eq_getElem hkp
              obtain ⟨x, HX⟩ : ∃ x, Hid (x = L[k + q]) := ⟨_, Lib.hid rfl⟩
              obtain ⟨y, HY⟩ : ∃ y, Hid (y = L[k + p]) := ⟨_, Lib.hid rfl⟩
              rw [← HX.out] at p1 p2 hq1
              rw [← HY.out] at q1 q2 hq2
              replace hq1 := Lib.hid hq1
              replace hq2 := Lib.hid hq2
              have hlt2 : (q : Int) < ((l.length - k : Nat) : Int) := by omega
              have hlt3 : (p : Int) < ((l.length - k : Nat) : Int) := by have := hpq.out; omega
              have hw1 : IntKind.i64.wrap ((q : Int) - 1) = (p : Int) := by have := hpq.out; rw [IntKind.wrap_i64]; omega
              have hw3 : (q : Int) - 1 = (p : Int) := by have := hpq.out; omega
              have hw2 : IntKind.i64.wrap (p : Int) = (p : Int) := by rw [IntKind.wrap_i64]; omega
              have hi0' : (0 : Int) ≤ (q : Int) := by omega
              have hm0' : (0 : Int) ≤ (p : Int) := by omega
              clear hj0 hj1
              by_cases hxy : x = y
              · have hne := idEq_of hxy
                have hstep := Lib.hid (runsTo_eq l (k + q) (by omega) (by rw [hq1.out, hq2.out, hxy]))
                replace hxy := Lib.hid hxy
                clear hcr hfr
                go_wp2_with fail
                go_quiet (fail)
                go_wp2_with fail
                go_roundw
                case rel => exact ⟨z, q + 1, L, by omega, by omega, rfl, by go_num, hLl, by omega, Lib.hid (by rw [show k + (q + 1) = k + q + 1 by omega, hstep.out]; exact hLk.out), Lib.hid (fun i hi => hLs.out i (by omega)), h5.drewN _, en5.drewN _⟩
                case measure => simp [intOf]; omega
              · have hne := idEq_no hxy
                have hstep := Lib.hid (runsTo_ne l (k + q) hlt (by
                  rw [hq1.out, hq2.out]
                  intro he
                  exact hxy (by injection he)))
                have hxl : x = l[k + q] := by
                  have := hq1.out
                  rw [List.getElem?_eq_getElem hlt] at this
                  injection this with this
                  exact this.symm
                replace hxy := Lib.hid hxy
                rw [← hxl] at hstep
                clear hxl
                go_wp2_with fail
                go_quiet (fail)
                have h6 := h5.drewN nq
                have en6 := en5.drewN nq
                clear hcr hfr h5 en5 hgl p1 p2 q1 q2
                generalize wr.drewN nq = w6 at *
                obtain ⟨b', o', hA, hgl, hcr, hfr⟩ := h6.row_cells (by omega) (by decide)
                cases hA
                obtain ⟨x1, x2⟩ := x
                have p1 := hcr _ _ (idl_fst L (k + q) (by omega))
                have p2 := hcr _ _ (idl_snd L (k + q) (by omega))
                rw [show off + (k + q) * 2 = off + k * 2 + q * 2 by omega, ← HX.out] at p1
                rw [show off + ((k + q) * 2 + 1) = off + k * 2 + q * 2 + 1 by omega, ← HX.out] at p2
                have zf0 := hfr (z * 2)
                have zf1 := hfr (z * 2 + 1)
                have z0 := hcr _ _ (idl_fst L z (by omega))
                have z1 := hcr _ _ (idl_snd L z (by omega))
                rw [← Nat.add_assoc] at z1 zf1
                have h7 := (h6.row_set (z * 2) (by rw [idl_len]; omega) (.int .i64 x1)).row_set (z * 2 + 1) (by rw [List.length_set, idl_len]; omega) (.int .i64 x2)
                rw [idl_set L z (x1, x2) (by omega), ← Nat.add_assoc] at h7
                have en7 := (en6.setCell ⟨g, off + z * 2, none⟩ (.int .i64 x1)).setCell ⟨g, off + z * 2 + 1, none⟩ (.int .i64 x2)
                clear hcr hfr h6 en6
                go_wp2_with fail
                go_roundw
                case rel => exact ⟨z + 1, q + 1, L.set z (x1, x2), by omega, by omega, by go_num, by go_num, by rw [List.length_set]; exact hLl, by omega, Lib.hid (by
                  obtain ⟨u1, u2⟩ := hLk.out
                  rw [show k + (q + 1) = k + q + 1 by omega, hstep.out, List.length_append, ← u2, List.take_add_one, List.take_set_of_le (Nat.le_refl _), u1, List.getElem?_set_self (by omega)]
                  exact ⟨rfl, rfl⟩), Lib.hid (fun i hi => by rw [List.getElem?_set_ne (by omega)]; exact hLs.out i (by omega)), h7, en7⟩
                case measure => simp [intOf]; omega
            · have hkq : k + q = l.length := by omega
              have hq2 : ¬ (q : Int) < ((l.length - k : Nat) : Int) := by omega
              obtain ⟨w8, zs, hcl, h8, en8⟩ := h5.clear_row (P := Tryd.prog) 48 0 (.agg #[.int .i64 0, .int .i64 0]) Tryd.underlying48 zeroId rfl (by simp [Value.oneCell', Value.cells]) z (l.length - z) (c - z) (off + z * 2) (fun _ => rfl) (by omega)
              have hzl : ¬ c = z := by omega
              have hzl2 : ¬ c - z = 0 := by omega
              have hlc2 : (l.length : Int) ≤ (c : Int) := by omega
              have h9 := h8.row_take z (by omega)
              have hLid : (idl L).length = l.length * 2 := by rw [idl_len, hLl]
              have htk : ((idl L).take (z * 2) ++ zs).take (z * 2) = idl (runs l) := by
                rw [List.take_append_of_le_length (by rw [List.length_take]; omega), List.take_take, Nat.min_self, idl_take, hLk.out.1, hkq]
                rfl
              rw [htk] at h9
              have en9 := en5.trans en8
              clear h8 en8 h5 en5 hcr hfr
              go_wp2_with fail
              go_ret
              exact ⟨z, rfl, h9, en9⟩
        · have hne := idEq_no hxy
          replace hxy := Lib.hid hxy
          go_wp2_with fail
          go_quiet (fail)
          go_wp2_with fail
          go_roundw
          case rel => exact ⟨k + 1, by omega, by omega, by go_num, h.drewN _, en.drewN _, Lib.hid (fun i h1 h3 => by
            rcases Nat.lt_or_ge i k with hi | hi
            · exact hno.out i h1 hi
            · obtain rfl : i = k := by omega
              rw [hq1.out, hq2.out]
              intro he
              exact hxy.out (by injection he))⟩
          case measure => simp [intOf]; omega
      · obtain rfl : k = l.length := by omega
        have hr : runs l = l := by
          unfold runs
          rw [runsTo_take l _ (Nat.le_refl _) hno.out, List.take_length]
        go_wp2_with fail
        go_ret
        exact ⟨_, rfl, by rw [hr]; exact h, en⟩
set_option maxRecDepth 100000 in
set_option maxHeartbeats 1600000 in
theorem identSorted_any (u : Value) (l : List Id) (w : World) (hx : Rw w 2 u (idl l)) (hlen : l.length * 16 ≤ 140737488355328) :
    Calls Tryd.prog 30 #[u] w (ResE (snap w) [] w (fun v => v) (fun v => [Row 23 2 v (idl (runs (idSort l)))])) := by
  obtain ⟨A, n, c, rfl, hl, hn, hc⟩ := hx.form
  rw [idl_len] at hl
  obtain rfl : n = l.length := by omega
  clear hl
  have eg : ∀ args w, (callFunc 11 args).run Tryd.prog w = .ok (.enter 11 args) w := enters_of Tryd.func11 (by kernel_rfl) rfl
  have h1 := (St.start w).row_lit 23 2 0 #[] rfl (by decide)
  go_enter Tryd.func30, Tryd.ntmps30
  go_wp2_with (at_builtin; refine wpList_append rfl (.tmp 4) (.tmp 5) 48 48 rfl Tryd.underlying48 (.inl ⟨_, Tryd.underlying48⟩) (.agg #[.int .i64 0, .int .i64 0]) 16 info_id rfl (by decide) (by decide) rfl rfl h1 (News.rw (hx.alloc _) (idl_one l)) ?apB ?apK)
  case apB => rw [idl_len]; omega
  intro v' w2 h2 en2
  obtain ⟨A', n', c', rfl, hl', hn', hc'⟩ := h2.row_form
  rw [idl_len] at hl'
  obtain rfl : n' = l.length := by omega
  have en2' := ((Env.refl w).alloc (.cells #[] 23)).trans en2
  rcases Nat.eq_zero_or_pos l.length with h0 | h0
  · have hl0 : l = [] := List.length_eq_zero_iff.1 h0
    subst hl0
    have hcon := AnyF.slices_SortFunc_none { sortId with } A' c' (.func (.func 11) #[] #[]) w2
    change Calls Tryd.prog 64 _ _ _ at hcon
    go_wp2_with fail
    refine hcon.mono ?_
    rintro e w3 ⟨rfl, rfl⟩
    go_wp2_with fail
    refine (compact_apart _ [] _ (h2.row_rw (by omega)) (fun k h => by simp at h)).mono ?_
    rintro e w4 ⟨rfl, hb4⟩
    go_wp2_with fail
    go_ret
    have e0 : runs (idSort []) = [] := by simp [idSort, runs, runsTo]
    exact ⟨_, rfl, by rw [e0]; exact h2.below hb4, en2'.trans (bel_env hb4)⟩
  · obtain ⟨b, off, hA, _⟩ := h2.row_cells h0 (by omega)
    cases hA
    obtain ⟨hH, hlt⟩ := holds_row h2 h0
    have hcon := AnyQ.slices_SortFunc_total sortId 2 Tryd.isAgg23 Tryd.sizeOf23 idc (fun _ => rfl) (fun x v hv => by simp [idc] at hv; rcases hv with rfl | rfl <;> rfl) cmpId swo_id 11 #[] b off c' l.toArray w2 eg (cmpLays_id b off l.toArray.size w2) hH hlt (by simp; omega) total_id
    change Calls Tryd.prog 64 _ _ _ at hcon
    clear eg hH
    go_wp2_with fail
    refine hcon.mono ?_
    rintro e w3 ⟨rfl, m, os, rfl⟩
    have hs := row_sort h2 (idSort l) (idSort_len l) m os
    change St _ _ (sortWorldK idc 2 w2 b off m (l.toArray.toList.mergeSort fun x y => !(ltOf cmpId) y x).toArray os) ∧ Env w2 (sortWorldK idc 2 w2 b off m (l.toArray.toList.mergeSort fun x y => !(ltOf cmpId) y x).toArray os) at hs
    obtain ⟨h3, en3⟩ := hs
    generalize sortWorldK idc 2 w2 b off m (l.toArray.toList.mergeSort fun x y => !(ltOf cmpId) y x).toArray os = W at *
    go_wp2_with fail
    refine (compact_own _ _ _ _ _ _ _ _ h3).mono ?_
    rintro e w4 ⟨n4, rfl, h4, en4⟩
    go_wp2_with fail
    go_ret
    exact ⟨_, rfl, h4, (en2'.trans en3).trans en4⟩
theorem runsTo_mem (l : List Id) : ∀ j, j ≤ l.length → ∀ a, a ∈ runsTo l j ↔ a ∈ l.take j
  | 0, _, a => by simp [runsTo]
  | j + 1, hj, a => by
    have ih := runsTo_mem l j (by omega) a
    rw [List.take_add_one, List.getElem?_eq_getElem (by omega)]
    by_cases h : j ≠ 0 ∧ l[j]? = l[j - 1]?
    · rw [runsTo, if_pos h, ih]
      simp only [Option.toList, List.mem_append, List.mem_singleton]
      refine ⟨.inl, fun hh => hh.elim id (fun he => ?_)⟩
      have h2 := h.2
      rw [List.getElem?_eq_getElem (by omega), List.getElem?_eq_getElem (by omega)] at h2
      injection h2 with h2
      subst he
      rw [h2]
      exact List.mem_iff_getElem?.2 ⟨j - 1, by rw [List.getElem?_take_of_lt (by omega), List.getElem?_eq_getElem (by omega)]⟩
    · rw [runsTo, if_neg h, List.mem_append, List.mem_append, ih, List.getElem?_eq_getElem (by omega)]
theorem runs_mem (l : List Id) (a : Id) : a ∈ runs l ↔ a ∈ l := by
  unfold runs
  rw [runsTo_mem l _ (Nat.le_refl _), List.take_length]
/-- In order, doubles let in. -/
def Climbs (l : List Id) : Prop := l.Pairwise (fun a b => idLt b a = false)
theorem climbs_sort (l : List Id) : Climbs (idSort l) := by
  unfold Climbs idSort
  have := List.pairwise_mergeSort (le := fun x y => !(ltOf cmpId) y x) (fun a b c hab hbc => by
    simp only [ltOf_id, Bool.not_eq_true', idLt_no] at *
    omega) (fun a b => by
    simp only [ltOf_id, Bool.or_eq_true, Bool.not_eq_true', idLt_no]
    omega) l
  exact this.imp (fun {a b} h => by simpa [ltOf_id] using h)
theorem runsTo_rises (l : List Id) (hc : Climbs l) : ∀ j, j ≤ l.length → Rises (runsTo l j)
  | 0, _ => List.Pairwise.nil
  | j + 1, hj => by
    have ih := runsTo_rises l hc j (by omega)
    by_cases h : j ≠ 0 ∧ l[j]? = l[j - 1]?
    · rw [runsTo, if_pos h]; exact ih
    · rw [runsTo, if_neg h, List.getElem?_eq_getElem (by omega)]
      refine List.pairwise_append.2 ⟨ih, List.pairwise_singleton _ _, fun a ha b hb => ?_⟩
      obtain rfl : b = l[j] := by simpa using hb
      have hm := (runsTo_mem l j (by omega) a).1 ha
      obtain ⟨i, hi⟩ := List.mem_iff_getElem?.1 hm
      have hij : i < j := by
        rcases Nat.lt_or_ge i j with h1 | h1
        · exact h1
        · rw [List.getElem?_eq_none (by rw [List.length_take]; omega)] at hi; cases hi
      rw [List.getElem?_take_of_lt hij, List.getElem?_eq_getElem (by omega)] at hi
      injection hi with hi
      subst hi
      have hp := List.pairwise_iff_getElem.1 hc
      have h1 : idLt l[j] l[j - 1] = false := hp (j - 1) j (by omega) (by omega) (by omega)
      have h2 : ¬ l[j] = l[j - 1] := fun he => h ⟨by omega, by rw [List.getElem?_eq_getElem (by omega), List.getElem?_eq_getElem (by omega), he]⟩
      have h3 : idLt l[j - 1] l[i] = false ∨ i = j - 1 := by
        rcases Nat.lt_or_ge i (j - 1) with h4 | h4
        · exact .inl (hp i (j - 1) (by omega) (by omega) h4)
        · exact .inr (by omega)
      rw [idLt_iff]
      rw [idLt_no] at h1
      have h2' : ¬ (l[j].1 = l[j - 1].1 ∧ l[j].2 = l[j - 1].2) := fun hh => h2 (Prod.ext hh.1 hh.2)
      rcases h3 with h3 | rfl
      · rw [idLt_no] at h3
        omega
      · omega
theorem runs_sort_rises (l : List Id) : Rises (runs (idSort l)) := runsTo_rises _ (climbs_sort l) _ (Nat.le_refl _)
theorem runs_sort_mem (l : List Id) (a : Id) : a ∈ runs (idSort l) ↔ a ∈ l := by
  rw [runs_mem]
  exact List.mem_mergeSort
end Go.Proofs.YtohgcghobidfpaaDoor
