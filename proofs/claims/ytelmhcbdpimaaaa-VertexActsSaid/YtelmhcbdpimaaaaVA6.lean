/- Joined texts: Compact, Has, Edges, Edges2, Edges3. -/
import Derived.StillTailTactics
import Derived.Test.YtelmhcbdpimaaaaVA4
import Derived.Test.YtelmhcbdpimaaaaVA5
/- slices.Compact of ids, ident.Sorted of any. -/
set_option linter.unusedVariables false
set_option linter.unusedSimpArgs false
namespace Go.Cw
open Go.RowKit Go.Lib
section
variable {P : Program} {H : Hp} {l : List HA} {w : World} {e : TypeId} {sz : Nat} {cs : List Value}
/-- Cells stored over a row of one's own, from its element k on: m elements. -/
theorem St.store_row {g off n c : Nat} (h : St H (Row e sz (.slice (some ⟨g, off, none⟩) n c) cs :: l) w) (k m : Nat) (news : List Value) (hn : news.length = m * sz) (hk : (k + m) * sz ≤ cs.length) (h1 : ∀ u ∈ news, u.oneCell' = true) :
    ∃ w', (storeCells ⟨g, off + k * sz, none⟩ news).run P w = .ok () w' ∧ St H (Row e sz (.slice (some ⟨g, off, none⟩) n c) (cs.take (k * sz) ++ news ++ cs.drop ((k + m) * sz)) :: l) w' ∧ Env w w' := by
  have hadd : (k + m) * sz = k * sz + m * sz := Nat.add_mul ..
  obtain ⟨S, ⟨S1, S2, hR, h2, hdj, hs⟩, hno⟩ := h.sep
  rcases hR with ⟨hv, _⟩ | ⟨g', off', n', cap, cur, hv, hl', hc', hM', hh, hs', hjj, hS⟩
  · cases hv
  · cases hv
    have hM0 := hM'
    have hcl : cs.length ≤ c * sz := by rw [hl']; exact Nat.mul_le_mul_right _ hc'
    have hst := run_storeCells_cells (P := P) g (off + k * sz) news 0 w
      (fun j hj => by
        simp only [Nat.add_zero, World.cell?, hh]
        rw [if_neg (by simp)]
        simp
        omega)
      (fun j hj => by simp [World.frozen?, hh]) h1
    simp only [Nat.add_zero] at hst
    obtain ⟨cur', hh', hsz', hlow, hnew, hfar⟩ := setCells_heap g news (off + k * sz) w cur e hh (by omega)
    have hbey := setCells_far g news (off + k * sz) w cur e hh cur' e hh'
    refine ⟨w.setCells g (off + k * sz) news, ?_, ?_, setCells_env _ _ _ _⟩
    · exact hst
    · refine h.turn (setCells_env _ _ _ _).size (fun S hS => ?_)
      rcases hS with ⟨hv, _⟩ | ⟨g', off', n', cap', cur2, hv, _, _, _, hh2, _, _, hS⟩
      · cases hv
      · cases hv
        refine ⟨S, .inr ⟨g, off, n, c, cur', rfl, ?_, hc', hM', hh', by omega, fun j u hj => ?_, hS⟩, fun k hk => .inl hk, fun k _ hk => hfar k (fun e => hk ((hS k).2 e))⟩
        · simp only [List.length_append, List.length_take, List.length_drop]
          omega
        · have hlt : (cs.take (k * sz)).length = k * sz := by rw [List.length_take]; omega
          rw [List.append_assoc] at hj
          rcases Nat.lt_or_ge j (k * sz) with hj1 | hj1
          · rw [List.getElem?_append_left (by omega), List.getElem?_take_of_lt hj1] at hj
            rw [hlow (off + j) (by omega)]
            exact hjj j u hj
          · rw [List.getElem?_append_right (by omega), hlt] at hj
            rcases Nat.lt_or_ge (j - k * sz) news.length with hj2 | hj2
            · rw [List.getElem?_append_left hj2] at hj
              have := hnew _ u hj
              rwa [show off + k * sz + (j - k * sz) = off + j by omega] at this
            · rw [List.getElem?_append_right hj2, List.getElem?_drop, show (k + m) * sz + (j - k * sz - news.length) = j by omega] at hj
              rw [hbey (off + j) (by omega)]
              exact hjj j u hj
/-- clear(s[k:]), s a row of one's own. -/
theorem St.clear_row {g off n c : Nat} (h : St H (Row e sz (.slice (some ⟨g, off, none⟩) n c) cs :: l) w) (t ty : TypeId) (z : Value) (ht : P.underlying t = some (.slice e)) (hv : ∀ w, (zeroValue e).run P w = .ok z w) (hzs : z.cells.size = sz) (hz1 : ∀ u ∈ z.cells.toList, u.oneCell' = true) (k m c' o' : Nat) (ho : 0 < m → o' = off + k * sz) (hk : k + m = n) :
    ∃ w' zs, (Builtin.clear_ #[t] ty #[.slice (some ⟨g, o', none⟩) m c']).run P w = .ok (.tuple #[]) w' ∧ St H (Row e sz (.slice (some ⟨g, off, none⟩) n c) (cs.take (k * sz) ++ zs) :: l) w' ∧ Env w w' := by
  obtain ⟨A, n', c'', hvv, hl, hnc, hM⟩ := h.row_form
  cases hvv
  subst hk
  rcases Nat.eq_zero_or_pos m with rfl | hm
  · refine ⟨w, cs.drop (k * sz), ?_, by rw [List.take_append_drop]; exact h, Env.refl w⟩
    simp [Builtin.clear_, run_underlying ht]
  · obtain rfl := ho hm
    have hzl : (Builtin.zeroCells z.cells m).toList.length = m * sz := by simp [size_zeroCells, hzs]
    obtain ⟨w', hst, h', en⟩ := h.store_row (P := P) k m (Builtin.zeroCells z.cells m).toList hzl (by rw [hl]; exact Nat.le_refl _) (fun u hu => by
      simp only [Builtin.zeroCells, Array.toList_map, List.mem_map, Array.toList_range, List.mem_range] at hu
      obtain ⟨i, hi, rfl⟩ := hu
      have hpos : 0 < z.cells.size := by
        rcases Nat.eq_zero_or_pos z.cells.size with h0 | h0
        · rw [h0, Nat.mul_zero] at hi; omega
        · exact h0
      have hlt := Nat.mod_lt i hpos
      rw [getElem!_pos z.cells (i % z.cells.size) hlt]
      exact hz1 _ (by simp))
    refine ⟨w', (Builtin.zeroCells z.cells m).toList, ?_, ?_, en⟩
    · obtain ⟨m', rfl⟩ : ∃ m', m = m' + 1 := ⟨m - 1, by omega⟩
      simp [Builtin.clear_, run_underlying ht, hv, hst]
    · rw [List.drop_of_length_le (by rw [hl]; exact Nat.le_refl _), List.append_nil] at h'
      exact h'
end
end Go.Cw
namespace Go.Proofs.Ytelmhcbdpimaaaa
open Go.RowKit Go.Cw
attribute [local go_sem ↓] eql_id neq_id
/-- The elements ahead of j that are not as the one ahead of them. -/
def runsTo (l : List Id) : Nat → List Id
  | 0 => []
  | j + 1 => if j ≠ 0 ∧ l[j]? = l[j - 1]? then runsTo l j else runsTo l j ++ (l[j]?).toList
def runs (l : List Id) : List Id := runsTo l l.length
theorem runsTo_len (l : List Id) : ∀ j, (runsTo l j).length ≤ j
  | 0 => Nat.le_refl _
  | j + 1 => by
    have := runsTo_len l j
    have h2 : (l[j]?).toList.length ≤ 1 := by cases l[j]? <;> simp
    unfold runsTo
    split
    · omega
    · rw [List.length_append]; omega
theorem runsTo_take (l : List Id) : ∀ j, j ≤ l.length → (∀ i, 1 ≤ i → i < j → l[i]? ≠ l[i - 1]?) → runsTo l j = l.take j
  | 0, _, _ => rfl
  | j + 1, hj, h => by
    rw [runsTo, if_neg (fun hh => h j (by omega) (by omega) hh.2), runsTo_take l j (by omega) (fun i h1 h2 => h i h1 (by omega)), List.take_add_one]
theorem runsTo_eq (l : List Id) (j : Nat) (h0 : 1 ≤ j) (h : l[j]? = l[j - 1]?) : runsTo l (j + 1) = runsTo l j := by
  rw [runsTo, if_pos ⟨by omega, h⟩]
theorem runsTo_ne (l : List Id) (j : Nat) (hj : j < l.length) (h : ¬ l[j]? = l[j - 1]?) : runsTo l (j + 1) = runsTo l j ++ [l[j]] := by
  rw [runsTo, if_neg (fun hh => h hh.2), List.getElem?_eq_getElem hj]
  rfl
theorem idl_set (l : List Id) (k : Nat) (x : Id) (hk : k < l.length) : ((idl l).set (k * 2) (.int .i64 x.1)).set (k * 2 + 1) (.int .i64 x.2) = idl (l.set k x) := by
  apply List.ext_getElem?
  intro i
  have hL : (idl l).length = l.length * 2 := idl_len l
  rcases Nat.lt_or_ge i (l.length * 2) with hi | hi
  · obtain ⟨q, rfl | rfl⟩ : ∃ q, i = q * 2 ∨ i = q * 2 + 1 := ⟨i / 2, by omega⟩
    · rw [idl_fst (l.set k x) q (by rw [List.length_set]; omega), List.getElem?_set_ne (by omega)]
      by_cases hq : k = q
      · subst hq
        rw [List.getElem?_set_self (by omega), List.getElem_set_self]
      · rw [List.getElem?_set_ne (by omega), idl_fst l q (by omega), List.getElem_set_ne hq]
    · rw [idl_snd (l.set k x) q (by rw [List.length_set]; omega)]
      by_cases hq : k = q
      · subst hq
        rw [List.getElem?_set_self (by rw [List.length_set]; omega), List.getElem_set_self]
      · rw [List.getElem?_set_ne (by omega), List.getElem?_set_ne (by omega), idl_snd l q (by omega), List.getElem_set_ne hq]
  · rw [List.getElem?_eq_none (by rw [List.length_set, List.length_set, hL]; exact hi), List.getElem?_eq_none (by rw [idl_len, List.length_set]; exact hi)]
theorem zeroId (w : World) : (zeroValue 28).run Try.prog w = .ok (.agg #[.int .i64 0, .int .i64 0]) w := by kernel_rfl
set_option maxRecDepth 100000 in
set_option maxHeartbeats 3200000 in
theorem compact_own (g off n c : Nat) (l : List Id) (H : Hp) (fr : List HA) (w : World) (h : St H (Row 28 2 (.slice (some ⟨g, off, none⟩) n c) (idl l) :: fr) w) :
    Calls Try.prog 93 #[.slice (some ⟨g, off, none⟩) n c] w fun e w' => ∃ n', e = .returned (.slice (some ⟨g, off, none⟩) n' c) ∧ St H (Row 28 2 (.slice (some ⟨g, off, none⟩) n' c) (idl (runs l)) :: fr) w' ∧ Env w w' := by
  obtain ⟨A, n0, c0, hv, hl, hn, hc⟩ := h.row_form
  cases hv
  rw [idl_len] at hl
  obtain rfl : n = l.length := by omega
  clear hl
  have hc' : c ≤ 9223372036854775807 := by simpa [maxLen] using hc
  rcases Nat.lt_or_ge l.length 2 with h2 | h2
  · have h2' : (l.length : Int) < 2 := by omega
    have hr : runs l = l := by
      unfold runs
      rw [runsTo_take l _ (Nat.le_refl _) (fun i h1 h3 => by omega), List.take_length]
    go_enter Try.func93, Try.ntmps93
    go_wp2_with fail
    go_ret
    exact ⟨_, rfl, by rw [hr]; exact h, Env.refl _⟩
  · have h2' : ¬ (l.length : Int) < 2 := by omega
    go_enter Try.func93, Try.ntmps93
    go_wp2_with fail
    go_loopw [3] (fun i wr => ∃ k : Nat, 1 ≤ k ∧ k ≤ l.length ∧ i = .int .i64 k ∧ St H (Row 28 2 (.slice (some ⟨g, off, none⟩) l.length c) (idl l) :: fr) wr ∧ Env w wr ∧ Hid (∀ i, 1 ≤ i → i < k → l[i]? ≠ l[i - 1]?)) (fun i _ => l.length - (intOf i).toNat)
    case atStart => exact ⟨1, by omega, by omega, by go_num, h, Env.refl _, Lib.hid (fun i h1 h3 => by omega)⟩
    case round =>
      clear h
      obtain ⟨k, hk1, hk, rfl, h, en, hno⟩ := hrel
      obtain ⟨b', o', hA, hgl, hcr, hfr⟩ := h.row_cells (by omega) (by decide)
      cases hA
      by_cases hlt : k < l.length
      · obtain ⟨m, hkm⟩ : ∃ m, Hid (k = m + 1) := ⟨k - 1, Lib.hid (by omega)⟩
        have hmk : m < l.length := by have := hkm.out; omega
        have p1 := hcr _ _ (idl_fst l k hlt)
        have p2 := hcr _ _ (idl_snd l k hlt)
        have q1 := hcr _ _ (idl_fst l m hmk)
        have q2 := hcr _ _ (idl_snd l m hmk)
        rw [← Nat.add_assoc] at p2 q2
        have hq1 : l[k]? = some l[k] := List.getElem?_eq_getElem hlt
        have hq2 : l[k - 1]? = some l[m] := by rw [show k - 1 = m by have := hkm.out; omega]; exact List.getElem?_eq_getElem (by omega)
        obtain ⟨x, HX⟩ : ∃ x, Hid (x = l[k]) := ⟨_, Lib.hid rfl⟩
        obtain ⟨y, HY⟩ : ∃ y, Hid (y = l[m]) := ⟨_, Lib.hid rfl⟩
        rw [← HX.out] at p1 p2 hq1
        rw [← HY.out] at q1 q2 hq2
        replace hq1 := Lib.hid hq1
        replace hq2 := Lib.hid hq2
        clear hcr hfr
        have hw1 : IntKind.i64.wrap ((k : Int) - 1) = (m : Int) := by have := hkm.out; rw [IntKind.wrap_i64]; omega
        have hw3 : (k : Int) - 1 = (m : Int) := by have := hkm.out; omega
        have hw2 : IntKind.i64.wrap (m : Int) = (m : Int) := by rw [IntKind.wrap_i64]; omega
        have hi0 : (0 : Int) ≤ (k : Int) := by omega
        have hm0 : (0 : Int) ≤ (m : Int) := by omega
        have hml : (m : Int) < (l.length : Int) := by have := hkm.out; omega
        have hm1 : (k : Int) < (l.length : Int) := by omega
        by_cases hxy : x = y
        · have hne := idEq_of hxy
          replace hxy := Lib.hid hxy
          go_wp2_with fail
          go_quiet (fail)
          have h4 := h.drewN nq
          have en4 := en.drewN nq
          generalize wr.drewN nq = w4 at *
          have hin2 : (k : Int) ≤ (l.length : Int) := by omega
          have hlc : (l.length : Int) ≤ (c : Int) := by omega
          have hic : (k : Int) ≤ (c : Int) := by omega
          have hcm : ¬ c = k := by omega
          have hcm2 : ¬ c - k = 0 := by omega
          have hbase := Lib.hid (runsTo_take l k (by omega) hno.out)
          have heqm := Lib.hid (runsTo_eq l k (by omega) (by rw [hq1.out, hq2.out, hxy.out]))
          clear hq1 hq2 hxy HX HY p1 p2 q1 q2 hne hno hw1 hw2 hw3 hm1
          go_wp2_with fail
          go_loopw [3, 5] (fun s3 s5 wr => ∃ (z q : Nat) (L : List Id), k + q ≤ l.length ∧ 1 ≤ q ∧ s3 = .int .i64 (z : Int) ∧ s5 = .int .i64 (q : Int) ∧ L.length = l.length ∧ z + 1 ≤ k + q ∧ Hid (L.take z = runsTo l (k + q) ∧ z = (runsTo l (k + q)).length) ∧ Hid (∀ i, k + q ≤ i + 1 → L[i]? = l[i]?) ∧ St H (Row 28 2 (.slice (some ⟨g, off, none⟩) l.length c) (idl L) :: fr) wr ∧ Env w wr) (fun _ s5 _ => l.length - (intOf s5).toNat)
          case atStart =>
            refine ⟨k, 1, l, by omega, by omega, by go_num, by go_num, rfl, by omega, Lib.hid ?_, Lib.hid (fun _ _ => rfl), h4, en4⟩
            rw [heqm.out, hbase.out, List.length_take]
            exact ⟨rfl, by omega⟩
          case round =>
            clear h4 en4 heqm hbase
            obtain ⟨z, q, L, hq, hq0, rfl, rfl, hLl, hzq, hLk, hLs, h5, en5⟩ := hrel
            obtain ⟨b', o', hA, hgl, hcr, hfr⟩ := h5.row_cells (by omega) (by decide)
            cases hA
            have hk0 : (0 : Int) ≤ (z : Int) := by omega
            have hkl : (z : Int) < (l.length : Int) := by omega
            have hkl' : (z : Int) ≤ (l.length : Int) := by omega
            have hkc : (z : Int) ≤ (c : Int) := by omega
            obtain ⟨p, hpq⟩ : ∃ p, Hid (q = p + 1) := ⟨q - 1, Lib.hid (by omega)⟩
            by_cases hlt : k + q < l.length
            · have hj0 : L[k + q]? = l[k + q]? := hLs.out _ (by omega)
              have hkp : k + p < L.length := by have := hpq.out; omega
              have hj1 : L[k + p]? = l[k + p]? := hLs.out _ (by have := hpq.out; omega)
              have p1 := hcr _ _ (idl_fst L (k + q) (by omega))
              have p2 := hcr _ _ (idl_snd L (k + q) (by omega))
              have q1 := hcr _ _ (idl_fst L (k + p) hkp)
              have q2 := hcr _ _ (idl_snd L (k + p) hkp)
              rw [show off + (k + q) * 2 = off + k * 2 + q * 2 by omega] at p1
              rw [show off + ((k + q) * 2 + 1) = off + k * 2 + q * 2 + 1 by omega] at p2
              rw [show off + (k + p) * 2 = off + k * 2 + p * 2 by omega] at q1
              rw [show off + ((k + p) * 2 + 1) = off + k * 2 + p * 2 + 1 by omega] at q2
              have hq1 : l[k + q]? = some L[k + q] := by rw [← hj0]; exact List.getElem?_eq_getElem (by omega)
              have hq2 : l[k + q - 1]? = some L[k + p] := by rw [show k + q - 1 = k + p by have := hpq.out; omega, ← hj1]; exact List.getElem?_eq_getElem hkp
              obtain ⟨x, HX⟩ : ∃ x, Hid (x = L[k + q]) := ⟨_, Lib.hid rfl⟩
              obtain ⟨y, HY⟩ : ∃ y, Hid (y = L[k + p]) := ⟨_, Lib.hid rfl⟩
              rw [← HX.out] at p1 p2 hq1
              rw [← HY.out] at q1 q2 hq2
              replace hq1 := Lib.hid hq1
              replace hq2 := Lib.hid hq2
              have hlt2 : (q : Int) < ((l.length - k : Nat) : Int) := by omega
              have hlt3 : (p : Int) < ((l.length - k : Nat) : Int) := by have := hpq.out; omega
              have hw1 : IntKind.i64.wrap ((q : Int) - 1) = (p : Int) := by have := hpq.out; rw [IntKind.wrap_i64]; omega
              have hw3 : (q : Int) - 1 = (p : Int) := by have := hpq.out; omega
              have hw2 : IntKind.i64.wrap (p : Int) = (p : Int) := by rw [IntKind.wrap_i64]; omega
              have hi0' : (0 : Int) ≤ (q : Int) := by omega
              have hm0' : (0 : Int) ≤ (p : Int) := by omega
              clear hj0 hj1
              by_cases hxy : x = y
              · have hne := idEq_of hxy
                have hstep := Lib.hid (runsTo_eq l (k + q) (by omega) (by rw [hq1.out, hq2.out, hxy]))
                replace hxy := Lib.hid hxy
                clear hcr hfr
                go_wp2_with fail
                go_quiet (fail)
                go_wp2_with fail
                go_roundw
                case rel => exact ⟨z, q + 1, L, by omega, by omega, rfl, by go_num, hLl, by omega, Lib.hid (by rw [show k + (q + 1) = k + q + 1 by omega, hstep.out]; exact hLk.out), Lib.hid (fun i hi => hLs.out i (by omega)), h5.drewN _, en5.drewN _⟩
                case measure => simp [intOf]; omega
              · have hne := idEq_no hxy
                have hstep := Lib.hid (runsTo_ne l (k + q) hlt (by
                  rw [hq1.out, hq2.out]
                  intro he
                  exact hxy (by injection he)))
                have hxl : x = l[k + q] := by
                  have := hq1.out
                  rw [List.getElem?_eq_getElem hlt] at this
                  injection this with this
                  exact this.symm
                replace hxy := Lib.hid hxy
                rw [← hxl] at hstep
                clear hxl
                go_wp2_with fail
                go_quiet (fail)
                have h6 := h5.drewN nq
                have en6 := en5.drewN nq
                clear hcr hfr h5 en5 hgl p1 p2 q1 q2
                generalize wr.drewN nq = w6 at *
                obtain ⟨b', o', hA, hgl, hcr, hfr⟩ := h6.row_cells (by omega) (by decide)
                cases hA
                obtain ⟨x1, x2⟩ := x
                have p1 := hcr _ _ (idl_fst L (k + q) (by omega))
                have p2 := hcr _ _ (idl_snd L (k + q) (by omega))
                rw [show off + (k + q) * 2 = off + k * 2 + q * 2 by omega, ← HX.out] at p1
                rw [show off + ((k + q) * 2 + 1) = off + k * 2 + q * 2 + 1 by omega, ← HX.out] at p2
                have zf0 := hfr (z * 2)
                have zf1 := hfr (z * 2 + 1)
                have z0 := hcr _ _ (idl_fst L z (by omega))
                have z1 := hcr _ _ (idl_snd L z (by omega))
                rw [← Nat.add_assoc] at z1 zf1
                have h7 := (h6.row_set (z * 2) (by rw [idl_len]; omega) (.int .i64 x1)).row_set (z * 2 + 1) (by rw [List.length_set, idl_len]; omega) (.int .i64 x2)
                rw [idl_set L z (x1, x2) (by omega), ← Nat.add_assoc] at h7
                have en7 := (en6.setCell ⟨g, off + z * 2, none⟩ (.int .i64 x1)).setCell ⟨g, off + z * 2 + 1, none⟩ (.int .i64 x2)
                clear hcr hfr h6 en6
                go_wp2_with fail
                go_roundw
                case rel => exact ⟨z + 1, q + 1, L.set z (x1, x2), by omega, by omega, by go_num, by go_num, by rw [List.length_set]; exact hLl, by omega, Lib.hid (by
                  obtain ⟨u1, u2⟩ := hLk.out
                  rw [show k + (q + 1) = k + q + 1 by omega, hstep.out, List.length_append, ← u2, List.take_add_one, List.take_set_of_le (Nat.le_refl _), u1, List.getElem?_set_self (by omega)]
                  exact ⟨rfl, rfl⟩), Lib.hid (fun i hi => by rw [List.getElem?_set_ne (by omega)]; exact hLs.out i (by omega)), h7, en7⟩
                case measure => simp [intOf]; omega
            · have hkq : k + q = l.length := by omega
              have hq2 : ¬ (q : Int) < ((l.length - k : Nat) : Int) := by omega
              obtain ⟨w8, zs, hcl, h8, en8⟩ := h5.clear_row (P := Try.prog) 29 0 (.agg #[.int .i64 0, .int .i64 0]) Try.underlying29 zeroId rfl (by simp [Value.oneCell', Value.cells]) z (l.length - z) (c - z) (off + z * 2) (fun _ => rfl) (by omega)
              have hzl : ¬ c = z := by omega
              have hzl2 : ¬ c - z = 0 := by omega
              have hlc2 : (l.length : Int) ≤ (c : Int) := by omega
              have h9 := h8.row_take z (by omega)
              have hLid : (idl L).length = l.length * 2 := by rw [idl_len, hLl]
              have htk : ((idl L).take (z * 2) ++ zs).take (z * 2) = idl (runs l) := by
                rw [List.take_append_of_le_length (by rw [List.length_take]; omega), List.take_take, Nat.min_self, idl_take, hLk.out.1, hkq]
                rfl
              rw [htk] at h9
              have en9 := en5.trans en8
              clear h8 en8 h5 en5 hcr hfr
              go_wp2_with fail
              go_ret
              exact ⟨z, rfl, h9, en9⟩
        · have hne := idEq_no hxy
          replace hxy := Lib.hid hxy
          go_wp2_with fail
          go_quiet (fail)
          go_wp2_with fail
          go_roundw
          case rel => exact ⟨k + 1, by omega, by omega, by go_num, h.drewN _, en.drewN _, Lib.hid (fun i h1 h3 => by
            rcases Nat.lt_or_ge i k with hi | hi
            · exact hno.out i h1 hi
            · obtain rfl : i = k := by omega
              rw [hq1.out, hq2.out]
              intro he
              exact hxy.out (by injection he))⟩
          case measure => simp [intOf]; omega
      · obtain rfl : k = l.length := by omega
        have hr : runs l = l := by
          unfold runs
          rw [runsTo_take l _ (Nat.le_refl _) hno.out, List.take_length]
        go_wp2_with fail
        go_ret
        exact ⟨_, rfl, by rw [hr]; exact h, en⟩
set_option maxRecDepth 100000 in
set_option maxHeartbeats 1600000 in
theorem identSorted_any (u : Value) (l : List Id) (w : World) (hx : Rw w 2 u (idl l)) (hlen : l.length * 16 ≤ 140737488355328) :
    Calls Try.prog 58 #[u] w (ResE (snap w) [] w (fun v => v) (fun v => [Row 28 2 v (idl (runs (idSort l)))])) := by
  obtain ⟨A, n, c, rfl, hl, hn, hc⟩ := hx.form
  rw [idl_len] at hl
  obtain rfl : n = l.length := by omega
  clear hl
  have eg : ∀ args w, (callFunc 92 args).run Try.prog w = .ok (.enter 92 args) w := enters_of Try.func92 (by kernel_rfl) rfl
  have h1 := (St.start w).row_lit 28 2 0 #[] rfl (by decide)
  go_enter Try.func58, Try.ntmps58
  go_wp2_with (at_builtin; refine wpList_append rfl (.tmp 4) (.tmp 5) 29 29 rfl Try.underlying29 (.inl ⟨_, Try.underlying29⟩) (.agg #[.int .i64 0, .int .i64 0]) 16 info_id rfl (by decide) (by decide) rfl rfl h1 (News.rw (hx.alloc _) (idl_one l)) ?apB ?apK)
  case apB => rw [idl_len]; omega
  intro v' w2 h2 en2
  obtain ⟨A', n', c', rfl, hl', hn', hc'⟩ := h2.row_form
  rw [idl_len] at hl'
  obtain rfl : n' = l.length := by omega
  have en2' := ((Env.refl w).alloc (.cells #[] 28)).trans en2
  rcases Nat.eq_zero_or_pos l.length with h0 | h0
  · have hl0 : l = [] := List.length_eq_zero_iff.1 h0
    subst hl0
    have hcon := AnyF.slices_SortFunc_none { sortId with } A' c' (.func (.func 92) #[] #[]) w2
    change Calls Try.prog 91 _ _ _ at hcon
    go_wp2_with fail
    refine hcon.mono ?_
    rintro e w3 ⟨rfl, rfl⟩
    go_wp2_with fail
    refine (compact_apart _ [] _ (h2.row_rw (by omega)) (fun k h => by simp at h)).mono ?_
    rintro e w4 ⟨rfl, hb4⟩
    go_wp2_with fail
    go_ret
    have e0 : runs (idSort []) = [] := by simp [idSort, runs, runsTo]
    exact ⟨_, rfl, by rw [e0]; exact h2.below hb4, en2'.trans (bel_env hb4)⟩
  · obtain ⟨b, off, hA, _⟩ := h2.row_cells h0 (by omega)
    cases hA
    obtain ⟨hH, hlt⟩ := holds_row h2 h0
    have hcon := AnyQ.slices_SortFunc_total sortId 2 Try.isAgg28 Try.sizeOf28 idc (fun _ => rfl) (fun x v hv => by simp [idc] at hv; rcases hv with rfl | rfl <;> rfl) cmpId swo_id 92 #[] b off c' l.toArray w2 eg (cmpLays_id b off l.toArray.size w2) hH hlt (by simp; omega) total_id
    change Calls Try.prog 91 _ _ _ at hcon
    clear eg hH
    go_wp2_with fail
    refine hcon.mono ?_
    rintro e w3 ⟨rfl, m, os, rfl⟩
    have hs := row_sort h2 (idSort l) (idSort_len l) m os
    change St _ _ (sortWorldK idc 2 w2 b off m (l.toArray.toList.mergeSort fun x y => !(ltOf cmpId) y x).toArray os) ∧ Env w2 (sortWorldK idc 2 w2 b off m (l.toArray.toList.mergeSort fun x y => !(ltOf cmpId) y x).toArray os) at hs
    obtain ⟨h3, en3⟩ := hs
    generalize sortWorldK idc 2 w2 b off m (l.toArray.toList.mergeSort fun x y => !(ltOf cmpId) y x).toArray os = W at *
    go_wp2_with fail
    refine (compact_own _ _ _ _ _ _ _ _ h3).mono ?_
    rintro e w4 ⟨n4, rfl, h4, en4⟩
    go_wp2_with fail
    go_ret
    exact ⟨_, rfl, h4, (en2'.trans en3).trans en4⟩
theorem runsTo_mem (l : List Id) : ∀ j, j ≤ l.length → ∀ a, a ∈ runsTo l j ↔ a ∈ l.take j
  | 0, _, a => by simp [runsTo]
  | j + 1, hj, a => by
    have ih := runsTo_mem l j (by omega) a
    rw [List.take_add_one, List.getElem?_eq_getElem (by omega)]
    by_cases h : j ≠ 0 ∧ l[j]? = l[j - 1]?
    · rw [runsTo, if_pos h, ih]
      simp only [Option.toList, List.mem_append, List.mem_singleton]
      refine ⟨.inl, fun hh => hh.elim id (fun he => ?_)⟩
      have h2 := h.2
      rw [List.getElem?_eq_getElem (by omega), List.getElem?_eq_getElem (by omega)] at h2
      injection h2 with h2
      subst he
      rw [h2]
      exact List.mem_iff_getElem?.2 ⟨j - 1, by rw [List.getElem?_take_of_lt (by omega), List.getElem?_eq_getElem (by omega)]⟩
    · rw [runsTo, if_neg h, List.mem_append, List.mem_append, ih, List.getElem?_eq_getElem (by omega)]
theorem runs_mem (l : List Id) (a : Id) : a ∈ runs l ↔ a ∈ l := by
  unfold runs
  rw [runsTo_mem l _ (Nat.le_refl _), List.take_length]
/-- In order, doubles let in. -/
def Climbs (l : List Id) : Prop := l.Pairwise (fun a b => idLt b a = false)
theorem climbs_sort (l : List Id) : Climbs (idSort l) := by
  unfold Climbs idSort
  have := List.pairwise_mergeSort (le := fun x y => !(ltOf cmpId) y x) (fun a b c hab hbc => by
    simp only [ltOf_id, Bool.not_eq_true', idLt_no] at *
    omega) (fun a b => by
    simp only [ltOf_id, Bool.or_eq_true, Bool.not_eq_true', idLt_no]
    omega) l
  exact this.imp (fun {a b} h => by simpa [ltOf_id] using h)
theorem runsTo_rises (l : List Id) (hc : Climbs l) : ∀ j, j ≤ l.length → Rises (runsTo l j)
  | 0, _ => List.Pairwise.nil
  | j + 1, hj => by
    have ih := runsTo_rises l hc j (by omega)
    by_cases h : j ≠ 0 ∧ l[j]? = l[j - 1]?
    · rw [runsTo, if_pos h]; exact ih
    · rw [runsTo, if_neg h, List.getElem?_eq_getElem (by omega)]
      refine List.pairwise_append.2 ⟨ih, List.pairwise_singleton _ _, fun a ha b hb => ?_⟩
      obtain rfl : b = l[j] := by simpa using hb
      have hm := (runsTo_mem l j (by omega) a).1 ha
      obtain ⟨i, hi⟩ := List.mem_iff_getElem?.1 hm
      have hij : i < j := by
        rcases Nat.lt_or_ge i j with h1 | h1
        · exact h1
        · rw [List.getElem?_eq_none (by rw [List.length_take]; omega)] at hi; cases hi
      rw [List.getElem?_take_of_lt hij, List.getElem?_eq_getElem (by omega)] at hi
      injection hi with hi
      subst hi
      have hp := List.pairwise_iff_getElem.1 hc
      have h1 : idLt l[j] l[j - 1] = false := hp (j - 1) j (by omega) (by omega) (by omega)
      have h2 : ¬ l[j] = l[j - 1] := fun he => h ⟨by omega, by rw [List.getElem?_eq_getElem (by omega), List.getElem?_eq_getElem (by omega), he]⟩
      have h3 : idLt l[j - 1] l[i] = false ∨ i = j - 1 := by
        rcases Nat.lt_or_ge i (j - 1) with h4 | h4
        · exact .inl (hp i (j - 1) (by omega) (by omega) h4)
        · exact .inr (by omega)
      rw [idLt_iff]
      rw [idLt_no] at h1
      have h2' : ¬ (l[j].1 = l[j - 1].1 ∧ l[j].2 = l[j - 1].2) := fun hh => h2 (Prod.ext hh.1 hh.2)
      rcases h3 with h3 | rfl
      · rw [idLt_no] at h3
        omega
      · omega
theorem runs_sort_rises (l : List Id) : Rises (runs (idSort l)) := runsTo_rises _ (climbs_sort l) _ (Nat.le_refl _)
theorem runs_sort_mem (l : List Id) (a : Id) : a ∈ runs (idSort l) ↔ a ∈ l := by
  rw [runs_mem]
  exact List.mem_mergeSort
end Go.Proofs.Ytelmhcbdpimaaaa

/- ident.Has. -/
set_option linter.unusedVariables false
set_option linter.unusedSimpArgs false
namespace Go.Proofs.Ytelmhcbdpimaaaa
open Go.RowKit Go.Cw
attribute [local go_sem ↓] eql_id neq_id
set_option maxRecDepth 100000 in
set_option maxHeartbeats 800000 in
theorem has1_any (x a : Id) (p : Nat) (w : World) (h0 : w.cell? ⟨p, 0, none⟩ = some (.int .i64 a.1)) (h1 : w.cell? ⟨p, 1, none⟩ = some (.int .i64 a.2)) :
    Calls Try.prog 132 #[idV x, .pointer (some ⟨p, 0, none⟩)] w fun e w' => e = .returned (.bool (idEq x.1 x.2 a.1 a.2)) ∧ Below w.heap.size w w' := by
  obtain ⟨r, s⟩ := x
  have bel := boxBelow w (.cells #[.int .i64 r, .int .i64 s] 28)
  have pl := World.block_lt_of_cell? _ _ h0
  go_enter Try.func132, Try.ntmps132
  go_wp2_with fail
  go_ret
  exact ⟨rfl, bel⟩
set_option maxRecDepth 100000 in
set_option maxHeartbeats 1600000 in
theorem index1_any (A : Option Addr) (n c : Nat) (l : List Id) (a : Id) (p : Nat) (w : World) (hx : Rw w 2 (.slice A n c) (idl l)) (h0 : w.cell? ⟨p, 0, none⟩ = some (.int .i64 a.1)) (h1 : w.cell? ⟨p, 1, none⟩ = some (.int .i64 a.2)) :
    Calls Try.prog 153 #[.slice A n c, .func (.func 132) #[] #[.pointer (some ⟨p, 0, none⟩)]] w fun e w' => ∃ z : Int, e = .returned (.int .i64 z) ∧ decide (0 ≤ z) = decide (a ∈ l) ∧ Below w.heap.size w w' := by
  obtain ⟨A', n', c', hv, hl, hn, hc⟩ := hx.form
  cases hv
  rw [idl_len] at hl
  obtain rfl : n = l.length := by omega
  clear hl
  have eg : ∀ args w, (callFunc 132 args).run Try.prog w = .ok (.enter 132 args) w := enters_of Try.func132 (by kernel_rfl) rfl
  have pl := World.block_lt_of_cell? _ _ h0
  obtain ⟨B, hB⟩ : ∃ B, Hid (B = decide (a ∈ l)) := ⟨_, Lib.hid rfl⟩
  rw [← hB.out]
  go_enter Try.func153, Try.ntmps153
  go_wp2_with fail
  go_loopw [5, 8] (fun s5 s8 wr => ∃ k : Nat, k ≤ l.length ∧ s8 = .int .i64 (k : Int) ∧ Below w.heap.size w wr ∧ Hid (a ∉ l.take k)) (fun _ s8 _ => l.length - (intOf s8).toNat)
  case atStart => exact ⟨0, by omega, by go_num, Below.refl _ _, Lib.hid (by simp)⟩
  case round =>
    obtain ⟨k, hk, rfl, hb, hno⟩ := hrel
    by_cases hlt : k < l.length
    · obtain ⟨b, off, hA, hcr⟩ := (hx.below hb).cells (by omega)
      cases hA
      have p1 := hcr _ _ (idl_fst l k hlt)
      have p2 := hcr _ _ (idl_snd l k hlt)
      rw [← Nat.add_assoc] at p2
      obtain ⟨x, HX⟩ : ∃ x, Hid (x = l[k]) := ⟨_, Lib.hid rfl⟩
      rw [← HX.out] at p1 p2
      have hmem := Lib.hid (List.take_add_one (l := l) (i := k))
      clear hcr
      have g0 := (hb.cell (p := ⟨p, 0, none⟩) pl).trans h0
      have g1 := (hb.cell (p := ⟨p, 1, none⟩) pl).trans h1
      have hcl := fun w0 (q0 : w0.cell? ⟨p, 0, none⟩ = some (.int .i64 a.1)) (q1 : w0.cell? ⟨p, 1, none⟩ = some (.int .i64 a.2)) => has1_any x a p w0 q0 q1
      by_cases hxa : x = a
      · have hne := idEq_of hxa
        simp only [hne] at hcl
        replace hcl := Lib.hid (hcl wr g0 g1)
        have hin : a ∈ l := by rw [← hxa, HX.out]; exact List.getElem_mem hlt
        have hBt : Hid (B = true) := Lib.hid (by rw [hB.out, decide_eq_true hin])
        clear hin
        replace hxa := Lib.hid hxa
        go_wp2_with fail
        refine (hcl.out).mono ?_
        rintro e w3 ⟨rfl, hb3⟩
        go_wp2_with fail
        go_ret
        exact ⟨(k : Int), rfl, by rw [hBt.out]; simp, hb.trans (hb3.mono hb.size)⟩
      · have hne := idEq_not hxa
        simp only [hne] at hcl
        replace hcl := Lib.hid (hcl wr g0 g1)
        replace hxa := Lib.hid hxa
        go_wp2_with fail
        refine (hcl.out).mono ?_
        rintro e w3 ⟨rfl, hb3⟩
        go_wp2_with fail
        go_roundw
        case rel => exact ⟨k + 1, by omega, by go_num, hb.trans (hb3.mono hb.size), Lib.hid (by
          rw [hmem.out, List.getElem?_eq_getElem hlt, ← HX.out]
          simp only [Option.toList, List.mem_append, List.mem_singleton, not_or]
          exact ⟨hno.out, fun h => hxa.out h.symm⟩)⟩
        case measure => simp [intOf]; omega
    · obtain rfl : k = l.length := by omega
      have hnot : a ∉ l := by have := hno.out; rwa [List.take_length] at this
      have hBt : Hid (B = false) := Lib.hid (by rw [hB.out, decide_eq_false hnot])
      clear hnot
      go_wp2_with fail
      go_ret
      exact ⟨-1, rfl, by rw [hBt.out]; rfl, hb⟩
set_option maxRecDepth 100000 in
set_option maxHeartbeats 800000 in
theorem contains1_any (A : Option Addr) (n c : Nat) (l : List Id) (a : Id) (p : Nat) (w : World) (hx : Rw w 2 (.slice A n c) (idl l)) (h0 : w.cell? ⟨p, 0, none⟩ = some (.int .i64 a.1)) (h1 : w.cell? ⟨p, 1, none⟩ = some (.int .i64 a.2)) :
    Calls Try.prog 131 #[.slice A n c, .func (.func 132) #[] #[.pointer (some ⟨p, 0, none⟩)]] w fun e w' => e = .returned (.bool (decide (a ∈ l))) ∧ Below w.heap.size w w' := by
  have hin := Lib.hid (index1_any A n c l a p w hx h0 h1)
  go_enter Try.func131, Try.ntmps131
  go_wp2_with fail
  refine hin.out.mono ?_
  rintro e w2 ⟨z, rfl, hz, hb2⟩
  replace hz := Lib.hid hz
  go_wp2_with fail
  go_ret
  exact ⟨rb hz.out, hb2⟩
set_option maxRecDepth 100000 in
set_option maxHeartbeats 800000 in
theorem identHas_any (u : Value) (l : List Id) (a : Id) (w : World) (hx : Rw w 2 u (idl l)) :
    Calls Try.prog 103 #[u, idV a] w fun e w' => e = .returned (.bool (decide (a ∈ l))) ∧ Below w.heap.size w w' := by
  obtain ⟨A, n, c, rfl, hl, hn, hc⟩ := hx.form
  obtain ⟨r, s⟩ := a
  have hmf : ∀ (fn : Fn) (first cap : Array Value) (w : World), (Instr.makeFunc fn first cap).run Try.prog w = .ok (.func fn first cap) w := fun _ _ _ _ => rfl
  obtain ⟨H1, l1, h1, y⟩ := (St.start w).box #[.int .i64 r, .int .i64 s] 28
  have en1 := (Env.refl w).alloc (.cells #[.int .i64 r, .int .i64 s] 28)
  have v0 := h1.cell (y 0 _ rfl)
  have v1 := h1.cell (y 1 _ rfl)
  have hin := contains1_any A n c l (r, s) w.heap.size _ (hx.alloc (.cells #[.int .i64 r, .int .i64 s] 28)) v0 v1
  have hbx := boxBelow w (.cells #[.int .i64 r, .int .i64 s] 28)
  replace hin := Lib.hid hin
  go_enter Try.func103, Try.ntmps103
  go_wp2_with fail
  refine hin.out.mono ?_
  rintro e w2 ⟨rfl, hb2⟩
  go_wp2_with fail
  go_ret
  exact ⟨rfl, hbx.trans (hb2.mono (by simp))⟩
end Go.Proofs.Ytelmhcbdpimaaaa

/- Graphs: what there is. -/
set_option linter.unusedVariables false
set_option linter.unusedSimpArgs false
namespace Go.Proofs.Ytelmhcbdpimaaaa
open Go.RowKit Go.Cw Go.Fl
attribute [local go_sem ↓] eql_id neq_id
/-- A record whose slices are only read, and what they have is such as Go has. -/
structure RcD (H : Hp) (x : Rc) : Prop where
  d : Rd H 2 x.2.2.1 (idl x.2.2.2.2.1)
  b : Rd H 3 x.2.2.2.1 (cml x.2.2.2.2.2)
  ok : ∀ c ∈ x.2.2.2.2.2, CmW c
theorem RcD.mono {H H' : Hp} {x : Rc} (h : RcD H x) (hl : Hp.le H H') : RcD H' x := ⟨h.d.mono hl, h.b.mono hl, h.ok⟩
theorem RcD.rw {H : Hp} {l : List HA} {w : World} {x : Rc} (h : RcD H x) (hst : St H l w) : RcR w x := ⟨h.d.rw hst, h.b.rw hst, h.ok⟩
/-- The codes of a map from ids to records. -/
def recC : Go.Cw.Code Try.prog 28 Id Rc where
  kv := idV
  vv := recV
  inj := setC.inj
  kinds := kinds_id
def entsR (L : List Rc) : List (Id × Rc) := L.map (fun x => (x.1, x))
theorem entsR_keys (L : List Rc) : (entsR L).map (·.1) = rids L := by unfold entsR rids; rw [List.map_map]; rfl
theorem entsR_len (L : List Rc) : (entsR L).length = L.length := by simp [entsR]
theorem zero_rec (w : World) : (zeroValue 32).run Try.prog w = .ok (.agg #[.int .i64 0, .int .i64 0, .int .i64 0, .slice none 0 0, .slice none 0 0]) w := by kernel_rfl
theorem entsR_none (L : List Rc) (a : Id) (h : a ∉ rids L) : mlook a (entsR L) = none := lookup_none (by rw [entsR_keys]; exact h)
theorem entsR_some : ∀ (L : List Rc) (a : Id), a ∈ rids L → ∃ x ∈ L, x.1 = a ∧ mlook a (entsR L) = some x
  | [], _, h => by simp [rids] at h
  | x :: r, a, h => by
    by_cases hx : x.1 = a
    · exact ⟨x, by simp, hx, by show (if x.1 = a then _ else _) = _; rw [if_pos hx]⟩
    · have h2 : a ∈ rids r := by
        simp only [rids, List.map_cons, List.mem_cons] at h
        exact h.resolve_left (fun e => hx e.symm)
      obtain ⟨y, hy, hya, hl⟩ := entsR_some r a h2
      exact ⟨y, List.mem_cons_of_mem _ hy, hya, by show (if x.1 = a then _ else _) = _; rw [if_neg hx]; exact hl⟩
/-- How many edges. -/
def edgesOf (L : List Rc) : Nat := (L.map (fun x => x.2.2.2.2.1.length)).sum
/-- A graph at p. -/
def GrA (p : Nat) (L : List Rc) : HA := Ex fun g => Star (Blk p #[.map (some g), .int .i64 (edgesOf L : Int)] 99) (Mp recC g (entsR L))
abbrev grP (p : Nat) : Value := .pointer (some ⟨p, 0, none⟩)
theorem grOpen {H : Hp} {fr : List HA} {w : World} {p : Nat} {L : List Rc} (h : St H (GrA p L :: fr) w) : ∃ g, St H (Blk p #[.map (some g), .int .i64 (edgesOf L : Int)] 99 :: Mp recC g (entsR L) :: fr) w := by
  obtain ⟨g, hg⟩ := h.openEx
  exact ⟨g, hg.openStar⟩
theorem grShut {H : Hp} {fr : List HA} {w : World} {p g : Nat} {L : List Rc} (h : St H (Blk p #[.map (some g), .int .i64 (edgesOf L : Int)] 99 :: Mp recC g (entsR L) :: fr) w) : St H (GrA p L :: fr) w := St.shutEx g h.shutStar
theorem gr_nodup {H : Hp} {fr : List HA} {w : World} {p : Nat} {L : List Rc} (h : St H (GrA p L :: fr) w) : (rids L).Nodup := by
  obtain ⟨g, hg⟩ := grOpen h
  have := hg.swap.mp_nodup
  rwa [entsR_keys] at this
set_option maxRecDepth 100000 in
set_option maxHeartbeats 1600000 in
theorem indexHas_any (g : Nat) (L : List Rc) (a : Id) (H : Hp) (fr : List HA) (w : World) (hL : ∀ x ∈ L, RcD H x) (h : St H (Mp recC g (entsR L) :: fr) w) :
    Calls Try.prog 61 #[.agg #[.map (some g)], idV a] w fun e w' => e = .returned (.bool (decide (a ∈ rids L))) ∧ Below w.heap.size w w' := by
  obtain ⟨c, hc⟩ : ∃ c : Rc, c = ((0, 0), 0, .slice none 0 0, .slice none 0 0, [], []) := ⟨_, rfl⟩
  obtain ⟨x, bb, hbb, ⟨d1, d2, d3, hdv⟩, ⟨b1, b2, b3, hbv⟩, hat⟩ : ∃ (x : Rc) (bb : Bool), Hid (bb = decide (a ∈ rids L)) ∧ (∃ A n c, x.2.2.1 = .slice A n c) ∧ (∃ A n c, x.2.2.2.1 = .slice A n c) ∧ Hid (recC.at_ (.agg #[.int .i64 0, .int .i64 0, .int .i64 0, .slice none 0 0, .slice none 0 0]) true (mlook a (entsR L)) = .tuple #[recV x, .bool bb]) := by
    by_cases hm : a ∈ rids L
    · obtain ⟨x, hxL, _, hl⟩ := entsR_some L a hm
      obtain ⟨d1, d2, d3, hd, _⟩ := (hL x hxL).d.form
      obtain ⟨b1, b2, b3, hb, _⟩ := (hL x hxL).b.form
      exact ⟨x, true, Lib.hid (by rw [decide_eq_true hm]), ⟨d1, d2, d3, hd⟩, ⟨b1, b2, b3, hb⟩, Lib.hid (by rw [hl]; rfl)⟩
    · exact ⟨c, false, Lib.hid (by rw [decide_eq_false hm]), ⟨none, 0, 0, by rw [hc]⟩, ⟨none, 0, 0, by rw [hc]⟩, Lib.hid (by rw [entsR_none L a hm, hc]; rfl)⟩
  clear hc c
  rw [← hbb.out]
  obtain ⟨r, s⟩ := a
  obtain ⟨⟨x0, x1⟩, x2, x3, x4, x5, x6⟩ := x
  simp only at hdv hbv
  subst hdv hbv
  have k1 := (St.start w).blk #[.map (some g)] 97
  have k2 := k1.blk #[.int .i64 r, .int .i64 s] 28
  have e1 : (w.alloc (.cells #[.map (some g)] 97)).heap.size = w.heap.size + 1 := by simp
  have e2 : ((w.alloc (.cells #[.map (some g)] 97)).alloc (.cells #[.int .i64 r, .int .i64 s] 28)).heap.size = w.heap.size + 1 + 1 := by simp
  rw [e1] at k2
  have hm := (h.alloc (.cells #[.map (some g)] 97)).alloc (.cells #[.int .i64 r, .int .i64 s] 28)
  have hlk := hm.mp_get true Try.underlying95 (zero_rec _) (r, s)
  rw [hat.out] at hlk
  change (Instr.lookup 95 (.map (some g)) (.agg #[.int .i64 r, .int .i64 s]) true).run Try.prog _ = .ok (.tuple #[.agg #[.int .i64 x0, .int .i64 x1, .int .i64 x2, .slice d1 d2 d3, .slice b1 b2 b3], .bool bb]) _ at hlk
  have en2 := ((Env.refl w).alloc (.cells #[.map (some g)] 97)).alloc (.cells #[.int .i64 r, .int .i64 s] 28)
  have c0 := k2.swap.blk_cell 0
  have i0 := k2.blk_cell 0
  have i1 := k2.blk_cell 1
  have cl := k2.swap.blk_lt
  have il := k2.blk_lt
  go_enter Try.func61, Try.ntmps61
  go_wp2_with fail
  go_ret
  exact ⟨rfl, (((Below.refl _ _).alloc (Nat.le_refl _) _).alloc (by simp) _).alloc (by simp; omega) _⟩
set_option maxRecDepth 100000 in
theorem grHas_nil (a : Id) (w : World) : Calls Try.prog 79 #[.pointer none, idV a] w fun e w' => e = .returned (.bool false) ∧ Below w.heap.size w w' := by
  have hb := boxBelow w (.cells #[.int .i64 a.1, .int .i64 a.2] 28)
  go_enter Try.func79, Try.ntmps79
  go_wp2_with fail
  go_quiet (fail)
  go_wp2_with fail
  go_ret
  exact ⟨rfl, bel_drewN hb _⟩
set_option maxRecDepth 100000 in
set_option maxHeartbeats 1600000 in
theorem grHas_any (p : Nat) (L : List Rc) (a : Id) (H : Hp) (fr : List HA) (w : World) (hL : ∀ x ∈ L, RcD H x) (h : St H (GrA p L :: fr) w) :
    Calls Try.prog 79 #[grP p, idV a] w fun e w' => e = .returned (.bool (decide (a ∈ rids L))) ∧ Below w.heap.size w w' := by
  obtain ⟨g, h1⟩ := grOpen h
  obtain ⟨H', hle, h2, hx⟩ := h1.box #[.int .i64 a.1, .int .i64 a.2] 28
  have y0 := hx 0 _ rfl
  have y1 := hx 1 _ rfl
  have hL' : ∀ x ∈ L, RcD H' x := fun x hm => (hL x hm).mono hle
  have hb := boxBelow w (.cells #[.int .i64 a.1, .int .i64 a.2] 28)
  have hI := fun w3 (h3 : St H' (Blk p #[.map (some g), .int .i64 (edgesOf L : Int)] 99 :: Mp recC g (entsR L) :: fr) w3) => indexHas_any g L a H' _ w3 hL' h3.swap
  replace hI := Lib.hid hI
  clear hL hL' h h1 hx
  go_enter Try.func79, Try.ntmps79
  go_wp2_with fail
  generalize w.alloc (.cells #[.int .i64 a.1, .int .i64 a.2] 28) = W at *
  have c0 : W.cell? ⟨p, 0, none⟩ = some (.map (some g)) := h2.blk_cell 0
  have cl := h2.blk_lt
  have i0 := h2.cell y0
  have i1 := h2.cell y1
  have il := World.block_lt_of_cell? _ _ i0
  go_still_tail 8, (by kernel_rfl)
  change wpList _ _ _ _ _ W.drew
  go_wp2_with fail
  refine (hI.out _ h2.drew).mono ?_
  rintro e w4 ⟨rfl, hb4⟩
  go_wp2_with fail
  go_ret
  exact ⟨rfl, hb.trans ((Below.refl _ _).drew.trans (hb4.mono hb.size))⟩
end Go.Proofs.Ytelmhcbdpimaaaa

/- Graphs: New. -/
set_option linter.unusedVariables false
set_option linter.unusedSimpArgs false
namespace Go.Proofs.Ytelmhcbdpimaaaa
open Go.RowKit Go.Cw Go.Fl
attribute [local go_sem ↓] eql_id neq_id
/-- What is wrong first with records. -/
def gErr (seen : List Id) : List Rp → Int
  | [] => 0
  | x :: r => if recErr x ≠ 0 then recErr x else if x.1 ∈ seen then 16 else gErr (seen ++ [x.1]) r
/-- What New tells of records. -/
def NewR (w : World) (l : List Rp) (e : Ending) (w' : World) : Prop :=
  (gErr [] l = 0 ∧ ∃ p L H, Hp.le (snap w) H ∧ St H [GrA p L] w' ∧ (∀ x ∈ L, RcD H x) ∧ L.map rp = l ∧ Env w w' ∧ e = .returned (.tuple #[grP p, .int .i64 0])) ∨
  (gErr [] l ≠ 0 ∧ e = .returned (.tuple #[.pointer none, .int .i64 (gErr [] l)]) ∧ Below w.heap.size w w')
theorem recErr_len (x : Rp) (h : recErr x = 0) : x.2.2.1.length ≤ 16 ∧ x.2.2.2.length ≤ 8 := by
  unfold recErr at h
  by_cases h1 : ownErr x = 0
  · rw [if_neg (by simpa using h1)] at h
    by_cases h2 : depErr x = 0
    · rw [if_neg (by simpa using h2)] at h
      refine ⟨?_, ?_⟩
      · unfold depErr at h2
        rcases Nat.lt_or_ge 16 x.2.2.1.length with h3 | h3
        · rw [if_pos h3] at h2; omega
        · exact h3
      · unfold batchErr at h
        rcases Nat.lt_or_ge 8 x.2.2.2.length with h3 | h3
        · rw [if_pos h3] at h; omega
        · exact h3
    · rw [if_pos (by simpa using h2)] at h
      exact absurd h h2
  · rw [if_pos (by simpa using h1)] at h
    exact absurd h h1
theorem gErr_step (l : List Rc) (k : Nat) (h : k < l.length) (seen : List Id) : gErr seen ((l.drop k).map rp) = if recErr (rp l[k]) ≠ 0 then recErr (rp l[k]) else if l[k].1 ∈ seen then 16 else gErr (seen ++ [l[k].1]) ((l.drop (k + 1)).map rp) := by
  rw [List.drop_eq_getElem_cons h, List.map_cons, gErr]
theorem entsR_put (L : List Rc) (x : Rc) (h : x.1 ∉ rids L) : mput x.1 x (entsR L) = entsR (L ++ [x]) := by
  unfold mput
  rw [if_neg (by rw [entsR_keys]; exact h)]
  simp [entsR]
theorem edgesOf_snoc (L : List Rc) (x : Rc) : edgesOf (L ++ [x]) = edgesOf L + x.2.2.2.2.1.length := by simp [edgesOf]
theorem edgesOf_le (L : List Rc) (h : ∀ x ∈ L, x.2.2.2.2.1.length ≤ 16) : edgesOf L ≤ 16 * L.length := by
  induction L with
  | nil => simp [edgesOf]
  | cons x r ih =>
    have h1 := ih (fun y hy => h y (List.mem_cons_of_mem _ hy))
    have h2 := h x (by simp)
    simp only [edgesOf, List.map_cons, List.sum_cons, List.length_cons] at *
    omega
set_option maxRecDepth 100000 in
set_option maxHeartbeats 6400000 in
theorem newGr_any (u : Value) (l : List Rc) (w : World) (hx : Rw w 5 u (recs l)) (hl : ∀ x ∈ l, RcR w x) (hlen : l.length ≤ 1000000) :
    Calls Try.prog 15 #[u] w (NewR w (l.map rp)) := by
  obtain ⟨A, n, c, rfl, hn, hnc, hc⟩ := hx.form
  rw [recs_len] at hn
  obtain rfl : n = l.length := by omega
  clear hn
  have hR := hx.rd
  have hl' : ∀ x ∈ l, RcD (snap w) x := fun x hm => ⟨(hl x hm).d.rd, (hl x hm).b.rd, (hl x hm).ok⟩
  obtain ⟨G, hG⟩ : ∃ G, Hid (gErr [] (l.map rp) = G) := ⟨_, Lib.hid rfl⟩
  have hstart := Lib.hid (show gErr [] ((l.drop 0).map rp) = G from hG.out)
  have m1 := run_makeMap (P := Try.prog) 95 w
  have e1 : (w.alloc (.map #[] 0)).heap.size = w.heap.size + 1 := by simp
  have h1 := ((St.start w).mp_made (C := recC)).blk #[.map (some w.heap.size), .int .i64 0] 99
  rw [e1] at h1
  have en1 := ((Env.refl w).alloc (.map #[] 0)).alloc (.cells #[.map (some w.heap.size), .int .i64 0] 99)
  clear e1 hl
  go_enter Try.func15, Try.ntmps15
  go_wp2_with fail
  generalize (w.alloc (.map #[] 0)).alloc (.cells #[.map (some w.heap.size), .int .i64 0] 99) = W at *
  generalize hp : w.heap.size + 1 = p at *
  generalize hg : w.heap.size = g at *
  go_loopw [14] (fun i wr => ∃ (k : Nat) (L : List Rc) (H : Hp), k ≤ l.length ∧ i = .int .i64 (k : Int) ∧ Hp.le (snap w) H ∧ St H (Blk p #[.map (some g), .int .i64 (edgesOf L : Int)] 99 :: Mp recC g (entsR L) :: []) wr ∧ Env w wr ∧ Hid (∀ x ∈ L, RcD H x ∧ x.2.2.2.2.1.length ≤ 16) ∧ Hid (L.map rp = (l.take k).map rp) ∧ Hid (gErr (rids L) ((l.drop k).map rp) = G)) (fun i _ => l.length - (intOf i).toNat)
  case atStart => exact ⟨0, [], snap w, by omega, by go_num, Hp.le_refl _, h1, en1, Lib.hid (by simp), Lib.hid (by simp), hstart⟩
  case round =>
    clear h1 en1 hstart m1
    obtain ⟨k, L, H, hk, rfl, hle, h1, en1, hL, hLm, hGk⟩ := hrel
    by_cases hlt : k < l.length
    · obtain ⟨b, off, hA, hcr⟩ := ((hR.mono hle).rw h1).cells (by omega)
      cases hA
      obtain ⟨p0, p1, p2, p3, p4⟩ := recs_get l k hlt
      replace p0 := hcr _ _ p0
      replace p1 := hcr _ _ p1
      replace p2 := hcr _ _ p2
      replace p3 := hcr _ _ p3
      replace p4 := hcr _ _ p4
      rw [← Nat.add_assoc] at p1 p2 p3 p4
      clear hcr
      have hst := gErr_step l k hlt (rids L)
      rw [hGk.out] at hst
      have hxk := hl' l[k] (List.getElem_mem hlt)
      have htk : (l.take (k + 1)).map rp = (l.take k).map rp ++ [rp l[k]] := by rw [List.take_add_one, List.getElem?_eq_getElem hlt, List.map_append]; rfl
      replace htk := Lib.hid htk
      generalize l[k] = x at *
      obtain ⟨⟨r, s⟩, q, dv, bv, D, Bt⟩ := x
      obtain ⟨d1, d2, d3, hdv, hd4, hd5, hd6⟩ := hxk.d.form
      obtain ⟨b1, b2, b3, hbv, _⟩ := hxk.b.form
      simp only at hdv hbv hd4 p0 p1 p2 p3 p4 hst
      subst hdv hbv
      rw [idl_len] at hd4
      obtain rfl : d2 = D.length := by omega
      have hxd := Lib.hid hxk
      clear hxk
      obtain ⟨H1, l1, h2, y⟩ := h1.box #[.int .i64 r, .int .i64 s, .int .i64 q, .slice d1 D.length d3, .slice b1 b2 b3] 32
      have en2 := en1.alloc (.cells #[.int .i64 r, .int .i64 s, .int .i64 q, .slice d1 D.length d3, .slice b1 b2 b3] 32)
      have y0 := y 0 _ rfl
      have y1 := y 1 _ rfl
      have y2 := y 2 _ rfl
      have y3 := y 3 _ rfl
      have y4 := y 4 _ rfl
      clear y
      have hxr := (hxd.out.mono (Hp.le_trans hle l1)).rw h2
      have hC := Lib.hid (recCheck_any ((r, s), q, .slice d1 D.length d3, .slice b1 b2 b3, D, Bt) _ hxr)
      have v0 := h2.cell y0
      have v1 := h2.cell y1
      have v2 := h2.cell y2
      have v3 := h2.cell y3
      have v4 := h2.cell y4
      have vl := World.block_lt_of_cell? _ _ v0
      have le1 := Hp.le_trans hle l1
      clear hxr
      by_cases hE : recErr (rp ((r, s), q, .slice d1 D.length d3, .slice b1 b2 b3, D, Bt)) = 0
      · rw [if_neg (by simpa using hE)] at hst
        rw [hE] at hC
        obtain ⟨lD, lB⟩ := recErr_len _ hE
        simp only at lD lB
        have lDh := Lib.hid lD
        have lBh := Lib.hid lB
        clear hE lD lB
        go_wp2_with fail
        generalize hW2 : wr.alloc (.cells #[.int .i64 r, .int .i64 s, .int .i64 q, .slice d1 D.length d3, .slice b1 b2 b3] 32) = W2 at *
        generalize wr.heap.size = gb at *
        refine (hC.out).mono ?_
        rintro e w3 ⟨rfl, hb3⟩
        have h3 := h2.below hb3
        have en3 := en2.trans (bel_env hb3)
        clear v0 v1 v2 v3 v4 vl hC p0 p1 p2 p3 p4 h2 en2
        have c0 : w3.cell? ⟨p, 0, none⟩ = some (.map (some g)) := h3.blk_cell 0
        have cl := h3.blk_lt
        have v0 := h3.cell y0
        have v1 := h3.cell y1
        have vl := World.block_lt_of_cell? _ _ v0
        have hI := fun w4 (h4 : St H1 (Blk p #[.map (some g), .int .i64 (edgesOf L : Int)] 99 :: Mp recC g (entsR L) :: []) w4) => indexHas_any g L (r, s) H1 _ w4 (fun z hz => ((hL.out z hz).1).mono l1) h4.swap
        by_cases hd : ((r, s) : Id) ∈ rids L
        · rw [if_pos hd] at hst
          simp only [decide_eq_true hd] at hI
          replace hI := Lib.hid hI
          replace hst := Lib.hid hst
          clear hd
          go_wp2_with fail
          go_still_tail 6, (by kernel_rfl)
          change wpList _ _ _ _ _ w3.drew
          go_wp2_with fail
          refine (hI.out _ h3.drew).mono ?_
          rintro e w4 ⟨rfl, hb4⟩
          go_wp2_with fail
          go_ret2
          exact .inr ⟨by rw [hG.out, hst.out]; decide, by rw [hG.out, hst.out]; rfl, ((h3.drew.below hb4).weaken le1).drop.drop.toBelow (en3.drew.trans (bel_env hb4))⟩
        · rw [if_neg hd] at hst
          simp only [decide_eq_false hd] at hI
          replace hI := Lib.hid hI
          replace hst := Lib.hid hst
          replace hd := Lib.hid hd
          go_wp2_with fail
          go_still_tail 6, (by kernel_rfl)
          change wpList _ _ _ _ _ w3.drew
          go_wp2_with fail
          refine (hI.out _ h3.drew).mono ?_
          rintro e w4 ⟨rfl, hb4⟩
          have h4 := h3.drew.below hb4
          have en4 := en3.drew.trans (bel_env hb4)
          clear hI h3 en3 hb4 hb3 c0 cl v0 v1 vl
          have h5 := h4.drew
          have en5 := en4.drew
          have kk : ∀ (Hx : Hp) (l' : List HA) (w' : World), Hp.le H1 Hx → w'.cell? ⟨p, 0, none⟩ = some (.map (some g)) → St Hx l' w' → (w'.cell? ⟨p, 0, none⟩ = some (.map (some g)) ∧ w'.cell? ⟨gb, 0, none⟩ = some (.int .i64 r) ∧ w'.cell? ⟨gb, 1, none⟩ = some (.int .i64 s) ∧ w'.cell? ⟨gb, 2, none⟩ = some (.int .i64 q) ∧ w'.cell? ⟨gb, 3, none⟩ = some (.slice d1 D.length d3) ∧ w'.cell? ⟨gb, 4, none⟩ = some (.slice b1 b2 b3)) := fun Hx l' w' hl hc h => ⟨hc, h.cell (Hp.cell_le hl y0), h.cell (Hp.cell_le hl y1), h.cell (Hp.cell_le hl y2), h.cell (Hp.cell_le hl y3), h.cell (Hp.cell_le hl y4)⟩
          have k5 := kk _ _ _ (Hp.le_refl _) (h5.blk_cell 0) h5
          have c0 : w4.cell? ⟨p, 0, none⟩ = some (.map (some g)) := h4.blk_cell 0
          have cl := h4.blk_lt
          have v0 := h4.cell y0
          have vl := World.block_lt_of_cell? _ _ v0
          have hCp := Lib.hid (recCopy_any ((r, s), q, .slice d1 D.length d3, .slice b1 b2 b3, D, Bt) _ ((hxd.out.mono le1).rw h5) (by have := lDh.out; simp only; omega) (by have := lBh.out; simp only; omega))
          clear h4 en4
          go_wp2_with fail
          go_region_held3 (fun w' => w'.cell? ⟨p, 0, none⟩ = some (.map (some g)) ∧ w'.cell? ⟨gb, 0, none⟩ = some (.int .i64 r) ∧ w'.cell? ⟨gb, 1, none⟩ = some (.int .i64 s) ∧ w'.cell? ⟨gb, 2, none⟩ = some (.int .i64 q) ∧ w'.cell? ⟨gb, 3, none⟩ = some (.slice d1 D.length d3) ∧ w'.cell? ⟨gb, 4, none⟩ = some (.slice b1 b2 b3))
            (first | exact k5 | exact k6 | exact k7)
            ((go_at_call 56; refine (hCp.out).mono ?_; rintro e w6 he; obtain ⟨⟨dv', bv'⟩, rfl, h6, en6⟩ := ResE.lift h5 he; have k6 := kk _ _ _ (Hp.le_refl _) ((h6.pick 2 (by simp)).blk_cell 0) h6; obtain ⟨H2, l2, h7, hrd⟩ := h6.row_keep; obtain ⟨H3, l3, h8, hrb⟩ := h7.row_keep; obtain ⟨w7, hmu, h9, en7⟩ := h8.swap.mp_put (t := 95) Try.underlying95 (r, s) ((r, s), q, dv', bv', D, Bt); change (Instr.mapUpdate 95 (.map (some g)) (.agg #[.int .i64 r, .int .i64 s]) (.agg #[.int .i64 r, .int .i64 s, .int .i64 q, dv', bv'])).run Try.prog w6 = .ok () w7 at hmu; have k7 := kk _ _ _ (Hp.le_trans l2 l3) (h9.swap.blk_cell 0) h9))
          obtain ⟨x', hx'⟩ : ∃ x' : Rc, x' = ((r, s), q, dv', bv', D, Bt) := ⟨_, rfl⟩
          have hxd' : Hid (RcD H3 x' ∧ x'.2.2.2.2.1.length ≤ 16) := Lib.hid (by subst hx'; exact ⟨⟨hrd.mono l3, hrb, hxd.out.ok⟩, lDh.out⟩)
          have hxi : x'.1 = (r, s) := by rw [hx']
          have hxp : rp x' = ((r, s), q, D, Bt) := by rw [hx']
          have hxl : x'.2.2.2.2.1.length = D.length := by rw [hx']
          have hput : mput (r, s) ((r, s), q, dv', bv', D, Bt) (entsR L) = entsR (L ++ [x']) := by rw [hx']; exact entsR_put L ((r, s), q, dv', bv', D, Bt) hd.out
          rw [hput] at h9
          replace hxi := Lib.hid hxi
          replace hxp := Lib.hid hxp
          replace hxl := Lib.hid hxl
          clear hput hx'
          have le3 := Hp.le_trans l2 l3
          have en8 := (en5.trans en6).trans en7
          have hm := h9.swap
          have g1 : w7.cell? ⟨p, 1, none⟩ = some (.int .i64 (edgesOf L : Int)) := hm.blk_cell 1
          have gf := hm.blk_free 1
          have gl := hm.blk_lt
          have v3 := h9.cell (Hp.cell_le le3 y3)
          have v3l := World.block_lt_of_cell? _ _ v3
          have hLk : L.length = k := by have := congrArg List.length hLm.out; simpa [Nat.min_eq_left hk] using this
          have hsum := edgesOf_le L (fun z hz => (hL.out z hz).2)
          have lD := lDh.out
          have hw : IntKind.i64.wrap ((edgesOf L : Int) + (D.length : Int)) = (edgesOf L : Int) + (D.length : Int) := by rw [IntKind.wrap_i64]; omega
          replace hsum := Lib.hid hsum
          replace hLk := Lib.hid hLk
          clear h9 h8 h7 h6 h5 en5 en6 en7 k5 k6 k7 kk hmu hCp c0 cl v0 vl lD
          go_wp2_with fail
          go_still_tail 10, (by kernel_rfl)
          change wpList _ _ _ _ _ w7.drew
          go_wp2_with fail
          have h10 := hm.drew.blk_set 1 (.int .i64 ((edgesOf L : Int) + (D.length : Int)))
          have h11 : St H3 (Blk p #[.map (some g), .int .i64 (edgesOf (L ++ [x']) : Int)] 99 :: Mp recC g (entsR (L ++ [x'])) :: []) (w7.drew.setCell ⟨p, 1, none⟩ (.int .i64 ((edgesOf L : Int) + (D.length : Int)))) := by
            rw [edgesOf_snoc, hxl.out, Int.natCast_add]
            exact h10
          go_roundw
          case rel => exact ⟨k + 1, L ++ [x'], H3, by omega, by go_num, Hp.le_trans le1 le3, h11, en8.drew.setCell _ _, Lib.hid (fun z hz => by
            rcases List.mem_append.1 hz with hz | hz
            · exact ⟨((hL.out z hz).1).mono (Hp.le_trans l1 le3), (hL.out z hz).2⟩
            · obtain rfl : z = x' := by simpa using hz
              exact hxd'.out), Lib.hid (by rw [htk.out, List.map_append, hLm.out, List.map_cons, hxp.out]; rfl), Lib.hid (by
              have : rids (L ++ [x']) = rids L ++ [(r, s)] := by simp only [rids, List.map_append, List.map_cons, List.map_nil, hxi.out]
              rw [this]; exact hst.out.symm)⟩
          case measure => simp [intOf]; omega
      · rw [if_pos (by simpa using hE)] at hst
        have hne : (recErr (rp ((r, s), q, .slice d1 D.length d3, .slice b1 b2 b3, D, Bt)) != 0) = true := by simpa using hE
        rw [← hst] at hC hne
        have hG0 : Hid (G ≠ 0) := Lib.hid (by simpa using hne)
        clear hE hst
        go_wp2_with fail
        refine (hC.out).mono ?_
        rintro e w3 ⟨rfl, hb3⟩
        go_wp2_with fail
        go_ret2
        exact .inr ⟨by rw [hG.out]; exact hG0.out, by rw [hG.out]; rfl, ((h2.below hb3).weaken le1).drop.drop.toBelow (en2.trans (bel_env hb3))⟩
    · obtain rfl : k = l.length := by omega
      rw [List.take_length] at hLm
      have hG0 : gErr [] (l.map rp) = 0 := by
        rw [hG.out, ← hGk.out, List.drop_length]; rfl
      go_wp2_with fail
      go_ret2
      exact .inl ⟨hG0, p, L, H, hle, grShut h1, fun x hx => (hL.out x hx).1, hLm.out, en1, rfl⟩
end Go.Proofs.Ytelmhcbdpimaaaa

/- Graphs: what records bring. -/
set_option linter.unusedVariables false
set_option linter.unusedSimpArgs false
namespace Go.Proofs.Ytelmhcbdpimaaaa
open Go.RowKit Go.Cw Go.Fl
attribute [local go_sem ↓] eql_id neq_id
theorem entsR_split {L : List Rc} {pre post : List (Id × Rc)} {p : Id × Rc} (h : entsR L = pre ++ p :: post) : ∃ A x B, L = A ++ x :: B ∧ p = (x.1, x) ∧ pre = entsR A ∧ post = entsR B := by
  unfold entsR at h
  obtain ⟨A, q, rfl, hA, hq⟩ := List.map_eq_append_iff.1 h
  obtain ⟨x, B, rfl, hx, hB⟩ := List.map_eq_cons_iff.1 hq
  exact ⟨A, x, B, rfl, hx.symm, hA.symm, hB.symm⟩
theorem wpList_rnext {H : Hp} {fr : List HA} {w : World} {g r : Nat} {L left : List Rc} {ops : Array Oper} {rest : List Oper} {o : Oper} {a : Act} {Q : Exit → Act → World → Prop}
    (hst : St H (Rg recC g r (entsR L) (entsR left) :: fr) w) (hg : o.guard = none) (it : Operand) (hop : o.op = Op.next it false) (hit : a.eval it = .pointer (some ⟨r, 0, none⟩))
    (hDone : left = [] → wpList Try.prog ops Q rest (a.put o.dst (.tuple #[.bool false])) w)
    (hMore : ∀ (pre post : List Rc) (x : Rc) (w' : World), left = pre ++ x :: post → St H (Rg recC g r (entsR L) (entsR (pre ++ post)) :: fr) w' → Env w w' → (Instr.entry (.pointer (some ⟨r, 0, none⟩))).run Try.prog w' = .ok (.tuple #[idV x.1, recV x]) w' →
      wpList Try.prog ops Q rest (a.put o.dst (.tuple #[.bool true, idV x.1, recV x])) w') : wpList Try.prog ops Q (o :: rest) a w := by
  refine wpList_mnext hst hg it hop hit (fun h => hDone (by cases left with | nil => rfl | cons x l => simp [entsR] at h)) ?_
  intro pre post p w' hl h' en hen
  obtain ⟨A, x, B, rfl, rfl, rfl, rfl⟩ := entsR_split hl
  refine hMore A B x w' rfl ?_ en hen
  unfold entsR at *
  rw [List.map_append]
  exact h'
theorem rgr_left {H : Hp} {fr : List HA} {w : World} {g r : Nat} {L left : List Rc} (h : St H (Rg recC g r (entsR L) (entsR left) :: fr) w) : w.rangeLeft g r = left.length := h.get (fun S hS => by
  obtain ⟨⟨hne, es, clock, since, seen, c0, h1, h2, h3, h4, h5, h6, h7, h8⟩, hS⟩ := hS
  have := congrArg List.length h8
  simp only [List.length_map, entsR_len] at this
  simp only [World.rangeLeft, h1, h4]
  simpa using this)
theorem flat_le (f : Rc → List Id) (L : List Rc) (h : ∀ x ∈ L, (f x).length ≤ 16) : (L.flatMap f).length ≤ 16 * L.length := by
  induction L with
  | nil => simp
  | cons x r ih =>
    have h1 := ih (fun y hy => h y (List.mem_cons_of_mem _ hy))
    have h2 := h x (by simp)
    rw [List.flatMap_cons, List.length_append, List.length_cons]
    omega
set_option maxRecDepth 100000 in
set_option maxHeartbeats 3200000 in
theorem gathered_any (p : Nat) (L : List Rc) (f : Rc → List Id) (fn : Nat) (caps : Array Value) (H : Hp) (fr : List HA) (w : World) (h : St H (GrA p L :: fr) w) (hLd : ∀ x ∈ L, RcD H x) (hf : ∀ x ∈ L, (f x).length ≤ 16) (hLl : L.length ≤ 1000000)
    (eg : ∀ args w, (callFunc fn args).run Try.prog w = .ok (.enter fn args) w)
    (hO : ∀ x ∈ L, ∀ (fr' : List HA) (w' : World), St H (GrA p L :: fr') w' → Calls Try.prog fn (#[recV x] ++ caps) w' (fun e w'' => ∃ v, e = .returned v ∧ Rw w'' 2 v (idl (f x)) ∧ Below w'.heap.size w' w'')) :
    Calls Try.prog 96 #[grP p, .func (.func fn) #[] caps] w fun e w' => ∃ v R, e = .returned v ∧ St H (Row 28 2 v (idl R) :: GrA p L :: fr) w' ∧ Env w w' ∧ Rises R ∧ ∀ a, a ∈ R ↔ ∃ x ∈ L, a ∈ f x := by
  obtain ⟨g, h1⟩ := grOpen h
  have hc : w.cell? ⟨p, 0, none⟩ = some (.map (some g)) := h1.blk_cell 0
  have hl := h1.blk_lt
  have hfl := flat_le f L hf
  go_enter Try.func96, Try.ntmps96
  go_wp2_with (at_range; refine wpList_mrange h1.swap rfl (.tmp 14) rfl Try.underlying95 rfl ?_; intro w2 h2 en2)
  go_frame
  have h3 := (h2.row_nil 28 2)
  generalize w.heap.size = r at *
  go_loopw [5] (fun lv wr => ∃ (out : List Id) (left : List Rc), St H (Row 28 2 lv (idl out) :: Rg recC g r (entsR L) (entsR left) :: Blk p #[.map (some g), .int .i64 (edgesOf L : Int)] 99 :: fr) wr ∧ Env w wr ∧ Hid ((out ++ left.flatMap f).Perm (L.flatMap f)) ∧ Hid (∀ x ∈ left, x ∈ L)) (fun _ wr => wr.rangeLeft g r)
  case atStart => exact ⟨[], L, h3, en2, Lib.hid (List.Perm.refl _), Lib.hid (fun _ h => h)⟩
  case round =>
    clear h h1 h2 h3 hc hl en2
    obtain ⟨out, left, hst, hen, HP, HS⟩ := hrel
    go_wp2_with (at_next; refine wpList_rnext hst.swap rfl (.tmp 15) rfl rfl ?_ ?_)
    · intro hl0
      subst hl0
      have hperm : out.Perm (L.flatMap f) := by simpa using HP.out
      have hlo : out.length ≤ 16 * L.length := by rw [hperm.length_eq]; exact hfl
      go_wp2_with fail
      refine (identSorted_any _ out _ (hst.row_rw (by omega)) (by omega)).mono ?_
      rintro e w6 he
      obtain ⟨v, rfl, h6, en6⟩ := ResE.lift hst he
      go_wp2_with fail
      go_ret
      have a1 : St H (Row 28 2 v (idl (runs (idSort out))) :: Rg recC g r (entsR L) (entsR []) :: Blk p #[.map (some g), .int .i64 (edgesOf L : Int)] 99 :: fr) w6 := h6.swap.drop
      have a2 := a1.swap.rg_end
      have a3 : St H (Blk p #[.map (some g), .int .i64 (edgesOf L : Int)] 99 :: Mp recC g (entsR L) :: Row 28 2 v (idl (runs (idSort out))) :: fr) w6 := a2.pick 2 (by simp)
      refine ⟨v, runs (idSort out), rfl, (grShut a3).swap, hen.trans en6, runs_sort_rises out, fun a => ?_⟩
      rw [runs_sort_mem, hperm.mem_iff, List.mem_flatMap]
    · intro pre post x0 x1 x2 dv bv D Bt w5 hleft h5 en5 hent
      have hxL : (((x0, x1), x2, dv, bv, D, Bt) : Rc) ∈ L := HS.out _ (by rw [hleft]; simp)
      have hxd := hLd _ hxL
      have hcl := hO _ hxL
      have hfx := hf _ hxL
      have hms := Lib.hid (rgr_left hst.swap)
      have HN : Hid (((out ++ f ((x0, x1), x2, dv, bv, D, Bt)) ++ (pre ++ post).flatMap f).Perm (L.flatMap f)) := Lib.hid (by
        refine List.Perm.trans ?_ HP.out
        rw [hleft, List.flatMap_append, List.flatMap_append, List.flatMap_cons, List.append_assoc]
        refine List.Perm.append_left out ?_
        rw [← List.append_assoc, ← List.append_assoc]
        exact (List.perm_append_comm).append_right _)
      have HS' : Hid (∀ y ∈ pre ++ post, y ∈ L) := Lib.hid (fun y hy => HS.out y (by rw [hleft]; rcases List.mem_append.1 hy with h | h <;> simp [h]))
      have hol : (out ++ f ((x0, x1), x2, dv, bv, D, Bt)).length ≤ 16 * L.length := by
        have h1 := HN.out.length_eq
        rw [List.length_append] at h1
        omega
      rw [List.length_append] at hol
      replace hleft := Lib.hid hleft
      generalize f ((x0, x1), x2, dv, bv, D, Bt) = fx at *
      obtain ⟨d1, d2, d3, hdv, _⟩ := hxd.d.form
      obtain ⟨b1, b2, b3, hbv, _⟩ := hxd.b.form
      simp only at hdv hbv
      subst hdv hbv
      clear hxd hxL HP HS hst
      obtain ⟨H', hle, h6, hy⟩ := h5.box #[.int .i64 x0, .int .i64 x1, .int .i64 x2, .slice d1 d2 d3, .slice b1 b2 b3] 32
      have y0 := h6.cell (hy 0 _ rfl)
      have y1 := h6.cell (hy 1 _ rfl)
      have y2 := h6.cell (hy 2 _ rfl)
      have y3 := h6.cell (hy 3 _ rfl)
      have y4 := h6.cell (hy 4 _ rfl)
      have yl := World.block_lt_of_cell? _ _ y0
      have en6 := (hen.trans en5).alloc (.cells #[.int .i64 x0, .int .i64 x1, .int .i64 x2, .slice d1 d2 d3, .slice b1 b2 b3] 32)
      have hcl2 := hcl _ _ (grShut ((h6.weaken hle).rg_end.pick 2 (by simp)))
      replace hcl2 := Lib.hid hcl2
      clear hy hcl
      go_wp2_with fail
      generalize w5.heap.size = gb at *
      generalize (w5.alloc (.cells #[.int .i64 x0, .int .i64 x1, .int .i64 x2, .slice d1 d2 d3, .slice b1 b2 b3] 32)) = W at *
      refine (hcl2.out).mono ?_
      rintro e w7 ⟨v7, rfl, hr7, hb7⟩
      have h7 := (h6.below hb7).weaken hle
      have h8 := h7.swap
      obtain ⟨A7, n7, c7, rfl, hn7, _⟩ := hr7.form
      rw [idl_len] at hn7
      obtain rfl : n7 = fx.length := by omega
      go_wp2_with (at_builtin; refine wpList_append rfl (.tmp 20) (.tmp 23) 29 29 rfl Try.underlying29 (.inl ⟨_, Try.underlying29⟩) (.agg #[.int .i64 0, .int .i64 0]) 16 info_id rfl (by decide) (by decide) rfl rfl (h8) (News.rw hr7 (idl_one fx)) ?apB1 ?apK1)
      try case apB1 => first | omega | (simp; omega) | (simp [idl_len]; omega) | skip
      intro v' w9 h9 en9
      go_wp2_with fail
      go_roundw
      case rel => exact ⟨out ++ fx, pre ++ post, by rw [idl_append]; exact h9, (en6.trans (bel_env hb7)).trans en9, HN, HS'⟩
      case measure => rw [rgr_left h9.swap, hms.out, hleft.out]; simp
end Go.Proofs.Ytelmhcbdpimaaaa
