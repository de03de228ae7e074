/- Joined texts: RowIn, CanDel, ConF. -/
import Derived.Test.YtcbckeoalmjcoaaGreatCGR1
import Derived.Test.YtcbckeoalmjcoaaGreatCGR9
import Derived.Test.YtcbckeoalmjcoaaGreatCGR22
/- Appending within the capacity of a row of one's own; a row grown into its capacity: plain lemmas. -/
set_option linter.unusedVariables false
set_option linter.unusedSimpArgs false
namespace Go.Cw
open Go.RowKit
section
variable {P : Program} {H : Hp} {l : List HA} {w : World} {e : TypeId} {sz : Nat} {v : Value} {cs : List Value}
/-- append(v, x...), where the capacity is enough: the same block. -/
theorem St.append_room {g off n c : Nat} (h : St H (Row e sz (.slice (some ⟨g, off, none⟩) n c) cs :: l) w) (t u ty : TypeId) (z : Value) (bytes : Nat) (ht : P.underlying t = some (.slice e)) (hu : (∃ d, P.underlying u = some (.slice d)) ∨ P.underlying u = some .string)
    (hinfo : (P.info? e).map (fun i => (i.zero, i.size, i.bytes)) = some (some z, sz, bytes))
    {x : Value} {m : Nat} {news : List Value} (hx : News P w sz x m news) (hroom : n + m ≤ c) :
    ∃ w', (Builtin.append_ #[t, u] ty #[.slice (some ⟨g, off, none⟩) n c, x]).run P w = .ok (.slice (some ⟨g, off, none⟩) (n + m) c) w' ∧ St H (Row e sz (.slice (some ⟨g, off, none⟩) (n + m) c) (cs ++ news) :: l) w' ∧ Env w w' := by
  obtain ⟨i, hi, hz0, hz1, hz2⟩ := info_parts hinfo
  subst hz1
  subst hz2
  obtain ⟨A, n0, c0, hvv, hl, hc, hM⟩ := h.row_form
  cases hvv
  have hlo := hx.lenOf w
  have hf := hx.first 0
  have hd0 : w.drewN 0 = w := rfl
  rw [hd0] at hf
  obtain ⟨S, ⟨S1, S2, h1, h2, hdj, hs⟩, hn⟩ := h.sep
  rcases h1 with ⟨hv, _⟩ | ⟨g', off', n', cap, cur, hv, hl', hc', hM', hh, hs', hjj, hS⟩
  · cases hv
  · cases hv
    have hmul : (n + m) * i.size ≤ c * i.size := Nat.mul_le_mul_right _ hroom
    rw [Nat.add_mul] at hmul
    have hnl : news.length = m * i.size := hx.len
    have hst := run_storeCells_cells (P := P) g (off + n * i.size) news 0 w
      (fun j hj => by
        simp only [Nat.add_zero, World.cell?, hh]
        rw [if_neg (by simp)]
        simp
        omega)
      (fun j hj => by simp [World.frozen?, hh]) hx.one
    simp only [Nat.add_zero] at hst
    obtain ⟨cur', hh', hsz', hlow, hnew, hfar⟩ := setCells_heap g news (off + n * i.size) w cur e hh (by omega)
    refine ⟨w.setCells g (off + n * i.size) news, ?_, ?_, setCells_env _ _ _ _⟩
    · rcases hu with ⟨d, hd⟩ | hd <;> simp [Builtin.append_, run_underlying ht, run_underlying hd, sizeOf, typeInfo, hi, hlo, hroom, hf, Addr.add_lit, hst]
    · refine h.turn (setCells_env _ _ _ _).size (fun S hS => ?_)
      rcases hS with ⟨hv, _⟩ | ⟨g', off', n', cap', cur2, hv, _, _, _, hh2, _, _, hS⟩
      · cases hv
      · cases hv
        refine ⟨S, .inr ⟨g, off, n + m, c, cur', rfl, by rw [List.length_append, hl, hnl, Nat.add_mul], hroom, hM, hh', by omega, fun j u hj => ?_, hS⟩, fun k hk => .inl hk, fun k _ hk => hfar k (fun e => hk ((hS k).2 e))⟩
        rw [List.getElem?_append] at hj
        split at hj
        · rw [hlow (off + j) (by omega)]
          exact hjj j u hj
        · have := hnew (j - cs.length) u hj
          rwa [show off + n * i.size + (j - cs.length) = off + j by omega] at this
/-- s[:m] past the length, within the capacity. -/
theorem St.row_grow {g off n c : Nat} (h : St H (Row e sz (.slice (some ⟨g, off, none⟩) n c) cs :: l) w) (m : Nat) (h1 : n ≤ m) (h2 : m ≤ c) : ∃ zs, St H (Row e sz (.slice (some ⟨g, off, none⟩) m c) (cs ++ zs) :: l) w := by
  obtain ⟨S, ⟨S1, S2, hR, hl2, hdj, hs⟩, hn⟩ := h.sep
  rcases hR with ⟨hv, _⟩ | ⟨g', off', n', cap, cur, hv, hl', hc', hM', hh, hs', hjj, hS⟩
  · cases hv
  · cases hv
    have hmul : m * sz ≤ c * sz := Nat.mul_le_mul_right _ h2
    have hnm : n * sz ≤ m * sz := Nat.mul_le_mul_right _ h1
    refine ⟨((cur.toList.drop (off + n * sz)).take ((m - n) * sz)), h.imm, S, ⟨S1, S2, .inr ⟨g, off, m, c, cur, rfl, ?_, h2, hM', hh, hs', fun j u hj => ?_, hS⟩, hl2, hdj, hs⟩, hn⟩
    · rw [List.length_append, hl', List.length_take, List.length_drop, Array.length_toList, Nat.sub_mul]
      omega
    · rw [List.getElem?_append] at hj
      split at hj
      · exact hjj j u hj
      · rename_i hge
        rw [List.getElem?_take] at hj
        split at hj
        · rw [List.getElem?_drop, Array.getElem?_toList, hl', show off + n * sz + (j - n * sz) = off + j by omega] at hj
          exact hj
        · cases hj
end
end Go.Cw

/- slices.Delete of one list of ids. -/
set_option linter.unusedVariables false
set_option linter.unusedSimpArgs false
namespace Go.Proofs.YtcbckeoalmjcoaaGreat
open Go.RowKit Go.Cw Go.Fl
attribute [local go_sem ↓] eql_id neq_id
theorem vals_erase (X : List Lv) (i : Nat) : (vals X).take (i * 1) ++ (vals X).drop ((i + 1) * 1) = vals (X.eraseIdx i) := by
  rw [Nat.mul_one, Nat.mul_one, ← List.eraseIdx_eq_take_drop_succ]
  unfold vals
  rw [List.eraseIdx_eq_take_drop_succ, List.eraseIdx_eq_take_drop_succ, List.map_append, List.map_take, List.map_drop]
theorem take_back {α : Type} {V zs zt : List α} {k : Nat} (h : V.length = k) : (((V ++ zs).take k) ++ zt).take k = V := by
  subst h
  simp
def DelR (X : List Lv) (i : Nat) (H : Hp) (fr : List HA) (w : World) (e : Ending) (w' : World) : Prop :=
  ∃ v', e = .returned v' ∧ St H (Row 35 1 v' (vals (X.eraseIdx i)) :: fr) w' ∧ Env w w'
set_option maxRecDepth 100000 in
set_option maxHeartbeats 8000000 in
theorem delete_any (v : Value) (X : List Lv) (i : Nat) (H : Hp) (fr : List HA) (w : World) (h : St H (Row 35 1 v (vals X) :: fr) w) (hv1 : ∀ u ∈ vals X, u.oneCell' = true) (hi : i < X.length) :
    Calls Tryz.prog 62 #[v, .int .i64 (i : Int), .int .i64 ((i : Int) + 1)] w (DelR X i H fr w) := by
  have hfin : ∀ (v' : Value) (w' : World), St H (Row 35 1 v' (vals (X.eraseIdx i)) :: fr) w' → Env w w' → DelR X i H fr w (.returned v') w' := fun v' w' h1 h2 => ⟨v', rfl, h1, h2⟩
  generalize DelR X i H fr w = Q at *
  replace hfin := Lib.hid hfin
  obtain ⟨A, n, c, rfl, hl, hnc, hM⟩ := h.row_form
  rw [vals_len] at hl
  obtain rfl : n = X.length := by omega
  obtain ⟨g, off, rfl, hgl, hcell, _⟩ := h.row_cells (by omega) (by decide)
  simp only [maxLen] at hM
  have hD := h.drew
  have hrw := hD.row_rw (by decide)
  have hn1 : News Tryz.prog w.drew 1 (.slice (some ⟨g, off + (i + 1), none⟩) (X.length - (i + 1)) (c - (i + 1))) (X.length - (i + 1)) ((vals X).drop ((i + 1) * 1)) := by
    refine News.slice (by rw [List.length_drop, vals_len]; omega) (fun hm => ⟨_, rfl, fun j u hj => ?_⟩) (fun u hu => hv1 u (List.mem_of_mem_drop hu))
    rw [add_lit, Nat.add_assoc]
    rw [List.getElem?_drop, Nat.mul_one] at hj
    exact hcell _ _ hj
  have hn2 : c = i + 1 → News Tryz.prog w.drew 1 (.slice (some ⟨g, off, none⟩) 0 0) (X.length - (i + 1)) ((vals X).drop ((i + 1) * 1)) := fun hc => by
    rw [show X.length - (i + 1) = 0 by omega, List.drop_of_length_le (by rw [vals_len]; omega)]
    exact News.slice rfl (fun hm => absurd hm (by omega)) (by simp)
  have hT := hD.row_take i (by omega)
  have key : ∀ (x : Value), News Tryz.prog w.drew 1 x (X.length - (i + 1)) ((vals X).drop ((i + 1) * 1)) → ∃ w5 w6, (Builtin.append_ #[31, 31] 31 #[.slice (some ⟨g, off, none⟩) i c, x]).run Tryz.prog w.drew = .ok (.slice (some ⟨g, off, none⟩) (X.length - 1) c) w5 ∧
      (Builtin.clear_ #[31] 0 #[.slice (some ⟨g, off + (X.length - 1), none⟩) 1 (c - (X.length - 1))]).run Tryz.prog w5 = .ok (.tuple #[]) w6 ∧ St H (Row 35 1 (.slice (some ⟨g, off, none⟩) (X.length - 1) c) (vals (X.eraseIdx i)) :: fr) w6 ∧ Env w w6 := fun x hx => by
    obtain ⟨w5, hrun, h5, en5⟩ := hT.append_room 31 31 31 (.slice none 0 0) 24 Tryz.underlying31 (.inl ⟨_, Tryz.underlying31⟩) info_ids hx (by omega)
    rw [show i + (X.length - (i + 1)) = X.length - 1 by omega] at hrun h5
    rw [vals_erase] at h5
    obtain ⟨zs, h6⟩ := h5.row_grow X.length (by omega) hnc
    obtain ⟨w6, zs2, hcl, h7, en7⟩ := h6.clear_row (P := Tryz.prog) 31 0 (.slice none 0 0) Tryz.underlying31 zero_ids rfl (by simp [Value.oneCell', Value.cells]) (X.length - 1) 1 (c - (X.length - 1)) (off + (X.length - 1)) (fun _ => by rw [Nat.mul_one]) (by omega)
    have h8 := h7.row_take (X.length - 1) (by omega)
    have hlen : (vals (X.eraseIdx i)).length = (X.length - 1) * 1 := by rw [vals_len, List.length_eraseIdx_of_lt hi]
    rw [take_back hlen] at h8
    exact ⟨w5, w6, hrun, hcl, h8, ((Env.refl w).drew.trans en5).trans en7⟩
  have key1 := key _ hn1
  have key2 := fun hc => key _ (hn2 hc)
  have hcn : ¬ c = 0 := by omega
  have hci : (i : Int) ≤ (c : Int) := by omega
  have hcl1 : ¬ c = X.length - 1 := by omega
  have hi1 : (i : Int) + 1 ≤ (X.length : Int) := by omega
  have hne : ((i : Int) == (i : Int) + 1) = false := by rw [beq_eq_false_iff_ne]; omega
  have hwr : IntKind.i64.wrap ((i : Int) + 1) = (i : Int) + 1 := by rw [IntKind.wrap_i64]; omega
  have hXM : (X.length : Int) ≤ 9223372036854775807 := by omega
  have hXc : (X.length : Int) ≤ (c : Int) := by omega
  have hl0 : ((X.length - 1 : Nat) : Int) ≤ (X.length : Int) := by omega
  have hl1 : X.length - (X.length - 1) = 1 := by omega
  clear key hn1 hn2 hT hrw hcell h hD
  go_enter Tryz.func62, Tryz.ntmps62
  go_wp2_with fail
  have hle1 : (i : Int) ≤ (i : Int) + 1 := by omega
  have h01 : (0 : Int) ≤ (i : Int) + 1 := by omega
  have hi0 : (0 : Int) ≤ (i : Int) := by omega
  by_cases hc : c = i + 1
  · subst hc
    have hci2 : (i + 1) - (i + 1) = 0 := by omega
    have hXi2 : X.length - (i + 1) = 0 := by omega
    obtain ⟨w5, w6, hrun, hcl, h6, en6⟩ := key2 rfl
    have hz := Lib.hid (hfin.out _ w6 h6 en6)
    clear hfin h6 en6
    try clear key1
    try clear key2
    refine wp_region_held_drew (S := fun _ => True) (by kernel_rfl) trivial (fun hHeld => ?_)
    refine wpAnyH_take (i := 0) (oi := { dst := some 20, op := Go.Op.move (Go.Operand.tmp 0), type := 31, pos := "slices.go:232", after := #[], guard := none }) (v := ?_) rfl (by kernel_rfl) (by kernel_rfl) (by kernel_rfl) (fun _ _ _ h => h) (Or.inl ⟨by rfl, ?_⟩) (by assumption) ?_
    rotate_left
    · (intro w hSw; (try dsimp only at hSw); go_simp; (try (with_reducible rfl)))
    try simp only [Act.put, List.setIfInBounds_toArray, List.set_cons_zero, List.set_cons_succ]
    refine wpAnyH_take (i := 1) (oi := { dst := some 21, op := Go.Op.move (Go.Operand.tmp 1), type := 3, pos := "slices.go:232", after := #[], guard := none }) (v := ?_) rfl (by kernel_rfl) (by kernel_rfl) (by kernel_rfl) (fun _ _ _ h => h) (Or.inl ⟨by rfl, ?_⟩) (by assumption) ?_
    rotate_left
    · (intro w hSw; (try dsimp only at hSw); go_simp; (try (with_reducible rfl)))
    try simp only [Act.put, List.setIfInBounds_toArray, List.set_cons_zero, List.set_cons_succ]
    refine wpAnyH_take (i := 2) (oi := { dst := some 22, op := Go.Op.slice 31 (Go.Operand.tmp 20) none (some (Go.Operand.tmp 21)) none, type := 31, pos := "slices.go:232", after := #[{ on := 0, ground := Go.Ground.data }, { on := 1, ground := Go.Ground.data }], guard := none }) (v := ?_) rfl (by kernel_rfl) (by kernel_rfl) (by kernel_rfl) (fun _ _ _ h => h) (Or.inl ⟨by rfl, ?_⟩) (by assumption) ?_
    rotate_left
    · (intro w hSw; (try dsimp only at hSw); go_simp; (try (with_reducible rfl)))
    try simp only [Act.put, List.setIfInBounds_toArray, List.set_cons_zero, List.set_cons_succ]
    refine wpAnyH_take (i := 3) (oi := { dst := some 23, op := Go.Op.move (Go.Operand.tmp 0), type := 31, pos := "slices.go:232", after := #[], guard := none }) (v := ?_) rfl (by kernel_rfl) (by kernel_rfl) (by kernel_rfl) (fun _ _ _ h => h) (Or.inl ⟨by rfl, ?_⟩) (by assumption) ?_
    rotate_left
    · (intro w hSw; (try dsimp only at hSw); go_simp; (try (with_reducible rfl)))
    try simp only [Act.put, List.setIfInBounds_toArray, List.set_cons_zero, List.set_cons_succ]
    refine wpAnyH_take (i := 4) (oi := { dst := some 24, op := Go.Op.move (Go.Operand.tmp 2), type := 3, pos := "slices.go:232", after := #[], guard := none }) (v := ?_) rfl (by kernel_rfl) (by kernel_rfl) (by kernel_rfl) (fun _ _ _ h => h) (Or.inl ⟨by rfl, ?_⟩) (by assumption) ?_
    rotate_left
    · (intro w hSw; (try dsimp only at hSw); go_simp; (try (with_reducible rfl)))
    try simp only [Act.put, List.setIfInBounds_toArray, List.set_cons_zero, List.set_cons_succ]
    refine wpAnyH_take (i := 5) (oi := { dst := some 25, op := Go.Op.slice 31 (Go.Operand.tmp 23) (some (Go.Operand.tmp 24)) none none, type := 31, pos := "slices.go:232", after := #[{ on := 3, ground := Go.Ground.data }, { on := 4, ground := Go.Ground.data }], guard := none }) (v := ?_) rfl (by kernel_rfl) (by kernel_rfl) (by kernel_rfl) (fun _ _ _ h => h) (Or.inl ⟨by rfl, ?_⟩) (by assumption) ?_
    rotate_left
    · (intro w hSw; (try dsimp only at hSw); go_simp; (try (with_reducible rfl)))
    try simp only [Act.put, List.setIfInBounds_toArray, List.set_cons_zero, List.set_cons_succ]
    refine wpAnyH_ready (rs := [6]) (by kernel_rfl) (by simp) ?_
    refine AllReadyH.cons (o := { dst := some 26, op := Go.Op.call { callee := Go.Callee.builtin Go.Builtin.append, args := #[Go.Operand.tmp 22, Go.Operand.tmp 25], argTypes := #[31, 31] }, type := 31, pos := "slices.go:232", after := #[{ on := 2, ground := Go.Ground.data }, { on := 5, ground := Go.Ground.data }], guard := none }) rfl (fun K hK => ?_) AllReadyH.nil
    refine oper_append_at (.tmp 22) (.tmp 25) 31 31 31 hrun rfl rfl rfl rfl ?_
    refine hK.out _ _ trivial (fun hHeld2 => ?_)
    clear hK K
    try simp only [Act.put, List.setIfInBounds_toArray, List.set_cons_zero, List.set_cons_succ]
    refine wpAnyH_take (i := 7) (oi := { dst := some 0, op := Go.Op.assign (Go.Operand.tmp 26), type := 31, pos := "slices.go:232", after := #[{ on := 6, ground := Go.Ground.data }, { on := 6, ground := Go.Ground.chain }, { on := 0, ground := Go.Ground.phase }, { on := 1, ground := Go.Ground.phase }, { on := 2, ground := Go.Ground.phase }, { on := 3, ground := Go.Ground.phase }, { on := 4, ground := Go.Ground.phase }, { on := 5, ground := Go.Ground.phase }, { on := 6, ground := Go.Ground.phase }], guard := none }) (v := ?_) rfl (by kernel_rfl) (by kernel_rfl) (by kernel_rfl) (fun _ _ _ h => h) (Or.inl ⟨by rfl, ?_⟩) (by assumption) ?_
    rotate_left
    · (intro w hSw; (try dsimp only at hSw); go_simp; (try (with_reducible rfl)))
    try simp only [Act.put, List.setIfInBounds_toArray, List.set_cons_zero, List.set_cons_succ]
    refine wpAnyH_done (by kernel_rfl) ?_ _
    go_wp2_with fail
    exact hz.out
  · have hce : ¬ (c : Int) = (i : Int) + 1 := by omega
    obtain ⟨w5, w6, hrun, hcl, h6, en6⟩ := key1
    have hz := Lib.hid (hfin.out _ w6 h6 en6)
    clear hfin h6 en6
    try clear key1
    try clear key2
    refine wp_region_held_drew (S := fun _ => True) (by kernel_rfl) trivial (fun hHeld => ?_)
    refine wpAnyH_take (i := 0) (oi := { dst := some 20, op := Go.Op.move (Go.Operand.tmp 0), type := 31, pos := "slices.go:232", after := #[], guard := none }) (v := ?_) rfl (by kernel_rfl) (by kernel_rfl) (by kernel_rfl) (fun _ _ _ h => h) (Or.inl ⟨by rfl, ?_⟩) (by assumption) ?_
    rotate_left
    · (intro w hSw; (try dsimp only at hSw); go_simp; (try (with_reducible rfl)))
    try simp only [Act.put, List.setIfInBounds_toArray, List.set_cons_zero, List.set_cons_succ]
    refine wpAnyH_take (i := 1) (oi := { dst := some 21, op := Go.Op.move (Go.Operand.tmp 1), type := 3, pos := "slices.go:232", after := #[], guard := none }) (v := ?_) rfl (by kernel_rfl) (by kernel_rfl) (by kernel_rfl) (fun _ _ _ h => h) (Or.inl ⟨by rfl, ?_⟩) (by assumption) ?_
    rotate_left
    · (intro w hSw; (try dsimp only at hSw); go_simp; (try (with_reducible rfl)))
    try simp only [Act.put, List.setIfInBounds_toArray, List.set_cons_zero, List.set_cons_succ]
    refine wpAnyH_take (i := 2) (oi := { dst := some 22, op := Go.Op.slice 31 (Go.Operand.tmp 20) none (some (Go.Operand.tmp 21)) none, type := 31, pos := "slices.go:232", after := #[{ on := 0, ground := Go.Ground.data }, { on := 1, ground := Go.Ground.data }], guard := none }) (v := ?_) rfl (by kernel_rfl) (by kernel_rfl) (by kernel_rfl) (fun _ _ _ h => h) (Or.inl ⟨by rfl, ?_⟩) (by assumption) ?_
    rotate_left
    · (intro w hSw; (try dsimp only at hSw); go_simp; (try (with_reducible rfl)))
    try simp only [Act.put, List.setIfInBounds_toArray, List.set_cons_zero, List.set_cons_succ]
    refine wpAnyH_take (i := 3) (oi := { dst := some 23, op := Go.Op.move (Go.Operand.tmp 0), type := 31, pos := "slices.go:232", after := #[], guard := none }) (v := ?_) rfl (by kernel_rfl) (by kernel_rfl) (by kernel_rfl) (fun _ _ _ h => h) (Or.inl ⟨by rfl, ?_⟩) (by assumption) ?_
    rotate_left
    · (intro w hSw; (try dsimp only at hSw); go_simp; (try (with_reducible rfl)))
    try simp only [Act.put, List.setIfInBounds_toArray, List.set_cons_zero, List.set_cons_succ]
    refine wpAnyH_take (i := 4) (oi := { dst := some 24, op := Go.Op.move (Go.Operand.tmp 2), type := 3, pos := "slices.go:232", after := #[], guard := none }) (v := ?_) rfl (by kernel_rfl) (by kernel_rfl) (by kernel_rfl) (fun _ _ _ h => h) (Or.inl ⟨by rfl, ?_⟩) (by assumption) ?_
    rotate_left
    · (intro w hSw; (try dsimp only at hSw); go_simp; (try (with_reducible rfl)))
    try simp only [Act.put, List.setIfInBounds_toArray, List.set_cons_zero, List.set_cons_succ]
    refine wpAnyH_take (i := 5) (oi := { dst := some 25, op := Go.Op.slice 31 (Go.Operand.tmp 23) (some (Go.Operand.tmp 24)) none none, type := 31, pos := "slices.go:232", after := #[{ on := 3, ground := Go.Ground.data }, { on := 4, ground := Go.Ground.data }], guard := none }) (v := ?_) rfl (by kernel_rfl) (by kernel_rfl) (by kernel_rfl) (fun _ _ _ h => h) (Or.inl ⟨by rfl, ?_⟩) (by assumption) ?_
    rotate_left
    · (intro w hSw; (try dsimp only at hSw); go_simp; (try (with_reducible rfl)))
    try simp only [Act.put, List.setIfInBounds_toArray, List.set_cons_zero, List.set_cons_succ]
    refine wpAnyH_ready (rs := [6]) (by kernel_rfl) (by simp) ?_
    refine AllReadyH.cons (o := { dst := some 26, op := Go.Op.call { callee := Go.Callee.builtin Go.Builtin.append, args := #[Go.Operand.tmp 22, Go.Operand.tmp 25], argTypes := #[31, 31] }, type := 31, pos := "slices.go:232", after := #[{ on := 2, ground := Go.Ground.data }, { on := 5, ground := Go.Ground.data }], guard := none }) rfl (fun K hK => ?_) AllReadyH.nil
    refine oper_append_at (.tmp 22) (.tmp 25) 31 31 31 hrun rfl rfl rfl rfl ?_
    refine hK.out _ _ trivial (fun hHeld2 => ?_)
    clear hK K
    try simp only [Act.put, List.setIfInBounds_toArray, List.set_cons_zero, List.set_cons_succ]
    refine wpAnyH_take (i := 7) (oi := { dst := some 0, op := Go.Op.assign (Go.Operand.tmp 26), type := 31, pos := "slices.go:232", after := #[{ on := 6, ground := Go.Ground.data }, { on := 6, ground := Go.Ground.chain }, { on := 0, ground := Go.Ground.phase }, { on := 1, ground := Go.Ground.phase }, { on := 2, ground := Go.Ground.phase }, { on := 3, ground := Go.Ground.phase }, { on := 4, ground := Go.Ground.phase }, { on := 5, ground := Go.Ground.phase }, { on := 6, ground := Go.Ground.phase }], guard := none }) (v := ?_) rfl (by kernel_rfl) (by kernel_rfl) (by kernel_rfl) (fun _ _ _ h => h) (Or.inl ⟨by rfl, ?_⟩) (by assumption) ?_
    rotate_left
    · (intro w hSw; (try dsimp only at hSw); go_simp; (try (with_reducible rfl)))
    try simp only [Act.put, List.setIfInBounds_toArray, List.set_cons_zero, List.set_cons_succ]
    refine wpAnyH_done (by kernel_rfl) ?_ _
    go_wp2_with fail
    exact hz.out
end Go.Proofs.YtcbckeoalmjcoaaGreat

/- slices.IndexFunc, slices.ContainsFunc at ids, with a closure over one value that only makes memory. -/
set_option linter.unusedVariables false
set_option linter.unusedSimpArgs false
namespace Go.Proofs.YtcbckeoalmjcoaaGreat
open Go.RowKit Go.Cw
attribute [local go_sem ↓] eql_id neq_id
/-- What a closure answers of an id, in all worlds behind w. -/
def AskFn (F : Nat) (cv : Value) (f : Id → Bool) (w : World) : Prop := ∀ (x : Id) (w' : World), Below w.heap.size w w' → Calls Tryz.prog F #[idV x, cv] w' fun e w'' => e = .returned (.bool (f x)) ∧ Below w'.heap.size w' w''
theorem any_step (f : Id → Bool) (l : List Id) (k : Nat) (h : k < l.length) : (l.drop k).any f = (f l[k] || (l.drop (k + 1)).any f) := by
  rw [List.drop_eq_getElem_cons h]
  rfl
set_option maxRecDepth 100000 in
set_option maxHeartbeats 1600000 in
theorem indexF_any (F : Nat) (cv : Value) (f : Id → Bool) (A : Option Addr) (n c : Nat) (l : List Id) (w : World) (hx : Rw w 2 (.slice A n c) (idl l)) (eg : ∀ args w, (callFunc F args).run Tryz.prog w = .ok (.enter F args) w) (hf : AskFn F cv f w) :
    Calls Tryz.prog 83 #[.slice A n c, .func (.func F) #[] #[cv]] w fun e w' => ∃ z : Int, e = .returned (.int .i64 z) ∧ decide (0 ≤ z) = l.any f ∧ Below w.heap.size w w' := by
  obtain ⟨A', n', c', hv, hl, hn, hc⟩ := hx.form
  cases hv
  rw [idl_len] at hl
  obtain rfl : n = l.length := by omega
  clear hl
  obtain ⟨B, hB⟩ : ∃ B, Hid ((l.drop 0).any f = B) := ⟨_, Lib.hid rfl⟩
  have hBe : l.any f = B := by rw [← hB.out]; rfl
  rw [hBe]
  clear hBe
  replace hf := Lib.hid hf
  have hst := Lib.hid (any_step f l)
  go_enter Tryz.func83, Tryz.ntmps83
  go_wp2_with fail
  go_loopw [5, 8] (fun s5 s8 wr => ∃ k : Nat, k ≤ l.length ∧ s8 = .int .i64 (k : Int) ∧ Below w.heap.size w wr ∧ Hid ((l.drop k).any f = B)) (fun _ s8 _ => l.length - (intOf s8).toNat)
  case atStart => exact ⟨0, by omega, by go_num, Below.refl _ _, hB⟩
  case round =>
    obtain ⟨k, hk, rfl, hb, hno⟩ := hrel
    by_cases hlt : k < l.length
    · obtain ⟨b, off, hA, hcr⟩ := (hx.below hb).cells (by omega)
      cases hA
      have p1 := hcr _ _ (idl_fst l k hlt)
      have p2 := hcr _ _ (idl_snd l k hlt)
      rw [← Nat.add_assoc] at p2
      have hs1 := hst.out k hlt
      rw [hno.out] at hs1
      generalize l[k] = x at *
      clear hcr
      have hcl := hf.out x wr hb
      cases hfx : f x with
      | true =>
        rw [hfx] at hcl hs1
        have hBt : Hid (B = true) := Lib.hid (by rw [hs1]; rfl)
        replace hcl := Lib.hid hcl
        clear hs1 hfx
        go_wp2_with fail
        refine (hcl.out).mono ?_
        rintro e w3 ⟨rfl, hb3⟩
        go_wp2_with fail
        go_ret
        exact ⟨(k : Int), rfl, by rw [hBt.out]; simp, hb.trans (hb3.mono hb.size)⟩
      | false =>
        rw [hfx, Bool.false_or] at hs1
        rw [hfx] at hcl
        have hn2 : Hid ((l.drop (k + 1)).any f = B) := Lib.hid hs1.symm
        replace hcl := Lib.hid hcl
        clear hs1 hfx
        go_wp2_with fail
        refine (hcl.out).mono ?_
        rintro e w3 ⟨rfl, hb3⟩
        go_wp2_with fail
        go_roundw
        case rel => exact ⟨k + 1, by omega, by go_num, hb.trans (hb3.mono hb.size), hn2⟩
        case measure => simp [intOf]; omega
    · obtain rfl : k = l.length := by omega
      have hBt : Hid (B = false) := Lib.hid (by rw [← hno.out, List.drop_length]; rfl)
      go_wp2_with fail
      go_ret
      exact ⟨-1, rfl, by rw [hBt.out]; rfl, hb⟩
set_option maxRecDepth 100000 in
set_option maxHeartbeats 800000 in
theorem containsF_any (F : Nat) (cv : Value) (f : Id → Bool) (v : Value) (l : List Id) (w : World) (hx : Rw w 2 v (idl l)) (eg : ∀ args w, (callFunc F args).run Tryz.prog w = .ok (.enter F args) w) (hf : AskFn F cv f w) :
    Calls Tryz.prog 58 #[v, .func (.func F) #[] #[cv]] w fun e w' => e = .returned (.bool (l.any f)) ∧ Below w.heap.size w w' := by
  obtain ⟨A, n, c, rfl, _⟩ := hx.form
  have hin := Lib.hid (indexF_any F cv f A n c l w hx eg hf)
  clear hf eg
  go_enter Tryz.func58, Tryz.ntmps58
  go_wp2_with fail
  refine hin.out.mono ?_
  rintro e w2 ⟨z, rfl, hz, hb2⟩
  replace hz := Lib.hid hz
  go_wp2_with fail
  go_ret
  exact ⟨rb hz.out, hb2⟩
end Go.Proofs.YtcbckeoalmjcoaaGreat
