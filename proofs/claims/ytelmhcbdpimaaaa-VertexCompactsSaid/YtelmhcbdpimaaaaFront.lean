/- What is marked: contracts of the package front. -/
import Derived.Test.YtelmhcbdpimaaaaIdsetActs
import Derived.Deep.LoopGhost
set_option linter.unusedVariables false
set_option linter.unusedSimpArgs false
namespace Go.Proofs.Ytelmhcbdpimaaaa
open Go.RowKit Go.Cw
attribute [local go_sem ↓] eql_id neq_id
theorem idOk_iff (a : Id) : idOk a = true ↔ (0 ≤ a.1 ∧ a.1 < 8 ∧ 1 ≤ a.2 ∧ a.2 ≤ 1048576) := by
  unfold idOk
  exact decide_eq_true_iff
set_option maxRecDepth 100000 in
theorem check_ok (a : Id) (h : idOk a = true) (w : World) : Calls Try.prog 114 #[idV a] w fun e w' => e = .returned (.int .i64 0) ∧ Below w.heap.size w w' := by
  obtain ⟨h1, h2, h3, h4⟩ := (idOk_iff a).1 h
  clear h
  have hb := boxBelow w (.cells #[.int .i64 a.1, .int .i64 a.2] 28)
  go_enter Try.func114, Try.ntmps114
  go_wp2
  go_ret
  exact ⟨rfl, hb⟩
set_option maxRecDepth 100000 in
theorem check_bad (a : Id) (h : idOk a = false) (w : World) : Calls Try.prog 114 #[idV a] w fun e w' => (∃ n : Int, e = .returned (.int .i64 n) ∧ (n != 0) = true) ∧ Below w.heap.size w w' := by
  have hb := boxBelow w (.cells #[.int .i64 a.1, .int .i64 a.2] 28)
  by_cases h1 : 0 ≤ a.1
  · by_cases h2 : a.1 < 8
    · by_cases h3 : 1 ≤ a.2
      · by_cases h4 : a.2 ≤ 1048576
        · exact absurd ((idOk_iff a).2 ⟨h1, h2, h3, h4⟩) (by rw [h]; simp)
        · clear h
          go_enter Try.func114, Try.ntmps114
          go_wp2
          go_ret
          exact ⟨⟨8, rfl, by decide⟩, hb⟩
      · clear h
        go_enter Try.func114, Try.ntmps114
        go_wp2
        go_ret
        exact ⟨⟨8, rfl, by decide⟩, hb⟩
    · clear h
      go_enter Try.func114, Try.ntmps114
      go_wp2
      go_ret
      exact ⟨⟨7, rfl, by decide⟩, hb⟩
  · clear h
    go_enter Try.func114, Try.ntmps114
    go_wp2
    go_ret
    exact ⟨⟨7, rfl, by decide⟩, hb⟩
/-- A front's cells. -/
def frC (F : List Nat) (s : Nat) : Array Value := (F.map (fun (n : Nat) => Value.int .i64 (n : Int)) ++ [setP s]).toArray
theorem frC_get (F : List Nat) (s r : Nat) (hr : r < F.length) : (frC F s)[r]? = some (.int .i64 ((F.getD r 0 : Nat) : Int)) := by
  unfold frC
  simp [List.getElem?_append_left, hr]
theorem frC_ptr (F : List Nat) (s : Nat) (hF : F.length = 8) : (frC F s)[8]? = some (setP s) := by
  unfold frC
  simp [hF]
theorem frC_set (F : List Nat) (s r n : Nat) (hr : r < F.length) : (frC F s).setIfInBounds r (.int .i64 (n : Int)) = frC (F.set r n) s := by
  unfold frC
  apply Array.toList_inj.1
  rw [Array.toList_setIfInBounds]
  simp only
  rw [List.set_append_left _ _ (by simpa using hr), List.map_set]
abbrev frP (p : Nat) : Value := .pointer (some ⟨p, 0, none⟩)
def hasF (a : Id) (F : List Nat) (L : List Id) : Bool := decide (a.2 ≤ ((F.getD a.1.toNat 0 : Nat) : Int)) || decide (a ∈ L)
theorem hasF_yes {r f : Nat} {t : Int} {F : List Nat} {L : List Id} (hf : f = F.getD r 0) (ht : t ≤ (f : Int)) : hasF ((r : Int), t) F L = true := by
  subst hf
  unfold hasF
  simp only [Int.toNat_natCast]
  rw [decide_eq_true ht]
  rfl
theorem hasF_no {r f : Nat} {t : Int} {F : List Nat} {L : List Id} (hf : f = F.getD r 0) (ht : ¬ t ≤ (f : Int)) : hasF ((r : Int), t) F L = decide (((r : Int), t) ∈ L) := by
  subst hf
  unfold hasF
  simp only [Int.toNat_natCast]
  rw [decide_eq_false ht]
  rfl
set_option maxRecDepth 100000 in
theorem frHas_nil (a : Id) (w : World) : Calls Try.prog 85 #[.pointer none, idV a] w fun e w' => e = .returned (.bool false) ∧ Below w.heap.size w w' := by
  have hb := boxBelow w (.cells #[.int .i64 a.1, .int .i64 a.2] 28)
  go_enter Try.func85, Try.ntmps85
  go_wp2_with fail
  go_ret
  exact ⟨rfl, hb⟩
set_option maxRecDepth 100000 in
theorem frHas_bad (p : Nat) (a : Id) (h : idOk a = false) (w : World) : Calls Try.prog 85 #[frP p, idV a] w fun e w' => e = .returned (.bool false) ∧ Below w.heap.size w w' := by
  have hb := boxBelow w (.cells #[.int .i64 a.1, .int .i64 a.2] 28)
  go_enter Try.func85, Try.ntmps85
  go_wp2_with fail
  refine (check_bad a h _).mono ?_
  rintro e w3 ⟨⟨n, rfl, hn⟩, hb3⟩
  go_wp2_with fail
  go_ret
  exact ⟨rfl, hb.trans (hb3.mono hb.size)⟩
set_option maxRecDepth 100000 in
set_option maxHeartbeats 800000 in
theorem frHas_core (p s : Nat) (F : List Nat) (L : List Id) (hF : F.length = 8) (r : Nat) (t : Int) (hr : r < 8) (h1 : 1 ≤ t) (h2 : t ≤ 1048576) (H : Hp) (fr : List HA) (w : World) (h : St H (Blk p (frC F s) 147 :: SetA s L :: fr) w) :
    Calls Try.prog 85 #[frP p, idV ((r : Int), t)] w fun e w' => e = .returned (.bool (hasF ((r : Int), t) F L)) ∧ Below w.heap.size w w' := by
  have hok : idOk ((r : Int), t) = true := (idOk_iff _).2 ⟨by simp, by simp; omega, h1, h2⟩
  obtain ⟨Hb, lb, h3, hx⟩ := h.box #[.int .i64 (r : Int), .int .i64 t] 28
  have y0 := hx 0 _ rfl
  have y1 := hx 1 _ rfl
  have hb1 := boxBelow w (.cells #[.int .i64 (r : Int), .int .i64 t] 28)
  clear hx
  go_enter Try.func85, Try.ntmps85
  go_wp2_with fail
  refine (check_ok ((r : Int), t) hok _).mono ?_
  rintro e w3 ⟨rfl, hb3⟩
  have h4 := h3.below hb3
  have hb4 := hb1.trans (hb3.mono hb1.size)
  clear h3 hb1 hb3
  generalize hgb : w.heap.size = gb at *
  have c8 := h4.blk_cell 8
  rw [frC_ptr F s hF] at c8
  have cr := h4.blk_cell r
  rw [frC_get F s r (by omega)] at cr
  have cl := h4.blk_lt
  have x0 := h4.cell y0
  have x1 := h4.cell y1
  have xl := World.block_lt_of_cell? _ _ x0
  obtain ⟨f, hf⟩ : ∃ f, Hid (f = F.getD r 0) := ⟨_, Lib.hid rfl⟩
  rw [← hf.out] at cr
  by_cases ht : t ≤ (f : Int)
  · have hN : Hid (hasF ((r : Int), t) F L = true) := Lib.hid (hasF_yes hf.out ht)
    go_wp2_with fail
    go_quiet (fail)
    go_wp2_with fail
    go_ret
    exact ⟨rb hN.out.symm, hgb ▸ bel_drewN hb4 _⟩
  · have hN : Hid (hasF ((r : Int), t) F L = decide (((r : Int), t) ∈ L)) := Lib.hid (hasF_no hf.out ht)
    have hdl := decide_eq_false ht
    have hr1 : (0 : Int) ≤ (r : Int) := by omega
    have hr2 : (r : Int) < 8 := by omega
    have nn1 := World.new_ne w3 _ c8
    have nn2 := World.new_ne w3 _ cr
    have nn3 := World.new_ne w3 _ x0
    have nn4 := World.new_ne w3 _ x1
    go_wp2_with fail
    have hd := h4.drew
    have kk : ∀ (l : List HA) (w' : World), St Hb (Blk p (frC F s) 147 :: l) w' → w'.cell? ⟨p, 8, none⟩ = some (setP s) ∧ w'.cell? ⟨p, r, none⟩ = some (.int .i64 (f : Int)) ∧ w'.cell? ⟨gb, 0, none⟩ = some (.int .i64 (r : Int)) ∧ w'.cell? ⟨gb, 1, none⟩ = some (.int .i64 t) := fun l w' h => ⟨(h.blk_cell 8).trans (frC_ptr F s hF), (h.blk_cell r).trans ((frC_get F s r (by omega)).trans (by rw [hf.out])), h.cell y0, h.cell y1⟩
    go_region_held3 (fun w' => w'.cell? ⟨p, 8, none⟩ = some (setP s) ∧ w'.cell? ⟨p, r, none⟩ = some (.int .i64 (f : Int)) ∧ w'.cell? ⟨gb, 0, none⟩ = some (.int .i64 (r : Int)) ∧ w'.cell? ⟨gb, 1, none⟩ = some (.int .i64 t)) (first | exact kk _ _ hd | exact kk _ _ h9)
      ((go_at_call 76; refine (has_any s L ((r : Int), t) Hb _ _ hd.swap).mono ?_; rintro e w9 ⟨rfl, hb9⟩; have h9 := hd.below hb9))
    have hb5 := hb4.drew.trans (hb9.mono (by rw [← hgb]; exact hb4.drew.size))
    go_wp2_with fail
    go_ret
    exact ⟨rb hN.out.symm, hgb ▸ hb5⟩
/-- What is marked, the floors, and what stands above them. -/
structure FI (M : List Id) (F : List Nat) (L : List Id) : Prop where
  len : F.length = 8
  rises : Rises M
  ok : ∀ a ∈ M, idOk a = true
  above : ∀ a ∈ L, a ∈ M ∧ ((F.getD a.1.toNat 0 : Nat) : Int) < a.2
  all : ∀ a ∈ M, a ∈ L ∨ a.2 ≤ ((F.getD a.1.toNat 0 : Nat) : Int)
  under : ∀ r n : Nat, r < 8 → 1 ≤ n → n ≤ F.getD r 0 → ((r : Int), (n : Int)) ∈ M
  count : L.length + F.sum = M.length
theorem getD_set (F : List Nat) (r q n : Nat) (hr : r < F.length) : (F.set r n).getD q 0 = if q = r then n else F.getD q 0 := by
  simp only [List.getD_eq_getElem?_getD, List.getElem?_set]
  by_cases h : r = q
  · subst h
    rw [if_pos rfl, if_pos rfl, if_pos hr]
    rfl
  · rw [if_neg h, if_neg (fun e => h e.symm)]
theorem sum_set : ∀ (F : List Nat) (r n : Nat), r < F.length → (F.set r n).sum + F.getD r 0 = F.sum + n
  | [], r, n, h => by simp at h
  | x :: F, 0, n, _ => by simp; omega
  | x :: F, r + 1, n, h => by
    have := sum_set F r n (by simpa using h)
    simp at this ⊢
    omega
theorem cutL_len {a : Id} {L : List Id} (hn : L.Nodup) (ha : a ∈ L) : (cutL a L).length + 1 = L.length := by
  induction L with
  | nil => simp at ha
  | cons x l ih =>
    rw [List.nodup_cons] at hn
    unfold cutL
    rw [List.filter_cons]
    rcases List.mem_cons.1 ha with e | ha
    · subst e
      rw [if_neg (by simp)]
      have : l.filter (fun b => decide (b ≠ a)) = l := List.filter_eq_self.2 (fun q hq => decide_eq_true (fun e => hn.1 (e ▸ hq)))
      rw [this]
      rfl
    · rw [if_pos (decide_eq_true (show x ≠ a from fun e => hn.1 (e ▸ ha)))]
      have := ih hn.2 ha
      unfold cutL at this
      simp only [List.length_cons]
      omega
theorem FI.bound {M : List Id} {F : List Nat} {L : List Id} (h : FI M F L) (r : Nat) (hr : r < 8) : F.getD r 0 ≤ 1048576 := by
  rcases Nat.eq_zero_or_pos (F.getD r 0) with h0 | h0
  · omega
  · have := (idOk_iff _).1 (h.ok _ (h.under r _ hr h0 (Nat.le_refl _)))
    simp only at this
    omega
theorem FI.raise {M : List Id} {F : List Nat} {L : List Id} (h : FI M F L) (hn : L.Nodup) (r : Nat) (hr : r < 8) (hin : ((r : Int), ((F.getD r 0 + 1 : Nat) : Int)) ∈ L) : FI M (F.set r (F.getD r 0 + 1)) (cutL ((r : Int), ((F.getD r 0 + 1 : Nat) : Int)) L) := by
  have hl := h.len
  have hg := fun q => getD_set F r q (F.getD r 0 + 1) (by omega)
  refine ⟨by rw [List.length_set]; exact hl, h.rises, h.ok, fun a ha => ?_, fun a ha => ?_, fun q n hq h1 h2 => ?_, ?_⟩
  · obtain ⟨h1, h2⟩ := (cutL_mem _ _ _).1 ha
    obtain ⟨h3, h4⟩ := h.above a h1
    refine ⟨h3, ?_⟩
    have hok := (idOk_iff a).1 (h.ok a h3)
    rw [hg]
    by_cases hq : a.1.toNat = r
    · rw [if_pos hq]
      rw [hq] at h4
      rcases Int.lt_or_le ((F.getD r 0 + 1 : Nat) : Int) a.2 with h5 | h5
      · exact h5
      · exact absurd (Prod.ext (by show a.1 = (r : Int); omega) (by show a.2 = ((F.getD r 0 + 1 : Nat) : Int); omega)) h2
    · rw [if_neg hq]
      exact h4
  · have hok := (idOk_iff a).1 (h.ok a ha)
    rw [hg]
    by_cases hq : a.1.toNat = r
    · rw [if_pos hq]
      rcases h.all a ha with h1 | h1
      · by_cases he : a = ((r : Int), ((F.getD r 0 + 1 : Nat) : Int))
        · right
          rw [he]
          exact Int.le_refl _
        · left
          exact (cutL_mem _ _ _).2 ⟨h1, he⟩
      · right
        rw [hq] at h1
        omega
    · rw [if_neg hq]
      rcases h.all a ha with h1 | h1
      · left
        refine (cutL_mem _ _ _).2 ⟨h1, fun e => hq ?_⟩
        rw [e]
        simp
      · exact .inr h1
  · rw [hg] at h2
    by_cases he : q = r
    · rw [if_pos he] at h2
      subst he
      rcases Nat.lt_or_ge n (F.getD q 0 + 1) with h3 | h3
      · exact h.under q n hq h1 (by omega)
      · obtain rfl : n = F.getD q 0 + 1 := by omega
        exact (h.above _ hin).1
    · rw [if_neg he] at h2
      exact h.under q n hq h1 h2
  · have h1 := cutL_len hn hin
    have h2 := sum_set F r (F.getD r 0 + 1) (by omega)
    have h3 := h.count
    omega
theorem FI.has {M : List Id} {F : List Nat} {L : List Id} (h : FI M F L) (a : Id) (hok : idOk a = true) : hasF a F L = decide (a ∈ M) := by
  have hk := (idOk_iff a).1 hok
  obtain ⟨a1, t⟩ := a
  simp only at hk
  obtain ⟨r, rfl⟩ : ∃ r : Nat, a1 = r := ⟨a1.toNat, by omega⟩
  obtain ⟨n, rfl⟩ : ∃ n : Nat, t = n := ⟨t.toNat, by omega⟩
  by_cases ht : (n : Int) ≤ ((F.getD r 0 : Nat) : Int)
  · rw [hasF_yes rfl ht, decide_eq_true (h.under r n (by omega) (by omega) (by omega))]
  · rw [hasF_no rfl ht]
    refine decide_eq_decide.2 ⟨fun h1 => (h.above _ h1).1, fun h1 => ?_⟩
    rcases h.all _ h1 with h2 | h2
    · exact h2
    · exact absurd h2 ht
theorem FI.add {M : List Id} {F : List Nat} {L : List Id} (h : FI M F L) (a : Id) (hok : idOk a = true) (hn : a ∉ M) : FI (ins a M) F (L ++ [a]) := by
  have hk := (idOk_iff a).1 hok
  have hf : ¬ a.2 ≤ ((F.getD a.1.toNat 0 : Nat) : Int) := fun h1 => by
    have := h.under a.1.toNat a.2.toNat (by omega) (by omega) (by omega)
    rw [show (((a.1.toNat : Int)), ((a.2.toNat : Int))) = a from Prod.ext (by show ((a.1.toNat : Int)) = a.1; omega) (by show ((a.2.toNat : Int)) = a.2; omega)] at this
    exact hn this
  refine ⟨h.len, ins_rises a M h.rises hn, fun b hb => ?_, fun b hb => ?_, fun b hb => ?_, fun r n hr h1 h2 => (ins_mem _ _ _).2 (.inr (h.under r n hr h1 h2)), ?_⟩
  · rcases (ins_mem _ _ _).1 hb with e | hb
    · rw [e]; exact hok
    · exact h.ok b hb
  · rcases List.mem_append.1 hb with hb | hb
    · exact ⟨(ins_mem _ _ _).2 (.inr (h.above b hb).1), (h.above b hb).2⟩
    · rw [List.mem_singleton] at hb
      subst hb
      exact ⟨(ins_mem _ _ _).2 (.inl rfl), by omega⟩
  · rcases (ins_mem _ _ _).1 hb with e | hb
    · subst e; left; simp
    · rcases h.all b hb with h1 | h1
      · left; exact List.mem_append.2 (.inl h1)
      · exact .inr h1
  · rw [ins_len, List.length_append]
    have := h.count
    simp
    omega
def FC (F : List Nat) (L : List Id) (r : Nat) : Prop := ((r : Int), ((F.getD r 0 + 1 : Nat) : Int)) ∉ L
end Go.Proofs.Ytelmhcbdpimaaaa
