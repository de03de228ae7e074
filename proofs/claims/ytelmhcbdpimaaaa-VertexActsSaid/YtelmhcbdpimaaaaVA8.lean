/- Joined texts: IdsetLaw, IdsetActs, Front, Front2, Front3. -/
import Derived.Deep.RegionHeld3
import Derived.Deep.LoopGhost
import Derived.Test.YtelmhcbdpimaaaaVA4
/- The laws of sets of ids: walked. -/
set_option linter.unusedVariables false
set_option linter.unusedSimpArgs false
namespace Go.Proofs.Ytelmhcbdpimaaaa
open Go.RowKit Go.Cw
attribute [local go_sem ↓] eql_id neq_id
/-- Are two sets one? -/
def sameSet (L M : List Id) : Bool := decide (L.length = M.length) && L.all (fun a => decide (a ∈ M))
theorem foldl_add (l : List Id) : ∀ acc : List Id, (∀ b, b ∈ l.foldl (fun L a => addL a L) acc ↔ b ∈ l ∨ b ∈ acc) ∧ (l.foldl (fun L a => addL a L) acc).length ≤ acc.length + l.length := by
  induction l with
  | nil => intro acc; exact ⟨by simp, by simp⟩
  | cons x r ih =>
    intro acc
    obtain ⟨h2, h3⟩ := ih (addL x acc)
    have hm : ∀ b, b ∈ addL x acc ↔ b = x ∨ b ∈ acc := fun b => by
      unfold addL
      split
      · rename_i h
        constructor
        · exact .inr
        · rintro (e | e)
          · rw [e]; exact h
          · exact e
      · simp only [List.mem_append, List.mem_singleton]
        exact or_comm
    have hl : (addL x acc).length ≤ acc.length + 1 := by
      unfold addL
      split
      · omega
      · simp
    refine ⟨fun b => ?_, ?_⟩
    · rw [List.foldl_cons, h2, hm, List.mem_cons]
      constructor
      · rintro (e | e | e)
        · exact .inl (.inr e)
        · exact .inl (.inl e)
        · exact .inr e
      · rintro ((e | e) | e)
        · exact .inr (.inl e)
        · exact .inl e
        · exact .inr (.inr e)
    · simp only [List.foldl_cons, List.length_cons]
      omega
theorem dedup_mem (l : List Id) (b : Id) : b ∈ dedup l ↔ b ∈ l := by
  have := (foldl_add l []).1 b
  simpa [dedup] using this
theorem dedup_len (l : List Id) : (dedup l).length ≤ l.length := by
  have := (foldl_add l []).2
  simpa [dedup] using this
theorem sub_len : ∀ (L M : List Id), L.Nodup → (∀ a, a ∈ L → a ∈ M) → L.length ≤ M.length
  | [], _, _, _ => Nat.zero_le _
  | x :: r, M, hn, hs => by
    obtain ⟨h1, h2⟩ := List.nodup_cons.1 hn
    have hx := hs x (List.mem_cons_self ..)
    have := sub_len r (M.erase x) h2 (fun a ha => by
      have hne : a ≠ x := fun e => h1 (e ▸ ha)
      exact (List.mem_erase_of_ne hne).2 (hs a (List.mem_cons_of_mem _ ha)))
    rw [List.length_erase_of_mem hx] at this
    have hpos := List.length_pos_of_mem hx
    simp only [List.length_cons]
    omega
theorem sameSet_iff {L M : List Id} (hL : L.Nodup) (hM : M.Nodup) : sameSet L M = true ↔ ∀ a, a ∈ L ↔ a ∈ M := by
  unfold sameSet
  rw [Bool.and_eq_true, decide_eq_true_eq, List.all_eq_true]
  constructor
  · rintro ⟨h1, h2⟩ a
    refine ⟨fun h => of_decide_eq_true (h2 a h), fun h => ?_⟩
    by_cases hn : a ∈ L
    · exact hn
    · have := sub_len (a :: L) M (List.nodup_cons.2 ⟨hn, hL⟩) (fun b hb => by
        rcases List.mem_cons.1 hb with e | e
        · rw [e]; exact h
        · exact of_decide_eq_true (h2 b e))
      simp only [List.length_cons] at this
      omega
  · intro h
    have h1 := sub_len L M hL (fun a ha => (h a).1 ha)
    have h2 := sub_len M L hM (fun a ha => (h a).2 ha)
    exact ⟨by omega, fun a ha => decide_eq_true ((h a).1 ha)⟩
/-- A list without some ids. -/
def cutAll (l bs : List Id) : List Id := bs.foldl (fun acc x => cutL x acc) l
theorem cutAll_snoc (l bs : List Id) (k : Nat) (h : k < bs.length) : cutAll l (bs.take (k + 1)) = cutL bs[k] (cutAll l (bs.take k)) := by
  unfold cutAll
  rw [List.take_succ_eq_append_getElem h, List.foldl_append]
  rfl
theorem cutAll_facts (bs : List Id) : ∀ l, Rises l → Rises (cutAll l bs) ∧ (∀ a, a ∈ cutAll l bs ↔ a ∈ l ∧ a ∉ bs) ∧ (cutAll l bs).length ≤ l.length := by
  induction bs with
  | nil => intro l h; exact ⟨h, by simp [cutAll], Nat.le_refl _⟩
  | cons x r ih =>
    intro l h
    have h0 : Rises (cutL x l) := List.Pairwise.filter _ h
    obtain ⟨h1, h2, h3⟩ := ih (cutL x l) h0
    refine ⟨h1, fun a => ?_, ?_⟩
    · show a ∈ cutAll (cutL x l) r ↔ _
      rw [h2]
      unfold cutL
      rw [List.mem_filter]
      simp only [decide_eq_true_eq, List.mem_cons, not_or]
      constructor
      · rintro ⟨⟨e1, e2⟩, e3⟩; exact ⟨e1, e2, e3⟩
      · rintro ⟨e1, e2, e3⟩; exact ⟨⟨e1, e2⟩, e3⟩
    · have : (cutL x l).length ≤ l.length := List.length_filter_le ..
      show (cutAll (cutL x l) r).length ≤ _
      omega
end Go.Proofs.Ytelmhcbdpimaaaa

/- The law IdsetActs: walked. -/
set_option linter.unusedVariables false
set_option linter.unusedSimpArgs false
namespace Go.Proofs.Ytelmhcbdpimaaaa
open Go.RowKit Go.Cw
attribute [local go_sem ↓] eql_id neq_id
abbrev SAct := Bool × Int × Int
def sac (x : SAct) : List Value := [.bool x.1, .int .i64 x.2.1, .int .i64 x.2.2]
def sacs (l : List SAct) : List Value := l.flatMap sac
theorem sacs_len (l : List SAct) : (sacs l).length = l.length * 3 := flat_len sac 3 (fun _ => rfl) l
theorem sacs_get (l : List SAct) (k : Nat) (h : k < l.length) : (sacs l)[k * 3]? = some (.bool l[k].1) ∧ (sacs l)[k * 3 + 1]? = some (.int .i64 l[k].2.1) ∧ (sacs l)[k * 3 + 2]? = some (.int .i64 l[k].2.2) := by
  have := fun i hi => flat_get sac 3 (fun _ => rfl) l k i h hi
  exact ⟨this 0 (by omega), this 1 (by omega), this 2 (by omega)⟩
theorem keepA {W w9 : World} {b o : Nat} {u : Value} (hb : Below W.heap.size W w9) (q : W.cell? ⟨b, o, none⟩ = some u) (ob : Obj) : (w9.alloc ob).cell? ⟨b, o, none⟩ = some u := by
  have hl := World.block_lt_of_cell? _ _ q
  have h1 : w9.cell? ⟨b, o, none⟩ = some u := (hb.cell (p := ⟨b, o, none⟩) hl).trans q
  have h2 := World.block_lt_of_cell? _ _ h1
  unfold World.cell? at *
  rw [heap_alloc_old w9 ob h2]
  exact h1
theorem keepB {W w9 : World} {b o : Nat} {u : Value} (hb : Below W.heap.size W w9) (q : W.cell? ⟨b, o, none⟩ = some u) : w9.cell? ⟨b, o, none⟩ = some u :=
  (hb.cell (p := ⟨b, o, none⟩) (World.block_lt_of_cell? _ _ q)).trans q
theorem cellNew (w : World) (cs : Array Value) (t : TypeId) (i : Nat) (u : Value) (h : cs[i]? = some u) : (w.drew.alloc (.cells cs t)).cell? ⟨w.heap.size, i, none⟩ = some u := by
  have := heap_alloc_new w.drew (.cells cs t)
  unfold World.cell?
  have h2 : (w.drew.alloc (.cells cs t)).heap[w.heap.size]? = some (.cells cs t) := this
  rw [h2]
  exact h
theorem frozenNew (w : World) (cs : Array Value) (t : TypeId) (i : Nat) : (w.drew.alloc (.cells cs t)).frozen? ⟨w.heap.size, i, none⟩ = false := by
  have := heap_alloc_new w.drew (.cells cs t)
  unfold World.frozen?
  have h2 : (w.drew.alloc (.cells cs t)).heap[w.heap.size]? = some (.cells cs t) := this
  rw [h2]
  simp
theorem boxKeep {H : Hp} {g : Nat} {cs : Array Value} {t : TypeId} {l : List HA} {w : World} (h : St H (Blk g cs t :: l) w) : ∃ H', Hp.le H H' ∧ St H' l w ∧ ∀ i u, cs[i]? = some u → H'.cell g i = some u := by
  obtain ⟨h1, h2⟩ := h.blk_keep
  exact ⟨_, Hp.le_put h2, h1, fun i u hu => by
    have := Hp.put_same H g (.cells cs t)
    simp [Hp.cell, this, hu]⟩
theorem cutL_mem (a b : Id) (l : List Id) : b ∈ cutL a l ↔ b ∈ l ∧ b ≠ a := by unfold cutL; rw [List.mem_filter]; simp
theorem cutL_rises (a : Id) (l : List Id) (h : Rises l) : Rises (cutL a l) := List.Pairwise.filter _ h
theorem addL_mem (x b : Id) (acc : List Id) : b ∈ addL x acc ↔ b = x ∨ b ∈ acc := by
  unfold addL
  split
  · rename_i h
    constructor
    · exact .inr
    · rintro (e | e)
      · rw [e]; exact h
      · exact e
  · simp only [List.mem_append, List.mem_singleton]
    exact or_comm
end Go.Proofs.Ytelmhcbdpimaaaa

/- What is marked: contracts of the package front. -/
set_option linter.unusedVariables false
set_option linter.unusedSimpArgs false
namespace Go.Proofs.Ytelmhcbdpimaaaa
open Go.RowKit Go.Cw
attribute [local go_sem ↓] eql_id neq_id
theorem idOk_iff (a : Id) : idOk a = true ↔ (0 ≤ a.1 ∧ a.1 < 8 ∧ 1 ≤ a.2 ∧ a.2 ≤ 1048576) := by
  unfold idOk
  exact decide_eq_true_iff
set_option maxRecDepth 100000 in
theorem check_ok (a : Id) (h : idOk a = true) (w : World) : Calls Try.prog 114 #[idV a] w fun e w' => e = .returned (.int .i64 0) ∧ Below w.heap.size w w' := by
  obtain ⟨h1, h2, h3, h4⟩ := (idOk_iff a).1 h
  clear h
  have hb := boxBelow w (.cells #[.int .i64 a.1, .int .i64 a.2] 28)
  go_enter Try.func114, Try.ntmps114
  go_wp2
  go_ret
  exact ⟨rfl, hb⟩
set_option maxRecDepth 100000 in
theorem check_bad (a : Id) (h : idOk a = false) (w : World) : Calls Try.prog 114 #[idV a] w fun e w' => (∃ n : Int, e = .returned (.int .i64 n) ∧ (n != 0) = true) ∧ Below w.heap.size w w' := by
  have hb := boxBelow w (.cells #[.int .i64 a.1, .int .i64 a.2] 28)
  by_cases h1 : 0 ≤ a.1
  · by_cases h2 : a.1 < 8
    · by_cases h3 : 1 ≤ a.2
      · by_cases h4 : a.2 ≤ 1048576
        · exact absurd ((idOk_iff a).2 ⟨h1, h2, h3, h4⟩) (by rw [h]; simp)
        · clear h
          go_enter Try.func114, Try.ntmps114
          go_wp2
          go_ret
          exact ⟨⟨8, rfl, by decide⟩, hb⟩
      · clear h
        go_enter Try.func114, Try.ntmps114
        go_wp2
        go_ret
        exact ⟨⟨8, rfl, by decide⟩, hb⟩
    · clear h
      go_enter Try.func114, Try.ntmps114
      go_wp2
      go_ret
      exact ⟨⟨7, rfl, by decide⟩, hb⟩
  · clear h
    go_enter Try.func114, Try.ntmps114
    go_wp2
    go_ret
    exact ⟨⟨7, rfl, by decide⟩, hb⟩
/-- A front's cells. -/
def frC (F : List Nat) (s : Nat) : Array Value := (F.map (fun (n : Nat) => Value.int .i64 (n : Int)) ++ [setP s]).toArray
theorem frC_get (F : List Nat) (s r : Nat) (hr : r < F.length) : (frC F s)[r]? = some (.int .i64 ((F.getD r 0 : Nat) : Int)) := by
  unfold frC
  simp [List.getElem?_append_left, hr]
theorem frC_ptr (F : List Nat) (s : Nat) (hF : F.length = 8) : (frC F s)[8]? = some (setP s) := by
  unfold frC
  simp [hF]
theorem frC_set (F : List Nat) (s r n : Nat) (hr : r < F.length) : (frC F s).setIfInBounds r (.int .i64 (n : Int)) = frC (F.set r n) s := by
  unfold frC
  apply Array.toList_inj.1
  rw [Array.toList_setIfInBounds]
  simp only
  rw [List.set_append_left _ _ (by simpa using hr), List.map_set]
abbrev frP (p : Nat) : Value := .pointer (some ⟨p, 0, none⟩)
def hasF (a : Id) (F : List Nat) (L : List Id) : Bool := decide (a.2 ≤ ((F.getD a.1.toNat 0 : Nat) : Int)) || decide (a ∈ L)
theorem hasF_yes {r f : Nat} {t : Int} {F : List Nat} {L : List Id} (hf : f = F.getD r 0) (ht : t ≤ (f : Int)) : hasF ((r : Int), t) F L = true := by
  subst hf
  unfold hasF
  simp only [Int.toNat_natCast]
  rw [decide_eq_true ht]
  rfl
theorem hasF_no {r f : Nat} {t : Int} {F : List Nat} {L : List Id} (hf : f = F.getD r 0) (ht : ¬ t ≤ (f : Int)) : hasF ((r : Int), t) F L = decide (((r : Int), t) ∈ L) := by
  subst hf
  unfold hasF
  simp only [Int.toNat_natCast]
  rw [decide_eq_false ht]
  rfl
set_option maxRecDepth 100000 in
theorem frHas_nil (a : Id) (w : World) : Calls Try.prog 85 #[.pointer none, idV a] w fun e w' => e = .returned (.bool false) ∧ Below w.heap.size w w' := by
  have hb := boxBelow w (.cells #[.int .i64 a.1, .int .i64 a.2] 28)
  go_enter Try.func85, Try.ntmps85
  go_wp2_with fail
  go_ret
  exact ⟨rfl, hb⟩
set_option maxRecDepth 100000 in
theorem frHas_bad (p : Nat) (a : Id) (h : idOk a = false) (w : World) : Calls Try.prog 85 #[frP p, idV a] w fun e w' => e = .returned (.bool false) ∧ Below w.heap.size w w' := by
  have hb := boxBelow w (.cells #[.int .i64 a.1, .int .i64 a.2] 28)
  go_enter Try.func85, Try.ntmps85
  go_wp2_with fail
  refine (check_bad a h _).mono ?_
  rintro e w3 ⟨⟨n, rfl, hn⟩, hb3⟩
  go_wp2_with fail
  go_ret
  exact ⟨rfl, hb.trans (hb3.mono hb.size)⟩
set_option maxRecDepth 100000 in
set_option maxHeartbeats 800000 in
theorem frHas_core (p s : Nat) (F : List Nat) (L : List Id) (hF : F.length = 8) (r : Nat) (t : Int) (hr : r < 8) (h1 : 1 ≤ t) (h2 : t ≤ 1048576) (H : Hp) (fr : List HA) (w : World) (h : St H (Blk p (frC F s) 147 :: SetA s L :: fr) w) :
    Calls Try.prog 85 #[frP p, idV ((r : Int), t)] w fun e w' => e = .returned (.bool (hasF ((r : Int), t) F L)) ∧ Below w.heap.size w w' := by
  have hok : idOk ((r : Int), t) = true := (idOk_iff _).2 ⟨by simp, by simp; omega, h1, h2⟩
  obtain ⟨Hb, lb, h3, hx⟩ := h.box #[.int .i64 (r : Int), .int .i64 t] 28
  have y0 := hx 0 _ rfl
  have y1 := hx 1 _ rfl
  have hb1 := boxBelow w (.cells #[.int .i64 (r : Int), .int .i64 t] 28)
  clear hx
  go_enter Try.func85, Try.ntmps85
  go_wp2_with fail
  refine (check_ok ((r : Int), t) hok _).mono ?_
  rintro e w3 ⟨rfl, hb3⟩
  have h4 := h3.below hb3
  have hb4 := hb1.trans (hb3.mono hb1.size)
  clear h3 hb1 hb3
  generalize hgb : w.heap.size = gb at *
  have c8 := h4.blk_cell 8
  rw [frC_ptr F s hF] at c8
  have cr := h4.blk_cell r
  rw [frC_get F s r (by omega)] at cr
  have cl := h4.blk_lt
  have x0 := h4.cell y0
  have x1 := h4.cell y1
  have xl := World.block_lt_of_cell? _ _ x0
  obtain ⟨f, hf⟩ : ∃ f, Hid (f = F.getD r 0) := ⟨_, Lib.hid rfl⟩
  rw [← hf.out] at cr
  by_cases ht : t ≤ (f : Int)
  · have hN : Hid (hasF ((r : Int), t) F L = true) := Lib.hid (hasF_yes hf.out ht)
    go_wp2_with fail
    go_quiet (fail)
    go_wp2_with fail
    go_ret
    exact ⟨rb hN.out.symm, hgb ▸ bel_drewN hb4 _⟩
  · have hN : Hid (hasF ((r : Int), t) F L = decide (((r : Int), t) ∈ L)) := Lib.hid (hasF_no hf.out ht)
    have hdl := decide_eq_false ht
    have hr1 : (0 : Int) ≤ (r : Int) := by omega
    have hr2 : (r : Int) < 8 := by omega
    have nn1 := World.new_ne w3 _ c8
    have nn2 := World.new_ne w3 _ cr
    have nn3 := World.new_ne w3 _ x0
    have nn4 := World.new_ne w3 _ x1
    go_wp2_with fail
    have hd := h4.drew
    have kk : ∀ (l : List HA) (w' : World), St Hb (Blk p (frC F s) 147 :: l) w' → w'.cell? ⟨p, 8, none⟩ = some (setP s) ∧ w'.cell? ⟨p, r, none⟩ = some (.int .i64 (f : Int)) ∧ w'.cell? ⟨gb, 0, none⟩ = some (.int .i64 (r : Int)) ∧ w'.cell? ⟨gb, 1, none⟩ = some (.int .i64 t) := fun l w' h => ⟨(h.blk_cell 8).trans (frC_ptr F s hF), (h.blk_cell r).trans ((frC_get F s r (by omega)).trans (by rw [hf.out])), h.cell y0, h.cell y1⟩
    go_region_held3 (fun w' => w'.cell? ⟨p, 8, none⟩ = some (setP s) ∧ w'.cell? ⟨p, r, none⟩ = some (.int .i64 (f : Int)) ∧ w'.cell? ⟨gb, 0, none⟩ = some (.int .i64 (r : Int)) ∧ w'.cell? ⟨gb, 1, none⟩ = some (.int .i64 t)) (first | exact kk _ _ hd | exact kk _ _ h9)
      ((go_at_call 76; refine (has_any s L ((r : Int), t) Hb _ _ hd.swap).mono ?_; rintro e w9 ⟨rfl, hb9⟩; have h9 := hd.below hb9))
    have hb5 := hb4.drew.trans (hb9.mono (by rw [← hgb]; exact hb4.drew.size))
    go_wp2_with fail
    go_ret
    exact ⟨rb hN.out.symm, hgb ▸ hb5⟩
/-- What is marked, the floors, and what stands above them. -/
structure FI (M : List Id) (F : List Nat) (L : List Id) : Prop where
  len : F.length = 8
  rises : Rises M
  ok : ∀ a ∈ M, idOk a = true
  above : ∀ a ∈ L, a ∈ M ∧ ((F.getD a.1.toNat 0 : Nat) : Int) < a.2
  all : ∀ a ∈ M, a ∈ L ∨ a.2 ≤ ((F.getD a.1.toNat 0 : Nat) : Int)
  under : ∀ r n : Nat, r < 8 → 1 ≤ n → n ≤ F.getD r 0 → ((r : Int), (n : Int)) ∈ M
  count : L.length + F.sum = M.length
theorem getD_set (F : List Nat) (r q n : Nat) (hr : r < F.length) : (F.set r n).getD q 0 = if q = r then n else F.getD q 0 := by
  simp only [List.getD_eq_getElem?_getD, List.getElem?_set]
  by_cases h : r = q
  · subst h
    rw [if_pos rfl, if_pos rfl, if_pos hr]
    rfl
  · rw [if_neg h, if_neg (fun e => h e.symm)]
theorem sum_set : ∀ (F : List Nat) (r n : Nat), r < F.length → (F.set r n).sum + F.getD r 0 = F.sum + n
  | [], r, n, h => by simp at h
  | x :: F, 0, n, _ => by simp; omega
  | x :: F, r + 1, n, h => by
    have := sum_set F r n (by simpa using h)
    simp at this ⊢
    omega
theorem cutL_len {a : Id} {L : List Id} (hn : L.Nodup) (ha : a ∈ L) : (cutL a L).length + 1 = L.length := by
  induction L with
  | nil => simp at ha
  | cons x l ih =>
    rw [List.nodup_cons] at hn
    unfold cutL
    rw [List.filter_cons]
    rcases List.mem_cons.1 ha with e | ha
    · subst e
      rw [if_neg (by simp)]
      have : l.filter (fun b => decide (b ≠ a)) = l := List.filter_eq_self.2 (fun q hq => decide_eq_true (fun e => hn.1 (e ▸ hq)))
      rw [this]
      rfl
    · rw [if_pos (decide_eq_true (show x ≠ a from fun e => hn.1 (e ▸ ha)))]
      have := ih hn.2 ha
      unfold cutL at this
      simp only [List.length_cons]
      omega
theorem FI.bound {M : List Id} {F : List Nat} {L : List Id} (h : FI M F L) (r : Nat) (hr : r < 8) : F.getD r 0 ≤ 1048576 := by
  rcases Nat.eq_zero_or_pos (F.getD r 0) with h0 | h0
  · omega
  · have := (idOk_iff _).1 (h.ok _ (h.under r _ hr h0 (Nat.le_refl _)))
    simp only at this
    omega
theorem FI.raise {M : List Id} {F : List Nat} {L : List Id} (h : FI M F L) (hn : L.Nodup) (r : Nat) (hr : r < 8) (hin : ((r : Int), ((F.getD r 0 + 1 : Nat) : Int)) ∈ L) : FI M (F.set r (F.getD r 0 + 1)) (cutL ((r : Int), ((F.getD r 0 + 1 : Nat) : Int)) L) := by
  have hl := h.len
  have hg := fun q => getD_set F r q (F.getD r 0 + 1) (by omega)
  refine ⟨by rw [List.length_set]; exact hl, h.rises, h.ok, fun a ha => ?_, fun a ha => ?_, fun q n hq h1 h2 => ?_, ?_⟩
  · obtain ⟨h1, h2⟩ := (cutL_mem _ _ _).1 ha
    obtain ⟨h3, h4⟩ := h.above a h1
    refine ⟨h3, ?_⟩
    have hok := (idOk_iff a).1 (h.ok a h3)
    rw [hg]
    by_cases hq : a.1.toNat = r
    · rw [if_pos hq]
      rw [hq] at h4
      rcases Int.lt_or_le ((F.getD r 0 + 1 : Nat) : Int) a.2 with h5 | h5
      · exact h5
      · exact absurd (Prod.ext (by show a.1 = (r : Int); omega) (by show a.2 = ((F.getD r 0 + 1 : Nat) : Int); omega)) h2
    · rw [if_neg hq]
      exact h4
  · have hok := (idOk_iff a).1 (h.ok a ha)
    rw [hg]
    by_cases hq : a.1.toNat = r
    · rw [if_pos hq]
      rcases h.all a ha with h1 | h1
      · by_cases he : a = ((r : Int), ((F.getD r 0 + 1 : Nat) : Int))
        · right
          rw [he]
          exact Int.le_refl _
        · left
          exact (cutL_mem _ _ _).2 ⟨h1, he⟩
      · right
        rw [hq] at h1
        omega
    · rw [if_neg hq]
      rcases h.all a ha with h1 | h1
      · left
        refine (cutL_mem _ _ _).2 ⟨h1, fun e => hq ?_⟩
        rw [e]
        simp
      · exact .inr h1
  · rw [hg] at h2
    by_cases he : q = r
    · rw [if_pos he] at h2
      subst he
      rcases Nat.lt_or_ge n (F.getD q 0 + 1) with h3 | h3
      · exact h.under q n hq h1 (by omega)
      · obtain rfl : n = F.getD q 0 + 1 := by omega
        exact (h.above _ hin).1
    · rw [if_neg he] at h2
      exact h.under q n hq h1 h2
  · have h1 := cutL_len hn hin
    have h2 := sum_set F r (F.getD r 0 + 1) (by omega)
    have h3 := h.count
    omega
theorem FI.has {M : List Id} {F : List Nat} {L : List Id} (h : FI M F L) (a : Id) (hok : idOk a = true) : hasF a F L = decide (a ∈ M) := by
  have hk := (idOk_iff a).1 hok
  obtain ⟨a1, t⟩ := a
  simp only at hk
  obtain ⟨r, rfl⟩ : ∃ r : Nat, a1 = r := ⟨a1.toNat, by omega⟩
  obtain ⟨n, rfl⟩ : ∃ n : Nat, t = n := ⟨t.toNat, by omega⟩
  by_cases ht : (n : Int) ≤ ((F.getD r 0 : Nat) : Int)
  · rw [hasF_yes rfl ht, decide_eq_true (h.under r n (by omega) (by omega) (by omega))]
  · rw [hasF_no rfl ht]
    refine decide_eq_decide.2 ⟨fun h1 => (h.above _ h1).1, fun h1 => ?_⟩
    rcases h.all _ h1 with h2 | h2
    · exact h2
    · exact absurd h2 ht
theorem FI.add {M : List Id} {F : List Nat} {L : List Id} (h : FI M F L) (a : Id) (hok : idOk a = true) (hn : a ∉ M) : FI (ins a M) F (L ++ [a]) := by
  have hk := (idOk_iff a).1 hok
  have hf : ¬ a.2 ≤ ((F.getD a.1.toNat 0 : Nat) : Int) := fun h1 => by
    have := h.under a.1.toNat a.2.toNat (by omega) (by omega) (by omega)
    rw [show (((a.1.toNat : Int)), ((a.2.toNat : Int))) = a from Prod.ext (by show ((a.1.toNat : Int)) = a.1; omega) (by show ((a.2.toNat : Int)) = a.2; omega)] at this
    exact hn this
  refine ⟨h.len, ins_rises a M h.rises hn, fun b hb => ?_, fun b hb => ?_, fun b hb => ?_, fun r n hr h1 h2 => (ins_mem _ _ _).2 (.inr (h.under r n hr h1 h2)), ?_⟩
  · rcases (ins_mem _ _ _).1 hb with e | hb
    · rw [e]; exact hok
    · exact h.ok b hb
  · rcases List.mem_append.1 hb with hb | hb
    · exact ⟨(ins_mem _ _ _).2 (.inr (h.above b hb).1), (h.above b hb).2⟩
    · rw [List.mem_singleton] at hb
      subst hb
      exact ⟨(ins_mem _ _ _).2 (.inl rfl), by omega⟩
  · rcases (ins_mem _ _ _).1 hb with e | hb
    · subst e; left; simp
    · rcases h.all b hb with h1 | h1
      · left; exact List.mem_append.2 (.inl h1)
      · exact .inr h1
  · rw [ins_len, List.length_append]
    have := h.count
    simp
    omega
def FC (F : List Nat) (L : List Id) (r : Nat) : Prop := ((r : Int), ((F.getD r 0 + 1 : Nat) : Int)) ∉ L
end Go.Proofs.Ytelmhcbdpimaaaa

/- Ids marked: raise, Mark, and what is told. -/
set_option linter.unusedVariables false
set_option linter.unusedSimpArgs false
namespace Go.Proofs.Ytelmhcbdpimaaaa
open Go.RowKit Go.Cw
attribute [local go_sem ↓] eql_id neq_id
theorem noGoto_norm {Q : Exit → Act → World → Prop} {a : Act} {w : World} (h : Q .normal a w) : Exit.noGoto Q .normal a w := h
set_option maxRecDepth 100000 in
set_option maxHeartbeats 1600000 in
theorem frRaise (p s : Nat) (M : List Id) (F : List Nat) (L : List Id) (r : Nat) (hr : r < 8) (hFI : FI M F L) (hC : ∀ q, q < 8 → q ≠ r → FC F L q) (H : Hp) (fr : List HA) (w : World) (h : St H (Blk p (frC F s) 147 :: SetA s L :: fr) w) :
    Calls Try.prog 115 #[frP p, .int .i64 (r : Int)] w fun e w' => e = .returned (.tuple #[]) ∧ Env w w' ∧ ∃ F' L', FI M F' L' ∧ (∀ q, q < 8 → FC F' L' q) ∧ St H (Blk p (frC F' s) 147 :: SetA s L' :: fr) w' := by
  have hr1 : (r : Int) < 8 := by omega
  have hr0 : (0 : Int) ≤ (r : Int) := by omega
  have hFIh := Lib.hid hFI
  have hCh := Lib.hid hC
  clear hFI hC
  go_enter Try.func115, Try.ntmps115
  go_wp2_with fail
  go_step3
  go_wp2_with fail
  go_step3
  go_wp2_with fail
  go_loopg [4] L.length (fun k s4 wr => ∃ F L, k = L.length ∧ Hid (FI M F L) ∧ Hid (∀ q, q < 8 → q ≠ r → FC F L q) ∧ St H (Blk p (frC F s) 147 :: SetA s L :: fr) wr ∧ Env w wr)
  case atStart => exact ⟨F, L, rfl, hFIh, hCh, h, Env.refl w⟩
  case round =>
    clear h hFIh hCh
    obtain ⟨F, L, hk, hFI, hC, hst, hen⟩ := hrel
    have hlen := hFI.out.len
    have hnd := Lib.hid (set_nodup hst.swap)
    have hbd := hFI.out.bound r hr
    obtain ⟨f, hf⟩ : ∃ f, Hid (f = F.getD r 0) := ⟨_, Lib.hid rfl⟩
    rw [← hf.out] at hbd
    have cr := hst.blk_cell r
    rw [frC_get F s r (by omega), ← hf.out] at cr
    have cl := hst.blk_lt
    obtain ⟨Hb, lb, h2, hx⟩ := hst.box #[.int .i64 (r : Int), .int .i64 ((f : Int) + 1)] 28
    have y0 := hx 0 _ rfl
    have y1 := hx 1 _ rfl
    have en2 := hen.alloc (.cells #[.int .i64 (r : Int), .int .i64 ((f : Int) + 1)] 28)
    clear hx
    have hw : IntKind.i64.wrap ((f : Int) + 1) = (f : Int) + 1 := by rw [IntKind.wrap_i64]; omega
    go_wp2_with fail
    generalize wr.heap.size = gb at *
    generalize wr.alloc (.cells #[.int .i64 (r : Int), .int .i64 ((f : Int) + 1)] 28) = W at *
    clear cr cl
    have c8 := h2.blk_cell 8
    rw [frC_ptr F s hlen] at c8
    have cl := h2.blk_lt
    have x0 := h2.cell y0
    have x1 := h2.cell y1
    have xl := World.block_lt_of_cell? _ _ x0
    go_still_tail 5, (by kernel_rfl)
    change wpList _ _ _ _ _ W.drew
    go_wp2_with fail
    refine (setRem_any s L ((r : Int), (f : Int) + 1) Hb _ _ h2.drew.swap).mono ?_
    rintro e w3 ⟨rfl, h3, en3⟩
    have h4 : St Hb (Blk p (frC F s) 147 :: SetA s (cutL ((r : Int), (f : Int) + 1) L) :: fr) w3 := h3.swap
    have en4 := en2.drew.trans en3
    clear h3 c8 cl x0 x1 xl h2 en2 en3
    have cr := h4.blk_cell r
    rw [frC_get F s r (by omega), ← hf.out] at cr
    have cf := h4.blk_free r
    have cl := h4.blk_lt
    by_cases hin : ((r : Int), (f : Int) + 1) ∈ L
    · rw [decide_eq_true hin]
      have hin' : ((r : Int), ((F.getD r 0 + 1 : Nat) : Int)) ∈ L := by rw [← hf.out]; exact hin
      have hcutl : Hid ((cutL ((r : Int), (f : Int) + 1) L).length < L.length) := Lib.hid (by have := cutL_len hnd.out hin; omega)
      have hN : Hid (FI M (F.set r (f + 1)) (cutL ((r : Int), (f : Int) + 1) L)) := Lib.hid (by
        have := hFI.out.raise hnd.out r hr hin'
        rw [← hf.out] at this
        exact this)
      have hCN : Hid (∀ q, q < 8 → q ≠ r → FC (F.set r (f + 1)) (cutL ((r : Int), (f : Int) + 1) L) q) := Lib.hid (fun q hq hqr hm => by
        rw [getD_set F r q _ (by omega), if_neg hqr] at hm
        exact hC.out q hq hqr ((cutL_mem _ _ _).1 hm).1)
      have hset := Lib.hid (frC_set F s r (f + 1) (by omega))
      clear hin hin'
      go_wp2_with fail
      go_still_tail 10, (by kernel_rfl)
      change wpList _ _ _ _ _ w3.drew
      have h5 := (h4.drew).blk_set r (.int .i64 ((f : Int) + 1))
      have en5 := en4.drew.setCell ⟨p, r, none⟩ (.int .i64 ((f : Int) + 1))
      go_wp2_with fail
      go_roundg (cutL ((r : Int), (f : Int) + 1) L).length
      case measure => rw [hk]; exact hcutl.out
      case rel => exact ⟨F.set r (f + 1), _, rfl, hN, hCN, (by rw [← hset.out]; exact h5.weaken lb), en5⟩
    · rw [decide_eq_false hin]
      have hCN : Hid (∀ q, q < 8 → FC F L q) := Lib.hid (fun q hq => by
        by_cases e : q = r
        · subst e
          unfold FC
          rw [← hf.out]
          exact hin
        · exact hC.out q hq e)
      have hcut : cutL ((r : Int), (f : Int) + 1) L = L := List.filter_eq_self.2 (fun q hq => decide_eq_true (fun e => hin (e ▸ hq)))
      rw [hcut] at h4
      clear hin hcut
      go_wp2_with fail
      refine noGoto_norm ?_
      go_end0
      exact ⟨rfl, en4, F, L, hFI.out, hCN.out, h4.weaken lb⟩
end Go.Proofs.Ytelmhcbdpimaaaa

/- Ids marked: the contracts of the package over the list of what is marked. -/
set_option linter.unusedVariables false
set_option linter.unusedSimpArgs false
namespace Go.Proofs.Ytelmhcbdpimaaaa
open Go.RowKit Go.Cw
attribute [local go_sem ↓] eql_id neq_id
def FrI (p : Nat) (M : List Id) : HA := Ex fun F => Ex fun L => Ex fun s => Pu (FI M F L ∧ ∀ q, q < 8 → FC F L q) (Star (Blk p (frC F s) 147) (SetA s L))
theorem frOpen {H : Hp} {fr : List HA} {w : World} {p : Nat} {M : List Id} (h : St H (FrI p M :: fr) w) : ∃ F L s, (FI M F L ∧ ∀ q, q < 8 → FC F L q) ∧ St H (Blk p (frC F s) 147 :: SetA s L :: fr) w := by
  obtain ⟨F, h1⟩ := h.openEx
  obtain ⟨L, h2⟩ := h1.openEx
  obtain ⟨s, h3⟩ := h2.openEx
  obtain ⟨h4, h5⟩ := h3.openPu
  exact ⟨F, L, s, h4, h5.openStar⟩
theorem frShut {H : Hp} {fr : List HA} {w : World} {p s : Nat} {M L : List Id} {F : List Nat} (h1 : FI M F L) (h2 : ∀ q, q < 8 → FC F L q) (h : St H (Blk p (frC F s) 147 :: SetA s L :: fr) w) : St H (FrI p M :: fr) w :=
  St.shutEx F (St.shutEx L (St.shutEx s (h.shutStar.shutPu ⟨h1, h2⟩)))
theorem frHas (p : Nat) (M : List Id) (a : Id) (H : Hp) (fr : List HA) (w : World) (h : St H (FrI p M :: fr) w) :
    Calls Try.prog 85 #[frP p, idV a] w fun e w' => e = .returned (.bool (decide (a ∈ M))) ∧ Below w.heap.size w w' := by
  obtain ⟨F, L, s, ⟨h1, h2⟩, h3⟩ := frOpen h
  by_cases hok : idOk a = true
  · have hh := h1.has a hok
    have hk := (idOk_iff a).1 hok
    obtain ⟨a1, t⟩ := a
    simp only at hk
    obtain ⟨r, rfl⟩ : ∃ r : Nat, a1 = r := ⟨a1.toNat, by omega⟩
    rw [← hh]
    exact frHas_core p s F L h1.len r t (by omega) hk.2.2.1 hk.2.2.2 H fr w h3
  · have hno : a ∉ M := fun hm => hok (h1.ok a hm)
    rw [decide_eq_false hno]
    exact frHas_bad p a (by simpa using hok) w
def mayM (a : Id) (M : List Id) : Bool := idOk a && !decide (a ∈ M)
def markL (a : Id) (M : List Id) : List Id := if mayM a M then ins a M else M
set_option maxRecDepth 100000 in
theorem frMark_nil (a : Id) (w : World) : Calls Try.prog 83 #[.pointer none, idV a] w fun e w' => e = .returned (.bool false) ∧ Below w.heap.size w w' := by
  have hb := boxBelow w (.cells #[.int .i64 a.1, .int .i64 a.2] 28)
  go_enter Try.func83, Try.ntmps83
  go_wp2_with fail
  go_ret
  exact ⟨rfl, hb⟩
set_option maxRecDepth 100000 in
set_option maxHeartbeats 800000 in
theorem frMark (p : Nat) (M : List Id) (a : Id) (H : Hp) (fr : List HA) (w : World) (h : St H (FrI p M :: fr) w) :
    Calls Try.prog 83 #[frP p, idV a] w (Res H fr w (.bool (mayM a M)) [FrI p (markL a M)]) := by
  by_cases hok : idOk a = true
  · obtain ⟨Hb, lb, h2, hx⟩ := h.box #[.int .i64 a.1, .int .i64 a.2] 28
    have y0 := hx 0 _ rfl
    have y1 := hx 1 _ rfl
    have en2 := (Env.refl w).alloc (.cells #[.int .i64 a.1, .int .i64 a.2] 28)
    clear hx
    by_cases hm : a ∈ M
    · have hN : Hid (mayM a M = false) := Lib.hid (by unfold mayM; rw [decide_eq_true hm]; simp)
      have hL : Hid (markL a M = M) := Lib.hid (by unfold markL; rw [hN.out]; rfl)
      have hd := Lib.hid (decide_eq_true hm)
      have hokh := Lib.hid hok
      clear hm hok
      go_enter Try.func83, Try.ntmps83
      go_wp2_with fail
      refine (check_ok a hokh.out _).mono ?_
      rintro e w3 ⟨rfl, hb3⟩
      have h3 := h2.below hb3
      have en3 := en2.trans (bel_env hb3)
      clear h2 hb3
      have x0 := h3.cell y0
      have x1 := h3.cell y1
      have xl := World.block_lt_of_cell? _ _ x0
      go_wp2_with fail
      refine (frHas p M a Hb _ _ h3).mono ?_
      rintro e w4 ⟨rfl, hb4⟩
      rw [hd.out]
      go_wp2_with fail
      go_ret
      exact ⟨rb hN.out.symm, by rw [hL.out]; exact (h3.below hb4).weaken lb, en3.trans (bel_env hb4)⟩
    · have hN : Hid (mayM a M = true) := Lib.hid (by unfold mayM; rw [decide_eq_false hm, hok]; rfl)
      have hL : Hid (markL a M = ins a M) := Lib.hid (by unfold markL; rw [hN.out]; rfl)
      have hd := Lib.hid (decide_eq_false hm)
      have hokh := Lib.hid hok
      have hmh := Lib.hid hm
      clear hm hok
      go_enter Try.func83, Try.ntmps83
      go_wp2_with fail
      refine (check_ok a hokh.out _).mono ?_
      rintro e w3 ⟨rfl, hb3⟩
      have h3 := h2.below hb3
      have en3 := en2.trans (bel_env hb3)
      clear h2 hb3
      generalize w.heap.size = gb at *
      have x0 := h3.cell y0
      have x1 := h3.cell y1
      have xl := World.block_lt_of_cell? _ _ x0
      go_wp2_with fail
      refine (frHas p M a Hb _ _ h3).mono ?_
      rintro e w4 ⟨rfl, hb4⟩
      rw [hd.out]
      have h4 := h3.below hb4
      have en4 := en3.trans (bel_env hb4)
      clear h3 hb4 x0 x1 xl
      obtain ⟨F, L, s, hFI, h5⟩ := frOpen h4
      replace hFI := Lib.hid hFI
      have x0 := h5.cell y0
      have x1 := h5.cell y1
      have xl := World.block_lt_of_cell? _ _ x0
      have c8 := h5.blk_cell 8
      rw [frC_ptr F s hFI.out.1.len] at c8
      have cl := h5.blk_lt
      go_wp2_with fail
      go_still_tail 5, (by kernel_rfl)
      change wpList _ _ _ _ _ w4.drew
      go_wp2_with fail
      refine (setAdd_any s L a Hb _ _ h5.drew.swap).mono ?_
      rintro e w6 ⟨rfl, h6, en6⟩
      have hnL : a ∉ L := fun hl => hmh.out (hFI.out.1.above a hl).1
      have hadd : addL a L = L ++ [a] := if_neg hnL
      rw [hadd] at h6
      replace hnL := Lib.hid hnL
      clear hadd x0 x1 xl c8 cl
      have x0 := h6.cell y0
      have x1 := h6.cell y1
      have xl := World.block_lt_of_cell? _ _ x0
      obtain ⟨r, hr⟩ : ∃ r : Nat, Hid (a.1 = r) := ⟨a.1.toNat, Lib.hid (by have := (idOk_iff a).1 hokh.out; omega)⟩
      have hr8 : r < 8 := by have := (idOk_iff a).1 hokh.out; have := hr.out; omega
      have hFN := Lib.hid (hFI.out.1.add a hokh.out hmh.out)
      have hCN : Hid (∀ q, q < 8 → q ≠ r → FC F (L ++ [a]) q) := Lib.hid (fun q hq hqr hm => by
        rcases List.mem_append.1 hm with h1 | h1
        · exact hFI.out.2 q hq h1
        · rw [List.mem_singleton] at h1
          have := congrArg Prod.fst h1
          simp only at this
          rw [hr.out] at this
          omega)
      go_wp2_with fail
      rw [hr.out]
      refine (frRaise p s (ins a M) F (L ++ [a]) r hr8 hFN.out hCN.out Hb _ _ h6.swap).mono ?_
      rintro e w7 ⟨rfl, en7, F', L', hF', hC', h7⟩
      go_wp2_with fail
      go_ret
      exact ⟨rb hN.out.symm, by rw [hL.out]; exact (frShut hF' hC' h7).weaken lb, ((en4.drew.trans en6).trans en7)⟩
  · have hN : Hid (mayM a M = false) := Lib.hid (by unfold mayM; simp [hok])
    have hL : Hid (markL a M = M) := Lib.hid (by unfold markL; rw [hN.out]; rfl)
    have hb := boxBelow w (.cells #[.int .i64 a.1, .int .i64 a.2] 28)
    have hok' := Lib.hid (show idOk a = false by simpa using hok)
    clear hok
    go_enter Try.func83, Try.ntmps83
    go_wp2_with fail
    refine (check_bad a hok'.out _).mono ?_
    rintro e w3 ⟨⟨n, rfl, hn⟩, hb3⟩
    have hb4 := hb.trans (hb3.mono hb.size)
    go_wp2_with fail
    go_ret
    exact ⟨rb hN.out.symm, by rw [hL.out]; exact h.below hb4, bel_env hb4⟩
end Go.Proofs.Ytelmhcbdpimaaaa
