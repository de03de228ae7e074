/- The law IdsetActs: walked. -/
import Derived.Test.YtmdmekdmlkhchaaIdsetLaw
import Derived.Deep.RegionHeld3
set_option linter.unusedVariables false
set_option linter.unusedSimpArgs false
namespace Go.Proofs.Ytmdmekdmlkhchaa
open Go.RowKit Go.Cw
attribute [local go_sem ↓] eql_id neq_id
abbrev SAct := Bool × Int × Int
def sac (x : SAct) : List Value := [.bool x.1, .int .i64 x.2.1, .int .i64 x.2.2]
def sacs (l : List SAct) : List Value := l.flatMap sac
theorem sacs_len (l : List SAct) : (sacs l).length = l.length * 3 := flat_len sac 3 (fun _ => rfl) l
theorem sacs_get (l : List SAct) (k : Nat) (h : k < l.length) : (sacs l)[k * 3]? = some (.bool l[k].1) ∧ (sacs l)[k * 3 + 1]? = some (.int .i64 l[k].2.1) ∧ (sacs l)[k * 3 + 2]? = some (.int .i64 l[k].2.2) := by
  have := fun i hi => flat_get sac 3 (fun _ => rfl) l k i h hi
  exact ⟨this 0 (by omega), this 1 (by omega), this 2 (by omega)⟩
theorem keepA {W w9 : World} {b o : Nat} {u : Value} (hb : Below W.heap.size W w9) (q : W.cell? ⟨b, o, none⟩ = some u) (ob : Obj) : (w9.alloc ob).cell? ⟨b, o, none⟩ = some u := by
  have hl := World.block_lt_of_cell? _ _ q
  have h1 : w9.cell? ⟨b, o, none⟩ = some u := (hb.cell (p := ⟨b, o, none⟩) hl).trans q
  have h2 := World.block_lt_of_cell? _ _ h1
  unfold World.cell? at *
  rw [heap_alloc_old w9 ob h2]
  exact h1
theorem keepB {W w9 : World} {b o : Nat} {u : Value} (hb : Below W.heap.size W w9) (q : W.cell? ⟨b, o, none⟩ = some u) : w9.cell? ⟨b, o, none⟩ = some u :=
  (hb.cell (p := ⟨b, o, none⟩) (World.block_lt_of_cell? _ _ q)).trans q
theorem cellNew (w : World) (cs : Array Value) (t : TypeId) (i : Nat) (u : Value) (h : cs[i]? = some u) : (w.drew.alloc (.cells cs t)).cell? ⟨w.heap.size, i, none⟩ = some u := by
  have := heap_alloc_new w.drew (.cells cs t)
  unfold World.cell?
  have h2 : (w.drew.alloc (.cells cs t)).heap[w.heap.size]? = some (.cells cs t) := this
  rw [h2]
  exact h
theorem frozenNew (w : World) (cs : Array Value) (t : TypeId) (i : Nat) : (w.drew.alloc (.cells cs t)).frozen? ⟨w.heap.size, i, none⟩ = false := by
  have := heap_alloc_new w.drew (.cells cs t)
  unfold World.frozen?
  have h2 : (w.drew.alloc (.cells cs t)).heap[w.heap.size]? = some (.cells cs t) := this
  rw [h2]
  simp
theorem boxKeep {H : Hp} {g : Nat} {cs : Array Value} {t : TypeId} {l : List HA} {w : World} (h : St H (Blk g cs t :: l) w) : ∃ H', Hp.le H H' ∧ St H' l w ∧ ∀ i u, cs[i]? = some u → H'.cell g i = some u := by
  obtain ⟨h1, h2⟩ := h.blk_keep
  exact ⟨_, Hp.le_put h2, h1, fun i u hu => by
    have := Hp.put_same H g (.cells cs t)
    simp [Hp.cell, this, hu]⟩
theorem cutL_mem (a b : Id) (l : List Id) : b ∈ cutL a l ↔ b ∈ l ∧ b ≠ a := by unfold cutL; rw [List.mem_filter]; simp
theorem cutL_rises (a : Id) (l : List Id) (h : Rises l) : Rises (cutL a l) := List.Pairwise.filter _ h
theorem addL_mem (x b : Id) (acc : List Id) : b ∈ addL x acc ↔ b = x ∨ b ∈ acc := by
  unfold addL
  split
  · rename_i h
    constructor
    · exact .inr
    · rintro (e | e)
      · rw [e]; exact h
      · exact e
  · simp only [List.mem_append, List.mem_singleton]
    exact or_comm
set_option maxRecDepth 100000 in
set_option maxHeartbeats 1600000 in
theorem idsetActs_any (u v : Value) (l : List Id) (acts : List SAct) (w : World) (hu : Rw w 2 u (idl l)) (hv : Rw w 3 v (sacs acts)) :
    Calls Try.prog 9 #[u, v] w fun e w' => e = .returned (.bool true) ∧ Below w.heap.size w w' := by
  obtain ⟨A, n, c, rfl, hl, hn, hc⟩ := hu.form
  obtain ⟨A', n', c', rfl, hl', hn', hc'⟩ := hv.form
  rw [idl_len] at hl
  rw [sacs_len] at hl'
  obtain rfl : n = l.length := by omega
  obtain rfl : n' = acts.length := by omega
  clear hl hl'
  have ha := hu.rd
  have hb := hv.rd
  by_cases h1 : (100 : Int) < l.length
  · go_enter Try.func9, Try.ntmps9
    go_wp2_with fail
    refine (works04 _ _ _ (St.start w)).mono ?_
    rintro e w1 ⟨rfl, h2, en2⟩
    go_wp2_with fail
    go_ret
    exact ⟨rfl, h2.toBelow en2⟩
  by_cases h2 : (100 : Int) < acts.length
  · go_enter Try.func9, Try.ntmps9
    go_wp2_with fail
    refine (works04 _ _ _ (St.start w)).mono ?_
    rintro e w1 ⟨rfl, h2, en2⟩
    go_wp2_with fail
    go_ret
    exact ⟨rfl, h2.toBelow en2⟩
  have la : l.length ≤ 100 := by omega
  have lb : acts.length ≤ 100 := by omega
  have hsl := sortL_len l
  have h0 := (St.start w).row_lit 42 2 0 #[] rfl (by decide)
  have hu' := hu.alloc (.cells #[] 42)
  have en0 := (Env.refl w).alloc (.cells #[] 42)
  go_enter Try.func9, Try.ntmps9
  go_wp2_with (at_builtin; refine wpList_append rfl (.tmp 19) (.tmp 20) 47 47 rfl Try.underlying47 (.inl ⟨_, Try.underlying47⟩) (.agg #[.int .i64 0, .int .i64 0]) 16 info_id rfl (by decide) (by decide) rfl rfl h0 (News.rw hu' (idl_one l)) ?apB ?apK)
  case apB => rw [idl_len]; omega
  intro v' w2 s2 en2
  have e2 := en0.trans en2
  go_wp2_with fail
  refine (setNew_any _ l w2 (s2.row_rw (by omega))).mono ?_
  rintro e w3 he
  obtain ⟨p, rfl, s3, en3⟩ := ResE.lift s2 he
  have e3 := e2.trans en3
  go_wp2_with fail
  refine (refSorted_any _ l w3 (ha.rw s3) (by omega)).mono ?_
  rintro e w4 he
  obtain ⟨wv, rfl, s4, en4⟩ := ResE.lift s3 he
  have s4' : St (snap w) [Row 42 2 wv (idl (sortL l)), SetA p (dedup l)] w4 := (s4.pick 2 (by simp)).drop
  have e4 := e3.trans en4
  clear s2 s3 s4 en2 en3 en4 e2 e3 hu' h0 en0
  go_wp2_with fail
  go_loopw [6, 7] (fun lv i wr => ∃ (k : Nat) (W S : List Id), k ≤ acts.length ∧ i = .int .i64 k ∧ St (snap w) [Row 42 2 lv (idl W), SetA p S] wr ∧ Env w wr ∧ Hid (Rises W ∧ (∀ x, x ∈ W ↔ x ∈ S) ∧ W.length ≤ 100 + k)) (fun _ i _ => acts.length - (intOf i).toNat)
  case atStart => exact ⟨0, sortL l, dedup l, Nat.zero_le _, rfl, s4', e4, Lib.hid ⟨sortL_rises l, fun x => by rw [sortL_mem, dedup_mem], by omega⟩⟩
  case round =>
    obtain ⟨k, W, S, hk, rfl, hst, hen, HI⟩ := hrel
    obtain ⟨LA, Ln, Lc, rfl, hlf, hln, hlc⟩ := hst.row_form
    rw [idl_len] at hlf
    obtain rfl : Ln = W.length := by omega
    clear hlf
    have hnd := Lib.hid (set_nodup hst.swap)
    by_cases hlt : k < acts.length
    · obtain ⟨⟨out, xa, xb⟩, HX⟩ : ∃ x, Hid (x = acts[k]) := ⟨_, Lib.hid rfl⟩
      obtain ⟨qb, qoff, qA, qc⟩ := (hb.rw hst).cells (by omega)
      cases qA
      have q0 := qc _ _ (sacs_get acts k hlt).1
      have q1 := qc _ _ (sacs_get acts k hlt).2.1
      have q2 := qc _ _ (sacs_get acts k hlt).2.2
      rw [← Nat.add_assoc] at q1 q2
      rw [← HX.out] at q0 q1 q2
      simp only at q0 q1 q2
      have ql := World.block_lt_of_cell? _ _ q0
      clear qc
      have hH := Lib.hid (hst.row_rw (by omega))
      have n1 := World.new_ne wr _ q1
      have n2 := World.new_ne wr _ q2
      go_wp2_with fail
      go_region_held3 (fun w' => w'.cell? ⟨qb, qoff + k * 3 + 1, none⟩ = some (.int .i64 xa) ∧ w'.cell? ⟨qb, qoff + k * 3 + 2, none⟩ = some (.int .i64 xb))
        (first | go_keep | (go_split_ands; exact ⟨keepB hb9 (by assumption), keepB hb9 (by assumption)⟩) | exact ⟨keepA hb9 (by assumption) _, keepA hb9 (by assumption) _⟩ | exact ⟨keepA hb9 q1 _, keepA hb9 q2 _⟩ | trivial | (go_split_ands; first | done | trivial | exact ⟨by assumption, by assumption⟩) | (refine ⟨?_, ?_⟩ <;> first | assumption | (simp [*, World.cell?_alloc_some, World.cell?_setCell_far]; done) | (rw [(hb9 : Below _ _ _).cell (by first | assumption | (simp; omega))]; assumption)))
        (first | (go_at_call 56; refine (hasIds_any _ W (xa, xb) _ ?_).mono ?_; (first | exact hH.out | exact hH.out.drewN _ | exact hH.out.alloc _ | exact (hH.out.drewN _).alloc _ | exact (hH.out.alloc _).drewN _); rintro e w9 ⟨rfl, hb9⟩; (try (have z0 := keepB hb9 (cellNew wr #[.int .i64 0, .int .i64 0] 42 0 _ rfl); have z1 := keepB hb9 (cellNew wr #[.int .i64 0, .int .i64 0] 42 1 _ rfl); have zl := World.block_lt_of_cell? _ _ z0; have zf0 := (hb9.frozen (p := ⟨wr.heap.size, 0, none⟩) (by simp)).trans (frozenNew wr #[.int .i64 0, .int .i64 0] 42 0); have zf1 := (hb9.frozen (p := ⟨wr.heap.size, 1, none⟩) (by simp)).trans (frozenNew wr #[.int .i64 0, .int .i64 0] 42 1)))))
      · have h5 := hst.drew.below hb9
        obtain ⟨H', hle, h6, hy⟩ := h5.box #[.int .i64 xa, .int .i64 xb] 42
        have hy0 := hy 0 _ rfl
        have hy1 := hy 1 _ rfl
        have en6 := (hen.drew.trans (bel_env hb9)).alloc (.cells #[.int .i64 xa, .int .i64 xb] 42)
        clear hy h5 q0 q1 q2 ql n1 n2
        generalize w9.alloc (.cells #[.int .i64 xa, .int .i64 xb] 42) = W6 at *
        generalize w9.heap.size = gb at *
        clear hb9
        --REST
        have hA := hb.mono hle
        obtain ⟨qb', qoff', qA', qc⟩ := (hA.rw h6).cells (by omega)
        cases qA'
        obtain ⟨b', o', hA', hcell⟩ : ∃ b' o', (some (⟨qb, qoff, none⟩ : Addr)) = some ⟨b', o', none⟩ ∧ H'.cell qb (qoff + k * 3) = some (.bool out) := ⟨_, _, rfl, by
          obtain ⟨_, _, _, hv, _, _, _, hcl⟩ := hA
          cases hv
          obtain ⟨_, _, hAA, hcc⟩ := hcl (by omega)
          cases hAA
          have := hcc _ _ (sacs_get acts k hlt).1
          rw [← HX.out] at this
          exact this⟩
        clear hA' qc
        have r0 := h6.cell hcell
        have rl := World.block_lt_of_cell? _ _ r0
        have x0 := h6.cell hy0
        have x1 := h6.cell hy1
        have xl := World.block_lt_of_cell? _ _ x0
        have hmem : decide ((xa, xb) ∈ S) = decide ((xa, xb) ∈ W) := decide_eq_decide.2 (HI.out.2.1 _).symm
        have hWl := HI.out.2.2
        generalize decide ((xa, xb) ∈ W) = d at *
        have d1 : (d != d) = false := by cases d <;> rfl
        have d2 : ((!d) == d) = false := by cases d <;> rfl
        cases out with
        | true =>
          go_wp2_with fail
          refine (cut_any _ _ (xa, xb) _ (h6.row_rw (by omega)) (by omega)).mono ?_
          rintro e w7 he
          obtain ⟨nv, rfl, h7, en7⟩ := ResE.lift h6 he
          have h8 : St H' [SetA p S, Row 42 2 nv (idl (cutL (xa, xb) W))] w7 := (h7.swap.drop).swap
          clear x0 x1 xl r0 rl
          have x0 := h8.cell hy0
          have x1 := h8.cell hy1
          have xl := World.block_lt_of_cell? _ _ x0
          go_wp2_with fail
          refine (setRem_any p S (xa, xb) _ _ _ h8).mono ?_
          rintro e w8 ⟨rfl, h9, en8⟩
          rw [hmem]
          go_wp2_with fail
          have hS8 : St H' [SetA p (cutL (xa, xb) S), Row 42 2 nv (idl (cutL (xa, xb) W))] w8 := h9
          have hR' : Rises (cutL (xa, xb) W) := cutL_rises _ _ HI.out.1
          have hm' : ∀ x, x ∈ cutL (xa, xb) W ↔ x ∈ cutL (xa, xb) S := fun x => by rw [cutL_mem, cutL_mem, HI.out.2.1]
          have hw' : (cutL (xa, xb) W).length ≤ 100 + (k + 1) := by have : (cutL (xa, xb) W).length ≤ W.length := List.length_filter_le .. ; omega
          have hhas : decide ((xa, xb) ∈ cutL (xa, xb) S) = false := decide_eq_false (fun h => ((cutL_mem _ _ _).1 h).2 rfl)
          obtain ⟨S2, hS2⟩ : ∃ x, x = cutL (xa, xb) S := ⟨_, rfl⟩
          obtain ⟨W2, hW2⟩ : ∃ x, x = cutL (xa, xb) W := ⟨_, rfl⟩
          rw [← hS2] at hS8 hm' hhas
          rw [← hW2] at hS8 hR' hm' hw'
          clear hS2 hW2 h9 h8 h7
          have hnd2 := set_nodup hS8
          have hlen : S2.length = W2.length := by
            have a1 := sub_len S2 W2 hnd2 (fun x hx => (hm' x).2 hx)
            have a2 := sub_len W2 S2 (rises_nodup hR') (fun x hx => (hm' x).1 hx)
            omega
          have hlen2 : ((S2.length : Int) != W2.length) = false := bne_eq_false_iff_eq.2 (by omega)
          have hsl : S2.length * 32 ≤ 140737488355328 := by omega
          obtain ⟨NA, Nn, Nc, rfl, hNf, _, _⟩ := hS8.swap.row_form
          rw [idl_len] at hNf
          obtain rfl : Nn = W2.length := by omega
          clear x0 x1 xl hNf
          have r0 := hS8.cell hcell
          have rl := World.block_lt_of_cell? _ _ r0
          have x0 := hS8.cell hy0
          have x1 := hS8.cell hy1
          have xl := World.block_lt_of_cell? _ _ x0
          have hmL := Lib.hid hm'
          clear hm' hmem hlen
          go_region_held3 (fun w' => w'.cell? ⟨qb, qoff + k * 3, none⟩ = some (.bool true) ∧ w'.cell? ⟨gb, 0, none⟩ = some (.int .i64 xa) ∧ w'.cell? ⟨gb, 1, none⟩ = some (.int .i64 xb))
            (first | go_keep | exact ⟨hS11.cell hcell, hS11.cell hy0, hS11.cell hy1⟩ | exact ⟨hS10.cell hcell, hS10.cell hy0, hS10.cell hy1⟩ | exact ⟨hS9.cell hcell, hS9.cell hy0, hS9.cell hy1⟩)
            (first
              | (go_at_call 59; refine (has_any p S2 (xa, xb) H' _ _ hS8.drew).mono ?_; rintro e w9 ⟨rfl, hb9⟩; have hS9 := hS8.drew.below hb9; rw [hhas])
              | (go_at_call 51; refine (len_any p S2 H' _ _ hS9).mono ?_; rintro e w9' ⟨rfl, rfl⟩)
              | (go_at_call 52; refine (list_any p S2 H' _ _ hS9 hsl).mono ?_; rintro e w10 ⟨v10, R10, rfl, hS10, en10, r10, m10⟩; obtain rfl : R10 = W2 := rises_eq r10 hR' (fun x => by rw [m10]; exact (hmL.out x).symm))
              | (go_at_call 53; refine (sameIds_any _ _ R10 R10 _ (hS10.row_rw (by omega)) ((hS10.pick 2 (by simp) : St H' [Row 42 2 (.slice NA R10.length Nc) (idl R10), Row 42 2 v10 (idl R10), SetA p S2] w10).row_rw (by omega))).mono ?_; rintro e w11 ⟨rfl, hb11⟩; rw [decide_eq_true rfl]; have hS11 := hS10.below hb11))
          go_wp2_with fail
          go_roundw
          case rel => exact ⟨k + 1, R10, S2, by omega, by go_num, (hS11.drop.swap).weaken hle, ((((((en6.trans en7).trans en8).drew).trans (bel_env hb9)).trans en10).trans (bel_env hb11)), Lib.hid ⟨hR', hmL.out, hw'⟩⟩
          case measure => simp [intOf]; omega
        | false =>
          go_wp2_with fail
          refine (put_own _ _ (xa, xb) _ _ _ h6 (by omega)).mono ?_
          rintro e w7 ⟨nv, rfl, h7, en7⟩
          have h8 := h7.swap
          clear x0 x1 xl r0 rl
          have x0 := h8.cell hy0
          have x1 := h8.cell hy1
          have xl := World.block_lt_of_cell? _ _ x0
          go_wp2_with fail
          refine (setAdd_any p S (xa, xb) _ _ _ h8).mono ?_
          rintro e w8 ⟨rfl, h9, en8⟩
          rw [hmem]
          go_wp2_with fail
          have hS8 : St H' [SetA p (addL (xa, xb) S), Row 42 2 nv (idl (putL (xa, xb) W))] w8 := h9
          have hR' : Rises (putL (xa, xb) W) := putL_rises _ _ HI.out.1
          have hm' : ∀ x, x ∈ putL (xa, xb) W ↔ x ∈ addL (xa, xb) S := fun x => by rw [putL_mem, addL_mem, HI.out.2.1]
          have hw' : (putL (xa, xb) W).length ≤ 100 + (k + 1) := by have := putL_len (xa, xb) W; omega
          have hhas : decide ((xa, xb) ∈ addL (xa, xb) S) = true := decide_eq_true ((addL_mem _ _ _).2 (.inl rfl))
          obtain ⟨S2, hS2⟩ : ∃ x, x = addL (xa, xb) S := ⟨_, rfl⟩
          obtain ⟨W2, hW2⟩ : ∃ x, x = putL (xa, xb) W := ⟨_, rfl⟩
          rw [← hS2] at hS8 hm' hhas
          rw [← hW2] at hS8 hR' hm' hw'
          clear hS2 hW2 h9 h8 h7
          have hnd2 := set_nodup hS8
          have hlen : S2.length = W2.length := by
            have a1 := sub_len S2 W2 hnd2 (fun x hx => (hm' x).2 hx)
            have a2 := sub_len W2 S2 (rises_nodup hR') (fun x hx => (hm' x).1 hx)
            omega
          have hlen2 : ((S2.length : Int) != W2.length) = false := bne_eq_false_iff_eq.2 (by omega)
          have hsl : S2.length * 32 ≤ 140737488355328 := by omega
          obtain ⟨NA, Nn, Nc, rfl, hNf, _, _⟩ := hS8.swap.row_form
          rw [idl_len] at hNf
          obtain rfl : Nn = W2.length := by omega
          clear x0 x1 xl hNf
          have r0 := hS8.cell hcell
          have rl := World.block_lt_of_cell? _ _ r0
          have x0 := hS8.cell hy0
          have x1 := hS8.cell hy1
          have xl := World.block_lt_of_cell? _ _ x0
          have hmL := Lib.hid hm'
          clear hm' hmem hlen
          go_region_held3 (fun w' => w'.cell? ⟨qb, qoff + k * 3, none⟩ = some (.bool false) ∧ w'.cell? ⟨gb, 0, none⟩ = some (.int .i64 xa) ∧ w'.cell? ⟨gb, 1, none⟩ = some (.int .i64 xb))
            (first | go_keep | exact ⟨hS11.cell hcell, hS11.cell hy0, hS11.cell hy1⟩ | exact ⟨hS10.cell hcell, hS10.cell hy0, hS10.cell hy1⟩ | exact ⟨hS9.cell hcell, hS9.cell hy0, hS9.cell hy1⟩)
            (first
              | (go_at_call 59; refine (has_any p S2 (xa, xb) H' _ _ hS8.drew).mono ?_; rintro e w9 ⟨rfl, hb9⟩; have hS9 := hS8.drew.below hb9; rw [hhas])
              | (go_at_call 51; refine (len_any p S2 H' _ _ hS9).mono ?_; rintro e w9' ⟨rfl, rfl⟩)
              | (go_at_call 52; refine (list_any p S2 H' _ _ hS9 hsl).mono ?_; rintro e w10 ⟨v10, R10, rfl, hS10, en10, r10, m10⟩; obtain rfl : R10 = W2 := rises_eq r10 hR' (fun x => by rw [m10]; exact (hmL.out x).symm))
              | (go_at_call 53; refine (sameIds_any _ _ R10 R10 _ (hS10.row_rw (by omega)) ((hS10.pick 2 (by simp) : St H' [Row 42 2 (.slice NA R10.length Nc) (idl R10), Row 42 2 v10 (idl R10), SetA p S2] w10).row_rw (by omega))).mono ?_; rintro e w11 ⟨rfl, hb11⟩; rw [decide_eq_true rfl]; have hS11 := hS10.below hb11))
          go_wp2_with fail
          go_roundw
          case rel => exact ⟨k + 1, R10, S2, by omega, by go_num, (hS11.drop.swap).weaken hle, ((((((en6.trans en7).trans en8).drew).trans (bel_env hb9)).trans en10).trans (bel_env hb11)), Lib.hid ⟨hR', hmL.out, hw'⟩⟩
          case measure => simp [intOf]; omega
        --ENDREST
      · have h4 := hst.drew.blk #[.int .i64 0, .int .i64 0] 42
        have h5 := ((h4.below hb9).blk_set 0 (.int .i64 xa)).blk_set 1 (.int .i64 xb)
        obtain ⟨H', hle, h6, hy⟩ := boxKeep h5
        have hy0 := hy 0 (.int .i64 xa) rfl
        have hy1 := hy 1 (.int .i64 xb) rfl
        have en6 := (((hen.drew.alloc (.cells #[.int .i64 0, .int .i64 0] 42)).trans (bel_env hb9)).setCell ⟨wr.heap.size, 0, none⟩ (.int .i64 xa)).setCell ⟨wr.heap.size, 1, none⟩ (.int .i64 xb)
        clear hy h4 h5 q0 q1 q2 ql n1 n2 z0 z1 zl zf0 zf1
        change St H' _ ((w9.setCell ⟨wr.heap.size, 0, none⟩ (.int .i64 xa)).setCell ⟨wr.heap.size, 1, none⟩ (.int .i64 xb)) at h6
        generalize (w9.setCell ⟨wr.heap.size, 0, none⟩ (.int .i64 xa)).setCell ⟨wr.heap.size, 1, none⟩ (.int .i64 xb) = W6 at *
        change H'.cell wr.heap.size 0 = _ at hy0
        change H'.cell wr.heap.size 1 = _ at hy1
        clear hb9
        generalize wr.heap.size = gb at *
        --REST
        have hA := hb.mono hle
        obtain ⟨qb', qoff', qA', qc⟩ := (hA.rw h6).cells (by omega)
        cases qA'
        obtain ⟨b', o', hA', hcell⟩ : ∃ b' o', (some (⟨qb, qoff, none⟩ : Addr)) = some ⟨b', o', none⟩ ∧ H'.cell qb (qoff + k * 3) = some (.bool out) := ⟨_, _, rfl, by
          obtain ⟨_, _, _, hv, _, _, _, hcl⟩ := hA
          cases hv
          obtain ⟨_, _, hAA, hcc⟩ := hcl (by omega)
          cases hAA
          have := hcc _ _ (sacs_get acts k hlt).1
          rw [← HX.out] at this
          exact this⟩
        clear hA' qc
        have r0 := h6.cell hcell
        have rl := World.block_lt_of_cell? _ _ r0
        have x0 := h6.cell hy0
        have x1 := h6.cell hy1
        have xl := World.block_lt_of_cell? _ _ x0
        have hmem : decide ((xa, xb) ∈ S) = decide ((xa, xb) ∈ W) := decide_eq_decide.2 (HI.out.2.1 _).symm
        have hWl := HI.out.2.2
        generalize decide ((xa, xb) ∈ W) = d at *
        have d1 : (d != d) = false := by cases d <;> rfl
        have d2 : ((!d) == d) = false := by cases d <;> rfl
        cases out with
        | true =>
          go_wp2_with fail
          refine (cut_any _ _ (xa, xb) _ (h6.row_rw (by omega)) (by omega)).mono ?_
          rintro e w7 he
          obtain ⟨nv, rfl, h7, en7⟩ := ResE.lift h6 he
          have h8 : St H' [SetA p S, Row 42 2 nv (idl (cutL (xa, xb) W))] w7 := (h7.swap.drop).swap
          clear x0 x1 xl r0 rl
          have x0 := h8.cell hy0
          have x1 := h8.cell hy1
          have xl := World.block_lt_of_cell? _ _ x0
          go_wp2_with fail
          refine (setRem_any p S (xa, xb) _ _ _ h8).mono ?_
          rintro e w8 ⟨rfl, h9, en8⟩
          rw [hmem]
          go_wp2_with fail
          have hS8 : St H' [SetA p (cutL (xa, xb) S), Row 42 2 nv (idl (cutL (xa, xb) W))] w8 := h9
          have hR' : Rises (cutL (xa, xb) W) := cutL_rises _ _ HI.out.1
          have hm' : ∀ x, x ∈ cutL (xa, xb) W ↔ x ∈ cutL (xa, xb) S := fun x => by rw [cutL_mem, cutL_mem, HI.out.2.1]
          have hw' : (cutL (xa, xb) W).length ≤ 100 + (k + 1) := by have : (cutL (xa, xb) W).length ≤ W.length := List.length_filter_le .. ; omega
          have hhas : decide ((xa, xb) ∈ cutL (xa, xb) S) = false := decide_eq_false (fun h => ((cutL_mem _ _ _).1 h).2 rfl)
          obtain ⟨S2, hS2⟩ : ∃ x, x = cutL (xa, xb) S := ⟨_, rfl⟩
          obtain ⟨W2, hW2⟩ : ∃ x, x = cutL (xa, xb) W := ⟨_, rfl⟩
          rw [← hS2] at hS8 hm' hhas
          rw [← hW2] at hS8 hR' hm' hw'
          clear hS2 hW2 h9 h8 h7
          have hnd2 := set_nodup hS8
          have hlen : S2.length = W2.length := by
            have a1 := sub_len S2 W2 hnd2 (fun x hx => (hm' x).2 hx)
            have a2 := sub_len W2 S2 (rises_nodup hR') (fun x hx => (hm' x).1 hx)
            omega
          have hlen2 : ((S2.length : Int) != W2.length) = false := bne_eq_false_iff_eq.2 (by omega)
          have hsl : S2.length * 32 ≤ 140737488355328 := by omega
          obtain ⟨NA, Nn, Nc, rfl, hNf, _, _⟩ := hS8.swap.row_form
          rw [idl_len] at hNf
          obtain rfl : Nn = W2.length := by omega
          clear x0 x1 xl hNf
          have r0 := hS8.cell hcell
          have rl := World.block_lt_of_cell? _ _ r0
          have x0 := hS8.cell hy0
          have x1 := hS8.cell hy1
          have xl := World.block_lt_of_cell? _ _ x0
          have hmL := Lib.hid hm'
          clear hm' hmem hlen
          go_region_held3 (fun w' => w'.cell? ⟨qb, qoff + k * 3, none⟩ = some (.bool true) ∧ w'.cell? ⟨gb, 0, none⟩ = some (.int .i64 xa) ∧ w'.cell? ⟨gb, 1, none⟩ = some (.int .i64 xb))
            (first | go_keep | exact ⟨hS11.cell hcell, hS11.cell hy0, hS11.cell hy1⟩ | exact ⟨hS10.cell hcell, hS10.cell hy0, hS10.cell hy1⟩ | exact ⟨hS9.cell hcell, hS9.cell hy0, hS9.cell hy1⟩)
            (first
              | (go_at_call 59; refine (has_any p S2 (xa, xb) H' _ _ hS8.drew).mono ?_; rintro e w9 ⟨rfl, hb9⟩; have hS9 := hS8.drew.below hb9; rw [hhas])
              | (go_at_call 51; refine (len_any p S2 H' _ _ hS9).mono ?_; rintro e w9' ⟨rfl, rfl⟩)
              | (go_at_call 52; refine (list_any p S2 H' _ _ hS9 hsl).mono ?_; rintro e w10 ⟨v10, R10, rfl, hS10, en10, r10, m10⟩; obtain rfl : R10 = W2 := rises_eq r10 hR' (fun x => by rw [m10]; exact (hmL.out x).symm))
              | (go_at_call 53; refine (sameIds_any _ _ R10 R10 _ (hS10.row_rw (by omega)) ((hS10.pick 2 (by simp) : St H' [Row 42 2 (.slice NA R10.length Nc) (idl R10), Row 42 2 v10 (idl R10), SetA p S2] w10).row_rw (by omega))).mono ?_; rintro e w11 ⟨rfl, hb11⟩; rw [decide_eq_true rfl]; have hS11 := hS10.below hb11))
          go_wp2_with fail
          go_roundw
          case rel => exact ⟨k + 1, R10, S2, by omega, by go_num, (hS11.drop.swap).weaken hle, ((((((en6.trans en7).trans en8).drew).trans (bel_env hb9)).trans en10).trans (bel_env hb11)), Lib.hid ⟨hR', hmL.out, hw'⟩⟩
          case measure => simp [intOf]; omega
        | false =>
          go_wp2_with fail
          refine (put_own _ _ (xa, xb) _ _ _ h6 (by omega)).mono ?_
          rintro e w7 ⟨nv, rfl, h7, en7⟩
          have h8 := h7.swap
          clear x0 x1 xl r0 rl
          have x0 := h8.cell hy0
          have x1 := h8.cell hy1
          have xl := World.block_lt_of_cell? _ _ x0
          go_wp2_with fail
          refine (setAdd_any p S (xa, xb) _ _ _ h8).mono ?_
          rintro e w8 ⟨rfl, h9, en8⟩
          rw [hmem]
          go_wp2_with fail
          have hS8 : St H' [SetA p (addL (xa, xb) S), Row 42 2 nv (idl (putL (xa, xb) W))] w8 := h9
          have hR' : Rises (putL (xa, xb) W) := putL_rises _ _ HI.out.1
          have hm' : ∀ x, x ∈ putL (xa, xb) W ↔ x ∈ addL (xa, xb) S := fun x => by rw [putL_mem, addL_mem, HI.out.2.1]
          have hw' : (putL (xa, xb) W).length ≤ 100 + (k + 1) := by have := putL_len (xa, xb) W; omega
          have hhas : decide ((xa, xb) ∈ addL (xa, xb) S) = true := decide_eq_true ((addL_mem _ _ _).2 (.inl rfl))
          obtain ⟨S2, hS2⟩ : ∃ x, x = addL (xa, xb) S := ⟨_, rfl⟩
          obtain ⟨W2, hW2⟩ : ∃ x, x = putL (xa, xb) W := ⟨_, rfl⟩
          rw [← hS2] at hS8 hm' hhas
          rw [← hW2] at hS8 hR' hm' hw'
          clear hS2 hW2 h9 h8 h7
          have hnd2 := set_nodup hS8
          have hlen : S2.length = W2.length := by
            have a1 := sub_len S2 W2 hnd2 (fun x hx => (hm' x).2 hx)
            have a2 := sub_len W2 S2 (rises_nodup hR') (fun x hx => (hm' x).1 hx)
            omega
          have hlen2 : ((S2.length : Int) != W2.length) = false := bne_eq_false_iff_eq.2 (by omega)
          have hsl : S2.length * 32 ≤ 140737488355328 := by omega
          obtain ⟨NA, Nn, Nc, rfl, hNf, _, _⟩ := hS8.swap.row_form
          rw [idl_len] at hNf
          obtain rfl : Nn = W2.length := by omega
          clear x0 x1 xl hNf
          have r0 := hS8.cell hcell
          have rl := World.block_lt_of_cell? _ _ r0
          have x0 := hS8.cell hy0
          have x1 := hS8.cell hy1
          have xl := World.block_lt_of_cell? _ _ x0
          have hmL := Lib.hid hm'
          clear hm' hmem hlen
          go_region_held3 (fun w' => w'.cell? ⟨qb, qoff + k * 3, none⟩ = some (.bool false) ∧ w'.cell? ⟨gb, 0, none⟩ = some (.int .i64 xa) ∧ w'.cell? ⟨gb, 1, none⟩ = some (.int .i64 xb))
            (first | go_keep | exact ⟨hS11.cell hcell, hS11.cell hy0, hS11.cell hy1⟩ | exact ⟨hS10.cell hcell, hS10.cell hy0, hS10.cell hy1⟩ | exact ⟨hS9.cell hcell, hS9.cell hy0, hS9.cell hy1⟩)
            (first
              | (go_at_call 59; refine (has_any p S2 (xa, xb) H' _ _ hS8.drew).mono ?_; rintro e w9 ⟨rfl, hb9⟩; have hS9 := hS8.drew.below hb9; rw [hhas])
              | (go_at_call 51; refine (len_any p S2 H' _ _ hS9).mono ?_; rintro e w9' ⟨rfl, rfl⟩)
              | (go_at_call 52; refine (list_any p S2 H' _ _ hS9 hsl).mono ?_; rintro e w10 ⟨v10, R10, rfl, hS10, en10, r10, m10⟩; obtain rfl : R10 = W2 := rises_eq r10 hR' (fun x => by rw [m10]; exact (hmL.out x).symm))
              | (go_at_call 53; refine (sameIds_any _ _ R10 R10 _ (hS10.row_rw (by omega)) ((hS10.pick 2 (by simp) : St H' [Row 42 2 (.slice NA R10.length Nc) (idl R10), Row 42 2 v10 (idl R10), SetA p S2] w10).row_rw (by omega))).mono ?_; rintro e w11 ⟨rfl, hb11⟩; rw [decide_eq_true rfl]; have hS11 := hS10.below hb11))
          go_wp2_with fail
          go_roundw
          case rel => exact ⟨k + 1, R10, S2, by omega, by go_num, (hS11.drop.swap).weaken hle, ((((((en6.trans en7).trans en8).drew).trans (bel_env hb9)).trans en10).trans (bel_env hb11)), Lib.hid ⟨hR', hmL.out, hw'⟩⟩
          case measure => simp [intOf]; omega
        --ENDREST
    · have hmL := Lib.hid HI.out.2.1
      have hR' := HI.out.1
      have hl2 := HI.out.2.2
      have hlen : S.length ≤ W.length := sub_len S W hnd.out (fun x hx => (HI.out.2.1 x).2 hx)
      go_wp2_with fail
      refine (list_any p S (snap w) _ _ hst.swap (by omega)).mono ?_
      rintro e w10 ⟨v10, R10, rfl, hS10, en10, r10, m10⟩
      obtain rfl : R10 = W := rises_eq r10 hR' (fun x => by rw [m10]; exact (hmL.out x).symm)
      go_wp2_with fail
      refine (sameIds_any _ _ R10 R10 _ (hS10.row_rw (by omega)) ((hS10.pick 2 (by simp) : St (snap w) [Row 42 2 (.slice LA R10.length Lc) (idl R10), Row 42 2 v10 (idl R10), SetA p S] w10).row_rw (by omega))).mono ?_
      rintro e w11 ⟨rfl, hb11⟩
      rw [decide_eq_true rfl]
      have hS11 := hS10.below hb11
      go_wp2_with fail
      refine (works04 _ _ _ hS11).mono ?_
      rintro e w12 ⟨rfl, h12, en12⟩
      go_wp2_with fail
      go_ret
      exact ⟨rfl, h12.toBelow (((hen.trans en10).trans (bel_env hb11)).trans en12)⟩
end Go.Proofs.Ytmdmekdmlkhchaa
