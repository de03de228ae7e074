/- The law JournalLoads, walked: for every argument it returns true, and nothing that was there is changed. -/
import Derived.Test.YtmdmekdmlkhchaaJournalWorks
import Derived.Deep.RegionHeld3
set_option linter.unusedVariables false
set_option linter.unusedSimpArgs false
namespace Go.Proofs.Ytmdmekdmlkhchaa
open Go.RowKit Go.Cw Go.Jn
theorem wInt : (Try.prog.info? 3).map (fun i => (i.zero, i.size, i.bytes)) = some (some (.int .i64 0), 1, 8) := by kernel_rfl
/-- The entries that arguments mean. -/
def gs (X : List JEnt) : List Ent := X.filterMap (fun x => norm x.1 x.2.1 x.2.2.2)
theorem gs_fit {X : List JEnt} (h : ∀ x ∈ X, Byt x.2.2.2) : ∀ x ∈ gs X, Fit x := by
  intro x hx
  obtain ⟨y, hy, hn⟩ := List.mem_filterMap.1 hx
  exact norm_fit (h y hy) hn
theorem gs_snoc (X : List JEnt) (k : Nat) (h : k < X.length) : gs (X.take (k + 1)) = gs (X.take k) ++ (norm X[k].1 X[k].2.1 X[k].2.2.2).toList := by
  unfold gs
  rw [List.take_succ_eq_append_getElem h, List.filterMap_append]
  cases hn : norm X[k].1 X[k].2.1 X[k].2.2.2 <;> simp [hn]
theorem gs_len (X : List JEnt) (k : Nat) : (gs (X.take k)).length ≤ k := by
  unfold gs
  exact Nat.le_trans (List.length_filterMap_le _ _) (by rw [List.length_take]; omega)
/-- Where entries end. -/
def endsV (L : List Ent) : List Value := (List.range (L.length + 1)).map fun i => .int .i64 ((flat (L.take i)).length : Int)
theorem endsV_len (L : List Ent) : (endsV L).length = L.length + 1 := by simp [endsV]
theorem endsV_get (L : List Ent) (i : Nat) (h : i ≤ L.length) : (endsV L)[i]? = some (.int .i64 ((flat (L.take i)).length : Int)) := by
  simp [endsV, show i < L.length + 1 by omega]
theorem endsV_snoc (L : List Ent) (x : Ent) : endsV (L ++ [x]) = endsV L ++ [.int .i64 ((flat (L ++ [x])).length : Int)] := by
  unfold endsV
  rw [List.length_append, List.length_singleton, List.range_succ, List.map_append, List.map_singleton, List.take_of_length_le (l := L ++ [x]) (by simp)]
  congr 1
  refine List.map_congr_left fun i hi => ?_
  rw [List.take_append_of_le_length (by have := List.mem_range.1 hi; omega)]
theorem endsV_one (L : List Ent) : ∀ u ∈ endsV L, u.oneCell' = true := by
  intro u hu
  obtain ⟨i, _, rfl⟩ := List.mem_map.1 hu
  rfl
theorem flat_one (L : List Ent) (x : Ent) : flat (L ++ [x]) = flat L ++ eb x := by rw [flat_app]; simp [flat]
theorem u8s_set (xs : List Int) (i : Nat) (x : Int) : (u8s xs).set i (.int .u8 x) = u8s (xs.set i x) := by simp [u8s, List.map_set]
theorem wpAnyH_mono {P : Program} {md : Region.Mode} {ops : Array Oper} {Q : Exit → Act → World → Prop} {S S' : World → Prop} (h : ∀ w, S w → S' w) : ∀ (fuel : Nat) (listed : Array Bool) (a : Act) (w : World), wpAnyH P md ops Q S fuel listed a w → wpAnyH P md ops Q S' fuel listed a w
  | 0, _, _, _, hh => hh
  | fuel + 1, _, _, _, ⟨h1, h2⟩ => ⟨h1, fun i hi => wpOp_mono (fun a w hk => ⟨h w hk.1, wpAnyH_mono h fuel _ a w hk.2⟩) (h2 i hi)⟩
/-- What is loaded of entries' bytes with one byte changed. -/
theorem loadsF (L : List Ent) (hL : ∀ x ∈ L, Fit x) (P : Nat) (x : Int) (by' : Nat) (Z : List Int) (hZ : Z = (flat L).set P ((x + (by' : Int)) % 256)) (hP : P < (flat L).length) (hx : Hid (((x + (by' : Int)) % 256) = (((flat L).getD P 0) + (by' : Int)) % 256)) :
    ∀ (k : Nat) (l6 : List JEnt) (j : Nat) (e6 : Int), k ≤ L.length → (flat (L.take k)).length ≤ P → Loaded Z (ents l6) j e6 → (flat (L.take k)).length ≤ j ∧ k ≤ l6.length ∧ j ≤ (flat L).length ∧ flat (ents l6) = Z.take j ∧ ((e6 = 0 ∧ j = (flat L).length) ∨ (e6 ≠ 0 ∧ j ≠ (flat L).length ∧ by' ≠ 0)) := by
  intro k l6 j e6 hk hkP ld
  have hlen : Z.length = (flat L).length := by rw [hZ, List.length_set]
  have hsplit : flat L = flat (L.take k) ++ flat (L.drop k) := by rw [← flat_app, List.take_append_drop]
  have htk : Z.take (flat (L.take k)).length = flat (L.take k) := by
    rw [hZ, List.take_set_of_le hkP, hsplit, List.take_left]
  have hb : Z = flat (L.take k) ++ Z.drop (flat (L.take k)).length := by
    have := List.take_append_drop (flat (L.take k)).length Z
    rw [htk] at this
    exact this.symm
  obtain ⟨l1, h1, _⟩ := ld.pre (fun x hx => hL x (List.mem_of_mem_take hx)) hb
  have hj := ld.split.2
  refine ⟨?_, ?_, by rw [← hlen]; exact ld.le, ld.eat.symm, ?_⟩
  · rw [hj, h1, flat_app, List.length_append]; omega
  · have := congrArg List.length h1
    rw [ents_len, List.length_append, List.length_take] at this
    omega
  · rcases ld.fin with ⟨h2, h3⟩ | ⟨h2, h3, _⟩
    · exact .inl ⟨h2, by rw [← hlen]; exact h3⟩
    · refine .inr ⟨h2, by rw [← hlen]; omega, ?_⟩
      intro h0
      subst h0
      have hZ0 : Z = flat L := by
        rw [hZ, hx.out]
        have hbx := flat_byte hL ((flat L).getD P 0) (by simp [hP])
        rw [show ((flat L).getD P 0 + ((0 : Nat) : Int)) % 256 = (flat L).getD P 0 by omega]
        rw [List.getD_eq_getElem?_getD, List.getElem?_eq_getElem hP, Option.getD_some]
        exact List.set_getElem_self hP
      rw [hZ0] at ld
      exact h2 (ld.whole hL).2.2
set_option maxRecDepth 100000 in
set_option maxHeartbeats 16000000 in
theorem loads_any (X : List JEnt) (A : Option Addr) (c : Nat) (at' : Nat) (by' : Nat) (hat : at' < 65536) (hby : by' < 256) (W : World) (hX : Rw W 3 (.slice A X.length c) (jecs X)) (hE : ∀ x ∈ X, Rw W 1 x.2.2.1 (u8s x.2.2.2)) (hB : ∀ x ∈ X, Byt x.2.2.2) :
    Calls Try.prog 6 #[.slice A X.length c, .int .u16 (at' : Int), .int .u8 (by' : Int)] W fun e w' => e = .returned (.bool true) ∧ Below W.heap.size W w' := by
  by_cases h20 : (20 : Int) < (X.length : Int)
  · go_enter Try.func6, Try.ntmps6
    go_wp2_with fail
    refine (works42 W).mono ?_
    rintro e w1 ⟨rfl, hb⟩
    go_wp2_with fail
    go_ret
    exact ⟨rfl, hb⟩
  · have hlX : X.length ≤ 20 := by omega
    have hrow := hX.rd
    have hels : ∀ x ∈ X, Rd (snap W) 1 x.2.2.1 (u8s x.2.2.2) := fun x hx => (hE x hx).rd
    have h1 := (St.start W).row_lit 5 1 0 #[] rfl (by decide)
    have hs1 : (W.alloc (.cells #[] 5)).heap.size = W.heap.size + 1 := by simp
    have h2 := (h1.row_lit 3 1 1 #[.int .i64 0] rfl (by decide)).swap
    rw [hs1] at h2
    have en2 := ((Env.refl W).alloc (.cells #[] 5)).alloc (.cells #[.int .i64 0] 3)
    have hfitA := gs_fit hB
    clear h1 hs1 hX hE
    go_enter Try.func6, Try.ntmps6
    go_wp2_with fail
    go_loopw [7, 8, 9] (fun s7 s8 s9 wr => ∃ k : Nat, k ≤ X.length ∧ s9 = .int .i64 (k : Int) ∧ St (snap W) [Row 5 1 s7 (u8s (flat (gs (X.take k)))), Row 3 1 s8 (endsV (gs (X.take k)))] wr ∧ Env W wr) (fun _ _ s9 _ => X.length - (intOf s9).toNat)
    case atStart => exact ⟨0, by omega, rfl, h2, en2⟩
    case round =>
      clear h2 en2
      obtain ⟨k, hk, rfl, hst, hen⟩ := hrel
      by_cases hlt : k < X.length
      · obtain ⟨b, off, rfl, hcells⟩ := hrow.cells hst (by omega)
        have q0 := hcells _ _ (jecs_get X k hlt).1
        have q1 := hcells _ _ (jecs_get X k hlt).2.1
        have q2 := hcells _ _ (jecs_get X k hlt).2.2
        rw [← Nat.add_assoc] at q1 q2
        have hrd := hels _ (List.getElem_mem hlt)
        have hbx := hB _ (List.getElem_mem hlt)
        have hsn := Lib.hid (gs_snoc X k hlt)
        have hgl := gs_len X k
        have hff : ∀ x ∈ gs (X.take k), Fit x := gs_fit (fun x hx => hB x (List.mem_of_mem_take hx))
        have hfl := (flatJ_len hff).2
        clear hcells hels hff hfitA
        generalize gs (X.take k) = L at *
        obtain ⟨⟨kk, n, bv, ys⟩, HX⟩ : ∃ x, Hid (x = X[k]) := ⟨_, Lib.hid rfl⟩
        rw [← HX.out] at q0 q1 q2 hrd hbx hsn
        simp only at hrd hbx q0 q1 q2
        obtain ⟨bA, bn, bc, rfl, _⟩ := hrd.form
        go_wp2_with fail
        refine (lawBytes kk n bA bn bc ys hbx _ (hrd.rw hst)).mono ?_
        rintro e w2 hq
        obtain ⟨v2, rfl, h3, en3⟩ := ResE.lift hst hq
        replace en3 := hen.trans en3
        clear hq hst hen q0 q1 q2
        obtain ⟨A2, n2, c2, rfl, hn2, _⟩ := h3.row_form
        rw [u8s_len, Nat.mul_one] at hn2
        cases hnm : norm kk n ys with
        | none =>
          have hl0 : lb kk n ys = [] := by unfold lb; rw [hnm]; rfl
          rw [hl0] at hn2 h3
          subst hn2
          replace hnm := Lib.hid hnm
          clear hl0
          have h4 := h3.drop
          go_wp2_with fail
          go_roundw
          case rel => exact ⟨k + 1, by omega, by go_num, by rw [hsn.out]; simp only [hnm.out, Option.toList_none, List.append_nil]; exact h4, en3⟩
          case measure => simp [intOf]; omega
        | some x =>
          have hl0 : lb kk n ys = eb x := by unfold lb; rw [hnm]; rfl
          rw [hl0] at hn2 h3
          have hxf := norm_fit hbx hnm
          have hxl := (eb_good hxf).2
          have hn0 : (0 : Int) < (n2 : Int) := by omega
          replace hnm := Lib.hid hnm
          have hn2' := Lib.hid hn2
          have hsum : (u8s (flat L)).length + (u8s (eb x)).length ≤ 200000 := by rw [u8s_len, u8s_len]; omega
          have hsum2 : (endsV L).length ≤ 200 := by rw [endsV_len]; omega
          clear hl0 hn2 hxl hfl
          go_wp2_with (at_builtin; refine wpList_append rfl (.tmp 36) (.tmp 37) 57 57 rfl Try.underlying57 (.inl ⟨_, Try.underlying57⟩) (.int .u8 0) 1 wU8 rfl (by decide) (by decide) rfl rfl (h3.pick 1 (by simp)) (News.rw (h3.row_rw (by decide)) (u8s_one _)) ?apB1 ?apK1)
          try case apB1 => first | omega | (simp; omega) | (simp [u8s_len]; omega) | skip
          intro v4 w4 h4 en4
          rw [← u8s_append] at h4
          obtain ⟨A4, n4, c4, rfl, hn4, _⟩ := h4.row_form
          rw [u8s_len, Nat.mul_one, ← flat_one] at hn4
          replace hn4 := Lib.hid hn4
          have h5 := ((h4.pick 1 (by simp)).drop).swap
          rw [← flat_one] at h5
          replace en4 := en3.trans en4
          clear h4 h3 en3
          go_wp2_with (at_builtin; refine wpList_append rfl (.tmp 39) (.tmp 42) 26 26 rfl Try.underlying26 (.inl ⟨_, Try.underlying26⟩) (.int .i64 0) 8 wInt rfl (by decide) (by decide) rfl rfl (h5.alloc _) (News.newAt _ _ 1 _ _ (by simp) rfl (by simp [Value.oneCell'])) ?apB2 ?apK2)
          try case apB2 => first | omega | (simp; omega) | (simp [endsV_len]; omega) | skip
          intro v6 w6 h6 en6
          go_wp2_with fail
          go_roundw
          case rel => exact ⟨k + 1, by omega, by go_num, by rw [hsn.out]; simp only [hnm.out, Option.toList_some]; rw [endsV_snoc, hn4.out]; exact h6.swap, (en4.alloc _).trans en6⟩
          case measure => simp [intOf]; omega
      · obtain rfl : k = X.length := by omega
        rw [List.take_length] at hst
        have hgl := gs_len X X.length
        rw [List.take_length] at hgl
        clear hrow hels
        generalize gs X = L at *
        have hfl := (flatJ_len hfitA).2
        have hbf := flat_byte hfitA
        obtain ⟨A7, n7, c7, rfl, hn7, hnc7, hcM7⟩ := hst.row_form
        rw [u8s_len, Nat.mul_one] at hn7
        obtain ⟨A8, n8, c8, rfl, hn8, hnc8, hcM8⟩ := hst.swap.row_form
        rw [endsV_len, Nat.mul_one] at hn8
        simp only [maxLen] at hcM7 hcM8
        by_cases hz : n7 = 0
        · subst hz
          replace hn7 := Lib.hid hn7
          replace hn8 := Lib.hid hn8
          go_wp2_with fail
          refine (works42 _).mono ?_
          rintro e w1 ⟨rfl, hb1⟩
          go_wp2_with fail
          go_ret
          exact ⟨rfl, (hst.below hb1).toBelow (hen.trans (bel_env hb1))⟩
        · have hz0 : ((n7 : Int) == 0) = false := beq_eq_false_iff_ne.2 (by omega)
          obtain ⟨P, hP⟩ : ∃ P, P = at' % n7 := ⟨_, rfl⟩
          have hPl : P < n7 := by rw [hP]; exact Nat.mod_lt _ (by omega)
          have hmod : (at' : Int) % (n7 : Int) = (P : Int) := by rw [hP]; omega
          have hn7p : (0 : Int) < (n7 : Int) := by omega
          have hPI : (P : Int) < (n7 : Int) := by omega
          have hn8p : 0 < n8 := by omega
          obtain ⟨g, off, rfl, hgl7, hcc, hcf⟩ := hst.row_cells (by omega) (by decide)
          have q := hcc _ _ (u8s_get (flat L) P (by omega))
          have qf := hcf P
          obtain ⟨x0, x1⟩ : 0 ≤ (flat L).getD P 0 ∧ (flat L).getD P 0 < 256 := hbf _ (by simp [show P < (flat L).length by omega])
          obtain ⟨y, hy⟩ : ∃ y, y = ((flat L).getD P 0 + (by' : Int)) % 256 := ⟨_, rfl⟩
          have hy0 : 0 ≤ y ∧ y < 256 := by omega
          have hset := hst.row_set P (by rw [u8s_len]; omega) (.int .u8 y)
          rw [u8s_set] at hset
          clear hcc hcf hst hfl
          rw [hy] at hset
          obtain ⟨x, hx⟩ : ∃ x, x = (flat L).getD P 0 := ⟨_, rfl⟩
          rw [← hx] at q x0 x1 hset hy
          have hx := Lib.hid (show (x + (by' : Int)) % 256 = ((flat L).getD P 0 + (by' : Int)) % 256 by rw [← hx])
          rename_i hxq
          clear hxq
          replace hP := Lib.hid hP
          replace hn7 := Lib.hid hn7
          replace hn8 := Lib.hid hn8
          replace hz := Lib.hid hz
          clear hy
          go_wp2_with fail
          replace hset := hset
          have hZ : ∃ Z, Z = (flat L).set P ((x + (by' : Int)) % 256) := ⟨_, rfl⟩
          obtain ⟨Z, hZ⟩ := hZ
          have hZlen : Z.length = (flat L).length := by rw [hZ, List.length_set]
          have hZb : Byt Z := by
            intro b hb
            rw [hZ] at hb
            rcases List.mem_or_eq_of_mem_set hb with hb | hb
            · exact hbf b hb
            · rw [hb]; omega
          have hZl : Z.length ≤ 600000 := by rw [hZlen]; have := (flatJ_len hfitA).2; omega
          have hZf := loadsF L (fun x hx => hfitA x hx) P x by' Z hZ (by rw [hn7.out]; exact hPl) hx
          rw [← hZ] at hset
          have h3 := hset
          have en2 := hen.setCell ⟨g, off + P, none⟩ (.int .u8 ((x + (by' : Int)) % 256))
          generalize wr.setCell ⟨g, off + P, none⟩ (.int .u8 ((x + (by' : Int)) % 256)) = w2 at *
          clear hset hen q qf hgl7
          replace hZ := Lib.hid hZ
          replace hZlen := Lib.hid hZlen
          obtain ⟨eb, eo, rfl, _⟩ := (h3.swap.row_rw (by decide)).cells hn8p
          have hends : ∀ (i : Nat), i ≤ L.length → ∀ (H : Hp) (l : List HA) (w : World), St H (Row 3 1 (.slice (some ⟨eb, eo, none⟩) n8 c8) (endsV L) :: l) w → w.cell? ⟨eb, eo + i, none⟩ = some (.int .i64 ((flat (L.take i)).length : Int)) := fun i hi H l w h => by
            obtain ⟨b, o, hA, hc⟩ := (h.row_rw (by decide)).cells hn8p
            cases hA
            exact hc _ _ (endsV_get L i hi)
          replace hends := Lib.hid hends
          rename_i hdrop
          clear hdrop
          go_loop [12] (fun s12 => ∃ k : Nat, s12 = .int .i64 (k : Int) ∧ k ≤ L.length ∧ (flat (L.take k)).length ≤ P) (fun s12 => L.length - (intOf s12).toNat)
          case atStart => exact ⟨0, rfl, Nat.zero_le _, Nat.zero_le _⟩
          case round =>
            obtain ⟨k, rfl, hk, hkP⟩ := hrel
            by_cases h1 : k + 1 < n8
            · have qe := hends.out (k + 1) (by rw [← hn8.out] at h1; omega) _ _ _ h3.swap
              have h1I : (k : Int) + 1 < (n8 : Int) := by omega
              by_cases h2 : (flat (L.take (k + 1))).length ≤ P
              · have h2I : (((flat (L.take (k + 1))).length : Nat) : Int) ≤ (P : Int) := by omega
                have hk1 : k + 1 ≤ L.length := by rw [← hn8.out] at h1; omega
                go_wp2_with fail
                go_round
                case rel => exact ⟨k + 1, by go_num, hk1, h2⟩
                case measure => simp [intOf]; omega
              · have h2I : ¬ (((flat (L.take (k + 1))).length : Nat) : Int) ≤ (P : Int) := by omega
                go_wp2_with (at_builtin; refine wpList_append rfl (.tmp 79) (.tmp 80) 57 57 rfl Try.underlying57 (.inl ⟨_, Try.underlying57⟩) (.int .u8 0) 1 wU8 rfl (by decide) (by decide) rfl rfl (h3.row_lit 5 1 0 #[] rfl (by decide)) (News.rw ((h3.row_rw (by decide)).alloc _) (u8s_one Z)) ?apB3 ?apK3)
                try case apB3 => first | omega | (simp; omega) | (simp [u8s_len]; omega) | skip
                intro v4 w4 h4 en4
                obtain ⟨H1, m1, h5, r5⟩ := h4.row_keep
                obtain ⟨A5, n5, c5, rfl, _⟩ := r5.form
                have en5 := (en2.alloc (.cells #[] 5)).trans en4
                clear h4 en4
                go_wp2_with fail
                refine (load_any A5 n5 c5 Z hZb hZl H1 _ w4 h5 r5).mono ?_
                rintro e w6 ⟨p, l6, j, e6, H6, rfl, m6, h6, en6, hg6, ld⟩
                replace en6 := en5.trans en6
                clear h5 r5 en5
                obtain ⟨f1, f2, f3, f4, f5⟩ := hZf k l6 j e6 hk hkP ld
                have hl6 : l6.length ≤ 65536 := by have := (flatJ_len hg6.good).1; have h2 := ld.split.2; have h3 := ld.le; rw [ents_len] at this; omega
                have qk := hends.out k hk _ _ _ (h6.pick 2 (by simp))
                have ql := World.block_lt_of_cell? _ _ qk
                have hkI : (k : Int) < (n8 : Int) := by have := hn8.out; omega
                have hk0 : (0 : Int) ≤ (k : Int) := by omega
                have b1 : ¬ (j : Int) < (((flat (L.take k)).length : Nat) : Int) := by omega
                have b2 : ¬ (l6.length : Int) < (k : Int) := by omega
                have b3 : ¬ (n7 : Int) < (j : Int) := by rw [← hn7.out]; omega
                have b4 : (j : Int) ≤ (c7 : Int) := by rw [← hn7.out] at hnc7; omega
                have hjn : j ≤ n7 := by rw [← hn7.out]; omega
                have hBy := fun w h => jBytes p l6 H6 hg6 hl6 [Row 5 1 (.slice (some ⟨g, off, none⟩) n7 c7) (u8s Z), Row 3 1 (.slice (some ⟨eb, eo, none⟩) n8 c8) (endsV L)] w h
                rw [f4] at hBy
                have hAl : ∀ (H : Hp) (l : List HA) (w : World), St H (Row 5 1 (.slice (some ⟨g, off, none⟩) n7 c7) (u8s Z) :: l) w → (convert 57 9 (.slice (some ⟨g, off, none⟩) j c7)).run Try.prog w = .ok (.string (strOfNums (Z.take j))) w := fun H l w h => by
                  have hr := (h.row_rw (by decide)).upto j hjn
                  rw [Nat.mul_one, u8s_take] at hr
                  exact conv_rw hr 57 9 Try.underlying57 Try.underlying5 Try.underlying9
                have h7 := h6.drew
                have hc0 := hAl _ _ _ (h7.pick 1 (by simp))
                have hJL := jLen p l6 H6 _ _ h7
                replace hBy := Lib.hid hBy
                replace hAl := Lib.hid hAl
                generalize Z.take j = T at *
                have hks : Hid (k ≤ L.length) := Lib.hid hk
                generalize hm : (((flat (L.take k)).length : Nat) : Int) = m at *
                clear f1 f2 f3 f4 hk hkP
                have d1 : decide ((j : Int) < m) = false := decide_eq_false b1
                have d2 : decide (l6.length < k) = false := decide_eq_false (by omega)
                have d2' : decide ((l6.length : Int) < (k : Int)) = false := decide_eq_false (by omega)
                have d3 : decide (n7 < j) = false := decide_eq_false (by omega)
                have d3' : decide ((n7 : Int) < (j : Int)) = false := decide_eq_false (by omega)
                obtain ⟨bb, bE, bN, bF⟩ : ∃ bb : Bool, (e6 == 0) = bb ∧ ((j : Int) == (n7 : Int)) = bb ∧ (bb = false → by' ≠ 0) := by
                  rcases f5 with ⟨rfl, hj⟩ | ⟨g1, g2, g3⟩
                  · exact ⟨true, rfl, beq_iff_eq.2 (by rw [← hn7.out]; omega), fun h => by cases h⟩
                  · exact ⟨false, beq_eq_false_iff_ne.2 g1, beq_eq_false_iff_ne.2 (by rw [← hn7.out]; omega), fun _ => g3⟩
                replace bF := Lib.hid bF
                clear f5
                replace hm := Lib.hid hm
                go_wp2_with fail
                refine wp_region_held_drew (S := (fun w' => w'.cell? ⟨eb, eo + k, none⟩ = some (.int .i64 m) ∧ (convert 57 9 (.slice (some ⟨g, off, none⟩) j c7)).run Try.prog w' = .ok (.string (strOfNums T)) w')) (by kernel_rfl) ⟨qk, hc0⟩ (fun hHeld => ?_)
                refine wpAnyH_take (i := 0) (oi := { dst := some 86, op := Go.Op.move (Go.Operand.tmp 14), type := 3, pos := "law.go:115", after := #[], guard := none }) (v := ?_) rfl (by kernel_rfl) (by kernel_rfl) (by kernel_rfl) (fun _ _ _ h => h) (Or.inl ⟨by rfl, ?_⟩) (by assumption) ?_
                rotate_left
                · (intro w hSw; (try dsimp only at hSw); go_simp; (try (with_reducible rfl)))
                try simp only [Act.put, List.setIfInBounds_toArray, List.set_cons_zero, List.set_cons_succ]
                refine wpAnyH_take (i := 1) (oi := { dst := some 87, op := Go.Op.move (Go.Operand.tmp 8), type := 26, pos := "law.go:115", after := #[], guard := none }) (v := ?_) rfl (by kernel_rfl) (by kernel_rfl) (by kernel_rfl) (fun _ _ _ h => h) (Or.inl ⟨by rfl, ?_⟩) (by assumption) ?_
                rotate_left
                · (intro w hSw; (try dsimp only at hSw); go_simp; (try (with_reducible rfl)))
                try simp only [Act.put, List.setIfInBounds_toArray, List.set_cons_zero, List.set_cons_succ]
                refine wpAnyH_take (i := 2) (oi := { dst := some 88, op := Go.Op.move (Go.Operand.tmp 12), type := 3, pos := "law.go:115", after := #[], guard := none }) (v := ?_) rfl (by kernel_rfl) (by kernel_rfl) (by kernel_rfl) (fun _ _ _ h => h) (Or.inl ⟨by rfl, ?_⟩) (by assumption) ?_
                rotate_left
                · (intro w hSw; (try dsimp only at hSw); go_simp; (try (with_reducible rfl)))
                try simp only [Act.put, List.setIfInBounds_toArray, List.set_cons_zero, List.set_cons_succ]
                refine wpAnyH_take (i := 3) (oi := { dst := some 89, op := Go.Op.indexAddr 26 (Go.Operand.tmp 87) (Go.Operand.tmp 88), type := 0, pos := "law.go:115", after := #[{ on := 1, ground := Go.Ground.data }, { on := 2, ground := Go.Ground.data }], guard := none }) (v := ?_) rfl (by kernel_rfl) (by kernel_rfl) (by kernel_rfl) (fun _ _ _ h => h) (Or.inl ⟨by rfl, ?_⟩) (by assumption) ?_
                rotate_left
                · (intro w hSw; (try dsimp only at hSw); go_simp; (try (with_reducible rfl)))
                try simp only [Act.put, List.setIfInBounds_toArray, List.set_cons_zero, List.set_cons_succ]
                refine wpAnyH_take (i := 4) (oi := { dst := some 90, op := Go.Op.load 3 (Go.Operand.tmp 89), type := 3, pos := "law.go:115", after := #[{ on := 3, ground := Go.Ground.data }], guard := none }) (v := ?_) rfl (by kernel_rfl) (by kernel_rfl) (by kernel_rfl) (fun _ _ _ h => h) (Or.inl ⟨by rfl, ?_⟩) (by assumption) ?_
                rotate_left
                · (intro w hSw; (try dsimp only at hSw); go_simp; (try (with_reducible rfl)))
                try simp only [Act.put, List.setIfInBounds_toArray, List.set_cons_zero, List.set_cons_succ]
                refine wpAnyH_take (i := 5) (oi := { dst := some 91, op := Go.Op.binOp Go.BinOp.lss 3 (Go.Operand.tmp 86) (Go.Operand.tmp 90) 3, type := 4, pos := "law.go:115", after := #[{ on := 0, ground := Go.Ground.data }, { on := 4, ground := Go.Ground.data }], guard := none }) (v := ?_) rfl (by kernel_rfl) (by kernel_rfl) (by kernel_rfl) (fun _ _ _ h => h) (Or.inl ⟨by rfl, ?_⟩) (by assumption) ?_
                rotate_left
                · (intro w hSw; (try dsimp only at hSw); go_simp; (try (with_reducible rfl)))
                try simp only [Act.put, List.setIfInBounds_toArray, List.set_cons_zero, List.set_cons_succ]
                refine wpAnyH_take (i := 6) (oi := { dst := some 92, op := Go.Op.move (Go.Operand.tmp 91), type := 4, pos := "law.go:115", after := #[{ on := 5, ground := Go.Ground.data }], guard := none }) (v := ?_) rfl (by kernel_rfl) (by kernel_rfl) (by kernel_rfl) (fun _ _ _ h => h) (Or.inl ⟨by rfl, ?_⟩) (by assumption) ?_
                rotate_left
                · (intro w hSw; (try dsimp only at hSw); go_simp; (try (with_reducible rfl)))
                try simp only [Act.put, List.setIfInBounds_toArray, List.set_cons_zero, List.set_cons_succ]
                refine wpAnyH_take (i := 7) (oi := { dst := some 93, op := Go.Op.move (Go.Operand.tmp 13), type := 76, pos := "law.go:115", after := #[{ on := 6, ground := Go.Ground.guard }], guard := some (6, false) }) (v := ?_) rfl (by kernel_rfl) (by kernel_rfl) (by kernel_rfl) (fun _ _ _ h => h) (Or.inl ⟨by rfl, ?_⟩) (by assumption) ?_
                rotate_left
                · (intro w hSw; (try dsimp only at hSw); go_simp; (try (with_reducible rfl)))
                try simp only [Act.put, List.setIfInBounds_toArray, List.set_cons_zero, List.set_cons_succ]
                refine wpAnyH_take (i := 9) (oi := { dst := some 95, op := Go.Op.move (Go.Operand.tmp 12), type := 3, pos := "law.go:115", after := #[{ on := 6, ground := Go.Ground.guard }], guard := some (6, false) }) (v := ?_) rfl (by kernel_rfl) (by kernel_rfl) (by kernel_rfl) (fun _ _ _ h => h) (Or.inl ⟨by rfl, ?_⟩) (by assumption) ?_
                rotate_left
                · (intro w hSw; (try dsimp only at hSw); go_simp; (try (with_reducible rfl)))
                try simp only [Act.put, List.setIfInBounds_toArray, List.set_cons_zero, List.set_cons_succ]
                refine wpAnyH_ready (rs := [8]) (by kernel_rfl) (by simp) ?_
                refine AllReadyH.cons (o := { dst := some 94, op := Go.Op.call { callee := Go.Callee.value (Go.Operand.func 41), args := #[Go.Operand.tmp 93], argTypes := #[76] }, type := 3, pos := "law.go:115", after := #[{ on := 7, ground := Go.Ground.data }, { on := 6, ground := Go.Ground.chain }, { on := 6, ground := Go.Ground.guard }], guard := some (6, false) }) rfl (fun K hK => ?_) AllReadyH.nil
                go_simp
                refine hJL.mono ?_
                rintro e w9 ⟨rfl, rfl⟩
                refine hK.out _ _ ⟨qk, hc0⟩ (fun hHeld2 => ?_)
                clear hK K hHeld2
                try simp only [Act.put, List.setIfInBounds_toArray, List.set_cons_zero, List.set_cons_succ]
                refine wpAnyH_take (i := 10) (oi := { dst := some 96, op := Go.Op.binOp Go.BinOp.lss 3 (Go.Operand.tmp 94) (Go.Operand.tmp 95) 3, type := 4, pos := "law.go:115", after := #[{ on := 8, ground := Go.Ground.data }, { on := 9, ground := Go.Ground.data }, { on := 6, ground := Go.Ground.guard }], guard := some (6, false) }) (v := ?_) rfl (by kernel_rfl) (by kernel_rfl) (by kernel_rfl) (fun _ _ _ h => h) (Or.inl ⟨by rfl, ?_⟩) (by assumption) ?_
                rotate_left
                · (intro w hSw; (try dsimp only at hSw); go_simp; (try (with_reducible rfl)))
                try simp only [Act.put, List.setIfInBounds_toArray, List.set_cons_zero, List.set_cons_succ]
                refine wpAnyH_take (i := 11) (oi := { dst := some 97, op := Go.Op.pick (Go.Operand.tmp 92) (Go.Operand.const (Go.Value.bool true)) (Go.Operand.tmp 96), type := 4, pos := "law.go:115", after := #[{ on := 6, ground := Go.Ground.data }, { on := 10, ground := Go.Ground.data }], guard := none }) (v := ?_) rfl (by kernel_rfl) (by kernel_rfl) (by kernel_rfl) (fun _ _ _ h => h) (Or.inl ⟨by rfl, ?_⟩) (by assumption) ?_
                rotate_left
                · (intro w hSw; (try dsimp only at hSw); go_simp; (try (with_reducible rfl)))
                try simp only [Act.put, List.setIfInBounds_toArray, List.set_cons_zero, List.set_cons_succ]
                refine wpAnyH_take (i := 12) (oi := { dst := some 98, op := Go.Op.move (Go.Operand.tmp 97), type := 4, pos := "law.go:115", after := #[{ on := 11, ground := Go.Ground.data }, { on := 8, ground := Go.Ground.chain }], guard := none }) (v := ?_) rfl (by kernel_rfl) (by kernel_rfl) (by kernel_rfl) (fun _ _ _ h => h) (Or.inl ⟨by rfl, ?_⟩) (by assumption) ?_
                rotate_left
                · (intro w hSw; (try dsimp only at hSw); go_simp; (try (with_reducible rfl)))
                try simp only [Act.put, List.setIfInBounds_toArray, List.set_cons_zero, List.set_cons_succ]
                refine wpAnyH_take (i := 13) (oi := { dst := some 99, op := Go.Op.move (Go.Operand.tmp 14), type := 3, pos := "law.go:115", after := #[{ on := 12, ground := Go.Ground.guard }], guard := some (12, false) }) (v := ?_) rfl (by kernel_rfl) (by kernel_rfl) (by kernel_rfl) (fun _ _ _ h => h) (Or.inl ⟨by rfl, ?_⟩) (by assumption) ?_
                rotate_left
                · (intro w hSw; (try dsimp only at hSw); go_simp; (try (with_reducible rfl)))
                try simp only [Act.put, List.setIfInBounds_toArray, List.set_cons_zero, List.set_cons_succ]
                refine wpAnyH_take (i := 14) (oi := { dst := some 100, op := Go.Op.move (Go.Operand.tmp 7), type := 57, pos := "law.go:115", after := #[{ on := 12, ground := Go.Ground.guard }], guard := some (12, false) }) (v := ?_) rfl (by kernel_rfl) (by kernel_rfl) (by kernel_rfl) (fun _ _ _ h => h) (Or.inl ⟨by rfl, ?_⟩) (by assumption) ?_
                rotate_left
                · (intro w hSw; (try dsimp only at hSw); go_simp; (try (with_reducible rfl)))
                try simp only [Act.put, List.setIfInBounds_toArray, List.set_cons_zero, List.set_cons_succ]
                refine wpAnyH_take (i := 15) (oi := { dst := some 101, op := Go.Op.call { callee := Go.Callee.builtin Go.Builtin.len, args := #[Go.Operand.tmp 100], argTypes := #[57] }, type := 3, pos := "law.go:115", after := #[{ on := 14, ground := Go.Ground.data }, { on := 12, ground := Go.Ground.guard }], guard := some (12, false) }) (v := ?_) rfl (by kernel_rfl) (by kernel_rfl) (by kernel_rfl) (fun _ _ _ h => h) (Or.inl ⟨by rfl, ?_⟩) (by assumption) ?_
                rotate_left
                · (intro w hSw; (try dsimp only at hSw); go_simp; (try (with_reducible rfl)))
                try simp only [Act.put, List.setIfInBounds_toArray, List.set_cons_zero, List.set_cons_succ]
                refine wpAnyH_take (i := 16) (oi := { dst := some 102, op := Go.Op.binOp Go.BinOp.gtr 3 (Go.Operand.tmp 99) (Go.Operand.tmp 101) 3, type := 4, pos := "law.go:115", after := #[{ on := 13, ground := Go.Ground.data }, { on := 15, ground := Go.Ground.data }, { on := 12, ground := Go.Ground.guard }], guard := some (12, false) }) (v := ?_) rfl (by kernel_rfl) (by kernel_rfl) (by kernel_rfl) (fun _ _ _ h => h) (Or.inl ⟨by rfl, ?_⟩) (by assumption) ?_
                rotate_left
                · (intro w hSw; (try dsimp only at hSw); go_simp; (try (with_reducible rfl)))
                try simp only [Act.put, List.setIfInBounds_toArray, List.set_cons_zero, List.set_cons_succ]
                refine wpAnyH_take (i := 17) (oi := { dst := some 103, op := Go.Op.pick (Go.Operand.tmp 98) (Go.Operand.const (Go.Value.bool true)) (Go.Operand.tmp 102), type := 4, pos := "law.go:115", after := #[{ on := 12, ground := Go.Ground.data }, { on := 16, ground := Go.Ground.data }], guard := none }) (v := ?_) rfl (by kernel_rfl) (by kernel_rfl) (by kernel_rfl) (fun _ _ _ h => h) (Or.inl ⟨by rfl, ?_⟩) (by assumption) ?_
                rotate_left
                · (intro w hSw; (try dsimp only at hSw); go_simp; (try (with_reducible rfl)))
                try simp only [Act.put, List.setIfInBounds_toArray, List.set_cons_zero, List.set_cons_succ]
                refine wpAnyH_take (i := 18) (oi := { dst := some 104, op := Go.Op.move (Go.Operand.tmp 103), type := 4, pos := "law.go:115", after := #[{ on := 17, ground := Go.Ground.data }, { on := 12, ground := Go.Ground.chain }], guard := none }) (v := ?_) rfl (by kernel_rfl) (by kernel_rfl) (by kernel_rfl) (fun _ _ _ h => h) (Or.inl ⟨by rfl, ?_⟩) (by assumption) ?_
                rotate_left
                · (intro w hSw; (try dsimp only at hSw); go_simp; (try (with_reducible rfl)))
                try simp only [Act.put, List.setIfInBounds_toArray, List.set_cons_zero, List.set_cons_succ]
                refine wpAnyH_take (i := 19) (oi := { dst := some 105, op := Go.Op.move (Go.Operand.tmp 13), type := 76, pos := "law.go:115", after := #[{ on := 18, ground := Go.Ground.guard }], guard := some (18, false) }) (v := ?_) rfl (by kernel_rfl) (by kernel_rfl) (by kernel_rfl) (fun _ _ _ h => h) (Or.inl ⟨by rfl, ?_⟩) (by assumption) ?_
                rotate_left
                · (intro w hSw; (try dsimp only at hSw); go_simp; (try (with_reducible rfl)))
                try simp only [Act.put, List.setIfInBounds_toArray, List.set_cons_zero, List.set_cons_succ]
                refine wpAnyH_take (i := 22) (oi := { dst := some 108, op := Go.Op.move (Go.Operand.tmp 7), type := 57, pos := "law.go:115", after := #[{ on := 18, ground := Go.Ground.guard }], guard := some (18, false) }) (v := ?_) rfl (by kernel_rfl) (by kernel_rfl) (by kernel_rfl) (fun _ _ _ h => h) (Or.inl ⟨by rfl, ?_⟩) (by assumption) ?_
                rotate_left
                · (intro w hSw; (try dsimp only at hSw); go_simp; (try (with_reducible rfl)))
                try simp only [Act.put, List.setIfInBounds_toArray, List.set_cons_zero, List.set_cons_succ]
                refine wpAnyH_take (i := 23) (oi := { dst := some 109, op := Go.Op.move (Go.Operand.tmp 14), type := 3, pos := "law.go:115", after := #[{ on := 18, ground := Go.Ground.guard }], guard := some (18, false) }) (v := ?_) rfl (by kernel_rfl) (by kernel_rfl) (by kernel_rfl) (fun _ _ _ h => h) (Or.inl ⟨by rfl, ?_⟩) (by assumption) ?_
                rotate_left
                · (intro w hSw; (try dsimp only at hSw); go_simp; (try (with_reducible rfl)))
                try simp only [Act.put, List.setIfInBounds_toArray, List.set_cons_zero, List.set_cons_succ]
                refine wpAnyH_take (i := 24) (oi := { dst := some 110, op := Go.Op.slice 57 (Go.Operand.tmp 108) none (some (Go.Operand.tmp 109)) none, type := 57, pos := "law.go:115", after := #[{ on := 22, ground := Go.Ground.data }, { on := 23, ground := Go.Ground.data }, { on := 18, ground := Go.Ground.guard }], guard := some (18, false) }) (v := ?_) rfl (by kernel_rfl) (by kernel_rfl) (by kernel_rfl) (fun _ _ _ h => h) (Or.inl ⟨by rfl, ?_⟩) (by assumption) ?_
                rotate_left
                · (intro w hSw; (try dsimp only at hSw); go_simp; (try (with_reducible rfl)))
                try simp only [Act.put, List.setIfInBounds_toArray, List.set_cons_zero, List.set_cons_succ]
                refine wpAnyH_take (i := 25) (oi := { dst := some 111, op := Go.Op.convert 57 9 (Go.Operand.tmp 110), type := 9, pos := "law.go:115", after := #[{ on := 24, ground := Go.Ground.data }, { on := 18, ground := Go.Ground.guard }], guard := some (18, false) }) (v := ?_) rfl (by kernel_rfl) (by kernel_rfl) (by kernel_rfl) (fun _ _ _ h => h) (Or.inl ⟨by rfl, ?_⟩) (by assumption) ?_
                rotate_left
                · (intro w hSw; (try dsimp only at hSw); go_simp; (try (with_reducible rfl)))
                try simp only [Act.put, List.setIfInBounds_toArray, List.set_cons_zero, List.set_cons_succ]
                refine wpAnyH_ready (rs := [20]) (by kernel_rfl) (by simp) ?_
                refine AllReadyH.cons (o := { dst := some 106, op := Go.Op.call { callee := Go.Callee.value (Go.Operand.func 42), args := #[Go.Operand.tmp 105], argTypes := #[76] }, type := 57, pos := "law.go:115", after := #[{ on := 19, ground := Go.Ground.data }, { on := 18, ground := Go.Ground.chain }, { on := 18, ground := Go.Ground.guard }], guard := some (18, false) }) rfl (fun K hK => ?_) AllReadyH.nil
                go_simp
                refine (hBy.out _ h7).mono ?_
                rintro e w9 hq
                obtain ⟨v9, rfl, h9, en9⟩ := ResE.lift h7 hq
                obtain ⟨A9, n9, c9, rfl, _⟩ := h9.row_form
                have hc1 := conv_rw (P := Try.prog) (h9.row_rw (by decide)) 57 9 Try.underlying57 Try.underlying5 Try.underlying9
                have hc2 := hAl.out _ _ _ (h9.pick 2 (by simp))
                have qk9 := hends.out k hks.out _ _ _ (h9.pick 3 (by simp))
                rw [hm.out] at qk9
                refine hK.out _ _ ⟨qk9, hc2⟩ (fun hHeld2 => ?_)
                clear hK K hHeld hHeld2 hq
                refine wpAnyH_mono (S := fun w' => (convert 57 9 (.slice A9 n9 c9)).run Try.prog w' = .ok (.string (strOfNums T)) w' ∧ (w'.cell? ⟨eb, eo + k, none⟩ = some (.int .i64 m) ∧ (convert 57 9 (.slice (some ⟨g, off, none⟩) j c7)).run Try.prog w' = .ok (.string (strOfNums T)) w')) (fun _ h => h.2) _ _ _ _ ?_
                have hHeld : (fun w' : World => (convert 57 9 (.slice A9 n9 c9)).run Try.prog w' = .ok (.string (strOfNums T)) w' ∧ (w'.cell? ⟨eb, eo + k, none⟩ = some (.int .i64 m) ∧ (convert 57 9 (.slice (some ⟨g, off, none⟩) j c7)).run Try.prog w' = .ok (.string (strOfNums T)) w')) w9 := ⟨hc1, qk9, hc2⟩
                try simp only [Act.put, List.setIfInBounds_toArray, List.set_cons_zero, List.set_cons_succ]
                refine wpAnyH_take (i := 21) (oi := { dst := some 107, op := Go.Op.convert 57 9 (Go.Operand.tmp 106), type := 9, pos := "law.go:115", after := #[{ on := 20, ground := Go.Ground.data }, { on := 18, ground := Go.Ground.guard }], guard := some (18, false) }) (v := ?_) rfl (by kernel_rfl) (by kernel_rfl) (by kernel_rfl) (fun _ _ _ h => h) (Or.inl ⟨by rfl, ?_⟩) (by assumption) ?_
                rotate_left
                · (intro w hSw; (try dsimp only at hSw); go_simp; (try (with_reducible rfl)))
                try simp only [Act.put, List.setIfInBounds_toArray, List.set_cons_zero, List.set_cons_succ]
                refine wpAnyH_take (i := 26) (oi := { dst := some 112, op := Go.Op.binOp Go.BinOp.neq 9 (Go.Operand.tmp 107) (Go.Operand.tmp 111) 9, type := 4, pos := "law.go:115", after := #[{ on := 21, ground := Go.Ground.data }, { on := 25, ground := Go.Ground.data }, { on := 18, ground := Go.Ground.guard }], guard := some (18, false) }) (v := ?_) rfl (by kernel_rfl) (by kernel_rfl) (by kernel_rfl) (fun _ _ _ h => h) (Or.inl ⟨by rfl, ?_⟩) (by assumption) ?_
                rotate_left
                · (intro w hSw; (try dsimp only at hSw); go_simp; (try (with_reducible rfl)))
                try simp only [Act.put, List.setIfInBounds_toArray, List.set_cons_zero, List.set_cons_succ]
                refine wpAnyH_take (i := 27) (oi := { dst := some 113, op := Go.Op.pick (Go.Operand.tmp 104) (Go.Operand.const (Go.Value.bool true)) (Go.Operand.tmp 112), type := 4, pos := "law.go:115", after := #[{ on := 18, ground := Go.Ground.data }, { on := 26, ground := Go.Ground.data }], guard := none }) (v := ?_) rfl (by kernel_rfl) (by kernel_rfl) (by kernel_rfl) (fun _ _ _ h => h) (Or.inl ⟨by rfl, ?_⟩) (by assumption) ?_
                rotate_left
                · (intro w hSw; (try dsimp only at hSw); go_simp; (try (with_reducible rfl)))
                try simp only [Act.put, List.setIfInBounds_toArray, List.set_cons_zero, List.set_cons_succ]
                refine wpAnyH_take (i := 28) (oi := { dst := some 114, op := Go.Op.move (Go.Operand.tmp 113), type := 4, pos := "law.go:115", after := #[{ on := 27, ground := Go.Ground.data }, { on := 20, ground := Go.Ground.chain }], guard := none }) (v := ?_) rfl (by kernel_rfl) (by kernel_rfl) (by kernel_rfl) (fun _ _ _ h => h) (Or.inl ⟨by rfl, ?_⟩) (by assumption) ?_
                rotate_left
                · (intro w hSw; (try dsimp only at hSw); go_simp; (try (with_reducible rfl)))
                try simp only [Act.put, List.setIfInBounds_toArray, List.set_cons_zero, List.set_cons_succ]
                refine wpAnyH_take (i := 29) (oi := { dst := some 115, op := Go.Op.move (Go.Operand.tmp 15), type := 54, pos := "law.go:115", after := #[{ on := 28, ground := Go.Ground.guard }], guard := some (28, false) }) (v := ?_) rfl (by kernel_rfl) (by kernel_rfl) (by kernel_rfl) (fun _ _ _ h => h) (Or.inl ⟨by rfl, ?_⟩) (by assumption) ?_
                rotate_left
                · (intro w hSw; (try dsimp only at hSw); go_simp; (try (with_reducible rfl)))
                try simp only [Act.put, List.setIfInBounds_toArray, List.set_cons_zero, List.set_cons_succ]
                refine wpAnyH_take (i := 30) (oi := { dst := some 116, op := Go.Op.binOp Go.BinOp.eql 54 (Go.Operand.tmp 115) (Go.Operand.const (Go.Value.int Go.IntKind.i64 0)) 54, type := 4, pos := "law.go:115", after := #[{ on := 29, ground := Go.Ground.data }, { on := 28, ground := Go.Ground.guard }], guard := some (28, false) }) (v := ?_) rfl (by kernel_rfl) (by kernel_rfl) (by kernel_rfl) (fun _ _ _ h => h) (Or.inl ⟨by rfl, ?_⟩) (by assumption) ?_
                rotate_left
                · (intro w hSw; (try dsimp only at hSw); go_simp; (try (with_reducible rfl)))
                try simp only [Act.put, List.setIfInBounds_toArray, List.set_cons_zero, List.set_cons_succ]
                refine wpAnyH_take (i := 31) (oi := { dst := some 117, op := Go.Op.move (Go.Operand.tmp 14), type := 3, pos := "law.go:115", after := #[{ on := 28, ground := Go.Ground.guard }], guard := some (28, false) }) (v := ?_) rfl (by kernel_rfl) (by kernel_rfl) (by kernel_rfl) (fun _ _ _ h => h) (Or.inl ⟨by rfl, ?_⟩) (by assumption) ?_
                rotate_left
                · (intro w hSw; (try dsimp only at hSw); go_simp; (try (with_reducible rfl)))
                try simp only [Act.put, List.setIfInBounds_toArray, List.set_cons_zero, List.set_cons_succ]
                refine wpAnyH_take (i := 32) (oi := { dst := some 118, op := Go.Op.move (Go.Operand.tmp 7), type := 57, pos := "law.go:115", after := #[{ on := 28, ground := Go.Ground.guard }], guard := some (28, false) }) (v := ?_) rfl (by kernel_rfl) (by kernel_rfl) (by kernel_rfl) (fun _ _ _ h => h) (Or.inl ⟨by rfl, ?_⟩) (by assumption) ?_
                rotate_left
                · (intro w hSw; (try dsimp only at hSw); go_simp; (try (with_reducible rfl)))
                try simp only [Act.put, List.setIfInBounds_toArray, List.set_cons_zero, List.set_cons_succ]
                refine wpAnyH_take (i := 33) (oi := { dst := some 119, op := Go.Op.call { callee := Go.Callee.builtin Go.Builtin.len, args := #[Go.Operand.tmp 118], argTypes := #[57] }, type := 3, pos := "law.go:115", after := #[{ on := 32, ground := Go.Ground.data }, { on := 28, ground := Go.Ground.guard }], guard := some (28, false) }) (v := ?_) rfl (by kernel_rfl) (by kernel_rfl) (by kernel_rfl) (fun _ _ _ h => h) (Or.inl ⟨by rfl, ?_⟩) (by assumption) ?_
                rotate_left
                · (intro w hSw; (try dsimp only at hSw); go_simp; (try (with_reducible rfl)))
                try simp only [Act.put, List.setIfInBounds_toArray, List.set_cons_zero, List.set_cons_succ]
                refine wpAnyH_take (i := 34) (oi := { dst := some 120, op := Go.Op.binOp Go.BinOp.eql 3 (Go.Operand.tmp 117) (Go.Operand.tmp 119) 3, type := 4, pos := "law.go:115", after := #[{ on := 31, ground := Go.Ground.data }, { on := 33, ground := Go.Ground.data }, { on := 28, ground := Go.Ground.guard }], guard := some (28, false) }) (v := ?_) rfl (by kernel_rfl) (by kernel_rfl) (by kernel_rfl) (fun _ _ _ h => h) (Or.inl ⟨by rfl, ?_⟩) (by assumption) ?_
                rotate_left
                · (intro w hSw; (try dsimp only at hSw); go_simp; (try (with_reducible rfl)))
                try simp only [Act.put, List.setIfInBounds_toArray, List.set_cons_zero, List.set_cons_succ]
                refine wpAnyH_take (i := 35) (oi := { dst := some 121, op := Go.Op.binOp Go.BinOp.neq 4 (Go.Operand.tmp 116) (Go.Operand.tmp 120) 4, type := 4, pos := "law.go:115", after := #[{ on := 30, ground := Go.Ground.data }, { on := 34, ground := Go.Ground.data }, { on := 28, ground := Go.Ground.guard }], guard := some (28, false) }) (v := ?_) rfl (by kernel_rfl) (by kernel_rfl) (by kernel_rfl) (fun _ _ _ h => h) (Or.inl ⟨by rfl, ?_⟩) (by assumption) ?_
                rotate_left
                · (intro w hSw; (try dsimp only at hSw); go_simp; (try (with_reducible rfl)))
                try simp only [Act.put, List.setIfInBounds_toArray, List.set_cons_zero, List.set_cons_succ]
                refine wpAnyH_take (i := 36) (oi := { dst := some 122, op := Go.Op.pick (Go.Operand.tmp 114) (Go.Operand.const (Go.Value.bool true)) (Go.Operand.tmp 121), type := 4, pos := "law.go:115", after := #[{ on := 28, ground := Go.Ground.data }, { on := 35, ground := Go.Ground.data }], guard := none }) (v := ?_) rfl (by kernel_rfl) (by kernel_rfl) (by kernel_rfl) (fun _ _ _ h => h) (Or.inl ⟨by rfl, ?_⟩) (by assumption) ?_
                rotate_left
                · (intro w hSw; (try dsimp only at hSw); go_simp; (try (with_reducible rfl)))
                try simp only [Act.put, List.setIfInBounds_toArray, List.set_cons_zero, List.set_cons_succ]
                refine wpAnyH_done (by kernel_rfl) ?_ _
                have h10 := (h9.weaken m6).weaken m1
                have en10 := en6.drew.trans en9
                clear h9 h7 h6 hc1 hc2 hc0 qk9 qk hJL
                by_cases hb0 : by' = 0
                · have hbb : bb = true := by
                    cases bb
                    · exact absurd hb0 (bF.out rfl)
                    · rfl
                  subst hbb
                  subst hb0
                  go_wp2_with fail
                  refine (works42 _).mono ?_
                  rintro e wz ⟨rfl, hbz⟩
                  go_wp2_with fail
                  go_ret
                  exact ⟨rfl, (h10.below hbz).toBelow (en10.trans (bel_env hbz))⟩
                · have hbn : ((by' : Int) != 0) = true := by rw [bne_iff_ne]; omega
                  replace hb0 := Lib.hid hb0
                  go_wp2_with fail
                  refine (works42 _).mono ?_
                  rintro e wz ⟨rfl, hbz⟩
                  go_wp2_with fail
                  go_ret
                  exact ⟨rfl, (h10.below hbz).toBelow (en10.trans (bel_env hbz))⟩
            · have h1I : ¬ (k : Int) + 1 < (n8 : Int) := by omega
              go_wp2_with (at_builtin; refine wpList_append rfl (.tmp 79) (.tmp 80) 57 57 rfl Try.underlying57 (.inl ⟨_, Try.underlying57⟩) (.int .u8 0) 1 wU8 rfl (by decide) (by decide) rfl rfl (h3.row_lit 5 1 0 #[] rfl (by decide)) (News.rw ((h3.row_rw (by decide)).alloc _) (u8s_one Z)) ?apB4 ?apK4)
              try case apB4 => first | omega | (simp; omega) | (simp [u8s_len]; omega) | skip
              intro v4 w4 h4 en4
              obtain ⟨H1, m1, h5, r5⟩ := h4.row_keep
              obtain ⟨A5, n5, c5, rfl, _⟩ := r5.form
              have en5 := (en2.alloc (.cells #[] 5)).trans en4
              clear h4 en4
              go_wp2_with fail
              refine (load_any A5 n5 c5 Z hZb hZl H1 _ w4 h5 r5).mono ?_
              rintro e w6 ⟨p, l6, j, e6, H6, rfl, m6, h6, en6, hg6, ld⟩
              replace en6 := en5.trans en6
              clear h5 r5 en5
              obtain ⟨f1, f2, f3, f4, f5⟩ := hZf k l6 j e6 hk hkP ld
              have hl6 : l6.length ≤ 65536 := by have := (flatJ_len hg6.good).1; have h2 := ld.split.2; have h3 := ld.le; rw [ents_len] at this; omega
              have qk := hends.out k hk _ _ _ (h6.pick 2 (by simp))
              have ql := World.block_lt_of_cell? _ _ qk
              have hkI : (k : Int) < (n8 : Int) := by have := hn8.out; omega
              have hk0 : (0 : Int) ≤ (k : Int) := by omega
              have b1 : ¬ (j : Int) < (((flat (L.take k)).length : Nat) : Int) := by omega
              have b2 : ¬ (l6.length : Int) < (k : Int) := by omega
              have b3 : ¬ (n7 : Int) < (j : Int) := by rw [← hn7.out]; omega
              have b4 : (j : Int) ≤ (c7 : Int) := by rw [← hn7.out] at hnc7; omega
              have hjn : j ≤ n7 := by rw [← hn7.out]; omega
              have hBy := fun w h => jBytes p l6 H6 hg6 hl6 [Row 5 1 (.slice (some ⟨g, off, none⟩) n7 c7) (u8s Z), Row 3 1 (.slice (some ⟨eb, eo, none⟩) n8 c8) (endsV L)] w h
              rw [f4] at hBy
              have hAl : ∀ (H : Hp) (l : List HA) (w : World), St H (Row 5 1 (.slice (some ⟨g, off, none⟩) n7 c7) (u8s Z) :: l) w → (convert 57 9 (.slice (some ⟨g, off, none⟩) j c7)).run Try.prog w = .ok (.string (strOfNums (Z.take j))) w := fun H l w h => by
                have hr := (h.row_rw (by decide)).upto j hjn
                rw [Nat.mul_one, u8s_take] at hr
                exact conv_rw hr 57 9 Try.underlying57 Try.underlying5 Try.underlying9
              have h7 := h6.drew
              have hc0 := hAl _ _ _ (h7.pick 1 (by simp))
              have hJL := jLen p l6 H6 _ _ h7
              replace hBy := Lib.hid hBy
              replace hAl := Lib.hid hAl
              generalize Z.take j = T at *
              have hks : Hid (k ≤ L.length) := Lib.hid hk
              generalize hm : (((flat (L.take k)).length : Nat) : Int) = m at *
              clear f1 f2 f3 f4 hk hkP
              have d1 : decide ((j : Int) < m) = false := decide_eq_false b1
              have d2 : decide (l6.length < k) = false := decide_eq_false (by omega)
              have d2' : decide ((l6.length : Int) < (k : Int)) = false := decide_eq_false (by omega)
              have d3 : decide (n7 < j) = false := decide_eq_false (by omega)
              have d3' : decide ((n7 : Int) < (j : Int)) = false := decide_eq_false (by omega)
              obtain ⟨bb, bE, bN, bF⟩ : ∃ bb : Bool, (e6 == 0) = bb ∧ ((j : Int) == (n7 : Int)) = bb ∧ (bb = false → by' ≠ 0) := by
                rcases f5 with ⟨rfl, hj⟩ | ⟨g1, g2, g3⟩
                · exact ⟨true, rfl, beq_iff_eq.2 (by rw [← hn7.out]; omega), fun h => by cases h⟩
                · exact ⟨false, beq_eq_false_iff_ne.2 g1, beq_eq_false_iff_ne.2 (by rw [← hn7.out]; omega), fun _ => g3⟩
              replace bF := Lib.hid bF
              clear f5
              replace hm := Lib.hid hm
              go_wp2_with fail
              refine wp_region_held_drew (S := (fun w' => w'.cell? ⟨eb, eo + k, none⟩ = some (.int .i64 m) ∧ (convert 57 9 (.slice (some ⟨g, off, none⟩) j c7)).run Try.prog w' = .ok (.string (strOfNums T)) w')) (by kernel_rfl) ⟨qk, hc0⟩ (fun hHeld => ?_)
              refine wpAnyH_take (i := 0) (oi := { dst := some 86, op := Go.Op.move (Go.Operand.tmp 14), type := 3, pos := "law.go:115", after := #[], guard := none }) (v := ?_) rfl (by kernel_rfl) (by kernel_rfl) (by kernel_rfl) (fun _ _ _ h => h) (Or.inl ⟨by rfl, ?_⟩) (by assumption) ?_
              rotate_left
              · (intro w hSw; (try dsimp only at hSw); go_simp; (try (with_reducible rfl)))
              try simp only [Act.put, List.setIfInBounds_toArray, List.set_cons_zero, List.set_cons_succ]
              refine wpAnyH_take (i := 1) (oi := { dst := some 87, op := Go.Op.move (Go.Operand.tmp 8), type := 26, pos := "law.go:115", after := #[], guard := none }) (v := ?_) rfl (by kernel_rfl) (by kernel_rfl) (by kernel_rfl) (fun _ _ _ h => h) (Or.inl ⟨by rfl, ?_⟩) (by assumption) ?_
              rotate_left
              · (intro w hSw; (try dsimp only at hSw); go_simp; (try (with_reducible rfl)))
              try simp only [Act.put, List.setIfInBounds_toArray, List.set_cons_zero, List.set_cons_succ]
              refine wpAnyH_take (i := 2) (oi := { dst := some 88, op := Go.Op.move (Go.Operand.tmp 12), type := 3, pos := "law.go:115", after := #[], guard := none }) (v := ?_) rfl (by kernel_rfl) (by kernel_rfl) (by kernel_rfl) (fun _ _ _ h => h) (Or.inl ⟨by rfl, ?_⟩) (by assumption) ?_
              rotate_left
              · (intro w hSw; (try dsimp only at hSw); go_simp; (try (with_reducible rfl)))
              try simp only [Act.put, List.setIfInBounds_toArray, List.set_cons_zero, List.set_cons_succ]
              refine wpAnyH_take (i := 3) (oi := { dst := some 89, op := Go.Op.indexAddr 26 (Go.Operand.tmp 87) (Go.Operand.tmp 88), type := 0, pos := "law.go:115", after := #[{ on := 1, ground := Go.Ground.data }, { on := 2, ground := Go.Ground.data }], guard := none }) (v := ?_) rfl (by kernel_rfl) (by kernel_rfl) (by kernel_rfl) (fun _ _ _ h => h) (Or.inl ⟨by rfl, ?_⟩) (by assumption) ?_
              rotate_left
              · (intro w hSw; (try dsimp only at hSw); go_simp; (try (with_reducible rfl)))
              try simp only [Act.put, List.setIfInBounds_toArray, List.set_cons_zero, List.set_cons_succ]
              refine wpAnyH_take (i := 4) (oi := { dst := some 90, op := Go.Op.load 3 (Go.Operand.tmp 89), type := 3, pos := "law.go:115", after := #[{ on := 3, ground := Go.Ground.data }], guard := none }) (v := ?_) rfl (by kernel_rfl) (by kernel_rfl) (by kernel_rfl) (fun _ _ _ h => h) (Or.inl ⟨by rfl, ?_⟩) (by assumption) ?_
              rotate_left
              · (intro w hSw; (try dsimp only at hSw); go_simp; (try (with_reducible rfl)))
              try simp only [Act.put, List.setIfInBounds_toArray, List.set_cons_zero, List.set_cons_succ]
              refine wpAnyH_take (i := 5) (oi := { dst := some 91, op := Go.Op.binOp Go.BinOp.lss 3 (Go.Operand.tmp 86) (Go.Operand.tmp 90) 3, type := 4, pos := "law.go:115", after := #[{ on := 0, ground := Go.Ground.data }, { on := 4, ground := Go.Ground.data }], guard := none }) (v := ?_) rfl (by kernel_rfl) (by kernel_rfl) (by kernel_rfl) (fun _ _ _ h => h) (Or.inl ⟨by rfl, ?_⟩) (by assumption) ?_
              rotate_left
              · (intro w hSw; (try dsimp only at hSw); go_simp; (try (with_reducible rfl)))
              try simp only [Act.put, List.setIfInBounds_toArray, List.set_cons_zero, List.set_cons_succ]
              refine wpAnyH_take (i := 6) (oi := { dst := some 92, op := Go.Op.move (Go.Operand.tmp 91), type := 4, pos := "law.go:115", after := #[{ on := 5, ground := Go.Ground.data }], guard := none }) (v := ?_) rfl (by kernel_rfl) (by kernel_rfl) (by kernel_rfl) (fun _ _ _ h => h) (Or.inl ⟨by rfl, ?_⟩) (by assumption) ?_
              rotate_left
              · (intro w hSw; (try dsimp only at hSw); go_simp; (try (with_reducible rfl)))
              try simp only [Act.put, List.setIfInBounds_toArray, List.set_cons_zero, List.set_cons_succ]
              refine wpAnyH_take (i := 7) (oi := { dst := some 93, op := Go.Op.move (Go.Operand.tmp 13), type := 76, pos := "law.go:115", after := #[{ on := 6, ground := Go.Ground.guard }], guard := some (6, false) }) (v := ?_) rfl (by kernel_rfl) (by kernel_rfl) (by kernel_rfl) (fun _ _ _ h => h) (Or.inl ⟨by rfl, ?_⟩) (by assumption) ?_
              rotate_left
              · (intro w hSw; (try dsimp only at hSw); go_simp; (try (with_reducible rfl)))
              try simp only [Act.put, List.setIfInBounds_toArray, List.set_cons_zero, List.set_cons_succ]
              refine wpAnyH_take (i := 9) (oi := { dst := some 95, op := Go.Op.move (Go.Operand.tmp 12), type := 3, pos := "law.go:115", after := #[{ on := 6, ground := Go.Ground.guard }], guard := some (6, false) }) (v := ?_) rfl (by kernel_rfl) (by kernel_rfl) (by kernel_rfl) (fun _ _ _ h => h) (Or.inl ⟨by rfl, ?_⟩) (by assumption) ?_
              rotate_left
              · (intro w hSw; (try dsimp only at hSw); go_simp; (try (with_reducible rfl)))
              try simp only [Act.put, List.setIfInBounds_toArray, List.set_cons_zero, List.set_cons_succ]
              refine wpAnyH_ready (rs := [8]) (by kernel_rfl) (by simp) ?_
              refine AllReadyH.cons (o := { dst := some 94, op := Go.Op.call { callee := Go.Callee.value (Go.Operand.func 41), args := #[Go.Operand.tmp 93], argTypes := #[76] }, type := 3, pos := "law.go:115", after := #[{ on := 7, ground := Go.Ground.data }, { on := 6, ground := Go.Ground.chain }, { on := 6, ground := Go.Ground.guard }], guard := some (6, false) }) rfl (fun K hK => ?_) AllReadyH.nil
              go_simp
              refine hJL.mono ?_
              rintro e w9 ⟨rfl, rfl⟩
              refine hK.out _ _ ⟨qk, hc0⟩ (fun hHeld2 => ?_)
              clear hK K hHeld2
              try simp only [Act.put, List.setIfInBounds_toArray, List.set_cons_zero, List.set_cons_succ]
              refine wpAnyH_take (i := 10) (oi := { dst := some 96, op := Go.Op.binOp Go.BinOp.lss 3 (Go.Operand.tmp 94) (Go.Operand.tmp 95) 3, type := 4, pos := "law.go:115", after := #[{ on := 8, ground := Go.Ground.data }, { on := 9, ground := Go.Ground.data }, { on := 6, ground := Go.Ground.guard }], guard := some (6, false) }) (v := ?_) rfl (by kernel_rfl) (by kernel_rfl) (by kernel_rfl) (fun _ _ _ h => h) (Or.inl ⟨by rfl, ?_⟩) (by assumption) ?_
              rotate_left
              · (intro w hSw; (try dsimp only at hSw); go_simp; (try (with_reducible rfl)))
              try simp only [Act.put, List.setIfInBounds_toArray, List.set_cons_zero, List.set_cons_succ]
              refine wpAnyH_take (i := 11) (oi := { dst := some 97, op := Go.Op.pick (Go.Operand.tmp 92) (Go.Operand.const (Go.Value.bool true)) (Go.Operand.tmp 96), type := 4, pos := "law.go:115", after := #[{ on := 6, ground := Go.Ground.data }, { on := 10, ground := Go.Ground.data }], guard := none }) (v := ?_) rfl (by kernel_rfl) (by kernel_rfl) (by kernel_rfl) (fun _ _ _ h => h) (Or.inl ⟨by rfl, ?_⟩) (by assumption) ?_
              rotate_left
              · (intro w hSw; (try dsimp only at hSw); go_simp; (try (with_reducible rfl)))
              try simp only [Act.put, List.setIfInBounds_toArray, List.set_cons_zero, List.set_cons_succ]
              refine wpAnyH_take (i := 12) (oi := { dst := some 98, op := Go.Op.move (Go.Operand.tmp 97), type := 4, pos := "law.go:115", after := #[{ on := 11, ground := Go.Ground.data }, { on := 8, ground := Go.Ground.chain }], guard := none }) (v := ?_) rfl (by kernel_rfl) (by kernel_rfl) (by kernel_rfl) (fun _ _ _ h => h) (Or.inl ⟨by rfl, ?_⟩) (by assumption) ?_
              rotate_left
              · (intro w hSw; (try dsimp only at hSw); go_simp; (try (with_reducible rfl)))
              try simp only [Act.put, List.setIfInBounds_toArray, List.set_cons_zero, List.set_cons_succ]
              refine wpAnyH_take (i := 13) (oi := { dst := some 99, op := Go.Op.move (Go.Operand.tmp 14), type := 3, pos := "law.go:115", after := #[{ on := 12, ground := Go.Ground.guard }], guard := some (12, false) }) (v := ?_) rfl (by kernel_rfl) (by kernel_rfl) (by kernel_rfl) (fun _ _ _ h => h) (Or.inl ⟨by rfl, ?_⟩) (by assumption) ?_
              rotate_left
              · (intro w hSw; (try dsimp only at hSw); go_simp; (try (with_reducible rfl)))
              try simp only [Act.put, List.setIfInBounds_toArray, List.set_cons_zero, List.set_cons_succ]
              refine wpAnyH_take (i := 14) (oi := { dst := some 100, op := Go.Op.move (Go.Operand.tmp 7), type := 57, pos := "law.go:115", after := #[{ on := 12, ground := Go.Ground.guard }], guard := some (12, false) }) (v := ?_) rfl (by kernel_rfl) (by kernel_rfl) (by kernel_rfl) (fun _ _ _ h => h) (Or.inl ⟨by rfl, ?_⟩) (by assumption) ?_
              rotate_left
              · (intro w hSw; (try dsimp only at hSw); go_simp; (try (with_reducible rfl)))
              try simp only [Act.put, List.setIfInBounds_toArray, List.set_cons_zero, List.set_cons_succ]
              refine wpAnyH_take (i := 15) (oi := { dst := some 101, op := Go.Op.call { callee := Go.Callee.builtin Go.Builtin.len, args := #[Go.Operand.tmp 100], argTypes := #[57] }, type := 3, pos := "law.go:115", after := #[{ on := 14, ground := Go.Ground.data }, { on := 12, ground := Go.Ground.guard }], guard := some (12, false) }) (v := ?_) rfl (by kernel_rfl) (by kernel_rfl) (by kernel_rfl) (fun _ _ _ h => h) (Or.inl ⟨by rfl, ?_⟩) (by assumption) ?_
              rotate_left
              · (intro w hSw; (try dsimp only at hSw); go_simp; (try (with_reducible rfl)))
              try simp only [Act.put, List.setIfInBounds_toArray, List.set_cons_zero, List.set_cons_succ]
              refine wpAnyH_take (i := 16) (oi := { dst := some 102, op := Go.Op.binOp Go.BinOp.gtr 3 (Go.Operand.tmp 99) (Go.Operand.tmp 101) 3, type := 4, pos := "law.go:115", after := #[{ on := 13, ground := Go.Ground.data }, { on := 15, ground := Go.Ground.data }, { on := 12, ground := Go.Ground.guard }], guard := some (12, false) }) (v := ?_) rfl (by kernel_rfl) (by kernel_rfl) (by kernel_rfl) (fun _ _ _ h => h) (Or.inl ⟨by rfl, ?_⟩) (by assumption) ?_
              rotate_left
              · (intro w hSw; (try dsimp only at hSw); go_simp; (try (with_reducible rfl)))
              try simp only [Act.put, List.setIfInBounds_toArray, List.set_cons_zero, List.set_cons_succ]
              refine wpAnyH_take (i := 17) (oi := { dst := some 103, op := Go.Op.pick (Go.Operand.tmp 98) (Go.Operand.const (Go.Value.bool true)) (Go.Operand.tmp 102), type := 4, pos := "law.go:115", after := #[{ on := 12, ground := Go.Ground.data }, { on := 16, ground := Go.Ground.data }], guard := none }) (v := ?_) rfl (by kernel_rfl) (by kernel_rfl) (by kernel_rfl) (fun _ _ _ h => h) (Or.inl ⟨by rfl, ?_⟩) (by assumption) ?_
              rotate_left
              · (intro w hSw; (try dsimp only at hSw); go_simp; (try (with_reducible rfl)))
              try simp only [Act.put, List.setIfInBounds_toArray, List.set_cons_zero, List.set_cons_succ]
              refine wpAnyH_take (i := 18) (oi := { dst := some 104, op := Go.Op.move (Go.Operand.tmp 103), type := 4, pos := "law.go:115", after := #[{ on := 17, ground := Go.Ground.data }, { on := 12, ground := Go.Ground.chain }], guard := none }) (v := ?_) rfl (by kernel_rfl) (by kernel_rfl) (by kernel_rfl) (fun _ _ _ h => h) (Or.inl ⟨by rfl, ?_⟩) (by assumption) ?_
              rotate_left
              · (intro w hSw; (try dsimp only at hSw); go_simp; (try (with_reducible rfl)))
              try simp only [Act.put, List.setIfInBounds_toArray, List.set_cons_zero, List.set_cons_succ]
              refine wpAnyH_take (i := 19) (oi := { dst := some 105, op := Go.Op.move (Go.Operand.tmp 13), type := 76, pos := "law.go:115", after := #[{ on := 18, ground := Go.Ground.guard }], guard := some (18, false) }) (v := ?_) rfl (by kernel_rfl) (by kernel_rfl) (by kernel_rfl) (fun _ _ _ h => h) (Or.inl ⟨by rfl, ?_⟩) (by assumption) ?_
              rotate_left
              · (intro w hSw; (try dsimp only at hSw); go_simp; (try (with_reducible rfl)))
              try simp only [Act.put, List.setIfInBounds_toArray, List.set_cons_zero, List.set_cons_succ]
              refine wpAnyH_take (i := 22) (oi := { dst := some 108, op := Go.Op.move (Go.Operand.tmp 7), type := 57, pos := "law.go:115", after := #[{ on := 18, ground := Go.Ground.guard }], guard := some (18, false) }) (v := ?_) rfl (by kernel_rfl) (by kernel_rfl) (by kernel_rfl) (fun _ _ _ h => h) (Or.inl ⟨by rfl, ?_⟩) (by assumption) ?_
              rotate_left
              · (intro w hSw; (try dsimp only at hSw); go_simp; (try (with_reducible rfl)))
              try simp only [Act.put, List.setIfInBounds_toArray, List.set_cons_zero, List.set_cons_succ]
              refine wpAnyH_take (i := 23) (oi := { dst := some 109, op := Go.Op.move (Go.Operand.tmp 14), type := 3, pos := "law.go:115", after := #[{ on := 18, ground := Go.Ground.guard }], guard := some (18, false) }) (v := ?_) rfl (by kernel_rfl) (by kernel_rfl) (by kernel_rfl) (fun _ _ _ h => h) (Or.inl ⟨by rfl, ?_⟩) (by assumption) ?_
              rotate_left
              · (intro w hSw; (try dsimp only at hSw); go_simp; (try (with_reducible rfl)))
              try simp only [Act.put, List.setIfInBounds_toArray, List.set_cons_zero, List.set_cons_succ]
              refine wpAnyH_take (i := 24) (oi := { dst := some 110, op := Go.Op.slice 57 (Go.Operand.tmp 108) none (some (Go.Operand.tmp 109)) none, type := 57, pos := "law.go:115", after := #[{ on := 22, ground := Go.Ground.data }, { on := 23, ground := Go.Ground.data }, { on := 18, ground := Go.Ground.guard }], guard := some (18, false) }) (v := ?_) rfl (by kernel_rfl) (by kernel_rfl) (by kernel_rfl) (fun _ _ _ h => h) (Or.inl ⟨by rfl, ?_⟩) (by assumption) ?_
              rotate_left
              · (intro w hSw; (try dsimp only at hSw); go_simp; (try (with_reducible rfl)))
              try simp only [Act.put, List.setIfInBounds_toArray, List.set_cons_zero, List.set_cons_succ]
              refine wpAnyH_take (i := 25) (oi := { dst := some 111, op := Go.Op.convert 57 9 (Go.Operand.tmp 110), type := 9, pos := "law.go:115", after := #[{ on := 24, ground := Go.Ground.data }, { on := 18, ground := Go.Ground.guard }], guard := some (18, false) }) (v := ?_) rfl (by kernel_rfl) (by kernel_rfl) (by kernel_rfl) (fun _ _ _ h => h) (Or.inl ⟨by rfl, ?_⟩) (by assumption) ?_
              rotate_left
              · (intro w hSw; (try dsimp only at hSw); go_simp; (try (with_reducible rfl)))
              try simp only [Act.put, List.setIfInBounds_toArray, List.set_cons_zero, List.set_cons_succ]
              refine wpAnyH_ready (rs := [20]) (by kernel_rfl) (by simp) ?_
              refine AllReadyH.cons (o := { dst := some 106, op := Go.Op.call { callee := Go.Callee.value (Go.Operand.func 42), args := #[Go.Operand.tmp 105], argTypes := #[76] }, type := 57, pos := "law.go:115", after := #[{ on := 19, ground := Go.Ground.data }, { on := 18, ground := Go.Ground.chain }, { on := 18, ground := Go.Ground.guard }], guard := some (18, false) }) rfl (fun K hK => ?_) AllReadyH.nil
              go_simp
              refine (hBy.out _ h7).mono ?_
              rintro e w9 hq
              obtain ⟨v9, rfl, h9, en9⟩ := ResE.lift h7 hq
              obtain ⟨A9, n9, c9, rfl, _⟩ := h9.row_form
              have hc1 := conv_rw (P := Try.prog) (h9.row_rw (by decide)) 57 9 Try.underlying57 Try.underlying5 Try.underlying9
              have hc2 := hAl.out _ _ _ (h9.pick 2 (by simp))
              have qk9 := hends.out k hks.out _ _ _ (h9.pick 3 (by simp))
              rw [hm.out] at qk9
              refine hK.out _ _ ⟨qk9, hc2⟩ (fun hHeld2 => ?_)
              clear hK K hHeld hHeld2 hq
              refine wpAnyH_mono (S := fun w' => (convert 57 9 (.slice A9 n9 c9)).run Try.prog w' = .ok (.string (strOfNums T)) w' ∧ (w'.cell? ⟨eb, eo + k, none⟩ = some (.int .i64 m) ∧ (convert 57 9 (.slice (some ⟨g, off, none⟩) j c7)).run Try.prog w' = .ok (.string (strOfNums T)) w')) (fun _ h => h.2) _ _ _ _ ?_
              have hHeld : (fun w' : World => (convert 57 9 (.slice A9 n9 c9)).run Try.prog w' = .ok (.string (strOfNums T)) w' ∧ (w'.cell? ⟨eb, eo + k, none⟩ = some (.int .i64 m) ∧ (convert 57 9 (.slice (some ⟨g, off, none⟩) j c7)).run Try.prog w' = .ok (.string (strOfNums T)) w')) w9 := ⟨hc1, qk9, hc2⟩
              try simp only [Act.put, List.setIfInBounds_toArray, List.set_cons_zero, List.set_cons_succ]
              refine wpAnyH_take (i := 21) (oi := { dst := some 107, op := Go.Op.convert 57 9 (Go.Operand.tmp 106), type := 9, pos := "law.go:115", after := #[{ on := 20, ground := Go.Ground.data }, { on := 18, ground := Go.Ground.guard }], guard := some (18, false) }) (v := ?_) rfl (by kernel_rfl) (by kernel_rfl) (by kernel_rfl) (fun _ _ _ h => h) (Or.inl ⟨by rfl, ?_⟩) (by assumption) ?_
              rotate_left
              · (intro w hSw; (try dsimp only at hSw); go_simp; (try (with_reducible rfl)))
              try simp only [Act.put, List.setIfInBounds_toArray, List.set_cons_zero, List.set_cons_succ]
              refine wpAnyH_take (i := 26) (oi := { dst := some 112, op := Go.Op.binOp Go.BinOp.neq 9 (Go.Operand.tmp 107) (Go.Operand.tmp 111) 9, type := 4, pos := "law.go:115", after := #[{ on := 21, ground := Go.Ground.data }, { on := 25, ground := Go.Ground.data }, { on := 18, ground := Go.Ground.guard }], guard := some (18, false) }) (v := ?_) rfl (by kernel_rfl) (by kernel_rfl) (by kernel_rfl) (fun _ _ _ h => h) (Or.inl ⟨by rfl, ?_⟩) (by assumption) ?_
              rotate_left
              · (intro w hSw; (try dsimp only at hSw); go_simp; (try (with_reducible rfl)))
              try simp only [Act.put, List.setIfInBounds_toArray, List.set_cons_zero, List.set_cons_succ]
              refine wpAnyH_take (i := 27) (oi := { dst := some 113, op := Go.Op.pick (Go.Operand.tmp 104) (Go.Operand.const (Go.Value.bool true)) (Go.Operand.tmp 112), type := 4, pos := "law.go:115", after := #[{ on := 18, ground := Go.Ground.data }, { on := 26, ground := Go.Ground.data }], guard := none }) (v := ?_) rfl (by kernel_rfl) (by kernel_rfl) (by kernel_rfl) (fun _ _ _ h => h) (Or.inl ⟨by rfl, ?_⟩) (by assumption) ?_
              rotate_left
              · (intro w hSw; (try dsimp only at hSw); go_simp; (try (with_reducible rfl)))
              try simp only [Act.put, List.setIfInBounds_toArray, List.set_cons_zero, List.set_cons_succ]
              refine wpAnyH_take (i := 28) (oi := { dst := some 114, op := Go.Op.move (Go.Operand.tmp 113), type := 4, pos := "law.go:115", after := #[{ on := 27, ground := Go.Ground.data }, { on := 20, ground := Go.Ground.chain }], guard := none }) (v := ?_) rfl (by kernel_rfl) (by kernel_rfl) (by kernel_rfl) (fun _ _ _ h => h) (Or.inl ⟨by rfl, ?_⟩) (by assumption) ?_
              rotate_left
              · (intro w hSw; (try dsimp only at hSw); go_simp; (try (with_reducible rfl)))
              try simp only [Act.put, List.setIfInBounds_toArray, List.set_cons_zero, List.set_cons_succ]
              refine wpAnyH_take (i := 29) (oi := { dst := some 115, op := Go.Op.move (Go.Operand.tmp 15), type := 54, pos := "law.go:115", after := #[{ on := 28, ground := Go.Ground.guard }], guard := some (28, false) }) (v := ?_) rfl (by kernel_rfl) (by kernel_rfl) (by kernel_rfl) (fun _ _ _ h => h) (Or.inl ⟨by rfl, ?_⟩) (by assumption) ?_
              rotate_left
              · (intro w hSw; (try dsimp only at hSw); go_simp; (try (with_reducible rfl)))
              try simp only [Act.put, List.setIfInBounds_toArray, List.set_cons_zero, List.set_cons_succ]
              refine wpAnyH_take (i := 30) (oi := { dst := some 116, op := Go.Op.binOp Go.BinOp.eql 54 (Go.Operand.tmp 115) (Go.Operand.const (Go.Value.int Go.IntKind.i64 0)) 54, type := 4, pos := "law.go:115", after := #[{ on := 29, ground := Go.Ground.data }, { on := 28, ground := Go.Ground.guard }], guard := some (28, false) }) (v := ?_) rfl (by kernel_rfl) (by kernel_rfl) (by kernel_rfl) (fun _ _ _ h => h) (Or.inl ⟨by rfl, ?_⟩) (by assumption) ?_
              rotate_left
              · (intro w hSw; (try dsimp only at hSw); go_simp; (try (with_reducible rfl)))
              try simp only [Act.put, List.setIfInBounds_toArray, List.set_cons_zero, List.set_cons_succ]
              refine wpAnyH_take (i := 31) (oi := { dst := some 117, op := Go.Op.move (Go.Operand.tmp 14), type := 3, pos := "law.go:115", after := #[{ on := 28, ground := Go.Ground.guard }], guard := some (28, false) }) (v := ?_) rfl (by kernel_rfl) (by kernel_rfl) (by kernel_rfl) (fun _ _ _ h => h) (Or.inl ⟨by rfl, ?_⟩) (by assumption) ?_
              rotate_left
              · (intro w hSw; (try dsimp only at hSw); go_simp; (try (with_reducible rfl)))
              try simp only [Act.put, List.setIfInBounds_toArray, List.set_cons_zero, List.set_cons_succ]
              refine wpAnyH_take (i := 32) (oi := { dst := some 118, op := Go.Op.move (Go.Operand.tmp 7), type := 57, pos := "law.go:115", after := #[{ on := 28, ground := Go.Ground.guard }], guard := some (28, false) }) (v := ?_) rfl (by kernel_rfl) (by kernel_rfl) (by kernel_rfl) (fun _ _ _ h => h) (Or.inl ⟨by rfl, ?_⟩) (by assumption) ?_
              rotate_left
              · (intro w hSw; (try dsimp only at hSw); go_simp; (try (with_reducible rfl)))
              try simp only [Act.put, List.setIfInBounds_toArray, List.set_cons_zero, List.set_cons_succ]
              refine wpAnyH_take (i := 33) (oi := { dst := some 119, op := Go.Op.call { callee := Go.Callee.builtin Go.Builtin.len, args := #[Go.Operand.tmp 118], argTypes := #[57] }, type := 3, pos := "law.go:115", after := #[{ on := 32, ground := Go.Ground.data }, { on := 28, ground := Go.Ground.guard }], guard := some (28, false) }) (v := ?_) rfl (by kernel_rfl) (by kernel_rfl) (by kernel_rfl) (fun _ _ _ h => h) (Or.inl ⟨by rfl, ?_⟩) (by assumption) ?_
              rotate_left
              · (intro w hSw; (try dsimp only at hSw); go_simp; (try (with_reducible rfl)))
              try simp only [Act.put, List.setIfInBounds_toArray, List.set_cons_zero, List.set_cons_succ]
              refine wpAnyH_take (i := 34) (oi := { dst := some 120, op := Go.Op.binOp Go.BinOp.eql 3 (Go.Operand.tmp 117) (Go.Operand.tmp 119) 3, type := 4, pos := "law.go:115", after := #[{ on := 31, ground := Go.Ground.data }, { on := 33, ground := Go.Ground.data }, { on := 28, ground := Go.Ground.guard }], guard := some (28, false) }) (v := ?_) rfl (by kernel_rfl) (by kernel_rfl) (by kernel_rfl) (fun _ _ _ h => h) (Or.inl ⟨by rfl, ?_⟩) (by assumption) ?_
              rotate_left
              · (intro w hSw; (try dsimp only at hSw); go_simp; (try (with_reducible rfl)))
              try simp only [Act.put, List.setIfInBounds_toArray, List.set_cons_zero, List.set_cons_succ]
              refine wpAnyH_take (i := 35) (oi := { dst := some 121, op := Go.Op.binOp Go.BinOp.neq 4 (Go.Operand.tmp 116) (Go.Operand.tmp 120) 4, type := 4, pos := "law.go:115", after := #[{ on := 30, ground := Go.Ground.data }, { on := 34, ground := Go.Ground.data }, { on := 28, ground := Go.Ground.guard }], guard := some (28, false) }) (v := ?_) rfl (by kernel_rfl) (by kernel_rfl) (by kernel_rfl) (fun _ _ _ h => h) (Or.inl ⟨by rfl, ?_⟩) (by assumption) ?_
              rotate_left
              · (intro w hSw; (try dsimp only at hSw); go_simp; (try (with_reducible rfl)))
              try simp only [Act.put, List.setIfInBounds_toArray, List.set_cons_zero, List.set_cons_succ]
              refine wpAnyH_take (i := 36) (oi := { dst := some 122, op := Go.Op.pick (Go.Operand.tmp 114) (Go.Operand.const (Go.Value.bool true)) (Go.Operand.tmp 121), type := 4, pos := "law.go:115", after := #[{ on := 28, ground := Go.Ground.data }, { on := 35, ground := Go.Ground.data }], guard := none }) (v := ?_) rfl (by kernel_rfl) (by kernel_rfl) (by kernel_rfl) (fun _ _ _ h => h) (Or.inl ⟨by rfl, ?_⟩) (by assumption) ?_
              rotate_left
              · (intro w hSw; (try dsimp only at hSw); go_simp; (try (with_reducible rfl)))
              try simp only [Act.put, List.setIfInBounds_toArray, List.set_cons_zero, List.set_cons_succ]
              refine wpAnyH_done (by kernel_rfl) ?_ _
              have h10 := (h9.weaken m6).weaken m1
              have en10 := en6.drew.trans en9
              clear h9 h7 h6 hc1 hc2 hc0 qk9 qk hJL
              by_cases hb0 : by' = 0
              · have hbb : bb = true := by
                  cases bb
                  · exact absurd hb0 (bF.out rfl)
                  · rfl
                subst hbb
                subst hb0
                go_wp2_with fail
                refine (works42 _).mono ?_
                rintro e wz ⟨rfl, hbz⟩
                go_wp2_with fail
                go_ret
                exact ⟨rfl, (h10.below hbz).toBelow (en10.trans (bel_env hbz))⟩
              · have hbn : ((by' : Int) != 0) = true := by rw [bne_iff_ne]; omega
                replace hb0 := Lib.hid hb0
                go_wp2_with fail
                refine (works42 _).mono ?_
                rintro e wz ⟨rfl, hbz⟩
                go_wp2_with fail
                go_ret
                exact ⟨rfl, (h10.below hbz).toBelow (en10.trans (bel_env hbz))⟩
end Go.Proofs.Ytmdmekdmlkhchaa
