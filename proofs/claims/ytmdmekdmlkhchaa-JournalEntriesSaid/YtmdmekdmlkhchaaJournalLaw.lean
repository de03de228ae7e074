/- The law's own functions: an entry's bytes, an entry is put. -/
import Derived.Test.YtmdmekdmlkhchaaJournal6
set_option linter.unusedVariables false
set_option linter.unusedSimpArgs false
namespace Go.Proofs.Ytmdmekdmlkhchaa
open Go.RowKit Go.Cw Go.Jn
/-- The entry that an argument means, if it may be. -/
def norm (k n : Int) (xs : List Int) : Option Ent := if k = 1 then (if xs.length ≤ 4096 then some (1, 0, xs) else none) else if k = 2 then (if 0 ≤ n ∧ n ≤ 4096 then some (2, n, []) else none) else some (3, 0, [])
theorem norm_fit {k n : Int} {xs : List Int} {x : Ent} (hb : Byt xs) (h : norm k n xs = some x) : Fit x := by
  unfold norm at h
  split at h
  · split at h
    · cases h; exact .inl ⟨rfl, rfl, by assumption, hb⟩
    · cases h
  · split at h
    · split at h
      · cases h; rename_i h2; exact .inr (.inl ⟨rfl, h2.1, h2.2, rfl⟩)
      · cases h
    · cases h; exact .inr (.inr ⟨rfl, rfl, rfl⟩)
def lb (k n : Int) (xs : List Int) : List Int := (norm k n xs).elim [] eb
set_option maxRecDepth 100000 in
set_option maxHeartbeats 3200000 in
theorem lawBytes (k n : Int) (A : Option Addr) (m c : Nat) (xs : List Int) (hb : Byt xs) (w : World) (hx : Rw w 1 (.slice A m c) (u8s xs)) :
    Calls Try.prog 39 #[.agg #[.int .i64 k, .int .i64 n, .slice A m c]] w (ResE (snap w) [] w (fun v => v) (fun v => [Row 5 1 v (u8s (lb k n xs))])) := by
  have hlx : xs.length = m := by
    obtain ⟨A, n', c, hv, hl', _⟩ := hx.form
    cases hv
    rw [u8s_len] at hl'
    omega
  obtain ⟨H1, l1, h1, y1⟩ := (St.start w).box #[.int .i64 k, .int .i64 n, .slice A m c] 75
  have en1 := (Env.refl w).alloc (.cells #[.int .i64 k, .int .i64 n, .slice A m c] 75)
  have hx1 := hx.alloc (.cells #[.int .i64 k, .int .i64 n, .slice A m c] 75)
  have hs1 : (w.alloc (.cells #[.int .i64 k, .int .i64 n, .slice A m c] 75)).heap.size = w.heap.size + 1 := by simp
  have h2 := h1.row_lit 5 1 1 #[.int .u8 3] rfl (by decide)
  rw [hs1] at h2
  have en2 := en1.alloc (.cells #[.int .u8 3] 5)
  have hx2 := hx1.alloc (.cells #[.int .u8 3] 5)
  have hs2 : ((w.alloc (.cells #[.int .i64 k, .int .i64 n, .slice A m c] 75)).alloc (.cells #[.int .u8 3] 5)).heap.size = w.heap.size + 1 + 1 := by simp
  clear y1 hs1
  by_cases k1 : k = 1
  · subst k1
    by_cases h4 : xs.length ≤ 4096
    · have hm : ¬ (4096 : Int) < (m : Int) := by omega
      have hlb : lb 1 n xs = eb (1, 0, xs) := by simp only [lb, norm, if_pos, if_pos h4]; rfl
      rw [hlb]
      have h3 := h2.drop.row_lit 5 1 1 #[.int .u8 1] rfl (by decide)
      rw [hs2] at h3
      have en3 := en2.alloc (.cells #[.int .u8 1] 5)
      have hx3 := hx2.alloc (.cells #[.int .u8 1] 5)
      have hml : (u8s xs).length ≤ 4096 := by rw [u8s_len]; exact h4
      have hbi : Byt (1 :: xs) := Byt.cons (by decide) (by decide) hb
      have hll : (1 :: xs).length ≤ 4097 := by simpa using h4
      replace hlx := Lib.hid hlx
      clear hx2 hx1 h1 hs2 hlb h2 en1 en2
      go_enter Try.func39, Try.ntmps39
      go_wp2_with (at_builtin; refine wpList_append rfl (.tmp 12) (.tmp 14) 57 57 rfl Try.underlying57 (.inl ⟨_, Try.underlying57⟩) (.int .u8 0) 1 wU8 rfl (by decide) (by decide) rfl rfl (h3) (News.rw hx3 (u8s_one xs)) ?apB1 ?apK1)
      try case apB1 => first | omega | (simp; omega) | (simp [u8s_len]; omega) | skip
      intro v2 w2 k2 en4
      have k2' : St H1 [Row 5 1 v2 (u8s (1 :: xs))] w2 := k2
      replace k2 := k2'
      have en2 := en3.trans en4
      obtain ⟨A2, n2, c2, rfl, _⟩ := k2.row_form
      clear k2' h3 en4 en3 hx3
      go_wp2_with fail
      refine (refOf_any _ _ _ _ hbi _ (k2.row_rw (by decide))).mono ?_
      rintro e w3 ⟨rfl, rfl⟩
      go_wp2_with fail
      refine (refBig_any (fnv (1 :: xs)) (fnv_lt _) w2).mono ?_
      rintro e w4 hq
      obtain ⟨v4, rfl, k4, en4⟩ := ResE.lift k2 hq
      obtain ⟨A4, n4, c4, rfl, _⟩ := k4.row_form
      clear hq
      have hn4 : n4 = 8 := by obtain ⟨A, n, c, hv, hl, _⟩ := k4.row_form; cases hv; rw [u8s_len, big_len] at hl; omega
      subst hn4
      go_wp2_with (at_builtin; refine wpList_append rfl (.tmp 33) (.tmp 36) 57 57 rfl Try.underlying57 (.inl ⟨_, Try.underlying57⟩) (.int .u8 0) 1 wU8 rfl (by decide) (by decide) rfl rfl k4.swap (News.rw (k4.row_rw (by decide)) (u8s_one _)) ?apF2 ?apG2)
      case apF2 => rw [u8s_len, u8s_len, big_len]; omega
      intro v5 w5 k5 en5
      obtain ⟨A5, n5, c5, rfl, _⟩ := k5.row_form
      rw [← u8s_append] at k5
      have hcv := conv_rw (P := Try.prog) (k5.row_rw (by decide)) 57 9 Try.underlying57 Try.underlying5 Try.underlying9
      have hbs : Byt ((1 :: xs) ++ big (fnv (1 :: xs))) := hbi.app (big_byte _)
      have hsl : ((1 :: xs) ++ big (fnv (1 :: xs))).length + 20 ≤ 140737488355328 := by rw [List.length_append, big_len]; omega
      go_wp2_with fail
      refine (refText_any _ hbs hsl w5).mono ?_
      rintro e w6 hq
      obtain ⟨v6, rfl, k6, en6⟩ := ResE.lift k5 hq
      go_wp2_with fail
      go_ret
      exact ⟨v6, rfl, k6.swap.drop.swap.drop.weaken l1, ((en2.trans en4).trans en5).trans en6⟩
    · have hm : (4096 : Int) < (m : Int) := by omega
      have hlb : lb 1 n xs = [] := by simp only [lb, norm, if_pos, if_neg h4]; rfl
      rw [hlb]
      have h3 := (h2.drop.row_nil 5 1).weaken l1
      replace hlx := Lib.hid hlx
      clear hlb h4
      go_enter Try.func39, Try.ntmps39
      go_wp2_with fail
      go_ret
      exact ⟨_, rfl, h3, en2⟩
  · have b1 : (k == 1) = false := beq_eq_false_iff_ne.2 k1
    by_cases k2 : k = 2
    · subst k2
      by_cases h4 : 0 ≤ n ∧ n ≤ 4096
      · obtain ⟨h4, h5⟩ := h4
        have hm : ¬ n < 0 := by omega
        have hm2 : ¬ (4096 : Int) < n := by omega
        obtain ⟨j, rfl⟩ : ∃ j : Nat, n = j := ⟨n.toNat, by omega⟩
        have hlb : lb 2 j xs = eb (2, j, []) := by unfold lb norm; rw [if_neg (by decide), if_pos rfl, if_pos ⟨h4, h5⟩]; rfl
        rw [hlb]
        have h3 := h2.drop.row_lit 5 1 1 #[.int .u8 2] rfl (by decide)
        rw [hs2] at h3
        have en3 := en2.alloc (.cells #[.int .u8 2] 5)
        have hbi : Byt (2 :: enc j) := Byt.cons (by decide) (by decide) (enc_byte _)
        have he2 := enc_len2 (n := j) (by omega)
        have hll : (2 :: enc j).length ≤ 4097 := by simp; omega
        replace hlx := Lib.hid hlx
        clear hx2 hx1 h1 hs2 hlb h2 en1 en2 b1 k1
        go_enter Try.func39, Try.ntmps39
        go_wp2_with fail
        refine (refBytes_any j (by omega) _).mono ?_
        rintro e w9 hq
        obtain ⟨v9, rfl, k9, en9⟩ := ResE.lift h3 hq
        obtain ⟨A9, n9, c9, rfl, _⟩ := k9.row_form
        have hn9 : n9 = (enc j).length := by obtain ⟨A, n, c, hv, hl, _⟩ := k9.row_form; cases hv; rw [u8s_len] at hl; omega
        subst hn9
        clear hq
        have hel : (u8s (enc j)).length ≤ 2 := by rw [u8s_len]; exact he2
        go_wp2_with (at_builtin; refine wpList_append rfl (.tmp 27) (.tmp 31) 57 57 rfl Try.underlying57 (.inl ⟨_, Try.underlying57⟩) (.int .u8 0) 1 wU8 rfl (by decide) (by decide) rfl rfl (k9.swap) (News.rw (k9.row_rw (by decide)) (u8s_one _)) ?apB3 ?apK3)
        try case apB3 => first | omega | (simp; omega) | (simp [u8s_len]; omega) | skip
        intro v2 w2 k2 en4
        have k2' : St H1 [Row 5 1 v2 (u8s (2 :: enc j))] w2 := k2.swap.drop
        replace k2 := k2'
        have en2 := (en3.trans en9).trans en4
        obtain ⟨A2, n2, c2, rfl, _⟩ := k2.row_form
        clear k2' h3 en4 en3 k9 en9
        go_wp2_with fail
        refine (refOf_any _ _ _ _ hbi _ (k2.row_rw (by decide))).mono ?_
        rintro e w3 ⟨rfl, rfl⟩
        go_wp2_with fail
        refine (refBig_any (fnv (2 :: enc j)) (fnv_lt _) w2).mono ?_
        rintro e w4 hq
        obtain ⟨v4, rfl, k4, en4⟩ := ResE.lift k2 hq
        obtain ⟨A4, n4, c4, rfl, _⟩ := k4.row_form
        clear hq
        have hn4 : n4 = 8 := by obtain ⟨A, n, c, hv, hl, _⟩ := k4.row_form; cases hv; rw [u8s_len, big_len] at hl; omega
        subst hn4
        go_wp2_with (at_builtin; refine wpList_append rfl (.tmp 33) (.tmp 36) 57 57 rfl Try.underlying57 (.inl ⟨_, Try.underlying57⟩) (.int .u8 0) 1 wU8 rfl (by decide) (by decide) rfl rfl k4.swap (News.rw (k4.row_rw (by decide)) (u8s_one _)) ?apF4 ?apG4)
        case apF4 => rw [u8s_len, u8s_len, big_len]; omega
        intro v5 w5 k5 en5
        obtain ⟨A5, n5, c5, rfl, _⟩ := k5.row_form
        rw [← u8s_append] at k5
        have hcv := conv_rw (P := Try.prog) (k5.row_rw (by decide)) 57 9 Try.underlying57 Try.underlying5 Try.underlying9
        have hbs : Byt ((2 :: enc j) ++ big (fnv (2 :: enc j))) := hbi.app (big_byte _)
        have hsl : ((2 :: enc j) ++ big (fnv (2 :: enc j))).length + 20 ≤ 140737488355328 := by rw [List.length_append, big_len]; omega
        go_wp2_with fail
        refine (refText_any _ hbs hsl w5).mono ?_
        rintro e w6 hq
        obtain ⟨v6, rfl, k6, en6⟩ := ResE.lift k5 hq
        go_wp2_with fail
        go_ret
        exact ⟨v6, rfl, k6.swap.drop.swap.drop.weaken l1, ((en2.trans en4).trans en5).trans en6⟩
      · have hlb : lb 2 n xs = [] := by unfold lb norm; rw [if_neg (by decide), if_pos rfl, if_neg h4]; rfl
        rw [hlb]
        have h3 := (h2.drop.row_nil 5 1).weaken l1
        replace hlx := Lib.hid hlx
        clear hlb
        by_cases hn : n < 0
        · clear h4
          go_enter Try.func39, Try.ntmps39
          go_wp2_with fail
          go_ret
          exact ⟨_, rfl, h3, en2⟩
        · have hn2 : (4096 : Int) < n := by omega
          clear h4
          go_enter Try.func39, Try.ntmps39
          go_wp2_with fail
          go_ret
          exact ⟨_, rfl, h3, en2⟩
    · have b2 : (k == 2) = false := beq_eq_false_iff_ne.2 k2
      have hlb : lb k n xs = eb (3, 0, []) := by simp only [lb, norm, if_neg k1, if_neg k2]; rfl
      rw [hlb]
      have hbi : Byt [3] := Byt.cons (by decide) (by decide) Byt.nil
      have hll : [(3 : Int)].length ≤ 4097 := by simp
      have k2 : St H1 [Row 5 1 (.slice (some ⟨w.heap.size + 1, 0, none⟩) 1 1) (u8s [3])] ((w.alloc (.cells #[.int .i64 k, .int .i64 n, .slice A m c] 75)).alloc (.cells #[.int .u8 3] 5)) := h2
      replace hlx := Lib.hid hlx
      clear hx2 hx1 h1 hlb k1 hs2
      go_enter Try.func39, Try.ntmps39
      go_wp2_with fail
      generalize (w.alloc (.cells #[.int .i64 k, .int .i64 n, .slice A m c] 75)).alloc (.cells #[.int .u8 3] 5) = w2 at *
      refine (refOf_any _ _ _ _ hbi _ (k2.row_rw (by decide))).mono ?_
      rintro e w3 ⟨rfl, rfl⟩
      go_wp2_with fail
      refine (refBig_any (fnv ([3])) (fnv_lt _) w2).mono ?_
      rintro e w4 hq
      obtain ⟨v4, rfl, k4, en4⟩ := ResE.lift k2 hq
      obtain ⟨A4, n4, c4, rfl, _⟩ := k4.row_form
      clear hq
      have hn4 : n4 = 8 := by obtain ⟨A, n, c, hv, hl, _⟩ := k4.row_form; cases hv; rw [u8s_len, big_len] at hl; omega
      subst hn4
      go_wp2_with (at_builtin; refine wpList_append rfl (.tmp 33) (.tmp 36) 57 57 rfl Try.underlying57 (.inl ⟨_, Try.underlying57⟩) (.int .u8 0) 1 wU8 rfl (by decide) (by decide) rfl rfl k4.swap (News.rw (k4.row_rw (by decide)) (u8s_one _)) ?apF5 ?apG5)
      case apF5 => rw [u8s_len, u8s_len, big_len]; omega
      intro v5 w5 k5 en5
      obtain ⟨A5, n5, c5, rfl, _⟩ := k5.row_form
      rw [← u8s_append] at k5
      have hcv := conv_rw (P := Try.prog) (k5.row_rw (by decide)) 57 9 Try.underlying57 Try.underlying5 Try.underlying9
      have hbs : Byt (([3]) ++ big (fnv ([3]))) := hbi.app (big_byte _)
      have hsl : (([3]) ++ big (fnv ([3]))).length + 20 ≤ 140737488355328 := by rw [List.length_append, big_len]; omega
      go_wp2_with fail
      refine (refText_any _ hbs hsl w5).mono ?_
      rintro e w6 hq
      obtain ⟨v6, rfl, k6, en6⟩ := ResE.lift k5 hq
      go_wp2_with fail
      go_ret
      exact ⟨v6, rfl, k6.swap.drop.swap.drop.weaken l1, ((en2.trans en4).trans en5).trans en6⟩
/-- What an argument's entry is told when it is put. -/
def putE (k n : Int) (xs : List Int) : Int := if (norm k n xs).isSome then 0 else if k = 1 then 18 else 1
/-- An argument's entry was put. -/
def PutR (p : Nat) (l : List JEnt) (k n : Int) (xs : List Int) (H : Hp) (fr : List HA) (w : World) (e : Ending) (w' : World) : Prop :=
  e = .returned (.int .i64 (putE k n xs)) ∧ Env w w' ∧ match norm k n xs with
    | none => St H (JA p l :: fr) w' ∧ Below w.heap.size w w'
    | some x => ∃ v, St H (Row 5 1 v (u8s x.2.2) :: JA p (l ++ [(x.1, x.2.1, v, x.2.2)]) :: fr) w'
set_option maxRecDepth 100000 in
set_option maxHeartbeats 3200000 in
theorem lawPut (p : Nat) (l : List JEnt) (k n : Int) (A : Option Addr) (m c : Nat) (xs : List Int) (hl : l.length < 65536) (H : Hp) (fr : List HA) (w : World) (h : St H (JA p l :: fr) w) (hx : Rw w 1 (.slice A m c) (u8s xs)) :
    Calls Try.prog 44 #[jP p, .agg #[.int .i64 k, .int .i64 n, .slice A m c]] w (PutR p l k n xs H fr w) := by
  have hlx : xs.length = m := by
    obtain ⟨A, n', c, hv, hl', _⟩ := hx.form
    cases hv
    rw [u8s_len] at hl'
    omega
  subst hlx
  have bel1 := belBoxJ w (.cells #[.int .i64 k, .int .i64 n, .slice A xs.length c] 75)
  have h1 := h.below bel1
  have en1 := bel_env bel1
  have hx1 := hx.below bel1
  by_cases k1 : k = 1
  · subst k1
    by_cases h4 : xs.length ≤ 4096
    · have hnm : norm 1 n xs = some (1, 0, xs) := by unfold norm; rw [if_pos rfl, if_pos h4]
      have hT := jTake_of (jP p) A xs.length c 0 _ _ (jPut_ok p l 1 0 A xs.length c xs (.inl ⟨rfl, h4⟩) hl (by omega) H fr _ h1 hx1)
      unfold PutR putE
      rw [hnm]
      clear hnm hl
      go_enter Try.func44, Try.ntmps44
      go_wp2_with fail
      refine hT.mono ?_
      rintro e w2 ⟨rfl, en2, hv⟩
      go_wp2_with fail
      go_ret
      exact ⟨rfl, en1.trans en2, hv⟩
    · have hnm : norm 1 n xs = none := by unfold norm; rw [if_pos rfl, if_neg h4]
      have hT := jTake_of (jP p) A xs.length c 18 _ _ (jPut_long p 0 A xs.length c (by omega) (w.alloc (.cells #[.int .i64 1, .int .i64 n, .slice A xs.length c] 75)))
      unfold PutR putE
      rw [hnm]
      clear hnm hl h4
      go_enter Try.func44, Try.ntmps44
      go_wp2_with fail
      refine hT.mono ?_
      rintro e w2 ⟨rfl, bel2⟩
      go_wp2_with fail
      go_ret
      exact ⟨rfl, en1.trans (bel_env bel2), h1.below bel2, bel1.trans (bel2.mono (by simp))⟩
  · have b1 : (k == 1) = false := beq_eq_false_iff_ne.2 k1
    by_cases k2 : k = 2
    · subst k2
      by_cases h4 : 0 ≤ n ∧ n ≤ 4096
      · have hnm : norm 2 n xs = some (2, n, []) := by unfold norm; rw [if_neg (by decide), if_pos rfl, if_pos h4]
        have hT := jDrain_of (jP p) n 0 _ _ (jPut_ok p l 2 n none 0 0 [] (.inr (.inl ⟨rfl, h4⟩)) hl (by simp) H fr _ h1 (Rw.nil _ _))
        unfold PutR putE
        rw [hnm]
        clear hnm hl h4
        go_enter Try.func44, Try.ntmps44
        go_wp2_with fail
        refine hT.mono ?_
        rintro e w2 ⟨rfl, en2, hv⟩
        go_wp2_with fail
        go_ret
        exact ⟨rfl, en1.trans en2, hv⟩
      · have hnm : norm 2 n xs = none := by unfold norm; rw [if_neg (by decide), if_pos rfl, if_neg h4]
        have hT := jDrain_of (jP p) n 1 _ _ (jPut_arg p n none 0 0 (by omega) (w.alloc (.cells #[.int .i64 2, .int .i64 n, .slice A xs.length c] 75)))
        unfold PutR putE
        rw [hnm]
        clear hnm hl h4
        go_enter Try.func44, Try.ntmps44
        go_wp2_with fail
        refine hT.mono ?_
        rintro e w2 ⟨rfl, bel2⟩
        go_wp2_with fail
        go_ret
        exact ⟨rfl, en1.trans (bel_env bel2), h1.below bel2, bel1.trans (bel2.mono (by simp))⟩
    · have b2 : (k == 2) = false := beq_eq_false_iff_ne.2 k2
      have hnm : norm k n xs = some (3, 0, []) := by unfold norm; rw [if_neg k1, if_neg k2]
      have hT := jCompact_of (jP p) 0 _ _ (jPut_ok p l 3 0 none 0 0 [] (.inr (.inr rfl)) hl (by simp) H fr _ h1 (Rw.nil _ _))
      unfold PutR putE
      rw [hnm]
      clear hnm hl k1 k2
      go_enter Try.func44, Try.ntmps44
      go_wp2_with fail
      refine hT.mono ?_
      rintro e w2 ⟨rfl, en2, hv⟩
      go_wp2_with fail
      go_ret
      exact ⟨rfl, en1.trans en2, hv⟩
end Go.Proofs.Ytmdmekdmlkhchaa
