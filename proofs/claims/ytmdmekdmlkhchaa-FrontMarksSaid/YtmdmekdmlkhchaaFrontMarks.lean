/- The law FrontMarks: walked. -/
import Derived.Test.YtmdmekdmlkhchaaFrontLaw
set_option linter.unusedVariables false
set_option linter.unusedSimpArgs false
namespace Go.Proofs.Ytmdmekdmlkhchaa
open Go.RowKit Go.Cw
attribute [local go_sem ↓] eql_id neq_id
theorem nodup_range_map (r : Int) (n : Nat) : ((List.range n).map (fun (i : Nat) => ((r, ((i + 1 : Nat) : Int)) : Id))).Nodup := by
  refine List.pairwise_map.2 ?_
  refine List.Pairwise.imp ?_ (List.nodup_range (n := n))
  intro a b hab e
  have := congrArg Prod.snd e
  simp only at this
  omega
theorem floor_len {l : List Id} {r : Int} {n : Nat} (h : ∀ m : Nat, 1 ≤ m → m ≤ n → (r, (m : Int)) ∈ l) : n ≤ l.length := by
  have := sub_len _ l (nodup_range_map r n) (fun x hx => by
    obtain ⟨i, hi, rfl⟩ := List.mem_map.1 hx
    exact h (i + 1) (by omega) (by have := List.mem_range.1 hi; omega))
  simpa using this
set_option maxRecDepth 100000 in
set_option maxHeartbeats 800000 in
/-- The reference's floor. -/
theorem refFloor (u : Value) (l : List Id) (r : Int) (w : World) (hx : Rw w 2 u (idl l)) (hl : l.length ≤ 1000000) :
    Calls Try.prog 77 #[u, .int .i64 r] w fun e w' => ∃ n : Nat, e = .returned (.int .i64 (n : Int)) ∧ Below w.heap.size w w' ∧ FlP l r n := by
  go_enter Try.func77, Try.ntmps77
  go_wp2_with fail
  go_loopw [5] (fun s5 wr => ∃ n : Nat, s5 = .int .i64 (n : Int) ∧ Below w.heap.size w wr ∧ Hid (∀ m : Nat, 1 ≤ m → m ≤ n → (r, (m : Int)) ∈ l)) (fun s5 _ => l.length - (intOf s5).toNat)
  case atStart => exact ⟨0, rfl, Below.refl _ _, Lib.hid (fun m h1 h2 => by omega)⟩
  case round =>
    obtain ⟨n, rfl, hbel, hin⟩ := hrel
    have hnl := floor_len hin.out
    have hw : IntKind.i64.wrap ((n : Int) + 1) = (n : Int) + 1 := by rw [IntKind.wrap_i64]; omega
    go_wp2_with fail
    refine (hasIds_any u l (r, (n : Int) + 1) wr (hx.below hbel)).mono ?_
    rintro e w3 ⟨rfl, hb3⟩
    have hb4 := hbel.trans (hb3.mono hbel.size)
    by_cases hm : (r, (n : Int) + 1) ∈ l
    · rw [decide_eq_true hm]
      have hin' : Hid (∀ m : Nat, 1 ≤ m → m ≤ n + 1 → (r, (m : Int)) ∈ l) := Lib.hid (fun m h1 h2 => by
        rcases Nat.lt_or_ge m (n + 1) with h3 | h3
        · exact hin.out m h1 (by omega)
        · obtain rfl : m = n + 1 := by omega
          exact hm)
      have hnl' := floor_len hin'.out
      clear hm
      go_wp2_with fail
      go_roundw
      case rel => exact ⟨n + 1, by go_num, hb4, hin'⟩
      case measure => simp [intOf]; omega
    · rw [decide_eq_false hm]
      have hmh := Lib.hid hm
      clear hm
      go_wp2_with fail
      go_ret
      exact ⟨n, rfl, hb4, hin.out, hmh.out⟩
/-- Does an id stand above its replica's floor? -/
noncomputable def abD (M : List Id) (x : Id) : Bool := @decide (∀ n, FlP M x.1 n → (n : Int) < x.2) (Classical.propDecidable _)
theorem abD_iff (M : List Id) (x : Id) : abD M x = true ↔ ∀ n, FlP M x.1 n → (n : Int) < x.2 := @decide_eq_true_iff _ (Classical.propDecidable _)
theorem abD_eq {M : List Id} {x : Id} {n : Nat} (h : FlP M x.1 n) : abD M x = decide ((n : Int) < x.2) := by
  rw [Bool.eq_iff_iff, abD_iff, decide_eq_true_iff]
  refine ⟨fun h' => h' n h, fun h' m hm => ?_⟩
  rw [FlP.one hm h]
  exact h'
noncomputable def abL (M l : List Id) : List Id := l.filter (abD M)
theorem abL_snoc (M l : List Id) (x : Id) : abL M (l ++ [x]) = if abD M x then abL M l ++ [x] else abL M l := by
  unfold abL
  rw [List.filter_append]
  by_cases h : abD M x = true <;> simp [h]
theorem abL_len (M l : List Id) : (abL M l).length ≤ l.length := List.length_filter_le ..
theorem abL_ab {M : List Id} (h : Rises M) : AbP M (abL M M) := by
  refine ⟨List.Pairwise.filter _ h, fun a => ?_⟩
  unfold abL
  rw [List.mem_filter, abD_iff]
theorem markL_put {a : Id} {M : List Id} (h : mayM a M = true) : putL a M = markL a M := by
  unfold markL putL
  rw [if_pos h, if_neg]
  unfold mayM at h
  simp at h
  exact h.2
theorem markL_not {a : Id} {M : List Id} (h : mayM a M = false) : markL a M = M := by
  unfold markL
  rw [h]
  rfl
theorem take_snoc' {α : Type} (l : List α) (k : Nat) (h : k < l.length) : l.take (k + 1) = l.take k ++ [l[k]] := List.take_succ_eq_append_getElem h
theorem fr_marked {H : Hp} {fr : List HA} {w : World} {p : Nat} {M : List Id} (h : St H (FrI p M :: fr) w) (a : Id) : decide (a ∈ markL a M) = idOk a := by
  obtain ⟨F, L, s, ⟨h1, h2⟩, h3⟩ := frOpen h
  by_cases hok : idOk a = true
  · rw [hok]
    exact decide_eq_true ((markL_mem _ _ _).2 (.inr ⟨rfl, hok⟩))
  · rw [show idOk a = false by simpa using hok]
    exact decide_eq_false (fun hm => ((markL_mem _ _ _).1 hm).elim (fun h => hok (h1.ok a h)) (fun h => hok h.2))
set_option maxRecDepth 100000 in
set_option maxHeartbeats 1600000 in
theorem frontMarks_any (u : Value) (l : List Id) (c : Nat) (hc : c < 256) (id : Id) (w : World) (hu : Rw w 2 u (idl l)) :
    Calls Try.prog 12 #[u, .int .u8 (c : Int), idV id] w fun e w' => e = .returned (.bool true) ∧ Below w.heap.size w w' := by
  obtain ⟨A, n, cp, rfl, hl, hn, hcp⟩ := hu.form
  rw [idl_len] at hl
  obtain rfl : n = l.length := by omega
  clear hl
  obtain ⟨Hb, lb0, h1, hy⟩ := (St.start w).box #[.int .i64 id.1, .int .i64 id.2] 42
  have y0 := hy 0 _ rfl
  have y1 := hy 1 _ rfl
  have en1 := (Env.refl w).alloc (.cells #[.int .i64 id.1, .int .i64 id.2] 42)
  have hb := hu.rd.mono lb0
  have hbel := boxBelow w (.cells #[.int .i64 id.1, .int .i64 id.2] 42)
  clear hy
  by_cases h100 : (100 : Int) < l.length
  · go_enter Try.func12, Try.ntmps12
    go_wp2_with fail
    refine (works05 _).mono ?_
    rintro e w1 ⟨rfl, hb1⟩
    go_wp2_with fail
    go_ret
    exact ⟨rfl, hbel.trans (hb1.mono hbel.size)⟩
  have lb : l.length ≤ 100 := by omega
  clear hbel
  go_enter Try.func12, Try.ntmps12
  go_wp2_with fail
  refine (frNew _).mono ?_
  rintro e w2 he
  obtain ⟨p, rfl, h2, en2⟩ := ResE.lift h1 he
  have h3 := h2.row_lit 42 2 0 #[] rfl (by decide)
  have en3 := (en1.trans en2).alloc (.cells #[] 42)
  clear h2 h1 en1 en2 he
  go_wp2_with fail
  generalize w.heap.size = gx at *
  go_loopw [7, 8, 9] (fun s7 s8 i wr => ∃ (k p : Nat) (M : List Id) (G : List HA), k ≤ l.length ∧ i = .int .i64 (k : Int) ∧ s7 = frP p ∧ St Hb (Row 42 2 s8 (idl M) :: FrI p M :: G) wr ∧ Env w wr ∧ Hid (M.length ≤ k)) (fun _ _ i _ => l.length - (intOf i).toNat)
  case atStart => exact ⟨0, p, [], [], Nat.zero_le _, rfl, rfl, h3, en3, Lib.hid (Nat.zero_le _)⟩
  case round =>
    clear h3 en3
    obtain ⟨k, p, M, G, hk, rfl, rfl, hst, hen, HM⟩ := hrel
    have hMk := HM.out
    obtain ⟨A8, n8, c8, rfl, hf8, hn8, hm8⟩ := hst.row_form
    rw [idl_len] at hf8
    obtain rfl : n8 = M.length := by omega
    have hc8 : c8 ≤ 9223372036854775807 := by simpa [maxLen] using hm8
    clear hf8 hm8
    have hwc : IntKind.i64.wrap (c : Int) = (c : Int) := by rw [IntKind.wrap_i64]; omega
    by_cases hlt : k < l.length
    · obtain ⟨a, HX⟩ : ∃ x, Hid (x = l[k]) := ⟨_, Lib.hid rfl⟩
      obtain ⟨qb, qoff, hA, hq⟩ : ∃ b o, A = some ⟨b, o, none⟩ ∧ ∀ j u, (idl l)[j]? = some u → Hb.cell b (o + j) = some u := by
        obtain ⟨_, _, _, hv, _, _, _, hcl⟩ := hb
        cases hv
        exact hcl (by omega)
      subst hA
      have z0 := hq _ _ (idl_fst l k hlt)
      have z1 := hq _ _ (idl_snd l k hlt)
      rw [← Nat.add_assoc] at z1
      rw [← HX.out] at z0 z1
      clear hq
      go_upto_if 32 with (fail)
      go_cut [7] (fun s7 wx => ∃ (q : Nat) (G' : List HA), s7 = frP q ∧ St Hb (Row 42 2 (.slice A8 M.length c8) (idl M) :: FrI q M :: G') wx ∧ Env w wx)
      case first =>
        by_cases hkc : k = c
        · have hkb : ((k : Int) == (c : Int)) = true := beq_iff_eq.2 (by omega)
          clear hkc
          go_wp2_with fail
          refine (frTwin p M (by omega) Hb _ wr hst.swap).mono ?_
          rintro e w3 ⟨q, rfl, h3, en3⟩
          have x0 := h3.cell y0
          have x1 := h3.cell y1
          have xl := World.block_lt_of_cell? _ _ x0
          go_wp2_with fail
          refine (frMark p M id Hb _ w3 h3.swap).mono ?_
          rintro e w4 ⟨rfl, h4, en4⟩
          go_wp2_with fail
          go_meet
          have h5 : St Hb (FrI p (markL id M) :: FrI q M :: Row 42 2 (.slice A8 M.length c8) (idl M) :: G) w4 := h4
          exact ⟨q, FrI p (markL id M) :: G, rfl, (h5.pick 2 (by simp)).perm (List.Perm.cons _ (List.Perm.swap _ _ _)), (hen.trans en3).trans en4⟩
        · have hkb : ((k : Int) == (c : Int)) = false := beq_eq_false_iff_ne.2 (by omega)
          clear hkc
          go_wp2_with fail
          go_meet
          exact ⟨p, G, rfl, hst, hen⟩
      case rest =>
        clear hst hen
        obtain ⟨q, G', rfl, hst, hen⟩ := hcut
        go_upto_region 11 with (fail)
        go_cut [11] (fun s11 wx => s11 = .bool (mayM a M) ∧ St Hb (Row 42 2 (.slice A8 M.length c8) (idl M) :: FrI q M :: G') wx ∧ Env w wx)
        case first =>
          have x0 := hst.cell z0
          have x1 := hst.cell z1
          have xl := World.block_lt_of_cell? _ _ x0
          by_cases hok : idOk a = true
          · have hd : Hid ((!decide (a ∈ M)) = mayM a M) := Lib.hid (by unfold mayM; rw [hok]; rfl)
            have hokh := Lib.hid hok
            clear hok
            go_wp2_with fail
            refine (right_any a _).mono ?_
            rintro e w3 ⟨rfl, hb3⟩
            rw [hokh.out]
            have h3 := hst.below hb3
            have en3 := hen.trans (bel_env hb3)
            clear x0 x1 xl hb3
            have x0 := h3.cell z0
            have x1 := h3.cell z1
            have xl := World.block_lt_of_cell? _ _ x0
            go_wp2_with fail
            refine (hasIds_any _ M a w3 (h3.row_rw (by omega))).mono ?_
            rintro e w4 ⟨rfl, hb4⟩
            go_wp2_with fail
            go_meet
            exact ⟨congrArg Value.bool hd.out, h3.below hb4, en3.trans (bel_env hb4)⟩
          · have hok' : Hid (idOk a = false) := Lib.hid (by simpa using hok)
            have hd : Hid (false = mayM a M) := Lib.hid (by unfold mayM; rw [hok'.out]; rfl)
            clear hok
            go_wp2_with fail
            refine (right_any a _).mono ?_
            rintro e w3 ⟨rfl, hb3⟩
            rw [hok'.out]
            go_wp2_with fail
            go_meet
            exact ⟨congrArg Value.bool hd.out, hst.below hb3, hen.trans (bel_env hb3)⟩
        case rest =>
          clear hst hen
          obtain ⟨rfl, hst, hen⟩ := hcut
          go_upto_if 53 with (fail)
          go_cut [8, 11] (fun s8 s11 wx => s11 = .bool (mayM a M) ∧ St Hb (Row 42 2 s8 (idl (markL a M)) :: FrI q M :: G') wx ∧ Env w wx)
          case first =>
            have x0 := hst.cell z0
            have x1 := hst.cell z1
            have xl := World.block_lt_of_cell? _ _ x0
            cases hmy : mayM a M with
            | true =>
              have hp := Lib.hid (markL_put hmy)
              replace hmy := Lib.hid hmy
              go_wp2_with fail
              refine (put_own _ M a Hb _ _ hst (by omega)).mono ?_
              rintro e w5 ⟨v', rfl, h5, en5⟩
              rw [hp.out] at h5
              go_wp2_with fail
              go_meet
              exact ⟨congrArg Value.bool hmy.out.symm, h5, hen.trans en5⟩
            | false =>
              have hp := Lib.hid (markL_not hmy)
              replace hmy := Lib.hid hmy
              go_wp2_with fail
              go_meet
              exact ⟨congrArg Value.bool hmy.out.symm, by rw [hp.out]; exact hst, hen⟩
          case rest =>
            have hd3 := fr_marked hst.swap a
            clear hst hen
            obtain ⟨rfl, hst, hen⟩ := hcut
            have hML := markL_len a M
            obtain ⟨A9, n9, c9, rfl, hf9, hn9, hm9⟩ := hst.row_form
            rw [idl_len] at hf9
            obtain rfl : n9 = (markL a M).length := by omega
            clear hf9 hm9
            have kk : ∀ (l : List HA) (w' : World), St Hb l w' → w'.cell? ⟨qb, qoff + k * 2, none⟩ = some (.int .i64 a.1) ∧ w'.cell? ⟨qb, qoff + k * 2 + 1, none⟩ = some (.int .i64 a.2) := fun l w' h => ⟨h.cell z0, h.cell z1⟩
            have d1 : (mayM a M != mayM a M) = false := by cases mayM a M <;> rfl
            have d2 : (((markL a M).length : Int) != ((markL a M).length : Int)) = false := by simp
            have d3 : (idOk a != idOk a) = false := by cases idOk a <;> rfl
            replace hd3 := Lib.hid hd3
            go_wp2_with fail
            have hd := hst.drew
            have k4 := kk _ _ hd
            go_region_held3 (fun w' => w'.cell? ⟨qb, qoff + k * 2, none⟩ = some (.int .i64 a.1) ∧ w'.cell? ⟨qb, qoff + k * 2 + 1, none⟩ = some (.int .i64 a.2)) (first | exact k4 | exact k5 | exact k6 | exact k7)
              (first
                | (go_at_call 70; refine (frMark q M a Hb _ _ hd.swap).mono ?_; rintro e w5 ⟨rfl, h5, en5⟩; have k5 := kk _ _ h5)
                | (go_at_call 73; refine (frLen q (markL a M) (by omega) Hb _ _ h5).mono ?_; rintro e w5' ⟨rfl, rfl⟩)
                | (go_at_call 76; refine (frHas q (markL a M) a Hb _ _ h5).mono ?_; rintro e w6 ⟨rfl, hb6⟩; rw [hd3.out]; have h6 := h5.below hb6; have k6 := kk _ _ h6)
                | (go_at_call 75; refine (right_any a w6).mono ?_; rintro e w7 ⟨rfl, hb7⟩; have h7 := h6.below hb7; have k7 := kk _ _ h7))
            go_wp2_with fail
            have h8 : St Hb (FrI q (markL a M) :: Row 42 2 (.slice A9 (markL a M).length c9) (idl (markL a M)) :: G') w7 := h7
            have en8 := ((hen.drew.trans en5).trans (bel_env hb6)).trans (bel_env hb7)
            go_roundw
            case rel => exact ⟨k + 1, q, markL a M, G', by omega, by go_num, rfl, h8.swap, en8, Lib.hid (by omega)⟩
            case measure => simp [intOf]; omega
    · obtain rfl : k = l.length := by omega
      have hris := Lib.hid (fr_rises hst.swap)
      obtain ⟨H2, l2, h4, hr8'⟩ := hst.row_keep
      have x0 := Hp.cell_le l2 y0
      have x1 := Hp.cell_le l2 y1
      have kk : ∀ (l : List HA) (w' : World), St H2 l w' → w'.cell? ⟨gx, 0, none⟩ = some (.int .i64 id.1) ∧ w'.cell? ⟨gx, 1, none⟩ = some (.int .i64 id.2) := fun l w' h => ⟨h.cell x0, h.cell x1⟩
      have hle := Hp.le_trans lb0 l2
      have h5 := h4.row_lit 42 2 0 #[] rfl (by decide)
      have en5 := hen.alloc (.cells #[] 42)
      clear hst hen h4 x0 x1 y0 y1 l2 lb0
      go_wp2_with fail
      go_loopw [12, 13] (fun s12 j wr => ∃ m : Nat, m ≤ M.length ∧ j = .int .i64 (m : Int) ∧ St H2 (Row 42 2 s12 (idl (abL M (M.take m))) :: FrI p M :: G) wr ∧ Env w wr) (fun _ j _ => M.length - (intOf j).toNat)
      case atStart => exact ⟨0, Nat.zero_le _, rfl, h5, en5⟩
      case round =>
        clear h5 en5
        obtain ⟨m, hm, rfl, hst, hen⟩ := hrel
        have hal := abL_len M (M.take m)
        have htl : (M.take m).length ≤ M.length := by rw [List.length_take]; omega
        by_cases hmt : m < M.length
        · obtain ⟨x, HX⟩ : ∃ x, Hid (x = M[m]) := ⟨_, Lib.hid rfl⟩
          obtain ⟨b8, o8, hA, hq⟩ : ∃ b o, A8 = some ⟨b, o, none⟩ ∧ ∀ j u, (idl M)[j]? = some u → H2.cell b (o + j) = some u := by
            obtain ⟨_, _, _, hv, _, _, _, hcl⟩ := hr8'
            cases hv
            exact hcl (by omega)
          subst hA
          have z0 := hq _ _ (idl_fst M m hmt)
          have z1 := hq _ _ (idl_snd M m hmt)
          rw [← Nat.add_assoc] at z1
          rw [← HX.out] at z0 z1
          clear hq
          have hts := take_snoc' M m hmt
          rw [← HX.out] at hts
          have hd := hst.drew
          have kk2 : ∀ (l : List HA) (w' : World), St H2 l w' → w'.cell? ⟨b8, o8 + m * 2, none⟩ = some (.int .i64 x.1) ∧ w'.cell? ⟨b8, o8 + m * 2 + 1, none⟩ = some (.int .i64 x.2) := fun l w' h => ⟨h.cell z0, h.cell z1⟩
          have k4 := kk2 _ _ hd
          have hm1 : (m : Int) < (M.length : Int) := by omega
          have hm0 : (0 : Int) ≤ (m : Int) := by omega
          replace hts := Lib.hid hts
          go_wp2_with fail
          go_region_held3 (fun w' => w'.cell? ⟨b8, o8 + m * 2, none⟩ = some (.int .i64 x.1) ∧ w'.cell? ⟨b8, o8 + m * 2 + 1, none⟩ = some (.int .i64 x.2)) (first | exact k4 | exact k5)
            ((go_at_call 77; refine (refFloor _ M x.1 _ (hr8'.rw hd) (by omega)).mono ?_; rintro e w5 ⟨n, rfl, hb5, hfl⟩; have h5 := hd.below hb5; have k5 := kk2 _ _ h5))
          have habd := abD_eq hfl
          have en5 := hen.drew.trans (bel_env hb5)
          have q0 := h5.cell z0
          have q1 := h5.cell z1
          have ql := World.block_lt_of_cell? _ _ q0
          clear hfl hst hen hd k4 k5
          by_cases hgt : (n : Int) < x.2
          · have hdt := decide_eq_true hgt
            rw [hdt] at habd
            have hAb : Hid (abL M (M.take (m + 1)) = abL M (M.take m) ++ [x]) := Lib.hid (by rw [hts.out, abL_snoc, habd]; rfl)
            clear habd
            go_wp2_with (at_builtin; refine wpList_append rfl (.tmp 109) (.tmp 114) 47 47 rfl Try.underlying47 (.inl ⟨_, Try.underlying47⟩) (.agg #[.int .i64 0, .int .i64 0]) 16 info_id rfl (by decide) (by decide) rfl rfl (h5.alloc _) (News.newAt _ _ 1 _ _ (by simp) rfl (by simp [Value.oneCell'])) ?apB1 ?apK1)
            case apB1 => first | omega | (simp; omega) | (simp [idl_len]; omega) | skip
            intro v' w10 h10 en10
            go_wp2_with fail
            go_roundw
            case rel => exact ⟨m + 1, by omega, by go_num, by rw [hAb.out]; simpa [idl, idc] using h10, (en5.alloc _).trans en10⟩
            case measure => simp [intOf]; omega
          · have hdt := decide_eq_false hgt
            rw [hdt] at habd
            have hAb : Hid (abL M (M.take (m + 1)) = abL M (M.take m)) := Lib.hid (by rw [hts.out, abL_snoc, habd]; rfl)
            clear habd
            go_wp2_with fail
            go_roundw
            case rel => exact ⟨m + 1, by omega, by go_num, by rw [hAb.out]; exact h5, en5⟩
            case measure => simp [intOf]; omega
        · obtain rfl : m = M.length := by omega
          rw [List.take_length] at hst
          go_wp2_with fail
          go_loopw [14, 15] (fun s14 _ wr => ∃ z : Int, -1 ≤ z ∧ z ≤ 9 ∧ s14 = .int .i64 z ∧ St H2 (Row 42 2 u12 (idl (abL M M)) :: FrI p M :: G) wr ∧ Env w wr) (fun s14 _ _ => (9 - intOf s14).toNat)
          case atStart => exact ⟨-1, by omega, by omega, rfl, hst, hen⟩
          case round =>
            clear hst hen
            obtain ⟨z, hz0, hz9, rfl, hst, hen⟩ := hrel
            have hwz : IntKind.i64.wrap (z + 1) = z + 1 := by rw [IntKind.wrap_i64]; omega
            by_cases hz8 : z ≤ 8
            · by_cases hzn : z < 0
              · have hzz : ¬ 0 ≤ z := by omega
                go_wp2_with fail
                refine (frFloor_out p z (by omega) wr).mono ?_
                rintro e w5 ⟨rfl, rfl⟩
                go_wp2_with fail
                go_roundw
                case rel => exact ⟨z + 1, by omega, by omega, rfl, hst, hen⟩
                case measure => simp [intOf]; omega
              · obtain ⟨r, rfl⟩ : ∃ r : Nat, z = r := ⟨z.toNat, by omega⟩
                by_cases hr8 : r < 8
                · have hrz : (0 : Int) ≤ (r : Int) := by omega
                  have hrz8 : (r : Int) < 8 := by omega
                  go_wp2_with fail
                  refine (refFloor _ M (r : Int) _ (hr8'.rw hst) (by omega)).mono ?_
                  rintro e w5 ⟨n, rfl, hb5, hfl⟩
                  have h5 := hst.below hb5
                  have en5 := hen.trans (bel_env hb5)
                  clear hst hen
                  go_wp2_with fail
                  refine (frFloor_in p r hr8 M H2 _ w5 h5.swap).mono ?_
                  rintro e w6 ⟨n', rfl, rfl, hfl'⟩
                  obtain rfl := FlP.one hfl hfl'
                  clear hfl hfl'
                  go_wp2_with fail
                  go_roundw
                  case rel => exact ⟨(r : Int) + 1, by omega, by omega, rfl, h5, en5⟩
                  case measure => simp [intOf]; omega
                · have hrz : (0 : Int) ≤ (r : Int) := by omega
                  have hrz8 : ¬ (r : Int) < 8 := by omega
                  go_wp2_with fail
                  refine (frFloor_out p (r : Int) (by omega) _).mono ?_
                  rintro e w5 ⟨rfl, rfl⟩
                  go_wp2_with fail
                  go_roundw
                  case rel => exact ⟨(r : Int) + 1, by omega, by omega, rfl, hst, hen⟩
                  case measure => simp [intOf]; omega
            · obtain rfl : z = 9 := by omega
              have hd := hst.drew
              have k4 := kk _ _ hd
              have hML' : M.length ≤ 1000000 := by omega
              go_wp2_with fail
              go_region_held3 (fun w' => w'.cell? ⟨gx, 0, none⟩ = some (.int .i64 id.1) ∧ w'.cell? ⟨gx, 1, none⟩ = some (.int .i64 id.2)) (first | exact k4 | exact k5 | exact k6 | exact k7 | exact k8 | exact k9 | exact k10 | exact k14)
                (first
                  | (go_at_call 72; refine (frAbove p M (by omega) H2 _ _ hd.swap).mono ?_; rintro e w5 ⟨v1, R1, rfl, ha1, h5, en5⟩; obtain rfl : R1 = abL M M := AbP.one ha1 (abL_ab hris.out); have k5 := kk _ _ h5)
                  | (go_at_call 53; refine (sameIds_any _ _ (abL M M) (abL M M) w5 (h5.row_rw (by omega)) ((h5.pick 2 (by simp)).row_rw (by omega))).mono ?_; rintro e w6 ⟨rfl, hb6⟩; rw [decide_eq_true rfl]; have h6 := (h5.below hb6).drop; have k6 := kk _ _ h6)
                  | (go_at_call 76; refine (frHas p M id H2 _ w6 h6).mono ?_; rintro e w7 ⟨rfl, hb7⟩; have h7 := h6.below hb7; have k7 := kk _ _ h7; clear h6)
                  | (go_at_call 56; refine (hasIds_any _ M id w7 (hr8'.rw h7)).mono ?_; rintro e w8 ⟨rfl, hb8⟩; have h8 := h7.below hb8; have k8 := kk _ _ h8)
                  | (go_at_call 70; refine (frMark_nil id w8).mono ?_; rintro e w9 ⟨rfl, hb9⟩; have h9 := h8.below hb9; have k9 := kk _ _ h9)
                  | (go_at_call 76; refine (frHas_nil id w9).mono ?_; rintro e w10 ⟨rfl, hb10⟩; have h10 := h9.below hb10; have k10 := kk _ _ h10)
                  | (go_at_call 71; refine (frFloor_nil 0 w10).mono ?_; rintro e w11 ⟨rfl, rfl⟩)
                  | (go_at_call 73; refine (frLen_nil w10).mono ?_; rintro e w12 ⟨rfl, rfl⟩)
                  | (go_at_call 74; refine (frTwin_nil w10).mono ?_; rintro e w13 ⟨rfl, rfl⟩)
                  | (go_at_call 68; refine (works05 w10).mono ?_; rintro e w14 ⟨rfl, hb14⟩; have h14 := h10.below hb14; have k14 := kk _ _ h14))
              have hz := (h14.weaken hle).toBelow ((((((((hen.drew.trans en5).trans (bel_env hb6)).trans (bel_env hb7)).trans (bel_env hb8)).trans (bel_env hb9)).trans (bel_env hb10)).trans (bel_env hb14)))
              go_wp2_with fail
              go_ret
              exact ⟨rfl, hz⟩
end Go.Proofs.Ytmdmekdmlkhchaa
