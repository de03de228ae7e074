/- Joined texts: CParts. -/
import Derived.Test.YtohgcghobidfpaaGreatCP26
import Derived.Test.YtohgcghobidfpaaGreatCP27
/- Law 17: CompsParts. -/
set_option linter.unusedVariables false
set_option linter.unusedSimpArgs false
namespace Go.Proofs.YtohgcghobidfpaaGreat
open Go.RowKit Go.Cw Go.Fl
attribute [local go_sem ↓] eql_id neq_id
theorem parts_at {l : List Rp} {F : List (List Id)} (h : CompsOf l F) {a b : Id} (ha : clU l a) (hb : clU l b) : (atFrom a F 0 = atFrom b F 0) ↔ muD l a b := h.at_mu muD_symm muD_trans ha hb
theorem lensI_take (F : List (List Id)) (k : Nat) : lensI (F.take k) ≤ lensI F := by
  have : lensI F = lensI (F.take k) + lensI (F.drop k) := by
    unfold lensI
    rw [← List.sum_append, ← List.map_append, List.take_append_drop]
  omega
theorem lensI_next (X : List Lv) (k : Nat) (h : k < X.length) : lensI ((lists X).take (k + 1)) = lensI ((lists X).take k) + X[k].1.length := by
  rw [lensI_snoc _ k (by rw [lists_len]; exact h)]
  simp [lists]
open Classical in
set_option maxRecDepth 100000 in
set_option maxHeartbeats 40000000 in
theorem compsParts_any (u : Value) (l : List Rc) (w : World) (hx : Rw w 5 u (recs l)) (hl : ∀ x ∈ l, RcR w x) :
    Calls Tryz.prog 5 #[u] w fun e w' => e = .returned (.bool true) ∧ Below w.heap.size w w' := by
  obtain ⟨A, n, c, rfl, hn, hnc, hc⟩ := hx.form
  rw [recs_len] at hn
  obtain rfl : n = l.length := by omega
  clear hn
  have hrd := hx.rd
  have hld : Hid (∀ x ∈ l, RcD (snap w) x) := Lib.hid (fun x hm => ⟨(hl x hm).d.rd, (hl x hm).b.rd, (hl x hm).ok⟩)
  obtain ⟨H1, hH1⟩ : ∃ H1, H1 = snap w := ⟨_, rfl⟩
  have h1 : St H1 [] w := by rw [hH1]; exact St.start w
  have l1 : Hp.le (snap w) H1 := by rw [hH1]; exact Hp.le_refl _
  have en1 := Env.refl w
  have hFew := few15_any (.slice A l.length c) l 14 _ ((hrd.mono l1).rw h1) (fun x hm => ((hld.out x hm).mono l1).rw h1)
  obtain ⟨B, hB⟩ : ∃ B, (fewR l && decide ((l.length : Int) ≤ 14)) = B := ⟨_, rfl⟩
  rw [hB] at hFew
  replace hFew := Lib.hid hFew
  have hck := Lib.hid (fun (w' : World) (h' : St H1 [] w') => refGr_any (.slice A l.length c) l w' ((hrd.mono l1).rw h') (fun x hm => ((hld.out x hm).mono l1).rw h'))
  clear hx hl hH1
  have hwk : ∀ (H' : Hp) (l' : List HA) (w' w'' : World), Hp.le (snap w) H' → St H' l' w' → Env w w' → Below w'.heap.size w' w'' → Hid (Below w.heap.size w w'') := fun H' l' w' w'' hl h en hb => Lib.hid ((h.weaken hl |>.below hb).toBelow (en.trans (bel_env hb)))
  go_enter Tryz.func5, Tryz.ntmps5
  go_wp2_with fail
  refine hFew.out.mono ?_
  rintro e w2 ⟨rfl, hb2⟩
  have h2 := h1.below hb2
  have en2 := en1.trans (bel_env hb2)
  clear hFew
  have work : ∀ (H' : Hp) (w' : World), Hp.le (snap w) H' → St H' [] w' → Env w w' → Calls Tryz.prog 10 #[] w' fun e w'' => e = .returned (.bool true) ∧ Hid (Below w.heap.size w w'') := fun H' w' hl h' en => (works17 w').mono (by
    rintro e w'' ⟨rfl, hb⟩
    exact ⟨rfl, hwk H' [] w' w'' hl h' en hb⟩)
  replace work := Lib.hid work
  cases B with
  | false =>
    go_wp2_with fail
    refine (work.out H1 _ l1 h2 en2).mono ?_
    rintro e w3 ⟨rfl, hz⟩
    go_wp2_with fail
    go_ret
    exact ⟨rfl, hz.out⟩
  | true =>
    have hl20 : l.length ≤ 14 := by
      rw [Bool.and_eq_true, decide_eq_true_eq] at hB
      omega
    go_wp2_with fail
    refine (hck.out _ h2).mono ?_
    rintro e w3 ⟨rfl, hb3⟩
    have h3 := h2.below hb3
    have en3 := en2.trans (bel_env hb3)
    by_cases hE : gErr [] (l.map rp) = 0
    · have hok : ∀ x ∈ l, recErr (rp x) = 0 := fun x hm => gErr_zero _ _ hE (rp x) (List.mem_map.2 ⟨x, hm, rfl⟩)
      have hl16 : ∀ x ∈ l, x.2.2.2.2.1.length ≤ 16 := fun x hm => (recErr_len _ (hok x hm)).1
      have hN := Lib.hid ((newGr_any (.slice A l.length c) l w3 ((hrd.mono l1).rw h3) (fun x hm => ((hld.out x hm).mono l1).rw h3) (by omega)).mono (fun e w' h => NewR.ok h (by rw [List.length_map]; omega)))
      rw [hE]
      go_wp2_with fail
      refine hN.out.mono ?_
      rintro e w4 (⟨_, p, L, H, hle, h4, hg, hLm, en4, rfl⟩ | ⟨hno, _⟩)
      case inr => exact absurd hE hno
      have hlen : L.length = l.length := by have := congrArg List.length hLm; simpa using this
      have l1H : Hp.le H1 H := Hp.le_trans (fun k o hk => h3.imm k o hk) hle
      replace en4 := en3.trans en4
      have l0H := Hp.le_trans l1 l1H
      have hrd2 := hrd.mono l0H
      have hldH : Hid (∀ x ∈ l, RcD H x) := Lib.hid (fun x hm => (hld.out x hm).mono l0H)
      have hCo := comps_any p L H [] w4 h4 hg (by omega)
      have hRC := fun (Hc : Hp) (fr : List HA) (w' : World) (hl : Hp.le H Hc) (h' : St Hc fr w') => refClosed_any (.slice A l.length c) l Hc fr w' h' (hrd2.mono hl) (fun x hm => (hldH.out x hm).mono hl) hl16 (by omega)
      have hRM := fun (a b : Id) (Hc : Hp) (fr : List HA) (w' : World) (hl : Hp.le H Hc) (h' : St Hc fr w') => refMut_any (.slice A l.length c) l a b Hc fr w' h' (hrd2.mono hl) (fun x hm => (hldH.out x hm).mono hl) hl16 (by omega)
      replace hCo := Lib.hid hCo
      replace hRC := Lib.hid hRC
      replace hRM := Lib.hid hRM
      clear hN hck hld hrd h3 en3 hb3 hb2 h2 en2 hE hok hB h1 en1
      go_wp2_with fail
      refine hCo.out.mono ?_
      rintro e w5 ⟨cv, X, H5, rfl, l5, h5, en5, hX, hco⟩
      rw [hLm] at hco
      obtain ⟨cv1, cv2, cv3, rfl, hcv, _⟩ := h5.row_form
      rw [vals_len] at hcv
      obtain rfl : cv2 = X.length := by omega
      obtain ⟨H6, l6, h6, hXr⟩ := h5.row_keep
      replace h6 := h6.drop
      replace en5 := en4.trans en5
      have hX6 := Lib.hid (hX.mono l6)
      have l56 := Hp.le_trans l5 l6
      replace hco := Lib.hid hco
      clear hCo h5 en4 h4 hX hcv
      go_wp2_with fail
      refine (hRC.out H6 _ w5 l56 h6).mono ?_
      rintro e w6 ⟨rv, C2, H7, rfl, l7, h7, en7, hrs2, hrm2⟩
      obtain ⟨rv1, rv2, rv3, rfl, hrv, _⟩ := h7.row_form
      rw [idl_len] at hrv
      obtain rfl : rv2 = C2.length := by omega
      obtain ⟨H8, l8, h8, hC2⟩ := h7.row_keep
      replace en7 := en5.trans en7
      have l78 := Hp.le_trans l7 l8
      have l58 := Hp.le_trans l56 l78
      have hXr8 := hXr.mono l78
      obtain ⟨hXb1, hXb2⟩ := hXr.bound
      have hX8 := Lib.hid (hX6.out.mono l78)
      have hCl : C2.length ≤ 14 := by
        have := sub_len16 C2 (rids l) (rises_nodup hrs2) (fun a ha => ((hrm2 a).1 ha).1)
        rw [List.length_map] at this
        omega
      have hU : Hid (∀ a ∈ C2, clU (l.map rp) a) := Lib.hid (fun a ha => by have := (hrm2 a).1 ha; exact ⟨by rw [pids_rp]; exact this.1, this.2⟩)
      have hsum : lensI (lists X) = C2.length := hco.out.len (kfR_id _) muD_symm muD_trans clU_mu (rises_nodup hrs2) (fun a => by rw [hrm2]; unfold clU; rw [pids_rp])
      clear hRC h6 h7 en5 hX6 hXr hrv hrs2 hrm2
      go_wp2_with fail
      go_loopw [6, 8] (fun s6 s8 wr => ∃ (k : Nat), k ≤ X.length ∧ s8 = .int .i64 (k : Int) ∧ s6 = .int .i64 ((lensI ((lists X).take k) : Nat) : Int) ∧ St H8 [] wr ∧ Env w wr) (fun _ s8 _ => X.length - (intOf s8).toNat)
      case atStart => exact ⟨0, by omega, by go_num, by simp [lensI], h8, en7⟩
      case round =>
        clear h8 en7
        obtain ⟨k, hk, rfl, rfl, hst, hen⟩ := hrel
        by_cases hlt : k < X.length
        · obtain ⟨b, off, hA, hcr⟩ := (hXr8.rw hst).cells (by omega)
          cases hA
          have q0 := hcr _ _ (vals_get X k hlt)
          rw [Nat.mul_one] at q0
          clear hcr
          have ql := World.block_lt_of_cell? _ _ q0
          have hnx := lensI_next X k hlt
          have hbn := lensI_take (lists X) (k + 1)
          have hxr := hX8.out X[k] (List.getElem_mem hlt)
          generalize X[k] = x at *
          obtain ⟨xl, xv⟩ := x
          simp only at q0 hxr hnx
          obtain ⟨xA, xn, xc, rfl, hx1, _⟩ := hxr.form
          rw [idl_len] at hx1
          obtain rfl : xn = xl.length := by omega
          generalize lensI ((lists X).take k) = s0 at *
          have hw1 : IntKind.i64.wrap ((s0 : Int) + (xl.length : Int)) = (s0 : Int) + (xl.length : Int) := by rw [IntKind.wrap_i64]; omega
          have hs1 : Hid (((lensI ((lists X).take (k + 1)) : Nat) : Int) = (s0 : Int) + (xl.length : Int)) := Lib.hid (by omega)
          have hk1 := Lib.hid (show k + 1 ≤ X.length by omega)
          clear hxr hx1 hnx hbn
          go_wp2_with fail
          go_roundw
          case rel => exact ⟨k + 1, hk1.out, by go_num, by rw [hs1.out], hst, hen⟩
          case measure => simp [intOf]; have := hk1.out; omega
        · obtain rfl : k = X.length := by omega
          have hsum2 : lensI ((lists X).take X.length) = C2.length := by rw [← lists_len, List.take_length]; exact hsum
          rw [hsum2]
          clear hsum hsum2 hlt hk
          go_wp2_with fail
          go_loopw [9] (fun s9 wr => ∃ (i : Nat) (H' : Hp), i ≤ C2.length ∧ s9 = .int .i64 (i : Int) ∧ Hp.le H8 H' ∧ St H' [] wr ∧ Env w wr) (fun s9 _ => C2.length - (intOf s9).toNat)
          case atStart => exact ⟨0, H8, by omega, by go_num, Hp.le_refl _, hst, hen⟩
          case round =>
            clear hst hen
            obtain ⟨i, H9, hi, rfl, l9, hst, hen⟩ := hrel
            by_cases hit : i < C2.length
            · have hi1 := Lib.hid (show i + 1 ≤ C2.length by omega)
              go_wp2_with fail
              go_loopw [10] (fun s10 wr => ∃ (j : Nat) (H' : Hp), j ≤ C2.length ∧ s10 = .int .i64 (j : Int) ∧ Hp.le H8 H' ∧ St H' [] wr ∧ Env w wr) (fun s10 _ => C2.length - (intOf s10).toNat)
              case atStart => exact ⟨0, H9, by omega, by go_num, l9, hst, hen⟩
              case round =>
                clear hst hen l9 H9
                obtain ⟨j, H9, hj, rfl, l9, hst, hen⟩ := hrel
                by_cases hjt : j < C2.length
                · have hj1 := Lib.hid (show j + 1 ≤ C2.length by omega)
                  obtain ⟨b, off, hA, hcr⟩ := Rd.form2 (hC2.mono l9) (by omega)
                  cases hA
                  have q0 := hcr _ _ (idl_fst C2 i hit)
                  have q1 := hcr _ _ (idl_snd C2 i hit)
                  have r0 := hcr _ _ (idl_fst C2 j hjt)
                  have r1 := hcr _ _ (idl_snd C2 j hjt)
                  rw [← Nat.add_assoc] at q1 r1
                  clear hcr
                  have ha := hU.out _ (List.getElem_mem hit)
                  have hb := hU.out _ (List.getElem_mem hjt)
                  generalize C2[i] = a at *
                  generalize C2[j] = bb at *
                  have hat := parts_at hco.out ha hb
                  have hmu : decide (a ∈ rids l ∧ bb ∈ rids l ∧ muD (l.map rp) a bb) = (atFrom a (lists X) 0 == atFrom bb (lists X) 0) := by
                    have e1 : a ∈ rids l := by rw [← pids_rp]; exact ha.1
                    have e2 : bb ∈ rids l := by rw [← pids_rp]; exact hb.1
                    by_cases hm : muD (l.map rp) a bb
                    · rw [decide_eq_true ⟨e1, e2, hm⟩, hat.2 hm]; simp
                    · rw [decide_eq_false (fun h => hm h.2.2)]
                      exact (beq_eq_false_iff_ne.2 (fun h => hm (hat.1 h))).symm
                  have hRMx := fun (Hc : Hp) (w' : World) (hl : Hp.le H Hc) (h' : St Hc [] w') => hRM.out a bb Hc [] w' hl h'
                  rw [hmu] at hRMx
                  replace hRMx := Lib.hid hRMx
                  have hA1 := fun (Hc : Hp) (w' : World) (hl : Hp.le H8 Hc) (h' : St Hc [] w') => refAt_any (.slice cv1 X.length cv3) X a w' ⟨(hXr8.mono hl).rw h', fun x hx => ((hX8.out x hx).mono hl).rw h'⟩
                  have hA2 := fun (Hc : Hp) (w' : World) (hl : Hp.le H8 Hc) (h' : St Hc [] w') => refAt_any (.slice cv1 X.length cv3) X bb w' ⟨(hXr8.mono hl).rw h', fun x hx => ((hX8.out x hx).mono hl).rw h'⟩
                  unfold AtR at hA1 hA2
                  generalize atFrom a (lists X) 0 = z1 at *
                  generalize atFrom bb (lists X) 0 = z2 at *
                  replace hA1 := Lib.hid hA1
                  replace hA2 := Lib.hid hA2
                  obtain ⟨a0, a1⟩ := a
                  obtain ⟨b0, b1⟩ := bb
                  simp only at q0 q1 r0 r1
                  clear ha hb hat hmu
                  have kk : ∀ (H' : Hp) (l' : List HA) (w' : World), Hp.le H9 H' → St H' l' w' → w'.cell? ⟨b, off + i * 2, none⟩ = some (.int .i64 a0) ∧ w'.cell? ⟨b, off + i * 2 + 1, none⟩ = some (.int .i64 a1) ∧ w'.cell? ⟨b, off + j * 2, none⟩ = some (.int .i64 b0) ∧ w'.cell? ⟨b, off + j * 2 + 1, none⟩ = some (.int .i64 b1) := fun H' l' w' hl h' => ⟨h'.cell (Hp.cell_le hl q0), h'.cell (Hp.cell_le hl q1), h'.cell (Hp.cell_le hl r0), h'.cell (Hp.cell_le hl r1)⟩
                  have l89 := l9
                  replace hst := hst.drew
                  replace hen := hen.drew
                  have lc := Hp.le_refl H9
                  replace kk := Lib.hid kk
                  clear q0 q1 r0 r1
                  go_wp2_with fail
                  refine wp_region_held_drew (S := fun w' => w'.cell? ⟨b, off + i * 2, none⟩ = some (.int .i64 a0) ∧ w'.cell? ⟨b, off + i * 2 + 1, none⟩ = some (.int .i64 a1) ∧ w'.cell? ⟨b, off + j * 2, none⟩ = some (.int .i64 b0) ∧ w'.cell? ⟨b, off + j * 2 + 1, none⟩ = some (.int .i64 b1)) (by kernel_rfl) (kk.out _ _ _ lc hst) (fun hHeld => ?_)
                  refine wpAnyH_take (i := 0) (oi := { dst := some 56, op := Go.Op.move (Go.Operand.tmp 5), type := 31, pos := "law.go:63", after := #[], guard := none }) (v := ?_) rfl (by kernel_rfl) (by kernel_rfl) (by kernel_rfl) (fun _ _ _ h => h) (Or.inl ⟨by rfl, ?_⟩) (by assumption) ?_
                  rotate_left
                  · (intro w hSw; (try dsimp only at hSw); go_simp; (try (with_reducible rfl)))
                  try simp only [Act.put, List.setIfInBounds_toArray, List.set_cons_zero, List.set_cons_succ]
                  refine wpAnyH_take (i := 1) (oi := { dst := some 57, op := Go.Op.move (Go.Operand.tmp 7), type := 35, pos := "law.go:63", after := #[], guard := none }) (v := ?_) rfl (by kernel_rfl) (by kernel_rfl) (by kernel_rfl) (fun _ _ _ h => h) (Or.inl ⟨by rfl, ?_⟩) (by assumption) ?_
                  rotate_left
                  · (intro w hSw; (try dsimp only at hSw); go_simp; (try (with_reducible rfl)))
                  try simp only [Act.put, List.setIfInBounds_toArray, List.set_cons_zero, List.set_cons_succ]
                  refine wpAnyH_take (i := 2) (oi := { dst := some 58, op := Go.Op.move (Go.Operand.tmp 9), type := 3, pos := "law.go:63", after := #[], guard := none }) (v := ?_) rfl (by kernel_rfl) (by kernel_rfl) (by kernel_rfl) (fun _ _ _ h => h) (Or.inl ⟨by rfl, ?_⟩) (by assumption) ?_
                  rotate_left
                  · (intro w hSw; (try dsimp only at hSw); go_simp; (try (with_reducible rfl)))
                  try simp only [Act.put, List.setIfInBounds_toArray, List.set_cons_zero, List.set_cons_succ]
                  refine wpAnyH_take (i := 3) (oi := { dst := some 59, op := Go.Op.indexAddr 35 (Go.Operand.tmp 57) (Go.Operand.tmp 58), type := 0, pos := "law.go:63", after := #[{ on := 1, ground := Go.Ground.data }, { on := 2, ground := Go.Ground.data }], guard := none }) (v := ?_) rfl (by kernel_rfl) (by kernel_rfl) (by kernel_rfl) (fun _ _ _ h => h) (Or.inl ⟨by rfl, ?_⟩) (by assumption) ?_
                  rotate_left
                  · (intro w hSw; (try dsimp only at hSw); go_simp; (try (with_reducible rfl)))
                  try simp only [Act.put, List.setIfInBounds_toArray, List.set_cons_zero, List.set_cons_succ]
                  refine wpAnyH_take (i := 4) (oi := { dst := some 60, op := Go.Op.load 41 (Go.Operand.tmp 59), type := 41, pos := "law.go:63", after := #[{ on := 3, ground := Go.Ground.data }], guard := none }) (v := ?_) rfl (by kernel_rfl) (by kernel_rfl) (by kernel_rfl) (fun _ _ _ h => h) (Or.inl ⟨by rfl, ?_⟩) (by assumption) ?_
                  rotate_left
                  · (intro w hSw; (try dsimp only at hSw); go_simp; (try (with_reducible rfl)))
                  try simp only [Act.put, List.setIfInBounds_toArray, List.set_cons_zero, List.set_cons_succ]
                  refine wpAnyH_take (i := 6) (oi := { dst := some 62, op := Go.Op.move (Go.Operand.tmp 5), type := 31, pos := "law.go:63", after := #[], guard := none }) (v := ?_) rfl (by kernel_rfl) (by kernel_rfl) (by kernel_rfl) (fun _ _ _ h => h) (Or.inl ⟨by rfl, ?_⟩) (by assumption) ?_
                  rotate_left
                  · (intro w hSw; (try dsimp only at hSw); go_simp; (try (with_reducible rfl)))
                  try simp only [Act.put, List.setIfInBounds_toArray, List.set_cons_zero, List.set_cons_succ]
                  refine wpAnyH_take (i := 7) (oi := { dst := some 63, op := Go.Op.move (Go.Operand.tmp 7), type := 35, pos := "law.go:63", after := #[], guard := none }) (v := ?_) rfl (by kernel_rfl) (by kernel_rfl) (by kernel_rfl) (fun _ _ _ h => h) (Or.inl ⟨by rfl, ?_⟩) (by assumption) ?_
                  rotate_left
                  · (intro w hSw; (try dsimp only at hSw); go_simp; (try (with_reducible rfl)))
                  try simp only [Act.put, List.setIfInBounds_toArray, List.set_cons_zero, List.set_cons_succ]
                  refine wpAnyH_take (i := 8) (oi := { dst := some 64, op := Go.Op.move (Go.Operand.tmp 10), type := 3, pos := "law.go:63", after := #[], guard := none }) (v := ?_) rfl (by kernel_rfl) (by kernel_rfl) (by kernel_rfl) (fun _ _ _ h => h) (Or.inl ⟨by rfl, ?_⟩) (by assumption) ?_
                  rotate_left
                  · (intro w hSw; (try dsimp only at hSw); go_simp; (try (with_reducible rfl)))
                  try simp only [Act.put, List.setIfInBounds_toArray, List.set_cons_zero, List.set_cons_succ]
                  refine wpAnyH_take (i := 9) (oi := { dst := some 65, op := Go.Op.indexAddr 35 (Go.Operand.tmp 63) (Go.Operand.tmp 64), type := 0, pos := "law.go:63", after := #[{ on := 7, ground := Go.Ground.data }, { on := 8, ground := Go.Ground.data }], guard := none }) (v := ?_) rfl (by kernel_rfl) (by kernel_rfl) (by kernel_rfl) (fun _ _ _ h => h) (Or.inl ⟨by rfl, ?_⟩) (by assumption) ?_
                  rotate_left
                  · (intro w hSw; (try dsimp only at hSw); go_simp; (try (with_reducible rfl)))
                  try simp only [Act.put, List.setIfInBounds_toArray, List.set_cons_zero, List.set_cons_succ]
                  refine wpAnyH_take (i := 10) (oi := { dst := some 66, op := Go.Op.load 41 (Go.Operand.tmp 65), type := 41, pos := "law.go:63", after := #[{ on := 9, ground := Go.Ground.data }], guard := none }) (v := ?_) rfl (by kernel_rfl) (by kernel_rfl) (by kernel_rfl) (fun _ _ _ h => h) (Or.inl ⟨by rfl, ?_⟩) (by assumption) ?_
                  rotate_left
                  · (intro w hSw; (try dsimp only at hSw); go_simp; (try (with_reducible rfl)))
                  try simp only [Act.put, List.setIfInBounds_toArray, List.set_cons_zero, List.set_cons_succ]
                  refine wpAnyH_take (i := 13) (oi := { dst := some 69, op := Go.Op.move (Go.Operand.tmp 0), type := 22, pos := "law.go:63", after := #[], guard := none }) (v := ?_) rfl (by kernel_rfl) (by kernel_rfl) (by kernel_rfl) (fun _ _ _ h => h) (Or.inl ⟨by rfl, ?_⟩) (by assumption) ?_
                  rotate_left
                  · (intro w hSw; (try dsimp only at hSw); go_simp; (try (with_reducible rfl)))
                  try simp only [Act.put, List.setIfInBounds_toArray, List.set_cons_zero, List.set_cons_succ]
                  refine wpAnyH_take (i := 14) (oi := { dst := some 70, op := Go.Op.move (Go.Operand.tmp 7), type := 35, pos := "law.go:63", after := #[], guard := none }) (v := ?_) rfl (by kernel_rfl) (by kernel_rfl) (by kernel_rfl) (fun _ _ _ h => h) (Or.inl ⟨by rfl, ?_⟩) (by assumption) ?_
                  rotate_left
                  · (intro w hSw; (try dsimp only at hSw); go_simp; (try (with_reducible rfl)))
                  try simp only [Act.put, List.setIfInBounds_toArray, List.set_cons_zero, List.set_cons_succ]
                  refine wpAnyH_take (i := 15) (oi := { dst := some 71, op := Go.Op.move (Go.Operand.tmp 9), type := 3, pos := "law.go:63", after := #[], guard := none }) (v := ?_) rfl (by kernel_rfl) (by kernel_rfl) (by kernel_rfl) (fun _ _ _ h => h) (Or.inl ⟨by rfl, ?_⟩) (by assumption) ?_
                  rotate_left
                  · (intro w hSw; (try dsimp only at hSw); go_simp; (try (with_reducible rfl)))
                  try simp only [Act.put, List.setIfInBounds_toArray, List.set_cons_zero, List.set_cons_succ]
                  refine wpAnyH_take (i := 16) (oi := { dst := some 72, op := Go.Op.indexAddr 35 (Go.Operand.tmp 70) (Go.Operand.tmp 71), type := 0, pos := "law.go:63", after := #[{ on := 14, ground := Go.Ground.data }, { on := 15, ground := Go.Ground.data }], guard := none }) (v := ?_) rfl (by kernel_rfl) (by kernel_rfl) (by kernel_rfl) (fun _ _ _ h => h) (Or.inl ⟨by rfl, ?_⟩) (by assumption) ?_
                  rotate_left
                  · (intro w hSw; (try dsimp only at hSw); go_simp; (try (with_reducible rfl)))
                  try simp only [Act.put, List.setIfInBounds_toArray, List.set_cons_zero, List.set_cons_succ]
                  refine wpAnyH_take (i := 17) (oi := { dst := some 73, op := Go.Op.load 41 (Go.Operand.tmp 72), type := 41, pos := "law.go:63", after := #[{ on := 16, ground := Go.Ground.data }], guard := none }) (v := ?_) rfl (by kernel_rfl) (by kernel_rfl) (by kernel_rfl) (fun _ _ _ h => h) (Or.inl ⟨by rfl, ?_⟩) (by assumption) ?_
                  rotate_left
                  · (intro w hSw; (try dsimp only at hSw); go_simp; (try (with_reducible rfl)))
                  try simp only [Act.put, List.setIfInBounds_toArray, List.set_cons_zero, List.set_cons_succ]
                  refine wpAnyH_take (i := 18) (oi := { dst := some 74, op := Go.Op.move (Go.Operand.tmp 7), type := 35, pos := "law.go:63", after := #[], guard := none }) (v := ?_) rfl (by kernel_rfl) (by kernel_rfl) (by kernel_rfl) (fun _ _ _ h => h) (Or.inl ⟨by rfl, ?_⟩) (by assumption) ?_
                  rotate_left
                  · (intro w hSw; (try dsimp only at hSw); go_simp; (try (with_reducible rfl)))
                  try simp only [Act.put, List.setIfInBounds_toArray, List.set_cons_zero, List.set_cons_succ]
                  refine wpAnyH_take (i := 19) (oi := { dst := some 75, op := Go.Op.move (Go.Operand.tmp 10), type := 3, pos := "law.go:63", after := #[], guard := none }) (v := ?_) rfl (by kernel_rfl) (by kernel_rfl) (by kernel_rfl) (fun _ _ _ h => h) (Or.inl ⟨by rfl, ?_⟩) (by assumption) ?_
                  rotate_left
                  · (intro w hSw; (try dsimp only at hSw); go_simp; (try (with_reducible rfl)))
                  try simp only [Act.put, List.setIfInBounds_toArray, List.set_cons_zero, List.set_cons_succ]
                  refine wpAnyH_take (i := 20) (oi := { dst := some 76, op := Go.Op.indexAddr 35 (Go.Operand.tmp 74) (Go.Operand.tmp 75), type := 0, pos := "law.go:63", after := #[{ on := 18, ground := Go.Ground.data }, { on := 19, ground := Go.Ground.data }], guard := none }) (v := ?_) rfl (by kernel_rfl) (by kernel_rfl) (by kernel_rfl) (fun _ _ _ h => h) (Or.inl ⟨by rfl, ?_⟩) (by assumption) ?_
                  rotate_left
                  · (intro w hSw; (try dsimp only at hSw); go_simp; (try (with_reducible rfl)))
                  try simp only [Act.put, List.setIfInBounds_toArray, List.set_cons_zero, List.set_cons_succ]
                  refine wpAnyH_take (i := 21) (oi := { dst := some 77, op := Go.Op.load 41 (Go.Operand.tmp 76), type := 41, pos := "law.go:63", after := #[{ on := 20, ground := Go.Ground.data }], guard := none }) (v := ?_) rfl (by kernel_rfl) (by kernel_rfl) (by kernel_rfl) (fun _ _ _ h => h) (Or.inl ⟨by rfl, ?_⟩) (by assumption) ?_
                  rotate_left
                  · (intro w hSw; (try dsimp only at hSw); go_simp; (try (with_reducible rfl)))
                  try simp only [Act.put, List.setIfInBounds_toArray, List.set_cons_zero, List.set_cons_succ]
                  refine wpAnyH_ready (rs := [5]) (by kernel_rfl) (by simp) ?_
                  refine AllReadyH.cons (o := { dst := some 61, op := Go.Op.call { callee := Go.Callee.value (Go.Operand.func 21), args := #[Go.Operand.tmp 56, Go.Operand.tmp 60], argTypes := #[31, 41] }, type := 3, pos := "law.go:63", after := #[{ on := 0, ground := Go.Ground.data }, { on := 4, ground := Go.Ground.data }], guard := none }) rfl (fun K hK => ?_) AllReadyH.nil
                  go_simp
                  refine (hA1.out _ _ (Hp.le_trans l89 lc) hst).mono ?_
                  rintro e wA ⟨rfl, hbA⟩
                  replace hst := hst.below hbA
                  replace hen := hen.trans (bel_env hbA)
                  refine hK.out _ _ (kk.out _ _ _ lc hst) (fun hHeld => ?_)
                  clear hK K hbA
                  try simp only [Act.put, List.setIfInBounds_toArray, List.set_cons_zero, List.set_cons_succ]
                  refine wpAnyH_ready (rs := [11]) (by kernel_rfl) (by simp) ?_
                  refine AllReadyH.cons (o := { dst := some 67, op := Go.Op.call { callee := Go.Callee.value (Go.Operand.func 21), args := #[Go.Operand.tmp 62, Go.Operand.tmp 66], argTypes := #[31, 41] }, type := 3, pos := "law.go:63", after := #[{ on := 6, ground := Go.Ground.data }, { on := 10, ground := Go.Ground.data }, { on := 5, ground := Go.Ground.chain }], guard := none }) rfl (fun K hK => ?_) AllReadyH.nil
                  go_simp
                  refine (hA2.out _ _ (Hp.le_trans l89 lc) hst).mono ?_
                  rintro e wB ⟨rfl, hbB⟩
                  replace hst := hst.below hbB
                  replace hen := hen.trans (bel_env hbB)
                  refine hK.out _ _ (kk.out _ _ _ lc hst) (fun hHeld => ?_)
                  clear hK K hbB
                  try simp only [Act.put, List.setIfInBounds_toArray, List.set_cons_zero, List.set_cons_succ]
                  refine wpAnyH_take (i := 12) (oi := { dst := some 68, op := Go.Op.binOp Go.BinOp.eql 3 (Go.Operand.tmp 61) (Go.Operand.tmp 67) 3, type := 4, pos := "law.go:63", after := #[{ on := 5, ground := Go.Ground.data }, { on := 11, ground := Go.Ground.data }], guard := none }) (v := ?_) rfl (by kernel_rfl) (by kernel_rfl) (by kernel_rfl) (fun _ _ _ h => h) (Or.inl ⟨by rfl, ?_⟩) (by assumption) ?_
                  rotate_left
                  · (intro w hSw; (try dsimp only at hSw); go_simp; (try (with_reducible rfl)))
                  try simp only [Act.put, List.setIfInBounds_toArray, List.set_cons_zero, List.set_cons_succ]
                  refine wpAnyH_ready (rs := [22]) (by kernel_rfl) (by simp) ?_
                  refine AllReadyH.cons (o := { dst := some 78, op := Go.Op.call { callee := Go.Callee.value (Go.Operand.func 19), args := #[Go.Operand.tmp 69, Go.Operand.tmp 73, Go.Operand.tmp 77], argTypes := #[22, 41, 41] }, type := 4, pos := "law.go:63", after := #[{ on := 13, ground := Go.Ground.data }, { on := 17, ground := Go.Ground.data }, { on := 21, ground := Go.Ground.data }, { on := 11, ground := Go.Ground.chain }], guard := none }) rfl (fun K hK => ?_) AllReadyH.nil
                  go_simp
                  refine (hRMx.out _ _ (Hp.le_trans l58 (Hp.le_trans l89 lc)) hst).mono ?_
                  rintro e wC ⟨HC, rfl, lC, hC, enC⟩
                  replace hst := hC
                  replace hen := hen.trans enC
                  replace lc := Hp.le_trans lc lC
                  refine hK.out _ _ (kk.out _ _ _ lc hst) (fun hHeld => ?_)
                  clear hK K hC enC lC
                  try simp only [Act.put, List.setIfInBounds_toArray, List.set_cons_zero, List.set_cons_succ]
                  refine wpAnyH_take (i := 23) (oi := { dst := some 79, op := Go.Op.binOp Go.BinOp.neq 4 (Go.Operand.tmp 68) (Go.Operand.tmp 78) 4, type := 4, pos := "law.go:63", after := #[{ on := 12, ground := Go.Ground.data }, { on := 22, ground := Go.Ground.data }], guard := none }) (v := ?_) rfl (by kernel_rfl) (by kernel_rfl) (by kernel_rfl) (fun _ _ _ h => h) (Or.inl ⟨by rfl, ?_⟩) (by assumption) ?_
                  rotate_left
                  · (intro w hSw; (try dsimp only at hSw); go_simp; (try (with_reducible rfl)))
                  try simp only [Act.put, List.setIfInBounds_toArray, List.set_cons_zero, List.set_cons_succ]
                  refine wpAnyH_done (by kernel_rfl) ?_ _
                  all_goals
                    have hbb : ((z1 == z2) != (z1 == z2)) = false := by simp
                    have l8c := Hp.le_trans l89 lc
                    clear hA1 hA2 hRMx kk
                    generalize hzz : (z1 == z2) = zz at *
                    go_wp2_with fail
                    go_roundw
                    case rel => exact ⟨j + 1, _, hj1.out, by go_num, l8c, hst, hen⟩
                    case measure => simp [intOf]; omega
                · obtain rfl : j = C2.length := by omega
                  go_wp2_with fail
                  go_roundw
                  case rel => exact ⟨i + 1, H9, hi1.out, by go_num, l9, hst, hen⟩
                  case measure => simp [intOf]; omega
            · obtain rfl : i = C2.length := by omega
              have hw := work.out H9 wr (Hp.le_trans l0H (Hp.le_trans l58 l9)) hst hen
              replace hw := Lib.hid hw
              go_wp2_with fail
              refine hw.out.mono ?_
              rintro e w3 ⟨rfl, hz⟩
              go_wp2_with fail
              go_ret
              exact ⟨rfl, hz.out⟩
    · have hne : (gErr [] (l.map rp) != 0) = true := by simpa using hE
      generalize gErr [] (l.map rp) = E at *
      go_wp2_with fail
      refine (work.out H1 _ l1 h3 en3).mono ?_
      rintro e w4 ⟨rfl, hz⟩
      go_wp2_with fail
      go_ret
      exact ⟨rfl, hz.out⟩
end Go.Proofs.YtohgcghobidfpaaGreat
