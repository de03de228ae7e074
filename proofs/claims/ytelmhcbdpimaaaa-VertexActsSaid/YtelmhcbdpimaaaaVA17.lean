/- Joined texts: Prem3. -/
import Derived.Test.YtelmhcbdpimaaaaVA16
/- The premise: Holds. -/
set_option linter.unusedVariables false
set_option linter.unusedSimpArgs false
namespace Go.Proofs.Ytelmhcbdpimaaaa
open Go.RowKit Go.Cw Go.Fl
attribute [local go_sem ↓] eql_id neq_id
def inn (x : Rp) (r : List Rp) (rest : Option (Id × Id)) : Option (Id × Id) := match r.find? (lackR x) with
  | some y => some (x.1, y.1)
  | none => rest
theorem inn_cons (x y : Rp) (r : List Rp) (rest : Option (Id × Id)) : inn x (y :: r) rest = if lackR x y then some (x.1, y.1) else inn x r rest := by
  unfold inn
  rw [List.find?_cons]
  cases lackR x y <;> rfl
/-- The first two that lack an edge. -/
def flk : List Rp → Option (Id × Id)
  | [] => none
  | x :: r => inn x r (flk r)
theorem flk_drop (S : List Rp) (k : Nat) (h : k < S.length) : flk (S.drop k) = inn S[k] (S.drop (k + 1)) (flk (S.drop (k + 1))) := by rw [List.drop_eq_getElem_cons h, flk]
theorem inn_drop (S : List Rp) (x : Rp) (m : Nat) (h : m < S.length) (rest : Option (Id × Id)) : inn x (S.drop m) rest = if lackR x S[m] then some (x.1, S[m].1) else inn x (S.drop (m + 1)) rest := by rw [List.drop_eq_getElem_cons h, inn_cons]
def holdsR (S : List Rp) : Id × Id × Bool := match flk S with
  | some p => (p.1, p.2, false)
  | none => ((0, 0), (0, 0), true)
/-- A graph's records in order. -/
def grS (L : List Rc) : List Rp := (sortL (rids L)).map (lookR (L.map rp))
def HoldRes (H : Hp) (p : Nat) (L : List Rc) (fr : List HA) (w : World) (e : Ending) (w' : World) : Prop :=
  ∃ (H' : Hp) (a b : Id) (ok : Bool), holdsR (grS L) = (a, b, ok) ∧ Hp.le H H' ∧ St H' (GrA p L :: fr) w' ∧ Env w w' ∧ e = .returned (.tuple #[idV a, idV b, .bool ok])
set_option maxRecDepth 100000 in
set_option maxHeartbeats 6400000 in
theorem holds_any (p : Nat) (L : List Rc) (H : Hp) (fr : List HA) (w : World) (h : St H (GrA p L :: fr) w) (hg : GrOk H L) :
    Calls Try.prog 16 #[grP p] w (HoldRes H p L fr w) := by
  have h1 := h.blk #[.int .i64 0, .int .i64 0] 28
  have h2 := h1.blk #[.int .i64 0, .int .i64 0] 28
  have e1 : (w.alloc (.cells #[.int .i64 0, .int .i64 0] 28)).heap.size = w.heap.size + 1 := by simp
  rw [e1] at h2
  have en2 := ((Env.refl w).alloc (.cells #[.int .i64 0, .int .i64 0] 28)).alloc (.cells #[.int .i64 0, .int .i64 0] 28)
  clear h1 e1 h
  go_enter Try.func16, Try.ntmps16
  go_wp2_with fail
  go_step3
  go_wp2_with fail
  generalize (w.alloc (.cells #[.int .i64 0, .int .i64 0] 28)).alloc (.cells #[.int .i64 0, .int .i64 0] 28) = W at *
  generalize w.heap.size + 1 = g3 at *
  generalize w.heap.size = g2 at *
  refine (grIds_any p L H _ _ (h2.pick 2 (by simp)) hg.d hg.n).mono ?_
  rintro e w3 ⟨vI, R, rfl, h3, en3, hrR, hmR⟩
  have hRe := told_pids hrR hmR
  subst hRe
  obtain ⟨H4, l4, h4, hvI⟩ := h3.row_keep
  have en4 := en2.trans en3
  have hg4 := hg.mono l4
  have hRl : (sortL (rids L)).length ≤ 1000000 := by
    have a := sortL_len (rids L)
    have b := hg.n
    rw [List.length_map] at a
    omega
  have hlen := lookR_len hg
  replace hlen := Lib.hid hlen
  clear h2 h3 en2 en3 hrR hmR
  obtain ⟨RL, HRL⟩ : ∃ RL, Hid (RL = sortL (rids L)) := ⟨_, Lib.hid rfl⟩
  rw [← HRL.out] at hRl hvI
  obtain ⟨iA, i2, i3, rfl, hi4, hi5, hi6⟩ := hvI.form
  rw [idl_len] at hi4
  obtain rfl : i2 = RL.length := by omega
  clear hi4
  go_wp2_with fail
  have h5 := h4.row_nil 32 5
  go_loopw [5, 18] (fun lv i wr => ∃ (k : Nat) (M : List Rc) (H' : Hp), k ≤ RL.length ∧ i = .int .i64 (k : Int) ∧ Hp.le H4 H' ∧ St H' (Row 32 5 lv (recs M) :: GrA p L :: Blk g3 #[.int .i64 0, .int .i64 0] 28 :: Blk g2 #[.int .i64 0, .int .i64 0] 28 :: fr) wr ∧ Env w wr ∧ Hid (M.map rp = (RL.take k).map (lookR (L.map rp)) ∧ ∀ x ∈ M, RcD H' x)) (fun _ i _ => RL.length - (intOf i).toNat)
  case atStart => exact ⟨0, [], H4, by omega, by go_num, Hp.le_refl _, h5, en4, Lib.hid ⟨by simp, by simp⟩⟩
  case round =>
    clear h5 h4 en4
    obtain ⟨k, M, H5, hk, rfl, l5, h5, en5, hM⟩ := hrel
    by_cases hlt : k < RL.length
    · obtain ⟨b, off, hA, hcr⟩ := ((hvI.mono l5).rw h5).cells (by omega)
      cases hA
      have p0 := hcr _ _ (idl_fst RL k hlt)
      have p1 := hcr _ _ (idl_snd RL k hlt)
      rw [← Nat.add_assoc] at p1
      clear hcr
      have pl := World.block_lt_of_cell? _ _ p0
      have htk : Hid (RL.take (k + 1) = RL.take k ++ [RL[k]]) := Lib.hid (by rw [List.take_add_one, List.getElem?_eq_getElem hlt]; rfl)
      have hMk : M.length = k := by have := congrArg List.length hM.out.1; simpa [Nat.min_eq_left hk] using this
      replace hMk := Lib.hid hMk
      generalize RL[k] = a at *
      obtain ⟨r, s⟩ := a
      simp only at p0 p1
      obtain ⟨H6, l6, h6, ya⟩ := h5.box #[.int .i64 r, .int .i64 s] 28
      have en6 := en5.alloc (.cells #[.int .i64 r, .int .i64 s] 28)
      have u0 := h6.cell (ya 0 _ rfl)
      have u1 := h6.cell (ya 1 _ rfl)
      have ul := World.block_lt_of_cell? _ _ u0
      clear ya
      go_wp2_with fail
      generalize wr.alloc (.cells #[.int .i64 r, .int .i64 s] 28) = W6 at *
      generalize wr.heap.size = gx at *
      refine (grRecord_any p L (r, s) H6 _ _ (h6.swap) (hg4.mono (Hp.le_trans l5 l6))).mono ?_
      rintro e w7 ⟨H7, x, l7, h7, en7, rfl, hx, hxl⟩
      obtain ⟨d1, d2, d3, hdv, _⟩ := hx.d.form
      obtain ⟨b1', b2', b3', hbv, _⟩ := hx.b.form
      obtain ⟨H8, l8, h8, xc⟩ := St.rcBox h7 x
      have en8 := (en6.trans en7).alloc (.cells (rcA x) 32)
      have hx8 := hx.mono l8
      have hone := rec_one x hx8
      obtain ⟨ok, hok⟩ : ∃ ok, decide (((r, s) : Id) ∈ rids L) = ok := ⟨_, rfl⟩
      rw [hok]
      replace hxl := Lib.hid hxl
      clear hok p0 p1 pl u0 u1 ul h5 h6 h7 en5 en6 en7 hx
      have hM8 : Hid ((M ++ [x]).map rp = (RL.take (k + 1)).map (lookR (L.map rp)) ∧ ∀ y ∈ M ++ [x], RcD H8 y) := Lib.hid ⟨by rw [htk.out, List.map_append, List.map_append, hM.out.1, List.map_cons, List.map_cons, hxl.out]; rfl, fun y hy => by
        rcases List.mem_append.1 hy with hy | hy
        · exact (hM.out.2 y hy).mono (Hp.le_trans l6 (Hp.le_trans l7 l8))
        · obtain rfl := List.mem_singleton.1 hy
          exact hx8⟩
      have l9 := Hp.le_trans l5 (Hp.le_trans l6 (Hp.le_trans l7 l8))
      have hra : recs (M ++ [x]) = recs M ++ recc x := by rw [recs_append]; simp [recs]
      replace hra := Lib.hid hra
      obtain ⟨⟨xr, xs⟩, xq, xd, xb, xD, xB⟩ := x
      simp only at hdv hbv
      subst hdv hbv
      try simp only [rcA] at h8 en8 xc
      have u0 := h8.cell xc.1
      have u1 := h8.cell xc.2.1
      have u2 := h8.cell xc.2.2.1
      have u3 := h8.cell xc.2.2.2.1
      have u4 := h8.cell xc.2.2.2.2
      have ul := World.block_lt_of_cell? _ _ u0
      try simp only at u0 u1 u2 u3 u4
      have hMl : M.length ≤ 1000000 := by have := hMk.out; omega
      go_wp2_with (at_builtin; refine wpList_append rfl (.tmp 28) (.tmp 30) 22 22 rfl Try.underlying22 (.inl ⟨_, Try.underlying22⟩) (.agg #[.int .i64 0, .int .i64 0, .int .i64 0, .slice none 0 0, .slice none 0 0]) 72 info_rec rfl (by decide) (by decide) rfl rfl (h8.swap.alloc _) (news_at _ _ 1 #[.int .i64 xr, .int .i64 xs, .int .i64 xq, .slice d1 d2 d3, .slice b1' b2' b3'] rfl (by simpa [recc] using hone) (by simp)) ?apB2 ?apK2)
      try case apB2 => first | omega | (simp; omega) | (simp [recs_len]; omega) | skip
      intro v' w9 h9 en9
      clear hMl
      go_wp2_with fail
      go_roundw
      case rel => exact ⟨k + 1, M ++ [((xr, xs), xq, .slice d1 d2 d3, .slice b1' b2' b3', xD, xB)], H8, by omega, by go_num, l9, by rw [hra.out]; exact h9, (en8.alloc _).trans en9, hM8⟩
      case measure => simp [intOf]; omega
    · obtain rfl : k = RL.length := by omega
      have hMS : M.map rp = grS L := by rw [hM.out.1, List.take_length, HRL.out]; rfl
      have hMd := hM.out.2
      have hMl : M.length ≤ 1000000 := by have := congrArg List.length hM.out.1; simp at this; omega
      obtain ⟨H6, l6, h6, hvM⟩ := h5.row_keep
      replace hMd : ∀ x ∈ M, RcD H6 x := fun x hx => (hMd x hx).mono l6
      have h7 := h6.blk #[.int .i64 0, .int .i64 0] 28
      have h8 := h7.blk #[.int .i64 0, .int .i64 0] 28
      have e1 : (wr.alloc (.cells #[.int .i64 0, .int .i64 0] 28)).heap.size = wr.heap.size + 1 := by simp
      rw [e1] at h8
      have en8 := (en5.alloc (.cells #[.int .i64 0, .int .i64 0] 28)).alloc (.cells #[.int .i64 0, .int .i64 0] 28)
      have le8 := Hp.le_trans l4 (Hp.le_trans l5 l6)
      obtain ⟨mA, m2, m3, rfl, hm4, hm5, hm6⟩ := hvM.form
      rw [recs_len] at hm4
      obtain rfl : m2 = M.length := by omega
      clear hm4 h5 h6 h7 e1 en5 hM hvI hi5 hi6 hRl hg4
      go_wp2_with fail
      generalize (wr.alloc (.cells #[.int .i64 0, .int .i64 0] 28)).alloc (.cells #[.int .i64 0, .int .i64 0] 28) = W8 at *
      generalize wr.heap.size + 1 = gb at *
      generalize wr.heap.size = ga at *
      obtain ⟨T, hT⟩ : ∃ T, Hid (flk (M.map rp) = T) := ⟨_, Lib.hid rfl⟩
      have hTg : Hid (flk (grS L) = T) := Lib.hid (by rw [← hMS]; exact hT.out)
      have hdM := fun k (hk : k < M.length) => flk_drop (M.map rp) k (by rwa [List.length_map])
      have hiM := fun x m (hm : m < M.length) rest => inn_drop (M.map rp) x m (by rwa [List.length_map]) rest
      replace hdM := Lib.hid hdM
      replace hiM := Lib.hid hiM
      replace hMS := Lib.hid hMS
      replace hMd := Lib.hid hMd
      go_step3
      go_wp2_with fail
      go_loopw [12, 35] (fun s12 i wr => ∃ k : Nat, k ≤ M.length ∧ s12 = .bool true ∧ i = .int .i64 (k : Int) ∧ St H6 (Blk gb #[.int .i64 0, .int .i64 0] 28 :: Blk ga #[.int .i64 0, .int .i64 0] 28 :: GrA p L :: Blk g3 #[.int .i64 0, .int .i64 0] 28 :: Blk g2 #[.int .i64 0, .int .i64 0] 28 :: fr) wr ∧ Env w wr ∧ Hid (flk ((M.map rp).drop k) = T)) (fun _ i _ => M.length - (intOf i).toNat)
      case atStart => exact ⟨0, by omega, rfl, by go_num, h8, en8, hT⟩
      case round =>
        clear h8 en8 hT
        obtain ⟨k, hk, rfl, rfl, hst, hen, hTk⟩ := hrel
        obtain ⟨wo, rfl⟩ : ∃ wo : World, wo = wr := ⟨_, rfl⟩
        by_cases hlt : k < M.length
        · obtain ⟨lb, lo, hA, hcr⟩ := rd_at hvM (by omega)
          cases hA
          obtain ⟨p0, p1, p2, p3, p4⟩ := recs_get M k hlt
          replace p0 := hcr _ _ p0
          replace p1 := hcr _ _ p1
          replace p2 := hcr _ _ p2
          replace p3 := hcr _ _ p3
          replace p4 := hcr _ _ p4
          rw [← Nat.add_assoc] at p1 p2 p3 p4
          have hTk2 := hTk.out
          rw [hdM.out k hlt, List.getElem_map] at hTk2
          have hxD := Lib.hid (hMd.out M[k] (List.getElem_mem hlt))
          replace hcr := Lib.hid hcr
          generalize M[k] = x at *
          obtain ⟨d1, d2, d3, hdv, _⟩ := hxD.out.d.form
          obtain ⟨b1, b2, b3, hbv, _⟩ := hxD.out.b.form
          obtain ⟨⟨r, s⟩, q, xd, xb, xD, xB⟩ := x
          simp only at hdv hbv p0 p1 p2 p3 p4 hTk2
          subst hdv hbv
          have hst0 : Hid (inn ((r, s), q, xD, xB) ((M.map rp).drop (max 0 (k + 1))) (flk ((M.map rp).drop (k + 1))) = T) := Lib.hid (by rw [Nat.max_eq_right (by omega)]; exact hTk2)
          clear hTk2
          have hk0 : (0 : Int) ≤ (k : Int) := by omega
          have hkl : (k : Int) < (M.length : Int) := by omega
          go_wp2_with fail
          go_loopw [12, 40] (fun s12 j wr => ∃ m : Nat, m ≤ M.length ∧ s12 = .bool true ∧ j = .int .i64 (m : Int) ∧ St H6 (Blk gb #[.int .i64 0, .int .i64 0] 28 :: Blk ga #[.int .i64 0, .int .i64 0] 28 :: GrA p L :: Blk g3 #[.int .i64 0, .int .i64 0] 28 :: Blk g2 #[.int .i64 0, .int .i64 0] 28 :: fr) wr ∧ Env w wr ∧ Hid (inn ((r, s), q, xD, xB) ((M.map rp).drop (max m (k + 1))) (flk ((M.map rp).drop (k + 1))) = T)) (fun _ j _ => M.length - (intOf j).toNat)
          case atStart => exact ⟨0, by omega, rfl, by go_num, hst, hen, hst0⟩
          case round =>
            clear hst hen hst0
            obtain ⟨m, hm, rfl, rfl, hst, hen, hI⟩ := hrel
            by_cases hlt2 : m < M.length
            · obtain ⟨q0, q1, q2, q3, q4⟩ := recs_get M m hlt2
              replace q0 := hcr.out _ _ q0
              replace q1 := hcr.out _ _ q1
              replace q2 := hcr.out _ _ q2
              replace q3 := hcr.out _ _ q3
              replace q4 := hcr.out _ _ q4
              rw [← Nat.add_assoc] at q1 q2 q3 q4
              have hI2 := hI.out
              have hyD := Lib.hid (hMd.out M[m] (List.getElem_mem hlt2))
              have hst3 := hiM.out ((r, s), q, xD, xB) m hlt2 (flk ((M.map rp).drop (k + 1)))
              rw [List.getElem_map] at hst3
              generalize M[m] = y at *
              obtain ⟨e1, e2, e3, hev, _⟩ := hyD.out.d.form
              obtain ⟨f1, f2, f3, hfv, _⟩ := hyD.out.b.form
              obtain ⟨⟨r', s'⟩, q', yd, yb, yD, yB⟩ := y
              simp only at hev hfv q0 q1 q2 q3 q4 hst3
              subst hev hfv
              have kk : ∀ (l' : List HA) (w' : World), St H6 l' w' → (fun w' : World => w'.cell? ⟨lb, lo + k * 5, none⟩ = some (.int .i64 r) ∧ w'.cell? ⟨lb, lo + k * 5 + 1, none⟩ = some (.int .i64 s) ∧ w'.cell? ⟨lb, lo + k * 5 + 2, none⟩ = some (.int .i64 q) ∧ w'.cell? ⟨lb, lo + k * 5 + 3, none⟩ = some (.slice d1 d2 d3) ∧ w'.cell? ⟨lb, lo + k * 5 + 4, none⟩ = some (.slice b1 b2 b3) ∧ w'.cell? ⟨lb, lo + m * 5, none⟩ = some (.int .i64 r') ∧ w'.cell? ⟨lb, lo + m * 5 + 1, none⟩ = some (.int .i64 s') ∧ w'.cell? ⟨lb, lo + m * 5 + 2, none⟩ = some (.int .i64 q') ∧ w'.cell? ⟨lb, lo + m * 5 + 3, none⟩ = some (.slice e1 e2 e3) ∧ w'.cell? ⟨lb, lo + m * 5 + 4, none⟩ = some (.slice f1 f2 f3)) w' := fun l' w' h => ⟨h.cell p0, h.cell p1, h.cell p2, h.cell p3, h.cell p4, h.cell q0, h.cell q1, h.cell q2, h.cell q3, h.cell q4⟩
              have hm0 : (0 : Int) ≤ (m : Int) := by omega
              have hml : (m : Int) < (M.length : Int) := by omega
              have hD := hst.drew
              have enD := hen.drew
              by_cases hkm : k < m
              · rw [Nat.max_eq_left (by omega), hst3] at hI2
                have hdec : decide ((k : Int) < (m : Int)) = true := decide_eq_true (by omega)
                have hLk := fun w' (h' : St H6 (Blk gb #[.int .i64 0, .int .i64 0] 28 :: Blk ga #[.int .i64 0, .int .i64 0] 28 :: GrA p L :: Blk g3 #[.int .i64 0, .int .i64 0] 28 :: Blk g2 #[.int .i64 0, .int .i64 0] 28 :: fr) w') => lacks_any ((r, s), q, .slice d1 d2 d3, .slice b1 b2 b3, xD, xB) ((r', s'), q', .slice e1 e2 e3, .slice f1 f2 f3, yD, yB) w' (hxD.out.rw h') (hyD.out.rw h')
                try simp only at hLk
                cases hlk : lackR ((r, s), q, xD, xB) ((r', s'), q', yD, yB) with
                | false =>
                  rw [hlk, if_neg (by simp)] at hI2
                  simp only [hlk] at hLk
                  replace hLk := Lib.hid hLk
                  replace hI2 := Lib.hid hI2
                  clear hlk hst3 hst hen hI
                  go_wp2_with fail
                  refine wp_region_held_drew (S := (fun w' : World => w'.cell? ⟨lb, lo + k * 5, none⟩ = some (.int .i64 r) ∧ w'.cell? ⟨lb, lo + k * 5 + 1, none⟩ = some (.int .i64 s) ∧ w'.cell? ⟨lb, lo + k * 5 + 2, none⟩ = some (.int .i64 q) ∧ w'.cell? ⟨lb, lo + k * 5 + 3, none⟩ = some (.slice d1 d2 d3) ∧ w'.cell? ⟨lb, lo + k * 5 + 4, none⟩ = some (.slice b1 b2 b3) ∧ w'.cell? ⟨lb, lo + m * 5, none⟩ = some (.int .i64 r') ∧ w'.cell? ⟨lb, lo + m * 5 + 1, none⟩ = some (.int .i64 s') ∧ w'.cell? ⟨lb, lo + m * 5 + 2, none⟩ = some (.int .i64 q') ∧ w'.cell? ⟨lb, lo + m * 5 + 3, none⟩ = some (.slice e1 e2 e3) ∧ w'.cell? ⟨lb, lo + m * 5 + 4, none⟩ = some (.slice f1 f2 f3))) (by kernel_rfl) (kk _ _ hD) (fun hHeld => ?_)
                  refine wpAnyH_take (i := 0) (oi := { dst := some 43, op := Go.Op.move (Go.Operand.tmp 14), type := 3, pos := "premise.go:37", after := #[], guard := none }) (v := ?_) rfl (by kernel_rfl) (by kernel_rfl) (by kernel_rfl) (fun _ _ _ h => h) (Or.inl ⟨by rfl, ?_⟩) (by assumption) ?_
                  rotate_left
                  · (intro w hSw; (try dsimp only at hSw); go_simp; (try (with_reducible rfl)))
                  try simp only [Act.put, List.setIfInBounds_toArray, List.set_cons_zero, List.set_cons_succ]
                  refine wpAnyH_take (i := 1) (oi := { dst := some 44, op := Go.Op.move (Go.Operand.tmp 13), type := 3, pos := "premise.go:37", after := #[], guard := none }) (v := ?_) rfl (by kernel_rfl) (by kernel_rfl) (by kernel_rfl) (fun _ _ _ h => h) (Or.inl ⟨by rfl, ?_⟩) (by assumption) ?_
                  rotate_left
                  · (intro w hSw; (try dsimp only at hSw); go_simp; (try (with_reducible rfl)))
                  try simp only [Act.put, List.setIfInBounds_toArray, List.set_cons_zero, List.set_cons_succ]
                  refine wpAnyH_take (i := 2) (oi := { dst := some 45, op := Go.Op.binOp Go.BinOp.gtr 3 (Go.Operand.tmp 43) (Go.Operand.tmp 44) 3, type := 4, pos := "premise.go:37", after := #[{ on := 0, ground := Go.Ground.data }, { on := 1, ground := Go.Ground.data }], guard := none }) (v := ?_) rfl (by kernel_rfl) (by kernel_rfl) (by kernel_rfl) (fun _ _ _ h => h) (Or.inl ⟨by rfl, ?_⟩) (by assumption) ?_
                  rotate_left
                  · (intro w hSw; (try dsimp only at hSw); go_simp; (try (with_reducible rfl)))
                  try simp only [Act.put, List.setIfInBounds_toArray, List.set_cons_zero, List.set_cons_succ]
                  refine wpAnyH_take (i := 3) (oi := { dst := some 46, op := Go.Op.move (Go.Operand.tmp 45), type := 4, pos := "premise.go:37", after := #[{ on := 2, ground := Go.Ground.data }], guard := none }) (v := ?_) rfl (by kernel_rfl) (by kernel_rfl) (by kernel_rfl) (fun _ _ _ h => h) (Or.inl ⟨by rfl, ?_⟩) (by assumption) ?_
                  rotate_left
                  · (intro w hSw; (try dsimp only at hSw); go_simp; (try (with_reducible rfl)))
                  try simp only [Act.put, List.setIfInBounds_toArray, List.set_cons_zero, List.set_cons_succ]
                  refine wpAnyH_take (i := 4) (oi := { dst := some 47, op := Go.Op.move (Go.Operand.tmp 5), type := 22, pos := "premise.go:37", after := #[{ on := 3, ground := Go.Ground.guard }], guard := some (3, true) }) (v := ?_) rfl (by kernel_rfl) (by kernel_rfl) (by kernel_rfl) (fun _ _ _ h => h) (Or.inl ⟨by rfl, ?_⟩) (by assumption) ?_
                  rotate_left
                  · (intro w hSw; (try dsimp only at hSw); go_simp; (try (with_reducible rfl)))
                  try simp only [Act.put, List.setIfInBounds_toArray, List.set_cons_zero, List.set_cons_succ]
                  refine wpAnyH_take (i := 5) (oi := { dst := some 48, op := Go.Op.move (Go.Operand.tmp 13), type := 3, pos := "premise.go:37", after := #[{ on := 3, ground := Go.Ground.guard }], guard := some (3, true) }) (v := ?_) rfl (by kernel_rfl) (by kernel_rfl) (by kernel_rfl) (fun _ _ _ h => h) (Or.inl ⟨by rfl, ?_⟩) (by assumption) ?_
                  rotate_left
                  · (intro w hSw; (try dsimp only at hSw); go_simp; (try (with_reducible rfl)))
                  try simp only [Act.put, List.setIfInBounds_toArray, List.set_cons_zero, List.set_cons_succ]
                  refine wpAnyH_take (i := 6) (oi := { dst := some 49, op := Go.Op.indexAddr 22 (Go.Operand.tmp 47) (Go.Operand.tmp 48), type := 0, pos := "premise.go:37", after := #[{ on := 4, ground := Go.Ground.data }, { on := 5, ground := Go.Ground.data }, { on := 3, ground := Go.Ground.guard }], guard := some (3, true) }) (v := ?_) rfl (by kernel_rfl) (by kernel_rfl) (by kernel_rfl) (fun _ _ _ h => h) (Or.inl ⟨by rfl, ?_⟩) (by assumption) ?_
                  rotate_left
                  · (intro w hSw; (try dsimp only at hSw); go_simp; (try (with_reducible rfl)))
                  try simp only [Act.put, List.setIfInBounds_toArray, List.set_cons_zero, List.set_cons_succ]
                  refine wpAnyH_take (i := 7) (oi := { dst := some 50, op := Go.Op.load 32 (Go.Operand.tmp 49), type := 32, pos := "premise.go:37", after := #[{ on := 6, ground := Go.Ground.data }, { on := 3, ground := Go.Ground.guard }], guard := some (3, true) }) (v := ?_) rfl (by kernel_rfl) (by kernel_rfl) (by kernel_rfl) (fun _ _ _ h => h) (Or.inl ⟨by rfl, ?_⟩) (by assumption) ?_
                  rotate_left
                  · (intro w hSw; (try dsimp only at hSw); go_simp; (try (with_reducible rfl)))
                  try simp only [Act.put, List.setIfInBounds_toArray, List.set_cons_zero, List.set_cons_succ]
                  refine wpAnyH_take (i := 8) (oi := { dst := some 51, op := Go.Op.move (Go.Operand.tmp 5), type := 22, pos := "premise.go:37", after := #[{ on := 3, ground := Go.Ground.guard }], guard := some (3, true) }) (v := ?_) rfl (by kernel_rfl) (by kernel_rfl) (by kernel_rfl) (fun _ _ _ h => h) (Or.inl ⟨by rfl, ?_⟩) (by assumption) ?_
                  rotate_left
                  · (intro w hSw; (try dsimp only at hSw); go_simp; (try (with_reducible rfl)))
                  try simp only [Act.put, List.setIfInBounds_toArray, List.set_cons_zero, List.set_cons_succ]
                  refine wpAnyH_take (i := 9) (oi := { dst := some 52, op := Go.Op.move (Go.Operand.tmp 14), type := 3, pos := "premise.go:37", after := #[{ on := 3, ground := Go.Ground.guard }], guard := some (3, true) }) (v := ?_) rfl (by kernel_rfl) (by kernel_rfl) (by kernel_rfl) (fun _ _ _ h => h) (Or.inl ⟨by rfl, ?_⟩) (by assumption) ?_
                  rotate_left
                  · (intro w hSw; (try dsimp only at hSw); go_simp; (try (with_reducible rfl)))
                  try simp only [Act.put, List.setIfInBounds_toArray, List.set_cons_zero, List.set_cons_succ]
                  refine wpAnyH_take (i := 10) (oi := { dst := some 53, op := Go.Op.indexAddr 22 (Go.Operand.tmp 51) (Go.Operand.tmp 52), type := 0, pos := "premise.go:37", after := #[{ on := 8, ground := Go.Ground.data }, { on := 9, ground := Go.Ground.data }, { on := 3, ground := Go.Ground.guard }], guard := some (3, true) }) (v := ?_) rfl (by kernel_rfl) (by kernel_rfl) (by kernel_rfl) (fun _ _ _ h => h) (Or.inl ⟨by rfl, ?_⟩) (by assumption) ?_
                  rotate_left
                  · (intro w hSw; (try dsimp only at hSw); go_simp; (try (with_reducible rfl)))
                  try simp only [Act.put, List.setIfInBounds_toArray, List.set_cons_zero, List.set_cons_succ]
                  refine wpAnyH_take (i := 11) (oi := { dst := some 54, op := Go.Op.load 32 (Go.Operand.tmp 53), type := 32, pos := "premise.go:37", after := #[{ on := 10, ground := Go.Ground.data }, { on := 3, ground := Go.Ground.guard }], guard := some (3, true) }) (v := ?_) rfl (by kernel_rfl) (by kernel_rfl) (by kernel_rfl) (fun _ _ _ h => h) (Or.inl ⟨by rfl, ?_⟩) (by assumption) ?_
                  rotate_left
                  · (intro w hSw; (try dsimp only at hSw); go_simp; (try (with_reducible rfl)))
                  try simp only [Act.put, List.setIfInBounds_toArray, List.set_cons_zero, List.set_cons_succ]
                  refine wpAnyH_ready (rs := [12]) (by kernel_rfl) (by simp) ?_
                  refine AllReadyH.cons (o := { dst := some 55, op := Go.Op.call { callee := Go.Callee.value (Go.Operand.func 57), args := #[Go.Operand.tmp 50, Go.Operand.tmp 54], argTypes := #[32, 32] }, type := 4, pos := "premise.go:37", after := #[{ on := 7, ground := Go.Ground.data }, { on := 11, ground := Go.Ground.data }, { on := 3, ground := Go.Ground.chain }, { on := 3, ground := Go.Ground.guard }], guard := some (3, true) }) rfl (fun K hK => ?_) AllReadyH.nil
                  go_simp
                  refine (hLk.out _ hD).mono ?_
                  rintro e w9 ⟨rfl, hb9⟩
                  replace hD := hD.below hb9
                  replace enD := enD.trans (bel_env hb9)
                  refine hK.out _ _ (kk _ _ hD) (fun hHeld2 => ?_)
                  clear hK K hHeld
                  try simp only [Act.put, List.setIfInBounds_toArray, List.set_cons_zero, List.set_cons_succ]
                  refine wpAnyH_take (i := 13) (oi := { dst := some 56, op := Go.Op.pick (Go.Operand.tmp 46) (Go.Operand.tmp 55) (Go.Operand.const (Go.Value.bool false)), type := 4, pos := "premise.go:37", after := #[{ on := 3, ground := Go.Ground.data }, { on := 12, ground := Go.Ground.data }], guard := none }) (v := ?_) rfl (by kernel_rfl) (by kernel_rfl) (by kernel_rfl) (fun _ _ _ h => h) (Or.inl ⟨by rfl, ?_⟩) (by assumption) ?_
                  rotate_left
                  · (intro w hSw; (try dsimp only at hSw); go_simp; (try (with_reducible rfl)))
                  try simp only [Act.put, List.setIfInBounds_toArray, List.set_cons_zero, List.set_cons_succ]
                  refine wpAnyH_done (by kernel_rfl) ?_ _
                  clear hHeld2 hdec hk0 hkl hm0 hml
                  go_wp2_with fail
                  go_roundw
                  case rel => exact ⟨m + 1, by omega, rfl, by go_num, hD, enD, by rw [Nat.max_eq_left (by omega)]; exact hI2⟩
                  case measure => simp [intOf]; omega
                | true =>
                  rw [hlk, if_pos rfl] at hI2
                  simp only [hlk] at hLk
                  replace hLk := Lib.hid hLk
                  have hres : Hid (holdsR (grS L) = ((r, s), (r', s'), false)) := Lib.hid (by unfold holdsR; rw [hTg.out, ← hI2])
                  clear hlk hst3 hst hen hI hI2
                  go_wp2_with fail
                  refine wp_region_held_drew (S := (fun w' : World => w'.cell? ⟨lb, lo + k * 5, none⟩ = some (.int .i64 r) ∧ w'.cell? ⟨lb, lo + k * 5 + 1, none⟩ = some (.int .i64 s) ∧ w'.cell? ⟨lb, lo + k * 5 + 2, none⟩ = some (.int .i64 q) ∧ w'.cell? ⟨lb, lo + k * 5 + 3, none⟩ = some (.slice d1 d2 d3) ∧ w'.cell? ⟨lb, lo + k * 5 + 4, none⟩ = some (.slice b1 b2 b3) ∧ w'.cell? ⟨lb, lo + m * 5, none⟩ = some (.int .i64 r') ∧ w'.cell? ⟨lb, lo + m * 5 + 1, none⟩ = some (.int .i64 s') ∧ w'.cell? ⟨lb, lo + m * 5 + 2, none⟩ = some (.int .i64 q') ∧ w'.cell? ⟨lb, lo + m * 5 + 3, none⟩ = some (.slice e1 e2 e3) ∧ w'.cell? ⟨lb, lo + m * 5 + 4, none⟩ = some (.slice f1 f2 f3))) (by kernel_rfl) (kk _ _ hD) (fun hHeld => ?_)
                  refine wpAnyH_take (i := 0) (oi := { dst := some 43, op := Go.Op.move (Go.Operand.tmp 14), type := 3, pos := "premise.go:37", after := #[], guard := none }) (v := ?_) rfl (by kernel_rfl) (by kernel_rfl) (by kernel_rfl) (fun _ _ _ h => h) (Or.inl ⟨by rfl, ?_⟩) (by assumption) ?_
                  rotate_left
                  · (intro w hSw; (try dsimp only at hSw); go_simp; (try (with_reducible rfl)))
                  try simp only [Act.put, List.setIfInBounds_toArray, List.set_cons_zero, List.set_cons_succ]
                  refine wpAnyH_take (i := 1) (oi := { dst := some 44, op := Go.Op.move (Go.Operand.tmp 13), type := 3, pos := "premise.go:37", after := #[], guard := none }) (v := ?_) rfl (by kernel_rfl) (by kernel_rfl) (by kernel_rfl) (fun _ _ _ h => h) (Or.inl ⟨by rfl, ?_⟩) (by assumption) ?_
                  rotate_left
                  · (intro w hSw; (try dsimp only at hSw); go_simp; (try (with_reducible rfl)))
                  try simp only [Act.put, List.setIfInBounds_toArray, List.set_cons_zero, List.set_cons_succ]
                  refine wpAnyH_take (i := 2) (oi := { dst := some 45, op := Go.Op.binOp Go.BinOp.gtr 3 (Go.Operand.tmp 43) (Go.Operand.tmp 44) 3, type := 4, pos := "premise.go:37", after := #[{ on := 0, ground := Go.Ground.data }, { on := 1, ground := Go.Ground.data }], guard := none }) (v := ?_) rfl (by kernel_rfl) (by kernel_rfl) (by kernel_rfl) (fun _ _ _ h => h) (Or.inl ⟨by rfl, ?_⟩) (by assumption) ?_
                  rotate_left
                  · (intro w hSw; (try dsimp only at hSw); go_simp; (try (with_reducible rfl)))
                  try simp only [Act.put, List.setIfInBounds_toArray, List.set_cons_zero, List.set_cons_succ]
                  refine wpAnyH_take (i := 3) (oi := { dst := some 46, op := Go.Op.move (Go.Operand.tmp 45), type := 4, pos := "premise.go:37", after := #[{ on := 2, ground := Go.Ground.data }], guard := none }) (v := ?_) rfl (by kernel_rfl) (by kernel_rfl) (by kernel_rfl) (fun _ _ _ h => h) (Or.inl ⟨by rfl, ?_⟩) (by assumption) ?_
                  rotate_left
                  · (intro w hSw; (try dsimp only at hSw); go_simp; (try (with_reducible rfl)))
                  try simp only [Act.put, List.setIfInBounds_toArray, List.set_cons_zero, List.set_cons_succ]
                  refine wpAnyH_take (i := 4) (oi := { dst := some 47, op := Go.Op.move (Go.Operand.tmp 5), type := 22, pos := "premise.go:37", after := #[{ on := 3, ground := Go.Ground.guard }], guard := some (3, true) }) (v := ?_) rfl (by kernel_rfl) (by kernel_rfl) (by kernel_rfl) (fun _ _ _ h => h) (Or.inl ⟨by rfl, ?_⟩) (by assumption) ?_
                  rotate_left
                  · (intro w hSw; (try dsimp only at hSw); go_simp; (try (with_reducible rfl)))
                  try simp only [Act.put, List.setIfInBounds_toArray, List.set_cons_zero, List.set_cons_succ]
                  refine wpAnyH_take (i := 5) (oi := { dst := some 48, op := Go.Op.move (Go.Operand.tmp 13), type := 3, pos := "premise.go:37", after := #[{ on := 3, ground := Go.Ground.guard }], guard := some (3, true) }) (v := ?_) rfl (by kernel_rfl) (by kernel_rfl) (by kernel_rfl) (fun _ _ _ h => h) (Or.inl ⟨by rfl, ?_⟩) (by assumption) ?_
                  rotate_left
                  · (intro w hSw; (try dsimp only at hSw); go_simp; (try (with_reducible rfl)))
                  try simp only [Act.put, List.setIfInBounds_toArray, List.set_cons_zero, List.set_cons_succ]
                  refine wpAnyH_take (i := 6) (oi := { dst := some 49, op := Go.Op.indexAddr 22 (Go.Operand.tmp 47) (Go.Operand.tmp 48), type := 0, pos := "premise.go:37", after := #[{ on := 4, ground := Go.Ground.data }, { on := 5, ground := Go.Ground.data }, { on := 3, ground := Go.Ground.guard }], guard := some (3, true) }) (v := ?_) rfl (by kernel_rfl) (by kernel_rfl) (by kernel_rfl) (fun _ _ _ h => h) (Or.inl ⟨by rfl, ?_⟩) (by assumption) ?_
                  rotate_left
                  · (intro w hSw; (try dsimp only at hSw); go_simp; (try (with_reducible rfl)))
                  try simp only [Act.put, List.setIfInBounds_toArray, List.set_cons_zero, List.set_cons_succ]
                  refine wpAnyH_take (i := 7) (oi := { dst := some 50, op := Go.Op.load 32 (Go.Operand.tmp 49), type := 32, pos := "premise.go:37", after := #[{ on := 6, ground := Go.Ground.data }, { on := 3, ground := Go.Ground.guard }], guard := some (3, true) }) (v := ?_) rfl (by kernel_rfl) (by kernel_rfl) (by kernel_rfl) (fun _ _ _ h => h) (Or.inl ⟨by rfl, ?_⟩) (by assumption) ?_
                  rotate_left
                  · (intro w hSw; (try dsimp only at hSw); go_simp; (try (with_reducible rfl)))
                  try simp only [Act.put, List.setIfInBounds_toArray, List.set_cons_zero, List.set_cons_succ]
                  refine wpAnyH_take (i := 8) (oi := { dst := some 51, op := Go.Op.move (Go.Operand.tmp 5), type := 22, pos := "premise.go:37", after := #[{ on := 3, ground := Go.Ground.guard }], guard := some (3, true) }) (v := ?_) rfl (by kernel_rfl) (by kernel_rfl) (by kernel_rfl) (fun _ _ _ h => h) (Or.inl ⟨by rfl, ?_⟩) (by assumption) ?_
                  rotate_left
                  · (intro w hSw; (try dsimp only at hSw); go_simp; (try (with_reducible rfl)))
                  try simp only [Act.put, List.setIfInBounds_toArray, List.set_cons_zero, List.set_cons_succ]
                  refine wpAnyH_take (i := 9) (oi := { dst := some 52, op := Go.Op.move (Go.Operand.tmp 14), type := 3, pos := "premise.go:37", after := #[{ on := 3, ground := Go.Ground.guard }], guard := some (3, true) }) (v := ?_) rfl (by kernel_rfl) (by kernel_rfl) (by kernel_rfl) (fun _ _ _ h => h) (Or.inl ⟨by rfl, ?_⟩) (by assumption) ?_
                  rotate_left
                  · (intro w hSw; (try dsimp only at hSw); go_simp; (try (with_reducible rfl)))
                  try simp only [Act.put, List.setIfInBounds_toArray, List.set_cons_zero, List.set_cons_succ]
                  refine wpAnyH_take (i := 10) (oi := { dst := some 53, op := Go.Op.indexAddr 22 (Go.Operand.tmp 51) (Go.Operand.tmp 52), type := 0, pos := "premise.go:37", after := #[{ on := 8, ground := Go.Ground.data }, { on := 9, ground := Go.Ground.data }, { on := 3, ground := Go.Ground.guard }], guard := some (3, true) }) (v := ?_) rfl (by kernel_rfl) (by kernel_rfl) (by kernel_rfl) (fun _ _ _ h => h) (Or.inl ⟨by rfl, ?_⟩) (by assumption) ?_
                  rotate_left
                  · (intro w hSw; (try dsimp only at hSw); go_simp; (try (with_reducible rfl)))
                  try simp only [Act.put, List.setIfInBounds_toArray, List.set_cons_zero, List.set_cons_succ]
                  refine wpAnyH_take (i := 11) (oi := { dst := some 54, op := Go.Op.load 32 (Go.Operand.tmp 53), type := 32, pos := "premise.go:37", after := #[{ on := 10, ground := Go.Ground.data }, { on := 3, ground := Go.Ground.guard }], guard := some (3, true) }) (v := ?_) rfl (by kernel_rfl) (by kernel_rfl) (by kernel_rfl) (fun _ _ _ h => h) (Or.inl ⟨by rfl, ?_⟩) (by assumption) ?_
                  rotate_left
                  · (intro w hSw; (try dsimp only at hSw); go_simp; (try (with_reducible rfl)))
                  try simp only [Act.put, List.setIfInBounds_toArray, List.set_cons_zero, List.set_cons_succ]
                  refine wpAnyH_ready (rs := [12]) (by kernel_rfl) (by simp) ?_
                  refine AllReadyH.cons (o := { dst := some 55, op := Go.Op.call { callee := Go.Callee.value (Go.Operand.func 57), args := #[Go.Operand.tmp 50, Go.Operand.tmp 54], argTypes := #[32, 32] }, type := 4, pos := "premise.go:37", after := #[{ on := 7, ground := Go.Ground.data }, { on := 11, ground := Go.Ground.data }, { on := 3, ground := Go.Ground.chain }, { on := 3, ground := Go.Ground.guard }], guard := some (3, true) }) rfl (fun K hK => ?_) AllReadyH.nil
                  go_simp
                  refine (hLk.out _ hD).mono ?_
                  rintro e w9 ⟨rfl, hb9⟩
                  replace hD := hD.below hb9
                  replace enD := enD.trans (bel_env hb9)
                  refine hK.out _ _ (kk _ _ hD) (fun hHeld2 => ?_)
                  clear hK K hHeld
                  try simp only [Act.put, List.setIfInBounds_toArray, List.set_cons_zero, List.set_cons_succ]
                  refine wpAnyH_take (i := 13) (oi := { dst := some 56, op := Go.Op.pick (Go.Operand.tmp 46) (Go.Operand.tmp 55) (Go.Operand.const (Go.Value.bool false)), type := 4, pos := "premise.go:37", after := #[{ on := 3, ground := Go.Ground.data }, { on := 12, ground := Go.Ground.data }], guard := none }) (v := ?_) rfl (by kernel_rfl) (by kernel_rfl) (by kernel_rfl) (fun _ _ _ h => h) (Or.inl ⟨by rfl, ?_⟩) (by assumption) ?_
                  rotate_left
                  · (intro w hSw; (try dsimp only at hSw); go_simp; (try (with_reducible rfl)))
                  try simp only [Act.put, List.setIfInBounds_toArray, List.set_cons_zero, List.set_cons_succ]
                  refine wpAnyH_done (by kernel_rfl) ?_ _
                  clear hHeld2 hdec
                  have fA1 := (hD.swap.blk_set 0 (.int .i64 r)).blk_set 1 (.int .i64 s)
                  have fB1 := (fA1.swap.blk_set 0 (.int .i64 r')).blk_set 1 (.int .i64 s')
                  have k4 : ∀ (l' : List HA) (w' : World), St H6 l' w' → (fun w' : World => w'.cell? ⟨lb, lo + k * 5, none⟩ = some (.int .i64 r) ∧ w'.cell? ⟨lb, lo + k * 5 + 1, none⟩ = some (.int .i64 s) ∧ w'.cell? ⟨lb, lo + m * 5, none⟩ = some (.int .i64 r') ∧ w'.cell? ⟨lb, lo + m * 5 + 1, none⟩ = some (.int .i64 s')) w' := fun l' w' h => ⟨h.cell p0, h.cell p1, h.cell q0, h.cell q1⟩
                  have a0 := hD.swap.blk_cell 0
                  have a1 := hD.swap.blk_cell 1
                  have af0 := hD.swap.blk_free 0
                  have af1 := hD.swap.blk_free 1
                  have b0 := fA1.swap.blk_cell 0
                  have b1' := fA1.swap.blk_cell 1
                  have bf0 := fA1.swap.blk_free 0
                  have bf1 := fA1.swap.blk_free 1
                  have al := hD.swap.blk_lt
                  have bl := hD.blk_lt
                  have k0 := k4 _ _ hD.drew
                  have kA := k4 _ _ fA1.drew
                  have kB := k4 _ _ fB1.drew
                  clear k4 p0 p1 p2 p3 p4 q0 q1 q2 q3 q4 kk
                  go_wp2_with fail
                  refine wp_region_held_drew (S := (fun w' : World => w'.cell? ⟨lb, lo + k * 5, none⟩ = some (.int .i64 r) ∧ w'.cell? ⟨lb, lo + k * 5 + 1, none⟩ = some (.int .i64 s) ∧ w'.cell? ⟨lb, lo + m * 5, none⟩ = some (.int .i64 r') ∧ w'.cell? ⟨lb, lo + m * 5 + 1, none⟩ = some (.int .i64 s'))) (by kernel_rfl) k0 (fun hHeld => ?_)
                  refine wpAnyH_take (i := 0) (oi := { dst := some 57, op := Go.Op.move (Go.Operand.tmp 5), type := 22, pos := "premise.go:38", after := #[], guard := none }) (v := ?_) rfl (by kernel_rfl) (by kernel_rfl) (by kernel_rfl) (fun _ _ _ h => h) (Or.inl ⟨by rfl, ?_⟩) (by assumption) ?_
                  rotate_left
                  · (intro w hSw; (try dsimp only at hSw); go_simp; (try (with_reducible rfl)))
                  try simp only [Act.put, List.setIfInBounds_toArray, List.set_cons_zero, List.set_cons_succ]
                  refine wpAnyH_take (i := 1) (oi := { dst := some 58, op := Go.Op.move (Go.Operand.tmp 13), type := 3, pos := "premise.go:38", after := #[], guard := none }) (v := ?_) rfl (by kernel_rfl) (by kernel_rfl) (by kernel_rfl) (fun _ _ _ h => h) (Or.inl ⟨by rfl, ?_⟩) (by assumption) ?_
                  rotate_left
                  · (intro w hSw; (try dsimp only at hSw); go_simp; (try (with_reducible rfl)))
                  try simp only [Act.put, List.setIfInBounds_toArray, List.set_cons_zero, List.set_cons_succ]
                  refine wpAnyH_take (i := 2) (oi := { dst := some 59, op := Go.Op.indexAddr 22 (Go.Operand.tmp 57) (Go.Operand.tmp 58), type := 0, pos := "premise.go:38", after := #[{ on := 0, ground := Go.Ground.data }, { on := 1, ground := Go.Ground.data }], guard := none }) (v := ?_) rfl (by kernel_rfl) (by kernel_rfl) (by kernel_rfl) (fun _ _ _ h => h) (Or.inl ⟨by rfl, ?_⟩) (by assumption) ?_
                  rotate_left
                  · (intro w hSw; (try dsimp only at hSw); go_simp; (try (with_reducible rfl)))
                  try simp only [Act.put, List.setIfInBounds_toArray, List.set_cons_zero, List.set_cons_succ]
                  refine wpAnyH_take (i := 3) (oi := { dst := some 60, op := Go.Op.fieldAddr 32 (Go.Operand.tmp 59) 0, type := 0, pos := "premise.go:38", after := #[{ on := 2, ground := Go.Ground.data }], guard := none }) (v := ?_) rfl (by kernel_rfl) (by kernel_rfl) (by kernel_rfl) (fun _ _ _ h => h) (Or.inl ⟨by rfl, ?_⟩) (by assumption) ?_
                  rotate_left
                  · (intro w hSw; (try dsimp only at hSw); go_simp; (try (with_reducible rfl)))
                  try simp only [Act.put, List.setIfInBounds_toArray, List.set_cons_zero, List.set_cons_succ]
                  refine wpAnyH_take (i := 4) (oi := { dst := some 61, op := Go.Op.load 28 (Go.Operand.tmp 60), type := 28, pos := "premise.go:38", after := #[{ on := 3, ground := Go.Ground.data }], guard := none }) (v := ?_) rfl (by kernel_rfl) (by kernel_rfl) (by kernel_rfl) (fun _ _ _ h => h) (Or.inl ⟨by rfl, ?_⟩) (by assumption) ?_
                  rotate_left
                  · (intro w hSw; (try dsimp only at hSw); go_simp; (try (with_reducible rfl)))
                  try simp only [Act.put, List.setIfInBounds_toArray, List.set_cons_zero, List.set_cons_succ]
                  refine wpAnyH_take (i := 5) (oi := { dst := some 62, op := Go.Op.move (Go.Operand.tmp 5), type := 22, pos := "premise.go:38", after := #[{ on := 10, ground := Go.Ground.gcOnly Go.Departure.lateStores }], guard := none }) (v := ?_) rfl (by kernel_rfl) (by kernel_rfl) (by kernel_rfl) (fun _ _ _ h => h) (Or.inl ⟨by rfl, ?_⟩) (by assumption) ?_
                  rotate_left
                  · (intro w hSw; (try dsimp only at hSw); go_simp; (try (with_reducible rfl)))
                  try simp only [Act.put, List.setIfInBounds_toArray, List.set_cons_zero, List.set_cons_succ]
                  refine wpAnyH_take (i := 6) (oi := { dst := some 63, op := Go.Op.move (Go.Operand.tmp 14), type := 3, pos := "premise.go:38", after := #[{ on := 10, ground := Go.Ground.gcOnly Go.Departure.lateStores }], guard := none }) (v := ?_) rfl (by kernel_rfl) (by kernel_rfl) (by kernel_rfl) (fun _ _ _ h => h) (Or.inl ⟨by rfl, ?_⟩) (by assumption) ?_
                  rotate_left
                  · (intro w hSw; (try dsimp only at hSw); go_simp; (try (with_reducible rfl)))
                  try simp only [Act.put, List.setIfInBounds_toArray, List.set_cons_zero, List.set_cons_succ]
                  refine wpAnyH_take (i := 7) (oi := { dst := some 64, op := Go.Op.indexAddr 22 (Go.Operand.tmp 62) (Go.Operand.tmp 63), type := 0, pos := "premise.go:38", after := #[{ on := 5, ground := Go.Ground.data }, { on := 6, ground := Go.Ground.data }, { on := 10, ground := Go.Ground.gcOnly Go.Departure.lateStores }], guard := none }) (v := ?_) rfl (by kernel_rfl) (by kernel_rfl) (by kernel_rfl) (fun _ _ _ h => h) (Or.inl ⟨by rfl, ?_⟩) (by assumption) ?_
                  rotate_left
                  · (intro w hSw; (try dsimp only at hSw); go_simp; (try (with_reducible rfl)))
                  try simp only [Act.put, List.setIfInBounds_toArray, List.set_cons_zero, List.set_cons_succ]
                  refine wpAnyH_take (i := 8) (oi := { dst := some 65, op := Go.Op.fieldAddr 32 (Go.Operand.tmp 64) 0, type := 0, pos := "premise.go:38", after := #[{ on := 7, ground := Go.Ground.data }, { on := 10, ground := Go.Ground.gcOnly Go.Departure.lateStores }], guard := none }) (v := ?_) rfl (by kernel_rfl) (by kernel_rfl) (by kernel_rfl) (fun _ _ _ h => h) (Or.inl ⟨by rfl, ?_⟩) (by assumption) ?_
                  rotate_left
                  · (intro w hSw; (try dsimp only at hSw); go_simp; (try (with_reducible rfl)))
                  try simp only [Act.put, List.setIfInBounds_toArray, List.set_cons_zero, List.set_cons_succ]
                  refine wpAnyH_take (i := 9) (oi := { dst := some 66, op := Go.Op.load 28 (Go.Operand.tmp 65), type := 28, pos := "premise.go:38", after := #[{ on := 8, ground := Go.Ground.data }, { on := 10, ground := Go.Ground.gcOnly Go.Departure.lateStores }], guard := none }) (v := ?_) rfl (by kernel_rfl) (by kernel_rfl) (by kernel_rfl) (fun _ _ _ h => h) (Or.inl ⟨by rfl, ?_⟩) (by assumption) ?_
                  rotate_left
                  · (intro w hSw; (try dsimp only at hSw); go_simp; (try (with_reducible rfl)))
                  try simp only [Act.put, List.setIfInBounds_toArray, List.set_cons_zero, List.set_cons_succ]
                  refine wpAnyH_ready (rs := [10]) (by kernel_rfl) (by simp) ?_
                  refine AllReadyH.cons (o := { dst := none, op := Go.Op.store 28 (Go.Operand.tmp 10) (Go.Operand.tmp 61), type := 0, pos := "premise.go:38", after := #[{ on := 4, ground := Go.Ground.data }, { on := 0, ground := Go.Ground.phase }, { on := 1, ground := Go.Ground.phase }, { on := 2, ground := Go.Ground.phase }, { on := 3, ground := Go.Ground.phase }, { on := 4, ground := Go.Ground.phase }, { on := 5, ground := Go.Ground.textOnly Go.Departure.lateStores }, { on := 6, ground := Go.Ground.textOnly Go.Departure.lateStores }, { on := 7, ground := Go.Ground.textOnly Go.Departure.lateStores }, { on := 8, ground := Go.Ground.textOnly Go.Departure.lateStores }, { on := 9, ground := Go.Ground.textOnly Go.Departure.lateStores }], guard := none }) rfl (fun K hK => ?_) AllReadyH.nil
                  go_simp
                  refine hK.out _ _ kA (fun hHeld2 => ?_)
                  clear hK K hHeld
                  try simp only [Act.put, List.setIfInBounds_toArray, List.set_cons_zero, List.set_cons_succ]
                  refine wpAnyH_ready (rs := [11]) (by kernel_rfl) (by simp) ?_
                  refine AllReadyH.cons (o := { dst := none, op := Go.Op.store 28 (Go.Operand.tmp 11) (Go.Operand.tmp 66), type := 0, pos := "premise.go:38", after := #[{ on := 9, ground := Go.Ground.data }, { on := 10, ground := Go.Ground.chain }, { on := 0, ground := Go.Ground.phase }, { on := 1, ground := Go.Ground.phase }, { on := 2, ground := Go.Ground.phase }, { on := 3, ground := Go.Ground.phase }, { on := 4, ground := Go.Ground.phase }, { on := 5, ground := Go.Ground.phase }, { on := 6, ground := Go.Ground.phase }, { on := 7, ground := Go.Ground.phase }, { on := 8, ground := Go.Ground.phase }, { on := 9, ground := Go.Ground.phase }, { on := 10, ground := Go.Ground.phase }], guard := none }) rfl (fun K hK => ?_) AllReadyH.nil
                  go_simp
                  refine hK.out _ _ kB (fun hHeld3 => ?_)
                  clear hK K hHeld2
                  try simp only [Act.put, List.setIfInBounds_toArray, List.set_cons_zero, List.set_cons_succ]
                  refine wpAnyH_take (i := 12) (oi := { dst := some 12, op := Go.Op.assign (Go.Operand.const (Go.Value.bool false)), type := 4, pos := "premise.go:38", after := #[{ on := 11, ground := Go.Ground.chain }, { on := 0, ground := Go.Ground.phase }, { on := 1, ground := Go.Ground.phase }, { on := 2, ground := Go.Ground.phase }, { on := 3, ground := Go.Ground.phase }, { on := 4, ground := Go.Ground.phase }, { on := 5, ground := Go.Ground.phase }, { on := 6, ground := Go.Ground.phase }, { on := 7, ground := Go.Ground.phase }, { on := 8, ground := Go.Ground.phase }, { on := 9, ground := Go.Ground.phase }, { on := 10, ground := Go.Ground.phase }, { on := 11, ground := Go.Ground.phase }], guard := none }) (v := ?_) rfl (by kernel_rfl) (by kernel_rfl) (by kernel_rfl) (fun _ _ _ h => h) (Or.inl ⟨by rfl, ?_⟩) (by assumption) ?_
                  rotate_left
                  · (intro w hSw; (try dsimp only at hSw); go_simp; (try (with_reducible rfl)))
                  try simp only [Act.put, List.setIfInBounds_toArray, List.set_cons_zero, List.set_cons_succ]
                  refine wpAnyH_done (by kernel_rfl) ?_ _
                  have hst3 : St H6 (Blk gb #[.int .i64 r', .int .i64 s'] 28 :: Blk ga #[.int .i64 r, .int .i64 s] 28 :: GrA p L :: Blk g3 #[.int .i64 0, .int .i64 0] 28 :: Blk g2 #[.int .i64 0, .int .i64 0] 28 :: fr) _ := fB1.drew
                  have enS := ((((enD.setCell ⟨ga, 0, none⟩ (.int .i64 r)).setCell ⟨ga, 1, none⟩ (.int .i64 s)).setCell ⟨gb, 0, none⟩ (.int .i64 r')).setCell ⟨gb, 1, none⟩ (.int .i64 s')).drew
                  generalize ((((w9.setCell ⟨ga, 0, none⟩ (.int .i64 r)).setCell ⟨ga, 1, none⟩ (.int .i64 s)).setCell ⟨gb, 0, none⟩ (.int .i64 r')).setCell ⟨gb, 1, none⟩ (.int .i64 s')).drew = wz at *
                  clear a0 a1 af0 af1 b0 b1' bf0 bf1 al bl k0 kA kB fA1 fB1 hHeld3 hD enD hk0 hkl hm0 hml hLk
                  go_wp2_with fail
                  obtain ⟨Hx, lx, hx1, cx⟩ := St.blk_for_good hst3
                  obtain ⟨Hy, ly, hy1, cy⟩ := St.blk_for_good hx1
                  have cb0 := Hp.cell_le ly (cx 0)
                  have cb1 := Hp.cell_le ly (cx 1)
                  have ca0 := cy 0
                  have ca1 := cy 1
                  have le9 := Hp.le_trans le8 (Hp.le_trans lx ly)
                  clear cx cy
                  have k20 : ∀ (l' : List HA) (w' : World), St Hy l' w' → (fun w' : World => w'.cell? ⟨ga, 0, none⟩ = some (.int .i64 r) ∧ w'.cell? ⟨ga, 1, none⟩ = some (.int .i64 s) ∧ w'.cell? ⟨gb, 0, none⟩ = some (.int .i64 r') ∧ w'.cell? ⟨gb, 1, none⟩ = some (.int .i64 s')) w' := fun l' w' h => ⟨h.cell ca0, h.cell ca1, h.cell cb0, h.cell cb1⟩
                  have fA := ((hy1.pick 2 (by simp)).blk_set 0 (.int .i64 r)).blk_set 1 (.int .i64 s)
                  have fAB := ((fA.pick 2 (by simp)).blk_set 0 (.int .i64 r')).blk_set 1 (.int .i64 s')
                  have enAB := ((((enS.setCell ⟨g2, 0, none⟩ (.int .i64 r)).setCell ⟨g2, 1, none⟩ (.int .i64 s)).setCell ⟨g3, 0, none⟩ (.int .i64 r')).setCell ⟨g3, 1, none⟩ (.int .i64 s')).drew
                  have w20 := (hy1.pick 2 (by simp)).blk_cell 0
                  have w21 := (hy1.pick 2 (by simp)).blk_cell 1
                  have w2f0 := (hy1.pick 2 (by simp)).blk_free 0
                  have w2f1 := (hy1.pick 2 (by simp)).blk_free 1
                  have v30 := (fA.pick 2 (by simp)).blk_cell 0
                  have v31 := (fA.pick 2 (by simp)).blk_cell 1
                  have v3f0 := (fA.pick 2 (by simp)).blk_free 0
                  have v3f1 := (fA.pick 2 (by simp)).blk_free 1
                  have z2l := (hy1.pick 2 (by simp)).blk_lt
                  have z3l := (hy1.pick 1 (by simp)).blk_lt
                  have k0 := k20 _ _ hy1.drew
                  have kA := k20 _ _ fA.drew
                  have kAB := k20 _ _ fAB.drew
                  clear cb0 cb1 ca0 ca1 hx1 k20
                  go_wp2_with fail
                  refine wp_region_held_drew (S := fun w' : World => w'.cell? ⟨ga, 0, none⟩ = some (.int .i64 r) ∧ w'.cell? ⟨ga, 1, none⟩ = some (.int .i64 s) ∧ w'.cell? ⟨gb, 0, none⟩ = some (.int .i64 r') ∧ w'.cell? ⟨gb, 1, none⟩ = some (.int .i64 s')) (by kernel_rfl) k0 (fun hHeld => ?_)
                  refine wpAnyH_take (i := 0) (oi := { dst := some 69, op := Go.Op.load 28 (Go.Operand.tmp 10), type := 28, pos := "premise.go:43", after := #[], guard := none }) (v := ?_) rfl (by kernel_rfl) (by kernel_rfl) (by kernel_rfl) (fun _ _ _ h => h) (Or.inl ⟨by rfl, ?_⟩) (by assumption) ?_
                  rotate_left
                  · (intro w hSw; (try dsimp only at hSw); go_simp; (try (with_reducible rfl)))
                  try simp only [Act.put, List.setIfInBounds_toArray, List.set_cons_zero, List.set_cons_succ]
                  refine wpAnyH_take (i := 1) (oi := { dst := some 70, op := Go.Op.load 28 (Go.Operand.tmp 11), type := 28, pos := "premise.go:43", after := #[{ on := 3, ground := Go.Ground.gcOnly Go.Departure.lateStores }], guard := none }) (v := ?_) rfl (by kernel_rfl) (by kernel_rfl) (by kernel_rfl) (fun _ _ _ h => h) (Or.inl ⟨by rfl, ?_⟩) (by assumption) ?_
                  rotate_left
                  · (intro w hSw; (try dsimp only at hSw); go_simp; (try (with_reducible rfl)))
                  try simp only [Act.put, List.setIfInBounds_toArray, List.set_cons_zero, List.set_cons_succ]
                  refine wpAnyH_take (i := 2) (oi := { dst := some 71, op := Go.Op.move (Go.Operand.tmp 12), type := 4, pos := "premise.go:43", after := #[{ on := 4, ground := Go.Ground.gcOnly Go.Departure.lateStores }], guard := none }) (v := ?_) rfl (by kernel_rfl) (by kernel_rfl) (by kernel_rfl) (fun _ _ _ h => h) (Or.inl ⟨by rfl, ?_⟩) (by assumption) ?_
                  rotate_left
                  · (intro w hSw; (try dsimp only at hSw); go_simp; (try (with_reducible rfl)))
                  try simp only [Act.put, List.setIfInBounds_toArray, List.set_cons_zero, List.set_cons_succ]
                  refine wpAnyH_ready (rs := [3]) (by kernel_rfl) (by simp) ?_
                  refine AllReadyH.cons (o := { dst := none, op := Go.Op.store 28 (Go.Operand.tmp 2) (Go.Operand.tmp 69), type := 0, pos := "premise.go:43", after := #[{ on := 0, ground := Go.Ground.data }, { on := 0, ground := Go.Ground.phase }, { on := 1, ground := Go.Ground.textOnly Go.Departure.lateStores }, { on := 2, ground := Go.Ground.textOnly Go.Departure.lateStores }], guard := none }) rfl (fun K hK => ?_) AllReadyH.nil
                  go_simp
                  refine hK.out _ _ kA (fun hHeld2 => ?_)
                  clear hK K hHeld
                  try simp only [Act.put, List.setIfInBounds_toArray, List.set_cons_zero, List.set_cons_succ]
                  refine wpAnyH_ready (rs := [4]) (by kernel_rfl) (by simp) ?_
                  refine AllReadyH.cons (o := { dst := none, op := Go.Op.store 28 (Go.Operand.tmp 3) (Go.Operand.tmp 70), type := 0, pos := "premise.go:43", after := #[{ on := 1, ground := Go.Ground.data }, { on := 3, ground := Go.Ground.chain }, { on := 0, ground := Go.Ground.phase }, { on := 1, ground := Go.Ground.phase }, { on := 2, ground := Go.Ground.textOnly Go.Departure.lateStores }, { on := 3, ground := Go.Ground.phase }], guard := none }) rfl (fun K hK => ?_) AllReadyH.nil
                  go_simp
                  refine hK.out _ _ kAB (fun hHeld3 => ?_)
                  clear hK K hHeld2
                  try simp only [Act.put, List.setIfInBounds_toArray, List.set_cons_zero, List.set_cons_succ]
                  refine wpAnyH_take (i := 5) (oi := { dst := some 4, op := Go.Op.assign (Go.Operand.tmp 71), type := 4, pos := "premise.go:43", after := #[{ on := 2, ground := Go.Ground.data }, { on := 4, ground := Go.Ground.chain }, { on := 0, ground := Go.Ground.phase }, { on := 1, ground := Go.Ground.phase }, { on := 2, ground := Go.Ground.phase }, { on := 3, ground := Go.Ground.phase }, { on := 4, ground := Go.Ground.phase }], guard := none }) (v := ?_) rfl (by kernel_rfl) (by kernel_rfl) (by kernel_rfl) (fun _ _ _ h => h) (Or.inl ⟨by rfl, ?_⟩) (by assumption) ?_
                  rotate_left
                  · (intro w hSw; (try dsimp only at hSw); go_simp; (try (with_reducible rfl)))
                  try simp only [Act.put, List.setIfInBounds_toArray, List.set_cons_zero, List.set_cons_succ]
                  refine wpAnyH_done (by kernel_rfl) ?_ _
                  clear k0 kA kAB w20 w21 w2f0 w2f1 v30 v31 v3f0 v3f1 fA hy1 z2l z3l hHeld3
                  go_wp2_with fail
                  have fZ := fAB.drew
                  generalize ((((wz.setCell ⟨g2, 0, none⟩ (.int .i64 r)).setCell ⟨g2, 1, none⟩ (.int .i64 s)).setCell ⟨g3, 0, none⟩ (.int .i64 r')).setCell ⟨g3, 1, none⟩ (.int .i64 s')).drew = W9 at *
                  have r0 : W9.cell? ⟨g3, 0, none⟩ = some (.int .i64 r') := fZ.blk_cell 0
                  have r1 : W9.cell? ⟨g3, 1, none⟩ = some (.int .i64 s') := fZ.blk_cell 1
                  have q0 : W9.cell? ⟨g2, 0, none⟩ = some (.int .i64 r) := fZ.swap.blk_cell 0
                  have q1 : W9.cell? ⟨g2, 1, none⟩ = some (.int .i64 s) := fZ.swap.blk_cell 1
                  have rl := fZ.blk_lt
                  have ql := fZ.swap.blk_lt
                  rw [Exit.noGoto_ret]
                  refine bodyPost_ret ((results_cell2_tmp rfl _ _ _).trans (?hres2 : _ = Result.ok (Value.tuple #[.agg #[.int .i64 r, .int .i64 s], .agg #[.int .i64 r', .int .i64 s'], .bool false]) W9)) rfl ?_
                  case hres2 => go_simp
                  exact ⟨Hy, _, _, _, hres.out, le9, fZ.drop.drop, enAB, rfl⟩
              · have hdec : decide ((k : Int) < (m : Int)) = false := decide_eq_false (by omega)
                rw [Nat.max_eq_right (by omega)] at hI2
                replace hI2 := Lib.hid hI2
                clear hst3 hst hen hI
                go_wp2_with fail
                refine wp_region_held_drew (S := (fun w' : World => w'.cell? ⟨lb, lo + k * 5, none⟩ = some (.int .i64 r) ∧ w'.cell? ⟨lb, lo + k * 5 + 1, none⟩ = some (.int .i64 s) ∧ w'.cell? ⟨lb, lo + k * 5 + 2, none⟩ = some (.int .i64 q) ∧ w'.cell? ⟨lb, lo + k * 5 + 3, none⟩ = some (.slice d1 d2 d3) ∧ w'.cell? ⟨lb, lo + k * 5 + 4, none⟩ = some (.slice b1 b2 b3) ∧ w'.cell? ⟨lb, lo + m * 5, none⟩ = some (.int .i64 r') ∧ w'.cell? ⟨lb, lo + m * 5 + 1, none⟩ = some (.int .i64 s') ∧ w'.cell? ⟨lb, lo + m * 5 + 2, none⟩ = some (.int .i64 q') ∧ w'.cell? ⟨lb, lo + m * 5 + 3, none⟩ = some (.slice e1 e2 e3) ∧ w'.cell? ⟨lb, lo + m * 5 + 4, none⟩ = some (.slice f1 f2 f3))) (by kernel_rfl) (kk _ _ hD) (fun hHeld => ?_)
                refine wpAnyH_take (i := 0) (oi := { dst := some 43, op := Go.Op.move (Go.Operand.tmp 14), type := 3, pos := "premise.go:37", after := #[], guard := none }) (v := ?_) rfl (by kernel_rfl) (by kernel_rfl) (by kernel_rfl) (fun _ _ _ h => h) (Or.inl ⟨by rfl, ?_⟩) (by assumption) ?_
                rotate_left
                · (intro w hSw; (try dsimp only at hSw); go_simp; (try (with_reducible rfl)))
                try simp only [Act.put, List.setIfInBounds_toArray, List.set_cons_zero, List.set_cons_succ]
                refine wpAnyH_take (i := 1) (oi := { dst := some 44, op := Go.Op.move (Go.Operand.tmp 13), type := 3, pos := "premise.go:37", after := #[], guard := none }) (v := ?_) rfl (by kernel_rfl) (by kernel_rfl) (by kernel_rfl) (fun _ _ _ h => h) (Or.inl ⟨by rfl, ?_⟩) (by assumption) ?_
                rotate_left
                · (intro w hSw; (try dsimp only at hSw); go_simp; (try (with_reducible rfl)))
                try simp only [Act.put, List.setIfInBounds_toArray, List.set_cons_zero, List.set_cons_succ]
                refine wpAnyH_take (i := 2) (oi := { dst := some 45, op := Go.Op.binOp Go.BinOp.gtr 3 (Go.Operand.tmp 43) (Go.Operand.tmp 44) 3, type := 4, pos := "premise.go:37", after := #[{ on := 0, ground := Go.Ground.data }, { on := 1, ground := Go.Ground.data }], guard := none }) (v := ?_) rfl (by kernel_rfl) (by kernel_rfl) (by kernel_rfl) (fun _ _ _ h => h) (Or.inl ⟨by rfl, ?_⟩) (by assumption) ?_
                rotate_left
                · (intro w hSw; (try dsimp only at hSw); go_simp; (try (with_reducible rfl)))
                try simp only [Act.put, List.setIfInBounds_toArray, List.set_cons_zero, List.set_cons_succ]
                refine wpAnyH_take (i := 3) (oi := { dst := some 46, op := Go.Op.move (Go.Operand.tmp 45), type := 4, pos := "premise.go:37", after := #[{ on := 2, ground := Go.Ground.data }], guard := none }) (v := ?_) rfl (by kernel_rfl) (by kernel_rfl) (by kernel_rfl) (fun _ _ _ h => h) (Or.inl ⟨by rfl, ?_⟩) (by assumption) ?_
                rotate_left
                · (intro w hSw; (try dsimp only at hSw); go_simp; (try (with_reducible rfl)))
                try simp only [Act.put, List.setIfInBounds_toArray, List.set_cons_zero, List.set_cons_succ]
                refine wpAnyH_take (i := 4) (oi := { dst := some 47, op := Go.Op.move (Go.Operand.tmp 5), type := 22, pos := "premise.go:37", after := #[{ on := 3, ground := Go.Ground.guard }], guard := some (3, true) }) (v := undef) rfl (by kernel_rfl) (by kernel_rfl) (by kernel_rfl) (fun _ _ _ h => h) (Or.inr ⟨by rfl, rfl⟩) (by assumption) ?_
                try simp only [Act.put, List.setIfInBounds_toArray, List.set_cons_zero, List.set_cons_succ]
                refine wpAnyH_take (i := 5) (oi := { dst := some 48, op := Go.Op.move (Go.Operand.tmp 13), type := 3, pos := "premise.go:37", after := #[{ on := 3, ground := Go.Ground.guard }], guard := some (3, true) }) (v := undef) rfl (by kernel_rfl) (by kernel_rfl) (by kernel_rfl) (fun _ _ _ h => h) (Or.inr ⟨by rfl, rfl⟩) (by assumption) ?_
                try simp only [Act.put, List.setIfInBounds_toArray, List.set_cons_zero, List.set_cons_succ]
                refine wpAnyH_take (i := 6) (oi := { dst := some 49, op := Go.Op.indexAddr 22 (Go.Operand.tmp 47) (Go.Operand.tmp 48), type := 0, pos := "premise.go:37", after := #[{ on := 4, ground := Go.Ground.data }, { on := 5, ground := Go.Ground.data }, { on := 3, ground := Go.Ground.guard }], guard := some (3, true) }) (v := undef) rfl (by kernel_rfl) (by kernel_rfl) (by kernel_rfl) (fun _ _ _ h => h) (Or.inr ⟨by rfl, rfl⟩) (by assumption) ?_
                try simp only [Act.put, List.setIfInBounds_toArray, List.set_cons_zero, List.set_cons_succ]
                refine wpAnyH_take (i := 7) (oi := { dst := some 50, op := Go.Op.load 32 (Go.Operand.tmp 49), type := 32, pos := "premise.go:37", after := #[{ on := 6, ground := Go.Ground.data }, { on := 3, ground := Go.Ground.guard }], guard := some (3, true) }) (v := undef) rfl (by kernel_rfl) (by kernel_rfl) (by kernel_rfl) (fun _ _ _ h => h) (Or.inr ⟨by rfl, rfl⟩) (by assumption) ?_
                try simp only [Act.put, List.setIfInBounds_toArray, List.set_cons_zero, List.set_cons_succ]
                refine wpAnyH_take (i := 8) (oi := { dst := some 51, op := Go.Op.move (Go.Operand.tmp 5), type := 22, pos := "premise.go:37", after := #[{ on := 3, ground := Go.Ground.guard }], guard := some (3, true) }) (v := undef) rfl (by kernel_rfl) (by kernel_rfl) (by kernel_rfl) (fun _ _ _ h => h) (Or.inr ⟨by rfl, rfl⟩) (by assumption) ?_
                try simp only [Act.put, List.setIfInBounds_toArray, List.set_cons_zero, List.set_cons_succ]
                refine wpAnyH_take (i := 9) (oi := { dst := some 52, op := Go.Op.move (Go.Operand.tmp 14), type := 3, pos := "premise.go:37", after := #[{ on := 3, ground := Go.Ground.guard }], guard := some (3, true) }) (v := undef) rfl (by kernel_rfl) (by kernel_rfl) (by kernel_rfl) (fun _ _ _ h => h) (Or.inr ⟨by rfl, rfl⟩) (by assumption) ?_
                try simp only [Act.put, List.setIfInBounds_toArray, List.set_cons_zero, List.set_cons_succ]
                refine wpAnyH_take (i := 10) (oi := { dst := some 53, op := Go.Op.indexAddr 22 (Go.Operand.tmp 51) (Go.Operand.tmp 52), type := 0, pos := "premise.go:37", after := #[{ on := 8, ground := Go.Ground.data }, { on := 9, ground := Go.Ground.data }, { on := 3, ground := Go.Ground.guard }], guard := some (3, true) }) (v := undef) rfl (by kernel_rfl) (by kernel_rfl) (by kernel_rfl) (fun _ _ _ h => h) (Or.inr ⟨by rfl, rfl⟩) (by assumption) ?_
                try simp only [Act.put, List.setIfInBounds_toArray, List.set_cons_zero, List.set_cons_succ]
                refine wpAnyH_take (i := 11) (oi := { dst := some 54, op := Go.Op.load 32 (Go.Operand.tmp 53), type := 32, pos := "premise.go:37", after := #[{ on := 10, ground := Go.Ground.data }, { on := 3, ground := Go.Ground.guard }], guard := some (3, true) }) (v := undef) rfl (by kernel_rfl) (by kernel_rfl) (by kernel_rfl) (fun _ _ _ h => h) (Or.inr ⟨by rfl, rfl⟩) (by assumption) ?_
                try simp only [Act.put, List.setIfInBounds_toArray, List.set_cons_zero, List.set_cons_succ]
                refine wpAnyH_take (i := 12) (oi := { dst := some 55, op := Go.Op.call { callee := Go.Callee.value (Go.Operand.func 57), args := #[Go.Operand.tmp 50, Go.Operand.tmp 54], argTypes := #[32, 32] }, type := 4, pos := "premise.go:37", after := #[{ on := 7, ground := Go.Ground.data }, { on := 11, ground := Go.Ground.data }, { on := 3, ground := Go.Ground.chain }, { on := 3, ground := Go.Ground.guard }], guard := some (3, true) }) (v := undef) rfl (by kernel_rfl) (by kernel_rfl) (by kernel_rfl) (fun _ _ _ h => h) (Or.inr ⟨by rfl, rfl⟩) (by assumption) ?_
                try simp only [Act.put, List.setIfInBounds_toArray, List.set_cons_zero, List.set_cons_succ]
                refine wpAnyH_take (i := 13) (oi := { dst := some 56, op := Go.Op.pick (Go.Operand.tmp 46) (Go.Operand.tmp 55) (Go.Operand.const (Go.Value.bool false)), type := 4, pos := "premise.go:37", after := #[{ on := 3, ground := Go.Ground.data }, { on := 12, ground := Go.Ground.data }], guard := none }) (v := ?_) rfl (by kernel_rfl) (by kernel_rfl) (by kernel_rfl) (fun _ _ _ h => h) (Or.inl ⟨by rfl, ?_⟩) (by assumption) ?_
                rotate_left
                · (intro w hSw; (try dsimp only at hSw); go_simp; (try (with_reducible rfl)))
                try simp only [Act.put, List.setIfInBounds_toArray, List.set_cons_zero, List.set_cons_succ]
                refine wpAnyH_done (by kernel_rfl) ?_ _
                clear hHeld hdec hk0 hkl hm0 hml
                go_wp2_with fail
                go_roundw
                case rel => exact ⟨m + 1, by omega, rfl, by go_num, hD, enD, by rw [Nat.max_eq_right (by omega)]; exact hI2⟩
                case measure => simp [intOf]; omega
            · obtain rfl : m = M.length := by omega
              have hI2 := hI.out
              rw [Nat.max_eq_left (by omega), List.drop_eq_nil_of_le (by simp)] at hI2
              have hI3 : Hid (flk ((M.map rp).drop (k + 1)) = T) := Lib.hid hI2
              clear hI2 hI
              go_wp2_with fail
              go_roundw
              case rel => exact ⟨k + 1, by omega, rfl, by go_num, hst, hen, hI3⟩
              case measure => simp [intOf]; omega
        · obtain rfl : k = M.length := by omega
          have hTn := hTk.out
          rw [List.drop_eq_nil_of_le (by simp)] at hTn
          have hres : Hid (holdsR (grS L) = ((0, 0), (0, 0), true)) := Lib.hid (by unfold holdsR; rw [hTg.out, ← hTn]; rfl)
          clear hTn
          obtain ⟨Hx, lx, hx1, cx⟩ := St.blk_for_good hst
          obtain ⟨Hy, ly, hy1, cy⟩ := St.blk_for_good hx1
          have cb0 := Hp.cell_le ly (cx 0)
          have cb1 := Hp.cell_le ly (cx 1)
          have ca0 := cy 0
          have ca1 := cy 1
          have le9 := Hp.le_trans le8 (Hp.le_trans lx ly)
          clear cx cy
          have k20 : ∀ (l' : List HA) (w' : World), St Hy l' w' → (fun w' : World => w'.cell? ⟨ga, 0, none⟩ = some (.int .i64 0) ∧ w'.cell? ⟨ga, 1, none⟩ = some (.int .i64 0) ∧ w'.cell? ⟨gb, 0, none⟩ = some (.int .i64 0) ∧ w'.cell? ⟨gb, 1, none⟩ = some (.int .i64 0)) w' := fun l' w' h => ⟨h.cell ca0, h.cell ca1, h.cell cb0, h.cell cb1⟩
          have fA := ((hy1.pick 2 (by simp)).blk_set 0 (.int .i64 0)).blk_set 1 (.int .i64 0)
          have fAB := ((fA.pick 2 (by simp)).blk_set 0 (.int .i64 0)).blk_set 1 (.int .i64 0)
          have enAB := ((((hen.setCell ⟨g2, 0, none⟩ (.int .i64 0)).setCell ⟨g2, 1, none⟩ (.int .i64 0)).setCell ⟨g3, 0, none⟩ (.int .i64 0)).setCell ⟨g3, 1, none⟩ (.int .i64 0)).drew
          have w20 := (hy1.pick 2 (by simp)).blk_cell 0
          have w21 := (hy1.pick 2 (by simp)).blk_cell 1
          have w2f0 := (hy1.pick 2 (by simp)).blk_free 0
          have w2f1 := (hy1.pick 2 (by simp)).blk_free 1
          have v30 := (fA.pick 2 (by simp)).blk_cell 0
          have v31 := (fA.pick 2 (by simp)).blk_cell 1
          have v3f0 := (fA.pick 2 (by simp)).blk_free 0
          have v3f1 := (fA.pick 2 (by simp)).blk_free 1
          have z2l := (hy1.pick 2 (by simp)).blk_lt
          have z3l := (hy1.pick 1 (by simp)).blk_lt
          have k0 := k20 _ _ hy1.drew
          have kA := k20 _ _ fA.drew
          have kAB := k20 _ _ fAB.drew
          clear cb0 cb1 ca0 ca1 hx1 k20
          go_wp2_with fail
          refine wp_region_held_drew (S := fun w' : World => w'.cell? ⟨ga, 0, none⟩ = some (.int .i64 0) ∧ w'.cell? ⟨ga, 1, none⟩ = some (.int .i64 0) ∧ w'.cell? ⟨gb, 0, none⟩ = some (.int .i64 0) ∧ w'.cell? ⟨gb, 1, none⟩ = some (.int .i64 0)) (by kernel_rfl) k0 (fun hHeld => ?_)
          refine wpAnyH_take (i := 0) (oi := { dst := some 69, op := Go.Op.load 28 (Go.Operand.tmp 10), type := 28, pos := "premise.go:43", after := #[], guard := none }) (v := ?_) rfl (by kernel_rfl) (by kernel_rfl) (by kernel_rfl) (fun _ _ _ h => h) (Or.inl ⟨by rfl, ?_⟩) (by assumption) ?_
          rotate_left
          · (intro w hSw; (try dsimp only at hSw); go_simp; (try (with_reducible rfl)))
          try simp only [Act.put, List.setIfInBounds_toArray, List.set_cons_zero, List.set_cons_succ]
          refine wpAnyH_take (i := 1) (oi := { dst := some 70, op := Go.Op.load 28 (Go.Operand.tmp 11), type := 28, pos := "premise.go:43", after := #[{ on := 3, ground := Go.Ground.gcOnly Go.Departure.lateStores }], guard := none }) (v := ?_) rfl (by kernel_rfl) (by kernel_rfl) (by kernel_rfl) (fun _ _ _ h => h) (Or.inl ⟨by rfl, ?_⟩) (by assumption) ?_
          rotate_left
          · (intro w hSw; (try dsimp only at hSw); go_simp; (try (with_reducible rfl)))
          try simp only [Act.put, List.setIfInBounds_toArray, List.set_cons_zero, List.set_cons_succ]
          refine wpAnyH_take (i := 2) (oi := { dst := some 71, op := Go.Op.move (Go.Operand.tmp 12), type := 4, pos := "premise.go:43", after := #[{ on := 4, ground := Go.Ground.gcOnly Go.Departure.lateStores }], guard := none }) (v := ?_) rfl (by kernel_rfl) (by kernel_rfl) (by kernel_rfl) (fun _ _ _ h => h) (Or.inl ⟨by rfl, ?_⟩) (by assumption) ?_
          rotate_left
          · (intro w hSw; (try dsimp only at hSw); go_simp; (try (with_reducible rfl)))
          try simp only [Act.put, List.setIfInBounds_toArray, List.set_cons_zero, List.set_cons_succ]
          refine wpAnyH_ready (rs := [3]) (by kernel_rfl) (by simp) ?_
          refine AllReadyH.cons (o := { dst := none, op := Go.Op.store 28 (Go.Operand.tmp 2) (Go.Operand.tmp 69), type := 0, pos := "premise.go:43", after := #[{ on := 0, ground := Go.Ground.data }, { on := 0, ground := Go.Ground.phase }, { on := 1, ground := Go.Ground.textOnly Go.Departure.lateStores }, { on := 2, ground := Go.Ground.textOnly Go.Departure.lateStores }], guard := none }) rfl (fun K hK => ?_) AllReadyH.nil
          go_simp
          refine hK.out _ _ kA (fun hHeld2 => ?_)
          clear hK K hHeld
          try simp only [Act.put, List.setIfInBounds_toArray, List.set_cons_zero, List.set_cons_succ]
          refine wpAnyH_ready (rs := [4]) (by kernel_rfl) (by simp) ?_
          refine AllReadyH.cons (o := { dst := none, op := Go.Op.store 28 (Go.Operand.tmp 3) (Go.Operand.tmp 70), type := 0, pos := "premise.go:43", after := #[{ on := 1, ground := Go.Ground.data }, { on := 3, ground := Go.Ground.chain }, { on := 0, ground := Go.Ground.phase }, { on := 1, ground := Go.Ground.phase }, { on := 2, ground := Go.Ground.textOnly Go.Departure.lateStores }, { on := 3, ground := Go.Ground.phase }], guard := none }) rfl (fun K hK => ?_) AllReadyH.nil
          go_simp
          refine hK.out _ _ kAB (fun hHeld3 => ?_)
          clear hK K hHeld2
          try simp only [Act.put, List.setIfInBounds_toArray, List.set_cons_zero, List.set_cons_succ]
          refine wpAnyH_take (i := 5) (oi := { dst := some 4, op := Go.Op.assign (Go.Operand.tmp 71), type := 4, pos := "premise.go:43", after := #[{ on := 2, ground := Go.Ground.data }, { on := 4, ground := Go.Ground.chain }, { on := 0, ground := Go.Ground.phase }, { on := 1, ground := Go.Ground.phase }, { on := 2, ground := Go.Ground.phase }, { on := 3, ground := Go.Ground.phase }, { on := 4, ground := Go.Ground.phase }], guard := none }) (v := ?_) rfl (by kernel_rfl) (by kernel_rfl) (by kernel_rfl) (fun _ _ _ h => h) (Or.inl ⟨by rfl, ?_⟩) (by assumption) ?_
          rotate_left
          · (intro w hSw; (try dsimp only at hSw); go_simp; (try (with_reducible rfl)))
          try simp only [Act.put, List.setIfInBounds_toArray, List.set_cons_zero, List.set_cons_succ]
          refine wpAnyH_done (by kernel_rfl) ?_ _
          clear k0 kA kAB w20 w21 w2f0 w2f1 v30 v31 v3f0 v3f1 fA hy1 z2l z3l hHeld3
          go_wp2_with fail
          have fZ := fAB.drew
          generalize ((((wo.setCell ⟨g2, 0, none⟩ (.int .i64 0)).setCell ⟨g2, 1, none⟩ (.int .i64 0)).setCell ⟨g3, 0, none⟩ (.int .i64 0)).setCell ⟨g3, 1, none⟩ (.int .i64 0)).drew = W9 at *
          have r0 : W9.cell? ⟨g3, 0, none⟩ = some (.int .i64 0) := fZ.blk_cell 0
          have r1 : W9.cell? ⟨g3, 1, none⟩ = some (.int .i64 0) := fZ.blk_cell 1
          have q0 : W9.cell? ⟨g2, 0, none⟩ = some (.int .i64 0) := fZ.swap.blk_cell 0
          have q1 : W9.cell? ⟨g2, 1, none⟩ = some (.int .i64 0) := fZ.swap.blk_cell 1
          have rl := fZ.blk_lt
          have ql := fZ.swap.blk_lt
          rw [Exit.noGoto_ret]
          refine bodyPost_ret ((results_cell2_tmp rfl _ _ _).trans (?hres1 : _ = Result.ok (Value.tuple #[.agg #[.int .i64 0, .int .i64 0], .agg #[.int .i64 0, .int .i64 0], .bool true]) W9)) rfl ?_
          case hres1 => go_simp
          exact ⟨Hy, _, _, _, hres.out, le9, fZ.drop.drop, enAB, rfl⟩
end Go.Proofs.Ytelmhcbdpimaaaa
