/- Joined texts: Fine, Mend2. -/
import Derived.Test.YtohgcghobidfpaaGG21
/- The reference's fine records. -/
set_option linter.unusedVariables false
set_option linter.unusedSimpArgs false
namespace Go.Proofs.Ytohgcghobidfpaa
open Go.RowKit Go.Cw Go.Fl
attribute [local go_sem ↓] eql_id neq_id
def fineCStep (acc : List Rc) (x : Rc) : List Rc := if recErr (rp x) = 0 ∧ x.1 ∉ rids acc then acc ++ [x] else acc
/-- The fine ones. -/
def fineC (l : List Rc) : List Rc := l.foldl fineCStep []
theorem fineC_fold (l : List Rc) : ∀ acc : List Rc, (l.foldl fineCStep acc).map rp = (l.map rp).foldl fineStep (acc.map rp) := by
  induction l with
  | nil => exact fun _ => rfl
  | cons x r ih =>
    intro acc
    rw [List.foldl_cons, ih, List.map_cons, List.foldl_cons]
    congr 1
    unfold fineCStep fineStep
    rw [pids_rp]
    split
    · rw [List.map_append]; rfl
    · rfl
theorem fineC_rp (l : List Rc) : (fineC l).map rp = fineL (l.map rp) := fineC_fold l []
theorem fineC_sub (l : List Rc) : ∀ acc : List Rc, ∀ x ∈ l.foldl fineCStep acc, x ∈ acc ∨ x ∈ l := by
  induction l with
  | nil => exact fun acc x h => .inl h
  | cons y r ih =>
    intro acc x hx
    rcases ih _ x hx with h | h
    · unfold fineCStep at h
      split at h
      · rcases List.mem_append.1 h with h | h
        · exact .inl h
        · exact .inr (by rw [List.mem_singleton.1 h]; simp)
      · exact .inl h
    · exact .inr (List.mem_cons_of_mem _ h)
theorem fineC_mem {l : List Rc} {x : Rc} (h : x ∈ fineC l) : x ∈ l := (fineC_sub l [] x h).resolve_left (by simp)
theorem fineC_len (l : List Rc) : ∀ acc : List Rc, (l.foldl fineCStep acc).length ≤ acc.length + l.length := by
  induction l with
  | nil => exact fun acc => by simp
  | cons y r ih =>
    intro acc
    have := ih (fineCStep acc y)
    have h2 : (fineCStep acc y).length ≤ acc.length + 1 := by unfold fineCStep; split <;> simp
    simp only [List.foldl_cons, List.length_cons]
    omega
theorem fineC_take (l : List Rc) (k : Nat) (h : k < l.length) : fineC (l.take (k + 1)) = fineCStep (fineC (l.take k)) l[k] := by
  unfold fineC
  rw [List.take_add_one, List.getElem?_eq_getElem h, List.foldl_append]
  rfl
set_option maxRecDepth 100000 in
set_option maxHeartbeats 6400000 in
theorem refFine_any (u : Value) (l : List Rc) (w : World) (hx : Rw w 5 u (recs l)) (hl : ∀ x ∈ l, RcR w x) (hlen : l.length ≤ 1000000) :
    Calls Try.prog 6 #[u] w (ResE (snap w) [] w (fun v => v) (fun v => [Row 33 5 v (recs (fineC l))])) := by
  obtain ⟨A, n, c, rfl, hn, hnc, hc⟩ := hx.form
  rw [recs_len] at hn
  obtain rfl : n = l.length := by omega
  clear hn
  have hrd := hx.rd
  have hld : ∀ x ∈ l, RcD (snap w) x := fun x hm => ⟨(hl x hm).d.rd, (hl x hm).b.rd, (hl x hm).ok⟩
  replace hld := Lib.hid hld
  have h1 := (St.start w).row_lit 33 5 0 #[] rfl (by decide)
  have en1 := (Env.refl w).alloc (.cells #[] 33)
  clear hx hl
  go_enter Try.func6, Try.ntmps6
  go_wp2_with fail
  go_loopw [3, 4] (fun lv i wr => ∃ k : Nat, k ≤ l.length ∧ i = .int .i64 (k : Int) ∧ St (snap w) [Row 33 5 lv (recs (fineC (l.take k)))] wr ∧ Env w wr) (fun _ i _ => l.length - (intOf i).toNat)
  case atStart => exact ⟨0, by omega, by go_num, h1, en1⟩
  case round =>
    clear h1 en1
    obtain ⟨k, hk, rfl, hst, hen⟩ := hrel
    by_cases hlt : k < l.length
    · obtain ⟨lb, lo, hA, hcr⟩ := rd_at hrd (by omega)
      cases hA
      obtain ⟨p0, p1, p2, p3, p4⟩ := recs_get l k hlt
      replace p0 := hcr _ _ p0
      replace p1 := hcr _ _ p1
      replace p2 := hcr _ _ p2
      replace p3 := hcr _ _ p3
      replace p4 := hcr _ _ p4
      rw [← Nat.add_assoc] at p1 p2 p3 p4
      clear hcr
      have hstep := fineC_take l k hlt
      have hfl := fineC_len (l.take k) []
      rw [List.length_take] at hfl
      change (fineC (l.take k)).length ≤ _ at hfl
      try simp only [List.length_nil] at hfl
      have hxD := Lib.hid (hld.out l[k] (List.getElem_mem hlt))
      obtain ⟨M, hM⟩ : ∃ M, Hid (M = fineC (l.take k)) := ⟨_, Lib.hid rfl⟩
      rw [← hM.out] at hst hstep hfl
      generalize l[k] = x at *
      obtain ⟨d1, d2, d3, hdv, _⟩ := hxD.out.d.form
      obtain ⟨b1, b2, b3, hbv, _⟩ := hxD.out.b.form
      obtain ⟨⟨r, s⟩, q, xd, xb, xD, xB⟩ := x
      try simp only at hdv hbv p0 p1 p2 p3 p4 hstep
      subst hdv hbv
      have hD := hst
      have enD := hen
      have hk0 : (0 : Int) ≤ (k : Int) := by omega
      have hkl : (k : Int) < (l.length : Int) := by omega
      have hC := refRec_any ((r, s), q, .slice d1 d2 d3, .slice b1 b2 b3, xD, xB) _ (hxD.out.rw hD)
      have hone := rec_one _ hxD.out
      unfold fineCStep at hstep
      try simp only [rp] at hC hstep
      clear hst hen
      by_cases hE : recErr ((r, s), q, xD, xB) = 0
      case neg =>
        rw [if_neg (fun h => hE h.1)] at hstep
        have hne : (recErr ((r, s), q, xD, xB) == 0) = false := by simpa using hE
        generalize recErr ((r, s), q, xD, xB) = E at *
        replace hC := Lib.hid hC
        replace hstep := Lib.hid hstep
        clear hE
        have u0 := hD.cell p0
        have u1 := hD.cell p1
        have u2 := hD.cell p2
        have u3 := hD.cell p3
        have u4 := hD.cell p4
        have ul := World.block_lt_of_cell? _ _ u0
        go_wp2_with fail
        refine hC.out.mono ?_
        rintro e w4 ⟨rfl, hb4⟩
        replace hD := hD.below hb4
        replace enD := enD.trans (bel_env hb4)
        clear u0 u1 u2 u3 u4 ul
        have u0 := hD.cell p0
        have u1 := hD.cell p1
        have u2 := hD.cell p2
        have u3 := hD.cell p3
        have u4 := hD.cell p4
        have ul := World.block_lt_of_cell? _ _ u0
        clear hk0 hkl
        go_wp2_with fail
        go_roundw
        case rel => exact ⟨k + 1, by omega, by go_num, by rw [hstep.out]; exact hD, enD⟩
        case measure => simp [intOf]; omega
      case pos =>
        rw [hE] at hC
        have hpos := findAt_pos (r, s) (rids M) 0 (by omega)
        have hF := fun v w' (h' : St (snap w) [Row 33 5 v (recs M)] w') => find_any v M (r, s) w' (h'.row_rw (by omega))
        generalize findAt (r, s) (rids M) 0 = z at *
        replace hC := Lib.hid hC
        replace hF := Lib.hid hF
        by_cases hin : ((r, s) : Id) ∈ rids M
        · rw [if_neg (fun h => h.2 hin)] at hstep
          have hz : ¬ z < 0 := by have := hpos.2 hin; omega
          replace hstep := Lib.hid hstep
          clear hpos hin hE
          have u0 := hD.cell p0
          have u1 := hD.cell p1
          have u2 := hD.cell p2
          have u3 := hD.cell p3
          have u4 := hD.cell p4
          have ul := World.block_lt_of_cell? _ _ u0
          go_wp2_with fail
          refine hC.out.mono ?_
          rintro e w4 ⟨rfl, hb4⟩
          replace hD := hD.below hb4
          replace enD := enD.trans (bel_env hb4)
          clear u0 u1 u2 u3 u4 ul
          have u0 := hD.cell p0
          have u1 := hD.cell p1
          have u2 := hD.cell p2
          have u3 := hD.cell p3
          have u4 := hD.cell p4
          have ul := World.block_lt_of_cell? _ _ u0
          go_wp2_with fail
          refine (hF.out _ _ hD).mono ?_
          rintro e w5 ⟨rfl, hb5⟩
          replace hD := hD.below hb5
          replace enD := enD.trans (bel_env hb5)
          clear u0 u1 u2 u3 u4 ul
          clear hk0 hkl
          go_wp2_with fail
          go_roundw
          case rel => exact ⟨k + 1, by omega, by go_num, by rw [hstep.out]; exact hD, enD⟩
          case measure => simp [intOf]; omega
        · rw [if_pos ⟨hE, hin⟩] at hstep
          have hz : z < 0 := by
            rcases Int.lt_or_le z 0 with h | h
            · exact h
            · exact absurd (hpos.1 h) hin
          replace hstep := Lib.hid hstep
          clear hpos hin hE
          have u0 := hD.cell p0
          have u1 := hD.cell p1
          have u2 := hD.cell p2
          have u3 := hD.cell p3
          have u4 := hD.cell p4
          have ul := World.block_lt_of_cell? _ _ u0
          go_wp2_with fail
          refine hC.out.mono ?_
          rintro e w4 ⟨rfl, hb4⟩
          replace hD := hD.below hb4
          replace enD := enD.trans (bel_env hb4)
          clear u0 u1 u2 u3 u4 ul
          have u0 := hD.cell p0
          have u1 := hD.cell p1
          have u2 := hD.cell p2
          have u3 := hD.cell p3
          have u4 := hD.cell p4
          have ul := World.block_lt_of_cell? _ _ u0
          go_wp2_with fail
          refine (hF.out _ _ hD).mono ?_
          rintro e w5 ⟨rfl, hb5⟩
          replace hD := hD.below hb5
          replace enD := enD.trans (bel_env hb5)
          clear u0 u1 u2 u3 u4 ul
          have hra : recs (M ++ [((r, s), q, Value.slice d1 d2 d3, Value.slice b1 b2 b3, xD, xB)]) = recs M ++ recc ((r, s), q, Value.slice d1 d2 d3, Value.slice b1 b2 b3, xD, xB) := by rw [recs_append]; simp [recs]
          replace hra := Lib.hid hra
          have u0 := hD.cell p0
          have u1 := hD.cell p1
          have u2 := hD.cell p2
          have u3 := hD.cell p3
          have u4 := hD.cell p4
          have ul := World.block_lt_of_cell? _ _ u0
          go_wp2_with (at_builtin; refine wpList_append rfl (.tmp 28) (.tmp 33) 23 23 rfl Try.underlying23 (.inl ⟨_, Try.underlying23⟩) (.agg #[.int .i64 0, .int .i64 0, .int .i64 0, .slice none 0 0, .slice none 0 0]) 72 info_rec rfl (by decide) (by decide) rfl rfl (hD.alloc _) (news_at _ _ 1 #[.int .i64 r, .int .i64 s, .int .i64 q, .slice d1 d2 d3, .slice b1 b2 b3] rfl (by simpa [recc] using hone) rfl) ?apB13 ?apK13)
          try case apB13 => first | omega | (simp; omega) | (simp [recs_len]; omega) | skip
          intro v' w9 h9 en9
          clear hk0 hkl
          go_wp2_with fail
          go_roundw
          case rel => exact ⟨k + 1, by omega, by go_num, by rw [hstep.out, hra.out]; exact h9, (enD.alloc _).trans en9⟩
          case measure => simp [intOf]; omega
    · obtain rfl : k = l.length := by omega
      rw [List.take_length] at hst
      go_wp2_with fail
      go_ret
      exact ⟨_, rfl, hst, hen⟩
end Go.Proofs.Ytohgcghobidfpaa

/- The premise: the reference's Mend. -/
set_option linter.unusedVariables false
set_option linter.unusedSimpArgs false
namespace Go.Proofs.Ytohgcghobidfpaa
open Go.RowKit Go.Cw Go.Fl
attribute [local go_sem ↓] eql_id neq_id
theorem St.row_at {H : Hp} {l : List HA} {w : World} {e : TypeId} {sz b off n c : Nat} {cs : List Value} (h : St H (Row e sz (.slice (some ⟨b, off, none⟩) n c) cs :: l) w) {j : Nat} {u : Value} (hj : cs[j]? = some u) : w.cell? ⟨b, off + j, none⟩ = some u := by
  obtain ⟨g, o, hA, hc, _⟩ := h.row_cell hj
  cases hA
  exact hc
/-- Put into a list that is only read. -/
theorem put_rd (v : Value) (l : List Id) (id : Id) (H : Hp) (fr : List HA) (w : World) (h : St H fr w) (hv : Rd H 2 v (idl l)) (hlen : (l.length + 1) * 16 ≤ 140737488355328) :
    Calls Try.prog 26 #[v, idV id] w fun e w' => ∃ v' H', e = .returned v' ∧ Hp.le H H' ∧ St H' fr w' ∧ Env w w' ∧ Rd H' 2 v' (idl (putL id l)) := by
  by_cases hin : id ∈ l
  · refine (put_has v l id w (hv.rw h) hin).mono ?_
    rintro e w' ⟨rfl, hb⟩
    exact ⟨v, H, rfl, Hp.le_refl _, h.below hb, bel_env hb, by unfold putL; rw [if_pos hin]; exact hv⟩
  · refine (put_new v l id w (hv.rw h) hin hlen).mono ?_
    rintro e w' he
    obtain ⟨v', rfl, h2, en2⟩ := ResE.lift h he
    obtain ⟨H', hle, h3, hr⟩ := h2.row_keep
    exact ⟨v', H', rfl, hle, h3, en2, by unfold putL; rw [if_neg hin]; exact hr⟩
theorem mendL_take (F : List Rp) (k : Nat) (h : k < F.length) : mendL (F.take (k + 1)) = mendL (F.take k) ++ [mendOne (mendL (F.take k)) F[k]] := by
  unfold mendL
  rw [List.take_add_one, List.getElem?_eq_getElem h, List.foldl_append]
  rfl
theorem mendL_len (F : List Rp) : (mendL F).length = F.length := by
  unfold mendL
  have : ∀ acc : List Rp, (F.foldl mendStep acc).length = acc.length + F.length := by
    induction F with
    | nil => exact fun acc => by simp
    | cons x r ih =>
      intro acc
      rw [List.foldl_cons, ih]
      unfold mendStep
      simp
      omega
  simpa using this []
end Go.Proofs.Ytohgcghobidfpaa
