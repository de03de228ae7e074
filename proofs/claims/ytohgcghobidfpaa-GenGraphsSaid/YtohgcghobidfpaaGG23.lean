/- Joined texts: Edges7, Prem4. -/
import Derived.Test.YtohgcghobidfpaaGG17
import Derived.Test.YtohgcghobidfpaaGG21
/- Graphs: the reference's Ids, Users, Missing. -/
set_option linter.unusedVariables false
set_option linter.unusedSimpArgs false
namespace Go.Proofs.Ytohgcghobidfpaa
open Go.RowKit Go.Cw Go.Fl
attribute [local go_sem ↓] eql_id neq_id
theorem sortL_push (M : List Id) (x : Id) : sortL (M ++ [x]) = putL x (sortL M) := by unfold sortL; rw [List.foldl_append]; rfl
set_option maxRecDepth 100000 in
set_option maxHeartbeats 1600000 in
theorem refGrIds_any (u : Value) (l : List Rc) (w : World) (hx : Rw w 5 u (recs l)) (hlen : l.length ≤ 1000000) :
    Calls Try.prog 23 #[u] w (ResE (snap w) [] w (fun v => v) (fun v => [Row 30 2 v (idl (sortL (rids l)))])) := by
  obtain ⟨A, n, c, rfl, hn, hnc, hc⟩ := hx.form
  rw [recs_len] at hn
  obtain rfl : n = l.length := by omega
  clear hn
  have h1 := (St.start w).row_lit 30 2 0 #[] rfl (by decide)
  have en1 := (Env.refl w).alloc (.cells #[] 30)
  have hrd := hx.rd
  go_enter Try.func23, Try.ntmps23
  go_wp2_with fail
  go_loopw [3, 4] (fun lv i wr => ∃ k : Nat, k ≤ l.length ∧ i = .int .i64 k ∧ St (snap w) [Row 30 2 lv (idl (sortL (rids (l.take k))))] wr ∧ Env w wr) (fun _ i _ => l.length - (intOf i).toNat)
  case atStart => exact ⟨0, Nat.zero_le _, rfl, h1, en1⟩
  case round =>
    clear h1 en1
    obtain ⟨k, hk, rfl, hst, hen⟩ := hrel
    by_cases hlt : k < l.length
    · have htk : rids (l.take (k + 1)) = rids (l.take k) ++ [l[k].1] := by unfold rids; rw [List.take_add_one, List.getElem?_eq_getElem hlt, List.map_append]; rfl
      have hsl : (sortL (rids (l.take k))).length ≤ k := by
        have := sortL_len (rids (l.take k))
        have h2 : (rids (l.take k)).length ≤ k := by rw [List.length_map, List.length_take]; omega
        omega
      obtain ⟨b, off, hA, hcr⟩ := (hrd.rw hst).cells (by omega)
      cases hA
      obtain ⟨p0, p1, -, -, -⟩ := recs_get l k hlt
      replace p0 := hcr _ _ p0
      replace p1 := hcr _ _ p1
      rw [← Nat.add_assoc] at p1
      clear hcr
      have pl := World.block_lt_of_cell? _ _ p0
      generalize l[k].1 = x at *
      obtain ⟨x0, x1⟩ := x
      have HN : Hid (putL (x0, x1) (sortL (rids (l.take k))) = sortL (rids (l.take (k + 1)))) := Lib.hid (by rw [htk, sortL_push])
      clear htk
      go_wp2_with fail
      refine (put_own _ _ (x0, x1) _ _ _ hst (by omega)).mono ?_
      rintro e w3 ⟨v', rfl, h3, en3⟩
      rw [HN.out] at h3
      go_wp2_with fail
      go_roundw
      case rel => exact ⟨k + 1, by omega, by go_num, h3, hen.trans en3⟩
      case measure => simp [intOf]; omega
    · obtain rfl : k = l.length := by omega
      rw [List.take_length] at hst
      go_wp2_with fail
      go_ret
      exact ⟨_, rfl, hst, hen⟩
/-- Who depends on one. -/
def usr (a : Id) (l : List Rc) : List Id := (l.filter (fun x => decide (a ∈ x.2.2.2.2.1))).map (·.1)
theorem usr_step (a : Id) (l : List Rc) (k : Nat) (h : k < l.length) : usr a (l.take (k + 1)) = if a ∈ l[k].2.2.2.2.1 then usr a (l.take k) ++ [l[k].1] else usr a (l.take k) := by
  unfold usr
  rw [List.take_add_one, List.getElem?_eq_getElem h, List.filter_append, List.map_append]
  by_cases hm : a ∈ l[k].2.2.2.2.1 <;> simp [hm]
theorem usr_len (a : Id) (l : List Rc) : (usr a l).length ≤ l.length := by
  unfold usr
  rw [List.length_map]
  exact List.length_filter_le ..
/-- What is missing. -/
def mis (K : List Id) (l : List Rc) : List Id := l.flatMap (fun x => x.2.2.2.2.1.filter (fun d => decide (d ∉ K)))
theorem mis_step (K : List Id) (l : List Rc) (k : Nat) (h : k < l.length) : mis K (l.take (k + 1)) = mis K (l.take k) ++ l[k].2.2.2.2.1.filter (fun d => decide (d ∉ K)) := by
  unfold mis
  rw [List.take_add_one, List.getElem?_eq_getElem h, List.flatMap_append]
  simp
theorem mis_len (K : List Id) (l : List Rc) (h : ∀ x ∈ l, x.2.2.2.2.1.length ≤ 16) : (mis K l).length ≤ 16 * l.length := flat_le _ l (fun x hx => Nat.le_trans (List.length_filter_le ..) (h x hx))
end Go.Proofs.Ytohgcghobidfpaa

/- The premise: the reference's Holds. -/
set_option linter.unusedVariables false
set_option linter.unusedSimpArgs false
namespace Go.Proofs.Ytohgcghobidfpaa
open Go.RowKit Go.Cw Go.Fl
attribute [local go_sem ↓] eql_id neq_id
theorem findAt_look (a : Id) : ∀ (l : List Rc) (k : Int), a ∈ rids l → ∃ i, ∃ h : i < l.length, findAt a (rids l) k = k + (i : Int) ∧ l[i].1 = a ∧ rp l[i] = lookR (l.map rp) a
  | [], _, h => by simp [rids] at h
  | x :: r, k, h => by
    by_cases hx : x.1 = a
    · exact ⟨0, by simp, by simp [findAt, hx], hx, by unfold lookR; rw [List.map_cons, List.find?_cons_of_pos (by simpa using hx)]; rfl⟩
    · have h2 : a ∈ rids r := by
        simp only [rids, List.map_cons, List.mem_cons] at h
        exact h.resolve_left (fun e => hx e.symm)
      obtain ⟨i, hi, he, hg, hl⟩ := findAt_look a r (k + 1) h2
      refine ⟨i + 1, by simpa using hi, ?_, by simpa using hg, ?_⟩
      · show (if x.1 = a then k else findAt a (rids r) (k + 1)) = _
        rw [if_neg hx, he]; omega
      · rw [List.getElem_cons_succ, hl]
        unfold lookR
        rw [List.map_cons, List.find?_cons_of_neg (by simpa using hx)]
def RefHoldRes (l : List Rc) (w : World) (e : Ending) (w' : World) : Prop := ∃ (a b : Id) (ok : Bool), holdsR (grS l) = (a, b, ok) ∧ e = .returned (.tuple #[idV a, idV b, .bool ok]) ∧ Below w.heap.size w w'
set_option maxRecDepth 100000 in
set_option maxHeartbeats 6400000 in
theorem refHolds_any (u : Value) (l : List Rc) (w : World) (hx : Rw w 5 u (recs l)) (hl : ∀ x ∈ l, RcR w x) (hlen : l.length ≤ 1000000) :
    Calls Try.prog 9 #[u] w (RefHoldRes l w) := by
  obtain ⟨A, n, c, rfl, hn, hnc, hc⟩ := hx.form
  rw [recs_len] at hn
  obtain rfl : n = l.length := by omega
  clear hn
  have h1 := (St.start w).blk #[.int .i64 0, .int .i64 0] 30
  have h2 := h1.blk #[.int .i64 0, .int .i64 0] 30
  have e1 : (w.alloc (.cells #[.int .i64 0, .int .i64 0] 30)).heap.size = w.heap.size + 1 := by simp
  rw [e1] at h2
  have en2 := ((Env.refl w).alloc (.cells #[.int .i64 0, .int .i64 0] 30)).alloc (.cells #[.int .i64 0, .int .i64 0] 30)
  have hrd := hx.rd
  have hld : ∀ x ∈ l, RcD (snap w) x := fun x hm => ⟨(hl x hm).d.rd, (hl x hm).b.rd, (hl x hm).ok⟩
  clear h1 e1 hx hl
  go_enter Try.func9, Try.ntmps9
  go_wp2_with fail
  generalize (w.alloc (.cells #[.int .i64 0, .int .i64 0] 30)).alloc (.cells #[.int .i64 0, .int .i64 0] 30) = W at *
  generalize w.heap.size + 1 = g3 at *
  generalize w.heap.size = g2 at *
  refine (refGrIds_any _ l _ (hrd.rw h2) hlen).mono ?_
  rintro e w3 he
  obtain ⟨vI, rfl, h3, en3⟩ := ResE.lift h2 he
  obtain ⟨H4, l4, h4, hvI⟩ := h3.row_keep
  have en4 := en2.trans en3
  have hRl : (sortL (rids l)).length ≤ 1000000 := by
    have a := sortL_len (rids l)
    rw [List.length_map] at a
    omega
  have hRm : ∀ a ∈ sortL (rids l), a ∈ rids l := fun a ha => (sortL_mem _ _).1 ha
  clear h2 h3 en2 en3 he
  obtain ⟨RL, HRL⟩ : ∃ RL, Hid (RL = sortL (rids l)) := ⟨_, Lib.hid rfl⟩
  rw [← HRL.out] at hRl hvI hRm
  obtain ⟨iA, i2, i3, rfl, hi4, hi5, hi6⟩ := hvI.form
  rw [idl_len] at hi4
  obtain rfl : i2 = RL.length := by omega
  clear hi4
  have hrd4 := hrd.mono l4
  have hld4 : ∀ x ∈ l, RcD H4 x := fun x hm => (hld x hm).mono l4
  obtain ⟨S, HS⟩ : ∃ S, Hid (S = RL.map (lookR (l.map rp))) := ⟨_, Lib.hid rfl⟩
  have hSl : Hid (S.length = RL.length) := Lib.hid (by rw [HS.out, List.length_map])
  have hgS : Hid (grS l = S) := Lib.hid (by rw [HS.out, HRL.out]; rfl)
  obtain ⟨T, hT⟩ : ∃ T, Hid (flk S = T) := ⟨_, Lib.hid rfl⟩
  have hat : Hid (∀ k (hk : k < RL.length), ∃ i, ∃ h : i < l.length, findAt RL[k] (rids l) 0 = (i : Int) ∧ l[i].1 = RL[k] ∧ rp l[i] = lookR (l.map rp) RL[k] ∧ S[k]? = some (rp l[i])) := Lib.hid (fun k hk => by
    obtain ⟨i, hi, he, h1, h2⟩ := findAt_look RL[k] l 0 (hRm _ (List.getElem_mem hk))
    exact ⟨i, hi, by omega, h1, h2, by rw [HS.out, List.getElem?_map, List.getElem?_eq_getElem hk, h2]; rfl⟩)
  have hTg0 := hT
  have hfd := fun k (hk : k < S.length) => flk_drop S k hk
  have hid := fun x m (hm : m < S.length) rest => inn_drop S x m hm rest
  replace hfd := Lib.hid hfd
  replace hid := Lib.hid hid
  replace hld4 := Lib.hid hld4
  clear hRm hrd hld
  go_wp2_with fail
  go_loopw [6] (fun i wr => ∃ k : Nat, k ≤ RL.length ∧ i = .int .i64 (k : Int) ∧ St H4 (Blk g3 #[.int .i64 0, .int .i64 0] 30 :: Blk g2 #[.int .i64 0, .int .i64 0] 30 :: []) wr ∧ Env w wr ∧ Hid (flk (S.drop k) = T)) (fun i _ => RL.length - (intOf i).toNat)
  case atStart => exact ⟨0, by omega, by go_num, h4, en4, hT⟩
  case round =>
    clear h4 en4 hT
    obtain ⟨k, hk, rfl, hst, hen, hTk⟩ := hrel
    obtain ⟨wo, rfl⟩ : ∃ wo : World, wo = wr := ⟨_, rfl⟩
    by_cases hlt : k < RL.length
    · obtain ⟨ib, io, hA, hcr⟩ := rd_at hvI (by omega)
      cases hA
      have p0 := hcr _ _ (idl_fst RL k hlt)
      have p1 := hcr _ _ (idl_snd RL k hlt)
      rw [← Nat.add_assoc] at p1
      replace hcr := Lib.hid hcr
      have hTk2 := hTk.out
      rw [hfd.out k (by rw [hSl.out]; exact hlt)] at hTk2
      obtain ⟨i, hi, hfi, hi1, hil, hSi⟩ := hat.out k hlt
      rw [(List.getElem?_eq_some_iff.1 hSi).2] at hTk2
      have hF1 := fun w' (h' : St H4 (Blk g3 #[.int .i64 0, .int .i64 0] 30 :: Blk g2 #[.int .i64 0, .int .i64 0] 30 :: []) w') => find_any _ l RL[k] w' (hrd4.rw h')
      rw [hfi] at hF1
      generalize RL[k] = a at *
      obtain ⟨r, s⟩ := a
      try simp only at p0 p1 hF1
      obtain ⟨lb, lo, hA, hcl⟩ := rd_at hrd4 (by omega)
      cases hA
      obtain ⟨a0, a1, a2, a3, a4⟩ := recs_get l i hi
      replace a0 := hcl _ _ a0
      replace a1 := hcl _ _ a1
      replace a2 := hcl _ _ a2
      replace a3 := hcl _ _ a3
      replace a4 := hcl _ _ a4
      rw [← Nat.add_assoc] at a1 a2 a3 a4
      replace hcl := Lib.hid hcl
      have hxD := Lib.hid (hld4.out l[i] (List.getElem_mem hi))
      clear hil hSi hfi
      generalize l[i] = x at *
      obtain ⟨d1, d2, d3, hdv, _⟩ := hxD.out.d.form
      obtain ⟨b1, b2, b3, hbv, _⟩ := hxD.out.b.form
      obtain ⟨⟨xr, xs⟩, q, xd, xb, xD, xB⟩ := x
      simp only [Prod.mk.injEq] at hdv hbv a0 a1 a2 a3 a4 hi1
      obtain ⟨rfl, rfl⟩ := hi1
      subst hdv hbv
      try simp only at hTk2
      replace hTk2 := Lib.hid hTk2
      replace hF1 := Lib.hid hF1
      have hk0 : (0 : Int) ≤ (k : Int) := by omega
      have hkl : (k : Int) < (RL.length : Int) := by omega
      have hi0 : (0 : Int) ≤ (i : Int) := by omega
      have hil : (i : Int) < (l.length : Int) := by omega
      go_wp2_with fail
      go_loopw [7] (fun j wr => ∃ m : Nat, k + 1 ≤ m ∧ m ≤ RL.length ∧ j = .int .i64 (m : Int) ∧ St H4 (Blk g3 #[.int .i64 0, .int .i64 0] 30 :: Blk g2 #[.int .i64 0, .int .i64 0] 30 :: []) wr ∧ Env w wr ∧ Hid (inn ((xr, xs), q, xD, xB) (S.drop m) (flk (S.drop (k + 1))) = T)) (fun j _ => RL.length - (intOf j).toNat)
      case atStart => exact ⟨k + 1, by omega, by omega, by go_num, hst, hen, hTk2⟩
      case round =>
        clear hst hen hTk2
        obtain ⟨m, hkm, hm, rfl, hst, hen, hI⟩ := hrel
        by_cases hlt2 : m < RL.length
        · have m0 := hcr.out _ _ (idl_fst RL m hlt2)
          have m1 := hcr.out _ _ (idl_snd RL m hlt2)
          rw [← Nat.add_assoc] at m1
          have hI2 := hI.out
          rw [hid.out _ m (by rw [hSl.out]; exact hlt2)] at hI2
          obtain ⟨j, hj, hfj, hj1, hjl, hSj⟩ := hat.out m hlt2
          rw [(List.getElem?_eq_some_iff.1 hSj).2] at hI2
          have hF2 := fun w' (h' : St H4 (Blk g3 #[.int .i64 0, .int .i64 0] 30 :: Blk g2 #[.int .i64 0, .int .i64 0] 30 :: []) w') => find_any _ l RL[m] w' (hrd4.rw h')
          rw [hfj] at hF2
          generalize RL[m] = b at *
          obtain ⟨r', s'⟩ := b
          try simp only at m0 m1 hF2
          obtain ⟨q0, q1, q2, q3, q4⟩ := recs_get l j hj
          replace q0 := hcl.out _ _ q0
          replace q1 := hcl.out _ _ q1
          replace q2 := hcl.out _ _ q2
          replace q3 := hcl.out _ _ q3
          replace q4 := hcl.out _ _ q4
          rw [← Nat.add_assoc] at q1 q2 q3 q4
          have hyD := Lib.hid (hld4.out l[j] (List.getElem_mem hj))
          clear hjl hSj hfj
          generalize l[j] = y at *
          obtain ⟨e1, e2, e3, hev, _⟩ := hyD.out.d.form
          obtain ⟨f1, f2, f3, hfv, _⟩ := hyD.out.b.form
          obtain ⟨⟨yr, ys⟩, q', yd, yb, yD, yB⟩ := y
          simp only [Prod.mk.injEq] at hev hfv q0 q1 q2 q3 q4 hj1
          obtain ⟨rfl, rfl⟩ := hj1
          subst hev hfv
          have kk : ∀ (l' : List HA) (w' : World), St H4 l' w' → (fun w' : World => w'.cell? ⟨ib, io + k * 2, none⟩ = some (.int .i64 xr) ∧ w'.cell? ⟨ib, io + k * 2 + 1, none⟩ = some (.int .i64 xs) ∧ w'.cell? ⟨ib, io + m * 2, none⟩ = some (.int .i64 yr) ∧ w'.cell? ⟨ib, io + m * 2 + 1, none⟩ = some (.int .i64 ys) ∧ w'.cell? ⟨lb, lo + i * 5, none⟩ = some (.int .i64 xr) ∧ w'.cell? ⟨lb, lo + i * 5 + 1, none⟩ = some (.int .i64 xs) ∧ w'.cell? ⟨lb, lo + i * 5 + 2, none⟩ = some (.int .i64 q) ∧ w'.cell? ⟨lb, lo + i * 5 + 3, none⟩ = some (.slice d1 d2 d3) ∧ w'.cell? ⟨lb, lo + i * 5 + 4, none⟩ = some (.slice b1 b2 b3) ∧ w'.cell? ⟨lb, lo + j * 5, none⟩ = some (.int .i64 yr) ∧ w'.cell? ⟨lb, lo + j * 5 + 1, none⟩ = some (.int .i64 ys) ∧ w'.cell? ⟨lb, lo + j * 5 + 2, none⟩ = some (.int .i64 q') ∧ w'.cell? ⟨lb, lo + j * 5 + 3, none⟩ = some (.slice e1 e2 e3) ∧ w'.cell? ⟨lb, lo + j * 5 + 4, none⟩ = some (.slice f1 f2 f3)) w' := fun l' w' h => ⟨h.cell p0, h.cell p1, h.cell m0, h.cell m1, h.cell a0, h.cell a1, h.cell a2, h.cell a3, h.cell a4, h.cell q0, h.cell q1, h.cell q2, h.cell q3, h.cell q4⟩
          have hm0 : (0 : Int) ≤ (m : Int) := by omega
          have hml : (m : Int) < (RL.length : Int) := by omega
          have hj0 : (0 : Int) ≤ (j : Int) := by omega
          have hjl : (j : Int) < (l.length : Int) := by omega
          have hD := hst.drew
          have enD := hen.drew
          have hLk := fun w' (h' : St H4 (Blk g3 #[.int .i64 0, .int .i64 0] 30 :: Blk g2 #[.int .i64 0, .int .i64 0] 30 :: []) w') => refLacks_any ((xr, xs), q, .slice d1 d2 d3, .slice b1 b2 b3, xD, xB) ((yr, ys), q', .slice e1 e2 e3, .slice f1 f2 f3, yD, yB) w' (hxD.out.rw h') (hyD.out.rw h')
          try simp only at hLk hI2
          replace hF2 := Lib.hid hF2
          clear hst hen hI
          cases hlk : lackR ((xr, xs), q, xD, xB) ((yr, ys), q', yD, yB) with
          | false =>
            rw [hlk, if_neg (by simp)] at hI2
            simp only [hlk] at hLk
            replace hLk := Lib.hid hLk
            replace hI2 := Lib.hid hI2
            clear hlk
            go_wp2_with fail
            refine wp_region_held_drew (S := (fun w' : World => w'.cell? ⟨ib, io + k * 2, none⟩ = some (.int .i64 xr) ∧ w'.cell? ⟨ib, io + k * 2 + 1, none⟩ = some (.int .i64 xs) ∧ w'.cell? ⟨ib, io + m * 2, none⟩ = some (.int .i64 yr) ∧ w'.cell? ⟨ib, io + m * 2 + 1, none⟩ = some (.int .i64 ys) ∧ w'.cell? ⟨lb, lo + i * 5, none⟩ = some (.int .i64 xr) ∧ w'.cell? ⟨lb, lo + i * 5 + 1, none⟩ = some (.int .i64 xs) ∧ w'.cell? ⟨lb, lo + i * 5 + 2, none⟩ = some (.int .i64 q) ∧ w'.cell? ⟨lb, lo + i * 5 + 3, none⟩ = some (.slice d1 d2 d3) ∧ w'.cell? ⟨lb, lo + i * 5 + 4, none⟩ = some (.slice b1 b2 b3) ∧ w'.cell? ⟨lb, lo + j * 5, none⟩ = some (.int .i64 yr) ∧ w'.cell? ⟨lb, lo + j * 5 + 1, none⟩ = some (.int .i64 ys) ∧ w'.cell? ⟨lb, lo + j * 5 + 2, none⟩ = some (.int .i64 q') ∧ w'.cell? ⟨lb, lo + j * 5 + 3, none⟩ = some (.slice e1 e2 e3) ∧ w'.cell? ⟨lb, lo + j * 5 + 4, none⟩ = some (.slice f1 f2 f3))) (by kernel_rfl) (kk _ _ hD) (fun hHeld => ?_)
            refine wpAnyH_take (i := 0) (oi := { dst := some 24, op := Go.Op.move (Go.Operand.tmp 0), type := 23, pos := "ref.go:23", after := #[], guard := none }) (v := ?_) rfl (by kernel_rfl) (by kernel_rfl) (by kernel_rfl) (fun _ _ _ h => h) (Or.inl ⟨by rfl, ?_⟩) (by assumption) ?_
            rotate_left
            · (intro w hSw; (try dsimp only at hSw); go_simp; (try (with_reducible rfl)))
            try simp only [Act.put, List.setIfInBounds_toArray, List.set_cons_zero, List.set_cons_succ]
            refine wpAnyH_take (i := 1) (oi := { dst := some 25, op := Go.Op.move (Go.Operand.tmp 0), type := 23, pos := "ref.go:23", after := #[], guard := none }) (v := ?_) rfl (by kernel_rfl) (by kernel_rfl) (by kernel_rfl) (fun _ _ _ h => h) (Or.inl ⟨by rfl, ?_⟩) (by assumption) ?_
            rotate_left
            · (intro w hSw; (try dsimp only at hSw); go_simp; (try (with_reducible rfl)))
            try simp only [Act.put, List.setIfInBounds_toArray, List.set_cons_zero, List.set_cons_succ]
            refine wpAnyH_take (i := 2) (oi := { dst := some 26, op := Go.Op.move (Go.Operand.tmp 5), type := 31, pos := "ref.go:23", after := #[], guard := none }) (v := ?_) rfl (by kernel_rfl) (by kernel_rfl) (by kernel_rfl) (fun _ _ _ h => h) (Or.inl ⟨by rfl, ?_⟩) (by assumption) ?_
            rotate_left
            · (intro w hSw; (try dsimp only at hSw); go_simp; (try (with_reducible rfl)))
            try simp only [Act.put, List.setIfInBounds_toArray, List.set_cons_zero, List.set_cons_succ]
            refine wpAnyH_take (i := 3) (oi := { dst := some 27, op := Go.Op.move (Go.Operand.tmp 6), type := 3, pos := "ref.go:23", after := #[], guard := none }) (v := ?_) rfl (by kernel_rfl) (by kernel_rfl) (by kernel_rfl) (fun _ _ _ h => h) (Or.inl ⟨by rfl, ?_⟩) (by assumption) ?_
            rotate_left
            · (intro w hSw; (try dsimp only at hSw); go_simp; (try (with_reducible rfl)))
            try simp only [Act.put, List.setIfInBounds_toArray, List.set_cons_zero, List.set_cons_succ]
            refine wpAnyH_take (i := 4) (oi := { dst := some 28, op := Go.Op.indexAddr 31 (Go.Operand.tmp 26) (Go.Operand.tmp 27), type := 0, pos := "ref.go:23", after := #[{ on := 2, ground := Go.Ground.data }, { on := 3, ground := Go.Ground.data }], guard := none }) (v := ?_) rfl (by kernel_rfl) (by kernel_rfl) (by kernel_rfl) (fun _ _ _ h => h) (Or.inl ⟨by rfl, ?_⟩) (by assumption) ?_
            rotate_left
            · (intro w hSw; (try dsimp only at hSw); go_simp; (try (with_reducible rfl)))
            try simp only [Act.put, List.setIfInBounds_toArray, List.set_cons_zero, List.set_cons_succ]
            refine wpAnyH_take (i := 5) (oi := { dst := some 29, op := Go.Op.load 30 (Go.Operand.tmp 28), type := 30, pos := "ref.go:23", after := #[{ on := 4, ground := Go.Ground.data }], guard := none }) (v := ?_) rfl (by kernel_rfl) (by kernel_rfl) (by kernel_rfl) (fun _ _ _ h => h) (Or.inl ⟨by rfl, ?_⟩) (by assumption) ?_
            rotate_left
            · (intro w hSw; (try dsimp only at hSw); go_simp; (try (with_reducible rfl)))
            try simp only [Act.put, List.setIfInBounds_toArray, List.set_cons_zero, List.set_cons_succ]
            refine wpAnyH_take (i := 9) (oi := { dst := some 33, op := Go.Op.move (Go.Operand.tmp 0), type := 23, pos := "ref.go:23", after := #[], guard := none }) (v := ?_) rfl (by kernel_rfl) (by kernel_rfl) (by kernel_rfl) (fun _ _ _ h => h) (Or.inl ⟨by rfl, ?_⟩) (by assumption) ?_
            rotate_left
            · (intro w hSw; (try dsimp only at hSw); go_simp; (try (with_reducible rfl)))
            try simp only [Act.put, List.setIfInBounds_toArray, List.set_cons_zero, List.set_cons_succ]
            refine wpAnyH_take (i := 10) (oi := { dst := some 34, op := Go.Op.move (Go.Operand.tmp 0), type := 23, pos := "ref.go:23", after := #[], guard := none }) (v := ?_) rfl (by kernel_rfl) (by kernel_rfl) (by kernel_rfl) (fun _ _ _ h => h) (Or.inl ⟨by rfl, ?_⟩) (by assumption) ?_
            rotate_left
            · (intro w hSw; (try dsimp only at hSw); go_simp; (try (with_reducible rfl)))
            try simp only [Act.put, List.setIfInBounds_toArray, List.set_cons_zero, List.set_cons_succ]
            refine wpAnyH_take (i := 11) (oi := { dst := some 35, op := Go.Op.move (Go.Operand.tmp 5), type := 31, pos := "ref.go:23", after := #[], guard := none }) (v := ?_) rfl (by kernel_rfl) (by kernel_rfl) (by kernel_rfl) (fun _ _ _ h => h) (Or.inl ⟨by rfl, ?_⟩) (by assumption) ?_
            rotate_left
            · (intro w hSw; (try dsimp only at hSw); go_simp; (try (with_reducible rfl)))
            try simp only [Act.put, List.setIfInBounds_toArray, List.set_cons_zero, List.set_cons_succ]
            refine wpAnyH_take (i := 12) (oi := { dst := some 36, op := Go.Op.move (Go.Operand.tmp 7), type := 3, pos := "ref.go:23", after := #[], guard := none }) (v := ?_) rfl (by kernel_rfl) (by kernel_rfl) (by kernel_rfl) (fun _ _ _ h => h) (Or.inl ⟨by rfl, ?_⟩) (by assumption) ?_
            rotate_left
            · (intro w hSw; (try dsimp only at hSw); go_simp; (try (with_reducible rfl)))
            try simp only [Act.put, List.setIfInBounds_toArray, List.set_cons_zero, List.set_cons_succ]
            refine wpAnyH_take (i := 13) (oi := { dst := some 37, op := Go.Op.indexAddr 31 (Go.Operand.tmp 35) (Go.Operand.tmp 36), type := 0, pos := "ref.go:23", after := #[{ on := 11, ground := Go.Ground.data }, { on := 12, ground := Go.Ground.data }], guard := none }) (v := ?_) rfl (by kernel_rfl) (by kernel_rfl) (by kernel_rfl) (fun _ _ _ h => h) (Or.inl ⟨by rfl, ?_⟩) (by assumption) ?_
            rotate_left
            · (intro w hSw; (try dsimp only at hSw); go_simp; (try (with_reducible rfl)))
            try simp only [Act.put, List.setIfInBounds_toArray, List.set_cons_zero, List.set_cons_succ]
            refine wpAnyH_take (i := 14) (oi := { dst := some 38, op := Go.Op.load 30 (Go.Operand.tmp 37), type := 30, pos := "ref.go:23", after := #[{ on := 13, ground := Go.Ground.data }], guard := none }) (v := ?_) rfl (by kernel_rfl) (by kernel_rfl) (by kernel_rfl) (fun _ _ _ h => h) (Or.inl ⟨by rfl, ?_⟩) (by assumption) ?_
            rotate_left
            · (intro w hSw; (try dsimp only at hSw); go_simp; (try (with_reducible rfl)))
            try simp only [Act.put, List.setIfInBounds_toArray, List.set_cons_zero, List.set_cons_succ]
            refine wpAnyH_ready (rs := [6]) (by kernel_rfl) (by simp) ?_
            refine AllReadyH.cons (o := { dst := some 30, op := Go.Op.call { callee := Go.Callee.value (Go.Operand.func 20), args := #[Go.Operand.tmp 25, Go.Operand.tmp 29], argTypes := #[23, 30] }, type := 3, pos := "ref.go:23", after := #[{ on := 1, ground := Go.Ground.data }, { on := 5, ground := Go.Ground.data }], guard := none }) rfl (fun K hK => ?_) AllReadyH.nil
            go_simp
            refine (hF1.out _ hD).mono ?_
            rintro e w6 ⟨rfl, hb6⟩
            replace hD := hD.below hb6
            replace enD := enD.trans (bel_env hb6)
            refine hK.out _ _ (kk _ _ hD) (fun hHeld2 => ?_)
            clear hK K hHeld
            try simp only [Act.put, List.setIfInBounds_toArray, List.set_cons_zero, List.set_cons_succ]
            refine wpAnyH_take (i := 7) (oi := { dst := some 31, op := Go.Op.indexAddr 23 (Go.Operand.tmp 24) (Go.Operand.tmp 30), type := 0, pos := "ref.go:23", after := #[{ on := 0, ground := Go.Ground.data }, { on := 6, ground := Go.Ground.data }], guard := none }) (v := ?_) rfl (by kernel_rfl) (by kernel_rfl) (by kernel_rfl) (fun _ _ _ h => h) (Or.inl ⟨by rfl, ?_⟩) (by assumption) ?_
            rotate_left
            · (intro w hSw; (try dsimp only at hSw); go_simp; (try (with_reducible rfl)))
            try simp only [Act.put, List.setIfInBounds_toArray, List.set_cons_zero, List.set_cons_succ]
            refine wpAnyH_take (i := 8) (oi := { dst := some 32, op := Go.Op.load 33 (Go.Operand.tmp 31), type := 33, pos := "ref.go:23", after := #[{ on := 7, ground := Go.Ground.data }], guard := none }) (v := ?_) rfl (by kernel_rfl) (by kernel_rfl) (by kernel_rfl) (fun _ _ _ h => h) (Or.inl ⟨by rfl, ?_⟩) (by assumption) ?_
            rotate_left
            · (intro w hSw; (try dsimp only at hSw); go_simp; (try (with_reducible rfl)))
            try simp only [Act.put, List.setIfInBounds_toArray, List.set_cons_zero, List.set_cons_succ]
            refine wpAnyH_ready (rs := [15]) (by kernel_rfl) (by simp) ?_
            refine AllReadyH.cons (o := { dst := some 39, op := Go.Op.call { callee := Go.Callee.value (Go.Operand.func 20), args := #[Go.Operand.tmp 34, Go.Operand.tmp 38], argTypes := #[23, 30] }, type := 3, pos := "ref.go:23", after := #[{ on := 10, ground := Go.Ground.data }, { on := 14, ground := Go.Ground.data }, { on := 6, ground := Go.Ground.chain }], guard := none }) rfl (fun K hK => ?_) AllReadyH.nil
            go_simp
            refine (hF2.out _ hD).mono ?_
            rintro e w7 ⟨rfl, hb7⟩
            replace hD := hD.below hb7
            replace enD := enD.trans (bel_env hb7)
            refine hK.out _ _ (kk _ _ hD) (fun hHeld3 => ?_)
            clear hK K hHeld2
            try simp only [Act.put, List.setIfInBounds_toArray, List.set_cons_zero, List.set_cons_succ]
            refine wpAnyH_take (i := 16) (oi := { dst := some 40, op := Go.Op.indexAddr 23 (Go.Operand.tmp 33) (Go.Operand.tmp 39), type := 0, pos := "ref.go:23", after := #[{ on := 9, ground := Go.Ground.data }, { on := 15, ground := Go.Ground.data }], guard := none }) (v := ?_) rfl (by kernel_rfl) (by kernel_rfl) (by kernel_rfl) (fun _ _ _ h => h) (Or.inl ⟨by rfl, ?_⟩) (by assumption) ?_
            rotate_left
            · (intro w hSw; (try dsimp only at hSw); go_simp; (try (with_reducible rfl)))
            try simp only [Act.put, List.setIfInBounds_toArray, List.set_cons_zero, List.set_cons_succ]
            refine wpAnyH_take (i := 17) (oi := { dst := some 41, op := Go.Op.load 33 (Go.Operand.tmp 40), type := 33, pos := "ref.go:23", after := #[{ on := 16, ground := Go.Ground.data }], guard := none }) (v := ?_) rfl (by kernel_rfl) (by kernel_rfl) (by kernel_rfl) (fun _ _ _ h => h) (Or.inl ⟨by rfl, ?_⟩) (by assumption) ?_
            rotate_left
            · (intro w hSw; (try dsimp only at hSw); go_simp; (try (with_reducible rfl)))
            try simp only [Act.put, List.setIfInBounds_toArray, List.set_cons_zero, List.set_cons_succ]
            refine wpAnyH_ready (rs := [18]) (by kernel_rfl) (by simp) ?_
            refine AllReadyH.cons (o := { dst := some 42, op := Go.Op.call { callee := Go.Callee.value (Go.Operand.func 24), args := #[Go.Operand.tmp 32, Go.Operand.tmp 41], argTypes := #[33, 33] }, type := 4, pos := "ref.go:23", after := #[{ on := 8, ground := Go.Ground.data }, { on := 17, ground := Go.Ground.data }, { on := 15, ground := Go.Ground.chain }], guard := none }) rfl (fun K hK => ?_) AllReadyH.nil
            go_simp
            refine (hLk.out _ hD).mono ?_
            rintro e w8 ⟨rfl, hb8⟩
            replace hD := hD.below hb8
            replace enD := enD.trans (bel_env hb8)
            refine hK.out _ _ (kk _ _ hD) (fun hHeld => ?_)
            clear hK K hHeld3
            try simp only [Act.put, List.setIfInBounds_toArray, List.set_cons_zero, List.set_cons_succ]
            refine wpAnyH_done (by kernel_rfl) ?_ _
            clear hHeld hk0 hkl hm0 hml hi0 hil hj0 hjl
            go_wp2_with fail
            go_roundw
            case rel => exact ⟨m + 1, by omega, by omega, by go_num, hD, enD, hI2⟩
            case measure => simp [intOf]; omega
          | true =>
            rw [hlk, if_pos rfl] at hI2
            simp only [hlk] at hLk
            replace hLk := Lib.hid hLk
            have hres : Hid (holdsR (grS l) = ((xr, xs), (yr, ys), false)) := Lib.hid (by unfold holdsR; rw [hgS.out, hTg0.out, ← hI2])
            clear hlk hI2
            go_wp2_with fail
            refine wp_region_held_drew (S := (fun w' : World => w'.cell? ⟨ib, io + k * 2, none⟩ = some (.int .i64 xr) ∧ w'.cell? ⟨ib, io + k * 2 + 1, none⟩ = some (.int .i64 xs) ∧ w'.cell? ⟨ib, io + m * 2, none⟩ = some (.int .i64 yr) ∧ w'.cell? ⟨ib, io + m * 2 + 1, none⟩ = some (.int .i64 ys) ∧ w'.cell? ⟨lb, lo + i * 5, none⟩ = some (.int .i64 xr) ∧ w'.cell? ⟨lb, lo + i * 5 + 1, none⟩ = some (.int .i64 xs) ∧ w'.cell? ⟨lb, lo + i * 5 + 2, none⟩ = some (.int .i64 q) ∧ w'.cell? ⟨lb, lo + i * 5 + 3, none⟩ = some (.slice d1 d2 d3) ∧ w'.cell? ⟨lb, lo + i * 5 + 4, none⟩ = some (.slice b1 b2 b3) ∧ w'.cell? ⟨lb, lo + j * 5, none⟩ = some (.int .i64 yr) ∧ w'.cell? ⟨lb, lo + j * 5 + 1, none⟩ = some (.int .i64 ys) ∧ w'.cell? ⟨lb, lo + j * 5 + 2, none⟩ = some (.int .i64 q') ∧ w'.cell? ⟨lb, lo + j * 5 + 3, none⟩ = some (.slice e1 e2 e3) ∧ w'.cell? ⟨lb, lo + j * 5 + 4, none⟩ = some (.slice f1 f2 f3))) (by kernel_rfl) (kk _ _ hD) (fun hHeld => ?_)
            refine wpAnyH_take (i := 0) (oi := { dst := some 24, op := Go.Op.move (Go.Operand.tmp 0), type := 23, pos := "ref.go:23", after := #[], guard := none }) (v := ?_) rfl (by kernel_rfl) (by kernel_rfl) (by kernel_rfl) (fun _ _ _ h => h) (Or.inl ⟨by rfl, ?_⟩) (by assumption) ?_
            rotate_left
            · (intro w hSw; (try dsimp only at hSw); go_simp; (try (with_reducible rfl)))
            try simp only [Act.put, List.setIfInBounds_toArray, List.set_cons_zero, List.set_cons_succ]
            refine wpAnyH_take (i := 1) (oi := { dst := some 25, op := Go.Op.move (Go.Operand.tmp 0), type := 23, pos := "ref.go:23", after := #[], guard := none }) (v := ?_) rfl (by kernel_rfl) (by kernel_rfl) (by kernel_rfl) (fun _ _ _ h => h) (Or.inl ⟨by rfl, ?_⟩) (by assumption) ?_
            rotate_left
            · (intro w hSw; (try dsimp only at hSw); go_simp; (try (with_reducible rfl)))
            try simp only [Act.put, List.setIfInBounds_toArray, List.set_cons_zero, List.set_cons_succ]
            refine wpAnyH_take (i := 2) (oi := { dst := some 26, op := Go.Op.move (Go.Operand.tmp 5), type := 31, pos := "ref.go:23", after := #[], guard := none }) (v := ?_) rfl (by kernel_rfl) (by kernel_rfl) (by kernel_rfl) (fun _ _ _ h => h) (Or.inl ⟨by rfl, ?_⟩) (by assumption) ?_
            rotate_left
            · (intro w hSw; (try dsimp only at hSw); go_simp; (try (with_reducible rfl)))
            try simp only [Act.put, List.setIfInBounds_toArray, List.set_cons_zero, List.set_cons_succ]
            refine wpAnyH_take (i := 3) (oi := { dst := some 27, op := Go.Op.move (Go.Operand.tmp 6), type := 3, pos := "ref.go:23", after := #[], guard := none }) (v := ?_) rfl (by kernel_rfl) (by kernel_rfl) (by kernel_rfl) (fun _ _ _ h => h) (Or.inl ⟨by rfl, ?_⟩) (by assumption) ?_
            rotate_left
            · (intro w hSw; (try dsimp only at hSw); go_simp; (try (with_reducible rfl)))
            try simp only [Act.put, List.setIfInBounds_toArray, List.set_cons_zero, List.set_cons_succ]
            refine wpAnyH_take (i := 4) (oi := { dst := some 28, op := Go.Op.indexAddr 31 (Go.Operand.tmp 26) (Go.Operand.tmp 27), type := 0, pos := "ref.go:23", after := #[{ on := 2, ground := Go.Ground.data }, { on := 3, ground := Go.Ground.data }], guard := none }) (v := ?_) rfl (by kernel_rfl) (by kernel_rfl) (by kernel_rfl) (fun _ _ _ h => h) (Or.inl ⟨by rfl, ?_⟩) (by assumption) ?_
            rotate_left
            · (intro w hSw; (try dsimp only at hSw); go_simp; (try (with_reducible rfl)))
            try simp only [Act.put, List.setIfInBounds_toArray, List.set_cons_zero, List.set_cons_succ]
            refine wpAnyH_take (i := 5) (oi := { dst := some 29, op := Go.Op.load 30 (Go.Operand.tmp 28), type := 30, pos := "ref.go:23", after := #[{ on := 4, ground := Go.Ground.data }], guard := none }) (v := ?_) rfl (by kernel_rfl) (by kernel_rfl) (by kernel_rfl) (fun _ _ _ h => h) (Or.inl ⟨by rfl, ?_⟩) (by assumption) ?_
            rotate_left
            · (intro w hSw; (try dsimp only at hSw); go_simp; (try (with_reducible rfl)))
            try simp only [Act.put, List.setIfInBounds_toArray, List.set_cons_zero, List.set_cons_succ]
            refine wpAnyH_take (i := 9) (oi := { dst := some 33, op := Go.Op.move (Go.Operand.tmp 0), type := 23, pos := "ref.go:23", after := #[], guard := none }) (v := ?_) rfl (by kernel_rfl) (by kernel_rfl) (by kernel_rfl) (fun _ _ _ h => h) (Or.inl ⟨by rfl, ?_⟩) (by assumption) ?_
            rotate_left
            · (intro w hSw; (try dsimp only at hSw); go_simp; (try (with_reducible rfl)))
            try simp only [Act.put, List.setIfInBounds_toArray, List.set_cons_zero, List.set_cons_succ]
            refine wpAnyH_take (i := 10) (oi := { dst := some 34, op := Go.Op.move (Go.Operand.tmp 0), type := 23, pos := "ref.go:23", after := #[], guard := none }) (v := ?_) rfl (by kernel_rfl) (by kernel_rfl) (by kernel_rfl) (fun _ _ _ h => h) (Or.inl ⟨by rfl, ?_⟩) (by assumption) ?_
            rotate_left
            · (intro w hSw; (try dsimp only at hSw); go_simp; (try (with_reducible rfl)))
            try simp only [Act.put, List.setIfInBounds_toArray, List.set_cons_zero, List.set_cons_succ]
            refine wpAnyH_take (i := 11) (oi := { dst := some 35, op := Go.Op.move (Go.Operand.tmp 5), type := 31, pos := "ref.go:23", after := #[], guard := none }) (v := ?_) rfl (by kernel_rfl) (by kernel_rfl) (by kernel_rfl) (fun _ _ _ h => h) (Or.inl ⟨by rfl, ?_⟩) (by assumption) ?_
            rotate_left
            · (intro w hSw; (try dsimp only at hSw); go_simp; (try (with_reducible rfl)))
            try simp only [Act.put, List.setIfInBounds_toArray, List.set_cons_zero, List.set_cons_succ]
            refine wpAnyH_take (i := 12) (oi := { dst := some 36, op := Go.Op.move (Go.Operand.tmp 7), type := 3, pos := "ref.go:23", after := #[], guard := none }) (v := ?_) rfl (by kernel_rfl) (by kernel_rfl) (by kernel_rfl) (fun _ _ _ h => h) (Or.inl ⟨by rfl, ?_⟩) (by assumption) ?_
            rotate_left
            · (intro w hSw; (try dsimp only at hSw); go_simp; (try (with_reducible rfl)))
            try simp only [Act.put, List.setIfInBounds_toArray, List.set_cons_zero, List.set_cons_succ]
            refine wpAnyH_take (i := 13) (oi := { dst := some 37, op := Go.Op.indexAddr 31 (Go.Operand.tmp 35) (Go.Operand.tmp 36), type := 0, pos := "ref.go:23", after := #[{ on := 11, ground := Go.Ground.data }, { on := 12, ground := Go.Ground.data }], guard := none }) (v := ?_) rfl (by kernel_rfl) (by kernel_rfl) (by kernel_rfl) (fun _ _ _ h => h) (Or.inl ⟨by rfl, ?_⟩) (by assumption) ?_
            rotate_left
            · (intro w hSw; (try dsimp only at hSw); go_simp; (try (with_reducible rfl)))
            try simp only [Act.put, List.setIfInBounds_toArray, List.set_cons_zero, List.set_cons_succ]
            refine wpAnyH_take (i := 14) (oi := { dst := some 38, op := Go.Op.load 30 (Go.Operand.tmp 37), type := 30, pos := "ref.go:23", after := #[{ on := 13, ground := Go.Ground.data }], guard := none }) (v := ?_) rfl (by kernel_rfl) (by kernel_rfl) (by kernel_rfl) (fun _ _ _ h => h) (Or.inl ⟨by rfl, ?_⟩) (by assumption) ?_
            rotate_left
            · (intro w hSw; (try dsimp only at hSw); go_simp; (try (with_reducible rfl)))
            try simp only [Act.put, List.setIfInBounds_toArray, List.set_cons_zero, List.set_cons_succ]
            refine wpAnyH_ready (rs := [6]) (by kernel_rfl) (by simp) ?_
            refine AllReadyH.cons (o := { dst := some 30, op := Go.Op.call { callee := Go.Callee.value (Go.Operand.func 20), args := #[Go.Operand.tmp 25, Go.Operand.tmp 29], argTypes := #[23, 30] }, type := 3, pos := "ref.go:23", after := #[{ on := 1, ground := Go.Ground.data }, { on := 5, ground := Go.Ground.data }], guard := none }) rfl (fun K hK => ?_) AllReadyH.nil
            go_simp
            refine (hF1.out _ hD).mono ?_
            rintro e w6 ⟨rfl, hb6⟩
            replace hD := hD.below hb6
            replace enD := enD.trans (bel_env hb6)
            refine hK.out _ _ (kk _ _ hD) (fun hHeld2 => ?_)
            clear hK K hHeld
            try simp only [Act.put, List.setIfInBounds_toArray, List.set_cons_zero, List.set_cons_succ]
            refine wpAnyH_take (i := 7) (oi := { dst := some 31, op := Go.Op.indexAddr 23 (Go.Operand.tmp 24) (Go.Operand.tmp 30), type := 0, pos := "ref.go:23", after := #[{ on := 0, ground := Go.Ground.data }, { on := 6, ground := Go.Ground.data }], guard := none }) (v := ?_) rfl (by kernel_rfl) (by kernel_rfl) (by kernel_rfl) (fun _ _ _ h => h) (Or.inl ⟨by rfl, ?_⟩) (by assumption) ?_
            rotate_left
            · (intro w hSw; (try dsimp only at hSw); go_simp; (try (with_reducible rfl)))
            try simp only [Act.put, List.setIfInBounds_toArray, List.set_cons_zero, List.set_cons_succ]
            refine wpAnyH_take (i := 8) (oi := { dst := some 32, op := Go.Op.load 33 (Go.Operand.tmp 31), type := 33, pos := "ref.go:23", after := #[{ on := 7, ground := Go.Ground.data }], guard := none }) (v := ?_) rfl (by kernel_rfl) (by kernel_rfl) (by kernel_rfl) (fun _ _ _ h => h) (Or.inl ⟨by rfl, ?_⟩) (by assumption) ?_
            rotate_left
            · (intro w hSw; (try dsimp only at hSw); go_simp; (try (with_reducible rfl)))
            try simp only [Act.put, List.setIfInBounds_toArray, List.set_cons_zero, List.set_cons_succ]
            refine wpAnyH_ready (rs := [15]) (by kernel_rfl) (by simp) ?_
            refine AllReadyH.cons (o := { dst := some 39, op := Go.Op.call { callee := Go.Callee.value (Go.Operand.func 20), args := #[Go.Operand.tmp 34, Go.Operand.tmp 38], argTypes := #[23, 30] }, type := 3, pos := "ref.go:23", after := #[{ on := 10, ground := Go.Ground.data }, { on := 14, ground := Go.Ground.data }, { on := 6, ground := Go.Ground.chain }], guard := none }) rfl (fun K hK => ?_) AllReadyH.nil
            go_simp
            refine (hF2.out _ hD).mono ?_
            rintro e w7 ⟨rfl, hb7⟩
            replace hD := hD.below hb7
            replace enD := enD.trans (bel_env hb7)
            refine hK.out _ _ (kk _ _ hD) (fun hHeld3 => ?_)
            clear hK K hHeld2
            try simp only [Act.put, List.setIfInBounds_toArray, List.set_cons_zero, List.set_cons_succ]
            refine wpAnyH_take (i := 16) (oi := { dst := some 40, op := Go.Op.indexAddr 23 (Go.Operand.tmp 33) (Go.Operand.tmp 39), type := 0, pos := "ref.go:23", after := #[{ on := 9, ground := Go.Ground.data }, { on := 15, ground := Go.Ground.data }], guard := none }) (v := ?_) rfl (by kernel_rfl) (by kernel_rfl) (by kernel_rfl) (fun _ _ _ h => h) (Or.inl ⟨by rfl, ?_⟩) (by assumption) ?_
            rotate_left
            · (intro w hSw; (try dsimp only at hSw); go_simp; (try (with_reducible rfl)))
            try simp only [Act.put, List.setIfInBounds_toArray, List.set_cons_zero, List.set_cons_succ]
            refine wpAnyH_take (i := 17) (oi := { dst := some 41, op := Go.Op.load 33 (Go.Operand.tmp 40), type := 33, pos := "ref.go:23", after := #[{ on := 16, ground := Go.Ground.data }], guard := none }) (v := ?_) rfl (by kernel_rfl) (by kernel_rfl) (by kernel_rfl) (fun _ _ _ h => h) (Or.inl ⟨by rfl, ?_⟩) (by assumption) ?_
            rotate_left
            · (intro w hSw; (try dsimp only at hSw); go_simp; (try (with_reducible rfl)))
            try simp only [Act.put, List.setIfInBounds_toArray, List.set_cons_zero, List.set_cons_succ]
            refine wpAnyH_ready (rs := [18]) (by kernel_rfl) (by simp) ?_
            refine AllReadyH.cons (o := { dst := some 42, op := Go.Op.call { callee := Go.Callee.value (Go.Operand.func 24), args := #[Go.Operand.tmp 32, Go.Operand.tmp 41], argTypes := #[33, 33] }, type := 4, pos := "ref.go:23", after := #[{ on := 8, ground := Go.Ground.data }, { on := 17, ground := Go.Ground.data }, { on := 15, ground := Go.Ground.chain }], guard := none }) rfl (fun K hK => ?_) AllReadyH.nil
            go_simp
            refine (hLk.out _ hD).mono ?_
            rintro e w8 ⟨rfl, hb8⟩
            replace hD := hD.below hb8
            replace enD := enD.trans (bel_env hb8)
            refine hK.out _ _ (kk _ _ hD) (fun hHeld => ?_)
            clear hK K hHeld3
            try simp only [Act.put, List.setIfInBounds_toArray, List.set_cons_zero, List.set_cons_succ]
            refine wpAnyH_done (by kernel_rfl) ?_ _
            clear hHeld
            have k4 : ∀ (l' : List HA) (w' : World), St H4 l' w' → (fun w' : World => w'.cell? ⟨ib, io + k * 2, none⟩ = some (.int .i64 xr) ∧ w'.cell? ⟨ib, io + k * 2 + 1, none⟩ = some (.int .i64 xs) ∧ w'.cell? ⟨ib, io + m * 2, none⟩ = some (.int .i64 yr) ∧ w'.cell? ⟨ib, io + m * 2 + 1, none⟩ = some (.int .i64 ys)) w' := fun l' w' h => ⟨h.cell p0, h.cell p1, h.cell m0, h.cell m1⟩
            have fA := (hD.swap.blk_set 0 (.int .i64 xr)).blk_set 1 (.int .i64 xs)
            have fB := (fA.swap.blk_set 0 (.int .i64 yr)).blk_set 1 (.int .i64 ys)
            have z0 := hD.swap.blk_cell 0
            have z1 := hD.swap.blk_cell 1
            have zf0 := hD.swap.blk_free 0
            have zf1 := hD.swap.blk_free 1
            have y0 := fA.swap.blk_cell 0
            have y1 := fA.swap.blk_cell 1
            have yf0 := fA.swap.blk_free 0
            have yf1 := fA.swap.blk_free 1
            have zl := hD.swap.blk_lt
            have yl := hD.blk_lt
            have k0 := k4 _ _ hD.drew
            have kA := k4 _ _ fA.drew
            have kB := k4 _ _ fB.drew
            clear k4 kk p0 p1 m0 m1 a0 a1 a2 a3 a4 q0 q1 q2 q3 q4
            go_wp2_with fail
            refine wp_region_held_drew (S := fun w' : World => w'.cell? ⟨ib, io + k * 2, none⟩ = some (.int .i64 xr) ∧ w'.cell? ⟨ib, io + k * 2 + 1, none⟩ = some (.int .i64 xs) ∧ w'.cell? ⟨ib, io + m * 2, none⟩ = some (.int .i64 yr) ∧ w'.cell? ⟨ib, io + m * 2 + 1, none⟩ = some (.int .i64 ys)) (by kernel_rfl) k0 (fun hHeld => ?_)
            refine wpAnyH_take (i := 0) (oi := { dst := some 43, op := Go.Op.move (Go.Operand.tmp 5), type := 31, pos := "ref.go:24", after := #[], guard := none }) (v := ?_) rfl (by kernel_rfl) (by kernel_rfl) (by kernel_rfl) (fun _ _ _ h => h) (Or.inl ⟨by rfl, ?_⟩) (by assumption) ?_
            rotate_left
            · (intro w hSw; (try dsimp only at hSw); go_simp; (try (with_reducible rfl)))
            try simp only [Act.put, List.setIfInBounds_toArray, List.set_cons_zero, List.set_cons_succ]
            refine wpAnyH_take (i := 1) (oi := { dst := some 44, op := Go.Op.move (Go.Operand.tmp 6), type := 3, pos := "ref.go:24", after := #[], guard := none }) (v := ?_) rfl (by kernel_rfl) (by kernel_rfl) (by kernel_rfl) (fun _ _ _ h => h) (Or.inl ⟨by rfl, ?_⟩) (by assumption) ?_
            rotate_left
            · (intro w hSw; (try dsimp only at hSw); go_simp; (try (with_reducible rfl)))
            try simp only [Act.put, List.setIfInBounds_toArray, List.set_cons_zero, List.set_cons_succ]
            refine wpAnyH_take (i := 2) (oi := { dst := some 45, op := Go.Op.indexAddr 31 (Go.Operand.tmp 43) (Go.Operand.tmp 44), type := 0, pos := "ref.go:24", after := #[{ on := 0, ground := Go.Ground.data }, { on := 1, ground := Go.Ground.data }], guard := none }) (v := ?_) rfl (by kernel_rfl) (by kernel_rfl) (by kernel_rfl) (fun _ _ _ h => h) (Or.inl ⟨by rfl, ?_⟩) (by assumption) ?_
            rotate_left
            · (intro w hSw; (try dsimp only at hSw); go_simp; (try (with_reducible rfl)))
            try simp only [Act.put, List.setIfInBounds_toArray, List.set_cons_zero, List.set_cons_succ]
            refine wpAnyH_take (i := 3) (oi := { dst := some 46, op := Go.Op.load 30 (Go.Operand.tmp 45), type := 30, pos := "ref.go:24", after := #[{ on := 2, ground := Go.Ground.data }], guard := none }) (v := ?_) rfl (by kernel_rfl) (by kernel_rfl) (by kernel_rfl) (fun _ _ _ h => h) (Or.inl ⟨by rfl, ?_⟩) (by assumption) ?_
            rotate_left
            · (intro w hSw; (try dsimp only at hSw); go_simp; (try (with_reducible rfl)))
            try simp only [Act.put, List.setIfInBounds_toArray, List.set_cons_zero, List.set_cons_succ]
            refine wpAnyH_take (i := 4) (oi := { dst := some 47, op := Go.Op.move (Go.Operand.tmp 5), type := 31, pos := "ref.go:24", after := #[{ on := 8, ground := Go.Ground.gcOnly Go.Departure.lateStores }], guard := none }) (v := ?_) rfl (by kernel_rfl) (by kernel_rfl) (by kernel_rfl) (fun _ _ _ h => h) (Or.inl ⟨by rfl, ?_⟩) (by assumption) ?_
            rotate_left
            · (intro w hSw; (try dsimp only at hSw); go_simp; (try (with_reducible rfl)))
            try simp only [Act.put, List.setIfInBounds_toArray, List.set_cons_zero, List.set_cons_succ]
            refine wpAnyH_take (i := 5) (oi := { dst := some 48, op := Go.Op.move (Go.Operand.tmp 7), type := 3, pos := "ref.go:24", after := #[{ on := 8, ground := Go.Ground.gcOnly Go.Departure.lateStores }], guard := none }) (v := ?_) rfl (by kernel_rfl) (by kernel_rfl) (by kernel_rfl) (fun _ _ _ h => h) (Or.inl ⟨by rfl, ?_⟩) (by assumption) ?_
            rotate_left
            · (intro w hSw; (try dsimp only at hSw); go_simp; (try (with_reducible rfl)))
            try simp only [Act.put, List.setIfInBounds_toArray, List.set_cons_zero, List.set_cons_succ]
            refine wpAnyH_take (i := 6) (oi := { dst := some 49, op := Go.Op.indexAddr 31 (Go.Operand.tmp 47) (Go.Operand.tmp 48), type := 0, pos := "ref.go:24", after := #[{ on := 4, ground := Go.Ground.data }, { on := 5, ground := Go.Ground.data }, { on := 8, ground := Go.Ground.gcOnly Go.Departure.lateStores }], guard := none }) (v := ?_) rfl (by kernel_rfl) (by kernel_rfl) (by kernel_rfl) (fun _ _ _ h => h) (Or.inl ⟨by rfl, ?_⟩) (by assumption) ?_
            rotate_left
            · (intro w hSw; (try dsimp only at hSw); go_simp; (try (with_reducible rfl)))
            try simp only [Act.put, List.setIfInBounds_toArray, List.set_cons_zero, List.set_cons_succ]
            refine wpAnyH_take (i := 7) (oi := { dst := some 50, op := Go.Op.load 30 (Go.Operand.tmp 49), type := 30, pos := "ref.go:24", after := #[{ on := 6, ground := Go.Ground.data }, { on := 8, ground := Go.Ground.gcOnly Go.Departure.lateStores }], guard := none }) (v := ?_) rfl (by kernel_rfl) (by kernel_rfl) (by kernel_rfl) (fun _ _ _ h => h) (Or.inl ⟨by rfl, ?_⟩) (by assumption) ?_
            rotate_left
            · (intro w hSw; (try dsimp only at hSw); go_simp; (try (with_reducible rfl)))
            try simp only [Act.put, List.setIfInBounds_toArray, List.set_cons_zero, List.set_cons_succ]
            refine wpAnyH_ready (rs := [8]) (by kernel_rfl) (by simp) ?_
            refine AllReadyH.cons (o := { dst := none, op := Go.Op.store 30 (Go.Operand.tmp 2) (Go.Operand.tmp 46), type := 0, pos := "ref.go:24", after := #[{ on := 3, ground := Go.Ground.data }, { on := 0, ground := Go.Ground.phase }, { on := 1, ground := Go.Ground.phase }, { on := 2, ground := Go.Ground.phase }, { on := 3, ground := Go.Ground.phase }, { on := 4, ground := Go.Ground.textOnly Go.Departure.lateStores }, { on := 5, ground := Go.Ground.textOnly Go.Departure.lateStores }, { on := 6, ground := Go.Ground.textOnly Go.Departure.lateStores }, { on := 7, ground := Go.Ground.textOnly Go.Departure.lateStores }], guard := none }) rfl (fun K hK => ?_) AllReadyH.nil
            go_simp
            refine hK.out _ _ kA (fun hHeld2 => ?_)
            clear hK K hHeld
            try simp only [Act.put, List.setIfInBounds_toArray, List.set_cons_zero, List.set_cons_succ]
            refine wpAnyH_ready (rs := [9]) (by kernel_rfl) (by simp) ?_
            refine AllReadyH.cons (o := { dst := none, op := Go.Op.store 30 (Go.Operand.tmp 3) (Go.Operand.tmp 50), type := 0, pos := "ref.go:24", after := #[{ on := 7, ground := Go.Ground.data }, { on := 8, ground := Go.Ground.chain }, { on := 0, ground := Go.Ground.phase }, { on := 1, ground := Go.Ground.phase }, { on := 2, ground := Go.Ground.phase }, { on := 3, ground := Go.Ground.phase }, { on := 4, ground := Go.Ground.phase }, { on := 5, ground := Go.Ground.phase }, { on := 6, ground := Go.Ground.phase }, { on := 7, ground := Go.Ground.phase }, { on := 8, ground := Go.Ground.phase }], guard := none }) rfl (fun K hK => ?_) AllReadyH.nil
            go_simp
            refine hK.out _ _ kB (fun hHeld3 => ?_)
            clear hK K hHeld2
            try simp only [Act.put, List.setIfInBounds_toArray, List.set_cons_zero, List.set_cons_succ]
            refine wpAnyH_take (i := 10) (oi := { dst := some 4, op := Go.Op.assign (Go.Operand.const (Go.Value.bool false)), type := 4, pos := "ref.go:24", after := #[{ on := 9, ground := Go.Ground.chain }, { on := 0, ground := Go.Ground.phase }, { on := 1, ground := Go.Ground.phase }, { on := 2, ground := Go.Ground.phase }, { on := 3, ground := Go.Ground.phase }, { on := 4, ground := Go.Ground.phase }, { on := 5, ground := Go.Ground.phase }, { on := 6, ground := Go.Ground.phase }, { on := 7, ground := Go.Ground.phase }, { on := 8, ground := Go.Ground.phase }, { on := 9, ground := Go.Ground.phase }], guard := none }) (v := ?_) rfl (by kernel_rfl) (by kernel_rfl) (by kernel_rfl) (fun _ _ _ h => h) (Or.inl ⟨by rfl, ?_⟩) (by assumption) ?_
            rotate_left
            · (intro w hSw; (try dsimp only at hSw); go_simp; (try (with_reducible rfl)))
            try simp only [Act.put, List.setIfInBounds_toArray, List.set_cons_zero, List.set_cons_succ]
            refine wpAnyH_done (by kernel_rfl) ?_ _
            have fZ := fB.drew
            have enZ := ((((enD.setCell ⟨g2, 0, none⟩ (.int .i64 xr)).setCell ⟨g2, 1, none⟩ (.int .i64 xs)).setCell ⟨g3, 0, none⟩ (.int .i64 yr)).setCell ⟨g3, 1, none⟩ (.int .i64 ys)).drew
            clear z0 z1 zf0 zf1 y0 y1 yf0 yf1 zl yl k0 kA kB fA hHeld3
            go_wp2_with fail
            generalize ((((w8.setCell ⟨g2, 0, none⟩ (.int .i64 xr)).setCell ⟨g2, 1, none⟩ (.int .i64 xs)).setCell ⟨g3, 0, none⟩ (.int .i64 yr)).setCell ⟨g3, 1, none⟩ (.int .i64 ys)).drew = W9 at *
            have r0 : W9.cell? ⟨g3, 0, none⟩ = some (.int .i64 yr) := fZ.blk_cell 0
            have r1 : W9.cell? ⟨g3, 1, none⟩ = some (.int .i64 ys) := fZ.blk_cell 1
            have q0 : W9.cell? ⟨g2, 0, none⟩ = some (.int .i64 xr) := fZ.swap.blk_cell 0
            have q1 : W9.cell? ⟨g2, 1, none⟩ = some (.int .i64 xs) := fZ.swap.blk_cell 1
            have rl := fZ.blk_lt
            have ql := fZ.swap.blk_lt
            (try simp only [Exit.inBlock, Exit.then])
            refine bodyPost_ret ((results_cell2_tmp rfl _ _ _).trans (?hres2 : _ = Result.ok (Value.tuple #[.agg #[.int .i64 xr, .int .i64 xs], .agg #[.int .i64 yr, .int .i64 ys], .bool false]) W9)) rfl ?_
            case hres2 => go_simp
            exact ⟨_, _, _, hres.out, rfl, (fZ.drop.drop.weaken l4).toBelow enZ⟩
        · obtain rfl : m = RL.length := by omega
          have hI2 := hI.out
          rw [List.drop_eq_nil_of_le (by rw [hSl.out]; omega)] at hI2
          have hI3 : Hid (flk (S.drop (k + 1)) = T) := Lib.hid hI2
          clear hI2 hI
          go_wp2_with fail
          go_roundw
          case rel => exact ⟨k + 1, by omega, by go_num, hst, hen, hI3⟩
          case measure => simp [intOf]; omega
    · obtain rfl : k = RL.length := by omega
      have hTn := hTk.out
      rw [List.drop_eq_nil_of_le (by rw [hSl.out]; omega)] at hTn
      have hres : Hid (holdsR (grS l) = ((0, 0), (0, 0), true)) := Lib.hid (by unfold holdsR; rw [hgS.out, hTg0.out, ← hTn]; rfl)
      clear hTn
      have fA := (hst.swap.blk_set 0 (.int .i64 0)).blk_set 1 (.int .i64 0)
      have fB := (fA.swap.blk_set 0 (.int .i64 0)).blk_set 1 (.int .i64 0)
      have z0 := hst.swap.blk_cell 0
      have z1 := hst.swap.blk_cell 1
      have zf0 := hst.swap.blk_free 0
      have zf1 := hst.swap.blk_free 1
      have y0 := fA.swap.blk_cell 0
      have y1 := fA.swap.blk_cell 1
      have yf0 := fA.swap.blk_free 0
      have yf1 := fA.swap.blk_free 1
      have zl := hst.swap.blk_lt
      have yl := hst.blk_lt
      have enZ := (((hen.setCell ⟨g2, 0, none⟩ (.int .i64 0)).setCell ⟨g2, 1, none⟩ (.int .i64 0)).setCell ⟨g3, 0, none⟩ (.int .i64 0)).setCell ⟨g3, 1, none⟩ (.int .i64 0)
      go_wp2_with fail
      clear z0 z1 zf0 zf1 y0 y1 yf0 yf1 zl yl fA
      generalize (((wo.setCell ⟨g2, 0, none⟩ (.int .i64 0)).setCell ⟨g2, 1, none⟩ (.int .i64 0)).setCell ⟨g3, 0, none⟩ (.int .i64 0)).setCell ⟨g3, 1, none⟩ (.int .i64 0) = W9 at *
      have r0 : W9.cell? ⟨g3, 0, none⟩ = some (.int .i64 0) := fB.blk_cell 0
      have r1 : W9.cell? ⟨g3, 1, none⟩ = some (.int .i64 0) := fB.blk_cell 1
      have q0 : W9.cell? ⟨g2, 0, none⟩ = some (.int .i64 0) := fB.swap.blk_cell 0
      have q1 : W9.cell? ⟨g2, 1, none⟩ = some (.int .i64 0) := fB.swap.blk_cell 1
      have rl := fB.blk_lt
      have ql := fB.swap.blk_lt
      (try simp only [Exit.inBlock, Exit.then])
      refine bodyPost_ret ((results_cell2_tmp rfl _ _ _).trans (?hres1 : _ = Result.ok (Value.tuple #[.agg #[.int .i64 0, .int .i64 0], .agg #[.int .i64 0, .int .i64 0], .bool true]) W9)) rfl ?_
      case hres1 => go_simp
      exact ⟨_, _, _, hres.out, rfl, (fB.drop.drop.weaken l4).toBelow enZ⟩
end Go.Proofs.Ytohgcghobidfpaa
