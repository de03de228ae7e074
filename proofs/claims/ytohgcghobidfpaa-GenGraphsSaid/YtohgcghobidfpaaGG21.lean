/- Joined texts: Prem3, Mend. -/
import Derived.Test.YtohgcghobidfpaaGG20
/- The premise: Holds. -/
set_option linter.unusedVariables false
set_option linter.unusedSimpArgs false
namespace Go.Proofs.Ytohgcghobidfpaa
open Go.RowKit Go.Cw Go.Fl
attribute [local go_sem ↓] eql_id neq_id
def inn (x : Rp) (r : List Rp) (rest : Option (Id × Id)) : Option (Id × Id) := match r.find? (lackR x) with
  | some y => some (x.1, y.1)
  | none => rest
theorem inn_cons (x y : Rp) (r : List Rp) (rest : Option (Id × Id)) : inn x (y :: r) rest = if lackR x y then some (x.1, y.1) else inn x r rest := by
  unfold inn
  rw [List.find?_cons]
  cases lackR x y <;> rfl
/-- The first two that lack an edge. -/
def flk : List Rp → Option (Id × Id)
  | [] => none
  | x :: r => inn x r (flk r)
theorem flk_drop (S : List Rp) (k : Nat) (h : k < S.length) : flk (S.drop k) = inn S[k] (S.drop (k + 1)) (flk (S.drop (k + 1))) := by rw [List.drop_eq_getElem_cons h, flk]
theorem inn_drop (S : List Rp) (x : Rp) (m : Nat) (h : m < S.length) (rest : Option (Id × Id)) : inn x (S.drop m) rest = if lackR x S[m] then some (x.1, S[m].1) else inn x (S.drop (m + 1)) rest := by rw [List.drop_eq_getElem_cons h, inn_cons]
def holdsR (S : List Rp) : Id × Id × Bool := match flk S with
  | some p => (p.1, p.2, false)
  | none => ((0, 0), (0, 0), true)
/-- A graph's records in order. -/
def grS (L : List Rc) : List Rp := (sortL (rids L)).map (lookR (L.map rp))
end Go.Proofs.Ytohgcghobidfpaa

/- The premise: Mend. -/
set_option linter.unusedVariables false
set_option linter.unusedSimpArgs false
namespace Go.Proofs.Ytohgcghobidfpaa
open Go.RowKit Go.Cw Go.Fl
attribute [local go_sem ↓] eql_id neq_id
/-- A record with one Dep more, if it lacks one. -/
def mend1 (r o : Rp) : Rp := if r.2.2.1.length < 16 ∧ lackR r o = true then (r.1, r.2.1, putL o.1 r.2.2.1, r.2.2.2) else r
def mendOne (out : List Rp) (x : Rp) : Rp := out.foldl mend1 x
def fineStep (acc : List Rp) (x : Rp) : List Rp := if recErr x = 0 ∧ x.1 ∉ pids acc then acc ++ [x] else acc
def fineL (l : List Rp) : List Rp := l.foldl fineStep []
def mendStep (out : List Rp) (x : Rp) : List Rp := out ++ [mendOne out x]
def mendL (F : List Rp) : List Rp := F.foldl mendStep []
theorem mend1_keep (r o : Rp) : (mend1 r o).1 = r.1 ∧ (mend1 r o).2.1 = r.2.1 ∧ (mend1 r o).2.2.2 = r.2.2.2 := by unfold mend1; split <;> exact ⟨rfl, rfl, rfl⟩
theorem mend1_len (r o : Rp) (h : r.2.2.1.length ≤ 16) : (mend1 r o).2.2.1.length ≤ 16 := by
  unfold mend1
  split
  · rename_i hc
    have := putL_len o.1 r.2.2.1
    show (putL o.1 r.2.2.1).length ≤ 16
    omega
  · exact h
theorem mend1_rises (r o : Rp) (h : Rises r.2.2.1) : Rises (mend1 r o).2.2.1 := by
  unfold mend1
  split
  · exact putL_rises _ _ h
  · exact h
theorem mendOne_ok (out : List Rp) : ∀ (x : Rp), x.2.2.1.length ≤ 16 → Rises x.2.2.1 → (mendOne out x).1 = x.1 ∧ (mendOne out x).2.1 = x.2.1 ∧ (mendOne out x).2.2.2 = x.2.2.2 ∧ (mendOne out x).2.2.1.length ≤ 16 ∧ Rises (mendOne out x).2.2.1 := by
  unfold mendOne
  induction out with
  | nil => exact fun x h1 h2 => ⟨rfl, rfl, rfl, h1, h2⟩
  | cons o r ih =>
    intro x h1 h2
    obtain ⟨a, b, c, d, e⟩ := ih (mend1 x o) (mend1_len x o h1) (mend1_rises x o h2)
    obtain ⟨a', b', c'⟩ := mend1_keep x o
    exact ⟨a.trans a', b.trans b', c.trans c', d, e⟩
theorem idLt_trans {a b c : Id} (h : idLt a b = true) (k : idLt b c = true) : idLt a c = true := by
  rw [idLt_iff] at *
  omega
theorem depsErr_rises (own : Id) : ∀ (D : List Id) (p : Option Id), depsErr own p D = 0 → Rises D ∧ ∀ q, p = some q → ∀ d ∈ D, idLt q d = true
  | [], _, _ => ⟨List.Pairwise.nil, fun _ _ d hd => by simp at hd⟩
  | d :: r, p, h => by
    unfold depsErr at h
    by_cases h1 : idErr d = 0
    · rw [if_neg (by simpa using h1)] at h
      by_cases h2 : d = own
      · rw [if_pos h2] at h; omega
      · rw [if_neg h2] at h
        by_cases h3 : aheadOf p d = true
        · rw [if_pos h3] at h
          obtain ⟨a, b⟩ := depsErr_rises own r (some d) h
          refine ⟨List.Pairwise.cons (fun e he => b d rfl e he) a, fun q hq e he => ?_⟩
          subst hq
          rcases List.mem_cons.1 he with rfl | he
          · exact h3
          · exact idLt_trans h3 (b d rfl e he)
        · rw [if_neg h3] at h; omega
    · rw [if_pos (by simpa using h1)] at h
      exact absurd h h1
theorem recErr_rises (x : Rp) (h : recErr x = 0) : Rises x.2.2.1 := by
  unfold recErr at h
  by_cases h1 : ownErr x = 0
  · rw [if_neg (by simpa using h1)] at h
    by_cases h2 : depErr x = 0
    · unfold depErr at h2
      have := (recErr_len x (by unfold recErr; rw [if_neg (by simpa using h1), if_neg (by simpa [depErr] using h2)]; rwa [if_neg (by simpa [depErr] using h2)] at h)).1
      rw [if_neg (by omega)] at h2
      exact (depsErr_rises _ _ _ h2).1
    · rw [if_pos (by simpa using h2)] at h
      exact absurd h h2
  · rw [if_pos (by simpa using h1)] at h
    exact absurd h h1
theorem pids_mendStep (out : List Rp) (x : Rp) (h1 : x.2.2.1.length ≤ 16) (h2 : Rises x.2.2.1) : pids (mendStep out x) = pids out ++ [x.1] := by
  unfold mendStep pids
  rw [List.map_append, List.map_cons, List.map_nil, (mendOne_ok out x h1 h2).1]
/-- What fine records are. -/
structure FineOk (F : List Rp) : Prop where
  len : ∀ x ∈ F, x.2.2.1.length ≤ 16 ∧ x.2.2.2.length ≤ 8
  rise : ∀ x ∈ F, Rises x.2.2.1
theorem fineStep_ok {F : List Rp} (h : FineOk F) (x : Rp) : FineOk (fineStep F x) := by
  unfold fineStep
  split
  · rename_i hc
    refine ⟨fun y hy => ?_, fun y hy => ?_⟩
    · rcases List.mem_append.1 hy with hy | hy
      · exact h.len y hy
      · obtain rfl := List.mem_singleton.1 hy
        exact recErr_len _ hc.1
    · rcases List.mem_append.1 hy with hy | hy
      · exact h.rise y hy
      · obtain rfl := List.mem_singleton.1 hy
        exact recErr_rises _ hc.1
  · exact h
theorem fineSnoc_ok {F : List Rp} (h : FineOk F) (x : Rp) (hx : recErr x = 0) : FineOk (F ++ [x]) := by
  refine ⟨fun y hy => ?_, fun y hy => ?_⟩
  · rcases List.mem_append.1 hy with hy | hy
    · exact h.len y hy
    · obtain rfl := List.mem_singleton.1 hy
      exact recErr_len _ hx
  · rcases List.mem_append.1 hy with hy | hy
    · exact h.rise y hy
    · obtain rfl := List.mem_singleton.1 hy
      exact recErr_rises _ hx
theorem sort_put (D : List Id) (a : Id) (h : Rises D) : runs (idSort (D ++ [a])) = putL a D :=
  rises_eq (runs_sort_rises _) (putL_rises _ _ h) (fun b => by
    rw [runs_sort_mem, putL_mem]
    simp [or_comm])
theorem idl_snoc (D : List Id) (a : Id) : idl (D ++ [a]) = idl D ++ [.int .i64 a.1, .int .i64 a.2] := by simp [idl, List.flatMap_append, idc]
set_option maxRecDepth 100000 in
set_option maxHeartbeats 12800000 in
theorem mend_any (u : Value) (l : List Rc) (w : World) (hx : Rw w 5 u (recs l)) (hl : ∀ x ∈ l, RcR w x) (hlen : l.length ≤ 1000000) :
    Calls Try.prog 15 #[u] w fun e w' => ∃ (v : Value) (M : List Rc) (H : Hp), e = .returned v ∧ Hp.le (snap w) H ∧ St H [Row 33 5 v (recs M)] w' ∧ Env w w' ∧ M.map rp = mendL (fineL (l.map rp)) ∧ ∀ x ∈ M, RcD H x := by
  obtain ⟨A, n, c, rfl, hn, hnc, hc⟩ := hx.form
  rw [recs_len] at hn
  obtain rfl : n = l.length := by omega
  clear hn
  have hrd := hx.rd
  have hld : ∀ x ∈ l, RcD (snap w) x := fun x hm => ⟨(hl x hm).d.rd, (hl x hm).b.rd, (hl x hm).ok⟩
  replace hld := Lib.hid hld
  have m1 := run_makeMap (P := Try.prog) 61 w
  have h1 := ((St.start w).mp_made (C := setC)).row_nil 33 5
  have en1 := (Env.refl w).alloc (.map #[] 0)
  clear hx hl
  go_enter Try.func15, Try.ntmps15
  go_wp2_with fail
  generalize w.alloc (.map #[] 0) = W at *
  generalize w.heap.size = g at *
  clear m1
  go_loopw [3, 13] (fun lv i wr => ∃ (k : Nat) (F : List Rp) (M : List Rc) (H : Hp), k ≤ l.length ∧ i = .int .i64 (k : Int) ∧ Hp.le (snap w) H ∧ St H (Row 33 5 lv (recs M) :: Mp setC g (ents (pids F)) :: []) wr ∧ Env w wr ∧ Hid (F = (((l.take k).map rp).foldl fineStep []) ∧ M.map rp = mendL F ∧ (∀ x ∈ M, RcD H x) ∧ FineOk F ∧ F.length ≤ k ∧ M.length = F.length ∧ pids (M.map rp) = pids F)) (fun _ i _ => l.length - (intOf i).toNat)
  case atStart => exact ⟨0, [], [], snap w, by omega, by go_num, Hp.le_refl _, h1, en1, Lib.hid ⟨rfl, rfl, by simp, ⟨by simp, by simp⟩, by simp, rfl, rfl⟩⟩
  case round =>
    clear h1 en1
    obtain ⟨k, F, M, H, hk, rfl, le1, h1, en1, hI⟩ := hrel
    obtain ⟨wo, rfl⟩ : ∃ wo : World, wo = wr := ⟨_, rfl⟩
    obtain ⟨LA, Ln, Lc, rfl, hLl, hLc, hLM⟩ := h1.row_form
    rw [recs_len] at hLl
    obtain rfl : Ln = M.length := by omega
    simp only [maxLen] at hLM
    clear hLl
    by_cases hlt : k < l.length
    · obtain ⟨lb, lo, hA, hcr⟩ := ((hrd.mono le1).rw h1).cells (by omega)
      cases hA
      obtain ⟨p0, p1, p2, p3, p4⟩ := recs_get l k hlt
      replace p0 := hcr _ _ p0
      replace p1 := hcr _ _ p1
      replace p2 := hcr _ _ p2
      replace p3 := hcr _ _ p3
      replace p4 := hcr _ _ p4
      rw [← Nat.add_assoc] at p1 p2 p3 p4
      clear hcr
      have pl := World.block_lt_of_cell? _ _ p0
      have hstep : Hid ((((l.take (k + 1)).map rp).foldl fineStep []) = fineStep F (rp l[k])) := Lib.hid (by rw [hI.out.1, List.take_add_one, List.getElem?_eq_getElem hlt, List.map_append, List.foldl_append]; rfl)
      have hxD := Lib.hid ((hld.out l[k] (List.getElem_mem hlt)).mono le1)
      generalize l[k] = x at *
      obtain ⟨d1, d2, d3, hdv, _⟩ := hxD.out.d.form
      obtain ⟨b1, b2, b3, hbv, _⟩ := hxD.out.b.form
      obtain ⟨⟨r, s⟩, q, xd, xb, xD, xB⟩ := x
      try simp only at hdv hbv p0 p1 p2 p3 p4 hstep
      subst hdv hbv
      obtain ⟨H2, l2, h2, xc⟩ := St.rcBox h1 ((r, s), q, .slice d1 d2 d3, .slice b1 b2 b3, xD, xB)
      have en2 := en1.alloc (.cells (rcA ((r, s), q, .slice d1 d2 d3, .slice b1 b2 b3, xD, xB)) 33)
      try simp only [rcA] at h2 en2
      have hC := recCheck_any ((r, s), q, .slice d1 d2 d3, .slice b1 b2 b3, xD, xB) _ ((hxD.out.mono l2).rw h2)
      have u0 := h2.cell xc.1
      have u1 := h2.cell xc.2.1
      have u2 := h2.cell xc.2.2.1
      have u3 := h2.cell xc.2.2.2.1
      have u4 := h2.cell xc.2.2.2.2
      have ul := World.block_lt_of_cell? _ _ u0
      try simp only at u0 u1 u2 u3 u4
      by_cases hE : recErr ((r, s), q, xD, xB) = 0
      case neg =>
        have hne : (recErr ((r, s), q, xD, xB) != 0) = true := by simpa using hE
        have hst2 : Hid ((((l.take (k + 1)).map rp).foldl fineStep []) = F) := Lib.hid (by rw [hstep.out]; unfold fineStep; rw [if_neg (fun h => hE h.1)])
        try simp only [rp] at hC
        generalize recErr ((r, s), q, xD, xB) = E at *
        replace hC := Lib.hid hC
        clear hE hstep
        go_wp2_with fail
        refine hC.out.mono ?_
        rintro e w3 ⟨rfl, hb3⟩
        have h3 := h2.below hb3
        clear u0 u1 u2 u3 u4 ul p0 p1 p2 p3 p4 pl
        go_wp2_with fail
        go_roundw
        case rel => exact ⟨k + 1, F, M, H, by omega, by go_num, le1, h3.weaken l2, en2.trans (bel_env hb3), Lib.hid ⟨hst2.out.symm, hI.out.2.1, hI.out.2.2.1, hI.out.2.2.2.1, by have := hI.out.2.2.2.2.1; omega, hI.out.2.2.2.2.2⟩⟩
        case measure => simp [intOf]; omega
      case pos =>
        try simp only [rp] at hC
        rw [hE] at hC
        replace hC := Lib.hid hC
        have hEh := Lib.hid hE
        have hlenD := recErr_len _ hE
        try simp only at hlenD
        obtain ⟨hlenD, hlenB⟩ := hlenD
        have hlDh := Lib.hid hlenD
        have hlBh := Lib.hid hlenB
        clear hE hlenD hlenB
        by_cases hin : ((r, s) : Id) ∈ pids F
        · have hst2 : Hid ((((l.take (k + 1)).map rp).foldl fineStep []) = F) := Lib.hid (by rw [hstep.out]; unfold fineStep; rw [if_neg (fun h => h.2 hin)])
          have hlk := ents_look (pids F) (r, s)
          rw [decide_eq_true hin] at hlk
          replace hlk := Lib.hid hlk
          clear hin hstep
          go_wp2_with fail
          refine hC.out.mono ?_
          rintro e w3 ⟨rfl, hb3⟩
          have h3 := h2.below hb3
          have hgt := h3.swap.mp_get false Try.underlying61 (zero_bool _) (r, s)
          rw [hlk.out] at hgt
          change (Instr.lookup 61 (.map (some g)) (.agg #[.int .i64 r, .int .i64 s]) false).run Try.prog _ = .ok (.bool true) _ at hgt
          clear u0 u1 u2 u3 u4 ul
          clear p0 p1 p2 p3 p4 pl
          have u0 := h3.cell xc.1
          have u1 := h3.cell xc.2.1
          have u2 := h3.cell xc.2.2.1
          have u3 := h3.cell xc.2.2.2.1
          have u4 := h3.cell xc.2.2.2.2
          have ul := World.block_lt_of_cell? _ _ u0
          try simp only at u0 u1 u2 u3 u4
          go_wp2_with fail
          go_roundw
          case rel => exact ⟨k + 1, F, M, H, by omega, by go_num, le1, h3.weaken l2, en2.trans (bel_env hb3), Lib.hid ⟨hst2.out.symm, hI.out.2.1, hI.out.2.2.1, hI.out.2.2.2.1, by have := hI.out.2.2.2.2.1; omega, hI.out.2.2.2.2.2⟩⟩
          case measure => simp [intOf]; omega
        · have hst2 : Hid ((((l.take (k + 1)).map rp).foldl fineStep []) = F ++ [((r, s), q, xD, xB)]) := Lib.hid (by rw [hstep.out]; unfold fineStep; rw [if_pos ⟨hEh.out, hin⟩])
          have hlk := ents_look (pids F) (r, s)
          rw [decide_eq_false hin] at hlk
          replace hlk := Lib.hid hlk
          have hput : mput ((r, s) : Id) () (ents (pids F)) = ents (pids (F ++ [((r, s), q, xD, xB)])) := by
            rw [ents_put]
            unfold addL
            rw [if_neg hin]
            simp [pids]
          replace hput := Lib.hid hput
          clear hin hstep
          go_wp2_with fail
          refine hC.out.mono ?_
          rintro e w3 ⟨rfl, hb3⟩
          have h3 := h2.below hb3
          have en3 := en2.trans (bel_env hb3)
          have hgt := h3.swap.mp_get false Try.underlying61 (zero_bool _) (r, s)
          rw [hlk.out] at hgt
          change (Instr.lookup 61 (.map (some g)) (.agg #[.int .i64 r, .int .i64 s]) false).run Try.prog _ = .ok (.bool false) _ at hgt
          obtain ⟨w4, hmu, h4, en4⟩ := h3.swap.mp_put (t := 61) Try.underlying61 (r, s) ()
          change (Instr.mapUpdate 61 (.map (some g)) (.agg #[.int .i64 r, .int .i64 s]) (.bool true)).run Try.prog w3 = .ok () w4 at hmu
          rw [hput.out] at h4
          replace en4 := en3.trans en4
          clear u0 u1 u2 u3 u4 ul
          clear p0 p1 p2 p3 p4 pl hlk hput
          have u0 := h3.cell xc.1
          have u1 := h3.cell xc.2.1
          have u2 := h3.cell xc.2.2.1
          have u3 := h3.cell xc.2.2.2.1
          have u4 := h3.cell xc.2.2.2.2
          have ul := World.block_lt_of_cell? _ _ u0
          try simp only at u0 u1 u2 u3 u4
          have v0 := h4.cell xc.1
          have v1 := h4.cell xc.2.1
          have v2 := h4.cell xc.2.2.1
          have v3 := h4.cell xc.2.2.2.1
          have v4 := h4.cell xc.2.2.2.2
          have vl := World.block_lt_of_cell? _ _ v0
          try simp only at v0 v1 v2 v3 v4
          have hCp := recCopy_any ((r, s), q, .slice d1 d2 d3, .slice b1 b2 b3, xD, xB) w4 ((hxD.out.mono l2).rw h4) (by have := hlDh.out; simp only; omega) (by have := hlBh.out; simp only; omega)
          replace hCp := Lib.hid hCp
          go_wp2_with fail
          refine hCp.out.mono ?_
          rintro e w5 he
          obtain ⟨⟨dv', bv'⟩, rfl, h5, en5⟩ := ResE.lift h4 he
          replace en5 := en4.trans en5
          obtain ⟨H5, l5, h6, hbR⟩ := h5.swap.row_keep
          obtain ⟨y1, y2, y3, rfl, hy4, _⟩ := h6.row_form
          try simp only at hy4 hbR
          rw [idl_len] at hy4
          obtain rfl : y2 = xD.length := by omega
          obtain ⟨z1, z2, z3, hzv, _⟩ := hbR.form
          try simp only at hzv
          subst hzv
          have h7 := h6.blk #[.int .i64 r, .int .i64 s, .int .i64 q, .slice y1 xD.length y3, .slice z1 z2 z3] 33
          have en7 := en5.alloc (.cells #[.int .i64 r, .int .i64 s, .int .i64 q, .slice y1 xD.length y3, .slice z1 z2 z3] 33)
          have le5 := Hp.le_trans le1 (Hp.le_trans l2 l5)
          have hMd : Hid (∀ x ∈ M, RcD H5 x) := Lib.hid (fun y hy => (hI.out.2.2.1 y hy).mono (Hp.le_trans l2 l5))
          have hok : Hid (∀ c ∈ xB, CmW c) := Lib.hid hxD.out.ok
          have hMk : M.length ≤ 1000000 := by have := hI.out.2.2.2.2; omega
          have hMkh := Lib.hid hMk
          clear u0 u1 u2 u3 u4 ul v0 v1 v2 v3 v4 vl h5 h6 h4 h3 h2 h1 en1 en2 en3 en4 hgt hmu hCp he hy4 xc hMk en5 hb3 hC
          go_wp2_with fail
          generalize w5.alloc (.cells #[.int .i64 r, .int .i64 s, .int .i64 q, .slice y1 xD.length y3, .slice z1 z2 z3] 33) = W7 at *
          generalize w5.heap.size = g7 at *
          go_loopw [33] (fun j wr => ∃ (m : Nat) (D : List Id) (f1 : Option Addr) (f3 : Nat), m ≤ M.length ∧ j = .int .i64 (m : Int) ∧ St H5 (Blk g7 #[.int .i64 r, .int .i64 s, .int .i64 q, .slice f1 D.length f3, .slice z1 z2 z3] 33 :: Row 30 2 (.slice f1 D.length f3) (idl D) :: Mp setC g (ents (pids (F ++ [((r, s), q, xD, xB)]))) :: Row 33 5 (.slice LA M.length Lc) (recs M) :: []) wr ∧ Env w wr ∧ Hid (((M.map rp).take m).foldl mend1 ((r, s), q, xD, xB) = ((r, s), q, D, xB) ∧ Rises D ∧ D.length ≤ 16)) (fun j _ => M.length - (intOf j).toNat)
          case atStart => exact ⟨0, xD, y1, y3, by omega, by go_num, h7, en7, Lib.hid ⟨rfl, recErr_rises _ hEh.out, hlDh.out⟩⟩
          case round =>
            clear h7 en7
            obtain ⟨m, D, f1, f3, hm, rfl, hst, hen, hJ⟩ := hrel
            by_cases hlt2 : m < M.length
            · obtain ⟨ob, oo, hA, hcr⟩ := ((hst.pick 3 (by simp)).row_rw (by omega)).cells (by omega)
              cases hA
              obtain ⟨q0, q1, q2, q3, q4⟩ := recs_get M m hlt2
              replace q0 := hcr _ _ q0
              replace q1 := hcr _ _ q1
              replace q2 := hcr _ _ q2
              replace q3 := hcr _ _ q3
              replace q4 := hcr _ _ q4
              rw [← Nat.add_assoc] at q1 q2 q3 q4
              clear hcr
              have ql := World.block_lt_of_cell? _ _ q0
              have hyD := Lib.hid (hMd.out M[m] (List.getElem_mem hlt2))
              have hfs : Hid (((M.map rp).take (m + 1)).foldl mend1 ((r, s), q, xD, xB) = mend1 ((r, s), q, D, xB) (rp M[m])) := Lib.hid (by
                rw [List.take_add_one, List.getElem?_map, List.getElem?_eq_getElem hlt2, List.foldl_append, hJ.out.1]; rfl)
              generalize M[m] = y at *
              obtain ⟨e1, e2, e3, hev, _⟩ := hyD.out.d.form
              obtain ⟨c1, c2, c3, hcv, _⟩ := hyD.out.b.form
              obtain ⟨⟨r', s'⟩, q', yd, yb, yD, yB⟩ := y
              try simp only at hev hcv q0 q1 q2 q3 q4 hfs
              subst hev hcv
              obtain ⟨H6, l6, h6, yc⟩ := St.rcBox hst ((r', s'), q', .slice e1 e2 e3, .slice c1 c2 c3, yD, yB)
              have en6 := hen.alloc (.cells (rcA ((r', s'), q', .slice e1 e2 e3, .slice c1 c2 c3, yD, yB)) 33)
              try simp only [rcA] at h6 en6
              have v0 := h6.cell yc.1
              have v1 := h6.cell yc.2.1
              have v2 := h6.cell yc.2.2.1
              have v3 := h6.cell yc.2.2.2.1
              have v4 := h6.cell yc.2.2.2.2
              have vl := World.block_lt_of_cell? _ _ v0
              try simp only at v0 v1 v2 v3 v4
              have a0 := h6.blk_cell 0
              have a1 := h6.blk_cell 1
              have a2 := h6.blk_cell 2
              have a3 := h6.blk_cell 3
              have a4 := h6.blk_cell 4
              have al := h6.blk_lt
              obtain ⟨hJ1, hJ2, hJ3⟩ := hJ.out
              by_cases h16 : D.length < 16
              · have hLk := lacks_any ((r, s), q, .slice f1 D.length f3, .slice z1 z2 z3, D, xB) ((r', s'), q', .slice e1 e2 e3, .slice c1 c2 c3, yD, yB) _ ⟨h6.swap.row_rw (by omega), (hbR.mono l6).rw h6, hok.out⟩ ((hyD.out.mono l6).rw h6)
                try simp only [rp] at hLk
                cases hlk : lackR ((r, s), q, D, xB) ((r', s'), q', yD, yB) with
                | false =>
                  have hfs2 : Hid (((M.map rp).take (m + 1)).foldl mend1 ((r, s), q, xD, xB) = ((r, s), q, D, xB)) := Lib.hid (by rw [hfs.out]; unfold mend1; rw [if_neg (fun h => by rw [hlk] at h; cases h.2)])
                  rw [hlk] at hLk
                  replace hLk := Lib.hid hLk
                  replace hJ2 := Lib.hid hJ2
                  clear hJ1 hlk hfs hJ
                  go_wp2_with fail
                  refine hLk.out.mono ?_
                  rintro e w8 ⟨rfl, hb8⟩
                  go_wp2_with fail
                  go_roundw
                  case rel => exact ⟨m + 1, D, f1, f3, by omega, by go_num, (h6.below hb8).weaken l6, en6.trans (bel_env hb8), Lib.hid ⟨hfs2.out, hJ2.out, hJ3⟩⟩
                  case measure => simp [intOf]; omega
                | true =>
                  have hfs2 : Hid (((M.map rp).take (m + 1)).foldl mend1 ((r, s), q, xD, xB) = ((r, s), q, putL (r', s') D, xB)) := Lib.hid (by rw [hfs.out]; unfold mend1; rw [if_pos ⟨h16, hlk⟩])
                  have hsp : Hid (runs (idSort (D ++ [(r', s')])) = putL (r', s') D) := Lib.hid (sort_put D (r', s') hJ2)
                  have hR2 : Hid (Rises (putL (r', s') D)) := Lib.hid (putL_rises _ _ hJ2)
                  have hpl := putL_len (r', s') D
                  rw [hlk] at hLk
                  replace hLk := Lib.hid hLk
                  clear hJ1 hJ2 hlk hfs hJ
                  go_wp2_with fail
                  refine hLk.out.mono ?_
                  rintro e w8 ⟨rfl, hb8⟩
                  have h8 := h6.below hb8
                  have en8 := en6.trans (bel_env hb8)
                  clear v0 v1 v2 v3 v4 vl a0 a1 a2 a3 a4 al q0 q1 q2 q3 q4 ql
                  have v0 := h8.cell yc.1
                  have v1 := h8.cell yc.2.1
                  have v2 := h8.cell yc.2.2.1
                  have v3 := h8.cell yc.2.2.2.1
                  have v4 := h8.cell yc.2.2.2.2
                  have vl := World.block_lt_of_cell? _ _ v0
                  try simp only at v0 v1 v2 v3 v4
                  have a0 := h8.blk_cell 0
                  have a1 := h8.blk_cell 1
                  have a2 := h8.blk_cell 2
                  have a3 := h8.blk_cell 3
                  have a4 := h8.blk_cell 4
                  have al := h8.blk_lt
                  go_wp2_with (at_builtin; refine wpList_append rfl (.tmp 47) (.tmp 50) 31 31 rfl Try.underlying31 (.inl ⟨_, Try.underlying31⟩) (.agg #[.int .i64 0, .int .i64 0]) 16 info_id rfl (by decide) (by decide) rfl rfl (h8.swap.alloc _) (news_at _ _ 1 #[.int .i64 r', .int .i64 s'] rfl (by simp [Value.oneCell']) rfl) ?apB11 ?apK11)
                  try case apB11 => first | omega | (simp; omega) | (simp [idl_len]; omega) | skip
                  intro v' w9 h9 en9
                  rw [← idl_snoc D (r', s')] at h9
                  go_wp2_with fail
                  refine (identSorted_any _ (D ++ [(r', s')]) _ (h9.row_rw (by omega)) (by simp; omega)).mono ?_
                  rintro e w10 he
                  obtain ⟨v'', rfl, h10, en10⟩ := ResE.lift h9 he
                  rw [hsp.out] at h10
                  have en11 := ((en8.alloc _).trans en9).trans en10
                  obtain ⟨t1, t2, t3, rfl, ht4, _⟩ := h10.row_form
                  rw [idl_len] at ht4
                  obtain rfl : t2 = (putL (r', s') D).length := by omega
                  have h11 := h10.pick 2 (by simp)
                  have a3 := h11.blk_cell 3
                  have af3 := h11.blk_free 3
                  have al := h11.blk_lt
                  have h12 := h11.blk_set 3 (.slice t1 (putL (r', s') D).length t3)
                  clear ht4 he h10 h9 h8
                  go_wp2_with fail
                  go_roundw
                  case rel => exact ⟨m + 1, putL (r', s') D, t1, t3, by omega, by go_num, ((h12.pick 2 (by simp)).drop).weaken l6, en11.setCell _ _, Lib.hid ⟨hfs2.out, hR2.out, by omega⟩⟩
                  case measure => simp [intOf]; omega
              · have hfs2 : Hid (((M.map rp).take (m + 1)).foldl mend1 ((r, s), q, xD, xB) = ((r, s), q, D, xB)) := Lib.hid (by rw [hfs.out]; unfold mend1; rw [if_neg (fun h => h16 h.1)])
                replace hJ2 := Lib.hid hJ2
                clear hJ1 hfs hJ
                go_wp2_with fail
                go_roundw
                case rel => exact ⟨m + 1, D, f1, f3, by omega, by go_num, h6.weaken l6, en6, Lib.hid ⟨hfs2.out, hJ2.out, hJ3⟩⟩
                case measure => simp [intOf]; omega
            · obtain rfl : m = M.length := by omega
              obtain ⟨hJ1, hJ2, hJ3⟩ := hJ.out
              rw [List.take_of_length_le (by simp)] at hJ1
              have a0 := hst.blk_cell 0
              have a1 := hst.blk_cell 1
              have a2 := hst.blk_cell 2
              have a3 := hst.blk_cell 3
              have a4 := hst.blk_cell 4
              have al := hst.blk_lt
              obtain ⟨H6, l6, h6, hdR⟩ := (hst.swap).row_keep
              have h7 := (h6.pick 2 (by simp))
              have hbR6 := hbR.mono l6
              have hone := rec_one ((r, s), q, .slice f1 D.length f3, .slice z1 z2 z3, D, xB) ⟨hdR, hbR6, hok.out⟩
              have hM2 : Hid ((M ++ [((r, s), q, Value.slice f1 D.length f3, Value.slice z1 z2 z3, D, xB)]).map rp = mendL (F ++ [((r, s), q, xD, xB)]) ∧ ∀ y ∈ M ++ [((r, s), q, Value.slice f1 D.length f3, Value.slice z1 z2 z3, D, xB)], RcD H6 y) := Lib.hid ⟨by
                unfold mendL
                rw [List.foldl_append, List.map_append, hI.out.2.1]
                show _ = mendStep (mendL F) _
                unfold mendStep mendOne
                rw [← hI.out.2.1, hJ1]
                rfl, fun y hy => by
                rcases List.mem_append.1 hy with hy | hy
                · exact (hMd.out y hy).mono l6
                · obtain rfl := List.mem_singleton.1 hy
                  exact ⟨hdR, hbR6, hok.out⟩⟩
              have hra : recs (M ++ [((r, s), q, Value.slice f1 D.length f3, Value.slice z1 z2 z3, D, xB)]) = recs M ++ recc ((r, s), q, .slice f1 D.length f3, .slice z1 z2 z3, D, xB) := by rw [recs_append]; simp [recs]
              replace hra := Lib.hid hra
              have hMk := hMkh.out
              clear hJ1 hJ2
              go_wp2_with (at_builtin; refine wpList_append rfl (.tmp 55) (.tmp 57) 23 23 rfl Try.underlying23 (.inl ⟨_, Try.underlying23⟩) (.agg #[.int .i64 0, .int .i64 0, .int .i64 0, .slice none 0 0, .slice none 0 0]) 72 info_rec rfl (by decide) (by decide) rfl rfl (h7.alloc _) (news_at _ _ 1 #[.int .i64 r, .int .i64 s, .int .i64 q, .slice f1 D.length f3, .slice z1 z2 z3] rfl (by simpa [recc] using hone) rfl) ?apB13 ?apK13)
              try case apB13 => first | omega | (simp; omega) | (simp [recs_len]; omega) | skip
              intro v' w9 h9 en9
              clear hMk
              go_wp2_with fail
              go_roundw
              case rel => exact ⟨k + 1, F ++ [((r, s), q, xD, xB)], M ++ [((r, s), q, Value.slice f1 D.length f3, Value.slice z1 z2 z3, D, xB)], H6, by omega, by go_num, Hp.le_trans le5 l6, by rw [hra.out]; exact h9.swap.drop, (hen.alloc _).trans en9, Lib.hid ⟨hst2.out.symm, hM2.out.1, hM2.out.2, fineSnoc_ok hI.out.2.2.2.1 ((r, s), q, xD, xB) hEh.out, by have := hI.out.2.2.2.2.1; simp; omega, by have := hI.out.2.2.2.2.2.1; simp; omega, by
                have := hI.out.2.2.2.2.2.2
                simp only [pids, List.map_append, List.map_cons, List.map_nil] at this ⊢
                rw [this]⟩⟩
              case measure => simp [intOf]; omega
    · obtain rfl : k = l.length := by omega
      have hF : Hid (M.map rp = mendL (fineL (l.map rp))) := Lib.hid (by rw [hI.out.2.1, hI.out.1, List.take_length]; rfl)
      have hMd := hI.out.2.2.1
      replace hMd := Lib.hid hMd
      go_wp2_with fail
      go_ret
      exact ⟨_, M, H, rfl, le1, h1.swap.drop, en1, hF.out, hMd.out⟩
end Go.Proofs.Ytohgcghobidfpaa
