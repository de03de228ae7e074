/- What some ids reach: reach.each, From. -/
import Derived.Test.YtelmhcbdpimaaaaReach2
set_option linter.unusedVariables false
set_option linter.unusedSimpArgs false
namespace Go.Proofs.Ytelmhcbdpimaaaa
open Go.RowKit Go.Cw Go.Fl
attribute [local go_sem ↓] eql_id neq_id
attribute [local go_sem] Oper.semAt_some
attribute [local go_sem] wide_fn wide_fnR wide_dp wide_dpR wide_rd wide_rdR
set_option maxRecDepth 100000 in
theorem each_any (ga : Option Addr) (A : Option Addr) (m c : Nat) (H : Hp) (fr : List HA) (w : World) (h : St H fr w) :
    Calls Try.prog 78 #[.pointer ga, .slice A m c] w fun e w' => ∃ (cl cg : Nat) (H' : Hp), e = .returned (.func (.func 111) #[] #[.pointer (some ⟨cl, 0, none⟩), .pointer (some ⟨cg, 0, none⟩)]) ∧ Hp.le H H' ∧ St H' fr w' ∧ Env w w' ∧ H'.cell cl 0 = some (.slice A m c) ∧ H'.cell cg 0 = some (.pointer ga) := by
  have hmf : ∀ (fn : Fn) (first cap : Array Value) (w : World), (Instr.makeFunc fn first cap).run Try.prog w = .ok (.func fn first cap) w := fun _ _ _ _ => rfl
  obtain ⟨H1, l1, h1, y1⟩ := h.box #[.pointer ga] 33
  obtain ⟨H2, l2, h2, y2⟩ := h1.box #[.slice A m c] 29
  have c1 := Hp.cell_le l2 (y1 0 _ rfl)
  have c2 := y2 0 _ rfl
  have en := ((Env.refl w).alloc (.cells #[.pointer ga] 33)).alloc (.cells #[.slice A m c] 29)
  rw [World.size_alloc] at c2
  clear y1 y2
  go_enter Try.func78, Try.ntmps78
  go_wp2_with fail
  go_ret
  exact ⟨_, _, H2, rfl, Hp.le_trans l1 l2, h2, en, c2, c1⟩
/-- What From tells. -/
def FromG (deps : Id → List Id) (src : List Id) (G : HA) (H : Hp) (fr : List HA) (w : World) (e : Ending) (w' : World) : Prop :=
  ∃ v R H', e = .returned v ∧ Hp.le H H' ∧ St H' (Row 28 2 v (idl R) :: G :: fr) w' ∧ Env w w' ∧ Rises R ∧ ∀ a, a ∈ R ↔ Rch deps src a
def CollE (g : Nat) (pre : List Id) : HA := Ex fun v => Star (Blk g #[v] 29) (Row 28 2 v (idl pre))
theorem collOpen {H : Hp} {fr : List HA} {w : World} {g : Nat} {pre : List Id} (h : St H (CollE g pre :: fr) w) : ∃ A m c, St H (Blk g #[.slice A m c] 29 :: Row 28 2 (.slice A m c) (idl pre) :: fr) w := by
  obtain ⟨v, h1⟩ := h.openEx
  have h2 := h1.openStar
  obtain ⟨A, m, c, rfl, _⟩ := h2.swap.row_form
  exact ⟨A, m, c, h2⟩
theorem collShut {H : Hp} {fr : List HA} {w : World} {g : Nat} {pre : List Id} {v : Value} (h : St H (Blk g #[v] 29 :: Row 28 2 v (idl pre) :: fr) w) : St H (CollE g pre :: fr) w := St.shutEx v h.shutStar
set_option maxRecDepth 100000 in
set_option maxHeartbeats 4000000 in
theorem from_any (ga : Option Addr) (G : HA) (deps : Id → List Id) (src U : List Id) (sv : Value) (H : Hp) (fr : List HA) (w : World) (h : St H (G :: fr) w)
    (hU : ∀ a, Rch deps src a → a ∈ U) (hUl : U.length ≤ 100000) (hsl : src.length ≤ 100000) (hd16 : ∀ a, (deps a).length ≤ 16) (hR : RecOf (.pointer ga) G deps H) (hsv : Rd H 2 sv (idl src)) :
    Calls Try.prog 36 #[.pointer ga, sv] w (FromG deps src G H fr w) := by
  obtain ⟨sA, sn, sc, rfl, hsn, hsc, _⟩ := hsv.form
  have h1 := h.blk #[.slice none 0 0] 29
  have en1 := (Env.refl w).alloc (.cells #[.slice none 0 0] 29)
  have hE := Lib.hid (each_any ga sA sn sc H _ _ h1)
  have hfin : ∀ (v : Value) (R : List Id) (H' : Hp) (w' : World), Hp.le H H' → St H' (Row 28 2 v (idl R) :: G :: fr) w' → Env w w' → Rises R → (∀ a, a ∈ R ↔ Rch deps src a) → FromG deps src G H fr w (.returned v) w' := fun v R H' w' h1 h2 h3 h4 h5 => ⟨v, R, H', rfl, h1, h2, h3, h4, h5⟩
  generalize FromG deps src G H fr w = Q at *
  have hUb : ∀ xs : List Id, xs.Nodup → (∀ a, a ∈ xs ↔ Rch deps src a) → xs.length ≤ 100000 := fun xs hn ha => Nat.le_trans (sub_len16 xs U hn (fun a h => hU a ((ha a).1 h))) hUl
  have hUp : ∀ xs : List Id, xs.Nodup → (∀ a ∈ xs, Rch deps src a) → xs.length ≤ 100000 := fun xs hn ha => Nat.le_trans (sub_len16 xs U hn (fun a h => hU a (ha a h))) hUl
  replace hUb := Lib.hid hUb
  replace hUp := Lib.hid hUp
  replace hfin := Lib.hid hfin
  refine (callsIn_wide (n := 0)).1 (callsIn_of_wp_marks Try.func36 rfl trivial ?_ rfl)
  simp only [Try.ntmps36, List.size_toArray, List.length_cons, List.length_nil, Nat.reduceAdd, Nat.reduceSub, Array.replicate_succ, Array.replicate_zero, List.push_toArray, List.append_toArray, List.nil_append, List.cons_append]
  gi_wp2_with fail
  refine (callsIn_wide.2 hE.out).mono ?_
  rintro e w2 ⟨cl, cg, H1, rfl, l1, h2, en2, ccl, ccg⟩
  replace en2 := en1.trans en2
  clear hE h1 en1
  gi_wp2_with fail
  generalize w.heap.size = go at *
  have h3 : St H1 (G :: CollE go [] :: fr) w2 := (collShut (h2.row_nil 28 2).swap).swap
  refine wpIn_each (.pointer ga) G deps src U cg cl (.slice sA sn sc) (CollE go) (fun _ _ => Pu False Emp) H1 fr hU hUl hsl hd16 (fun x H' fr' w' hl h' => hR x H' fr' w' (Hp.le_trans l1 hl) h') ccl (hsv.mono l1) ccg ⟨ga, rfl⟩ h3 rfl rfl ?body ?done ?stop
  case body =>
    intro l pre x H2 fr1 W l2 hrx hx hnd hpre hst
    obtain ⟨H3, l3, h4, y⟩ := hst.box #[.int .i64 x.1, .int .i64 x.2] 28
    have y0 := y 0 _ rfl
    have y1 := y 1 _ rfl
    have en4 := (Env.refl W).alloc (.cells #[.int .i64 x.1, .int .i64 x.2] 28)
    gi_wp2_with fail
    refine ⟨H3, l3, en4, h4, ?_⟩
    intro fr2 W2 h5
    have c0 := h5.cell y0
    have c1 := h5.cell y1
    have cl0 := World.block_lt_of_cell? _ _ c0
    obtain ⟨A, m, c, h6⟩ := collOpen h5.swap
    have d0 : W2.cell? ⟨go, 0, none⟩ = some (.slice A m c) := h6.blk_cell 0
    have dl := h6.blk_lt
    have h7 := h6.swap.alloc (.cells #[.int .i64 x.1, .int .i64 x.2] 28)
    have en7 := (Env.refl W2).alloc (.cells #[.int .i64 x.1, .int .i64 x.2] 28)
    have hpl := hUp.out pre hnd hpre
    clear hsv hR hU hd16
    gi_wp2_with (gi_at_builtin; refine wpListIn_append rfl (.tmp 11) (.tmp 13) 29 29 rfl Try.underlying29 (.inl ⟨_, Try.underlying29⟩) (.agg #[.int .i64 0, .int .i64 0]) 16 info_id rfl (by decide) (by decide) rfl rfl h7 (News.new W2 _ 1 #[.int .i64 x.1, .int .i64 x.2] rfl (by simp [Value.oneCell'])) ?apB ?apK)
    case apB => rw [idl_len]; show (pre.length * 2 + 2) * 16 ≤ _; omega
    case apK =>
      intro v' w7 h8 en8
      obtain ⟨va, vm, vc, rfl, _⟩ := h8.row_form
      have e0 : w7.cell? ⟨go, 0, none⟩ = some (.slice A m c) := h8.swap.blk_cell 0
      have ef := h8.swap.blk_free 0
      have el := h8.swap.blk_lt
      have h9 : St H3 (Blk go #[.slice va vm vc] 29 :: Row 28 2 (.slice va vm vc) (idl (pre ++ [x])) :: G :: fr2) (w7.setCell ⟨go, 0, none⟩ (.slice va vm vc)) := by
        have := h8.swap.blk_set 0 (.slice va vm vc)
        rw [idl_append]
        exact this
      have hz : LeftR G (CollE go) (fun _ _ => Pu False Emp) H3 fr2 (pre ++ [x]) W2 .normal { tmps := #[], defers := [] } (w7.setCell ⟨go, 0, none⟩ (.slice va vm vc)) := ⟨H3, Hp.le_refl _, (en7.trans en8).setCell _ _, (collShut h9).swap⟩
      gi_wp2_with fail
      exact hz
  case done =>
    intro xs d H2 fr' W l2 hnd hall hst en3
    have hrs := runs_sort_rises xs
    have hrm := runs_sort_mem xs
    obtain ⟨A, m, c, h6⟩ := collOpen (hst.pick 2 (by simp))
    obtain ⟨H3, l3, h7, hrd⟩ := h6.swap.row_keep
    have d0 : W.cell? ⟨go, 0, none⟩ = some (.slice A m c) := h7.blk_cell 0
    have dl := h7.blk_lt
    have hS := Lib.hid (identSorted_any (.slice A m c) xs W (hrd.rw h7) (by have := hUb.out xs hnd hall; omega))
    have hall2 : Hid (∀ a, a ∈ runs (idSort xs) ↔ Rch deps src a) := Lib.hid (fun a => by rw [hrm, hall])
    replace hrs := Lib.hid hrs
    clear hall hsv hR hU hd16 hrm
    gi_wp2_with fail
    refine (callsIn_wide.2 hS.out).mono ?_
    rintro e w8 he
    obtain ⟨v', rfl, h8, en8⟩ := ResE.lift h7 he
    obtain ⟨va, vm, vc, rfl, _⟩ := h8.row_form
    have h9 : St H3 (Ob d (.deferred (some [])) :: Row 28 2 (.slice va vm vc) (idl (runs (idSort xs))) :: Blk go #[.slice A m c] 29 :: G :: fr) w8 := h8.perm (by
      refine (List.perm_append_comm (l₁ := [Row 28 2 (.slice va vm vc) (idl (runs (idSort xs))), Blk go #[.slice A m c] 29]) (l₂ := [Ob d (.deferred (some []))])).append_right (G :: fr))
    have hK := h9.ob_heap
    have h10 := (h9.ob_put (.deferred none)).drop
    have hz := Lib.hid (hfin.out (.slice va vm vc) _ H3 _ (Hp.le_trans l1 (Hp.le_trans l2 l3)) ((h10.pick 1 (by simp)).drop) (((en2.trans en3).trans en8).putObj d (.deferred none)) hrs.out hall2.out)
    clear he
    gi_wp2_with fail
    refine ⟨by simp, .inl ⟨_, _, rfl, run_takeDeferred hK, ?_⟩⟩
    refine ⟨_, results_tmp rfl _ _ _, ?_⟩
    exact hz.out
  case stop =>
    intro xs c d H2 W l2 hall hst en3
    exact (hst.pick 2 (by simp)).openPu.1.elim
end Go.Proofs.Ytelmhcbdpimaaaa
