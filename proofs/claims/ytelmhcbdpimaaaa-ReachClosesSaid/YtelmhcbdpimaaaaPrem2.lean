/- The premise: Edge. -/
import Derived.Test.YtelmhcbdpimaaaaPrem
import Derived.Test.YtelmhcbdpimaaaaGraph
set_option linter.unusedVariables false
set_option linter.unusedSimpArgs false
namespace Go.Proofs.Ytelmhcbdpimaaaa
open Go.RowKit Go.Cw Go.Fl
attribute [local go_sem ↓] eql_id neq_id
/-- What a call that keeps a graph leaves. -/
def GKeep (H : Hp) (p : Nat) (L : List Rc) (fr : List HA) (w : World) (v : Value) (e : Ending) (w' : World) : Prop :=
  ∃ H', Hp.le H H' ∧ St H' (GrA p L :: fr) w' ∧ Env w w' ∧ e = .returned v
def edgeG (l : List Rp) (a b : Id) : Bool := decide (a ∈ pids l) && (decide (b ∈ pids l) && linkR (lookR l a) (lookR l b))
set_option maxRecDepth 100000 in
set_option maxHeartbeats 3200000 in
theorem premEdge_any (p : Nat) (L : List Rc) (a b : Id) (H : Hp) (fr : List HA) (w : World) (h : St H (GrA p L :: fr) w) (hg : GrOk H L) :
    Calls Try.prog 25 #[grP p, idV a, idV b] w (GKeep H p L fr w (.bool (edgeG (L.map rp) a b))) := by
  obtain ⟨R, hR⟩ : ∃ R, edgeG (L.map rp) a b = R := ⟨_, rfl⟩
  rw [hR]
  unfold edgeG at hR
  rw [pids_rp] at hR
  obtain ⟨ra, sa⟩ := a
  obtain ⟨rb', sb⟩ := b
  obtain ⟨H1, l1, h1, ya⟩ := h.box #[.int .i64 ra, .int .i64 sa] 28
  obtain ⟨H2, l2, h2, yb⟩ := h1.box #[.int .i64 rb', .int .i64 sb] 28
  have e1 : (w.alloc (.cells #[.int .i64 ra, .int .i64 sa] 28)).heap.size = w.heap.size + 1 := by simp
  rw [e1] at yb
  have en2 := ((Env.refl w).alloc (.cells #[.int .i64 ra, .int .i64 sa] 28)).alloc (.cells #[.int .i64 rb', .int .i64 sb] 28)
  have a0 := Hp.cell_le l2 (ya 0 _ rfl)
  have a1 := Hp.cell_le l2 (ya 1 _ rfl)
  have b0 := yb 0 _ rfl
  have b1 := yb 1 _ rfl
  have le2 := Hp.le_trans l1 l2
  clear ya yb h h1 e1
  have u0 := h2.cell a0
  have u1 := h2.cell a1
  have ul := World.block_lt_of_cell? _ _ u0
  have v0 := h2.cell b0
  have v1 := h2.cell b1
  have vl := World.block_lt_of_cell? _ _ v0
  go_enter Try.func25, Try.ntmps25
  go_wp2_with fail
  generalize (w.alloc (.cells #[.int .i64 ra, .int .i64 sa] 28)).alloc (.cells #[.int .i64 rb', .int .i64 sb] 28) = W at *
  generalize w.heap.size + 1 = gb at *
  generalize w.heap.size = ga at *
  refine (grRecord_any p L (ra, sa) H2 fr _ h2 (hg.mono le2)).mono ?_
  rintro e w3 ⟨H3, x, l3, h3, en3, rfl, hx, hxl⟩
  obtain ⟨d1, d2, d3, hdv, _⟩ := hx.d.form
  obtain ⟨b1', b2', b3', hbv, _⟩ := hx.b.form
  obtain ⟨H4, l4, h4, xc⟩ := St.rcBox h3 x
  have en4 := (en2.trans en3).alloc (.cells (rcA x) 32)
  have le4 := Hp.le_trans le2 (Hp.le_trans l3 l4)
  replace b0 := Hp.cell_le (Hp.le_trans l3 l4) b0
  replace b1 := Hp.cell_le (Hp.le_trans l3 l4) b1
  have hx4 := hx.mono l4
  clear u0 u1 ul v0 v1 vl h2 a0 a1 h3 hx en2 en3
  have v0 := h4.cell b0
  have v1 := h4.cell b1
  have vl := World.block_lt_of_cell? _ _ v0
  obtain ⟨oa, hoa⟩ : ∃ oa, decide (((ra, sa) : Id) ∈ rids L) = oa := ⟨_, rfl⟩
  rw [hoa] at hR ⊢
  rw [← hxl] at hR
  replace hxl := Lib.hid hxl
  clear hoa
  obtain ⟨⟨xr, xs⟩, xq, xd, xb, xD, xB⟩ := x
  simp only at hdv hbv
  subst hdv hbv
  go_wp2_with fail
  try simp only [rcA] at h4 en4 xc
  generalize w3.alloc (.cells #[.int .i64 xr, .int .i64 xs, .int .i64 xq, .slice d1 d2 d3, .slice b1' b2' b3'] 32) = W4 at *
  generalize w3.heap.size = gx at *
  refine (grRecord_any p L (rb', sb) H4 fr _ h4 (hg.mono le4)).mono ?_
  rintro e w5 ⟨H5, y, l5, h5, en5, rfl, hy, hyl⟩
  obtain ⟨e1, e2, e3, hev, _⟩ := hy.d.form
  obtain ⟨f1, f2, f3, hfv, _⟩ := hy.b.form
  obtain ⟨H6, l6, h6, yc⟩ := St.rcBox h5 y
  have en6 := (en4.trans en5).alloc (.cells (rcA y) 32)
  have le6 := Hp.le_trans le4 (Hp.le_trans l5 l6)
  replace xc := xc.mono (Hp.le_trans l5 l6)
  have hx6 := hx4.mono (Hp.le_trans l5 l6)
  have hy6 := hy.mono l6
  clear v0 v1 vl h4 h5 hx4 hy en4 en5 b0 b1
  obtain ⟨ob, hob⟩ : ∃ ob, decide (((rb', sb) : Id) ∈ rids L) = ob := ⟨_, rfl⟩
  rw [hob] at hR ⊢
  rw [← hyl] at hR
  replace hyl := Lib.hid hyl
  clear hob
  have hLk := fun w' (h' : St H6 (GrA p L :: fr) w') => linked_any _ _ w' (hx6.rw h') (hy6.rw h')
  obtain ⟨⟨yr, ys⟩, yq, yd, yb, yD, yB⟩ := y
  simp only at hev hfv
  subst hev hfv
  try simp only [rcA] at h6 en6 yc hLk
  have u0 := h6.cell xc.1
  have u1 := h6.cell xc.2.1
  have u2 := h6.cell xc.2.2.1
  have u3 := h6.cell xc.2.2.2.1
  have u4 := h6.cell xc.2.2.2.2
  have ul := World.block_lt_of_cell? _ _ u0
  try simp only at u0 u1 u2 u3 u4
  have v0 := h6.cell yc.1
  have v1 := h6.cell yc.2.1
  have v2 := h6.cell yc.2.2.1
  have v3 := h6.cell yc.2.2.2.1
  have v4 := h6.cell yc.2.2.2.2
  have vl := World.block_lt_of_cell? _ _ v0
  try simp only at v0 v1 v2 v3 v4
  cases oa with
  | false =>
    rw [Bool.false_and] at hR
    subst hR
    clear hLk
    go_wp2_with fail
    go_ret
    exact ⟨H6, le6, h6, en6, rfl⟩
  | true =>
    rw [Bool.true_and] at hR
    cases ob with
    | false =>
      rw [Bool.false_and] at hR
      subst hR
      clear hLk
      go_wp2_with fail
      go_ret
      exact ⟨H6, le6, h6, en6, rfl⟩
    | true =>
      rw [Bool.true_and] at hR
      rw [hR] at hLk
      replace hLk := Lib.hid hLk
      clear hR
      go_wp2_with fail
      refine (hLk.out _ h6).mono ?_
      rintro e w7 ⟨rfl, hb7⟩
      go_wp2_with fail
      go_ret
      exact ⟨H6, le6, h6.below hb7, en6.trans (bel_env hb7), rfl⟩
end Go.Proofs.Ytelmhcbdpimaaaa
