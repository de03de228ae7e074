/- Joined texts: CanLeads, ReachWorks, CMut. -/
import Derived.Test.YtcbckeoalmjcoaaGreatCGR11
import Derived.Test.YtcbckeoalmjcoaaGreatCGR17
import Derived.Test.YtcbckeoalmjcoaaGreatCGR22
import Derived.Test.YtcbckeoalmjcoaaGreatCGR23
import Derived.Test.YtcbckeoalmjcoaaGreatCGR29
import Derived.Test.YtcbckeoalmjcoaaGreatCGR33
/- canon.Leads, the reference's Leads. -/
set_option linter.unusedVariables false
set_option linter.unusedSimpArgs false
namespace Go.Proofs.YtcbckeoalmjcoaaGreat
open Go.RowKit Go.Cw Go.Fl
attribute [local go_sem ↓] eql_id neq_id
set_option maxRecDepth 100000 in
set_option maxHeartbeats 1600000 in
theorem leads1_any (x : Id) (b : List Id) (ub : Value) (p : Nat) (w : World) (hx : Rw w 2 ub (idl b)) (h0 : w.cell? ⟨p, 0, none⟩ = some ub) :
    Calls Tryz.prog 59 #[idV x, .pointer (some ⟨p, 0, none⟩)] w fun e w' => e = .returned (.bool (decide (x ∈ b))) ∧ Below w.heap.size w w' := by
  obtain ⟨a0, a1⟩ := x
  have hbx := boxBelow w (.cells #[.int .i64 a0, .int .i64 a1] 41)
  obtain ⟨H1, l1, h1, y⟩ := (St.start w).box #[.int .i64 a0, .int .i64 a1] 41
  have v0 := h1.cell (y 0 _ rfl)
  have v1 := h1.cell (y 1 _ rfl)
  have pl := World.block_lt_of_cell? _ _ h0
  have g0 := (hbx.cell (p := ⟨p, 0, none⟩) pl).trans h0
  have gl := World.block_lt_of_cell? _ _ g0
  have vl := World.block_lt_of_cell? _ _ v0
  have hH := Lib.hid (identHas_any ub b (a0, a1) _ (hx.below hbx))
  obtain ⟨uA, un, uc, rfl, _⟩ := hx.form
  have hsz : w.heap.size ≤ (w.alloc (.cells #[.int .i64 a0, .int .i64 a1] 41)).heap.size := by simp
  clear h1 y hx h0 l1
  go_enter Tryz.func59, Tryz.ntmps59
  go_wp2_with fail
  refine hH.out.mono ?_
  rintro e w2 ⟨rfl, hb⟩
  have hz := Lib.hid (hbx.trans (hb.mono hsz))
  go_wp2_with fail
  go_ret
  exact ⟨rfl, hz.out⟩
theorem any_leads (nx : Id → List Id) (a b : List Id) : (outP nx a).any (fun x => decide (x ∈ b)) = leadsB nx a b := by
  rw [Bool.eq_iff_iff]
  simp [leadsB]
set_option maxRecDepth 100000 in
set_option maxHeartbeats 1600000 in
theorem canLeads_any (p : Nat) (L : List Rc) (ua ub : Value) (a b : List Id) (H : Hp) (fr : List HA) (w : World) (h : St H (GrA p L :: fr) w) (hg : GrOk H L) (ha : Rd H 2 ua (idl a)) (hb : Rd H 2 ub (idl b)) (hal : a.length ≤ 1048576) :
    Calls Tryz.prog 28 #[grP p, ua, ub] w (AskR (leadsB (dpsR (L.map rp)) a b) (GrA p L) H fr w) := by
  have hfin : ∀ (H' : Hp) (w' : World), Hp.le H H' → St H' (GrA p L :: fr) w' → Env w w' → AskR (leadsB (dpsR (L.map rp)) a b) (GrA p L) H fr w (.returned (.bool (leadsB (dpsR (L.map rp)) a b))) w' := fun H' w' h1 h2 h3 => ⟨H', rfl, h1, h2, h3⟩
  generalize AskR (leadsB (dpsR (L.map rp)) a b) (GrA p L) H fr w = Q at *
  replace hfin := Lib.hid hfin
  obtain ⟨uA, un, uc, rfl, _⟩ := hb.form
  obtain ⟨H1, l1, h1, y⟩ := h.box #[.slice uA un uc] 35
  have y0 : H1.cell w.heap.size 0 = some (.slice uA un uc) := y 0 _ rfl
  have en1 := (Env.refl w).alloc (.cells #[.slice uA un uc] 35)
  have hO := Lib.hid (canOut_any p L ua a H1 fr _ h1 (hg.mono l1) (ha.mono l1) hal)
  have hmf : ∀ (fn : Fn) (first cap : Array Value) (w : World), (Instr.makeFunc fn first cap).run Tryz.prog w = .ok (.func fn first cap) w := fun _ _ _ _ => rfl
  have eg := Lib.hid (enters_of Tryz.func59 (P := Tryz.prog) (by kernel_rfl) rfl)
  obtain ⟨aA, an, ac, rfl, _⟩ := ha.form
  clear y h h1
  go_enter Tryz.func28, Tryz.ntmps28
  go_wp2_with fail
  generalize w.alloc (.cells #[.slice uA un uc] 35) = W at *
  generalize w.heap.size = gb at *
  refine hO.out.mono ?_
  rintro e w2 ⟨v, H2, rfl, l2, h2, en2⟩
  replace en2 := en1.trans en2
  have y2 := Hp.cell_le l2 y0
  have hb2 := hb.mono (Hp.le_trans l1 l2)
  have hC := containsF_any 59 (.pointer (some ⟨gb, 0, none⟩)) (fun x => decide (x ∈ b)) v (outP (dpsR (L.map rp)) a) w2 (h2.row_rw (by decide)) eg.out (fun x w' hw => leads1_any x b (.slice uA un uc) gb w' ((hb2.rw h2).below hw) ((h2.below hw).cell y2))
  rw [any_leads] at hC
  replace hC := Lib.hid hC
  obtain ⟨oA, on, oc, rfl, _⟩ := h2.row_form
  replace h2 := h2.drop
  clear hO y0 en1
  go_wp2_with fail
  refine hC.out.mono ?_
  rintro e w3 ⟨rfl, hb3⟩
  have hz := Lib.hid (hfin.out H2 w3 (Hp.le_trans l1 l2) (h2.below hb3) (en2.trans (bel_env hb3)))
  clear hfin h2 hC
  go_wp2_with fail
  exact hz.out
/-- What the reference asks of one id. -/
def refG (a b : List Id) (d : Id) : Bool := decide (d ∈ b) && !decide (d ∈ a)
theorem ref_leads (nx : Id → List Id) (a b : List Id) : a.any (fun x => (nx x).any (refG a b)) = leadsB nx a b := by
  rw [Bool.eq_iff_iff]
  unfold leadsB refG
  simp only [List.any_eq_true, Bool.and_eq_true, Bool.not_eq_true', decide_eq_true_eq, decide_eq_false_iff_not, outP_mem]
  constructor
  · rintro ⟨x, hx, d, hd, h1, h2⟩
    exact ⟨d, ⟨x, hx, hd, h2⟩, h1⟩
  · rintro ⟨d, ⟨x, hx, hd, h2⟩, h1⟩
    exact ⟨x, hx, d, hd, h1, h2⟩
def LeadsBR (B : Bool) (w : World) (e : Ending) (w' : World) : Prop := e = .returned (.bool B) ∧ Below w.heap.size w w'
set_option maxRecDepth 100000 in
set_option maxHeartbeats 8000000 in
theorem refLeads_any (u ua ub : Value) (l : List Rc) (a b : List Id) (w : World) (hx : Rw w 5 u (recs l)) (hl : ∀ x ∈ l, RcR w x) (ha : Rw w 2 ua (idl a)) (hb : Rw w 2 ub (idl b)) :
    Calls Tryz.prog 29 #[u, ua, ub] w (LeadsBR (leadsB (dpsR (l.map rp)) a b) w) := by
  obtain ⟨z, hz⟩ : ∃ z, Hid (z = (a.drop 0).any (fun x => (dpsR (l.map rp) x).any (refG a b))) := ⟨_, Lib.hid rfl⟩
  have hfin : ∀ (w' : World), Below w.heap.size w w' → LeadsBR (leadsB (dpsR (l.map rp)) a b) w (.returned (.bool z)) w' := fun w' hb => ⟨by rw [hz.out, List.drop_zero, ref_leads], hb⟩
  generalize LeadsBR (leadsB (dpsR (l.map rp)) a b) w = Q at *
  replace hfin := Lib.hid hfin
  obtain ⟨A, n, c, rfl, hl1, _⟩ := hx.form
  rw [recs_len] at hl1
  obtain rfl : n = l.length := by omega
  obtain ⟨aA, an, ac, rfl, ha1, _⟩ := ha.form
  rw [idl_len] at ha1
  obtain rfl : an = a.length := by omega
  obtain ⟨bA, bn, bc, rfl, _⟩ := hb.form
  clear ha1 hl1
  have hdn : Hid (∀ x, x ∉ rids l → dpsR (l.map rp) x = []) := Lib.hid (fun x hn => dpsR_none (by rw [pids_rp]; exact hn))
  have hdy : Hid (∀ (x : Id) (y : Rc), rp y = lookR (l.map rp) x → dpsR (l.map rp) x = y.2.2.2.2.1) := Lib.hid (fun x y hy => by unfold dpsR; rw [← hy])
  have hlk := Lib.hid (fun x => findAt_look x l 0)
  generalize dpsR (l.map rp) = nx at *
  have hst := Lib.hid (any_step (fun x => (nx x).any (refG a b)) a)
  replace hl := Lib.hid hl
  go_enter Tryz.func29, Tryz.ntmps29
  go_wp2_with fail
  go_loopw [7] (fun s7 wr => ∃ k : Nat, k ≤ a.length ∧ s7 = .int .i64 (k : Int) ∧ Below w.heap.size w wr ∧ Hid (z = (a.drop k).any (fun x => (nx x).any (refG a b)))) (fun s7 _ => a.length - (intOf s7).toNat)
  case atStart => exact ⟨0, by omega, by go_num, Below.refl _ _, hz⟩
  case round =>
    obtain ⟨k, hk, rfl, hbw, hrz⟩ := hrel
    by_cases hlt : k < a.length
    · obtain ⟨b1, off1, hA, hcr⟩ := (ha.below hbw).cells (by omega)
      cases hA
      have q0 := hcr _ _ (idl_fst a k hlt)
      have q1 := hcr _ _ (idl_snd a k hlt)
      rw [← Nat.add_assoc] at q1
      have ql := World.block_lt_of_cell? _ _ q0
      clear hcr
      have hs1 := hrz.out.trans (hst.out k hlt)
      have hk1 := Lib.hid (show k + 1 ≤ a.length by omega)
      generalize a[k] = x at *
      have hF := find_any (.slice A l.length c) l x wr (hx.below hbw)
      have hFp := findAt_pos x (rids l) 0 (by omega)
      have hFl := hlk.out x
      have hnn := hdn.out x
      have hny := hdy.out x
      generalize findAt x (rids l) 0 = F at *
      replace hF := Lib.hid hF
      replace hs1 := Lib.hid hs1
      obtain ⟨x0, x1⟩ := x
      simp only at q0 q1
      go_wp2_with fail
      refine hF.out.mono ?_
      rintro e w3 ⟨rfl, hb3⟩
      have hb4 := hbw.trans (hb3.mono hbw.size)
      clear q0 q1 ql hF hb3 hbw
      by_cases hin : (x0, x1) ∈ rids l
      · obtain ⟨j, hj, hFj, hLj, hLr⟩ := hFl hin
        obtain rfl : F = (j : Int) := by omega
        have hD := hny l[j] hLr
        obtain ⟨b2, off2, hA, hcr⟩ := hx.cells (by omega)
        cases hA
        have p3 := hcr _ _ (recs_get l j hj).2.2.2.1
        rw [← Nat.add_assoc] at p3
        have p3l := World.block_lt_of_cell? _ _ p3
        clear hcr
        have hyd := (hl.out l[j] (List.getElem_mem hj)).d
        generalize l[j] = y at *
        obtain ⟨d1, d2, d3, hdv, hd4, _⟩ := hyd.form
        obtain ⟨⟨y0, y1⟩, yq, yd, yb, yD, yB⟩ := y
        simp only at hdv p3 hyd hd4 hD
        subst hdv
        rw [hD] at hs1
        rw [idl_len] at hd4
        obtain rfl : d2 = yD.length := by omega
        have hj' : (j : Int) < (l.length : Int) := by omega
        have hj0 : ¬ (j : Int) < 0 := by omega
        have hin2 := Lib.hid (any_step (refG a b) yD)
        have hrz2 : Hid (z = ((yD.drop 0).any (refG a b) || (a.drop (k + 1)).any (fun x => (nx x).any (refG a b)))) := Lib.hid (by rw [List.drop_zero]; exact hs1.out)
        have hpc : ∀ w', Below w.heap.size w w' → w'.cell? ⟨b2, off2 + j * 5 + 3, none⟩ = some (.slice d1 yD.length d3) := fun w' hb' => (hb'.cell (p := ⟨b2, off2 + j * 5 + 3, none⟩) p3l).trans p3
        replace hpc := Lib.hid hpc
        replace hyd := Lib.hid hyd
        clear hFl hFp hFj hLj hLr hnn hny hD hs1 hin p3 p3l hd4 hrz
        go_wp2_with fail
        go_loopw [9] (fun s9 wr => ∃ m : Nat, m ≤ yD.length ∧ s9 = .int .i64 (m : Int) ∧ Below w.heap.size w wr ∧ Hid (z = ((yD.drop m).any (refG a b) || (a.drop (k + 1)).any (fun x => (nx x).any (refG a b))))) (fun s9 _ => yD.length - (intOf s9).toNat)
        case atStart => exact ⟨0, by omega, by go_num, hb4, hrz2⟩
        case round =>
          clear hrz2 hb4
          obtain ⟨m, hm, rfl, hbw, hrz⟩ := hrel
          have p3 := hpc.out wr hbw
          have p3l := World.block_lt_of_cell? _ _ p3
          by_cases hmt : m < yD.length
          · have hrr : ∀ w', Below w.heap.size w w' → ∃ b3 off3, d1 = some ⟨b3, off3, none⟩ ∧ w'.cell? ⟨b3, off3 + m * 2, none⟩ = some (.int .i64 yD[m].1) ∧ w'.cell? ⟨b3, off3 + m * 2 + 1, none⟩ = some (.int .i64 yD[m].2) := fun w' hb' => by
              obtain ⟨b3, off3, hA, hcr⟩ := (hyd.out.below hb').cells (by omega)
              have r1 := hcr _ _ (idl_snd yD m hmt)
              rw [← Nat.add_assoc] at r1
              exact ⟨b3, off3, hA, hcr _ _ (idl_fst yD m hmt), r1⟩
            obtain ⟨b3, off3, hA, r0, r1⟩ := hrr wr hbw
            cases hA
            have hrr2 : ∀ w', Below w.heap.size w w' → w'.cell? ⟨b3, off3 + m * 2, none⟩ = some (.int .i64 yD[m].1) ∧ w'.cell? ⟨b3, off3 + m * 2 + 1, none⟩ = some (.int .i64 yD[m].2) := fun w' hb' => by
              obtain ⟨_, _, hA, r0, r1⟩ := hrr w' hb'
              cases hA
              exact ⟨r0, r1⟩
            have hs2 := hin2.out m hmt
            have hm1 := Lib.hid (show m + 1 ≤ yD.length by omega)
            have hrz3 := hrz.out
            rw [hs2] at hrz3
            generalize yD[m] = d at *
            have hH1 := Lib.hid (hasIds_any (.slice bA bn bc) b d wr (hb.below hbw))
            replace hrr2 := Lib.hid hrr2
            replace hrz3 := Lib.hid hrz3
            obtain ⟨d0, d1'⟩ := d
            simp only at r0 r1
            clear hrr hs2
            go_wp2_with fail
            refine hH1.out.mono ?_
            rintro e w4 ⟨rfl, hb4⟩
            have hb5 := hbw.trans (hb4.mono hbw.size)
            have p3 := hpc.out w4 hb5
            have p3l := World.block_lt_of_cell? _ _ p3
            obtain ⟨r0, r1⟩ := hrr2.out w4 hb5
            try simp only at r0 r1
            clear hH1 hb4 hbw
            by_cases hdb : (d0, d1') ∈ b
            · rw [decide_eq_true hdb]
              have hH2 := Lib.hid (hasIds_any (.slice (some ⟨b1, off1, none⟩) a.length ac) a (d0, d1') w4 (ha.below hb5))
              go_wp2_with fail
              refine hH2.out.mono ?_
              rintro e w5 ⟨rfl, hb6⟩
              have hb7 := hb5.trans (hb6.mono hb5.size)
              clear hH2 hb6 hb5 p3 p3l r0 r1
              by_cases hda : (d0, d1') ∈ a
              · rw [decide_eq_true hda]
                have hrn : Hid (z = ((yD.drop (m + 1)).any (refG a b) || (a.drop (k + 1)).any (fun x => (nx x).any (refG a b)))) := Lib.hid (by rw [hrz3.out]; simp [refG, hda])
                clear hdb hda hrz3
                go_wp2_with fail
                go_roundw
                case rel => exact ⟨m + 1, hm1.out, by go_num, hb7, hrn⟩
                case measure => simp [intOf]; have := hm1.out; omega
              · rw [decide_eq_false hda]
                have hzt : z = true := by rw [hrz3.out]; simp [refG, hda, hdb]
                have hq := Lib.hid (hfin.out w5 hb7)
                rw [hzt] at hq
                clear hdb hda hrz3 hfin hz hrz hzt
                go_wp2_with fail
                exact hq.out
            · rw [decide_eq_false hdb]
              have hrn : Hid (z = ((yD.drop (m + 1)).any (refG a b) || (a.drop (k + 1)).any (fun x => (nx x).any (refG a b)))) := Lib.hid (by rw [hrz3.out]; simp [refG, hdb])
              clear hdb hrz3 p3 p3l r0 r1
              go_wp2_with fail
              go_roundw
              case rel => exact ⟨m + 1, hm1.out, by go_num, hb5, hrn⟩
              case measure => simp [intOf]; have := hm1.out; omega
          · obtain rfl : m = yD.length := by omega
            have hrn : Hid (z = (a.drop (k + 1)).any (fun x => (nx x).any (refG a b))) := Lib.hid (by rw [hrz.out, List.drop_length]; rfl)
            clear hrz
            go_wp2_with fail
            go_roundw
            case rel => exact ⟨k + 1, hk1.out, by go_num, hbw, hrn⟩
            case measure => simp [intOf]; have := hk1.out; omega
      · have hF0 : F < 0 := by
          rcases Int.lt_or_le F 0 with h | h
          · exact h
          · exact absurd (hFp.1 h) hin
        have hrn : Hid (z = (a.drop (k + 1)).any (fun x => (nx x).any (refG a b))) := Lib.hid (by rw [hs1.out, hnn hin]; rfl)
        clear hFl hFp hnn hny hs1 hin hrz
        go_wp2_with fail
        go_roundw
        case rel => exact ⟨k + 1, hk1.out, by go_num, hb4, hrn⟩
        case measure => simp [intOf]; have := hk1.out; omega
    · obtain rfl : k = a.length := by omega
      have hzt : z = false := by rw [hrz.out, List.drop_length]; rfl
      have hq := Lib.hid (hfin.out wr hbw)
      rw [hzt] at hq
      clear hfin hz hrz hzt
      go_wp2_with fail
      exact hq.out
end Go.Proofs.YtcbckeoalmjcoaaGreat

/- Law 16: works. -/
set_option linter.unusedVariables false
set_option linter.unusedSimpArgs false
namespace Go.Proofs.YtcbckeoalmjcoaaGreat
open Go.RowKit Go.Cw Go.Fl
attribute [local go_sem ↓] eql_id neq_id
theorem recOf_gr {p : Nat} {L : List Rc} {H : Hp} (hg : GrOk H L) : RecOf (grP p) (GrA p L) (dpsR (L.map rp)) H := fun x H' fr w hl h => (grRecord_any p L x H' fr w h (hg.mono hl)).mono (by
  rintro e w' ⟨H2, y, l2, h2, en, he, hy, hr⟩
  exact ⟨H2, y, _, l2, h2, en, he, hy, by unfold dpsR; rw [← hr]⟩)
theorem dps16 {L : List Rc} {H : Hp} (hg : GrOk H L) (a : Id) : (dpsR (L.map rp) a).length ≤ 16 := (lookR_len hg a).1
theorem allU_bound {L : List Rc} {H : Hp} (hg : GrOk H L) (hL : L.length ≤ 1000) (f : List Id) (hf : f.length ≤ 1000) : (allU (L.map rp) f).length ≤ 100000 := by
  have := allU_len (L.map rp) f (fun x hx => by obtain ⟨y, hy, rfl⟩ := List.mem_map.1 hx; exact (hg.b y hy).1)
  rw [List.length_map] at this
  omega
def l16 : List Rp := [((0, 1), 1, [(0, 2)], []), ((0, 2), 1, [], []), ((0, 3), 1, [(0, 9)], [])]
theorem rch16a {a : Id} (h : Rch (dpsR l16) [(0, 1)] a) : a = (0, 1) ∨ a = (0, 2) := by
  refine h.closed (P := fun a => a = (0, 1) ∨ a = (0, 2)) (by simp) ?_
  rintro x (rfl | rfl) b hb
  · have : dpsR l16 (0, 1) = [(0, 2)] := by decide
    rw [this] at hb
    simp at hb
    exact .inr hb
  · have : dpsR l16 (0, 2) = [] := by decide
    rw [this] at hb
    cases hb
theorem rch16b {a : Id} (h : Rch (dpsR l16) [(0, 2)] a) : a = (0, 2) := by
  refine h.closed (P := fun a => a = (0, 2)) (by simp) ?_
  rintro x rfl b hb
  have : dpsR l16 (0, 2) = [] := by decide
  rw [this] at hb
  cases hb
theorem path16 : Rch (dpsR l16) [(0, 1)] (0, 2) := .step (.base (List.mem_singleton.2 rfl)) (by decide)
theorem clo16 (a : Id) : (a ∈ pids l16 ∧ Clo l16 a) ↔ (a = (0, 1) ∨ a = (0, 2)) := by
  constructor
  · rintro ⟨h1, h2⟩
    simp only [pids, l16, List.map_cons, List.map_nil, List.mem_cons, List.not_mem_nil, or_false] at h1
    rcases h1 with h1 | h1 | h1
    · exact .inl h1
    · exact .inr h1
    · subst h1
      have := h2 (0, 9) (.step (.base (List.mem_singleton.2 rfl)) (by decide))
      revert this
      decide
  · rintro (rfl | rfl)
    · refine ⟨by decide, fun b hb => ?_⟩
      rcases rch16a hb with rfl | rfl <;> decide
    · refine ⟨by decide, fun b hb => ?_⟩
      rw [rch16b hb]; decide
theorem closed16 {L : List Rc} (hm : L.map rp = l16) (hn : (rids L).Nodup) {C : List Id} (hr : Rises C) (h : ∀ a, a ∈ C ↔ (a ∈ rids L ∧ ¬ Opn L a)) : C = [(0, 1), (0, 2)] :=
  rises_eq hr (by unfold Rises; decide) (fun a => by
    rw [h]
    have e : (a ∈ rids L ∧ ¬ Opn L a) ↔ (a ∈ pids l16 ∧ Clo l16 a) := by
      rw [← hm, pids_rp]
      constructor
      · rintro ⟨h1, h2⟩
        refine ⟨h1, ?_⟩
        apply Classical.byContradiction
        intro h3
        exact h2 ((opn_iff hn h1).2 h3)
      · rintro ⟨h1, h2⟩
        exact ⟨h1, fun h3 => (opn_iff hn h1).1 h3 h2⟩
    rw [e, clo16]
    simp)
end Go.Proofs.YtcbckeoalmjcoaaGreat

/- comps.Mutual. -/
set_option linter.unusedVariables false
set_option linter.unusedSimpArgs false
namespace Go.Proofs.YtcbckeoalmjcoaaGreat
open Go.RowKit Go.Cw Go.Fl
attribute [local go_sem ↓] eql_id neq_id
open Classical in
set_option maxRecDepth 100000 in
set_option maxHeartbeats 8000000 in
theorem mutual_any (p : Nat) (L : List Rc) (a b : Id) (H : Hp) (fr : List HA) (w : World) (h : St H (GrA p L :: fr) w) (hg : GrOk H L) (hL : L.length ≤ 1000) :
    Calls Tryz.prog 18 #[grP p, idV a, idV b] w (AskR (decide (a ∈ rids L ∧ b ∈ rids L ∧ muD (L.map rp) a b)) (GrA p L) H fr w) := by
  obtain ⟨z, hz⟩ : ∃ z, Hid (z = decide (a ∈ rids L ∧ b ∈ rids L ∧ muD (L.map rp) a b)) := ⟨_, Lib.hid rfl⟩
  rw [← hz.out]
  have hfin : ∀ (H' : Hp) (w' : World), Hp.le H H' → St H' (GrA p L :: fr) w' → Env w w' → AskR z (GrA p L) H fr w (.returned (.bool z)) w' := fun H' w' h1 h2 h3 => ⟨H', rfl, h1, h2, h3⟩
  generalize AskR z (GrA p L) H fr w = Q at *
  replace hfin := Lib.hid hfin
  obtain ⟨a0, a1⟩ := a
  obtain ⟨b0, b1⟩ := b
  obtain ⟨H1, l1, h1, y1⟩ := h.box #[.int .i64 a0, .int .i64 a1] 41
  obtain ⟨H2, l2, h2, y2⟩ := h1.box #[.int .i64 b0, .int .i64 b1] 41
  have e1 : (w.alloc (.cells #[.int .i64 a0, .int .i64 a1] 41)).heap.size = w.heap.size + 1 := by simp
  rw [e1] at y2
  have ya0 : H2.cell w.heap.size 0 = some (.int .i64 a0) := Hp.cell_le l2 (y1 0 _ rfl)
  have ya1 : H2.cell w.heap.size 1 = some (.int .i64 a1) := Hp.cell_le l2 (y1 1 _ rfl)
  have yb0 : H2.cell (w.heap.size + 1) 0 = some (.int .i64 b0) := y2 0 _ rfl
  have yb1 : H2.cell (w.heap.size + 1) 1 = some (.int .i64 b1) := y2 1 _ rfl
  have en2 := ((Env.refl w).alloc (.cells #[.int .i64 a0, .int .i64 a1] 41)).alloc (.cells #[.int .i64 b0, .int .i64 b1] 41)
  have l12 := Hp.le_trans l1 l2
  have hHa := fun (w' : World) (a : Id) (h' : St H2 (GrA p L :: fr) w') => grHas_any p L a H2 fr w' (hg.mono l12).d h'
  have hP := fun (a b : Id) (Hc : Hp) (w' : World) (hl : Hp.le H2 Hc) (h' : St Hc (GrA p L :: fr) w') => path_any (some ⟨p, 0, none⟩) (GrA p L) (dpsR (L.map rp)) a b (allU (L.map rp) [a]) Hc fr w' h' (fun x hx => rch_allU hx) (allU_bound hg (by omega) _ (by simp)) (dps16 hg) (recOf_gr (hg.mono (Hp.le_trans l12 hl)))
  have kk : ∀ (H' : Hp) (l' : List HA) (w' : World), Hp.le H2 H' → St H' l' w' → w'.cell? ⟨w.heap.size, 0, none⟩ = some (.int .i64 a0) ∧ w'.cell? ⟨w.heap.size, 1, none⟩ = some (.int .i64 a1) ∧ w'.cell? ⟨w.heap.size + 1, 0, none⟩ = some (.int .i64 b0) ∧ w'.cell? ⟨w.heap.size + 1, 1, none⟩ = some (.int .i64 b1) ∧ w.heap.size < w'.heap.size ∧ w.heap.size + 1 < w'.heap.size := fun H' l' w' hl h' => ⟨h'.cell (Hp.cell_le hl ya0), h'.cell (Hp.cell_le hl ya1), h'.cell (Hp.cell_le hl yb0), h'.cell (Hp.cell_le hl yb1), World.block_lt_of_cell? _ _ (h'.cell (Hp.cell_le hl ya0)), World.block_lt_of_cell? _ _ (h'.cell (Hp.cell_le hl yb0))⟩
  obtain ⟨c0, c1, c2, c3, c4, c5⟩ := kk _ _ _ (Hp.le_refl _) h2
  have hHa1 := Lib.hid (hHa _ (a0, a1) h2)
  replace hHa := Lib.hid hHa
  replace hP := Lib.hid hP
  replace kk := Lib.hid kk
  clear y1 y2 h1 h ya0 ya1 yb0 yb1
  go_enter Tryz.func18, Tryz.ntmps18
  go_wp2_with fail
  generalize (w.alloc (.cells #[.int .i64 a0, .int .i64 a1] 41)).alloc (.cells #[.int .i64 b0, .int .i64 b1] 41) = W at *
  generalize w.heap.size = ga at *
  refine hHa1.out.mono ?_
  rintro e w3 ⟨rfl, hb3⟩
  have h3 := h2.below hb3
  have en3 := en2.trans (bel_env hb3)
  obtain ⟨d0, d1, d2, d3, d4, d5⟩ := kk.out _ _ _ (Hp.le_refl _) h3
  clear c0 c1 c2 c3 c4 c5 hHa1 h2 en2 hb3
  by_cases ha : (a0, a1) ∈ rids L
  · rw [decide_eq_true ha]
    have hHb := Lib.hid (hHa.out _ (b0, b1) h3)
    go_wp2_with fail
    refine hHb.out.mono ?_
    rintro e w4 ⟨rfl, hb4⟩
    have h4 := h3.below hb4
    have en4 := en3.trans (bel_env hb4)
    obtain ⟨c0, c1, c2, c3, c4, c5⟩ := kk.out _ _ _ (Hp.le_refl _) h4
    clear d0 d1 d2 d3 d4 d5 hHb h3 en3 hb4
    by_cases hb : (b0, b1) ∈ rids L
    · rw [decide_eq_true hb]
      have hP1 := Lib.hid (hP.out (a0, a1) (b0, b1) H2 _ (Hp.le_refl _) h4)
      go_wp2_with fail
      refine hP1.out.mono ?_
      rintro e w5 ⟨H5, rfl, l5, h5, en5⟩
      replace en5 := en4.trans en5
      obtain ⟨d0, d1, d2, d3, d4, d5⟩ := kk.out _ _ _ l5 h5
      clear c0 c1 c2 c3 c4 c5 hP1 h4 en4
      by_cases h1 : Rch (dpsR (L.map rp)) [(a0, a1)] (b0, b1)
      · rw [decide_eq_true h1]
        have hP2 := Lib.hid (hP.out (b0, b1) (a0, a1) H5 _ l5 h5)
        go_wp2_with fail
        refine hP2.out.mono ?_
        rintro e w6 ⟨H6, rfl, l6, h6, en6⟩
        replace en6 := en5.trans en6
        have hzz : z = decide (Rch (dpsR (L.map rp)) [(b0, b1)] (a0, a1)) := by
          rw [hz.out]
          by_cases h2 : Rch (dpsR (L.map rp)) [(b0, b1)] (a0, a1)
          · rw [decide_eq_true h2, decide_eq_true ⟨ha, hb, h1, h2⟩]
          · rw [decide_eq_false h2, decide_eq_false (fun h => h2 h.2.2.2)]
        rw [← hzz]
        have hq := Lib.hid (hfin.out H6 _ (Hp.le_trans l12 (Hp.le_trans l5 l6)) h6 en6)
        clear hfin d0 d1 d2 d3 d4 d5 hP2 hz ha hb h1 hzz
        go_wp2_with fail
        exact hq.out
      · have hzz : z = false := by rw [hz.out, decide_eq_false (fun h => h1 h.2.2.1)]
        rw [decide_eq_false h1]
        have hq := Lib.hid (hfin.out H5 _ (Hp.le_trans l12 l5) h5 en5)
        rw [hzz] at hq
        clear hfin hz ha hb h1 d0 d1 d2 d3 d4 d5
        go_wp2_with fail
        exact hq.out
    · have hzz : z = false := by rw [hz.out, decide_eq_false (fun h => hb h.2.1)]
      rw [decide_eq_false hb]
      have hq := Lib.hid (hfin.out H2 _ l12 h4 en4)
      rw [hzz] at hq
      clear hfin hz ha hb c0 c1 c2 c3 c4 c5
      go_wp2_with fail
      exact hq.out
  · have hzz : z = false := by rw [hz.out, decide_eq_false (fun h => ha h.1)]
    rw [decide_eq_false ha]
    have hq := Lib.hid (hfin.out H2 _ l12 h3 en3)
    rw [hzz] at hq
    clear hfin hz ha d0 d1 d2 d3 d4 d5
    go_wp2_with fail
    exact hq.out
end Go.Proofs.YtcbckeoalmjcoaaGreat
