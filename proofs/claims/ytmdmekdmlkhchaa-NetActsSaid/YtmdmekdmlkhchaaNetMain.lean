/- The law NetActs: walked. -/
import Derived.Test.YtmdmekdmlkhchaaNetLaw
import Derived.Deep.CutBlock
set_option linter.unusedVariables false
set_option linter.unusedSimpArgs false
namespace Go.Proofs.Ytmdmekdmlkhchaa
open Go.RowKit Go.Cw
theorem _root_.Go.Cw.St.blkAt {H : Hp} {l : List HA} {w : World} (h : St H l w) (cs : Array Value) (t : TypeId) (g : Nat) (hg : g = w.heap.size) : St H (Blk g cs t :: l) (w.alloc (.cells cs t)) := by subst hg; exact h.blk cs t
abbrev NAct := Int × Int × Int × Int × Value × List Int
def nac (x : NAct) : List Value := [.int .i64 x.1, .int .i64 x.2.1, .int .i64 x.2.2.1, .int .i64 x.2.2.2.1, x.2.2.2.2.1]
def nacs (l : List NAct) : List Value := l.flatMap nac
theorem nacs_len (l : List NAct) : (nacs l).length = l.length * 5 := flat_len nac 5 (fun _ => rfl) l
theorem nacs_get (l : List NAct) (k : Nat) (h : k < l.length) : (nacs l)[k * 5]? = some (.int .i64 l[k].1) ∧ (nacs l)[k * 5 + 1]? = some (.int .i64 l[k].2.1) ∧ (nacs l)[k * 5 + 2]? = some (.int .i64 l[k].2.2.1) ∧ (nacs l)[k * 5 + 3]? = some (.int .i64 l[k].2.2.2.1) ∧ (nacs l)[k * 5 + 4]? = some l[k].2.2.2.2.1 := by
  have := fun i hi => flat_get nac 5 (fun _ => rfl) l k i h hi
  exact ⟨this 0 (by omega), this 1 (by omega), this 2 (by omega), this 3 (by omega), this 4 (by omega)⟩
def absM (l : List Msg) : List (Int × Int × List Int) := l.map (fun m => (m.1, m.2.1, m.2.2.2))
theorem absM_len {l m : List Msg} (h : absM l = absM m) : l.length = m.length := by simpa [absM] using congrArg List.length h
theorem absM_get {l m : List Msg} (h : absM l = absM m) (i : Nat) (h1 : i < l.length) (h2 : i < m.length) : l[i].1 = m[i].1 ∧ l[i].2.1 = m[i].2.1 ∧ l[i].2.2.2 = m[i].2.2.2 := by
  have := congrArg (fun x => x[i]?) h
  simp only [absM, List.getElem?_map, List.getElem?_eq_getElem h1, List.getElem?_eq_getElem h2, Option.map_some, Option.some.injEq, Prod.mk.injEq] at this
  exact ⟨this.1, this.2.1, this.2.2⟩
theorem absM_tos {l m : List Msg} (h : absM l = absM m) : l.map (·.2.1) = m.map (·.2.1) := by
  have := congrArg (List.map (fun x => x.2.1)) h
  simpa [absM, List.map_map, Function.comp_def] using this
def repBad (f t : Int) : Bool := !(repB f && repB t && decide (f ≠ t))
def bad1 (room : Int) (n : Nat) : Int := if room ≤ (n : Int) then 13 else 0
def bad2 (room : Int) (n len : Nat) : Int := if (4096 : Int) < (len : Int) then 18 else bad1 room n
def bad3 (room : Int) (n len : Nat) (f t : Int) : Int := if repBad f t then 7 else bad2 room n len
def thereB (n : Int) (len : Nat) : Bool := decide (0 ≤ n) && decide (n < (len : Int))
theorem repBad_no {f t : Int} (h : repBad f t = false) : repB f = true ∧ repB t = true ∧ f ≠ t := by
  unfold repBad at h
  simp only [Bool.not_eq_false', Bool.and_eq_true, decide_eq_true_eq] at h
  exact ⟨h.1.1, h.1.2, h.2⟩
theorem repBad_yes {f t : Int} (h : repBad f t = true) : ¬ (repB f = true ∧ repB t = true ∧ f ≠ t) := by
  rintro ⟨h1, h2, h3⟩
  unfold repBad at h
  rw [h1, h2, decide_eq_true h3] at h
  simp at h
theorem netSend_bad (p : Nat) (room : Int) (l : List Msg) (f t : Int) (A' : Option Addr) (n c' : Nat) (hbad : bad3 room l.length n f t ≠ 0) (H : Hp) (fr : List HA) (w : World) (h : St H (NetA p room l :: fr) w) :
    Calls Try.prog 33 #[netP p, .agg #[.int .i64 f, .int .i64 t, .slice A' n c']] w fun e w' => e = .returned (.int .i64 (bad3 room l.length n f t)) ∧ Below w.heap.size w w' := by
  unfold bad3 bad2 bad1 at *
  cases hr : repBad f t with
  | true =>
    rw [if_pos rfl]
    exact netSend_rep p f t _ (repBad_yes hr) w
  | false =>
    obtain ⟨h1, h2, h3⟩ := repBad_no hr
    rw [hr] at hbad
    rw [if_neg (by simp)]
    rw [if_neg (by simp)] at hbad
    by_cases hl : (4096 : Int) < (n : Int)
    · rw [if_pos hl]
      exact netSend_long p f t A' n c' h1 h2 h3 hl w
    · rw [if_neg hl] at hbad ⊢
      by_cases hf : room ≤ (l.length : Int)
      · rw [if_pos hf]
        exact netSend_full p room l f t A' n c' h1 h2 h3 hl hf H fr w h
      · rw [if_neg hf] at hbad
        exact absurd rfl hbad
theorem bad3_ok {room : Int} {n len : Nat} {f t : Int} (h : bad3 room n len f t = 0) : repB f = true ∧ repB t = true ∧ f ≠ t ∧ ¬ (4096 : Int) < (len : Int) ∧ ¬ room ≤ (n : Int) := by
  unfold bad3 bad2 bad1 at h
  cases hr : repBad f t with
  | true => rw [hr, if_pos rfl] at h; simp at h
  | false =>
    obtain ⟨h1, h2, h3⟩ := repBad_no hr
    rw [hr, if_neg (by simp)] at h
    by_cases hl : (4096 : Int) < (len : Int)
    · rw [if_pos hl] at h; simp at h
    · rw [if_neg hl] at h
      by_cases hf : room ≤ (n : Int)
      · rw [if_pos hf] at h; simp at h
      · exact ⟨h1, h2, h3, hl, hf⟩
/-- What a net and what it must have hold of. -/
structure NI (H : Hp) (lN lW : List Msg) (k : Nat) : Prop where
  gN : MGood H lN
  gW : MGood H lW
  abs : absM lN = absM lW
  len : lN.length ≤ k
theorem NI.mono {H H' : Hp} {lN lW : List Msg} {k k' : Nat} (h : NI H lN lW k) (hl : Hp.le H H') (hk : k ≤ k') : NI H' lN lW k' := ⟨h.gN.mono hl, h.gW.mono hl, h.abs, Nat.le_trans h.len hk⟩
set_option maxRecDepth 100000 in
set_option maxHeartbeats 60000000 in
theorem netActs_main (room : Int) (v : Value) (acts : List NAct) (w : World) (hv : Rw w 5 v (nacs acts)) (hB : ∀ a ∈ acts, Rw w 1 a.2.2.2.2.1 (u8s a.2.2.2.2.2)) (hS : ∀ a ∈ acts, a.2.2.2.2.2.length ≤ 140737488355328) (lb : acts.length ≤ 60) (hroom1 : 1 ≤ room) (hroom2 : room ≤ 4096) :
    Calls Try.prog 5 #[.int .i64 room, v] w fun e w' => e = .returned (.bool true) ∧ Below w.heap.size w w' := by
  obtain ⟨A', n', c', rfl, hl', hn', hc'⟩ := hv.form
  rw [nacs_len] at hl'
  obtain rfl : n' = acts.length := by omega
  clear hl'
  have hb := hv.rd
  have hr1 : ¬ room < 1 := by omega
  have hr2 : ¬ 4096 < room := by omega
  go_enter Try.func5, Try.ntmps5
  go_wp2_with fail
  refine (netNew_ok room (by omega) (by omega) w).mono ?_
  rintro e w2 ⟨p, rfl, h2, en2⟩
  have h3 := h2.row_lit 59 3 0 #[] rfl (by decide)
  have en3 := en2.alloc (.cells #[] 59)
  go_wp2_with fail
  go_loopw [11, 12] (fun s11 s12 wr => ∃ (k : Nat) (H : Hp) (lN lW : List Msg), k ≤ acts.length ∧ s12 = .int .i64 (k : Int) ∧ Hp.le (snap w) H ∧ St H [Row 59 3 s11 (mscs lW), NetA p room lN] wr ∧ Env w wr ∧ Hid (NI H lN lW k)) (fun _ s12 _ => acts.length - (intOf s12).toNat)
  case atStart => exact ⟨0, snap w, [], [], Nat.zero_le _, rfl, Hp.le_refl _, h3, en3, Lib.hid ⟨fun m hm => by simp at hm, fun m hm => by simp at hm, rfl, Nat.le_refl _⟩⟩
  case round =>
    clear h2 h3 en2 en3
    obtain ⟨k, H, lN, lW, hk, rfl, hle, hst, hen, HI⟩ := hrel
    have hNk := HI.out.len
    have hlen := absM_len HI.out.abs
    obtain ⟨WA, wn, wcp, rfl, hwf, hwn, hwm⟩ := hst.row_form
    rw [mscs_len] at hwf
    obtain rfl : wn = lW.length := by omega
    have hwc : wcp ≤ 9223372036854775807 := by simpa [maxLen] using hwm
    clear hwf hwm
    by_cases hlt : k < acts.length
    · obtain ⟨⟨kd, n, f, t, bv, xs⟩, HX⟩ : ∃ x, Hid (x = acts[k]) := ⟨_, Lib.hid rfl⟩
      have hbx0 := hB _ (List.getElem_mem hlt)
      rw [← HX.out] at hbx0
      have hbx := hbx0.rd.mono hle
      simp only at hbx
      clear hbx0
      have hxl0 := hS _ (List.getElem_mem hlt)
      rw [← HX.out] at hxl0
      have hxl := Lib.hid hxl0
      clear hxl0
      obtain ⟨bA, bn, bc, rfl, hbl, hbn, hbc⟩ := hbx.form
      rw [u8s_len, Nat.mul_one] at hbl
      have hbc' : bc ≤ 9223372036854775807 := by simpa [maxLen] using hbc
      obtain ⟨qb, qoff, qA, qc⟩ := ((hb.mono hle).rw hst).cells (by omega)
      cases qA
      have q0 := qc _ _ (nacs_get acts k hlt).1
      have q1 := qc _ _ (nacs_get acts k hlt).2.1
      have q2 := qc _ _ (nacs_get acts k hlt).2.2.1
      have q3 := qc _ _ (nacs_get acts k hlt).2.2.2.1
      have q4 := qc _ _ (nacs_get acts k hlt).2.2.2.2
      rw [← Nat.add_assoc] at q1 q2 q3 q4
      rw [← HX.out] at q0 q1 q2 q3 q4
      simp only at q0 q1 q2 q3 q4
      have ql := World.block_lt_of_cell? _ _ q0
      clear qc
      obtain ⟨H1, l1, h6, hy⟩ := hst.box #[.int .i64 kd, .int .i64 n, .int .i64 f, .int .i64 t, .slice bA bn bc] 68
      have y0 := hy 0 _ rfl
      have y1 := hy 1 _ rfl
      have y2 := hy 2 _ rfl
      have y3 := hy 3 _ rfl
      have y4 := hy 4 _ rfl
      have en6 := hen.alloc (.cells #[.int .i64 kd, .int .i64 n, .int .i64 f, .int .i64 t, .slice bA bn bc] 68)
      have hbx1 := hbx.mono l1
      have hle1 := Hp.le_trans hle l1
      have HI1 := Lib.hid (HI.out.mono l1 (Nat.le_refl _))
      clear hy
      go_upto_region 13 with (fail)
      generalize wr.alloc (.cells #[.int .i64 kd, .int .i64 n, .int .i64 f, .int .i64 t, .slice bA bn bc] 68) = W6 at *
      generalize wr.heap.size = gx at *
      clear q0 q1 q2 q3 q4 ql hst hen
      have x0 := h6.cell y0
      have x1 := h6.cell y1
      have xl := World.block_lt_of_cell? _ _ x0
      go_cut [14] from 106 to 106 (fun s14 wx => s14 = .bool (thereB n lW.length) ∧ wx = W6)
      case first =>
        by_cases h0 : 0 ≤ n
        · have hd : Hid (decide (n < (lW.length : Int)) = thereB n lW.length) := Lib.hid (by unfold thereB; rw [decide_eq_true h0]; rfl)
          go_wp2_with fail
          go_meet
          exact ⟨congrArg Value.bool hd.out, rfl⟩
        · have hd : Hid (false = thereB n lW.length) := Lib.hid (by unfold thereB; rw [decide_eq_false h0]; rfl)
          go_wp2_with fail
          go_meet
          exact ⟨congrArg Value.bool hd.out, rfl⟩
      case rest =>
        obtain ⟨rfl, rfl⟩ := hcut
        go_upto_block 2 with fail
        go_cut [11, 14] from 118 to 118 (fun s11 s14 wx => s14 = .bool (thereB n lW.length) ∧ ∃ (H' : Hp) (lN' lW' : List Msg), Hp.le H1 H' ∧ St H' [Row 59 3 s11 (mscs lW'), NetA p room lN'] wx ∧ Env w wx ∧ Hid (NI H' lN' lW' (k + 1)))
        case first =>
          by_cases hk0 : kd = 0
          · subst hk0
            as_aux_lemma =>
                have x2 := h6.cell y2
                have x3 := h6.cell y3
                have x4 := h6.cell y4
                obtain ⟨H2, l2, h7, yy⟩ := h6.box #[.int .i64 f, .int .i64 t, .slice bA bn bc] 59
                have v0 := yy 0 _ rfl
                have v1 := yy 1 _ rfl
                have v2 := yy 2 _ rfl
                have en7 := en6.alloc (.cells #[.int .i64 f, .int .i64 t, .slice bA bn bc] 59)
                have hbx2 := hbx1.mono l2
                go_upto_if 125 with (fail)
                generalize wc.heap.size = gm at *
                clear yy x0 x1 x2 x3 x4 xl h6 en6
                go_cut [15] from 122 to 125 (fun s15 wx => s15 = .int .i64 (bad1 room lW.length) ∧ St H2 [Row 59 3 (.slice WA lW.length wcp) (mscs lW), NetA p room lN] wx ∧ Env w wx)
                case first =>
                  by_cases hf : room ≤ (lW.length : Int)
                  · have hN : Hid ((13 : Int) = bad1 room lW.length) := Lib.hid (by unfold bad1; rw [if_pos hf])
                    go_wp2_with fail
                    go_meet
                    exact ⟨congrArg (Value.int .i64) hN.out, h7, en7⟩
                  · have hN : Hid ((0 : Int) = bad1 room lW.length) := Lib.hid (by unfold bad1; rw [if_neg hf])
                    go_wp2_with fail
                    go_meet
                    exact ⟨congrArg (Value.int .i64) hN.out, h7, en7⟩
                case rest =>
                  clear h7 en7
                  obtain ⟨rfl, h7, en7⟩ := hcut
                  have x0 := h7.cell v0
                  have x1 := h7.cell v1
                  have x2 := h7.cell v2
                  have xl := World.block_lt_of_cell? _ _ x0
                  go_upto_if 129 with (fail)
                  go_cut [15] from 126 to 129 (fun s15 wx => s15 = .int .i64 (bad2 room lW.length bn) ∧ St H2 [Row 59 3 (.slice WA lW.length wcp) (mscs lW), NetA p room lN] wx ∧ Env w wx)
                  case first =>
                    by_cases hl : (4096 : Int) < (bn : Int)
                    · have hN : Hid ((18 : Int) = bad2 room lW.length bn) := Lib.hid (by unfold bad2; rw [if_pos hl])
                      go_wp2_with fail
                      go_meet
                      exact ⟨congrArg (Value.int .i64) hN.out, h7, en7⟩
                    · have hN : Hid (bad1 room lW.length = bad2 room lW.length bn) := Lib.hid (by unfold bad2; rw [if_neg hl])
                      go_wp2_with fail
                      go_meet
                      exact ⟨congrArg (Value.int .i64) hN.out, h7, en7⟩
                  case rest =>
                    clear h7 en7 x0 x1 x2 xl
                    obtain ⟨rfl, h7, en7⟩ := hcut
                    have x0 := h7.cell v0
                    have x1 := h7.cell v1
                    have x2 := h7.cell v2
                    have xl := World.block_lt_of_cell? _ _ x0
                    go_upto_region 22 with (fail)
                    go_cut [154] from 130 to 130 (fun s154 wx => s154 = .bool (repBad f t) ∧ St H2 [Row 59 3 (.slice WA lW.length wcp) (mscs lW), NetA p room lN] wx ∧ Env w wx)
                    case first =>
                      have hRT : ∀ b : Bool, repBad f t = b → Hid (b = repBad f t) := fun b h => Lib.hid h.symm
                      by_cases f0 : f < 0
                      · have hN := hRT true (by unfold repBad repB; simp; omega)
                        clear hRT
                        go_wp2_with fail
                        go_meet
                        exact ⟨congrArg Value.bool hN.out, h7, en7⟩
                      · by_cases f7 : 7 < f
                        · have hN := hRT true (by unfold repBad repB; simp; omega)
                          clear hRT
                          go_wp2_with fail
                          go_meet
                          exact ⟨congrArg Value.bool hN.out, h7, en7⟩
                        · by_cases t0 : t < 0
                          · have hN := hRT true (by unfold repBad repB; simp; omega)
                            clear hRT
                            go_wp2_with fail
                            go_meet
                            exact ⟨congrArg Value.bool hN.out, h7, en7⟩
                          · by_cases t7 : 7 < t
                            · have hN := hRT true (by unfold repBad repB; simp; omega)
                              clear hRT
                              go_wp2_with fail
                              go_meet
                              exact ⟨congrArg Value.bool hN.out, h7, en7⟩
                            · by_cases hft : f = t
                              · have hb2 : (f == t) = true := beq_iff_eq.2 hft
                                have hN := hRT true (by unfold repBad repB; simp; omega)
                                clear hRT hft
                                go_wp2_with fail
                                go_meet
                                exact ⟨congrArg Value.bool hN.out, h7, en7⟩
                              · have hb2 : (f == t) = false := beq_eq_false_iff_ne.2 hft
                                have hN := hRT false (by unfold repBad repB; simp; omega)
                                clear hRT hft
                                go_wp2_with fail
                                go_meet
                                exact ⟨congrArg Value.bool hN.out, h7, en7⟩
                    case rest =>
                      clear h7 en7 x0 x1 x2 xl
                      obtain ⟨rfl, h7, en7⟩ := hcut
                      go_upto_if 154 with (fail)
                      go_cut [15] from 154 to 154 (fun s15 wx => s15 = .int .i64 (bad3 room lW.length bn f t) ∧ St H2 [Row 59 3 (.slice WA lW.length wcp) (mscs lW), NetA p room lN] wx ∧ Env w wx)
                      case first =>
                        cases hr : repBad f t with
                        | true =>
                          have hN : Hid ((7 : Int) = bad3 room lW.length bn f t) := Lib.hid (by unfold bad3; rw [if_pos hr])
                          go_wp2_with fail
                          go_meet
                          exact ⟨congrArg (Value.int .i64) hN.out, h7, en7⟩
                        | false =>
                          have hN : Hid (bad2 room lW.length bn = bad3 room lW.length bn f t) := Lib.hid (by unfold bad3; rw [hr]; rfl)
                          go_wp2_with fail
                          go_meet
                          exact ⟨congrArg (Value.int .i64) hN.out, h7, en7⟩
                      case rest =>
                        clear h7 en7
                        obtain ⟨rfl, h7, en7⟩ := hcut
                        have x0 := h7.cell v0
                        have x1 := h7.cell v1
                        have x2 := h7.cell v2
                        have xl := World.block_lt_of_cell? _ _ x0
                        go_upto_region 24 with (fail)
                        go_cut [17] from 155 to 155 (fun s17 wx => ∃ (g : Nat) (vA : Option Addr) (vc : Nat), s17 = .pointer (some ⟨g, 0, none⟩) ∧ St H2 [Blk g #[.int .i64 f, .int .i64 t, .slice vA xs.length vc] 59, Row 5 1 (.slice vA xs.length vc) (u8s xs), Row 59 3 (.slice WA lW.length wcp) (mscs lW), NetA p room lN] wx ∧ Env w wx ∧ vc ≤ 9223372036854775807 ∧ xs.length ≤ vc)
                        case first =>
                          have kk : ∀ (l : List HA) (w' : World), St H2 l w' → w'.cell? ⟨gm, 0, none⟩ = some (.int .i64 f) ∧ w'.cell? ⟨gm, 1, none⟩ = some (.int .i64 t) ∧ w'.cell? ⟨gm, 2, none⟩ = some (.slice bA bn bc) := fun l w' h => ⟨h.cell v0, h.cell v1, h.cell v2⟩
                          have hd := h7.drew
                          have app : ∀ {l : List HA} {w' : World} {g' : Nat}, St H2 (Row 5 1 (.slice (some ⟨g', 0, none⟩) 0 0) [] :: l) w' → ∃ vA vc w5, (Builtin.append_ #[57, 57] 57 #[.slice (some ⟨g', 0, none⟩) 0 0, .slice bA bn bc]).run Try.prog w' = .ok (.slice vA xs.length vc) w5 ∧ St H2 (Row 5 1 (.slice vA xs.length vc) (u8s xs) :: l) w5 ∧ Env w' w5 ∧ vc ≤ 9223372036854775807 ∧ xs.length ≤ vc := fun {l w' g'} h => by
                            obtain ⟨v', w5, r, h5, e5⟩ := h.append_run 57 57 57 (.int .u8 0) 1 Try.underlying57 (.inl ⟨_, Try.underlying57⟩) info_u8 rfl (by decide) (News.rw (hbx2.rw h) (u8s_one xs)) (by have := hxl.out; simp only at this; simp [u8s_len]; omega) (by decide)
                            obtain ⟨vA, vn, vc, rfl, hvl, hvn, hvm⟩ := h5.row_form
                            rw [List.nil_append, u8s_len, Nat.mul_one] at hvl
                            subst hvl
                            exact ⟨vA, vc, w5, r, by simpa using h5, e5, by simpa [maxLen] using hvm, hvn⟩
                          obtain ⟨aA, ac, wa, ra, ha, ea, ha1, ha2⟩ := app (hd.row_lit 5 1 0 #[] rfl (by decide))
                          obtain ⟨bA', bc', wb, rb1, hb', eb, hb1, hb2⟩ := app ((hd.blk #[.int .i64 0, .int .i64 0, .slice none 0 0] 59).row_litAt 5 1 0 #[] (wc.heap.size + 1) (by simp) rfl (by decide))
                          obtain ⟨cA, cc, wd, rc, hc', ec, hc1, hc2⟩ := app (((hd.row_lit 5 1 0 #[] rfl (by decide)).blkAt #[.int .i64 0, .int .i64 0, .slice none 0 0] 59 (wc.heap.size + 1) (by simp)).swap)
                          replace ra : (Builtin.append_ #[57, 57] 57 #[.slice (some ⟨wc.heap.size, 0, none⟩) 0 0, .slice bA bn bc]).run Try.prog (wc.alloc (.cells #[] 5)).drew = .ok (.slice aA xs.length ac) wa := ra
                          replace rb1 : (Builtin.append_ #[57, 57] 57 #[.slice (some ⟨wc.heap.size + 1, 0, none⟩) 0 0, .slice bA bn bc]).run Try.prog ((wc.alloc (.cells #[.int .i64 0, .int .i64 0, .slice none 0 0] 59)).alloc (.cells #[] 5)).drew = .ok (.slice bA' xs.length bc') wb := rb1
                          replace rc : (Builtin.append_ #[57, 57] 57 #[.slice (some ⟨wc.heap.size, 0, none⟩) 0 0, .slice bA bn bc]).run Try.prog ((wc.alloc (.cells #[] 5)).alloc (.cells #[.int .i64 0, .int .i64 0, .slice none 0 0] 59)).drew = .ok (.slice cA xs.length cc) wd := rc
                          have fa := ha.blk #[.int .i64 f, .int .i64 t, .slice aA xs.length ac] 59
                          have fb : St H2 (Blk wc.heap.size #[.int .i64 f, .int .i64 t, .slice bA' xs.length bc'] 59 :: Row 5 1 (.slice bA' xs.length bc') (u8s xs) :: Row 59 3 (.slice WA lW.length wcp) (mscs lW) :: NetA p room lN :: []) (((wb.setCell ⟨wc.heap.size, 0, none⟩ (.int .i64 f)).setCell ⟨wc.heap.size, 1, none⟩ (.int .i64 t)).setCell ⟨wc.heap.size, 2, none⟩ (.slice bA' xs.length bc')) := (((hb'.swap.blk_set 0 (.int .i64 f)).blk_set 1 (.int .i64 t)).blk_set 2 (.slice bA' xs.length bc'))
                          have zb0 : wb.cell? ⟨wc.heap.size, 0, none⟩ = some (.int .i64 0) := hb'.swap.blk_cell 0
                          have zb1 : wb.cell? ⟨wc.heap.size, 1, none⟩ = some (.int .i64 0) := hb'.swap.blk_cell 1
                          have zb2 : wb.cell? ⟨wc.heap.size, 2, none⟩ = some (.slice none 0 0) := hb'.swap.blk_cell 2
                          have zbf0 : wb.frozen? ⟨wc.heap.size, 0, none⟩ = false := hb'.swap.blk_free 0
                          have zbf1 : wb.frozen? ⟨wc.heap.size, 1, none⟩ = false := hb'.swap.blk_free 1
                          have zbf2 : wb.frozen? ⟨wc.heap.size, 2, none⟩ = false := hb'.swap.blk_free 2
                          have zbl : wc.heap.size < wb.heap.size := hb'.swap.blk_lt
                          have fc : St H2 (Blk (wc.heap.size + 1) #[.int .i64 f, .int .i64 t, .slice cA xs.length cc] 59 :: Row 5 1 (.slice cA xs.length cc) (u8s xs) :: Row 59 3 (.slice WA lW.length wcp) (mscs lW) :: NetA p room lN :: []) (((wd.setCell ⟨(wc.heap.size + 1), 0, none⟩ (.int .i64 f)).setCell ⟨(wc.heap.size + 1), 1, none⟩ (.int .i64 t)).setCell ⟨(wc.heap.size + 1), 2, none⟩ (.slice cA xs.length cc)) := (((hc'.swap.blk_set 0 (.int .i64 f)).blk_set 1 (.int .i64 t)).blk_set 2 (.slice cA xs.length cc))
                          have zc0 : wd.cell? ⟨(wc.heap.size + 1), 0, none⟩ = some (.int .i64 0) := hc'.swap.blk_cell 0
                          have zc1 : wd.cell? ⟨(wc.heap.size + 1), 1, none⟩ = some (.int .i64 0) := hc'.swap.blk_cell 1
                          have zc2 : wd.cell? ⟨(wc.heap.size + 1), 2, none⟩ = some (.slice none 0 0) := hc'.swap.blk_cell 2
                          have zcf0 : wd.frozen? ⟨(wc.heap.size + 1), 0, none⟩ = false := hc'.swap.blk_free 0
                          have zcf1 : wd.frozen? ⟨(wc.heap.size + 1), 1, none⟩ = false := hc'.swap.blk_free 1
                          have zcf2 : wd.frozen? ⟨(wc.heap.size + 1), 2, none⟩ = false := hc'.swap.blk_free 2
                          have zcl : (wc.heap.size + 1) < wd.heap.size := hc'.swap.blk_lt
                          have s0 := kk _ _ hd
                          have s1 := kk _ (wc.alloc (.cells #[] 5)).drew (hd.alloc (.cells #[] 5))
                          have s2 := kk _ (wc.alloc (.cells #[.int .i64 0, .int .i64 0, .slice none 0 0] 59)).drew (hd.alloc (.cells #[.int .i64 0, .int .i64 0, .slice none 0 0] 59))
                          have s3 := kk _ ((wc.alloc (.cells #[.int .i64 0, .int .i64 0, .slice none 0 0] 59)).alloc (.cells #[] 5)).drew ((hd.alloc (.cells #[.int .i64 0, .int .i64 0, .slice none 0 0] 59)).alloc (.cells #[] 5))
                          have s4 := kk _ ((wc.alloc (.cells #[] 5)).alloc (.cells #[.int .i64 0, .int .i64 0, .slice none 0 0] 59)).drew ((hd.alloc (.cells #[] 5)).alloc (.cells #[.int .i64 0, .int .i64 0, .slice none 0 0] 59))
                          have s5 := kk _ _ ha
                          have s6 := kk _ _ hb'
                          have s7 := kk _ _ hc'
                          have s8 := kk _ (wa.alloc (.cells #[.int .i64 0, .int .i64 0, .slice none 0 0] 59)) (ha.alloc _)
                          have s9 := kk _ _ fa
                          have s10 := kk _ _ fb
                          have s11 := kk _ _ fc
                          clear app kk hbl
                          go_region_held3 (fun w' => w'.cell? ⟨gm, 0, none⟩ = some (.int .i64 f) ∧ w'.cell? ⟨gm, 1, none⟩ = some (.int .i64 t) ∧ w'.cell? ⟨gm, 2, none⟩ = some (.slice bA bn bc)) (first | (with_reducible exact s0) | (with_reducible exact s1) | (with_reducible exact s2) | (with_reducible exact s3) | (with_reducible exact s4) | (with_reducible exact s5) | (with_reducible exact s6) | (with_reducible exact s7) | (with_reducible exact s8) | (with_reducible exact s9) | (with_reducible exact s10) | (with_reducible exact s11))
                            (first
                              | (rw [if_pos (by rfl)]; (with_reducible refine oper_append_at (.tmp 159) (.tmp 161) 57 57 57 ra ?_ ?_ ?_ ?_ ?_); rfl; rfl; rfl; rfl)
                              | (rw [if_pos (by rfl)]; (with_reducible refine oper_append_at (.tmp 159) (.tmp 161) 57 57 57 rb1 ?_ ?_ ?_ ?_ ?_); rfl; rfl; rfl; rfl)
                              | (rw [if_pos (by rfl)]; (with_reducible refine oper_append_at (.tmp 159) (.tmp 161) 57 57 57 rc ?_ ?_ ?_ ?_ ?_); rfl; rfl; rfl; rfl))
                          all_goals
                            clear s0 s1 s2 s3 s4 s5 s6 s7 s8 s9 s10 s11
                            go_wp2_with fail
                            go_meet
                            first
                              | exact ⟨_, aA, ac, rfl, fa, ((en7.drew.alloc _).trans ea).alloc _, ha1, ha2⟩
                              | exact ⟨_, bA', bc', rfl, fb, (((((en7.drew.alloc _).alloc _).trans eb).setCell _ _).setCell _ _).setCell _ _, hb1, hb2⟩
                              | exact ⟨_, cA, cc, rfl, fc, (((((en7.drew.alloc _).alloc _).trans ec).setCell _ _).setCell _ _).setCell _ _, hc1, hc2⟩
                        case rest =>
                          clear h7 en7 x0 x1 x2 xl
                          obtain ⟨g, vA, vc, rfl, h7, en7, hvc, hvl⟩ := hcut
                          have hbq := Lib.hid hbl
                          clear hbl
                          have g0 := h7.blk_cell 0
                          have g1 := h7.blk_cell 1
                          have g2 := h7.blk_cell 2
                          have gl := h7.blk_lt
                          by_cases hz : bad3 room lW.length bn f t = 0
                          · obtain ⟨hf1, ht1, hne1, hl1, hr1'⟩ := bad3_ok hz
                            go_wp2_with fail
                            refine (netSend_ok p room lN f t vA xs.length vc xs hf1 ht1 hne1 (by have := hbq.out; omega) (by have := hbq.out; omega) hroom2 H2 _ _ (h7.pick 3 (by simp)) ((h7.pick 1 (by simp)).row_rw (by omega))).mono ?_
                            rintro e w9 ⟨rfl, en9, v9, h9⟩
                            obtain ⟨H9, l9, h10, r9⟩ := h9.row_keep
                            have hNI : Hid (NI H9 (lN ++ [(f, t, v9, xs)]) (lW ++ [(f, t, .slice bA bn bc, xs)]) (k + 1)) := Lib.hid ⟨fun m hm => by
                                rcases List.mem_append.1 hm with hm | hm
                                · exact (HI1.out.gN.mono (Hp.le_trans l2 l9)) m hm
                                · rw [List.mem_singleton] at hm
                                  subst hm
                                  exact mgood1 r9 (by have := hbq.out; omega) hf1 ht1 hne1, fun m hm => by
                                rcases List.mem_append.1 hm with hm | hm
                                · exact (HI1.out.gW.mono (Hp.le_trans l2 l9)) m hm
                                · rw [List.mem_singleton] at hm
                                  subst hm
                                  exact mgood1 (hbx2.mono l9) (by have := hbq.out; omega) hf1 ht1 hne1, by
                                have := HI1.out.abs
                                unfold absM at this ⊢
                                rw [List.map_append, List.map_append, this]
                                rfl, by simp; omega⟩
                            have hWr : St H9 (Row 59 3 (.slice WA lW.length wcp) (mscs lW) :: NetA p room (lN ++ [(f, t, v9, xs)]) :: Blk g #[.int .i64 f, .int .i64 t, .slice vA xs.length vc] 59 :: Row 5 1 (.slice vA xs.length vc) (u8s xs) :: []) w9 := h10.pick 3 (by simp)
                            have x0 := hWr.cell (Hp.cell_le l9 v0)
                            have x1 := hWr.cell (Hp.cell_le l9 v1)
                            have x2 := hWr.cell (Hp.cell_le l9 v2)
                            have xl := World.block_lt_of_cell? _ _ x0
                            clear g0 g1 g2 gl h7 h9 h10
                            go_wp2_with (at_builtin; refine wpList_append rfl (.tmp 171) (.tmp 173) 66 66 rfl Try.underlying66 (.inl ⟨_, Try.underlying66⟩) (.agg #[.int .i64 0, .int .i64 0, .slice none 0 0]) 40 info_msg rfl (by decide) (by decide) rfl rfl (hWr.alloc _) (News.newAt _ _ 1 _ _ (by simp) rfl (by simp [Value.oneCell'])) ?apB1 ?apK1)
                            case apB1 => first | omega | (simp; omega) | (simp [mscs_len]; omega) | skip
                            intro v' w11 h11 en11
                            have hz0 : St H9 (Row 5 1 (.slice vA xs.length vc) (u8s xs) :: Blk g #[.int .i64 f, .int .i64 t, .slice vA xs.length vc] 59 :: Row 59 3 v' (mscs lW ++ [.int .i64 f, .int .i64 t, .slice bA bn bc]) :: NetA p room (lN ++ [(f, t, v9, xs)]) :: []) w11 := (h11.pick 3 (by simp)).perm (List.Perm.cons _ ((List.perm_append_comm (l₁ := [_, _]) (l₂ := [_]))))
                            have enz0 := ((en7.trans en9).alloc (.cells #[.int .i64 f, .int .i64 t, .slice bA bn bc] 59)).trans en11
                            clear x0 x1 x2 xl hWr h11
                            go_wp2_with fail
                            go_loopw [18] (fun s18 wz => ∃ (z : Nat) (ys : List Int), z ≤ xs.length ∧ s18 = .int .i64 (z : Int) ∧ ys.length = xs.length ∧ St H9 (Row 5 1 (.slice vA xs.length vc) (u8s ys) :: Blk g #[.int .i64 f, .int .i64 t, .slice vA xs.length vc] 59 :: Row 59 3 v' (mscs lW ++ [.int .i64 f, .int .i64 t, .slice bA bn bc]) :: NetA p room (lN ++ [(f, t, v9, xs)]) :: []) wz ∧ Env w wz) (fun s18 _ => xs.length - (intOf s18).toNat)
                            case atStart => exact ⟨0, xs, Nat.zero_le _, rfl, rfl, hz0, enz0⟩
                            case round =>
                              clear hz0 enz0
                              obtain ⟨z, ys, hz1, rfl, hyl, hz2, enz2⟩ := hrel
                              have gb2 := hz2.swap.blk_cell 2
                              have gbl := hz2.swap.blk_lt
                              by_cases hzt : z < xs.length
                              · obtain ⟨b, o, hAA, bl, hc, hfz⟩ := hz2.row_cells (by omega) (by omega)
                                cases hAA
                                have c0 := hc z _ (u8s_get ys z (by omega))
                                have f0 := hfz z
                                have hset : (u8s ys).set z (.int .u8 0) = u8s (ys.set z 0) := by simp [u8s]
                                have hr := hz2.row_set z (by rw [u8s_len]; omega) (.int .u8 0)
                                rw [hset] at hr
                                have hzi : (z : Int) < (xs.length : Int) := by omega
                                have hz0' : (0 : Int) ≤ (z : Int) := by omega
                                clear hc hfz hset
                                go_wp2_with fail
                                go_roundw
                                case rel => exact ⟨z + 1, ys.set z 0, by omega, by go_num, by rw [List.length_set]; exact hyl, hr, enz2.setCell _ _⟩
                                case measure => simp [intOf]; omega
                              · obtain rfl : z = xs.length := by omega
                                go_wp2_with fail
                                go_meet
                                exact ⟨rfl, H9, _, _, Hp.le_trans l2 l9, by rw [mscs_snoc]; exact hz2.drop.drop, enz2, hNI⟩
                          · have hzb : (bad3 room lW.length bn f t == 0) = false := beq_eq_false_iff_ne.2 hz
                            go_wp2_with fail
                            refine (netSend_bad p room lN f t vA xs.length vc (by rw [hlen, hbq.out]; exact hz) H2 _ _ (h7.pick 3 (by simp))).mono ?_
                            rintro e w9 ⟨rfl, hb9⟩
                            rw [hlen, hbq.out]
                            have hz0 : St H2 (Row 5 1 (.slice vA xs.length vc) (u8s xs) :: Blk g #[.int .i64 f, .int .i64 t, .slice vA xs.length vc] 59 :: Row 59 3 (.slice WA lW.length wcp) (mscs lW) :: NetA p room lN :: []) w9 := (h7.below hb9).swap
                            have enz0 := en7.trans (bel_env hb9)
                            clear g0 g1 g2 gl h7
                            go_wp2_with fail
                            go_loopw [18] (fun s18 wz => ∃ (z : Nat) (ys : List Int), z ≤ xs.length ∧ s18 = .int .i64 (z : Int) ∧ ys.length = xs.length ∧ St H2 (Row 5 1 (.slice vA xs.length vc) (u8s ys) :: Blk g #[.int .i64 f, .int .i64 t, .slice vA xs.length vc] 59 :: Row 59 3 (.slice WA lW.length wcp) (mscs lW) :: NetA p room lN :: []) wz ∧ Env w wz) (fun s18 _ => xs.length - (intOf s18).toNat)
                            case atStart => exact ⟨0, xs, Nat.zero_le _, rfl, rfl, hz0, enz0⟩
                            case round =>
                              clear hz0 enz0
                              obtain ⟨z, ys, hz1, rfl, hyl, hz2, enz2⟩ := hrel
                              have gb2 := hz2.swap.blk_cell 2
                              have gbl := hz2.swap.blk_lt
                              by_cases hzt : z < xs.length
                              · obtain ⟨b, o, hAA, bl, hc, hfz⟩ := hz2.row_cells (by omega) (by omega)
                                cases hAA
                                have c0 := hc z _ (u8s_get ys z (by omega))
                                have f0 := hfz z
                                have hset : (u8s ys).set z (.int .u8 0) = u8s (ys.set z 0) := by simp [u8s]
                                have hr := hz2.row_set z (by rw [u8s_len]; omega) (.int .u8 0)
                                rw [hset] at hr
                                have hzi : (z : Int) < (xs.length : Int) := by omega
                                have hz0' : (0 : Int) ≤ (z : Int) := by omega
                                clear hc hfz hset
                                go_wp2_with fail
                                go_roundw
                                case rel => exact ⟨z + 1, ys.set z 0, by omega, by go_num, by rw [List.length_set]; exact hyl, hr, enz2.setCell _ _⟩
                                case measure => simp [intOf]; omega
                              · obtain rfl : z = xs.length := by omega
                                go_wp2_with fail
                                go_meet
                                exact ⟨rfl, H2, lN, lW, l2, hz2.drop.drop, enz2, Lib.hid (HI1.out.mono l2 (by omega))⟩
          · by_cases hk1 : kd = 1
            · subst hk1
              as_aux_lemma =>
                  by_cases hth : thereB n lW.length = true
                  · obtain ⟨i, hin⟩ : ∃ i : Nat, n = i := ⟨n.toNat, by unfold thereB at hth; simp at hth; omega⟩
                    subst hin
                    have hthh := Lib.hid hth
                    rw [hth]
                    have hi : i < lW.length := by unfold thereB at hth; simp at hth; omega
                    have hiN : i < lN.length := by omega
                    obtain ⟨e1, e2, e3⟩ := absM_get HI1.out.abs i hiN hi
                    obtain ⟨⟨mf, mt, mv, mx⟩, HY⟩ : ∃ x, Hid (x = lW[i]) := ⟨_, Lib.hid rfl⟩
                    have hgW := HI1.out.gW _ (List.getElem_mem hi)
                    rw [← HY.out] at e1 e2 e3 hgW
                    simp only at e1 e2 e3 hgW
                    obtain ⟨mA, mn, mc, hmv, _⟩ := hgW.1.form
                    subst hmv
                    have e4 := Lib.hid e1
                    have e5 := Lib.hid e2
                    have e6 := Lib.hid e3
                    have hgm := Lib.hid hgW.1
                    have hone := Lib.hid (mscs_one HI1.out.gW)
                    have hNI : Hid (NI H1 (lN.eraseIdx i) (lW.eraseIdx i) (k + 1)) := Lib.hid ⟨HI1.out.gN.erase i, HI1.out.gW.erase i, by
                      have := HI1.out.abs
                      unfold absM at this ⊢
                      rw [Go.ChangeMaps.map_eraseIdx, Go.ChangeMaps.map_eraseIdx, this], by have := HI1.out.len; have := List.length_eraseIdx_le lN i; omega⟩
                    have d1 : (true != true) = false := rfl
                    clear e1 e2 e3 hgW
                    go_wp2_with fail
                    refine (netTake_in p room lN i hiN (by omega) H1 HI1.out.gN _ _ h6.swap).mono ?_
                    rintro e w9 ⟨v9, rfl, h9, en9⟩
                    rw [e4.out, e5.out]
                    rw [e6.out] at h9
                    obtain ⟨vA, vn, vc, rfl, _⟩ := h9.row_form
                    obtain ⟨H9, l9, h10, y9⟩ := h9.box #[.int .i64 mf, .int .i64 mt, .slice vA vn vc] 59
                    have en10 := (en6.trans en9).alloc (.cells #[.int .i64 mf, .int .i64 mt, .slice vA vn vc] 59)
                    have u0 := y9 0 _ rfl
                    have u1 := y9 1 _ rfl
                    have u2 := y9 2 _ rfl
                    have u3 := Hp.cell_le l9 y1
                    obtain ⟨b, o, rfl, bl, hcells, _⟩ := (h10.pick 2 (by simp)).row_cells (by omega) (by omega)
                    clear y9 hcells bl
                    have kk : ∀ (l : List HA) (w' : World), St H9 (Row 59 3 (.slice (some ⟨b, o, none⟩) lW.length wcp) (mscs lW) :: l) w' → w'.cell? ⟨w9.heap.size, 0, none⟩ = some (.int .i64 mf) ∧ w'.cell? ⟨w9.heap.size, 1, none⟩ = some (.int .i64 mt) ∧ w'.cell? ⟨w9.heap.size, 2, none⟩ = some (.slice vA vn vc) ∧ w'.cell? ⟨b, o + i * 3, none⟩ = some (.int .i64 mf) ∧ w'.cell? ⟨b, o + i * 3 + 1, none⟩ = some (.int .i64 mt) ∧ w'.cell? ⟨b, o + i * 3 + 2, none⟩ = some (.slice mA mn mc) ∧ w'.cell? ⟨gx, 1, none⟩ = some (.int .i64 (i : Int)) := fun l w' h => by
                      obtain ⟨b', o', hA, _, hc, _⟩ := h.row_cells (by omega) (by omega)
                      cases hA
                      have q0 := hc _ _ (mscs_get lW i hi).1
                      have q1 := hc _ _ (mscs_get lW i hi).2.1
                      have q2 := hc _ _ (mscs_get lW i hi).2.2
                      rw [← Nat.add_assoc] at q1 q2
                      rw [← HY.out] at q0 q1 q2
                      exact ⟨h.cell u0, h.cell u1, h.cell u2, q0, q1, q2, h.cell u3⟩
                    have hilt : (i : Int) < (lW.length : Int) := by omega
                    have hi0 : (0 : Int) ≤ (i : Int) := by omega
                    go_wp2_with fail
                    generalize w9.alloc (.cells #[.int .i64 mf, .int .i64 mt, .slice vA vn vc] 59) = WD at *
                    generalize w9.heap.size = g9 at *
                    have hd := h10.drew
                    have k4 := kk _ _ (hd.pick 2 (by simp))
                    obtain ⟨r0, r1, r2, r3, r4, r5, r6⟩ := k4
                    have rl := World.block_lt_of_cell? _ _ r0
                    have rl3 := World.block_lt_of_cell? _ _ r3
                    have rl6 := World.block_lt_of_cell? _ _ r6
                    go_still_tail 21, (by kernel_rfl)
                    change wpList _ _ _ _ _ WD.drew
                    go_wp2_with fail
                    refine (msgSame mf mt (.slice vA vn vc) (.slice mA mn mc) mx _ (hd.row_rw (by omega)) ((hgm.out.mono l9).rw hd)).mono ?_
                    rintro e w11 ⟨rfl, hb11⟩
                    have h11 := hd.below hb11
                    have en11 := en10.drew.trans (bel_env hb11)
                    clear r0 r1 r2 r3 r4 r5 r6 rl rl3 rl6 hd h10 en10 kk
                    go_wp2_with fail
                    have hWr : St H9 (Row 59 3 (.slice (some ⟨b, o, none⟩) lW.length wcp) (mscs lW) :: Row 5 1 (.slice vA vn vc) (u8s mx) :: NetA p room (lN.eraseIdx i) :: []) w11.drew := h11.drew.pick 2 (by simp)
                    have hE := hWr.row_lit 59 3 0 #[] rfl (by decide)
                    have hrwE : Rw (w11.drew.alloc (.cells #[] 59)) 3 (.slice (some ⟨b, o, none⟩) lW.length wcp) (mscs lW) := (hE.pick 1 (by simp)).row_rw (by omega)
                    obtain ⟨v1, wp1, hrun1, hA1, eA1⟩ := hE.append_run 66 66 66 (.agg #[.int .i64 0, .int .i64 0, .slice none 0 0]) 40 Try.underlying66 (.inl ⟨_, Try.underlying66⟩) info_msg rfl (by decide) (News.rw (hrwE.upto i (by omega)) (fun u hu => hone.out u (List.mem_of_mem_take hu))) (by simp [mscs_len]; omega) (by decide)
                    have hrw1 : Rw wp1 3 (.slice (some ⟨b, o, none⟩) lW.length wcp) (mscs lW) := (hA1.pick 1 (by simp)).row_rw (by omega)
                    have key : ∃ o2 c2 v2 wp2, ((wcp = i + 1 → o2 = o ∧ c2 = 0) ∧ (¬ wcp = i + 1 → o2 = o + (i + 1) * 3 ∧ c2 = wcp - (i + 1))) ∧ (Builtin.append_ #[66, 66] 66 #[v1, .slice (some ⟨b, o2, none⟩) (lW.length - (i + 1)) c2]).run Try.prog wp1 = .ok v2 wp2 ∧ St H9 (Row 59 3 v2 (mscs (lW.eraseIdx i)) :: Row 59 3 (.slice (some ⟨b, o, none⟩) lW.length wcp) (mscs lW) :: Row 5 1 (.slice vA vn vc) (u8s mx) :: NetA p room (lN.eraseIdx i) :: []) wp2 ∧ Env wp1 wp2 := by
                      rw [mscs_erase]
                      by_cases hcap : wcp = i + 1
                      · obtain ⟨v2, wp2, r, h5, e5⟩ := hA1.append_run 66 66 66 (.agg #[.int .i64 0, .int .i64 0, .slice none 0 0]) 40 Try.underlying66 (.inl ⟨_, Try.underlying66⟩) info_msg rfl (by decide) (News.rw (hrw1.from (i + 1) (by omega) ⟨b, o, none⟩ 0 (fun h => absurd h (by omega)) (by omega) (by omega)) (fun u hu => hone.out u (List.mem_of_mem_drop hu))) (by simp [mscs_len]; omega) (by decide)
                        exact ⟨o, 0, v2, wp2, ⟨fun _ => ⟨rfl, rfl⟩, fun h => absurd hcap h⟩, r, by simpa using h5, e5⟩
                      · obtain ⟨v2, wp2, r, h5, e5⟩ := hA1.append_run 66 66 66 (.agg #[.int .i64 0, .int .i64 0, .slice none 0 0]) 40 Try.underlying66 (.inl ⟨_, Try.underlying66⟩) info_msg rfl (by decide) (News.rw (hrw1.from (i + 1) (by omega) ⟨b, o + (i + 1) * 3, none⟩ (wcp - (i + 1)) (fun _ => rfl) (by omega) (by omega)) (fun u hu => hone.out u (List.mem_of_mem_drop hu))) (by simp [mscs_len]; omega) (by decide)
                        exact ⟨o + (i + 1) * 3, wcp - (i + 1), v2, wp2, ⟨fun h => absurd h hcap, fun _ => ⟨rfl, rfl⟩⟩, r, by simpa using h5, e5⟩
                    obtain ⟨o2, c2, v2, wp2, ⟨hk1, hk2⟩, hrun2, hA2, eA2⟩ := key
                    have s0 : w11.drew.cell? ⟨gx, 1, none⟩ = some (.int .i64 (i : Int)) := hWr.cell u3
                    have s1 : (w11.drew.alloc (.cells #[] 59)).cell? ⟨gx, 1, none⟩ = some (.int .i64 (i : Int)) := hE.cell u3
                    have s2 : wp1.cell? ⟨gx, 1, none⟩ = some (.int .i64 (i : Int)) := hA1.cell u3
                    have s3 : wp2.cell? ⟨gx, 1, none⟩ = some (.int .i64 (i : Int)) := hA2.cell u3
                    have hw1 : IntKind.i64.wrap ((i : Int) + 1) = (i : Int) + 1 := by rw [IntKind.wrap_i64]; omega
                    have hi1 : (i : Int) ≤ (wcp : Int) := by omega
                    have hi2 : (i : Int) + 1 ≤ (lW.length : Int) := by omega
                    have hi3 : (0 : Int) ≤ (i : Int) + 1 := by omega
                    have hi4 : (i : Int) ≤ (i : Int) + 1 := by omega
                    have hi5 : (lW.length : Int) ≤ (wcp : Int) := by omega
                    have hi6 : (i : Int) + 1 ≤ (wcp : Int) := by omega
                    have hw0 : ¬ wcp = 0 := by omega
                    have enf := ((en11.drew.alloc (.cells #[] 59)).trans eA1).trans eA2
                    have hfin : St H9 [Row 59 3 v2 (mscs (lW.eraseIdx i)), NetA p room (lN.eraseIdx i)] wp2 := ((hA2.pick 1 (by simp)).drop.pick 1 (by simp)).drop
                    replace hk1 := Lib.hid hk1
                    replace hk2 := Lib.hid hk2
                    replace hrun1 : (Builtin.append_ #[66, 66] 66 #[.slice (some ⟨w11.heap.size, 0, none⟩) 0 0, .slice (some ⟨b, o, none⟩) i wcp]).run Try.prog (w11.alloc (.cells #[] 59)).drew = .ok v1 wp1 := hrun1
                    have hNI9 := Lib.hid (hNI.out.mono l9 (Nat.le_refl _))
                    clear hE hrwE hrw1 hA1 hA2 hWr h11 eA1 eA2
                    by_cases hcap : wcp = i + 1
                    · obtain ⟨q1, q2⟩ := hk1.out hcap
                      have hL : lW.length - (i + 1) = 0 := by omega
                      rw [q1, q2, hL] at hrun2
                      clear q1 q2 hL
                      subst hcap
                      go_region_held3 (fun w' => w'.cell? ⟨gx, 1, none⟩ = some (.int .i64 (i : Int))) (first | (with_reducible exact s0) | (with_reducible exact s1) | exact s2 | exact s3 | exact s1)
                        (first
                          | (rw [if_pos (by rfl)]; refine oper_append_at (.tmp 221) (.tmp 225) 66 66 66 hrun1 rfl rfl rfl rfl ?_)
                          | (rw [if_pos (by rfl)]; refine oper_append_at (.tmp 226) (.tmp 231) 66 66 66 hrun2 rfl rfl rfl rfl ?_))
                      all_goals
                        go_wp2_with fail
                        go_meet
                        exact ⟨congrArg Value.bool hthh.out.symm, H9, _, _, l9, hfin, enf, hNI9⟩
                    · obtain ⟨q1, q2⟩ := hk2.out hcap
                      rw [q1, q2] at hrun2
                      clear q1 q2
                      go_region_held3 (fun w' => w'.cell? ⟨gx, 1, none⟩ = some (.int .i64 (i : Int))) (first | (with_reducible exact s0) | (with_reducible exact s1) | exact s2 | exact s3 | exact s1)
                        (first
                          | (rw [if_pos (by rfl)]; refine oper_append_at (.tmp 221) (.tmp 225) 66 66 66 hrun1 rfl rfl rfl rfl ?_)
                          | (rw [if_pos (by rfl)]; refine oper_append_at (.tmp 226) (.tmp 231) 66 66 66 hrun2 rfl rfl rfl rfl ?_))
                      all_goals
                        go_wp2_with fail
                        go_meet
                        exact ⟨congrArg Value.bool hthh.out.symm, H9, _, _, l9, hfin, enf, hNI9⟩
                  · have hth' : thereB n lW.length = false := by simpa using hth
                    have hthh := Lib.hid hth'
                    rw [hth']
                    have hout : n < 0 ∨ (lN.length : Int) ≤ n := by unfold thereB at hth; simp at hth; omega
                    clear hth
                    go_wp2_with fail
                    refine (netTake_out p room lN n hout H1 _ _ h6.swap).mono ?_
                    rintro e w9 ⟨rfl, hb9⟩
                    have h9 := (h6.below hb9).alloc (.cells #[.int .i64 0, .int .i64 0, .slice none 0 0] 59)
                    have en9 := (en6.trans (bel_env hb9)).alloc (.cells #[.int .i64 0, .int .i64 0, .slice none 0 0] 59)
                    go_wp2_with fail
                    generalize w9.alloc (.cells #[.int .i64 0, .int .i64 0, .slice none 0 0] 59) = WD at *
                    go_quiet (fail)
                    go_wp2_with fail
                    go_meet
                    exact ⟨congrArg Value.bool hthh.out.symm, H1, lN, lW, Hp.le_refl _, h9.drewN nq, en9.drewN nq, Lib.hid (HI1.out.mono (Hp.le_refl _) (by omega))⟩
            · by_cases hk2 : kd = 2
              · subst hk2
                as_aux_lemma =>
                    have hNk' : lN.length ≤ k := hNk
                    by_cases hth : thereB n lW.length = true
                    · obtain ⟨i, hin⟩ : ∃ i : Nat, n = i := ⟨n.toNat, by unfold thereB at hth; simp at hth; omega⟩
                      subst hin
                      have hthh := Lib.hid hth
                      rw [hth]
                      have hi : i < lW.length := by unfold thereB at hth; simp at hth; omega
                      have hiN : i < lN.length := by omega
                      obtain ⟨e1, e2, e3⟩ := absM_get HI1.out.abs i hiN hi
                      by_cases hfull : room ≤ (lW.length : Int)
                      · have hfN : room ≤ (lN.length : Int) := by omega
                        go_wp2_with fail
                        refine (netDouble_full p room lN i hiN hfN H1 HI1.out.gN _ _ h6.swap).mono ?_
                        rintro e w9 ⟨rfl, h9, en9⟩
                        go_wp2_with fail
                        go_meet
                        exact ⟨congrArg Value.bool hthh.out.symm, H1, lN, lW, Hp.le_refl _, h9.swap, en6.trans en9, Lib.hid (HI1.out.mono (Hp.le_refl _) (by omega))⟩
                      · have hfN : ¬ room ≤ (lN.length : Int) := by omega
                        go_wp2_with fail
                        refine (netDouble_ok p room lN i hiN (by omega) hroom2 H1 HI1.out.gN _ _ h6.swap).mono ?_
                        rintro e w9 ⟨rfl, en9, v9, h9⟩
                        obtain ⟨H9, l9, h10, r9⟩ := h9.row_keep
                        obtain ⟨⟨mf, mt, mv, mx⟩, HY⟩ : ∃ x, Hid (x = lW[i]) := ⟨_, Lib.hid rfl⟩
                        have hgW := HI1.out.gW _ (List.getElem_mem hi)
                        have hgN := HI1.out.gN _ (List.getElem_mem hiN)
                        rw [← HY.out] at hgW e1 e2 e3
                        simp only at hgW e1 e2 e3
                        obtain ⟨mA, mn, mc, hmv, _⟩ := hgW.1.form
                        subst hmv
                        have hNI : Hid (NI H9 (lN ++ [(lN[i].1, lN[i].2.1, v9, lN[i].2.2.2)]) (lW ++ [(mf, mt, .slice mA mn mc, mx)]) (k + 1)) := Lib.hid ⟨fun m hm => by
                            rcases List.mem_append.1 hm with hm | hm
                            · exact (HI1.out.gN.mono l9) m hm
                            · rw [List.mem_singleton] at hm
                              subst hm
                              exact ⟨r9, hgN.2⟩, fun m hm => by
                            rcases List.mem_append.1 hm with hm | hm
                            · exact (HI1.out.gW.mono l9) m hm
                            · rw [List.mem_singleton] at hm
                              subst hm
                              exact ⟨hgW.1.mono l9, hgW.2⟩, by
                            have := HI1.out.abs
                            unfold absM at this ⊢
                            rw [List.map_append, List.map_append, this]
                            simp [e1, e2, e3], by simp; omega⟩
                        have hWr : St H9 (Row 59 3 (.slice WA lW.length wcp) (mscs lW) :: NetA p room (lN ++ [(lN[i].1, lN[i].2.1, v9, lN[i].2.2.2)]) :: []) w9 := h10.swap
                        obtain ⟨b, o, rfl, bl, hcells, _⟩ := hWr.row_cells (by omega) (by omega)
                        have c0 := hcells _ _ (mscs_get lW i hi).1
                        have c1 := hcells _ _ (mscs_get lW i hi).2.1
                        have c2 := hcells _ _ (mscs_get lW i hi).2.2
                        rw [← Nat.add_assoc] at c1 c2
                        rw [← HY.out] at c0 c1 c2
                        simp only at c0 c1 c2
                        have gx1 := h10.cell (Hp.cell_le l9 y1)
                        have gxl := World.block_lt_of_cell? _ _ gx1
                        have hilt : (i : Int) < (lW.length : Int) := by omega
                        have hi0 : (0 : Int) ≤ (i : Int) := by omega
                        clear hcells e1 e2 e3 hgW hgN h9
                        go_wp2_with (at_builtin; refine wpList_append rfl (.tmp 249) (.tmp 255) 66 66 rfl Try.underlying66 (.inl ⟨_, Try.underlying66⟩) (.agg #[.int .i64 0, .int .i64 0, .slice none 0 0]) 40 info_msg rfl (by decide) (by decide) rfl rfl (hWr.alloc _) (News.newAt _ _ 1 _ _ (by simp) rfl (by simp [Value.oneCell'])) ?apB2 ?apK2)
                        case apB2 => first | omega | (simp; omega) | (simp [mscs_len]; omega) | skip
                        intro v' w11 h11 en11
                        go_wp2_with fail
                        go_meet
                        exact ⟨congrArg Value.bool hthh.out.symm, H9, _, _, l9, by rw [mscs_snoc]; exact h11, ((en6.trans en9).alloc _).trans en11, hNI⟩
                    · have hth' : thereB n lW.length = false := by simpa using hth
                      have hthh := Lib.hid hth'
                      rw [hth']
                      have hout : n < 0 ∨ (lN.length : Int) ≤ n := by unfold thereB at hth; simp at hth; omega
                      clear hth
                      by_cases hfull : room ≤ (lW.length : Int)
                      · go_wp2_with fail
                        refine (netDouble_out p room lN n hout H1 _ _ h6.swap).mono ?_
                        rintro e w9 ⟨rfl, hb9⟩
                        go_wp2_with fail
                        go_meet
                        exact ⟨congrArg Value.bool hthh.out.symm, H1, lN, lW, Hp.le_refl _, h6.below hb9, en6.trans (bel_env hb9), Lib.hid (HI1.out.mono (Hp.le_refl _) (by omega))⟩
                      · go_wp2_with fail
                        refine (netDouble_out p room lN n hout H1 _ _ h6.swap).mono ?_
                        rintro e w9 ⟨rfl, hb9⟩
                        go_wp2_with fail
                        go_meet
                        exact ⟨congrArg Value.bool hthh.out.symm, H1, lN, lW, Hp.le_refl _, h6.below hb9, en6.trans (bel_env hb9), Lib.hid (HI1.out.mono (Hp.le_refl _) (by omega))⟩
              · have d0 : (kd == 0) = false := beq_eq_false_iff_ne.2 hk0
                have d1 : (kd == 1) = false := beq_eq_false_iff_ne.2 hk1
                have d2 : (kd == 2) = false := beq_eq_false_iff_ne.2 hk2
                clear hk0 hk1 hk2
                go_wp2_with fail
                go_meet
                exact ⟨rfl, H1, lN, lW, Hp.le_refl _, h6, en6, Lib.hid (HI1.out.mono (Hp.le_refl _) (by omega))⟩
        case rest =>
          as_aux_lemma =>
            clear h6 en6 HI1 HI x0 x1 xl
            obtain ⟨rfl, H', lN', lW', l2, hst, hen, HI'⟩ := hcut
            have hN' := HI'.out.len
            have hlen' := absM_len HI'.out.abs
            obtain ⟨WB, wn, wd, rfl, hwf, hwn', hwm⟩ := hst.row_form
            rw [mscs_len] at hwf
            obtain rfl : wn = lW'.length := by omega
            have hwd : wd ≤ 9223372036854775807 := by simpa [maxLen] using hwm
            clear hwf hwm
            have h7 := hst.row_lit 3 1 0 #[] rfl (by decide)
            have en7 := hen.alloc (.cells #[] 3)
            have z0 := Hp.cell_le l2 y0
            have z3 := Hp.cell_le l2 y3
            go_wp2_with fail
            go_loopw [21, 22] (fun s21 s22 wz => ∃ m : Nat, m ≤ lW'.length ∧ s22 = .int .i64 (m : Int) ∧ St H' [Row 3 1 s21 (ints (forK t (lW'.map (·.2.1)) m)), Row 59 3 (.slice WB lW'.length wd) (mscs lW'), NetA p room lN'] wz ∧ Env w wz) (fun _ s22 _ => lW'.length - (intOf s22).toNat)
            case atStart => exact ⟨0, Nat.zero_le _, rfl, h7, en7⟩
            case round =>
              clear h7 en7 hst hen
              obtain ⟨m, hm, rfl, hst, hen⟩ := hrel
              have hfl := forK_len t (lW'.map (·.2.1)) m
              by_cases hmt : m < lW'.length
              · have hmN : m < lN'.length := by omega
                obtain ⟨e1, e2, e3⟩ := absM_get HI'.out.abs m hmN hmt
                obtain ⟨⟨mf, mt, mv, mx⟩, HY⟩ : ∃ x, Hid (x = lW'[m]) := ⟨_, Lib.hid rfl⟩
                rw [← HY.out] at e1 e2 e3
                simp only at e1 e2 e3
                have hgm := Lib.hid (HI'.out.gW _ (List.getElem_mem hmt)).1
                have e4 := Lib.hid e1
                have e5 := Lib.hid e2
                have e6 := Lib.hid e3
                clear e1 e2 e3
                go_wp2_with fail
                refine (netAt_in p room lN' m hmN H' HI'.out.gN _ _ (hst.pick 2 (by simp))).mono ?_
                rintro e w9 ⟨v9, rfl, h9, en9⟩
                rw [e4.out, e5.out]
                rw [e6.out] at h9
                have hW0 := hst.swap
                obtain ⟨b, o, rfl, bl, hcells, _⟩ := hW0.row_cells (by omega) (by omega)
                obtain ⟨vA, vn, vc, rfl, _⟩ := h9.row_form
                obtain ⟨H9, l9, h10, y9⟩ := h9.box #[.int .i64 mf, .int .i64 mt, .slice vA vn vc] 59
                have en10 := (hen.trans en9).alloc (.cells #[.int .i64 mf, .int .i64 mt, .slice vA vn vc] 59)
                have u0 := y9 0 _ rfl
                have u1 := y9 1 _ rfl
                have u2 := y9 2 _ rfl
                clear y9 h9 hcells bl hW0 hst hen en9
                have kk : ∀ (l : List HA) (w' : World), St H9 (Row 59 3 (.slice (some ⟨b, o, none⟩) lW'.length wd) (mscs lW') :: l) w' → w'.cell? ⟨w9.heap.size, 0, none⟩ = some (.int .i64 mf) ∧ w'.cell? ⟨w9.heap.size, 1, none⟩ = some (.int .i64 mt) ∧ w'.cell? ⟨w9.heap.size, 2, none⟩ = some (.slice vA vn vc) ∧ w'.cell? ⟨b, o + m * 3, none⟩ = some (.int .i64 mf) ∧ w'.cell? ⟨b, o + m * 3 + 1, none⟩ = some (.int .i64 mt) ∧ w'.cell? ⟨b, o + m * 3 + 2, none⟩ = some mv := fun l w' h => by
                  obtain ⟨b', o', hA, _, hc, _⟩ := h.row_cells (by omega) (by omega)
                  cases hA
                  have q0 := hc _ _ (mscs_get lW' m hmt).1
                  have q1 := hc _ _ (mscs_get lW' m hmt).2.1
                  have q2 := hc _ _ (mscs_get lW' m hmt).2.2
                  rw [← Nat.add_assoc] at q1 q2
                  rw [← HY.out] at q0 q1 q2
                  exact ⟨h.cell u0, h.cell u1, h.cell u2, q0, q1, q2⟩
                obtain ⟨mA, mn, mc, hmv, _⟩ := hgm.out.form
                simp only [← HY.out] at hmv
                subst hmv
                have hmi : (m : Int) < (lW'.length : Int) := by omega
                have hm0 : (0 : Int) ≤ (m : Int) := by omega
                go_wp2_with fail
                generalize w9.alloc (.cells #[.int .i64 mf, .int .i64 mt, .slice vA vn vc] 59) = WD at *
                generalize w9.heap.size = g9 at *
                have hd := h10.drew
                have k4 := kk _ _ (hd.pick 3 (by simp))
                go_region_held3 (fun w' => w'.cell? ⟨g9, 0, none⟩ = some (.int .i64 mf) ∧ w'.cell? ⟨g9, 1, none⟩ = some (.int .i64 mt) ∧ w'.cell? ⟨g9, 2, none⟩ = some (.slice vA vn vc) ∧ w'.cell? ⟨b, o + m * 3, none⟩ = some (.int .i64 mf) ∧ w'.cell? ⟨b, o + m * 3 + 1, none⟩ = some (.int .i64 mt) ∧ w'.cell? ⟨b, o + m * 3 + 2, none⟩ = some (.slice mA mn mc)) (first | exact k4 | exact k5)
                  ((go_at_call 36; refine (msgSame mf mt (.slice vA vn vc) (.slice mA mn mc) mx _ (hd.row_rw (by omega)) (by have h := hgm.out; simp only [← HY.out] at h; exact (h.mono l9).rw hd)).mono ?_; rintro e w11 ⟨rfl, hb11⟩; have h11 := hd.below hb11; have k5 := kk _ _ (h11.pick 3 (by simp))))
                have en11 := en10.drew.trans (bel_env hb11)
                obtain ⟨_, _, _, p0, p1, p2⟩ := k5
                have pl := World.block_lt_of_cell? _ _ p1
                have g3 := h11.cell (Hp.cell_le l9 z3)
                have gl := World.block_lt_of_cell? _ _ g3
                have hT : (lW'.map (·.2.1)).getD m 0 = mt := by
                  simp only [List.getD_eq_getElem?_getD, List.getElem?_map, List.getElem?_eq_getElem hmt, ← HY.out]
                  rfl
                have hs := forK_succ t (lW'.map (·.2.1)) m
                rw [hT] at hs
                clear hT kk k4 hd h10 en10
                by_cases ht : mt = t
                · have hb2 : (mt == t) = true := beq_iff_eq.2 ht
                  rw [if_pos ht] at hs
                  replace hs := Lib.hid hs
                  clear ht
                  go_wp2_with fail
                  go_quiet (fail)
                  have h12 := (h11.drewN nq).pick 2 (by simp)
                  have en12 := en11.drewN nq
                  clear p0 p1 p2 pl g3 gl h11 en11
                  generalize w11.drewN nq = w12 at *
                  go_wp2_with (at_builtin; refine wpList_append rfl (.tmp 290) (.tmp 292) 26 26 rfl Try.underlying26 (.inl ⟨_, Try.underlying26⟩) (.int .i64 0) 8 info_int rfl (by decide) (by decide) rfl rfl (h12.alloc _) (News.newAt _ _ 1 _ _ (by simp) rfl (by simp [Value.oneCell'])) ?apB3 ?apK3)
                  case apB3 => first | omega | (simp; omega) | (simp [ints_len]; omega) | skip
                  intro v' w13 h13 en13
                  go_wp2_with fail
                  go_roundw
                  case rel =>
                    have h14 : St H9 (Row 3 1 v' _ :: Row 5 1 _ _ :: NetA p room lN' :: Row 59 3 _ (mscs lW') :: []) w13 := h13
                    exact ⟨m + 1, by omega, by go_num, by rw [hs.out, ints_append]; exact (((h14.pick 1 (by simp)).drop.perm (List.Perm.cons _ (List.Perm.swap _ _ _))).weaken l9), (en12.alloc _).trans en13⟩
                  case measure => simp [intOf]; omega
                · have hb2 : (mt == t) = false := beq_eq_false_iff_ne.2 ht
                  rw [if_neg ht] at hs
                  replace hs := Lib.hid hs
                  clear ht
                  go_wp2_with fail
                  go_quiet (fail)
                  have h12 := h11.drewN nq
                  have en12 := en11.drewN nq
                  go_wp2_with fail
                  go_roundw
                  case rel =>
                    have h14 := h12.drop
                    exact ⟨m + 1, by omega, by go_num, by rw [hs.out]; first | exact (h14.perm (List.Perm.cons _ (List.Perm.swap _ _ _))).weaken l9 | exact (h14.swap.perm (List.Perm.cons _ (List.Perm.swap _ _ _))).weaken l9, en12⟩
                  case measure => simp [intOf]; omega
              · obtain rfl : m = lW'.length := by omega
                have g3 := hst.cell z3
                have gl := World.block_lt_of_cell? _ _ g3
                have hfk : Hid (forK t (lN'.map (·.2.1)) lN'.length = forK t (lW'.map (·.2.1)) lW'.length) := Lib.hid (by rw [absM_tos HI'.out.abs, hlen'])
                have hll : ((lN'.length : Int) != (lW'.length : Int)) = false := bne_eq_false_iff_eq.2 (by omega)
                go_wp2_with fail
                refine (netLen p room lN' H' _ _ (hst.pick 2 (by simp))).mono ?_
                rintro e w9 ⟨rfl, rfl⟩
                go_wp2_with fail
                refine (netFor p room t lN' (by omega) H' _ _ (hst.pick 2 (by simp))).mono ?_
                rintro e w9 ⟨v9, rfl, h9, en9⟩
                rw [hfk.out] at h9
                go_wp2_with fail
                refine (sameInts_eq _ _ _ _ rfl _ (h9.row_rw (by omega)) ((h9.pick 2 (by simp)).row_rw (by omega))).mono ?_
                rintro e w10 ⟨rfl, hb10⟩
                have h10 := h9.below hb10
                go_wp2_with fail
                go_roundw
                case rel =>
                  have h11 : St H' (Row 3 1 v9 _ :: NetA p room lN' :: Row 3 1 _ _ :: Row 59 3 _ (mscs lW') :: []) w10 := h10
                  exact ⟨k + 1, H', lN', lW', by omega, by go_num, Hp.le_trans hle1 l2, ((h11.drop.pick 1 (by simp)).drop).swap, (hen.trans en9).trans (bel_env hb10), HI'⟩
                case measure => simp [intOf]; omega
    · obtain rfl : k = acts.length := by omega
      go_wp2_with fail
      refine (works43 _).mono ?_
      rintro e w8 ⟨rfl, hb8⟩
      go_wp2_with fail
      go_ret
      exact ⟨rfl, ((hst.below hb8).weaken hle).toBelow (hen.trans (bel_env hb8))⟩
end Go.Proofs.Ytmdmekdmlkhchaa
