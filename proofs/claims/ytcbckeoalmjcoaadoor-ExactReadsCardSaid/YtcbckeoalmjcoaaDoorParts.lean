/- exact.parts: the odd factor, and the power. -/
import Derived.Test.YtcbckeoalmjcoaaDoorMath3
import Derived.Test.YtcbckeoalmjcoaaDoorJump
set_option linter.unusedVariables false
set_option linter.unusedSimpArgs false
set_option exponentiation.threshold 3000
namespace Go.Proofs.YtcbckeoalmjcoaaDoor
open Go.RowKit Go.Cw Go.Fl
/-- A whole number with its sign. -/
def sg (s : Bool) (u : Nat) : Int := if s then -(u : Int) else (u : Int)
theorem sg_rem (s : Bool) (u : Nat) : (Int.tmod (sg s u) 2 = 0) ↔ u % 2 = 0 := by
  unfold sg
  cases s
  · simp only [Bool.false_eq_true, if_false]; rw [Int.tmod_eq_emod_of_nonneg (by omega)]; omega
  · simp only [if_true]; rw [Int.neg_tmod, Int.tmod_eq_emod_of_nonneg (by omega)]; omega
theorem sg_half (s : Bool) (v : Nat) : Int.tdiv (sg s (2 * v)) 2 = sg s v := by
  unfold sg
  cases s
  · simp only [Bool.false_eq_true, if_false]; rw [Int.tdiv_eq_ediv_of_nonneg (by omega)]; omega
  · simp only [if_true]; rw [Int.neg_tdiv, Int.tdiv_eq_ediv_of_nonneg (by omega)]; omega
theorem sg_wrap (s : Bool) {u : Nat} (h : u < 9223372036854775808) : wrap64 (sg s u) = sg s u := by
  unfold wrap64 sg
  cases s <;> simp <;> omega
/-- A rung's odd factor, and its power of two. -/
structure OddR (r u t : Nat) : Prop where
  odd : u % 2 = 1
  lt : u < 9007199254740992
  v : V r = u * 2 ^ t
  t : t < 2098
theorem odd_split (n : Nat) (h : n ≠ 0) : ∃ o s, o % 2 = 1 ∧ n = o * 2 ^ s := by
  induction n using Nat.strongRecOn with
  | _ n ih =>
    by_cases h2 : n % 2 = 1
    · exact ⟨n, 0, h2, by simp⟩
    · obtain ⟨o, s, h3, h4⟩ := ih (n / 2) (by omega) (by omega)
      refine ⟨o, s + 1, h3, ?_⟩
      rw [Nat.pow_succ, ← Nat.mul_assoc, ← h4]
      omega
theorem oddR_of {r k q u t : Nat} (hr : r < top) (h0 : r ≠ 0) (hu : u % 2 = 1) (hl : u < 9007199254740992) (h : V r * 2 ^ k = u * 2 ^ t * 2 ^ q) : ∃ t', OddR r u t' ∧ t' + k = t + q := by
  obtain ⟨o, s, h1, h2⟩ := odd_split (V r) (fun e => h0 (V_zero.1 e))
  rw [h2, Nat.mul_assoc, Nat.mul_assoc, ← Nat.pow_add, ← Nat.pow_add] at h
  obtain ⟨rfl, h4⟩ := odd_uniq h1 hu h
  refine ⟨s, ⟨hu, hl, h2, ?_⟩, by omega⟩
  have h5 : V r < V top := V_inj_lt hr
  rw [V_top, h2] at h5
  have h6 : 2 ^ s < 2 ^ xt := Nat.lt_of_le_of_lt (Nat.le_mul_of_pos_left _ (by omega)) h5
  exact (Nat.pow_lt_pow_iff_right (by decide)).1 h6
/-- A frame of 26 slots of which two are known. -/
theorem act26 (a : Act) (p q : Value) (h : a.tmps.size = 26) (hd : a.defers = []) (h5 : a.tmps[5]? = some p) (h6 : a.tmps[6]? = some q) :
    ∃ us : Nat → Value, a = { tmps := #[us 0, us 1, us 2, us 3, us 4, p, q, us 7, us 8, us 9, us 10, us 11, us 12, us 13, us 14, us 15, us 16, us 17, us 18, us 19, us 20, us 21, us 22, us 23, us 24, us 25], defers := [] } := by
  have key : ∀ us : Nat → Value, ((List.range 26).map us).toArray = #[us 0, us 1, us 2, us 3, us 4, us 5, us 6, us 7, us 8, us 9, us 10, us 11, us 12, us 13, us 14, us 15, us 16, us 17, us 18, us 19, us 20, us 21, us 22, us 23, us 24, us 25] := fun us => rfl
  obtain ⟨t, d⟩ := a
  simp only at h hd h5 h6
  subst hd
  have e5 : t.getD 5 undef = p := by rw [Array.getD_eq_getD_getElem?, h5]; rfl
  have e6 : t.getD 6 undef = q := by rw [Array.getD_eq_getD_getElem?, h6]; rfl
  have hk : t = ((List.range 26).map (fun i => t.getD i undef)).toArray := by
    apply Array.ext
    · simp [h]
    · intro i hi hi'
      simp [Array.getD, hi]
  refine ⟨fun i => t.getD i undef, ?_⟩
  have hk2 := hk.trans (key _)
  rw [e5, e6] at hk2
  exact congrArg (fun x => Act.mk x []) hk2
/-- What holds at the label. -/
def PJ (s : Bool) (Q : Ending → World → Prop) (w : World) : Nat → Act → World → Prop := fun n a' w' =>
  ∃ (u : Nat) (x : Int), a'.tmps.size = 26 ∧ a'.defers = [] ∧ a'.tmps[5]? = some (.int .i64 x) ∧ a'.tmps[6]? = some (.int .i64 (sg s u)) ∧ n = u ∧ u ≠ 0 ∧ u < 9007199254740992 ∧ -3000 ≤ x ∧ x + (u : Int) < 9223372036854775807 ∧ Hid (∀ v j : Nat, u = v * 2 ^ j → v % 2 = 1 → Q (.returned (.tuple #[.int .i64 (sg s v), .int .i64 (x + (j : Int))])) w) ∧ w' = w
theorem PJ.mk {s : Bool} {Q : Ending → World → Prop} {w : World} {n : Nat} {a' : Act} {w' : World} (u : Nat) (x : Int) (x1 : a'.tmps.size = 26) (x2 : a'.defers = []) (x3 : a'.tmps[5]? = some (.int .i64 x)) (x4 : a'.tmps[6]? = some (.int .i64 (sg s u))) (x5 : n = u) (x6 : u ≠ 0) (x7 : u < 9007199254740992) (x8 : -3000 ≤ x) (x9 : x + (u : Int) < 9223372036854775807) (x10 : Hid (∀ v j : Nat, u = v * 2 ^ j → v % 2 = 1 → Q (.returned (.tuple #[.int .i64 (sg s v), .int .i64 (x + (j : Int))])) w)) (x11 : w' = w) : PJ s Q w n a' w' := ⟨u, x, x1, x2, x3, x4, x5, x6, x7, x8, x9, x10, x11⟩
theorem PJ.out {s : Bool} {Q : Ending → World → Prop} {w : World} {n : Nat} {a' : Act} {w' : World} (h : PJ s Q w n a' w') :
    ∃ (p q : Value) (u : Nat) (x : Int) (us : Nat → Value), a' = { tmps := #[us 0, us 1, us 2, us 3, us 4, p, q, us 7, us 8, us 9, us 10, us 11, us 12, us 13, us 14, us 15, us 16, us 17, us 18, us 19, us 20, us 21, us 22, us 23, us 24, us 25], defers := [] } ∧ p = .int .i64 x ∧ q = .int .i64 (sg s u) ∧ n = u ∧ u ≠ 0 ∧ u < 9007199254740992 ∧ -3000 ≤ x ∧ x + (u : Int) < 9223372036854775807 ∧ Hid (∀ v j : Nat, u = v * 2 ^ j → v % 2 = 1 → Q (.returned (.tuple #[.int .i64 (sg s v), .int .i64 (x + (j : Int))])) w) ∧ w' = w := by
  obtain ⟨u, x, x1, x2, x3, x4, x5⟩ := h
  obtain ⟨us, he⟩ := act26 a' _ _ x1 x2 x3 x4
  exact ⟨_, _, u, x, us, he, rfl, rfl, x5⟩
theorem conv_any {c m : Nat} {s : Bool} {P : Program} (hc : rung c < top) (hs : neg c = s) (hv : V (rung c) / 2 ^ un = m) (hm : m < 9223372036854775808) (w : World) : (Go.Conv.floatToInt .f64 c .i64).run P w = .ok (.int .i64 (sg s m)) w := by
  have h := toInt_num hc
  rw [hv, hs] at h
  have h2 : (FloatKind.f64.decode c).toInt .zero = some (sg s m) := h
  have h3 : IntKind.i64.min ≤ sg s m ∧ sg s m ≤ IntKind.i64.max := by
    have e1 : IntKind.i64.min = -9223372036854775808 := by decide
    have e2 : IntKind.i64.max = 9223372036854775807 := by decide
    rw [e1, e2]
    unfold sg
    cases s <;> simp <;> omega
  unfold Go.Conv.floatToInt
  rw [h2]
  simp only [if_pos h3]
  rfl
theorem convert_any {c m : Nat} {s : Bool} (hc : rung c < top) (hs : neg c = s) (hv : V (rung c) / 2 ^ un = m) (hm : m < 9223372036854775808) (w : World) : (convert 40 2 (.float .f64 c)).run Tryd.prog w = .ok (.int .i64 (sg s m)) w := by
  have h := conv_any (P := Tryd.prog) hc hs hv hm w
  have u1 : Tryd.prog.underlying 40 = some (.float .f64) := by kernel_rfl
  have u2 : Tryd.prog.underlying 2 = some (.int .i64) := by kernel_rfl
  simp [convert, run_underlying u1, run_underlying u2, Result.andThen, h]
set_option maxRecDepth 100000 in
set_option maxHeartbeats 1600000 in
theorem parts_any (b : Nat) (hb : b < 18446744073709551616) (hf : rung b < top) (h0 : rung b ≠ 0) (w : World) :
    Calls Tryd.prog 51 #[.float .f64 b] w fun e w' => ∃ u t : Nat, OddR (rung b) u t ∧ e = .returned (.tuple #[.int .i64 (sg (neg b) u), .int .i64 ((t : Int) - 1074)]) ∧ w = w' := by
  have hfin : ∀ u t : Nat, OddR (rung b) u t → (fun (e : Ending) (w' : World) => ∃ u t : Nat, OddR (rung b) u t ∧ e = .returned (.tuple #[.int .i64 (sg (neg b) u), .int .i64 ((t : Int) - 1074)]) ∧ w = w') (.returned (.tuple #[.int .i64 (sg (neg b) u), .int .i64 ((t : Int) - 1074)])) w := fun u t h => ⟨u, t, h, rfl, rfl⟩
  generalize (fun (e : Ending) (w' : World) => ∃ u t : Nat, OddR (rung b) u t ∧ e = .returned (.tuple #[.int .i64 (sg (neg b) u), .int .i64 ((t : Int) - 1074)]) ∧ w = w') = Q at *
  replace hfin := Lib.hid hfin
  have hF := Lib.hid (frexpM_any b hb hf h0 w)
  replace hb := Lib.hid hb
  replace hf := Lib.hid hf
  replace h0 := Lib.hid h0
  go_enter Tryd.func51, Tryd.ntmps51
  go_wp2_with fail
  refine wp_jumps_skip 0 (PJ (neg b) Q w) rfl (fun hRest => ?_) ?_
  rotate_left
  · intro n act wr hj
    obtain ⟨p, z, u, x, us, rfl, rfl, rfl, hn, hu0, hul, hx1, hx2, hq, rfl⟩ := hj.out
    obtain rfl : u = n := hn.symm
    clear hj hF hb hf h0 hfin
    generalize neg b = s at *
    by_cases hu : u % 2 = 1
    · have hz := hq.out u 0 (by simp) hu
      rw [show x + ((0 : Nat) : Int) = x by omega] at hz
      replace hz := Lib.hid hz
      have h2 : (Int.tmod (sg s u) 2 == 0) = false := beq_eq_false_iff_ne.2 (fun e => by rw [sg_rem] at e; omega)
      generalize sg s u = m at *
      clear hq hu hul hu0 hx1 hx2
      go_wp2_with fail
      exact hz.out
    · have h2 : Int.tmod (sg s u) 2 = 0 := by rw [sg_rem]; omega
      have h1 : (Int.tmod (sg s u) 2 == 0) = true := beq_iff_eq.2 h2
      clear h2
      obtain ⟨v, rfl⟩ : ∃ v, u = 2 * v := ⟨u / 2, by omega⟩
      have h3 : Int.tdiv (sg s (2 * v)) 2 = sg s v := sg_half s v
      have h4 : wrap64 (sg s v) = sg s v := sg_wrap s (by omega)
      have h5 : wrap64 (x + 1) = x + 1 := by unfold wrap64; omega
      have hJ : ∀ a', a'.tmps.size = 26 → a'.defers = [] → a'.tmps[5]? = some (.int .i64 (x + 1)) → a'.tmps[6]? = some (.int .i64 (sg s v)) → ∃ m, m < 2 * v ∧ PJ s Q wr m a' wr := fun a' y1 y2 y3 y4 => ⟨v, by omega, PJ.mk v (x + 1) y1 y2 y3 y4 rfl (by omega) (by omega) (by omega) (by omega) (Lib.hid fun o j ho ho2 => by
        have := hq.out o (j + 1) (by rw [ho, Nat.pow_succ]; simp only [Nat.mul_comm, Nat.mul_left_comm]) ho2
        rw [show x + ((j + 1 : Nat) : Int) = x + 1 + (j : Int) by omega] at this
        exact this) rfl⟩
      replace hJ := Lib.hid hJ
      generalize sg s (2 * v) = m at *
      generalize sg s v = m2 at *
      clear hq hu hul hu0 hx1 hx2
      go_wp2_with fail
      refine wp_goto ?_
      exact ⟨rfl, hJ.out _ rfl rfl rfl rfl⟩
  go_wp2_with fail
  refine hF.out.mono ?_
  clear hF
  rintro e w1 ⟨r', k, hR, rfl, rfl⟩
  have hB0 : 0 < B := by decide
  obtain ⟨f, hff⟩ : ∃ f, f = r' % B := ⟨_, rfl⟩
  obtain ⟨q, hq⟩ : ∃ q, q = r' / B := ⟨_, rfl⟩
  have hfB : f < B := by rw [hff]; exact Nat.mod_lt _ hB0
  have hr' : r' = q * B + f := by rw [hff, hq, Nat.mul_comm]; exact (Nat.div_add_mod _ _).symm
  have hq1 : 1 ≤ q := by rw [hq]; exact (Nat.le_div_iff_mul_le hB0).2 (by rw [Nat.one_mul]; exact hR.ge)
  have hq2 : q ≤ 2046 := by
    have := hR.lt
    have e1 : top = 2047 * B := by decide
    apply Classical.byContradiction
    intro hn
    have : 2047 * B ≤ q * B := Nat.mul_le_mul_right _ (by omega)
    omega
  have hV : V (rung b) * 2 ^ k = (B + f) * 2 ^ (q - 1) := by rw [← hR.v, hr', V_at hq1 hfB]
  rw [← hff, ← hq]
  have t0 := at_top (c := 1022) (by decide) hfB
  have t1 := at_top (c := 1075) (by decide) hfB
  have t2 : 1022 * B + f ≠ 0 := by have : 0 < 1022 * B := by decide
                                   omega
  obtain ⟨g1, g2, g3⟩ := word_rung (s := neg b) (Nat.lt_trans t0 (show top < half by decide))
  have hL := ldexpM_any (Ieee.double.word (neg b) (1022 * B + f)) g3 (by rw [g1]; exact t0) (by rw [g1]; exact t2) 53 (by decide) (by decide) w
  have hLd : ∀ c, LdR (Ieee.double.word (neg b) (1022 * B + f)) 53 c → c = Ieee.double.word (neg b) (1075 * B + f) := fun c h => by
    have := h.2 (1075 * B + f) 53 0 t1 (by decide) (by rw [g1, V_at (by decide) hfB, V_at (by decide) hfB, Nat.mul_assoc, ← Nat.pow_add, Nat.pow_zero, Nat.mul_one])
    rw [g2] at this
    exact this
  obtain ⟨j1, j2, j3⟩ := word_rung (s := neg b) (Nat.lt_trans t1 (show top < half by decide))
  have hcv : ∀ w, (convert 40 2 (.float .f64 (Ieee.double.word (neg b) (1075 * B + f)))).run Tryd.prog w = .ok (.int .i64 (sg (neg b) (B + f))) w := fun w => convert_any (by rw [j1]; exact t1) j2 (by
    rw [j1, V_at (by decide) hfB, show un = 1075 - 1 from rfl]
    exact Nat.mul_div_cancel _ (Nat.two_pow_pos _)) (by have : B + B = 9007199254740992 := by decide
                                                        omega) w
  have hk := hR.k
  have hBB : B + f < 9007199254740992 := by have : B + B = 9007199254740992 := by decide
                                            omega
  have hB1 : B + f ≠ 0 := by omega
  generalize Ieee.double.word (neg b) (1022 * B + f) = c0 at *
  generalize Ieee.double.word (neg b) (1075 * B + f) = c1 at *
  have hfinU : Hid (∀ u t : Nat, B + f = u * 2 ^ t → u % 2 = 1 → Q (.returned (.tuple #[.int .i64 (sg (neg b) u), .int .i64 ((q : Int) - 1022 - (k : Int) - 53 + (t : Int))])) w) := Lib.hid fun u t h1 h2 => by
    have hul : u < 9007199254740992 := by
      have : u * 1 ≤ u * 2 ^ t := Nat.mul_le_mul_left _ (Nat.two_pow_pos t)
      omega
    obtain ⟨t', hO, ht⟩ := oddR_of hf.out h0.out h2 hul (show V (rung b) * 2 ^ k = u * 2 ^ t * 2 ^ (q - 1) by rw [hV, h1])
    have := hfin.out u t' hO
    rw [show (t' : Int) - 1074 = (q : Int) - 1022 - (k : Int) - 53 + (t : Int) by omega] at this
    exact this
  have hJ : ∀ a', a'.tmps.size = 26 → a'.defers = [] → a'.tmps[5]? = some (.int .i64 ((q : Int) - 1022 - (k : Int) - 53)) → a'.tmps[6]? = some (.int .i64 (sg (neg b) (B + f))) → PJ (neg b) Q w (B + f) a' w := fun a' y1 y2 y3 y4 => PJ.mk (B + f) _ y1 y2 y3 y4 rfl hB1 hBB (by omega) (by omega) hfinU rfl
  replace hJ := Lib.hid hJ
  have e1 : wrap64 ((q : Int) - 1022 - (k : Int) - 53) = (q : Int) - 1022 - (k : Int) - 53 := by unfold wrap64; omega
  generalize B + f = M at *
  replace hL := Lib.hid hL
  replace hLd := Lib.hid hLd
  replace hBB := Lib.hid hBB
  replace hB1 := Lib.hid hB1
  clear hfin hfinU hR hr' hq1 hq2 hV g1 g2 g3 j1 j2 j3 t0 t1 t2 hf h0 hk hfB hff hq hB0
  go_wp2_with fail
  refine hL.out.mono ?_
  rintro e w1 ⟨c, hc, rfl, rfl⟩
  obtain rfl := hLd.out c hc
  clear hL hLd hc
  go_wp2_with fail
  go_step3
  refine (‹∀ (a : Act) (w : World), Code.wp Tryd.prog _ _ a w → _› _ _ (hRest M _ _ ?_))
  exact hJ.out _ rfl rfl (congrArg (fun x => some (Value.int IntKind.i64 x)) e1) rfl
end Go.Proofs.YtcbckeoalmjcoaaDoor
