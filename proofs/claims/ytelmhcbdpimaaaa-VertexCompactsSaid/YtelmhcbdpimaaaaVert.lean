/- Records that are kept: what there is, New, Free, Floor, Status. -/
import Derived.Test.YtelmhcbdpimaaaaGraph
import Derived.Test.YtelmhcbdpimaaaaFront4
set_option linter.unusedVariables false
set_option linter.unusedSimpArgs false
namespace Go.Proofs.Ytelmhcbdpimaaaa
open Go.RowKit Go.Cw Go.Fl
attribute [local go_sem ↓] eql_id neq_id
/-- A record that is kept: it, and whether it is done. -/
abbrev Kp := Rc × Bool
abbrev kpV (x : Kp) : Value := .agg #[.int .i64 x.1.1.1, .int .i64 x.1.1.2, .int .i64 x.1.2.1, x.1.2.2.1, x.1.2.2.2.1, .bool x.2]
def kpC : Go.Cw.Code Try.prog 28 Id Kp where
  kv := idV
  vv := kpV
  inj := setC.inj
  kinds := kinds_id
def kids (K : List Kp) : List Id := K.map (fun x => x.1.1)
def entsK (K : List Kp) : List (Id × Kp) := K.map (fun x => (x.1.1, x))
theorem entsK_keys (K : List Kp) : (entsK K).map (·.1) = kids K := by simp [entsK, kids, List.map_map, Function.comp_def]
theorem entsK_len (K : List Kp) : (entsK K).length = K.length := by simp [entsK]
theorem entsK_look : ∀ (K : List Kp) (a : Id), mlook a (entsK K) = K.find? (fun x => decide (x.1.1 = a))
  | [], _ => rfl
  | x :: r, a => by
    show (if x.1.1 = a then some x else mlook a (entsK r)) = _
    by_cases h : x.1.1 = a
    · rw [if_pos h, List.find?_cons_of_pos (by simpa using h)]
    · rw [if_neg h, List.find?_cons_of_neg (by simpa using h), entsK_look r a]
abbrev kpZ : Value := .agg #[.int .i64 0, .int .i64 0, .int .i64 0, .slice none 0 0, .slice none 0 0, .bool false]
theorem zero_kp (w : World) : (zeroValue 122).run Try.prog w = .ok kpZ w := by kernel_rfl
/-- What is known of what is kept. -/
structure KpOk (H : Hp) (K : List Kp) : Prop where
  d : ∀ x ∈ K, RcD H x.1
  b : ∀ x ∈ K, x.1.2.2.2.2.1.length ≤ 16 ∧ x.1.2.2.2.2.2.length ≤ 8
  n : K.length ≤ 1000000
theorem KpOk.mono {H H' : Hp} {K : List Kp} (h : KpOk H K) (hl : Hp.le H H') : KpOk H' K := ⟨fun x hx => (h.d x hx).mono hl, h.b, h.n⟩
/-- What the look-up of an id yields. -/
def lookKp (K : List Kp) (a : Id) : Kp × Bool := match K.find? (fun x => decide (x.1.1 = a)) with
  | some x => (x, true)
  | none => ((zeroRc, false), false)
theorem look_at (K : List Kp) (a : Id) : kpC.at_ kpZ true (mlook a (entsK K)) = .tuple #[kpV (lookKp K a).1, .bool (lookKp K a).2] := by
  rw [entsK_look]
  unfold lookKp
  cases K.find? (fun x => decide (x.1.1 = a)) <;> rfl
theorem look_at0 (K : List Kp) (a : Id) : kpC.at_ kpZ false (mlook a (entsK K)) = kpV (lookKp K a).1 := by
  rw [entsK_look]
  unfold lookKp
  cases K.find? (fun x => decide (x.1.1 = a)) <;> rfl
theorem lookKp_mem {K : List Kp} {a : Id} (h : (lookKp K a).2 = true) : (lookKp K a).1 ∈ K ∧ (lookKp K a).1.1.1 = a := by
  unfold lookKp at *
  cases hf : K.find? (fun x => decide (x.1.1 = a)) with
  | none => rw [hf] at h; cases h
  | some x => exact ⟨List.mem_of_find?_eq_some hf, by simpa using List.find?_some hf⟩
theorem lookKp_iff (K : List Kp) (a : Id) : (lookKp K a).2 = decide (a ∈ kids K) := by
  unfold lookKp
  cases hf : K.find? (fun x => decide (x.1.1 = a)) with
  | none =>
    rw [decide_eq_false]
    intro h
    obtain ⟨x, hx, e⟩ := List.mem_map.1 h
    have := List.find?_eq_none.1 hf x hx
    simp [e] at this
  | some x =>
    rw [decide_eq_true]
    exact List.mem_map.2 ⟨x, List.mem_of_find?_eq_some hf, by simpa using List.find?_some hf⟩
theorem lookKp_no {K : List Kp} {a : Id} (h : (lookKp K a).2 = false) : (lookKp K a).1 = (zeroRc, false) := by
  unfold lookKp at *
  cases hf : K.find? (fun x => decide (x.1.1 = a)) with
  | none => rfl
  | some x => rw [hf] at h; cases h
theorem lookKp_d {H : Hp} {K : List Kp} (h : KpOk H K) (a : Id) : RcD H (lookKp K a).1.1 := by
  cases hb : (lookKp K a).2 with
  | true => exact h.d _ (lookKp_mem hb).1
  | false => rw [lookKp_no hb]; exact ⟨Rd.nil _ _, Rd.nil _ _, fun c hc => by simp at hc⟩
/-- The cells of a store. -/
def vsC (room : Int) (g f : Nat) (low : List Nat) : Array Value := (Value.int .i64 room :: .map (some g) :: frP f :: low.map (fun (n : Nat) => Value.int .i64 (n : Int))).toArray
theorem vsC_low (room : Int) (g f : Nat) (low : List Nat) (r : Nat) (hr : r < low.length) : (vsC room g f low)[3 + r]? = some (.int .i64 ((low.getD r 0 : Nat) : Int)) := by
  unfold vsC
  rw [show 3 + r = r + 1 + 1 + 1 by omega]
  simp [List.getElem?_map, hr]
theorem vsC_set (room : Int) (g f : Nat) (low : List Nat) (r n : Nat) (hr : r < low.length) : (vsC room g f low).setIfInBounds (3 + r) (.int .i64 (n : Int)) = vsC room g f (low.set r n) := by
  unfold vsC
  rw [show 3 + r = r + 1 + 1 + 1 by omega]
  simp [List.map_set]
/-- A store at p. -/
def VsA (p : Nat) (room : Int) (K : List Kp) (M : List Id) (low : List Nat) : HA := Ex fun g => Ex fun f => Star (Blk p (vsC room g f low) 120) (Star (Mp kpC g (entsK K)) (FrI f M))
abbrev vsP (p : Nat) : Value := .pointer (some ⟨p, 0, none⟩)
theorem vsOpen {H : Hp} {fr : List HA} {w : World} {p : Nat} {room : Int} {K : List Kp} {M : List Id} {low : List Nat} (h : St H (VsA p room K M low :: fr) w) :
    ∃ g f, St H (Blk p (vsC room g f low) 120 :: Mp kpC g (entsK K) :: FrI f M :: fr) w := by
  obtain ⟨g, h1⟩ := h.openEx
  obtain ⟨f, h2⟩ := h1.openEx
  exact ⟨g, f, h2.openStar.swap.openStar.perm (by
    refine (List.Perm.cons _ (List.Perm.swap _ _ _)).trans ?_
    exact List.Perm.swap _ _ _)⟩
theorem vsShut {H : Hp} {fr : List HA} {w : World} {p g f : Nat} {room : Int} {K : List Kp} {M : List Id} {low : List Nat} (h : St H (Blk p (vsC room g f low) 120 :: Mp kpC g (entsK K) :: FrI f M :: fr) w) : St H (VsA p room K M low :: fr) w := by
  have h1 : St H (Mp kpC g (entsK K) :: FrI f M :: Blk p (vsC room g f low) 120 :: fr) w := h.perm (by
    refine (List.Perm.swap _ _ _).trans ?_
    exact List.Perm.cons _ (List.Perm.swap _ _ _))
  exact St.shutEx g (St.shutEx f (h1.shutStar.swap.shutStar))
theorem vs_nodup {H : Hp} {fr : List HA} {w : World} {p : Nat} {room : Int} {K : List Kp} {M : List Id} {low : List Nat} (h : St H (VsA p room K M low :: fr) w) : (kids K).Nodup := by
  obtain ⟨g, f, h1⟩ := vsOpen h
  have := h1.swap.mp_nodup
  rwa [entsK_keys] at this
def VNewR (room : Int) (w : World) (e : Ending) (w' : World) : Prop :=
  (1 ≤ room ∧ room ≤ 4096 ∧ ∃ p, e = .returned (.tuple #[vsP p, .int .i64 0]) ∧ St (snap w) [VsA p room [] [] [0, 0, 0, 0, 0, 0, 0, 0]] w' ∧ Env w w') ∨
  (¬ (1 ≤ room ∧ room ≤ 4096) ∧ e = .returned (.tuple #[.pointer none, .int .i64 1]) ∧ Below w.heap.size w w')
set_option maxRecDepth 100000 in
set_option maxHeartbeats 1600000 in
theorem vsNew_any (room : Int) (w : World) : Calls Try.prog 40 #[.int .i64 room] w (VNewR room w) := by
  by_cases h1 : room < 1
  · go_enter Try.func40, Try.ntmps40
    go_wp2_with fail
    go_ret2
    exact .inr ⟨by omega, rfl, Below.refl _ _⟩
  · by_cases h2 : 4096 < room
    · go_enter Try.func40, Try.ntmps40
      go_wp2_with fail
      go_ret2
      exact .inr ⟨by omega, rfl, Below.refl _ _⟩
    · have m1 := run_makeMap (P := Try.prog) 116 w
      have k1 := (St.start w).mp_made (C := kpC)
      have en1 := (Env.refl w).alloc (.map #[] 0)
      go_enter Try.func40, Try.ntmps40
      go_wp2_with fail
      refine (frNew _).mono ?_
      rintro e w2 he
      obtain ⟨f, rfl, h2', en2⟩ := ResE.lift k1 he
      have h3 := h2'.blk (vsC room w.heap.size f [0, 0, 0, 0, 0, 0, 0, 0]) 120
      have en3 := (en1.trans en2).alloc (.cells (vsC room w.heap.size f [0, 0, 0, 0, 0, 0, 0, 0]) 120)
      have h4 : St (snap w) [VsA w2.heap.size room [] [] [0, 0, 0, 0, 0, 0, 0, 0]] (w2.alloc (.cells (vsC room w.heap.size f [0, 0, 0, 0, 0, 0, 0, 0]) 120)) := vsShut (h3.perm (List.Perm.cons _ (List.Perm.swap _ _ _)))
      have h5 : St (snap w) [VsA w2.heap.size room [] [] [0, 0, 0, 0, 0, 0, 0, 0]] (w2.alloc (.cells #[.int .i64 room, .map (some w.heap.size), frP f, .int .i64 0, .int .i64 0, .int .i64 0, .int .i64 0, .int .i64 0, .int .i64 0, .int .i64 0, .int .i64 0] 120)) := h4
      have en5 : Env w (w2.alloc (.cells #[.int .i64 room, .map (some w.heap.size), frP f, .int .i64 0, .int .i64 0, .int .i64 0, .int .i64 0, .int .i64 0, .int .i64 0, .int .i64 0, .int .i64 0] 120)) := en3
      clear h2' h3 h4 en3 he k1 m1 en1 en2
      go_wp2_with fail
      go_ret2
      exact .inl ⟨by omega, by omega, _, rfl, h5, en5⟩
set_option maxRecDepth 100000 in
theorem vsFree_nil (w : World) : Calls Try.prog 44 #[.pointer none] w fun e w' => e = .returned (.int .i64 0) ∧ w = w' := by
  go_enter Try.func44, Try.ntmps44
  go_wp2_with fail
  go_ret
  exact ⟨rfl, rfl⟩
set_option maxRecDepth 100000 in
theorem vsFloor_nil (i : Int) (w : World) : Calls Try.prog 47 #[.pointer none, .int .i64 i] w fun e w' => e = .returned (.int .i64 0) ∧ w = w' := by
  go_enter Try.func47, Try.ntmps47
  go_wp2_with fail
  go_ret
  exact ⟨rfl, rfl⟩
set_option maxRecDepth 100000 in
theorem vsCompact_nil (w : World) : Calls Try.prog 45 #[.pointer none] w fun e w' => e = .returned (.int .i64 0) ∧ w = w' := by
  go_enter Try.func45, Try.ntmps45
  go_wp2_with fail
  go_ret
  exact ⟨rfl, rfl⟩
set_option maxRecDepth 100000 in
theorem vsKept_nil (w : World) : Calls Try.prog 43 #[.pointer none] w fun e w' => e = .returned (.slice none 0 0) ∧ w = w' := by
  go_enter Try.func43, Try.ntmps43
  go_wp2_with fail
  go_ret
  exact ⟨rfl, rfl⟩
set_option maxRecDepth 100000 in
theorem vsStatus_nil (a : Id) (w : World) : Calls Try.prog 46 #[.pointer none, idV a] w fun e w' => e = .returned (.int .i64 0) ∧ Below w.heap.size w w' := by
  have hb := boxBelow w (.cells #[.int .i64 a.1, .int .i64 a.2] 28)
  go_enter Try.func46, Try.ntmps46
  go_wp2_with fail
  go_ret
  exact ⟨rfl, hb⟩
set_option maxRecDepth 100000 in
theorem vsPut_nil (x : Rc) (w : World) (hx : RcR w x) : Calls Try.prog 41 #[.pointer none, recV x] w fun e w' => e = .returned (.int .i64 2) ∧ Below w.heap.size w w' := by
  obtain ⟨d1, d2, d3, hdv, _⟩ := hx.d.form
  obtain ⟨b1, b2, b3, hbv, _⟩ := hx.b.form
  obtain ⟨⟨r, s⟩, q, xd, xb, xD, xB⟩ := x
  try simp only at hdv hbv
  subst hdv hbv
  have hb := boxBelow w (.cells #[.int .i64 r, .int .i64 s, .int .i64 q, .slice d1 d2 d3, .slice b1 b2 b3] 32)
  clear hx
  go_enter Try.func41, Try.ntmps41
  go_wp2_with fail
  go_ret
  exact ⟨rfl, hb⟩
set_option maxRecDepth 100000 in
set_option maxHeartbeats 800000 in
theorem vsDone_nil (a : Id) (w : World) : Calls Try.prog 42 #[.pointer none, idV a] w fun e w' => e = .returned (.bool false) ∧ Below w.heap.size w w' := by
  have hb := boxBelow w (.cells #[.int .i64 a.1, .int .i64 a.2] 28)
  obtain ⟨r, s⟩ := a
  obtain ⟨H1, l1, h1, y⟩ := (St.start w).box #[.int .i64 r, .int .i64 s] 28
  have y0 := h1.cell (y 0 _ rfl)
  have y1 := h1.cell (y 1 _ rfl)
  have yl := World.block_lt_of_cell? _ _ y0
  clear y
  go_enter Try.func42, Try.ntmps42
  go_wp2_with fail
  refine (vsStatus_nil (r, s) _).mono ?_
  rintro e w2 ⟨rfl, hb2⟩
  go_wp2_with fail
  go_ret
  exact ⟨rfl, hb.trans (hb2.mono hb.size)⟩
/-- What a record is. -/
def stK (K : List Kp) (M : List Id) (a : Id) : Int := if (lookKp K a).2 then (if (lookKp K a).1.2 then 2 else 1) else if a ∈ M then 3 else 0
end Go.Proofs.Ytelmhcbdpimaaaa
