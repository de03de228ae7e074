/- Joined texts: Front4, Vert, Vert2, RSame. -/
import Derived.Test.YtelmhcbdpimaaaaVA7
import Derived.Test.YtelmhcbdpimaaaaVA8
/- Ids marked: what a front tells. -/
set_option linter.unusedVariables false
set_option linter.unusedSimpArgs false
namespace Go.Proofs.Ytelmhcbdpimaaaa
open Go.RowKit Go.Cw
attribute [local go_sem ↓] eql_id neq_id
/-- n is the floor of replica r. -/
def FlP (M : List Id) (r : Int) (n : Nat) : Prop := (∀ m : Nat, 1 ≤ m → m ≤ n → (r, (m : Int)) ∈ M) ∧ (r, ((n + 1 : Nat) : Int)) ∉ M
theorem FlP.one {M : List Id} {r : Int} {n m : Nat} (h : FlP M r n) (h' : FlP M r m) : n = m := by
  rcases Nat.lt_trichotomy n m with h1 | h1 | h1
  · exact absurd (h'.1 (n + 1) (by omega) h1) h.2
  · exact h1
  · exact absurd (h.1 (m + 1) (by omega) h1) h'.2
theorem FI.floor {M : List Id} {F : List Nat} {L : List Id} (h : FI M F L) (hC : ∀ q, q < 8 → FC F L q) (r : Nat) (hr : r < 8) : FlP M r (F.getD r 0) := by
  refine ⟨fun m h1 h2 => h.under r m hr h1 h2, fun hm => ?_⟩
  rcases h.all _ hm with h1 | h1
  · exact hC r hr h1
  · simp only [Int.toNat_natCast] at h1
    omega
theorem FI.floorA {M : List Id} {F : List Nat} {L : List Id} (h : FI M F L) (hC : ∀ q, q < 8 → FC F L q) (a : Id) (ha : a ∈ M) : FlP M a.1 (F.getD a.1.toNat 0) := by
  have hk := (idOk_iff a).1 (h.ok a ha)
  have := h.floor hC a.1.toNat (by omega)
  rwa [show ((a.1.toNat : Nat) : Int) = a.1 by omega] at this
set_option maxRecDepth 100000 in
theorem frFloor_nil (i : Int) (w : World) : Calls Try.prog 84 #[.pointer none, .int .i64 i] w fun e w' => e = .returned (.int .i64 0) ∧ w = w' := by
  go_enter Try.func84, Try.ntmps84
  go_wp2_with fail
  go_ret
  exact ⟨rfl, rfl⟩
set_option maxRecDepth 100000 in
theorem frFloor_out (p : Nat) (i : Int) (hi : i < 0 ∨ 8 ≤ i) (w : World) : Calls Try.prog 84 #[frP p, .int .i64 i] w fun e w' => e = .returned (.int .i64 0) ∧ w = w' := by
  rcases hi with hi | hi
  · go_enter Try.func84, Try.ntmps84
    go_wp2_with fail
    go_ret
    exact ⟨rfl, rfl⟩
  · have hi' : ¬ i < 0 := by omega
    go_enter Try.func84, Try.ntmps84
    go_wp2_with fail
    go_ret
    exact ⟨rfl, rfl⟩
set_option maxRecDepth 100000 in
theorem frFloor_in (p r : Nat) (hr : r < 8) (M : List Id) (H : Hp) (fr : List HA) (w : World) (h : St H (FrI p M :: fr) w) : Calls Try.prog 84 #[frP p, .int .i64 (r : Int)] w fun e w' => ∃ n : Nat, e = .returned (.int .i64 (n : Int)) ∧ w = w' ∧ FlP M r n := by
  obtain ⟨F, L, s, ⟨h1, h2⟩, h3⟩ := frOpen h
  have cr := h3.blk_cell r
  rw [frC_get F s r (by rw [h1.len]; omega)] at cr
  have cl := h3.blk_lt
  have hf := h1.floor h2 r hr
  have hr1 : ¬ (r : Int) < 0 := by omega
  have hr2 : ¬ (8 : Int) ≤ (r : Int) := by omega
  have hr3 : (r : Int) < 8 := by omega
  have hr4 : (0 : Int) ≤ (r : Int) := by omega
  obtain ⟨f, hf'⟩ : ∃ f, Hid (f = F.getD r 0) := ⟨_, Lib.hid rfl⟩
  rw [← hf'.out] at cr hf
  clear h1 h2 h3 h
  replace hf := Lib.hid hf
  go_enter Try.func84, Try.ntmps84
  go_wp2_with fail
  go_ret
  exact ⟨f, rfl, rfl, hf.out⟩
/-- What stands above the floors. -/
def AbP (M R : List Id) : Prop := Rises R ∧ ∀ a, a ∈ R ↔ (a ∈ M ∧ ∀ n, FlP M a.1 n → (n : Int) < a.2)
theorem AbP.one {M R S : List Id} (h : AbP M R) (h' : AbP M S) : R = S := rises_eq h.1 h'.1 (fun a => by rw [h.2, h'.2])
theorem len8 {F : List Nat} (h : F.length = 8) : ∃ a b c d e f g i, F = [a, b, c, d, e, f, g, i] := by
  match F, h with
  | [a, b, c, d, e, f, g, i], _ => exact ⟨a, b, c, d, e, f, g, i, rfl⟩
theorem aget {arr : Array Value} {i : Nat} {hi : i < arr.size} (k : Nat) (v : Value) (hk : i = k) (hv : arr[k]? = some v) : arr[i] = v := by
  subst hk
  rw [Array.getElem?_eq_getElem hi] at hv
  exact Option.some.inj hv
set_option maxRecDepth 100000 in
theorem frNew (w : World) : Calls Try.prog 81 #[] w (ResE (snap w) [] w (fun p => frP p) (fun p => [FrI p []])) := by
  go_enter Try.func81, Try.ntmps81
  go_wp2_with fail
  refine (setNew_any (.slice none 0 0) [] w (Rw.nil _ _)).mono ?_
  rintro e w2 ⟨s, rfl, h2, en2⟩
  have h3 := h2.blk (frC [0, 0, 0, 0, 0, 0, 0, 0] s) 147
  have en3 := en2.alloc (.cells (frC [0, 0, 0, 0, 0, 0, 0, 0] s) 147)
  have hF : FI [] [0, 0, 0, 0, 0, 0, 0, 0] [] := ⟨rfl, List.Pairwise.nil, fun a ha => by simp at ha, fun a ha => by simp at ha, fun a ha => by simp at ha, fun r n hr h1 h2 => by
    rcases (by omega : r = 0 ∨ r = 1 ∨ r = 2 ∨ r = 3 ∨ r = 4 ∨ r = 5 ∨ r = 6 ∨ r = 7) with rfl | rfl | rfl | rfl | rfl | rfl | rfl | rfl <;> (simp at h2; omega), rfl⟩
  have h4 := frShut (p := w2.heap.size) (s := s) (M := []) (L := []) hF (fun q hq hm => by simp at hm) h3
  have h5 : St (snap w) [FrI w2.heap.size []] (w2.alloc (.cells #[.int .i64 0, .int .i64 0, .int .i64 0, .int .i64 0, .int .i64 0, .int .i64 0, .int .i64 0, .int .i64 0, setP s] 147)) := h4
  have en5 : Env w (w2.alloc (.cells #[.int .i64 0, .int .i64 0, .int .i64 0, .int .i64 0, .int .i64 0, .int .i64 0, .int .i64 0, .int .i64 0, setP s] 147)) := en3
  clear h4 h3 en3 hF
  go_wp2_with fail
  go_ret
  exact ⟨w2.heap.size, rfl, h5, en5⟩
theorem dedup_nodup : ∀ (l acc : List Id), acc.Nodup → (l.foldl (fun L a => addL a L) acc).Nodup
  | [], acc, h => h
  | x :: r, acc, h => by
    refine dedup_nodup r _ ?_
    show (addL x acc).Nodup
    unfold addL
    split
    · exact h
    · rename_i hx
      exact List.nodup_append.2 ⟨h, by simp, fun a ha b hb e => by rw [List.mem_singleton] at hb; subst hb; subst e; exact hx ha⟩
theorem FI.congr {M : List Id} {F : List Nat} {L L' : List Id} (h : FI M F L) (hm : ∀ a, a ∈ L' ↔ a ∈ L) (hl : L'.length = L.length) : FI M F L' :=
  ⟨h.len, h.rises, h.ok, fun a ha => h.above a ((hm a).1 ha), fun a ha => (h.all a ha).imp_left (hm a).2, h.under, by rw [hl]; exact h.count⟩
end Go.Proofs.Ytelmhcbdpimaaaa

/- Records that are kept: what there is, New, Free, Floor, Status. -/
set_option linter.unusedVariables false
set_option linter.unusedSimpArgs false
namespace Go.Proofs.Ytelmhcbdpimaaaa
open Go.RowKit Go.Cw Go.Fl
attribute [local go_sem ↓] eql_id neq_id
/-- A record that is kept: it, and whether it is done. -/
abbrev Kp := Rc × Bool
abbrev kpV (x : Kp) : Value := .agg #[.int .i64 x.1.1.1, .int .i64 x.1.1.2, .int .i64 x.1.2.1, x.1.2.2.1, x.1.2.2.2.1, .bool x.2]
def kpC : Go.Cw.Code Try.prog 28 Id Kp where
  kv := idV
  vv := kpV
  inj := setC.inj
  kinds := kinds_id
def kids (K : List Kp) : List Id := K.map (fun x => x.1.1)
def entsK (K : List Kp) : List (Id × Kp) := K.map (fun x => (x.1.1, x))
theorem entsK_keys (K : List Kp) : (entsK K).map (·.1) = kids K := by simp [entsK, kids, List.map_map, Function.comp_def]
theorem entsK_len (K : List Kp) : (entsK K).length = K.length := by simp [entsK]
theorem entsK_look : ∀ (K : List Kp) (a : Id), mlook a (entsK K) = K.find? (fun x => decide (x.1.1 = a))
  | [], _ => rfl
  | x :: r, a => by
    show (if x.1.1 = a then some x else mlook a (entsK r)) = _
    by_cases h : x.1.1 = a
    · rw [if_pos h, List.find?_cons_of_pos (by simpa using h)]
    · rw [if_neg h, List.find?_cons_of_neg (by simpa using h), entsK_look r a]
abbrev kpZ : Value := .agg #[.int .i64 0, .int .i64 0, .int .i64 0, .slice none 0 0, .slice none 0 0, .bool false]
theorem zero_kp (w : World) : (zeroValue 122).run Try.prog w = .ok kpZ w := by kernel_rfl
/-- What is known of what is kept. -/
structure KpOk (H : Hp) (K : List Kp) : Prop where
  d : ∀ x ∈ K, RcD H x.1
  b : ∀ x ∈ K, x.1.2.2.2.2.1.length ≤ 16 ∧ x.1.2.2.2.2.2.length ≤ 8
  n : K.length ≤ 1000000
theorem KpOk.mono {H H' : Hp} {K : List Kp} (h : KpOk H K) (hl : Hp.le H H') : KpOk H' K := ⟨fun x hx => (h.d x hx).mono hl, h.b, h.n⟩
/-- What the look-up of an id yields. -/
def lookKp (K : List Kp) (a : Id) : Kp × Bool := match K.find? (fun x => decide (x.1.1 = a)) with
  | some x => (x, true)
  | none => ((zeroRc, false), false)
theorem look_at (K : List Kp) (a : Id) : kpC.at_ kpZ true (mlook a (entsK K)) = .tuple #[kpV (lookKp K a).1, .bool (lookKp K a).2] := by
  rw [entsK_look]
  unfold lookKp
  cases K.find? (fun x => decide (x.1.1 = a)) <;> rfl
theorem look_at0 (K : List Kp) (a : Id) : kpC.at_ kpZ false (mlook a (entsK K)) = kpV (lookKp K a).1 := by
  rw [entsK_look]
  unfold lookKp
  cases K.find? (fun x => decide (x.1.1 = a)) <;> rfl
theorem lookKp_mem {K : List Kp} {a : Id} (h : (lookKp K a).2 = true) : (lookKp K a).1 ∈ K ∧ (lookKp K a).1.1.1 = a := by
  unfold lookKp at *
  cases hf : K.find? (fun x => decide (x.1.1 = a)) with
  | none => rw [hf] at h; cases h
  | some x => exact ⟨List.mem_of_find?_eq_some hf, by simpa using List.find?_some hf⟩
theorem lookKp_iff (K : List Kp) (a : Id) : (lookKp K a).2 = decide (a ∈ kids K) := by
  unfold lookKp
  cases hf : K.find? (fun x => decide (x.1.1 = a)) with
  | none =>
    rw [decide_eq_false]
    intro h
    obtain ⟨x, hx, e⟩ := List.mem_map.1 h
    have := List.find?_eq_none.1 hf x hx
    simp [e] at this
  | some x =>
    rw [decide_eq_true]
    exact List.mem_map.2 ⟨x, List.mem_of_find?_eq_some hf, by simpa using List.find?_some hf⟩
theorem lookKp_no {K : List Kp} {a : Id} (h : (lookKp K a).2 = false) : (lookKp K a).1 = (zeroRc, false) := by
  unfold lookKp at *
  cases hf : K.find? (fun x => decide (x.1.1 = a)) with
  | none => rfl
  | some x => rw [hf] at h; cases h
theorem lookKp_d {H : Hp} {K : List Kp} (h : KpOk H K) (a : Id) : RcD H (lookKp K a).1.1 := by
  cases hb : (lookKp K a).2 with
  | true => exact h.d _ (lookKp_mem hb).1
  | false => rw [lookKp_no hb]; exact ⟨Rd.nil _ _, Rd.nil _ _, fun c hc => by simp at hc⟩
/-- The cells of a store. -/
def vsC (room : Int) (g f : Nat) (low : List Nat) : Array Value := (Value.int .i64 room :: .map (some g) :: frP f :: low.map (fun (n : Nat) => Value.int .i64 (n : Int))).toArray
theorem vsC_low (room : Int) (g f : Nat) (low : List Nat) (r : Nat) (hr : r < low.length) : (vsC room g f low)[3 + r]? = some (.int .i64 ((low.getD r 0 : Nat) : Int)) := by
  unfold vsC
  rw [show 3 + r = r + 1 + 1 + 1 by omega]
  simp [List.getElem?_map, hr]
theorem vsC_set (room : Int) (g f : Nat) (low : List Nat) (r n : Nat) (hr : r < low.length) : (vsC room g f low).setIfInBounds (3 + r) (.int .i64 (n : Int)) = vsC room g f (low.set r n) := by
  unfold vsC
  rw [show 3 + r = r + 1 + 1 + 1 by omega]
  simp [List.map_set]
/-- A store at p. -/
def VsA (p : Nat) (room : Int) (K : List Kp) (M : List Id) (low : List Nat) : HA := Ex fun g => Ex fun f => Star (Blk p (vsC room g f low) 120) (Star (Mp kpC g (entsK K)) (FrI f M))
abbrev vsP (p : Nat) : Value := .pointer (some ⟨p, 0, none⟩)
theorem vsOpen {H : Hp} {fr : List HA} {w : World} {p : Nat} {room : Int} {K : List Kp} {M : List Id} {low : List Nat} (h : St H (VsA p room K M low :: fr) w) :
    ∃ g f, St H (Blk p (vsC room g f low) 120 :: Mp kpC g (entsK K) :: FrI f M :: fr) w := by
  obtain ⟨g, h1⟩ := h.openEx
  obtain ⟨f, h2⟩ := h1.openEx
  exact ⟨g, f, h2.openStar.swap.openStar.perm (by
    refine (List.Perm.cons _ (List.Perm.swap _ _ _)).trans ?_
    exact List.Perm.swap _ _ _)⟩
theorem vsShut {H : Hp} {fr : List HA} {w : World} {p g f : Nat} {room : Int} {K : List Kp} {M : List Id} {low : List Nat} (h : St H (Blk p (vsC room g f low) 120 :: Mp kpC g (entsK K) :: FrI f M :: fr) w) : St H (VsA p room K M low :: fr) w := by
  have h1 : St H (Mp kpC g (entsK K) :: FrI f M :: Blk p (vsC room g f low) 120 :: fr) w := h.perm (by
    refine (List.Perm.swap _ _ _).trans ?_
    exact List.Perm.cons _ (List.Perm.swap _ _ _))
  exact St.shutEx g (St.shutEx f (h1.shutStar.swap.shutStar))
theorem vs_nodup {H : Hp} {fr : List HA} {w : World} {p : Nat} {room : Int} {K : List Kp} {M : List Id} {low : List Nat} (h : St H (VsA p room K M low :: fr) w) : (kids K).Nodup := by
  obtain ⟨g, f, h1⟩ := vsOpen h
  have := h1.swap.mp_nodup
  rwa [entsK_keys] at this
def VNewR (room : Int) (w : World) (e : Ending) (w' : World) : Prop :=
  (1 ≤ room ∧ room ≤ 4096 ∧ ∃ p, e = .returned (.tuple #[vsP p, .int .i64 0]) ∧ St (snap w) [VsA p room [] [] [0, 0, 0, 0, 0, 0, 0, 0]] w' ∧ Env w w') ∨
  (¬ (1 ≤ room ∧ room ≤ 4096) ∧ e = .returned (.tuple #[.pointer none, .int .i64 1]) ∧ Below w.heap.size w w')
set_option maxRecDepth 100000 in
set_option maxHeartbeats 1600000 in
theorem vsNew_any (room : Int) (w : World) : Calls Try.prog 40 #[.int .i64 room] w (VNewR room w) := by
  by_cases h1 : room < 1
  · go_enter Try.func40, Try.ntmps40
    go_wp2_with fail
    go_ret2
    exact .inr ⟨by omega, rfl, Below.refl _ _⟩
  · by_cases h2 : 4096 < room
    · go_enter Try.func40, Try.ntmps40
      go_wp2_with fail
      go_ret2
      exact .inr ⟨by omega, rfl, Below.refl _ _⟩
    · have m1 := run_makeMap (P := Try.prog) 116 w
      have k1 := (St.start w).mp_made (C := kpC)
      have en1 := (Env.refl w).alloc (.map #[] 0)
      go_enter Try.func40, Try.ntmps40
      go_wp2_with fail
      refine (frNew _).mono ?_
      rintro e w2 he
      obtain ⟨f, rfl, h2', en2⟩ := ResE.lift k1 he
      have h3 := h2'.blk (vsC room w.heap.size f [0, 0, 0, 0, 0, 0, 0, 0]) 120
      have en3 := (en1.trans en2).alloc (.cells (vsC room w.heap.size f [0, 0, 0, 0, 0, 0, 0, 0]) 120)
      have h4 : St (snap w) [VsA w2.heap.size room [] [] [0, 0, 0, 0, 0, 0, 0, 0]] (w2.alloc (.cells (vsC room w.heap.size f [0, 0, 0, 0, 0, 0, 0, 0]) 120)) := vsShut (h3.perm (List.Perm.cons _ (List.Perm.swap _ _ _)))
      have h5 : St (snap w) [VsA w2.heap.size room [] [] [0, 0, 0, 0, 0, 0, 0, 0]] (w2.alloc (.cells #[.int .i64 room, .map (some w.heap.size), frP f, .int .i64 0, .int .i64 0, .int .i64 0, .int .i64 0, .int .i64 0, .int .i64 0, .int .i64 0, .int .i64 0] 120)) := h4
      have en5 : Env w (w2.alloc (.cells #[.int .i64 room, .map (some w.heap.size), frP f, .int .i64 0, .int .i64 0, .int .i64 0, .int .i64 0, .int .i64 0, .int .i64 0, .int .i64 0, .int .i64 0] 120)) := en3
      clear h2' h3 h4 en3 he k1 m1 en1 en2
      go_wp2_with fail
      go_ret2
      exact .inl ⟨by omega, by omega, _, rfl, h5, en5⟩
set_option maxRecDepth 100000 in
theorem vsFree_nil (w : World) : Calls Try.prog 44 #[.pointer none] w fun e w' => e = .returned (.int .i64 0) ∧ w = w' := by
  go_enter Try.func44, Try.ntmps44
  go_wp2_with fail
  go_ret
  exact ⟨rfl, rfl⟩
set_option maxRecDepth 100000 in
theorem vsFloor_nil (i : Int) (w : World) : Calls Try.prog 47 #[.pointer none, .int .i64 i] w fun e w' => e = .returned (.int .i64 0) ∧ w = w' := by
  go_enter Try.func47, Try.ntmps47
  go_wp2_with fail
  go_ret
  exact ⟨rfl, rfl⟩
set_option maxRecDepth 100000 in
theorem vsCompact_nil (w : World) : Calls Try.prog 45 #[.pointer none] w fun e w' => e = .returned (.int .i64 0) ∧ w = w' := by
  go_enter Try.func45, Try.ntmps45
  go_wp2_with fail
  go_ret
  exact ⟨rfl, rfl⟩
set_option maxRecDepth 100000 in
theorem vsKept_nil (w : World) : Calls Try.prog 43 #[.pointer none] w fun e w' => e = .returned (.slice none 0 0) ∧ w = w' := by
  go_enter Try.func43, Try.ntmps43
  go_wp2_with fail
  go_ret
  exact ⟨rfl, rfl⟩
set_option maxRecDepth 100000 in
theorem vsStatus_nil (a : Id) (w : World) : Calls Try.prog 46 #[.pointer none, idV a] w fun e w' => e = .returned (.int .i64 0) ∧ Below w.heap.size w w' := by
  have hb := boxBelow w (.cells #[.int .i64 a.1, .int .i64 a.2] 28)
  go_enter Try.func46, Try.ntmps46
  go_wp2_with fail
  go_ret
  exact ⟨rfl, hb⟩
set_option maxRecDepth 100000 in
theorem vsPut_nil (x : Rc) (w : World) (hx : RcR w x) : Calls Try.prog 41 #[.pointer none, recV x] w fun e w' => e = .returned (.int .i64 2) ∧ Below w.heap.size w w' := by
  obtain ⟨d1, d2, d3, hdv, _⟩ := hx.d.form
  obtain ⟨b1, b2, b3, hbv, _⟩ := hx.b.form
  obtain ⟨⟨r, s⟩, q, xd, xb, xD, xB⟩ := x
  try simp only at hdv hbv
  subst hdv hbv
  have hb := boxBelow w (.cells #[.int .i64 r, .int .i64 s, .int .i64 q, .slice d1 d2 d3, .slice b1 b2 b3] 32)
  clear hx
  go_enter Try.func41, Try.ntmps41
  go_wp2_with fail
  go_ret
  exact ⟨rfl, hb⟩
set_option maxRecDepth 100000 in
set_option maxHeartbeats 800000 in
theorem vsDone_nil (a : Id) (w : World) : Calls Try.prog 42 #[.pointer none, idV a] w fun e w' => e = .returned (.bool false) ∧ Below w.heap.size w w' := by
  have hb := boxBelow w (.cells #[.int .i64 a.1, .int .i64 a.2] 28)
  obtain ⟨r, s⟩ := a
  obtain ⟨H1, l1, h1, y⟩ := (St.start w).box #[.int .i64 r, .int .i64 s] 28
  have y0 := h1.cell (y 0 _ rfl)
  have y1 := h1.cell (y 1 _ rfl)
  have yl := World.block_lt_of_cell? _ _ y0
  clear y
  go_enter Try.func42, Try.ntmps42
  go_wp2_with fail
  refine (vsStatus_nil (r, s) _).mono ?_
  rintro e w2 ⟨rfl, hb2⟩
  go_wp2_with fail
  go_ret
  exact ⟨rfl, hb.trans (hb2.mono hb.size)⟩
/-- What a record is. -/
def stK (K : List Kp) (M : List Id) (a : Id) : Int := if (lookKp K a).2 then (if (lookKp K a).1.2 then 2 else 1) else if a ∈ M then 3 else 0
end Go.Proofs.Ytelmhcbdpimaaaa

/- Records that are kept: Free, Floor, Status. -/
set_option linter.unusedVariables false
set_option linter.unusedSimpArgs false
namespace Go.Proofs.Ytelmhcbdpimaaaa
open Go.RowKit Go.Cw Go.Fl
attribute [local go_sem ↓] eql_id neq_id
theorem ri {a b : Int} (h : a = b) : Ending.returned (.int .i64 a) = .returned (.int .i64 b) := by rw [h]
theorem kp_form {H : Hp} {x : Kp} (h : RcD H x.1) : ∃ d1 d2 d3 b1 b2 b3, x.1.2.2.1 = .slice d1 d2 d3 ∧ x.1.2.2.2.1 = .slice b1 b2 b3 := by
  obtain ⟨d1, d2, d3, hd, _⟩ := h.d.form
  obtain ⟨b1, b2, b3, hb, _⟩ := h.b.form
  exact ⟨d1, d2, d3, b1, b2, b3, hd, hb⟩
set_option maxRecDepth 100000 in
set_option maxHeartbeats 1600000 in
theorem vsFloor_any (p : Nat) (room : Int) (K : List Kp) (M : List Id) (low : List Nat) (r : Nat) (hr : r < 8) (H : Hp) (fr : List HA) (w : World) (h : St H (VsA p room K M low :: fr) w) :
    Calls Try.prog 47 #[vsP p, .int .i64 (r : Int)] w fun e w' => ∃ n : Nat, e = .returned (.int .i64 (n : Int)) ∧ w = w' ∧ FlP M r n := by
  obtain ⟨g, f, h1⟩ := vsOpen h
  have c2 : w.cell? ⟨p, 2, none⟩ = some (frP f) := h1.blk_cell 2
  have cl := h1.blk_lt
  have hF := frFloor_in f r hr M H _ w (h1.pick 2 (by simp))
  replace hF := Lib.hid hF
  go_enter Try.func47, Try.ntmps47
  go_wp2_with fail
  refine hF.out.mono ?_
  rintro e w2 ⟨n, rfl, rfl, hn⟩
  go_wp2_with fail
  go_ret
  exact ⟨n, rfl, rfl, hn⟩
set_option maxRecDepth 100000 in
set_option maxHeartbeats 1600000 in
theorem vsFloor_out (p : Nat) (room : Int) (K : List Kp) (M : List Id) (low : List Nat) (i : Int) (hi : i < 0 ∨ 8 ≤ i) (H : Hp) (fr : List HA) (w : World) (h : St H (VsA p room K M low :: fr) w) :
    Calls Try.prog 47 #[vsP p, .int .i64 i] w fun e w' => e = .returned (.int .i64 0) ∧ w = w' := by
  obtain ⟨g, f, h1⟩ := vsOpen h
  have c2 : w.cell? ⟨p, 2, none⟩ = some (frP f) := h1.blk_cell 2
  have cl := h1.blk_lt
  have hF := frFloor_out f i hi w
  replace hF := Lib.hid hF
  replace hi := Lib.hid hi
  go_enter Try.func47, Try.ntmps47
  go_wp2_with fail
  refine hF.out.mono ?_
  rintro e w2 ⟨rfl, rfl⟩
  go_wp2_with fail
  go_ret
  exact ⟨rfl, rfl⟩
set_option maxRecDepth 100000 in
set_option maxHeartbeats 1600000 in
theorem vsFree_any (p : Nat) (room : Int) (hroom : 1 ≤ room ∧ room ≤ 4096) (K : List Kp) (hK : K.length ≤ 1000000) (M : List Id) (low : List Nat) (H : Hp) (fr : List HA) (w : World) (h : St H (VsA p room K M low :: fr) w) :
    Calls Try.prog 44 #[vsP p] w fun e w' => e = .returned (.int .i64 (room - (K.length : Int))) ∧ Below w.heap.size w w' := by
  obtain ⟨g, f, h1⟩ := vsOpen h
  have cl := h1.blk_lt
  have hw : IntKind.i64.wrap (room - (K.length : Int)) = room - (K.length : Int) := by rw [IntKind.wrap_i64]; omega
  have kk : ∀ w', St H (Blk p (vsC room g f low) 120 :: Mp kpC g (entsK K) :: FrI f M :: fr) w' → (fun w' : World => w'.cell? ⟨p, 0, none⟩ = some (.int .i64 room) ∧ w'.cell? ⟨p, 1, none⟩ = some (.map (some g)) ∧ (Builtin.len_ #[116] 3 #[.map (some g)]).run Try.prog w' = .ok (.int .i64 (K.length : Int)) w') w' := fun w' h' => ⟨h'.blk_cell 0, h'.blk_cell 1, by
    have := h'.swap.mp_len (ty := 3) (t := 116) Try.underlying116
    rwa [entsK_len] at this⟩
  have hD := h1.drew
  go_enter Try.func44, Try.ntmps44
  go_wp2_with fail
  refine wp_region_held_drew (S := fun w' : World => w'.cell? ⟨p, 0, none⟩ = some (.int .i64 room) ∧ w'.cell? ⟨p, 1, none⟩ = some (.map (some g)) ∧ (Builtin.len_ #[116] 3 #[.map (some g)]).run Try.prog w' = .ok (.int .i64 (K.length : Int)) w') (by kernel_rfl) (kk _ hD) (fun hHeld => ?_)
  refine wpAnyH_take (i := 0) (oi := { dst := some 5, op := Go.Op.move (Go.Operand.tmp 0), type := 67, pos := "vertex.go:139", after := #[], guard := none }) (v := ?_) rfl (by kernel_rfl) (by kernel_rfl) (by kernel_rfl) (fun _ _ _ h => h) (Or.inl ⟨by rfl, ?_⟩) (by assumption) ?_
  rotate_left
  · (intro w hSw; (try dsimp only at hSw); go_simp; (try (with_reducible rfl)))
  try simp only [Act.put, List.setIfInBounds_toArray, List.set_cons_zero, List.set_cons_succ]
  refine wpAnyH_take (i := 1) (oi := { dst := some 6, op := Go.Op.nilCheck (Go.Operand.tmp 5), type := 0, pos := "vertex.go:139", after := #[{ on := 0, ground := Go.Ground.data }], guard := none }) (v := ?_) rfl (by kernel_rfl) (by kernel_rfl) (by kernel_rfl) (fun _ _ _ h => h) (Or.inl ⟨by rfl, ?_⟩) (by assumption) ?_
  rotate_left
  · (intro w hSw; (try dsimp only at hSw); go_simp; (try (with_reducible rfl)))
  try simp only [Act.put, List.setIfInBounds_toArray, List.set_cons_zero, List.set_cons_succ]
  refine wpAnyH_take (i := 2) (oi := { dst := some 7, op := Go.Op.fieldAddr 120 (Go.Operand.tmp 6) 0, type := 0, pos := "vertex.go:139", after := #[{ on := 1, ground := Go.Ground.data }], guard := none }) (v := ?_) rfl (by kernel_rfl) (by kernel_rfl) (by kernel_rfl) (fun _ _ _ h => h) (Or.inl ⟨by rfl, ?_⟩) (by assumption) ?_
  rotate_left
  · (intro w hSw; (try dsimp only at hSw); go_simp; (try (with_reducible rfl)))
  try simp only [Act.put, List.setIfInBounds_toArray, List.set_cons_zero, List.set_cons_succ]
  refine wpAnyH_take (i := 3) (oi := { dst := some 8, op := Go.Op.load 3 (Go.Operand.tmp 7), type := 3, pos := "vertex.go:139", after := #[{ on := 2, ground := Go.Ground.data }], guard := none }) (v := ?_) rfl (by kernel_rfl) (by kernel_rfl) (by kernel_rfl) (fun _ _ _ h => h) (Or.inl ⟨by rfl, ?_⟩) (by assumption) ?_
  rotate_left
  · (intro w hSw; (try dsimp only at hSw); go_simp; (try (with_reducible rfl)))
  try simp only [Act.put, List.setIfInBounds_toArray, List.set_cons_zero, List.set_cons_succ]
  refine wpAnyH_take (i := 4) (oi := { dst := some 9, op := Go.Op.move (Go.Operand.tmp 0), type := 67, pos := "vertex.go:139", after := #[], guard := none }) (v := ?_) rfl (by kernel_rfl) (by kernel_rfl) (by kernel_rfl) (fun _ _ _ h => h) (Or.inl ⟨by rfl, ?_⟩) (by assumption) ?_
  rotate_left
  · (intro w hSw; (try dsimp only at hSw); go_simp; (try (with_reducible rfl)))
  try simp only [Act.put, List.setIfInBounds_toArray, List.set_cons_zero, List.set_cons_succ]
  refine wpAnyH_take (i := 5) (oi := { dst := some 10, op := Go.Op.nilCheck (Go.Operand.tmp 9), type := 0, pos := "vertex.go:139", after := #[{ on := 4, ground := Go.Ground.data }], guard := none }) (v := ?_) rfl (by kernel_rfl) (by kernel_rfl) (by kernel_rfl) (fun _ _ _ h => h) (Or.inl ⟨by rfl, ?_⟩) (by assumption) ?_
  rotate_left
  · (intro w hSw; (try dsimp only at hSw); go_simp; (try (with_reducible rfl)))
  try simp only [Act.put, List.setIfInBounds_toArray, List.set_cons_zero, List.set_cons_succ]
  refine wpAnyH_take (i := 6) (oi := { dst := some 11, op := Go.Op.fieldAddr 120 (Go.Operand.tmp 10) 1, type := 0, pos := "vertex.go:139", after := #[{ on := 5, ground := Go.Ground.data }], guard := none }) (v := ?_) rfl (by kernel_rfl) (by kernel_rfl) (by kernel_rfl) (fun _ _ _ h => h) (Or.inl ⟨by rfl, ?_⟩) (by assumption) ?_
  rotate_left
  · (intro w hSw; (try dsimp only at hSw); go_simp; (try (with_reducible rfl)))
  try simp only [Act.put, List.setIfInBounds_toArray, List.set_cons_zero, List.set_cons_succ]
  refine wpAnyH_take (i := 7) (oi := { dst := some 12, op := Go.Op.load 116 (Go.Operand.tmp 11), type := 116, pos := "vertex.go:139", after := #[{ on := 6, ground := Go.Ground.data }], guard := none }) (v := ?_) rfl (by kernel_rfl) (by kernel_rfl) (by kernel_rfl) (fun _ _ _ h => h) (Or.inl ⟨by rfl, ?_⟩) (by assumption) ?_
  rotate_left
  · (intro w hSw; (try dsimp only at hSw); go_simp; (try (with_reducible rfl)))
  try simp only [Act.put, List.setIfInBounds_toArray, List.set_cons_zero, List.set_cons_succ]
  refine wpAnyH_take (i := 8) (oi := { dst := some 13, op := Go.Op.call { callee := Go.Callee.builtin Go.Builtin.len, args := #[Go.Operand.tmp 12], argTypes := #[116] }, type := 3, pos := "vertex.go:139", after := #[{ on := 7, ground := Go.Ground.data }], guard := none }) (v := ?_) rfl (by kernel_rfl) (by kernel_rfl) (by kernel_rfl) (fun _ _ _ h => h) (Or.inl ⟨by rfl, ?_⟩) (by assumption) ?_
  rotate_left
  · (intro w hSw; (try dsimp only at hSw); go_simp; (try (with_reducible rfl)))
  try simp only [Act.put, List.setIfInBounds_toArray, List.set_cons_zero, List.set_cons_succ]
  refine wpAnyH_take (i := 9) (oi := { dst := some 14, op := Go.Op.binOp Go.BinOp.sub 3 (Go.Operand.tmp 8) (Go.Operand.tmp 13) 3, type := 3, pos := "vertex.go:139", after := #[{ on := 3, ground := Go.Ground.data }, { on := 8, ground := Go.Ground.data }], guard := none }) (v := ?_) rfl (by kernel_rfl) (by kernel_rfl) (by kernel_rfl) (fun _ _ _ h => h) (Or.inl ⟨by rfl, ?_⟩) (by assumption) ?_
  rotate_left
  · (intro w hSw; (try dsimp only at hSw); go_simp; (try (with_reducible rfl)))
  try simp only [Act.put, List.setIfInBounds_toArray, List.set_cons_zero, List.set_cons_succ]
  refine wpAnyH_take (i := 10) (oi := { dst := some 2, op := Go.Op.assign (Go.Operand.tmp 14), type := 3, pos := "vertex.go:139", after := #[{ on := 9, ground := Go.Ground.data }, { on := 8, ground := Go.Ground.chain }, { on := 0, ground := Go.Ground.phase }, { on := 1, ground := Go.Ground.phase }, { on := 2, ground := Go.Ground.phase }, { on := 3, ground := Go.Ground.phase }, { on := 4, ground := Go.Ground.phase }, { on := 5, ground := Go.Ground.phase }, { on := 6, ground := Go.Ground.phase }, { on := 7, ground := Go.Ground.phase }, { on := 8, ground := Go.Ground.phase }, { on := 9, ground := Go.Ground.phase }], guard := none }) (v := ?_) rfl (by kernel_rfl) (by kernel_rfl) (by kernel_rfl) (fun _ _ _ h => h) (Or.inl ⟨by rfl, ?_⟩) (by assumption) ?_
  rotate_left
  · (intro w hSw; (try dsimp only at hSw); go_simp; (try (with_reducible rfl)))
  try simp only [Act.put, List.setIfInBounds_toArray, List.set_cons_zero, List.set_cons_succ]
  refine wpAnyH_done (by kernel_rfl) ?_ _
  clear hHeld
  go_wp2_with fail
  go_ret
  exact ⟨rfl, (Below.refl _ _).drew⟩
set_option maxRecDepth 100000 in
set_option maxHeartbeats 3200000 in
theorem vsStatus_any (p : Nat) (room : Int) (K : List Kp) (M : List Id) (low : List Nat) (a : Id) (H : Hp) (fr : List HA) (w : World) (h : St H (VsA p room K M low :: fr) w) (hK : KpOk H K) :
    Calls Try.prog 46 #[vsP p, idV a] w fun e w' => e = .returned (.int .i64 (stK K M a)) ∧ Below w.heap.size w w' := by
  obtain ⟨R, hR⟩ : ∃ R, Hid (stK K M a = R) := ⟨_, Lib.hid rfl⟩
  rw [hR.out]
  have hR2 := hR.out
  unfold stK at hR2
  have hld := lookKp_d hK a
  obtain ⟨d1, d2, d3, b1, b2, b3, hdv, hbv⟩ := kp_form hld
  have hlk := look_at K a
  obtain ⟨r, s⟩ := a
  obtain ⟨H1, l1, h1, y⟩ := h.box #[.int .i64 r, .int .i64 s] 28
  have bel := boxBelow w (.cells #[.int .i64 r, .int .i64 s] 28)
  have y0 := y 0 _ rfl
  have y1 := y 1 _ rfl
  clear y h
  generalize lookKp K (r, s) = z at *
  obtain ⟨⟨⟨⟨x0, x1⟩, xq, xd, xb, xD, xB⟩, xo⟩, xk⟩ := z
  try simp only at hdv hbv hlk hR2
  subst hdv hbv
  obtain ⟨g, f, h2⟩ := vsOpen h1
  have kk : ∀ w', St H1 (Blk p (vsC room g f low) 120 :: Mp kpC g (entsK K) :: FrI f M :: fr) w' → (fun w' : World => w'.cell? ⟨p, 1, none⟩ = some (.map (some g)) ∧ w'.cell? ⟨w.heap.size, 0, none⟩ = some (.int .i64 r) ∧ w'.cell? ⟨w.heap.size, 1, none⟩ = some (.int .i64 s) ∧ (Instr.lookup 116 (.map (some g)) (.agg #[.int .i64 r, .int .i64 s]) true).run Try.prog w' = .ok (.tuple #[.agg #[.int .i64 x0, .int .i64 x1, .int .i64 xq, .slice d1 d2 d3, .slice b1 b2 b3, .bool xo], .bool xk]) w') w' := fun w' h' => ⟨h'.blk_cell 1, h'.cell y0, h'.cell y1, by
    have := h'.swap.mp_get true (t := 116) Try.underlying116 (zero_kp _) (r, s)
    rw [hlk] at this
    exact this⟩
  have hD := h2.drew
  have cl := h2.blk_lt
  have hHas := fun w' (h' : St H1 (Blk p (vsC room g f low) 120 :: Mp kpC g (entsK K) :: FrI f M :: fr) w') => frHas f M (r, s) H1 _ w' (h'.pick 2 (by simp))
  replace hHas := Lib.hid hHas
  replace hlk := Lib.hid hlk
  replace hR2 := Lib.hid hR2
  clear hld h1 hK
  go_enter Try.func46, Try.ntmps46
  go_wp2_with fail
  refine wp_region_held_drew (S := (fun w' : World => w'.cell? ⟨p, 1, none⟩ = some (.map (some g)) ∧ w'.cell? ⟨w.heap.size, 0, none⟩ = some (.int .i64 r) ∧ w'.cell? ⟨w.heap.size, 1, none⟩ = some (.int .i64 s) ∧ (Instr.lookup 116 (.map (some g)) (.agg #[.int .i64 r, .int .i64 s]) true).run Try.prog w' = .ok (.tuple #[.agg #[.int .i64 x0, .int .i64 x1, .int .i64 xq, .slice d1 d2 d3, .slice b1 b2 b3, .bool xo], .bool xk]) w')) (by kernel_rfl) (kk _ hD) (fun hHeld => ?_)
  refine wpAnyH_take (i := 0) (oi := { dst := some 10, op := Go.Op.move (Go.Operand.tmp 0), type := 67, pos := "vertex.go:70", after := #[], guard := none }) (v := ?_) rfl (by kernel_rfl) (by kernel_rfl) (by kernel_rfl) (fun _ _ _ h => h) (Or.inl ⟨by rfl, ?_⟩) (by assumption) ?_
  rotate_left
  · (intro w hSw; (try dsimp only at hSw); go_simp; (try (with_reducible rfl)))
  try simp only [Act.put, List.setIfInBounds_toArray, List.set_cons_zero, List.set_cons_succ]
  refine wpAnyH_take (i := 1) (oi := { dst := some 11, op := Go.Op.nilCheck (Go.Operand.tmp 10), type := 0, pos := "vertex.go:70", after := #[{ on := 0, ground := Go.Ground.data }], guard := none }) (v := ?_) rfl (by kernel_rfl) (by kernel_rfl) (by kernel_rfl) (fun _ _ _ h => h) (Or.inl ⟨by rfl, ?_⟩) (by assumption) ?_
  rotate_left
  · (intro w hSw; (try dsimp only at hSw); go_simp; (try (with_reducible rfl)))
  try simp only [Act.put, List.setIfInBounds_toArray, List.set_cons_zero, List.set_cons_succ]
  refine wpAnyH_take (i := 2) (oi := { dst := some 12, op := Go.Op.fieldAddr 120 (Go.Operand.tmp 11) 1, type := 0, pos := "vertex.go:70", after := #[{ on := 1, ground := Go.Ground.data }], guard := none }) (v := ?_) rfl (by kernel_rfl) (by kernel_rfl) (by kernel_rfl) (fun _ _ _ h => h) (Or.inl ⟨by rfl, ?_⟩) (by assumption) ?_
  rotate_left
  · (intro w hSw; (try dsimp only at hSw); go_simp; (try (with_reducible rfl)))
  try simp only [Act.put, List.setIfInBounds_toArray, List.set_cons_zero, List.set_cons_succ]
  refine wpAnyH_take (i := 3) (oi := { dst := some 13, op := Go.Op.load 116 (Go.Operand.tmp 12), type := 116, pos := "vertex.go:70", after := #[{ on := 2, ground := Go.Ground.data }], guard := none }) (v := ?_) rfl (by kernel_rfl) (by kernel_rfl) (by kernel_rfl) (fun _ _ _ h => h) (Or.inl ⟨by rfl, ?_⟩) (by assumption) ?_
  rotate_left
  · (intro w hSw; (try dsimp only at hSw); go_simp; (try (with_reducible rfl)))
  try simp only [Act.put, List.setIfInBounds_toArray, List.set_cons_zero, List.set_cons_succ]
  refine wpAnyH_take (i := 4) (oi := { dst := some 14, op := Go.Op.load 28 (Go.Operand.tmp 3), type := 28, pos := "vertex.go:70", after := #[], guard := none }) (v := ?_) rfl (by kernel_rfl) (by kernel_rfl) (by kernel_rfl) (fun _ _ _ h => h) (Or.inl ⟨by rfl, ?_⟩) (by assumption) ?_
  rotate_left
  · (intro w hSw; (try dsimp only at hSw); go_simp; (try (with_reducible rfl)))
  try simp only [Act.put, List.setIfInBounds_toArray, List.set_cons_zero, List.set_cons_succ]
  refine wpAnyH_take (i := 5) (oi := { dst := some 15, op := Go.Op.lookup 116 (Go.Operand.tmp 13) (Go.Operand.tmp 14) true, type := 123, pos := "vertex.go:70", after := #[{ on := 3, ground := Go.Ground.data }, { on := 4, ground := Go.Ground.data }], guard := none }) (v := ?_) rfl (by kernel_rfl) (by kernel_rfl) (by kernel_rfl) (fun _ _ _ h => h) (Or.inl ⟨by rfl, ?_⟩) (by assumption) ?_
  rotate_left
  · (intro w hSw; (try dsimp only at hSw); go_simp; (try (with_reducible rfl)))
  try simp only [Act.put, List.setIfInBounds_toArray, List.set_cons_zero, List.set_cons_succ]
  refine wpAnyH_take (i := 6) (oi := { dst := some 9, op := Go.Op.move (Go.Operand.tmp 15), type := 123, pos := "vertex.go:70", after := #[{ on := 5, ground := Go.Ground.data }], guard := none }) (v := ?_) rfl (by kernel_rfl) (by kernel_rfl) (by kernel_rfl) (fun _ _ _ h => h) (Or.inl ⟨by rfl, ?_⟩) (by assumption) ?_
  rotate_left
  · (intro w hSw; (try dsimp only at hSw); go_simp; (try (with_reducible rfl)))
  try simp only [Act.put, List.setIfInBounds_toArray, List.set_cons_zero, List.set_cons_succ]
  refine wpAnyH_take (i := 7) (oi := { dst := some 16, op := Go.Op.extract (Go.Operand.tmp 9) 0, type := 122, pos := "vertex.go:70", after := #[{ on := 6, ground := Go.Ground.data }], guard := none }) (v := ?_) rfl (by kernel_rfl) (by kernel_rfl) (by kernel_rfl) (fun _ _ _ h => h) (Or.inl ⟨by rfl, ?_⟩) (by assumption) ?_
  rotate_left
  · (intro w hSw; (try dsimp only at hSw); go_simp; (try (with_reducible rfl)))
  try simp only [Act.put, List.setIfInBounds_toArray, List.set_cons_zero, List.set_cons_succ]
  refine wpAnyH_take (i := 8) (oi := { dst := some 17, op := Go.Op.extract (Go.Operand.tmp 9) 1, type := 4, pos := "vertex.go:70", after := #[{ on := 6, ground := Go.Ground.data }, { on := 10, ground := Go.Ground.gcOnly Go.Departure.lateStores }], guard := none }) (v := ?_) rfl (by kernel_rfl) (by kernel_rfl) (by kernel_rfl) (fun _ _ _ h => h) (Or.inl ⟨by rfl, ?_⟩) (by assumption) ?_
  rotate_left
  · (intro w hSw; (try dsimp only at hSw); go_simp; (try (with_reducible rfl)))
  try simp only [Act.put, List.setIfInBounds_toArray, List.set_cons_zero, List.set_cons_succ]
  refine wpAnyH_ready (rs := [9]) (by kernel_rfl) (by simp) ?_
  refine AllReadyH.cons (o := { dst := some 5, op := Go.Op.alloc 122, type := 0, pos := "vertex.go:70", after := #[], guard := none }) rfl (fun K hK => ?_) AllReadyH.nil
  go_simp
  refine hK.out _ _ (kk _ (hD.alloc _)) (fun hHeld2 => ?_)
  clear hK K hHeld
  try simp only [Act.put, List.setIfInBounds_toArray, List.set_cons_zero, List.set_cons_succ]
  refine wpAnyH_ready (rs := [10]) (by kernel_rfl) (by simp) ?_
  refine AllReadyH.cons (o := { dst := none, op := Go.Op.store 122 (Go.Operand.tmp 5) (Go.Operand.tmp 16), type := 0, pos := "vertex.go:70", after := #[{ on := 9, ground := Go.Ground.data }, { on := 7, ground := Go.Ground.data }, { on := 0, ground := Go.Ground.phase }, { on := 1, ground := Go.Ground.phase }, { on := 2, ground := Go.Ground.phase }, { on := 3, ground := Go.Ground.phase }, { on := 4, ground := Go.Ground.phase }, { on := 5, ground := Go.Ground.phase }, { on := 6, ground := Go.Ground.phase }, { on := 7, ground := Go.Ground.phase }, { on := 8, ground := Go.Ground.textOnly Go.Departure.lateStores }, { on := 9, ground := Go.Ground.phase }], guard := none }) rfl (fun K hK => ?_) AllReadyH.nil
  go_simp
  refine hK.out _ _ (kk _ ((h2.alloc _).drew)) (fun hHeld3 => ?_)
  clear hK K hHeld2
  try simp only [Act.put, List.setIfInBounds_toArray, List.set_cons_zero, List.set_cons_succ]
  refine wpAnyH_take (i := 11) (oi := { dst := some 6, op := Go.Op.assign (Go.Operand.tmp 17), type := 4, pos := "vertex.go:70", after := #[{ on := 8, ground := Go.Ground.data }, { on := 10, ground := Go.Ground.chain }, { on := 0, ground := Go.Ground.phase }, { on := 1, ground := Go.Ground.phase }, { on := 2, ground := Go.Ground.phase }, { on := 3, ground := Go.Ground.phase }, { on := 4, ground := Go.Ground.phase }, { on := 5, ground := Go.Ground.phase }, { on := 6, ground := Go.Ground.phase }, { on := 7, ground := Go.Ground.phase }, { on := 8, ground := Go.Ground.phase }, { on := 9, ground := Go.Ground.phase }, { on := 10, ground := Go.Ground.phase }], guard := none }) (v := ?_) rfl (by kernel_rfl) (by kernel_rfl) (by kernel_rfl) (fun _ _ _ h => h) (Or.inl ⟨by rfl, ?_⟩) (by assumption) ?_
  rotate_left
  · (intro w hSw; (try dsimp only at hSw); go_simp; (try (with_reducible rfl)))
  try simp only [Act.put, List.setIfInBounds_toArray, List.set_cons_zero, List.set_cons_succ]
  refine wpAnyH_done (by kernel_rfl) ?_ _
  obtain ⟨H3, l3, h3, kc⟩ := h2.box #[.int .i64 x0, .int .i64 x1, .int .i64 xq, .slice d1 d2 d3, .slice b1 b2 b3, .bool xo] 122
  have e1 : (w.alloc (.cells #[.int .i64 r, .int .i64 s] 28)).heap.size = w.heap.size + 1 := by simp
  rw [e1] at kc
  have bel3 := (bel.alloc (Nat.le_trans (Nat.le_refl _) bel.size) (.cells #[.int .i64 x0, .int .i64 x1, .int .i64 xq, .slice d1 d2 d3, .slice b1 b2 b3, .bool xo] 122)).drew
  have k5 := kc 5 _ rfl
  have hE := h3.drew
  clear hHeld3 kk hD h3 e1 cl kc
  generalize ((w.alloc (.cells #[.int .i64 r, .int .i64 s] 28)).alloc (.cells #[.int .i64 x0, .int .i64 x1, .int .i64 xq, .slice d1 d2 d3, .slice b1 b2 b3, .bool xo] 122)).drew = W3 at *
  have v5 := hE.cell k5
  have vl := World.block_lt_of_cell? _ _ v5
  cases xk with
  | true =>
    cases xo with
    | true =>
      have hRv : Hid (R = 2) := Lib.hid (by rw [← hR2.out]; simp)
      go_wp2_with fail
      go_ret
      exact ⟨ri hRv.out.symm, bel3⟩
    | false =>
      have hRv : Hid (R = 1) := Lib.hid (by rw [← hR2.out]; simp)
      go_wp2_with fail
      go_ret
      exact ⟨ri hRv.out.symm, bel3⟩
  | false =>
    have c2 : W3.cell? ⟨p, 2, none⟩ = some (frP f) := hE.blk_cell 2
    have cl := hE.blk_lt
    have u0 := hE.cell (Hp.cell_le l3 y0)
    have u1 := hE.cell (Hp.cell_le l3 y1)
    have ul := World.block_lt_of_cell? _ _ u0
    have hH3 := hHas.out W3.drew (hE.drew.weaken l3)
    have kk2 : ∀ (l' : List HA) (w' : World), St H3 (Blk p (vsC room g f low) 120 :: l') w' → (fun w' : World => w'.cell? ⟨p, 2, none⟩ = some (frP f) ∧ w'.cell? ⟨w.heap.size, 0, none⟩ = some (.int .i64 r) ∧ w'.cell? ⟨w.heap.size, 1, none⟩ = some (.int .i64 s)) w' := fun l' w' h => ⟨h.blk_cell 2, h.cell (Hp.cell_le l3 y0), h.cell (Hp.cell_le l3 y1)⟩
    by_cases hm : ((r, s) : Id) ∈ M
    · have hRv : Hid (R = 3) := Lib.hid (by rw [← hR2.out]; simp [hm])
      rw [decide_eq_true hm] at hH3
      replace hH3 := Lib.hid hH3
      clear hm
      go_wp2_with fail
      refine wp_region_held_drew (S := fun w' : World => w'.cell? ⟨p, 2, none⟩ = some (frP f) ∧ w'.cell? ⟨w.heap.size, 0, none⟩ = some (.int .i64 r) ∧ w'.cell? ⟨w.heap.size, 1, none⟩ = some (.int .i64 s)) (by kernel_rfl) (kk2 _ _ hE.drew) (fun hHeld => ?_)
      refine wpAnyH_take (i := 0) (oi := { dst := some 27, op := Go.Op.move (Go.Operand.tmp 0), type := 67, pos := "vertex.go:76", after := #[], guard := none }) (v := ?_) rfl (by kernel_rfl) (by kernel_rfl) (by kernel_rfl) (fun _ _ _ h => h) (Or.inl ⟨by rfl, ?_⟩) (by assumption) ?_
      rotate_left
      · (intro w hSw; (try dsimp only at hSw); go_simp; (try (with_reducible rfl)))
      try simp only [Act.put, List.setIfInBounds_toArray, List.set_cons_zero, List.set_cons_succ]
      refine wpAnyH_take (i := 1) (oi := { dst := some 28, op := Go.Op.nilCheck (Go.Operand.tmp 27), type := 0, pos := "vertex.go:76", after := #[{ on := 0, ground := Go.Ground.data }], guard := none }) (v := ?_) rfl (by kernel_rfl) (by kernel_rfl) (by kernel_rfl) (fun _ _ _ h => h) (Or.inl ⟨by rfl, ?_⟩) (by assumption) ?_
      rotate_left
      · (intro w hSw; (try dsimp only at hSw); go_simp; (try (with_reducible rfl)))
      try simp only [Act.put, List.setIfInBounds_toArray, List.set_cons_zero, List.set_cons_succ]
      refine wpAnyH_take (i := 2) (oi := { dst := some 29, op := Go.Op.fieldAddr 120 (Go.Operand.tmp 28) 2, type := 0, pos := "vertex.go:76", after := #[{ on := 1, ground := Go.Ground.data }], guard := none }) (v := ?_) rfl (by kernel_rfl) (by kernel_rfl) (by kernel_rfl) (fun _ _ _ h => h) (Or.inl ⟨by rfl, ?_⟩) (by assumption) ?_
      rotate_left
      · (intro w hSw; (try dsimp only at hSw); go_simp; (try (with_reducible rfl)))
      try simp only [Act.put, List.setIfInBounds_toArray, List.set_cons_zero, List.set_cons_succ]
      refine wpAnyH_take (i := 3) (oi := { dst := some 30, op := Go.Op.load 117 (Go.Operand.tmp 29), type := 117, pos := "vertex.go:76", after := #[{ on := 2, ground := Go.Ground.data }], guard := none }) (v := ?_) rfl (by kernel_rfl) (by kernel_rfl) (by kernel_rfl) (fun _ _ _ h => h) (Or.inl ⟨by rfl, ?_⟩) (by assumption) ?_
      rotate_left
      · (intro w hSw; (try dsimp only at hSw); go_simp; (try (with_reducible rfl)))
      try simp only [Act.put, List.setIfInBounds_toArray, List.set_cons_zero, List.set_cons_succ]
      refine wpAnyH_take (i := 4) (oi := { dst := some 31, op := Go.Op.load 28 (Go.Operand.tmp 3), type := 28, pos := "vertex.go:76", after := #[], guard := none }) (v := ?_) rfl (by kernel_rfl) (by kernel_rfl) (by kernel_rfl) (fun _ _ _ h => h) (Or.inl ⟨by rfl, ?_⟩) (by assumption) ?_
      rotate_left
      · (intro w hSw; (try dsimp only at hSw); go_simp; (try (with_reducible rfl)))
      try simp only [Act.put, List.setIfInBounds_toArray, List.set_cons_zero, List.set_cons_succ]
      refine wpAnyH_ready (rs := [5]) (by kernel_rfl) (by simp) ?_
      refine AllReadyH.cons (o := { dst := some 32, op := Go.Op.call { callee := Go.Callee.value (Go.Operand.func 85), args := #[Go.Operand.tmp 30, Go.Operand.tmp 31], argTypes := #[117, 28] }, type := 4, pos := "vertex.go:76", after := #[{ on := 3, ground := Go.Ground.data }, { on := 4, ground := Go.Ground.data }], guard := none }) rfl (fun K hK => ?_) AllReadyH.nil
      go_simp
      refine hH3.out.mono ?_
      rintro e w4 ⟨rfl, hb4⟩
      refine hK.out _ _ (kk2 _ _ (hE.drew.below hb4)) (fun hHeld2 => ?_)
      clear hK K hHeld
      try simp only [Act.put, List.setIfInBounds_toArray, List.set_cons_zero, List.set_cons_succ]
      refine wpAnyH_take (i := 6) (oi := { dst := some 26, op := Go.Op.assign (Go.Operand.tmp 32), type := 4, pos := "vertex.go:76", after := #[{ on := 5, ground := Go.Ground.data }, { on := 5, ground := Go.Ground.chain }], guard := none }) (v := ?_) rfl (by kernel_rfl) (by kernel_rfl) (by kernel_rfl) (fun _ _ _ h => h) (Or.inl ⟨by rfl, ?_⟩) (by assumption) ?_
      rotate_left
      · (intro w hSw; (try dsimp only at hSw); go_simp; (try (with_reducible rfl)))
      try simp only [Act.put, List.setIfInBounds_toArray, List.set_cons_zero, List.set_cons_succ]
      refine wpAnyH_done (by kernel_rfl) ?_ _
      go_wp2_with fail
      go_ret
      exact ⟨ri hRv.out.symm, bel3.drew.trans (hb4.mono bel3.drew.size)⟩
    · have hRv : Hid (R = 0) := Lib.hid (by rw [← hR2.out]; simp [hm])
      rw [decide_eq_false hm] at hH3
      replace hH3 := Lib.hid hH3
      clear hm
      go_wp2_with fail
      refine wp_region_held_drew (S := fun w' : World => w'.cell? ⟨p, 2, none⟩ = some (frP f) ∧ w'.cell? ⟨w.heap.size, 0, none⟩ = some (.int .i64 r) ∧ w'.cell? ⟨w.heap.size, 1, none⟩ = some (.int .i64 s)) (by kernel_rfl) (kk2 _ _ hE.drew) (fun hHeld => ?_)
      refine wpAnyH_take (i := 0) (oi := { dst := some 27, op := Go.Op.move (Go.Operand.tmp 0), type := 67, pos := "vertex.go:76", after := #[], guard := none }) (v := ?_) rfl (by kernel_rfl) (by kernel_rfl) (by kernel_rfl) (fun _ _ _ h => h) (Or.inl ⟨by rfl, ?_⟩) (by assumption) ?_
      rotate_left
      · (intro w hSw; (try dsimp only at hSw); go_simp; (try (with_reducible rfl)))
      try simp only [Act.put, List.setIfInBounds_toArray, List.set_cons_zero, List.set_cons_succ]
      refine wpAnyH_take (i := 1) (oi := { dst := some 28, op := Go.Op.nilCheck (Go.Operand.tmp 27), type := 0, pos := "vertex.go:76", after := #[{ on := 0, ground := Go.Ground.data }], guard := none }) (v := ?_) rfl (by kernel_rfl) (by kernel_rfl) (by kernel_rfl) (fun _ _ _ h => h) (Or.inl ⟨by rfl, ?_⟩) (by assumption) ?_
      rotate_left
      · (intro w hSw; (try dsimp only at hSw); go_simp; (try (with_reducible rfl)))
      try simp only [Act.put, List.setIfInBounds_toArray, List.set_cons_zero, List.set_cons_succ]
      refine wpAnyH_take (i := 2) (oi := { dst := some 29, op := Go.Op.fieldAddr 120 (Go.Operand.tmp 28) 2, type := 0, pos := "vertex.go:76", after := #[{ on := 1, ground := Go.Ground.data }], guard := none }) (v := ?_) rfl (by kernel_rfl) (by kernel_rfl) (by kernel_rfl) (fun _ _ _ h => h) (Or.inl ⟨by rfl, ?_⟩) (by assumption) ?_
      rotate_left
      · (intro w hSw; (try dsimp only at hSw); go_simp; (try (with_reducible rfl)))
      try simp only [Act.put, List.setIfInBounds_toArray, List.set_cons_zero, List.set_cons_succ]
      refine wpAnyH_take (i := 3) (oi := { dst := some 30, op := Go.Op.load 117 (Go.Operand.tmp 29), type := 117, pos := "vertex.go:76", after := #[{ on := 2, ground := Go.Ground.data }], guard := none }) (v := ?_) rfl (by kernel_rfl) (by kernel_rfl) (by kernel_rfl) (fun _ _ _ h => h) (Or.inl ⟨by rfl, ?_⟩) (by assumption) ?_
      rotate_left
      · (intro w hSw; (try dsimp only at hSw); go_simp; (try (with_reducible rfl)))
      try simp only [Act.put, List.setIfInBounds_toArray, List.set_cons_zero, List.set_cons_succ]
      refine wpAnyH_take (i := 4) (oi := { dst := some 31, op := Go.Op.load 28 (Go.Operand.tmp 3), type := 28, pos := "vertex.go:76", after := #[], guard := none }) (v := ?_) rfl (by kernel_rfl) (by kernel_rfl) (by kernel_rfl) (fun _ _ _ h => h) (Or.inl ⟨by rfl, ?_⟩) (by assumption) ?_
      rotate_left
      · (intro w hSw; (try dsimp only at hSw); go_simp; (try (with_reducible rfl)))
      try simp only [Act.put, List.setIfInBounds_toArray, List.set_cons_zero, List.set_cons_succ]
      refine wpAnyH_ready (rs := [5]) (by kernel_rfl) (by simp) ?_
      refine AllReadyH.cons (o := { dst := some 32, op := Go.Op.call { callee := Go.Callee.value (Go.Operand.func 85), args := #[Go.Operand.tmp 30, Go.Operand.tmp 31], argTypes := #[117, 28] }, type := 4, pos := "vertex.go:76", after := #[{ on := 3, ground := Go.Ground.data }, { on := 4, ground := Go.Ground.data }], guard := none }) rfl (fun K hK => ?_) AllReadyH.nil
      go_simp
      refine hH3.out.mono ?_
      rintro e w4 ⟨rfl, hb4⟩
      refine hK.out _ _ (kk2 _ _ (hE.drew.below hb4)) (fun hHeld2 => ?_)
      clear hK K hHeld
      try simp only [Act.put, List.setIfInBounds_toArray, List.set_cons_zero, List.set_cons_succ]
      refine wpAnyH_take (i := 6) (oi := { dst := some 26, op := Go.Op.assign (Go.Operand.tmp 32), type := 4, pos := "vertex.go:76", after := #[{ on := 5, ground := Go.Ground.data }, { on := 5, ground := Go.Ground.chain }], guard := none }) (v := ?_) rfl (by kernel_rfl) (by kernel_rfl) (by kernel_rfl) (fun _ _ _ h => h) (Or.inl ⟨by rfl, ?_⟩) (by assumption) ?_
      rotate_left
      · (intro w hSw; (try dsimp only at hSw); go_simp; (try (with_reducible rfl)))
      try simp only [Act.put, List.setIfInBounds_toArray, List.set_cons_zero, List.set_cons_succ]
      refine wpAnyH_done (by kernel_rfl) ?_ _
      go_wp2_with fail
      go_ret
      exact ⟨ri hRv.out.symm, bel3.drew.trans (hb4.mono bel3.drew.size)⟩
end Go.Proofs.Ytelmhcbdpimaaaa

/- Whether two records are the same: the program's. -/
set_option linter.unusedVariables false
set_option linter.unusedSimpArgs false
namespace Go.Proofs.Ytelmhcbdpimaaaa
open Go.RowKit Go.Cw Go.Fl
attribute [local go_sem ↓] eql_id neq_id
attribute [local go_sem] run_store_float
set_option maxRecDepth 100000 in
set_option maxHeartbeats 1600000 in
theorem cmdSame_any (a b : Cm) (w : World) : Calls Try.prog 138 #[cmV a, cmV b] w fun e w' => e = .returned (.bool (cmSame a b)) ∧ Below w.heap.size w w' := by
  obtain ⟨k, s, n⟩ := a
  obtain ⟨k', s', n'⟩ := b
  have hS := fun w => realSame_any n n' w
  replace hS := Lib.hid hS
  have bel := ((Below.refl w.heap.size w).alloc (Nat.le_refl _) (.cells #[.int .i64 k, .string s, .float .f64 n] 90)).alloc (by simp) (.cells #[.int .i64 k', .string s', .float .f64 n'] 90)
  by_cases h1 : k = k'
  · subst h1
    by_cases h2 : s = s'
    · subst h2
      have hR : Hid (cmSame (k, s, n) (k, s, n') = decide (bitsOf n = bitsOf n')) := Lib.hid (by unfold cmSame; simp)
      go_enter Try.func138, Try.ntmps138
      go_wp2_with fail
      refine (hS.out _).mono ?_
      rintro e w1 ⟨rfl, rfl⟩
      go_wp2_with fail
      go_ret
      exact ⟨rb hR.out.symm, bel⟩
    · have hR : Hid (cmSame (k, s, n) (k, s', n') = false) := Lib.hid (by unfold cmSame; simp [h2])
      have b2 : ¬ s.toList = s'.toList := fun h => h2 (ba_ext h)
      clear h2
      go_enter Try.func138, Try.ntmps138
      go_wp2_with fail
      go_ret
      exact ⟨rb hR.out.symm, bel⟩
  · have hR : Hid (cmSame (k, s, n) (k', s', n') = false) := Lib.hid (by unfold cmSame; simp [h1])
    have b1 : (k == k') = false := by simpa using h1
    go_enter Try.func138, Try.ntmps138
    go_wp2_with fail
    go_ret
    exact ⟨rb hR.out.symm, bel⟩
set_option maxRecDepth 100000 in
set_option maxHeartbeats 3200000 in
theorem eqFuncCm_any (u v : Value) (xs ys : List Cm) (w : World) (hx : Rw w 3 u (cml xs)) (hy : Rw w 3 v (cml ys)) :
    Calls Try.prog 137 #[u, v, .func (.func 138) #[] #[]] w fun e w' => e = .returned (.bool (cmdsSame xs ys)) ∧ Below w.heap.size w w' := by
  obtain ⟨A, n, c, rfl, hl, hnc, hcM⟩ := hx.form
  rw [cml_len] at hl
  obtain rfl : n = xs.length := by omega
  obtain ⟨A', n', c', rfl, hl', hnc', hcM'⟩ := hy.form
  rw [cml_len] at hl'
  obtain rfl : n' = ys.length := by omega
  clear hl hl'
  have eg : ∀ args w, (callFunc 138 args).run Try.prog w = .ok (.enter 138 args) w := enters_of Try.func138 (by kernel_rfl) rfl
  by_cases hlen : xs.length = ys.length
  · have hR : cmdsSame xs ys = (xs.zip ys).all (fun p => cmSame p.1 p.2) := by unfold cmdsSame; rw [decide_eq_true hlen, Bool.true_and]
    rw [hR]
    clear hR
    have hrx := hx.rd
    have hry := hy.rd
    generalize hG : (xs.zip ys).all (fun p => cmSame p.1 p.2) = G at *
    replace hG := Lib.hid hG
    rw [← hlen] at hry hnc' ⊢
    replace hlen := Lib.hid hlen
    clear hx hy
    go_enter Try.func137, Try.ntmps137
    go_wp2_with fail
    go_loopw [17] (fun s5 wr => ∃ k : Nat, k ≤ xs.length ∧ s5 = .int .i64 (k : Int) ∧ St (snap w) [] wr ∧ Env w wr ∧ Hid (((xs.drop k).zip (ys.drop k)).all (fun p => cmSame p.1 p.2) = G)) (fun s5 _ => xs.length - (intOf s5).toNat)
    case atStart => exact ⟨0, by omega, rfl, St.start w, Env.refl w, hG⟩
    case round =>
      obtain ⟨k, hk, rfl, hst, hen, hall⟩ := hrel
      clear hG
      by_cases hlt : k < xs.length
      · have hlt2 : k < ys.length := by rw [← hlen.out]; exact hlt
        obtain ⟨b, off, rfl, hcx⟩ := hrx.cells hst (by omega)
        obtain ⟨b', off', rfl, hcy⟩ := hry.cells hst (by omega)
        have q0 := hcx _ _ (cml_get xs k hlt).1
        have q1 := hcx _ _ (cml_get xs k hlt).2.1
        have q2 := hcx _ _ (cml_get xs k hlt).2.2
        have r0 := hcy _ _ (cml_get ys k hlt2).1
        have r1 := hcy _ _ (cml_get ys k hlt2).2.1
        have r2 := hcy _ _ (cml_get ys k hlt2).2.2
        rw [← Nat.add_assoc] at q1 q2 r1 r2
        clear hcx hcy
        have hst2 := hall.out
        rw [zip_step xs ys k hlt hlt2] at hst2
        have ql := World.block_lt_of_cell? _ _ q0
        have rl := World.block_lt_of_cell? _ _ r0
        have hC := fun w => cmdSame_any xs[k] ys[k] w
        generalize xs[k] = x at *
        generalize ys[k] = y at *
        obtain ⟨x0, x1, x2⟩ := x
        obtain ⟨y0, y1, y2⟩ := y
        try simp only at q0 q1 q2 r0 r1 r2 hst2
        obtain ⟨H1, l1, h1, a⟩ := hst.box #[.int .i64 x0, .string x1, .float .f64 x2] 90
        obtain ⟨H2, l2, h2, z⟩ := h1.box #[.int .i64 y0, .string y1, .float .f64 y2] 90
        have e1 : (wr.alloc (.cells #[.int .i64 x0, .string x1, .float .f64 x2] 90)).heap.size = wr.heap.size + 1 := by simp
        rw [e1] at z
        have en2 := (hen.alloc (.cells #[.int .i64 x0, .string x1, .float .f64 x2] 90)).alloc (.cells #[.int .i64 y0, .string y1, .float .f64 y2] 90)
        have a0 := h2.cell (Hp.cell_le l2 (a 0 _ rfl))
        have a1 := h2.cell (Hp.cell_le l2 (a 1 _ rfl))
        have a2 := h2.cell (Hp.cell_le l2 (a 2 _ rfl))
        have z0 := h2.cell (z 0 _ rfl)
        have z1 := h2.cell (z 1 _ rfl)
        have z2 := h2.cell (z 2 _ rfl)
        have al := World.block_lt_of_cell? _ _ a0
        have zl := World.block_lt_of_cell? _ _ z0
        clear a z h1 e1
        cases hok : cmSame (x0, x1, x2) (y0, y1, y2) with
        | false =>
          rw [hok, Bool.false_and] at hst2
          simp only [hok] at hC
          replace hC := Lib.hid hC
          replace hst2 := Lib.hid hst2
          clear hok
          go_wp2_with fail
          refine (hC.out _).mono ?_
          rintro e w2 ⟨rfl, hb2⟩
          go_wp2_with fail
          go_ret
          exact ⟨rb hst2.out, ((h2.below hb2).weaken (Hp.le_trans l1 l2)).toBelow (en2.trans (bel_env hb2))⟩
        | true =>
          rw [hok, Bool.true_and] at hst2
          simp only [hok] at hC
          replace hC := Lib.hid hC
          replace hst2 := Lib.hid hst2
          clear hok
          go_wp2_with fail
          refine (hC.out _).mono ?_
          rintro e w2 ⟨rfl, hb2⟩
          go_wp2_with fail
          go_roundw
          case rel => exact ⟨k + 1, by omega, by go_num, (h2.below hb2).weaken (Hp.le_trans l1 l2), en2.trans (bel_env hb2), hst2⟩
          case measure => simp [intOf]; omega
      · obtain rfl : k = xs.length := by omega
        have hg : Hid (G = true) := Lib.hid (by rw [← hall.out, List.drop_length]; rfl)
        go_wp2_with fail
        go_ret
        exact ⟨rb hg.out.symm, hst.toBelow hen⟩
  · have hR : cmdsSame xs ys = false := by unfold cmdsSame; rw [decide_eq_false hlen, Bool.false_and]
    rw [hR]
    have hl : ((xs.length : Int) != (ys.length : Int)) = true := by rw [bne_iff_ne]; omega
    have hl2 : (xs.length == ys.length) = false := by simpa using hlen
    clear hR hlen
    go_enter Try.func137, Try.ntmps137
    go_wp2_with fail
    go_ret
    exact ⟨rfl, Below.refl _ _⟩
set_option maxRecDepth 100000 in
set_option maxHeartbeats 800000 in
theorem batSame_any (u v : Value) (xs ys : List Cm) (w : World) (hx : Rw w 3 u (cml xs)) (hy : Rw w 3 v (cml ys)) :
    Calls Try.prog 113 #[u, v] w fun e w' => e = .returned (.bool (cmdsSame xs ys)) ∧ Below w.heap.size w w' := by
  have hE := eqFuncCm_any u v xs ys w hx hy
  obtain ⟨A, n, c, rfl, -⟩ := hx.form
  obtain ⟨A', n', c', rfl, -⟩ := hy.form
  replace hE := Lib.hid hE
  clear hx hy
  go_enter Try.func113, Try.ntmps113
  go_wp2_with fail
  refine hE.out.mono ?_
  rintro e w2 ⟨rfl, hb2⟩
  go_wp2_with fail
  go_ret
  exact ⟨rfl, hb2⟩
set_option maxRecDepth 100000 in
set_option maxHeartbeats 3200000 in
theorem equalIds_any (u v : Value) (xs ys : List Id) (w : World) (hx : Rw w 2 u (idl xs)) (hy : Rw w 2 v (idl ys)) :
    Calls Try.prog 112 #[u, v] w fun e w' => e = .returned (.bool (decide (xs = ys))) ∧ Below w.heap.size w w' := by
  obtain ⟨A1, n1, c1, rfl, hn1, hc1, hc1'⟩ := hx.form
  obtain ⟨A2, n2, c2, rfl, hn2, hc2, hc2'⟩ := hy.form
  rw [idl_len] at hn1 hn2
  obtain rfl : n1 = xs.length := by omega
  obtain rfl : n2 = ys.length := by omega
  clear hn1 hn2
  by_cases hlen : xs.length = ys.length
  · obtain ⟨G, hG⟩ : ∃ G, Hid (decide (xs.drop 0 = ys.drop 0) = G) := ⟨_, Lib.hid rfl⟩
    have hG2 : decide (xs = ys) = G := by rw [← hG.out]; simp
    rw [hG2]
    have hxr := hx.rd
    have hyr := hy.rd
    have hd := fun k h h' => dec_ids xs ys k h h'
    replace hd := Lib.hid hd
    rw [← hlen] at hyr hc2 ⊢
    replace hlen := Lib.hid hlen
    clear hG2 hx hy
    go_enter Try.func112, Try.ntmps112
    go_wp2_with fail
    go_loopw [13] (fun i wr => ∃ k : Nat, k ≤ xs.length ∧ i = .int .i64 (k : Int) ∧ St (snap w) [] wr ∧ Env w wr ∧ Hid (decide (xs.drop k = ys.drop k) = G)) (fun i _ => xs.length - (intOf i).toNat)
    case atStart => exact ⟨0, by omega, by go_num, St.start w, Env.refl w, hG⟩
    case round =>
      clear hG
      obtain ⟨k, hk, rfl, hst, hen, hg⟩ := hrel
      by_cases hlt : k < xs.length
      · have hlt2 : k < ys.length := by rw [← hlen.out]; exact hlt
        obtain ⟨xb, xo, hA, hcx⟩ := rd_at hxr (by omega)
        cases hA
        obtain ⟨yb, yo, hA, hcy⟩ := rd_at hyr (by omega)
        cases hA
        have p0 := hcx _ _ (idl_fst xs k hlt)
        have p1 := hcx _ _ (idl_snd xs k hlt)
        have q0 := hcy _ _ (idl_fst ys k hlt2)
        have q1 := hcy _ _ (idl_snd ys k hlt2)
        rw [← Nat.add_assoc] at p1 q1
        clear hcx hcy
        have hst2 := hd.out k hlt hlt2
        rw [hg.out] at hst2
        generalize xs[k] = x at *
        generalize ys[k] = y at *
        have kk : (fun w' : World => w'.cell? ⟨xb, xo + k * 2, none⟩ = some (.int .i64 x.1) ∧ w'.cell? ⟨xb, xo + k * 2 + 1, none⟩ = some (.int .i64 x.2) ∧ w'.cell? ⟨yb, yo + k * 2, none⟩ = some (.int .i64 y.1) ∧ w'.cell? ⟨yb, yo + k * 2 + 1, none⟩ = some (.int .i64 y.2)) wr.drew := ⟨hst.drew.cell p0, hst.drew.cell p1, hst.drew.cell q0, hst.drew.cell q1⟩
        have hk0 : (0 : Int) ≤ (k : Int) := by omega
        have hkl : (k : Int) < (xs.length : Int) := by omega
        by_cases h1 : x = y
        · have hb1 := idEq_of h1
          have hgn : Hid (decide (xs.drop (k + 1) = ys.drop (k + 1)) = G) := Lib.hid (by rw [hst2, show decide (x = y) = true from decide_eq_true h1, Bool.true_and])
          replace h1 := Lib.hid h1
          clear hst2 hg p0 p1 q0 q1
          obtain ⟨r, s⟩ := x
          obtain ⟨r', s'⟩ := y
          try simp only at hb1 kk
          go_wp2_with fail
          refine wp_region_held_drew (S := fun w' : World => w'.cell? ⟨xb, xo + k * 2, none⟩ = some (.int .i64 r) ∧ w'.cell? ⟨xb, xo + k * 2 + 1, none⟩ = some (.int .i64 s) ∧ w'.cell? ⟨yb, yo + k * 2, none⟩ = some (.int .i64 r') ∧ w'.cell? ⟨yb, yo + k * 2 + 1, none⟩ = some (.int .i64 s')) (by kernel_rfl) kk (fun hHeld => ?_)
          refine wpAnyH_take (i := 0) (oi := { dst := some 16, op := Go.Op.move (Go.Operand.tmp 0), type := 29, pos := "slices.go:25", after := #[], guard := none }) (v := ?_) rfl (by kernel_rfl) (by kernel_rfl) (by kernel_rfl) (fun _ _ _ h => h) (Or.inl ⟨by rfl, ?_⟩) (by assumption) ?_
          rotate_left
          · (intro w hSw; (try dsimp only at hSw); go_simp; (try (with_reducible rfl)))
          try simp only [Act.put, List.setIfInBounds_toArray, List.set_cons_zero, List.set_cons_succ]
          refine wpAnyH_take (i := 1) (oi := { dst := some 17, op := Go.Op.move (Go.Operand.tmp 5), type := 3, pos := "slices.go:25", after := #[], guard := none }) (v := ?_) rfl (by kernel_rfl) (by kernel_rfl) (by kernel_rfl) (fun _ _ _ h => h) (Or.inl ⟨by rfl, ?_⟩) (by assumption) ?_
          rotate_left
          · (intro w hSw; (try dsimp only at hSw); go_simp; (try (with_reducible rfl)))
          try simp only [Act.put, List.setIfInBounds_toArray, List.set_cons_zero, List.set_cons_succ]
          refine wpAnyH_take (i := 2) (oi := { dst := some 18, op := Go.Op.indexAddr 29 (Go.Operand.tmp 16) (Go.Operand.tmp 17), type := 0, pos := "slices.go:25", after := #[{ on := 0, ground := Go.Ground.data }, { on := 1, ground := Go.Ground.data }], guard := none }) (v := ?_) rfl (by kernel_rfl) (by kernel_rfl) (by kernel_rfl) (fun _ _ _ h => h) (Or.inl ⟨by rfl, ?_⟩) (by assumption) ?_
          rotate_left
          · (intro w hSw; (try dsimp only at hSw); go_simp; (try (with_reducible rfl)))
          try simp only [Act.put, List.setIfInBounds_toArray, List.set_cons_zero, List.set_cons_succ]
          refine wpAnyH_take (i := 3) (oi := { dst := some 19, op := Go.Op.load 28 (Go.Operand.tmp 18), type := 28, pos := "slices.go:25", after := #[{ on := 2, ground := Go.Ground.data }], guard := none }) (v := ?_) rfl (by kernel_rfl) (by kernel_rfl) (by kernel_rfl) (fun _ _ _ h => h) (Or.inl ⟨by rfl, ?_⟩) (by assumption) ?_
          rotate_left
          · (intro w hSw; (try dsimp only at hSw); go_simp; (try (with_reducible rfl)))
          try simp only [Act.put, List.setIfInBounds_toArray, List.set_cons_zero, List.set_cons_succ]
          refine wpAnyH_take (i := 4) (oi := { dst := some 20, op := Go.Op.move (Go.Operand.tmp 1), type := 29, pos := "slices.go:25", after := #[], guard := none }) (v := ?_) rfl (by kernel_rfl) (by kernel_rfl) (by kernel_rfl) (fun _ _ _ h => h) (Or.inl ⟨by rfl, ?_⟩) (by assumption) ?_
          rotate_left
          · (intro w hSw; (try dsimp only at hSw); go_simp; (try (with_reducible rfl)))
          try simp only [Act.put, List.setIfInBounds_toArray, List.set_cons_zero, List.set_cons_succ]
          refine wpAnyH_take (i := 5) (oi := { dst := some 21, op := Go.Op.move (Go.Operand.tmp 5), type := 3, pos := "slices.go:25", after := #[], guard := none }) (v := ?_) rfl (by kernel_rfl) (by kernel_rfl) (by kernel_rfl) (fun _ _ _ h => h) (Or.inl ⟨by rfl, ?_⟩) (by assumption) ?_
          rotate_left
          · (intro w hSw; (try dsimp only at hSw); go_simp; (try (with_reducible rfl)))
          try simp only [Act.put, List.setIfInBounds_toArray, List.set_cons_zero, List.set_cons_succ]
          refine wpAnyH_take (i := 6) (oi := { dst := some 22, op := Go.Op.indexAddr 29 (Go.Operand.tmp 20) (Go.Operand.tmp 21), type := 0, pos := "slices.go:25", after := #[{ on := 4, ground := Go.Ground.data }, { on := 5, ground := Go.Ground.data }], guard := none }) (v := ?_) rfl (by kernel_rfl) (by kernel_rfl) (by kernel_rfl) (fun _ _ _ h => h) (Or.inl ⟨by rfl, ?_⟩) (by assumption) ?_
          rotate_left
          · (intro w hSw; (try dsimp only at hSw); go_simp; (try (with_reducible rfl)))
          try simp only [Act.put, List.setIfInBounds_toArray, List.set_cons_zero, List.set_cons_succ]
          refine wpAnyH_take (i := 7) (oi := { dst := some 23, op := Go.Op.load 28 (Go.Operand.tmp 22), type := 28, pos := "slices.go:25", after := #[{ on := 6, ground := Go.Ground.data }], guard := none }) (v := ?_) rfl (by kernel_rfl) (by kernel_rfl) (by kernel_rfl) (fun _ _ _ h => h) (Or.inl ⟨by rfl, ?_⟩) (by assumption) ?_
          rotate_left
          · (intro w hSw; (try dsimp only at hSw); go_simp; (try (with_reducible rfl)))
          try simp only [Act.put, List.setIfInBounds_toArray, List.set_cons_zero, List.set_cons_succ]
          refine wpAnyH_take (i := 8) (oi := { dst := some 24, op := Go.Op.binOp Go.BinOp.neq 28 (Go.Operand.tmp 19) (Go.Operand.tmp 23) 28, type := 4, pos := "slices.go:25", after := #[{ on := 3, ground := Go.Ground.data }, { on := 7, ground := Go.Ground.data }], guard := none }) (v := ?_) rfl (by kernel_rfl) (by kernel_rfl) (by kernel_rfl) (fun _ _ _ h => h) (Or.inl ⟨by rfl, ?_⟩) (by assumption) ?_
          rotate_left
          · (intro w hSw; (try dsimp only at hSw); go_simp; (try (with_reducible rfl)))
          try simp only [Act.put, List.setIfInBounds_toArray, List.set_cons_zero, List.set_cons_succ]
          refine wpAnyH_done (by kernel_rfl) ?_ _
          clear hHeld kk hb1 hk0 hkl
          go_wp2_with fail
          go_roundw
          case rel => exact ⟨k + 1, by omega, by go_num, hst.drew, hen.drew, hgn⟩
          case measure => simp [intOf]; omega
        · have hb1 := idEq_not h1
          have hgn : Hid (G = false) := Lib.hid (by rw [hst2, show decide (x = y) = false from decide_eq_false h1, Bool.false_and])
          clear hst2 hg p0 p1 q0 q1 h1
          obtain ⟨r, s⟩ := x
          obtain ⟨r', s'⟩ := y
          try simp only at hb1 kk
          go_wp2_with fail
          refine wp_region_held_drew (S := fun w' : World => w'.cell? ⟨xb, xo + k * 2, none⟩ = some (.int .i64 r) ∧ w'.cell? ⟨xb, xo + k * 2 + 1, none⟩ = some (.int .i64 s) ∧ w'.cell? ⟨yb, yo + k * 2, none⟩ = some (.int .i64 r') ∧ w'.cell? ⟨yb, yo + k * 2 + 1, none⟩ = some (.int .i64 s')) (by kernel_rfl) kk (fun hHeld => ?_)
          refine wpAnyH_take (i := 0) (oi := { dst := some 16, op := Go.Op.move (Go.Operand.tmp 0), type := 29, pos := "slices.go:25", after := #[], guard := none }) (v := ?_) rfl (by kernel_rfl) (by kernel_rfl) (by kernel_rfl) (fun _ _ _ h => h) (Or.inl ⟨by rfl, ?_⟩) (by assumption) ?_
          rotate_left
          · (intro w hSw; (try dsimp only at hSw); go_simp; (try (with_reducible rfl)))
          try simp only [Act.put, List.setIfInBounds_toArray, List.set_cons_zero, List.set_cons_succ]
          refine wpAnyH_take (i := 1) (oi := { dst := some 17, op := Go.Op.move (Go.Operand.tmp 5), type := 3, pos := "slices.go:25", after := #[], guard := none }) (v := ?_) rfl (by kernel_rfl) (by kernel_rfl) (by kernel_rfl) (fun _ _ _ h => h) (Or.inl ⟨by rfl, ?_⟩) (by assumption) ?_
          rotate_left
          · (intro w hSw; (try dsimp only at hSw); go_simp; (try (with_reducible rfl)))
          try simp only [Act.put, List.setIfInBounds_toArray, List.set_cons_zero, List.set_cons_succ]
          refine wpAnyH_take (i := 2) (oi := { dst := some 18, op := Go.Op.indexAddr 29 (Go.Operand.tmp 16) (Go.Operand.tmp 17), type := 0, pos := "slices.go:25", after := #[{ on := 0, ground := Go.Ground.data }, { on := 1, ground := Go.Ground.data }], guard := none }) (v := ?_) rfl (by kernel_rfl) (by kernel_rfl) (by kernel_rfl) (fun _ _ _ h => h) (Or.inl ⟨by rfl, ?_⟩) (by assumption) ?_
          rotate_left
          · (intro w hSw; (try dsimp only at hSw); go_simp; (try (with_reducible rfl)))
          try simp only [Act.put, List.setIfInBounds_toArray, List.set_cons_zero, List.set_cons_succ]
          refine wpAnyH_take (i := 3) (oi := { dst := some 19, op := Go.Op.load 28 (Go.Operand.tmp 18), type := 28, pos := "slices.go:25", after := #[{ on := 2, ground := Go.Ground.data }], guard := none }) (v := ?_) rfl (by kernel_rfl) (by kernel_rfl) (by kernel_rfl) (fun _ _ _ h => h) (Or.inl ⟨by rfl, ?_⟩) (by assumption) ?_
          rotate_left
          · (intro w hSw; (try dsimp only at hSw); go_simp; (try (with_reducible rfl)))
          try simp only [Act.put, List.setIfInBounds_toArray, List.set_cons_zero, List.set_cons_succ]
          refine wpAnyH_take (i := 4) (oi := { dst := some 20, op := Go.Op.move (Go.Operand.tmp 1), type := 29, pos := "slices.go:25", after := #[], guard := none }) (v := ?_) rfl (by kernel_rfl) (by kernel_rfl) (by kernel_rfl) (fun _ _ _ h => h) (Or.inl ⟨by rfl, ?_⟩) (by assumption) ?_
          rotate_left
          · (intro w hSw; (try dsimp only at hSw); go_simp; (try (with_reducible rfl)))
          try simp only [Act.put, List.setIfInBounds_toArray, List.set_cons_zero, List.set_cons_succ]
          refine wpAnyH_take (i := 5) (oi := { dst := some 21, op := Go.Op.move (Go.Operand.tmp 5), type := 3, pos := "slices.go:25", after := #[], guard := none }) (v := ?_) rfl (by kernel_rfl) (by kernel_rfl) (by kernel_rfl) (fun _ _ _ h => h) (Or.inl ⟨by rfl, ?_⟩) (by assumption) ?_
          rotate_left
          · (intro w hSw; (try dsimp only at hSw); go_simp; (try (with_reducible rfl)))
          try simp only [Act.put, List.setIfInBounds_toArray, List.set_cons_zero, List.set_cons_succ]
          refine wpAnyH_take (i := 6) (oi := { dst := some 22, op := Go.Op.indexAddr 29 (Go.Operand.tmp 20) (Go.Operand.tmp 21), type := 0, pos := "slices.go:25", after := #[{ on := 4, ground := Go.Ground.data }, { on := 5, ground := Go.Ground.data }], guard := none }) (v := ?_) rfl (by kernel_rfl) (by kernel_rfl) (by kernel_rfl) (fun _ _ _ h => h) (Or.inl ⟨by rfl, ?_⟩) (by assumption) ?_
          rotate_left
          · (intro w hSw; (try dsimp only at hSw); go_simp; (try (with_reducible rfl)))
          try simp only [Act.put, List.setIfInBounds_toArray, List.set_cons_zero, List.set_cons_succ]
          refine wpAnyH_take (i := 7) (oi := { dst := some 23, op := Go.Op.load 28 (Go.Operand.tmp 22), type := 28, pos := "slices.go:25", after := #[{ on := 6, ground := Go.Ground.data }], guard := none }) (v := ?_) rfl (by kernel_rfl) (by kernel_rfl) (by kernel_rfl) (fun _ _ _ h => h) (Or.inl ⟨by rfl, ?_⟩) (by assumption) ?_
          rotate_left
          · (intro w hSw; (try dsimp only at hSw); go_simp; (try (with_reducible rfl)))
          try simp only [Act.put, List.setIfInBounds_toArray, List.set_cons_zero, List.set_cons_succ]
          refine wpAnyH_take (i := 8) (oi := { dst := some 24, op := Go.Op.binOp Go.BinOp.neq 28 (Go.Operand.tmp 19) (Go.Operand.tmp 23) 28, type := 4, pos := "slices.go:25", after := #[{ on := 3, ground := Go.Ground.data }, { on := 7, ground := Go.Ground.data }], guard := none }) (v := ?_) rfl (by kernel_rfl) (by kernel_rfl) (by kernel_rfl) (fun _ _ _ h => h) (Or.inl ⟨by rfl, ?_⟩) (by assumption) ?_
          rotate_left
          · (intro w hSw; (try dsimp only at hSw); go_simp; (try (with_reducible rfl)))
          try simp only [Act.put, List.setIfInBounds_toArray, List.set_cons_zero, List.set_cons_succ]
          refine wpAnyH_done (by kernel_rfl) ?_ _
          clear hHeld kk
          go_wp2_with fail
          go_ret
          exact ⟨rb hgn.out.symm, hst.drew.toBelow hen.drew⟩
      · obtain rfl : k = xs.length := by omega
        have hgn : Hid (G = true) := Lib.hid (by rw [← hg.out, List.drop_length, List.drop_eq_nil_of_le (by rw [← hlen.out]; omega)]; rfl)
        go_wp2_with fail
        go_ret
        exact ⟨rb hgn.out.symm, hst.toBelow hen⟩
  · have hne : decide (xs = ys) = false := decide_eq_false (fun e => hlen (by rw [e]))
    rw [hne]
    have hl : ((xs.length : Int) != (ys.length : Int)) = true := by rw [bne_iff_ne]; omega
    have hl2 : (xs.length == ys.length) = false := by simpa using hlen
    clear hne hlen
    go_enter Try.func112, Try.ntmps112
    go_wp2_with fail
    go_ret
    exact ⟨rfl, Below.refl _ _⟩
end Go.Proofs.Ytelmhcbdpimaaaa
