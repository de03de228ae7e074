/- Joined texts: VertComp. -/
import Derived.Test.YtelmhcbdpimaaaaVA14
/- Law 21: what Compact keeps. -/
set_option linter.unusedVariables false
set_option linter.unusedSimpArgs false
namespace Go.Proofs.Ytelmhcbdpimaaaa
open Go.RowKit Go.Cw Go.Fl
attribute [local go_sem ↓] eql_id neq_id
theorem sub_len21 : ∀ (L M : List Id), L.Nodup → (∀ a, a ∈ L → a ∈ M) → L.length ≤ M.length
  | [], _, _, _ => Nat.zero_le _
  | x :: r, M, hn, hs => by
    obtain ⟨h1, h2⟩ := List.nodup_cons.1 hn
    have hx := hs x (List.mem_cons_self ..)
    have := sub_len21 r (M.erase x) h2 (fun a ha => by
      have hne : a ≠ x := fun e => h1 (e ▸ ha)
      exact (List.mem_erase_of_ne hne).2 (hs a (List.mem_cons_of_mem _ ha)))
    rw [List.length_erase_of_mem hx] at this
    have hpos := List.length_pos_of_mem hx
    simp only [List.length_cons]
    omega
theorem sortL_kids {K : List Kp} (h : (kids K).Nodup) : (sortL (kids K)).length = K.length := by
  have h1 := sortL_len (kids K)
  have h2 := sub_len21 (kids K) (sortL (kids K)) h (fun a ha => (sortL_mem _ _).2 ha)
  have h3 : (kids K).length = K.length := by simp [kids]
  omega
theorem kids_keep (low : List Nat) (K : List Kp) (a : Id) : a ∈ kids (keepK low K) ↔ a ∈ kids K ∧ aboveL low a = true := by
  unfold kids keepK
  simp only [List.mem_map, List.mem_filter]
  constructor
  · rintro ⟨x, ⟨h1, h2⟩, rfl⟩
    exact ⟨⟨x, h1, rfl⟩, h2⟩
  · rintro ⟨⟨x, h1, rfl⟩, h2⟩
    exact ⟨x, ⟨h1, h2⟩, rfl⟩
/-- Floors of what is done. -/
def FlL (M : List Id) (low : List Nat) : Prop := ∀ r : Nat, r < 8 → FlP M (r : Int) (low.getD r 0)
theorem FlL.one {M : List Id} {low low2 : List Nat} (h : FlL M low) (h2 : FlL M low2) (a : Id) (ha : idOk a = true) : aboveL low a = aboveL low2 a := by
  obtain ⟨h3, h4, _⟩ := (idOk_iff _).1 ha
  unfold aboveL
  rw [FlP.one (h a.1.toNat (by omega)) (h2 a.1.toNat (by omega))]
theorem keepK_two {M : List Id} {low low2 : List Nat} {K : List Kp} (h : FlL M low) (h2 : FlL M low2) (hid : ∀ x ∈ K, idOk x.1.1 = true) : keepK low2 (keepK low K) = keepK low K := by
  refine List.filter_eq_self.2 (fun x hx => ?_)
  obtain ⟨h3, h4⟩ := List.mem_filter.1 hx
  rw [← h.one h2 _ (hid x h3)]
  exact h4
theorem below_done {M : List Id} {low : List Nat} {a : Id} (h : FlL M low) (ha : idOk a = true) (hb : aboveL low a = false) : a ∈ M := by
  obtain ⟨h3, h4, h5, h6⟩ := (idOk_iff _).1 ha
  obtain ⟨r, s⟩ := a
  simp only at h3 h4 h5 h6
  obtain ⟨n, rfl⟩ : ∃ n : Nat, r = (n : Int) := ⟨r.toNat, by omega⟩
  obtain ⟨m, rfl⟩ : ∃ m : Nat, s = (m : Int) := ⟨s.toNat, by omega⟩
  unfold aboveL at hb
  simp only [Bool.not_eq_eq_eq_not, Bool.not_false, decide_eq_true_eq, Int.toNat_natCast] at hb
  exact (h n (by omega)).1 m (by omega) (by omega)
theorem st_gone {M : List Id} {K : List Kp} {a : Id} (h1 : a ∉ kids K) (h2 : a ∈ M) : stK K M a = 3 := by
  unfold stK
  rw [lookKp_iff, decide_eq_false h1, if_neg (by simp), if_pos h2]
theorem st_kept {M : List Id} {K : List Kp} {a : Id} (h1 : a ∈ kids K) : stK K M a = 1 ∨ stK K M a = 2 := by
  unfold stK
  rw [lookKp_iff, decide_eq_true h1, if_pos rfl]
  cases (lookKp K a).1.2
  · exact .inl rfl
  · exact .inr rfl
theorem putE_zero {room : Int} {K : List Kp} {low : List Nat} {x : Rp} (h : putE room K low x = 0) : recErr x = 0 ∧ x.1 ∉ kids K ∧ (K.length : Int) < room := by
  unfold putE at h
  by_cases h1 : recErr x = 0
  · rw [if_neg (by simpa using h1)] at h
    by_cases h2 : x.1.2 ≤ ((low.getD x.1.1.toNat 0 : Nat) : Int)
    · rw [if_pos h2] at h; omega
    · rw [if_neg h2] at h
      by_cases h3 : x.1 ∈ kids K
      · rw [if_pos h3] at h
        by_cases h4 : recSame (rp (lookKp K x.1).1.1) x = true
        · rw [if_pos h4] at h; omega
        · rw [if_neg h4] at h; omega
      · rw [if_neg h3] at h
        by_cases h4 : room ≤ (K.length : Int)
        · rw [if_pos h4] at h; omega
        · exact ⟨h1, h3, by omega⟩
  · rw [if_pos (by simpa using h1)] at h
    exact absurd h h1
theorem KpOk.put {H : Hp} {K : List Kp} {y : Rc} (h : KpOk H K) (hy : RcD H y) (he : recErr (rp y) = 0) (hn : K.length < 1000000) : KpOk H (K ++ [(y, false)]) := by
  refine ⟨?_, ?_, by simp; omega⟩
  · intro x hx
    rcases List.mem_append.1 hx with hx | hx
    · exact h.d x hx
    · rw [List.mem_singleton] at hx; subst hx; exact hy
  · intro x hx
    rcases List.mem_append.1 hx with hx | hx
    · exact h.b x hx
    · rw [List.mem_singleton] at hx; subst hx; exact recErr_len _ he
/-- What is kept is well. -/
def KOk (H : Hp) (K : List Kp) : Prop := KpOk H K ∧ ∀ x ∈ K, idOk x.1.1 = true
theorem vput_step {H : Hp} {p : Nat} {room : Int} {K : List Kp} {M : List Id} {low : List Nat} {fr : List HA} {x : Rp} {w w' : World} {e : Ending} (h : VPut H p room K M low fr x w e w') (hK : KOk H K) (hn : K.length < 1000000) :
    ∃ (E : Int) (H' : Hp) (K' : List Kp), e = .returned (.int .i64 E) ∧ Env w w' ∧ Hp.le H H' ∧ St H' (VsA p room K' M low :: fr) w' ∧ KOk H' K' ∧ K'.length ≤ K.length + 1 := by
  obtain ⟨h1, h2, H', h3, h4⟩ := h
  rcases h4 with ⟨_, h5⟩ | ⟨h5, y, h6, h7, h8⟩
  · exact ⟨_, H', K, h1, h2, h3, h5, ⟨hK.1.mono h3, hK.2⟩, by omega⟩
  · obtain ⟨g1, g2, g3⟩ := putE_zero h5
    rw [← h7] at g1
    refine ⟨_, H', _, h1, h2, h3, h8, ⟨(hK.1.mono h3).put h6 g1 hn, ?_⟩, by simp⟩
    intro z hz
    rcases List.mem_append.1 hz with hz | hz
    · exact hK.2 z hz
    · rw [List.mem_singleton] at hz
      subst hz
      exact recErr_id _ g1
theorem doneK_idOk {a : Id} {K : List Kp} (h : ∀ x ∈ K, idOk x.1.1 = true) : ∀ x ∈ doneK a K, idOk x.1.1 = true := by
  intro x hx
  have : x.1.1 ∈ kids (doneK a K) := List.mem_map.2 ⟨x, hx, rfl⟩
  rw [doneK_kids] at this
  obtain ⟨y, hy, he⟩ := List.mem_map.1 this
  rw [← he]
  exact h y hy
theorem vsDone_any (p : Nat) (room : Int) (K : List Kp) (M : List Id) (low : List Nat) (a : Id) (H : Hp) (fr : List HA) (w : World) (h : St H (VsA p room K M low :: fr) w) (hK : KOk H K) :
    Calls Try.prog 42 #[vsP p, idV a] w fun e w' => ∃ (b : Bool) (K' : List Kp) (M' : List Id), e = .returned (.bool b) ∧ Env w w' ∧ St H (VsA p room K' M' low :: fr) w' ∧ KOk H K' ∧ K'.length = K.length := by
  by_cases hs : stK K M a = 1
  · refine (vsDone_yes p room K M low a H fr w h hK.1 hs).mono ?_
    rintro e w' ⟨rfl, h2, en⟩
    exact ⟨_, _, _, rfl, en, h2, ⟨doneK_ok hK.1 a, doneK_idOk hK.2⟩, by simp [doneK]⟩
  · refine (vsDone_no p room K M low a H fr w h hK.1 hs).mono ?_
    rintro e w' ⟨rfl, hb⟩
    exact ⟨_, K, M, rfl, bel_env hb, h.below hb, hK, rfl⟩
theorem vsnew_max {w : World} {e : Ending} {w' : World} (h : VNewR 4096 w e w') : ∃ p, e = .returned (.tuple #[vsP p, .int .i64 0]) ∧ St (snap w) [VsA p 4096 [] [] z8] w' ∧ Env w w' := by
  rcases h with ⟨_, _, p, h1, h2, h3⟩ | ⟨h1, _⟩
  · exact ⟨p, h1, h2, h3⟩
  · omega
theorem ends21 {w wr w' : World} {H' : Hp} {l : List HA} (hle : Hp.le (snap w) H') (h : St H' l wr) (en : Env w wr) (hb : Below wr.heap.size wr w') : Below w.heap.size w w' := ((h.below hb).weaken hle).toBelow (en.trans (bel_env hb))
set_option maxRecDepth 100000 in
set_option maxHeartbeats 40000000 in
theorem vertComp_any (u v : Value) (l : List Rc) (D : List Int) (w : World) (hx : Rw w 5 u (recs l)) (hl : ∀ x ∈ l, RcR w x) (hv : Rw w 1 v (u8s D)) (hD : ∀ d ∈ D, 0 ≤ d ∧ d < 256) :
    Calls Try.prog 8 #[u, v] w fun e w' => e = .returned (.bool true) ∧ Below w.heap.size w w' := by
  obtain ⟨A, m, c, rfl, hn, hnc, hc⟩ := hx.form
  rw [recs_len] at hn
  obtain rfl : m = l.length := by omega
  clear hn
  obtain ⟨A2, m2, c2, rfl, hn2, hnc2, hc2⟩ := hv.form
  rw [u8s_len] at hn2
  obtain rfl : m2 = D.length := by omega
  clear hn2
  have hrd := hx.rd
  have hsd := hv.rd
  have hld : Hid (∀ x ∈ l, RcD (snap w) x) := Lib.hid (fun x hm => ⟨(hl x hm).d.rd, (hl x hm).b.rd, (hl x hm).ok⟩)
  clear hx hl hv
  replace hD := Lib.hid hD
  by_cases h60 : l.length ≤ 60
  · by_cases d60 : D.length ≤ 60
    · go_enter Try.func8, Try.ntmps8
      go_wp2_with fail
      refine (vsNew_any 4096 w).mono ?_
      rintro e w1 he
      obtain ⟨p, rfl, h1, en1⟩ := vsnew_max he
      clear he
      go_wp2_with fail
      go_loopw [7] (fun iv wr => ∃ (k : Nat) (H' : Hp) (K : List Kp), k ≤ l.length ∧ iv = .int .i64 (k : Int) ∧ Hp.le (snap w) H' ∧ St H' [VsA p 4096 K [] z8] wr ∧ Env w wr ∧ Hid (KOk H' K ∧ K.length ≤ k)) (fun i _ => l.length - (intOf i).toNat)
      case atStart => exact ⟨0, snap w, [], by omega, by go_num, Hp.le_refl _, h1, en1, Lib.hid ⟨⟨⟨by simp, by simp, by simp⟩, by simp⟩, by simp⟩⟩
      case round =>
        clear h1 en1
        obtain ⟨k, H', K, hk, rfl, hle, hst, hen, HK⟩ := hrel
        by_cases hlt : k < l.length
        · obtain ⟨b, off, hA, hcr⟩ := ((hrd.mono hle).rw hst).cells (by omega)
          cases hA
          obtain ⟨p0, p1, p2, p3, p4⟩ := recs_get l k hlt
          replace p0 := hcr _ _ p0
          replace p1 := hcr _ _ p1
          replace p2 := hcr _ _ p2
          replace p3 := hcr _ _ p3
          replace p4 := hcr _ _ p4
          rw [← Nat.add_assoc] at p1 p2 p3 p4
          clear hcr
          have hxk := hld.out l[k] (List.getElem_mem hlt)
          generalize l[k] = x at *
          obtain ⟨⟨x0, x1⟩, x2, dv, bv, xD, xB⟩ := x
          obtain ⟨d1, d2, d3, hdv, hd4, _⟩ := hxk.d.form
          obtain ⟨b1, b2, b3, hbv, hb4, _⟩ := hxk.b.form
          simp only at hdv hbv p0 p1 p2 p3 p4 hd4 hb4
          subst hdv hbv
          have pl := World.block_lt_of_cell? _ _ p3
          by_cases hf1 : (20 : Int) < (d2 : Int)
          · have ht : decide ((20 : Int) < (d2 : Int)) = true := decide_eq_true hf1
            go_wp2_with fail
            refine (works21 _).mono ?_
            rintro e w3 ⟨rfl, hb3⟩
            have hz := ends21 hle hst hen hb3
            go_wp2_with fail
            go_ret
            exact ⟨rfl, hz⟩
          · by_cases hf2 : (20 : Int) < (b2 : Int)
            · have ht : decide ((20 : Int) < (b2 : Int)) = true := decide_eq_true hf2
              go_wp2_with fail
              refine (works21 _).mono ?_
              rintro e w3 ⟨rfl, hb3⟩
              have hz := ends21 hle hst hen hb3
              go_wp2_with fail
              go_ret
              exact ⟨rfl, hz⟩
            · have hP := Lib.hid (vsPut_any p 4096 K [] z8 rfl _ H' [] _ hst HK.out.1.1 (hxk.mono hle))
              replace hxk := Lib.hid hxk
              go_wp2_with fail
              refine hP.out.mono ?_
              rintro e w3 he
              obtain ⟨E, H3, K3, rfl, en3, l3, h3, hK3, hlen⟩ := vput_step he HK.out.1 (by have := HK.out.2; omega)
              clear he hP
              have HK3 : Hid (KOk H3 K3 ∧ K3.length ≤ k + 1) := Lib.hid ⟨hK3, by have := HK.out.2; omega⟩
              clear hK3 hlen
              go_wp2_with fail
              go_roundw
              case rel => exact ⟨k + 1, H3, K3, by omega, by go_num, Hp.le_trans hle l3, h3, hen.trans en3, HK3⟩
              case measure => simp [intOf]; omega
        · obtain rfl : k = l.length := by omega
          clear hlt hk
          go_wp2_with fail
          go_loopw [8] (fun iv wr => ∃ (k : Nat) (K' : List Kp) (M : List Id), k ≤ D.length ∧ iv = .int .i64 (k : Int) ∧ St H' [VsA p 4096 K' M z8] wr ∧ Env w wr ∧ Hid (KOk H' K' ∧ K'.length ≤ 60)) (fun i _ => D.length - (intOf i).toNat)
          case atStart => exact ⟨0, K, [], by omega, by go_num, hst, hen, Lib.hid ⟨HK.out.1, by have := HK.out.2; omega⟩⟩
          case round =>
            clear hst hen HK K
            obtain ⟨k, K, M, hk, rfl, hst, hen, HK⟩ := hrel
            by_cases hgo : k < D.length ∧ 0 < l.length
            · obtain ⟨hlt, hl0⟩ := hgo
              have hl0' : (0 : Int) < (l.length : Int) := by omega
              obtain ⟨b, off, hA, hcr⟩ := ((hsd.mono hle).rw hst).cells (by omega)
              cases hA
              have p0 := u8s_get D k hlt
              replace p0 := hcr _ _ p0
              clear hcr
              have hdk := hD.out (D.getD k 0) (by rw [List.getD_eq_getElem?_getD, List.getElem?_eq_getElem hlt]; exact List.getElem_mem hlt)
              generalize D.getD k 0 = d at *
              have pl := World.block_lt_of_cell? _ _ p0
              obtain ⟨m, hm⟩ : ∃ m : Nat, d % (l.length : Int) = (m : Int) := ⟨(d % (l.length : Int)).toNat, by have := Int.emod_nonneg d (b := (l.length : Int)) (by omega); omega⟩
              have hml : m < l.length := by have := Int.emod_lt_of_pos d hl0'; omega
              have hml' : (m : Int) < (l.length : Int) := by omega
              obtain ⟨b2, off2, hA, hcr⟩ := ((hrd.mono hle).rw hst).cells (by omega)
              cases hA
              obtain ⟨q0, q1, -, -, -⟩ := recs_get l m hml
              replace q0 := hcr _ _ q0
              replace q1 := hcr _ _ q1
              rw [← Nat.add_assoc] at q1
              clear hcr
              generalize l[m] = x at *
              obtain ⟨⟨x0, x1⟩, x2, dv, bv, xD, xB⟩ := x
              simp only at q0 q1
              have ql := World.block_lt_of_cell? _ _ q0
              have hDn := Lib.hid (vsDone_any p 4096 K M z8 (x0, x1) H' [] _ hst HK.out.1)
              go_wp2_with fail
              refine hDn.out.mono ?_
              rintro e w3 ⟨bb, K3, M3, rfl, en3, h3, hK3, hlen⟩
              have HK3 : Hid (KOk H' K3 ∧ K3.length ≤ 60) := Lib.hid ⟨hK3, by have := HK.out.2; omega⟩
              clear hK3 hlen hDn
              go_wp2_with fail
              go_roundw
              case rel => exact ⟨k + 1, K3, M3, by omega, by go_num, h3, hen.trans en3, HK3⟩
              case measure => simp [intOf]; omega
            · have hgo' : ¬ (k : Int) < (D.length : Int) ∨ ((k : Int) < (D.length : Int) ∧ ¬ (0 : Int) < (l.length : Int)) := by omega
              clear hgo
              have hnd := vs_nodup hst
              rcases hgo' with hg1 | ⟨hg1, hg2⟩
              all_goals
                have hKe := Lib.hid (vsKept_any p 4096 K M z8 H' [] _ hst (by have := HK.out.2; omega))
                go_wp2_with fail
                refine hKe.out.mono ?_
                rintro e w3 ⟨bv, rfl, h3, en3⟩
                replace en3 := hen.trans en3
                obtain ⟨f1, f2, f3, rfl, hf2, _⟩ := h3.row_form
                rw [idl_len, sortL_kids hnd] at hf2
                obtain rfl : f2 = K.length := by omega
                obtain ⟨H3, l3, h4, hbef⟩ := h3.row_keep
                clear h3 hf2 hKe hst hen
                have hFr := Lib.hid (vsFree_any p 4096 (by decide) K (by have := HK.out.2; omega) M z8 H3 [] _ h4)
                go_wp2_with fail
                refine hFr.out.mono ?_
                rintro e w5 ⟨rfl, hb5⟩
                have h5 := h4.below hb5
                have en5 := en3.trans (bel_env hb5)
                clear h4 hb5 en3 hFr
                have hCm := Lib.hid (vsCompact_any p 4096 K M z8 rfl H3 [] _ h5 (by have := HK.out.2; omega) HK.out.1.2)
                go_wp2_with fail
                refine hCm.out.mono ?_
                rintro e w6 ⟨low, hlow, hfl, rfl, h6, en6⟩
                replace en6 := en5.trans en6
                clear hCm h5 en5
                have hkl : (keepK low K).length ≤ K.length := List.length_filter_le ..
                have hnd2 := vs_nodup h6
                have hKe := Lib.hid (vsKept_any p 4096 (keepK low K) M low H3 [] _ h6 (by have := HK.out.2; omega))
                go_wp2_with fail
                refine hKe.out.mono ?_
                rintro e w7 ⟨av, rfl, h7, en7⟩
                replace en7 := en6.trans en7
                obtain ⟨g1, g2, g3, rfl, hg2', _⟩ := h7.row_form
                rw [idl_len, sortL_kids hnd2] at hg2'
                obtain rfl : g2 = (keepK low K).length := by omega
                obtain ⟨H7, l7, h8, haft⟩ := h7.row_keep
                replace hbef := hbef.mono l7
                have l8 := Hp.le_trans hle (Hp.le_trans l3 l7)
                clear h7 hg2' hKe h6 en6
                replace hfl : Hid (FlL M low) := Lib.hid hfl
                replace hnd := Lib.hid hnd
                have hKK : Hid (KOk H7 K ∧ K.length ≤ 60) := Lib.hid ⟨⟨HK.out.1.1.mono (Hp.le_trans l3 l7), HK.out.1.2⟩, HK.out.2⟩
                clear HK
                go_wp2_with fail
                go_loopw [13] (fun iv wr => ∃ (k : Nat) (H' : Hp), k ≤ K.length ∧ iv = .int .i64 (k : Int) ∧ Hp.le H7 H' ∧ St H' [VsA p 4096 (keepK low K) M low] wr ∧ Env w wr) (fun i _ => K.length - (intOf i).toNat)
                case atStart => exact ⟨0, H7, by omega, by go_num, Hp.le_refl _, h8, en7⟩
                case round =>
                  clear h8 en7
                  obtain ⟨k, H8, hk, rfl, l9, hst, hen⟩ := hrel
                  have hK60 : K.length ≤ 60 := hKK.out.2
                  by_cases hlt : k < K.length
                  · have hkR : k < (sortL (kids K)).length := by rw [sortL_kids hnd.out]; exact hlt
                    obtain ⟨b, off, hA, hcr⟩ := ((hbef.mono l9).rw hst).cells (by omega)
                    cases hA
                    have q0 := hcr _ _ (idl_fst (sortL (kids K)) k hkR)
                    have q1 := hcr _ _ (idl_snd (sortL (kids K)) k hkR)
                    rw [← Nat.add_assoc] at q1
                    clear hcr
                    have hin : (sortL (kids K))[k] ∈ kids K := (sortL_mem _ _).1 (List.getElem_mem hkR)
                    generalize (sortL (kids K))[k] = a at *
                    have hai : idOk a = true := by
                      obtain ⟨y, hy, he⟩ := List.mem_map.1 hin
                      rw [← he]
                      exact hKK.out.1.2 y hy
                    obtain ⟨hr0, hr8, hs1, hs2⟩ := (idOk_iff _).1 hai
                    have hmem := kids_keep low K a
                    have hbd := fun hb => below_done hfl.out hai hb
                    have hfla := fun (n : Nat) (w' : World) (h' : St (snap w') [] w') => n
                    obtain ⟨xr, xs⟩ := a
                    simp only at hr0 hr8 hs1 hs2 q0 q1
                    obtain ⟨n, rfl⟩ : ∃ n : Nat, xr = (n : Int) := ⟨xr.toNat, by omega⟩
                    have hn8 : n < 8 := by omega
                    obtain ⟨lo, hlo⟩ : ∃ lo : Nat, low.getD n 0 = lo := ⟨_, rfl⟩
                    have hab : aboveL low ((n : Int), xs) = !decide (xs ≤ (lo : Int)) := by unfold aboveL; simp only [Int.toNat_natCast, hlo]
                    have ql := World.block_lt_of_cell? _ _ q0
                    obtain ⟨H9, l10, h10, y⟩ := hst.box #[.int .i64 (n : Int), .int .i64 xs] 28
                    have y0 := y 0 _ rfl
                    have y1 := y 1 _ rfl
                    have en10 := hen.alloc (.cells #[.int .i64 (n : Int), .int .i64 xs] 28)
                    have hKp : KpOk H9 (keepK low K) := ⟨fun x hx => (hKK.out.1.1.d x ((List.mem_filter.1 hx).1)).mono (Hp.le_trans l9 l10), fun x hx => hKK.out.1.1.b x ((List.mem_filter.1 hx).1), by have := hKK.out.2; omega⟩
                    have hStat := fun w' (h' : St H9 [VsA p 4096 (keepK low K) M low] w') => vsStatus_any p 4096 (keepK low K) M low ((n : Int), xs) H9 [] w' h' hKp
                    have hFlo : ∀ w', St H9 [VsA p 4096 (keepK low K) M low] w' → Calls Try.prog 47 #[vsP p, .int .i64 (n : Int)] w' fun e w'' => e = .returned (.int .i64 (lo : Int)) ∧ Below w'.heap.size w' w'' := fun w' h' => (vsFloor_any p 4096 (keepK low K) M low n hn8 H9 [] w' h').mono (by
                      rintro e w'' ⟨m, rfl, rfl, hm⟩
                      rw [FlP.one hm (hfl.out n hn8), hlo]
                      exact ⟨rfl, Below.refl _ _⟩)
                    have hHas := fun (l' : List HA) (w' : World) (h' : St H9 l' w') => hasIds_any (.slice g1 (keepK low K).length g3) (sortL (kids (keepK low K))) ((n : Int), xs) w' ((haft.mono (Hp.le_trans l9 l10)).rw h')
                    have hmR : ((n : Int), xs) ∈ sortL (kids (keepK low K)) ↔ ((n : Int), xs) ∈ kids (keepK low K) := sortL_mem _ _
                    replace hFlo := Lib.hid hFlo
                    clear y hst hen hfla
                    generalize hgb : wr.heap.size = gb at *
                    have kk : ∀ (l' : List HA) (w' : World), St H9 l' w' → (fun w' : World => w'.cell? ⟨gb, 0, none⟩ = some (.int .i64 (n : Int)) ∧ w'.cell? ⟨gb, 1, none⟩ = some (.int .i64 xs)) w' := fun l' w' h => ⟨h.cell y0, h.cell y1⟩
                    have v0 := h10.cell y0
                    have v1 := h10.cell y1
                    have vl := World.block_lt_of_cell? _ _ v0
                    by_cases hkp : ((n : Int), xs) ∈ kids (keepK low K)
                    · have hov := (hmem.1 hkp).2
                      rw [hab] at hov
                      have hxl : ¬ xs ≤ (lo : Int) := by simpa using hov
                      have hxf : decide (xs ≤ (lo : Int)) = false := decide_eq_false hxl
                      rw [show decide (((n : Int), xs) ∈ sortL (kids (keepK low K))) = true from decide_eq_true (hmR.2 hkp)] at hHas
                      replace hHas := Lib.hid hHas
                      rcases st_kept (M := M) hkp with hs | hs
                      · rw [hs] at hStat
                        replace hStat := Lib.hid hStat
                        clear hmem hbd hmR hab hai hin hs hov
                        go_wp2_with fail
                        refine (hStat.out _ h10).mono ?_
                        rintro e w11 ⟨rfl, hb11⟩
                        have hW := h10.below hb11
                        replace en10 := en10.trans (bel_env hb11)
                        clear v0 v1 vl h10 hb11 q0 q1 ql
                        go_wp2_with fail
                        refine wp_region_held_drew (S := fun w' : World => w'.cell? ⟨gb, 0, none⟩ = some (.int .i64 (n : Int)) ∧ w'.cell? ⟨gb, 1, none⟩ = some (.int .i64 xs)) (by kernel_rfl) (kk _ _ hW.drew) (fun hHeld => ?_)
                        refine wpAnyH_take (i := 0) (oi := { dst := some 107, op := Go.Op.move (Go.Operand.tmp 12), type := 29, pos := "law.go:169", after := #[], guard := none }) (v := ?_) rfl (by kernel_rfl) (by kernel_rfl) (by kernel_rfl) (fun _ _ _ h => h) (Or.inl ⟨by rfl, ?_⟩) (by assumption) ?_
                        rotate_left
                        · (intro w hSw; (try dsimp only at hSw); go_simp; (try (with_reducible rfl)))
                        try simp only [Act.put, List.setIfInBounds_toArray, List.set_cons_zero, List.set_cons_succ]
                        refine wpAnyH_take (i := 1) (oi := { dst := some 108, op := Go.Op.load 28 (Go.Operand.tmp 14), type := 28, pos := "law.go:169", after := #[], guard := none }) (v := ?_) rfl (by kernel_rfl) (by kernel_rfl) (by kernel_rfl) (fun _ _ _ h => h) (Or.inl ⟨by rfl, ?_⟩) (by assumption) ?_
                        rotate_left
                        · (intro w hSw; (try dsimp only at hSw); go_simp; (try (with_reducible rfl)))
                        try simp only [Act.put, List.setIfInBounds_toArray, List.set_cons_zero, List.set_cons_succ]
                        refine wpAnyH_take (i := 3) (oi := { dst := some 110, op := Go.Op.move (Go.Operand.tmp 15), type := 4, pos := "law.go:169", after := #[], guard := none }) (v := ?_) rfl (by kernel_rfl) (by kernel_rfl) (by kernel_rfl) (fun _ _ _ h => h) (Or.inl ⟨by rfl, ?_⟩) (by assumption) ?_
                        rotate_left
                        · (intro w hSw; (try dsimp only at hSw); go_simp; (try (with_reducible rfl)))
                        try simp only [Act.put, List.setIfInBounds_toArray, List.set_cons_zero, List.set_cons_succ]
                        refine wpAnyH_ready (rs := [2]) (by kernel_rfl) (by simp) ?_
                        refine AllReadyH.cons (o := { dst := some 109, op := Go.Op.call { callee := Go.Callee.value (Go.Operand.func 34), args := #[Go.Operand.tmp 107, Go.Operand.tmp 108], argTypes := #[29, 28] }, type := 4, pos := "law.go:169", after := #[{ on := 0, ground := Go.Ground.data }, { on := 1, ground := Go.Ground.data }], guard := none }) rfl (fun K hK => ?_) AllReadyH.nil
                        go_simp
                        refine (hHas.out _ _ (hW.drew)).mono ?_
                        rintro e w11 ⟨rfl, hb1⟩
                        have hst1 := (hW.drew).below hb1
                        refine hK.out _ _ (kk _ _ hst1) (fun hHeld1 => ?_)
                        clear hK K hHeld
                        try simp only [Act.put, List.setIfInBounds_toArray, List.set_cons_zero, List.set_cons_succ]
                        refine wpAnyH_take (i := 4) (oi := { dst := some 111, op := Go.Op.binOp Go.BinOp.eql 4 (Go.Operand.tmp 109) (Go.Operand.tmp 110) 4, type := 4, pos := "law.go:169", after := #[{ on := 2, ground := Go.Ground.data }, { on := 3, ground := Go.Ground.data }], guard := none }) (v := ?_) rfl (by kernel_rfl) (by kernel_rfl) (by kernel_rfl) (fun _ _ _ h => h) (Or.inl ⟨by rfl, ?_⟩) (by assumption) ?_
                        rotate_left
                        · (intro w hSw; (try dsimp only at hSw); go_simp; (try (with_reducible rfl)))
                        try simp only [Act.put, List.setIfInBounds_toArray, List.set_cons_zero, List.set_cons_succ]
                        refine wpAnyH_take (i := 5) (oi := { dst := some 112, op := Go.Op.move (Go.Operand.tmp 111), type := 4, pos := "law.go:169", after := #[{ on := 4, ground := Go.Ground.data }, { on := 2, ground := Go.Ground.chain }], guard := none }) (v := ?_) rfl (by kernel_rfl) (by kernel_rfl) (by kernel_rfl) (fun _ _ _ h => h) (Or.inl ⟨by rfl, ?_⟩) (by assumption) ?_
                        rotate_left
                        · (intro w hSw; (try dsimp only at hSw); go_simp; (try (with_reducible rfl)))
                        try simp only [Act.put, List.setIfInBounds_toArray, List.set_cons_zero, List.set_cons_succ]
                        refine wpAnyH_take (i := 6) (oi := { dst := some 113, op := Go.Op.move (Go.Operand.tmp 15), type := 4, pos := "law.go:169", after := #[{ on := 5, ground := Go.Ground.guard }], guard := some (5, false) }) (v := ?_) rfl (by kernel_rfl) (by kernel_rfl) (by kernel_rfl) (fun _ _ _ h => h) (Or.inl ⟨by rfl, ?_⟩) (by assumption) ?_
                        rotate_left
                        · (intro w hSw; (try dsimp only at hSw); go_simp; (try (with_reducible rfl)))
                        try simp only [Act.put, List.setIfInBounds_toArray, List.set_cons_zero, List.set_cons_succ]
                        refine wpAnyH_take (i := 7) (oi := { dst := some 114, op := Go.Op.move (Go.Operand.tmp 113), type := 4, pos := "law.go:169", after := #[{ on := 6, ground := Go.Ground.data }, { on := 5, ground := Go.Ground.chain }, { on := 5, ground := Go.Ground.guard }], guard := some (5, false) }) (v := ?_) rfl (by kernel_rfl) (by kernel_rfl) (by kernel_rfl) (fun _ _ _ h => h) (Or.inl ⟨by rfl, ?_⟩) (by assumption) ?_
                        rotate_left
                        · (intro w hSw; (try dsimp only at hSw); go_simp; (try (with_reducible rfl)))
                        try simp only [Act.put, List.setIfInBounds_toArray, List.set_cons_zero, List.set_cons_succ]
                        refine wpAnyH_take (i := 8) (oi := { dst := some 115, op := Go.Op.fieldAddr 28 (Go.Operand.tmp 14) 1, type := 0, pos := "law.go:169", after := #[{ on := 7, ground := Go.Ground.guard }], guard := some (7, true) }) (v := undef) rfl (by kernel_rfl) (by kernel_rfl) (by kernel_rfl) (fun _ _ _ h => h) (Or.inr ⟨by rfl, rfl⟩) (by assumption) ?_
                        try simp only [Act.put, List.setIfInBounds_toArray, List.set_cons_zero, List.set_cons_succ]
                        refine wpAnyH_take (i := 9) (oi := { dst := some 116, op := Go.Op.load 3 (Go.Operand.tmp 115), type := 3, pos := "law.go:169", after := #[{ on := 8, ground := Go.Ground.data }, { on := 7, ground := Go.Ground.guard }], guard := some (7, true) }) (v := undef) rfl (by kernel_rfl) (by kernel_rfl) (by kernel_rfl) (fun _ _ _ h => h) (Or.inr ⟨by rfl, rfl⟩) (by assumption) ?_
                        try simp only [Act.put, List.setIfInBounds_toArray, List.set_cons_zero, List.set_cons_succ]
                        refine wpAnyH_take (i := 10) (oi := { dst := some 117, op := Go.Op.move (Go.Operand.tmp 5), type := 67, pos := "law.go:169", after := #[{ on := 7, ground := Go.Ground.guard }], guard := some (7, true) }) (v := undef) rfl (by kernel_rfl) (by kernel_rfl) (by kernel_rfl) (fun _ _ _ h => h) (Or.inr ⟨by rfl, rfl⟩) (by assumption) ?_
                        try simp only [Act.put, List.setIfInBounds_toArray, List.set_cons_zero, List.set_cons_succ]
                        refine wpAnyH_take (i := 11) (oi := { dst := some 118, op := Go.Op.fieldAddr 28 (Go.Operand.tmp 14) 0, type := 0, pos := "law.go:169", after := #[{ on := 7, ground := Go.Ground.guard }], guard := some (7, true) }) (v := undef) rfl (by kernel_rfl) (by kernel_rfl) (by kernel_rfl) (fun _ _ _ h => h) (Or.inr ⟨by rfl, rfl⟩) (by assumption) ?_
                        try simp only [Act.put, List.setIfInBounds_toArray, List.set_cons_zero, List.set_cons_succ]
                        refine wpAnyH_take (i := 12) (oi := { dst := some 119, op := Go.Op.load 3 (Go.Operand.tmp 118), type := 3, pos := "law.go:169", after := #[{ on := 11, ground := Go.Ground.data }, { on := 7, ground := Go.Ground.guard }], guard := some (7, true) }) (v := undef) rfl (by kernel_rfl) (by kernel_rfl) (by kernel_rfl) (fun _ _ _ h => h) (Or.inr ⟨by rfl, rfl⟩) (by assumption) ?_
                        try simp only [Act.put, List.setIfInBounds_toArray, List.set_cons_zero, List.set_cons_succ]
                        refine wpAnyH_take (i := 13) (oi := { dst := some 120, op := Go.Op.call { callee := Go.Callee.value (Go.Operand.func 47), args := #[Go.Operand.tmp 117, Go.Operand.tmp 119], argTypes := #[67, 3] }, type := 3, pos := "law.go:169", after := #[{ on := 10, ground := Go.Ground.data }, { on := 12, ground := Go.Ground.data }, { on := 7, ground := Go.Ground.chain }, { on := 7, ground := Go.Ground.guard }], guard := some (7, true) }) (v := undef) rfl (by kernel_rfl) (by kernel_rfl) (by kernel_rfl) (fun _ _ _ h => h) (Or.inr ⟨by rfl, rfl⟩) (by assumption) ?_
                        try simp only [Act.put, List.setIfInBounds_toArray, List.set_cons_zero, List.set_cons_succ]
                        refine wpAnyH_take (i := 14) (oi := { dst := some 121, op := Go.Op.binOp Go.BinOp.gtr 3 (Go.Operand.tmp 116) (Go.Operand.tmp 120) 3, type := 4, pos := "law.go:169", after := #[{ on := 9, ground := Go.Ground.data }, { on := 13, ground := Go.Ground.data }, { on := 7, ground := Go.Ground.guard }], guard := some (7, true) }) (v := undef) rfl (by kernel_rfl) (by kernel_rfl) (by kernel_rfl) (fun _ _ _ h => h) (Or.inr ⟨by rfl, rfl⟩) (by assumption) ?_
                        try simp only [Act.put, List.setIfInBounds_toArray, List.set_cons_zero, List.set_cons_succ]
                        refine wpAnyH_take (i := 15) (oi := { dst := some 122, op := Go.Op.pick (Go.Operand.tmp 114) (Go.Operand.tmp 121) (Go.Operand.const (Go.Value.bool false)), type := 4, pos := "law.go:169", after := #[{ on := 7, ground := Go.Ground.data }, { on := 14, ground := Go.Ground.data }, { on := 5, ground := Go.Ground.guard }], guard := some (5, false) }) (v := ?_) rfl (by kernel_rfl) (by kernel_rfl) (by kernel_rfl) (fun _ _ _ h => h) (Or.inl ⟨by rfl, ?_⟩) (by assumption) ?_
                        rotate_left
                        · (intro w hSw; (try dsimp only at hSw); go_simp; (try (with_reducible rfl)))
                        try simp only [Act.put, List.setIfInBounds_toArray, List.set_cons_zero, List.set_cons_succ]
                        refine wpAnyH_take (i := 16) (oi := { dst := some 123, op := Go.Op.pick (Go.Operand.tmp 112) (Go.Operand.const (Go.Value.bool true)) (Go.Operand.tmp 122), type := 4, pos := "law.go:169", after := #[{ on := 5, ground := Go.Ground.data }, { on := 15, ground := Go.Ground.data }], guard := none }) (v := ?_) rfl (by kernel_rfl) (by kernel_rfl) (by kernel_rfl) (fun _ _ _ h => h) (Or.inl ⟨by rfl, ?_⟩) (by assumption) ?_
                        rotate_left
                        · (intro w hSw; (try dsimp only at hSw); go_simp; (try (with_reducible rfl)))
                        try simp only [Act.put, List.setIfInBounds_toArray, List.set_cons_zero, List.set_cons_succ]
                        refine wpAnyH_take (i := 17) (oi := { dst := some 124, op := Go.Op.move (Go.Operand.tmp 123), type := 4, pos := "law.go:169", after := #[{ on := 16, ground := Go.Ground.data }, { on := 13, ground := Go.Ground.chain }], guard := none }) (v := ?_) rfl (by kernel_rfl) (by kernel_rfl) (by kernel_rfl) (fun _ _ _ h => h) (Or.inl ⟨by rfl, ?_⟩) (by assumption) ?_
                        rotate_left
                        · (intro w hSw; (try dsimp only at hSw); go_simp; (try (with_reducible rfl)))
                        try simp only [Act.put, List.setIfInBounds_toArray, List.set_cons_zero, List.set_cons_succ]
                        refine wpAnyH_take (i := 18) (oi := { dst := some 125, op := Go.Op.move (Go.Operand.tmp 5), type := 67, pos := "law.go:169", after := #[{ on := 17, ground := Go.Ground.guard }], guard := some (17, false) }) (v := ?_) rfl (by kernel_rfl) (by kernel_rfl) (by kernel_rfl) (fun _ _ _ h => h) (Or.inl ⟨by rfl, ?_⟩) (by assumption) ?_
                        rotate_left
                        · (intro w hSw; (try dsimp only at hSw); go_simp; (try (with_reducible rfl)))
                        try simp only [Act.put, List.setIfInBounds_toArray, List.set_cons_zero, List.set_cons_succ]
                        refine wpAnyH_take (i := 19) (oi := { dst := some 126, op := Go.Op.load 28 (Go.Operand.tmp 14), type := 28, pos := "law.go:169", after := #[{ on := 17, ground := Go.Ground.guard }], guard := some (17, false) }) (v := ?_) rfl (by kernel_rfl) (by kernel_rfl) (by kernel_rfl) (fun _ _ _ h => h) (Or.inl ⟨by rfl, ?_⟩) (by assumption) ?_
                        rotate_left
                        · (intro w hSw; (try dsimp only at hSw); go_simp; (try (with_reducible rfl)))
                        try simp only [Act.put, List.setIfInBounds_toArray, List.set_cons_zero, List.set_cons_succ]
                        refine wpAnyH_ready (rs := [20]) (by kernel_rfl) (by simp) ?_
                        refine AllReadyH.cons (o := { dst := some 127, op := Go.Op.call { callee := Go.Callee.value (Go.Operand.func 46), args := #[Go.Operand.tmp 125, Go.Operand.tmp 126], argTypes := #[67, 28] }, type := 3, pos := "law.go:169", after := #[{ on := 18, ground := Go.Ground.data }, { on := 19, ground := Go.Ground.data }, { on := 17, ground := Go.Ground.chain }, { on := 17, ground := Go.Ground.guard }], guard := some (17, false) }) rfl (fun K hK => ?_) AllReadyH.nil
                        go_simp
                        refine (hStat.out _ (hst1)).mono ?_
                        rintro e w21 ⟨rfl, hb2⟩
                        have hst2 := (hst1).below hb2
                        refine hK.out _ _ (kk _ _ hst2) (fun hHeld2 => ?_)
                        clear hK K hHeld1
                        try simp only [Act.put, List.setIfInBounds_toArray, List.set_cons_zero, List.set_cons_succ]
                        refine wpAnyH_take (i := 21) (oi := { dst := some 128, op := Go.Op.binOp Go.BinOp.eql 3 (Go.Operand.tmp 127) (Go.Operand.const (Go.Value.int Go.IntKind.i64 2)) 3, type := 4, pos := "law.go:169", after := #[{ on := 20, ground := Go.Ground.data }, { on := 17, ground := Go.Ground.guard }], guard := some (17, false) }) (v := ?_) rfl (by kernel_rfl) (by kernel_rfl) (by kernel_rfl) (fun _ _ _ h => h) (Or.inl ⟨by rfl, ?_⟩) (by assumption) ?_
                        rotate_left
                        · (intro w hSw; (try dsimp only at hSw); go_simp; (try (with_reducible rfl)))
                        try simp only [Act.put, List.setIfInBounds_toArray, List.set_cons_zero, List.set_cons_succ]
                        refine wpAnyH_take (i := 22) (oi := { dst := some 129, op := Go.Op.move (Go.Operand.tmp 128), type := 4, pos := "law.go:169", after := #[{ on := 21, ground := Go.Ground.data }, { on := 20, ground := Go.Ground.chain }, { on := 17, ground := Go.Ground.guard }], guard := some (17, false) }) (v := ?_) rfl (by kernel_rfl) (by kernel_rfl) (by kernel_rfl) (fun _ _ _ h => h) (Or.inl ⟨by rfl, ?_⟩) (by assumption) ?_
                        rotate_left
                        · (intro w hSw; (try dsimp only at hSw); go_simp; (try (with_reducible rfl)))
                        try simp only [Act.put, List.setIfInBounds_toArray, List.set_cons_zero, List.set_cons_succ]
                        refine wpAnyH_take (i := 23) (oi := { dst := some 130, op := Go.Op.fieldAddr 28 (Go.Operand.tmp 14) 1, type := 0, pos := "law.go:169", after := #[{ on := 22, ground := Go.Ground.guard }], guard := some (22, true) }) (v := undef) rfl (by kernel_rfl) (by kernel_rfl) (by kernel_rfl) (fun _ _ _ h => h) (Or.inr ⟨by rfl, rfl⟩) (by assumption) ?_
                        try simp only [Act.put, List.setIfInBounds_toArray, List.set_cons_zero, List.set_cons_succ]
                        refine wpAnyH_take (i := 24) (oi := { dst := some 131, op := Go.Op.load 3 (Go.Operand.tmp 130), type := 3, pos := "law.go:169", after := #[{ on := 23, ground := Go.Ground.data }, { on := 22, ground := Go.Ground.guard }], guard := some (22, true) }) (v := undef) rfl (by kernel_rfl) (by kernel_rfl) (by kernel_rfl) (fun _ _ _ h => h) (Or.inr ⟨by rfl, rfl⟩) (by assumption) ?_
                        try simp only [Act.put, List.setIfInBounds_toArray, List.set_cons_zero, List.set_cons_succ]
                        refine wpAnyH_take (i := 25) (oi := { dst := some 132, op := Go.Op.move (Go.Operand.tmp 5), type := 67, pos := "law.go:169", after := #[{ on := 22, ground := Go.Ground.guard }], guard := some (22, true) }) (v := undef) rfl (by kernel_rfl) (by kernel_rfl) (by kernel_rfl) (fun _ _ _ h => h) (Or.inr ⟨by rfl, rfl⟩) (by assumption) ?_
                        try simp only [Act.put, List.setIfInBounds_toArray, List.set_cons_zero, List.set_cons_succ]
                        refine wpAnyH_take (i := 26) (oi := { dst := some 133, op := Go.Op.fieldAddr 28 (Go.Operand.tmp 14) 0, type := 0, pos := "law.go:169", after := #[{ on := 22, ground := Go.Ground.guard }], guard := some (22, true) }) (v := undef) rfl (by kernel_rfl) (by kernel_rfl) (by kernel_rfl) (fun _ _ _ h => h) (Or.inr ⟨by rfl, rfl⟩) (by assumption) ?_
                        try simp only [Act.put, List.setIfInBounds_toArray, List.set_cons_zero, List.set_cons_succ]
                        refine wpAnyH_take (i := 27) (oi := { dst := some 134, op := Go.Op.load 3 (Go.Operand.tmp 133), type := 3, pos := "law.go:169", after := #[{ on := 26, ground := Go.Ground.data }, { on := 22, ground := Go.Ground.guard }], guard := some (22, true) }) (v := undef) rfl (by kernel_rfl) (by kernel_rfl) (by kernel_rfl) (fun _ _ _ h => h) (Or.inr ⟨by rfl, rfl⟩) (by assumption) ?_
                        try simp only [Act.put, List.setIfInBounds_toArray, List.set_cons_zero, List.set_cons_succ]
                        refine wpAnyH_take (i := 28) (oi := { dst := some 135, op := Go.Op.call { callee := Go.Callee.value (Go.Operand.func 47), args := #[Go.Operand.tmp 132, Go.Operand.tmp 134], argTypes := #[67, 3] }, type := 3, pos := "law.go:169", after := #[{ on := 25, ground := Go.Ground.data }, { on := 27, ground := Go.Ground.data }, { on := 22, ground := Go.Ground.chain }, { on := 22, ground := Go.Ground.guard }], guard := some (22, true) }) (v := undef) rfl (by kernel_rfl) (by kernel_rfl) (by kernel_rfl) (fun _ _ _ h => h) (Or.inr ⟨by rfl, rfl⟩) (by assumption) ?_
                        try simp only [Act.put, List.setIfInBounds_toArray, List.set_cons_zero, List.set_cons_succ]
                        refine wpAnyH_take (i := 29) (oi := { dst := some 136, op := Go.Op.binOp Go.BinOp.leq 3 (Go.Operand.tmp 131) (Go.Operand.tmp 135) 3, type := 4, pos := "law.go:169", after := #[{ on := 24, ground := Go.Ground.data }, { on := 28, ground := Go.Ground.data }, { on := 22, ground := Go.Ground.guard }], guard := some (22, true) }) (v := undef) rfl (by kernel_rfl) (by kernel_rfl) (by kernel_rfl) (fun _ _ _ h => h) (Or.inr ⟨by rfl, rfl⟩) (by assumption) ?_
                        try simp only [Act.put, List.setIfInBounds_toArray, List.set_cons_zero, List.set_cons_succ]
                        refine wpAnyH_take (i := 30) (oi := { dst := some 137, op := Go.Op.pick (Go.Operand.tmp 129) (Go.Operand.tmp 136) (Go.Operand.const (Go.Value.bool false)), type := 4, pos := "law.go:169", after := #[{ on := 22, ground := Go.Ground.data }, { on := 29, ground := Go.Ground.data }, { on := 17, ground := Go.Ground.guard }], guard := some (17, false) }) (v := ?_) rfl (by kernel_rfl) (by kernel_rfl) (by kernel_rfl) (fun _ _ _ h => h) (Or.inl ⟨by rfl, ?_⟩) (by assumption) ?_
                        rotate_left
                        · (intro w hSw; (try dsimp only at hSw); go_simp; (try (with_reducible rfl)))
                        try simp only [Act.put, List.setIfInBounds_toArray, List.set_cons_zero, List.set_cons_succ]
                        refine wpAnyH_take (i := 31) (oi := { dst := some 138, op := Go.Op.pick (Go.Operand.tmp 124) (Go.Operand.const (Go.Value.bool true)) (Go.Operand.tmp 137), type := 4, pos := "law.go:169", after := #[{ on := 17, ground := Go.Ground.data }, { on := 30, ground := Go.Ground.data }], guard := none }) (v := ?_) rfl (by kernel_rfl) (by kernel_rfl) (by kernel_rfl) (fun _ _ _ h => h) (Or.inl ⟨by rfl, ?_⟩) (by assumption) ?_
                        rotate_left
                        · (intro w hSw; (try dsimp only at hSw); go_simp; (try (with_reducible rfl)))
                        try simp only [Act.put, List.setIfInBounds_toArray, List.set_cons_zero, List.set_cons_succ]
                        refine wpAnyH_done (by kernel_rfl) ?_ _
                        have hen9 := ((en10.drew).trans (bel_env hb1)).trans (bel_env hb2)
                        clear hHeld2
                        go_wp2_with fail
                        go_roundw
                        case rel => exact ⟨k + 1, H9, by omega, by go_num, Hp.le_trans l9 l10, hst2, hen9⟩
                        case measure => simp [intOf]; omega
                      · rw [hs] at hStat
                        replace hStat := Lib.hid hStat
                        clear hmem hbd hmR hab hai hin hs hov
                        go_wp2_with fail
                        refine (hStat.out _ h10).mono ?_
                        rintro e w11 ⟨rfl, hb11⟩
                        have hW := h10.below hb11
                        replace en10 := en10.trans (bel_env hb11)
                        clear v0 v1 vl h10 hb11 q0 q1 ql
                        go_wp2_with fail
                        refine wp_region_held_drew (S := fun w' : World => w'.cell? ⟨gb, 0, none⟩ = some (.int .i64 (n : Int)) ∧ w'.cell? ⟨gb, 1, none⟩ = some (.int .i64 xs)) (by kernel_rfl) (kk _ _ hW.drew) (fun hHeld => ?_)
                        refine wpAnyH_take (i := 0) (oi := { dst := some 107, op := Go.Op.move (Go.Operand.tmp 12), type := 29, pos := "law.go:169", after := #[], guard := none }) (v := ?_) rfl (by kernel_rfl) (by kernel_rfl) (by kernel_rfl) (fun _ _ _ h => h) (Or.inl ⟨by rfl, ?_⟩) (by assumption) ?_
                        rotate_left
                        · (intro w hSw; (try dsimp only at hSw); go_simp; (try (with_reducible rfl)))
                        try simp only [Act.put, List.setIfInBounds_toArray, List.set_cons_zero, List.set_cons_succ]
                        refine wpAnyH_take (i := 1) (oi := { dst := some 108, op := Go.Op.load 28 (Go.Operand.tmp 14), type := 28, pos := "law.go:169", after := #[], guard := none }) (v := ?_) rfl (by kernel_rfl) (by kernel_rfl) (by kernel_rfl) (fun _ _ _ h => h) (Or.inl ⟨by rfl, ?_⟩) (by assumption) ?_
                        rotate_left
                        · (intro w hSw; (try dsimp only at hSw); go_simp; (try (with_reducible rfl)))
                        try simp only [Act.put, List.setIfInBounds_toArray, List.set_cons_zero, List.set_cons_succ]
                        refine wpAnyH_take (i := 3) (oi := { dst := some 110, op := Go.Op.move (Go.Operand.tmp 15), type := 4, pos := "law.go:169", after := #[], guard := none }) (v := ?_) rfl (by kernel_rfl) (by kernel_rfl) (by kernel_rfl) (fun _ _ _ h => h) (Or.inl ⟨by rfl, ?_⟩) (by assumption) ?_
                        rotate_left
                        · (intro w hSw; (try dsimp only at hSw); go_simp; (try (with_reducible rfl)))
                        try simp only [Act.put, List.setIfInBounds_toArray, List.set_cons_zero, List.set_cons_succ]
                        refine wpAnyH_ready (rs := [2]) (by kernel_rfl) (by simp) ?_
                        refine AllReadyH.cons (o := { dst := some 109, op := Go.Op.call { callee := Go.Callee.value (Go.Operand.func 34), args := #[Go.Operand.tmp 107, Go.Operand.tmp 108], argTypes := #[29, 28] }, type := 4, pos := "law.go:169", after := #[{ on := 0, ground := Go.Ground.data }, { on := 1, ground := Go.Ground.data }], guard := none }) rfl (fun K hK => ?_) AllReadyH.nil
                        go_simp
                        refine (hHas.out _ _ (hW.drew)).mono ?_
                        rintro e w11 ⟨rfl, hb1⟩
                        have hst1 := (hW.drew).below hb1
                        refine hK.out _ _ (kk _ _ hst1) (fun hHeld1 => ?_)
                        clear hK K hHeld
                        try simp only [Act.put, List.setIfInBounds_toArray, List.set_cons_zero, List.set_cons_succ]
                        refine wpAnyH_take (i := 4) (oi := { dst := some 111, op := Go.Op.binOp Go.BinOp.eql 4 (Go.Operand.tmp 109) (Go.Operand.tmp 110) 4, type := 4, pos := "law.go:169", after := #[{ on := 2, ground := Go.Ground.data }, { on := 3, ground := Go.Ground.data }], guard := none }) (v := ?_) rfl (by kernel_rfl) (by kernel_rfl) (by kernel_rfl) (fun _ _ _ h => h) (Or.inl ⟨by rfl, ?_⟩) (by assumption) ?_
                        rotate_left
                        · (intro w hSw; (try dsimp only at hSw); go_simp; (try (with_reducible rfl)))
                        try simp only [Act.put, List.setIfInBounds_toArray, List.set_cons_zero, List.set_cons_succ]
                        refine wpAnyH_take (i := 5) (oi := { dst := some 112, op := Go.Op.move (Go.Operand.tmp 111), type := 4, pos := "law.go:169", after := #[{ on := 4, ground := Go.Ground.data }, { on := 2, ground := Go.Ground.chain }], guard := none }) (v := ?_) rfl (by kernel_rfl) (by kernel_rfl) (by kernel_rfl) (fun _ _ _ h => h) (Or.inl ⟨by rfl, ?_⟩) (by assumption) ?_
                        rotate_left
                        · (intro w hSw; (try dsimp only at hSw); go_simp; (try (with_reducible rfl)))
                        try simp only [Act.put, List.setIfInBounds_toArray, List.set_cons_zero, List.set_cons_succ]
                        refine wpAnyH_take (i := 6) (oi := { dst := some 113, op := Go.Op.move (Go.Operand.tmp 15), type := 4, pos := "law.go:169", after := #[{ on := 5, ground := Go.Ground.guard }], guard := some (5, false) }) (v := ?_) rfl (by kernel_rfl) (by kernel_rfl) (by kernel_rfl) (fun _ _ _ h => h) (Or.inl ⟨by rfl, ?_⟩) (by assumption) ?_
                        rotate_left
                        · (intro w hSw; (try dsimp only at hSw); go_simp; (try (with_reducible rfl)))
                        try simp only [Act.put, List.setIfInBounds_toArray, List.set_cons_zero, List.set_cons_succ]
                        refine wpAnyH_take (i := 7) (oi := { dst := some 114, op := Go.Op.move (Go.Operand.tmp 113), type := 4, pos := "law.go:169", after := #[{ on := 6, ground := Go.Ground.data }, { on := 5, ground := Go.Ground.chain }, { on := 5, ground := Go.Ground.guard }], guard := some (5, false) }) (v := ?_) rfl (by kernel_rfl) (by kernel_rfl) (by kernel_rfl) (fun _ _ _ h => h) (Or.inl ⟨by rfl, ?_⟩) (by assumption) ?_
                        rotate_left
                        · (intro w hSw; (try dsimp only at hSw); go_simp; (try (with_reducible rfl)))
                        try simp only [Act.put, List.setIfInBounds_toArray, List.set_cons_zero, List.set_cons_succ]
                        refine wpAnyH_take (i := 8) (oi := { dst := some 115, op := Go.Op.fieldAddr 28 (Go.Operand.tmp 14) 1, type := 0, pos := "law.go:169", after := #[{ on := 7, ground := Go.Ground.guard }], guard := some (7, true) }) (v := undef) rfl (by kernel_rfl) (by kernel_rfl) (by kernel_rfl) (fun _ _ _ h => h) (Or.inr ⟨by rfl, rfl⟩) (by assumption) ?_
                        try simp only [Act.put, List.setIfInBounds_toArray, List.set_cons_zero, List.set_cons_succ]
                        refine wpAnyH_take (i := 9) (oi := { dst := some 116, op := Go.Op.load 3 (Go.Operand.tmp 115), type := 3, pos := "law.go:169", after := #[{ on := 8, ground := Go.Ground.data }, { on := 7, ground := Go.Ground.guard }], guard := some (7, true) }) (v := undef) rfl (by kernel_rfl) (by kernel_rfl) (by kernel_rfl) (fun _ _ _ h => h) (Or.inr ⟨by rfl, rfl⟩) (by assumption) ?_
                        try simp only [Act.put, List.setIfInBounds_toArray, List.set_cons_zero, List.set_cons_succ]
                        refine wpAnyH_take (i := 10) (oi := { dst := some 117, op := Go.Op.move (Go.Operand.tmp 5), type := 67, pos := "law.go:169", after := #[{ on := 7, ground := Go.Ground.guard }], guard := some (7, true) }) (v := undef) rfl (by kernel_rfl) (by kernel_rfl) (by kernel_rfl) (fun _ _ _ h => h) (Or.inr ⟨by rfl, rfl⟩) (by assumption) ?_
                        try simp only [Act.put, List.setIfInBounds_toArray, List.set_cons_zero, List.set_cons_succ]
                        refine wpAnyH_take (i := 11) (oi := { dst := some 118, op := Go.Op.fieldAddr 28 (Go.Operand.tmp 14) 0, type := 0, pos := "law.go:169", after := #[{ on := 7, ground := Go.Ground.guard }], guard := some (7, true) }) (v := undef) rfl (by kernel_rfl) (by kernel_rfl) (by kernel_rfl) (fun _ _ _ h => h) (Or.inr ⟨by rfl, rfl⟩) (by assumption) ?_
                        try simp only [Act.put, List.setIfInBounds_toArray, List.set_cons_zero, List.set_cons_succ]
                        refine wpAnyH_take (i := 12) (oi := { dst := some 119, op := Go.Op.load 3 (Go.Operand.tmp 118), type := 3, pos := "law.go:169", after := #[{ on := 11, ground := Go.Ground.data }, { on := 7, ground := Go.Ground.guard }], guard := some (7, true) }) (v := undef) rfl (by kernel_rfl) (by kernel_rfl) (by kernel_rfl) (fun _ _ _ h => h) (Or.inr ⟨by rfl, rfl⟩) (by assumption) ?_
                        try simp only [Act.put, List.setIfInBounds_toArray, List.set_cons_zero, List.set_cons_succ]
                        refine wpAnyH_take (i := 13) (oi := { dst := some 120, op := Go.Op.call { callee := Go.Callee.value (Go.Operand.func 47), args := #[Go.Operand.tmp 117, Go.Operand.tmp 119], argTypes := #[67, 3] }, type := 3, pos := "law.go:169", after := #[{ on := 10, ground := Go.Ground.data }, { on := 12, ground := Go.Ground.data }, { on := 7, ground := Go.Ground.chain }, { on := 7, ground := Go.Ground.guard }], guard := some (7, true) }) (v := undef) rfl (by kernel_rfl) (by kernel_rfl) (by kernel_rfl) (fun _ _ _ h => h) (Or.inr ⟨by rfl, rfl⟩) (by assumption) ?_
                        try simp only [Act.put, List.setIfInBounds_toArray, List.set_cons_zero, List.set_cons_succ]
                        refine wpAnyH_take (i := 14) (oi := { dst := some 121, op := Go.Op.binOp Go.BinOp.gtr 3 (Go.Operand.tmp 116) (Go.Operand.tmp 120) 3, type := 4, pos := "law.go:169", after := #[{ on := 9, ground := Go.Ground.data }, { on := 13, ground := Go.Ground.data }, { on := 7, ground := Go.Ground.guard }], guard := some (7, true) }) (v := undef) rfl (by kernel_rfl) (by kernel_rfl) (by kernel_rfl) (fun _ _ _ h => h) (Or.inr ⟨by rfl, rfl⟩) (by assumption) ?_
                        try simp only [Act.put, List.setIfInBounds_toArray, List.set_cons_zero, List.set_cons_succ]
                        refine wpAnyH_take (i := 15) (oi := { dst := some 122, op := Go.Op.pick (Go.Operand.tmp 114) (Go.Operand.tmp 121) (Go.Operand.const (Go.Value.bool false)), type := 4, pos := "law.go:169", after := #[{ on := 7, ground := Go.Ground.data }, { on := 14, ground := Go.Ground.data }, { on := 5, ground := Go.Ground.guard }], guard := some (5, false) }) (v := ?_) rfl (by kernel_rfl) (by kernel_rfl) (by kernel_rfl) (fun _ _ _ h => h) (Or.inl ⟨by rfl, ?_⟩) (by assumption) ?_
                        rotate_left
                        · (intro w hSw; (try dsimp only at hSw); go_simp; (try (with_reducible rfl)))
                        try simp only [Act.put, List.setIfInBounds_toArray, List.set_cons_zero, List.set_cons_succ]
                        refine wpAnyH_take (i := 16) (oi := { dst := some 123, op := Go.Op.pick (Go.Operand.tmp 112) (Go.Operand.const (Go.Value.bool true)) (Go.Operand.tmp 122), type := 4, pos := "law.go:169", after := #[{ on := 5, ground := Go.Ground.data }, { on := 15, ground := Go.Ground.data }], guard := none }) (v := ?_) rfl (by kernel_rfl) (by kernel_rfl) (by kernel_rfl) (fun _ _ _ h => h) (Or.inl ⟨by rfl, ?_⟩) (by assumption) ?_
                        rotate_left
                        · (intro w hSw; (try dsimp only at hSw); go_simp; (try (with_reducible rfl)))
                        try simp only [Act.put, List.setIfInBounds_toArray, List.set_cons_zero, List.set_cons_succ]
                        refine wpAnyH_take (i := 17) (oi := { dst := some 124, op := Go.Op.move (Go.Operand.tmp 123), type := 4, pos := "law.go:169", after := #[{ on := 16, ground := Go.Ground.data }, { on := 13, ground := Go.Ground.chain }], guard := none }) (v := ?_) rfl (by kernel_rfl) (by kernel_rfl) (by kernel_rfl) (fun _ _ _ h => h) (Or.inl ⟨by rfl, ?_⟩) (by assumption) ?_
                        rotate_left
                        · (intro w hSw; (try dsimp only at hSw); go_simp; (try (with_reducible rfl)))
                        try simp only [Act.put, List.setIfInBounds_toArray, List.set_cons_zero, List.set_cons_succ]
                        refine wpAnyH_take (i := 18) (oi := { dst := some 125, op := Go.Op.move (Go.Operand.tmp 5), type := 67, pos := "law.go:169", after := #[{ on := 17, ground := Go.Ground.guard }], guard := some (17, false) }) (v := ?_) rfl (by kernel_rfl) (by kernel_rfl) (by kernel_rfl) (fun _ _ _ h => h) (Or.inl ⟨by rfl, ?_⟩) (by assumption) ?_
                        rotate_left
                        · (intro w hSw; (try dsimp only at hSw); go_simp; (try (with_reducible rfl)))
                        try simp only [Act.put, List.setIfInBounds_toArray, List.set_cons_zero, List.set_cons_succ]
                        refine wpAnyH_take (i := 19) (oi := { dst := some 126, op := Go.Op.load 28 (Go.Operand.tmp 14), type := 28, pos := "law.go:169", after := #[{ on := 17, ground := Go.Ground.guard }], guard := some (17, false) }) (v := ?_) rfl (by kernel_rfl) (by kernel_rfl) (by kernel_rfl) (fun _ _ _ h => h) (Or.inl ⟨by rfl, ?_⟩) (by assumption) ?_
                        rotate_left
                        · (intro w hSw; (try dsimp only at hSw); go_simp; (try (with_reducible rfl)))
                        try simp only [Act.put, List.setIfInBounds_toArray, List.set_cons_zero, List.set_cons_succ]
                        refine wpAnyH_ready (rs := [20]) (by kernel_rfl) (by simp) ?_
                        refine AllReadyH.cons (o := { dst := some 127, op := Go.Op.call { callee := Go.Callee.value (Go.Operand.func 46), args := #[Go.Operand.tmp 125, Go.Operand.tmp 126], argTypes := #[67, 28] }, type := 3, pos := "law.go:169", after := #[{ on := 18, ground := Go.Ground.data }, { on := 19, ground := Go.Ground.data }, { on := 17, ground := Go.Ground.chain }, { on := 17, ground := Go.Ground.guard }], guard := some (17, false) }) rfl (fun K hK => ?_) AllReadyH.nil
                        go_simp
                        refine (hStat.out _ (hst1)).mono ?_
                        rintro e w21 ⟨rfl, hb2⟩
                        have hst2 := (hst1).below hb2
                        refine hK.out _ _ (kk _ _ hst2) (fun hHeld2 => ?_)
                        clear hK K hHeld1
                        try simp only [Act.put, List.setIfInBounds_toArray, List.set_cons_zero, List.set_cons_succ]
                        refine wpAnyH_take (i := 21) (oi := { dst := some 128, op := Go.Op.binOp Go.BinOp.eql 3 (Go.Operand.tmp 127) (Go.Operand.const (Go.Value.int Go.IntKind.i64 2)) 3, type := 4, pos := "law.go:169", after := #[{ on := 20, ground := Go.Ground.data }, { on := 17, ground := Go.Ground.guard }], guard := some (17, false) }) (v := ?_) rfl (by kernel_rfl) (by kernel_rfl) (by kernel_rfl) (fun _ _ _ h => h) (Or.inl ⟨by rfl, ?_⟩) (by assumption) ?_
                        rotate_left
                        · (intro w hSw; (try dsimp only at hSw); go_simp; (try (with_reducible rfl)))
                        try simp only [Act.put, List.setIfInBounds_toArray, List.set_cons_zero, List.set_cons_succ]
                        refine wpAnyH_take (i := 22) (oi := { dst := some 129, op := Go.Op.move (Go.Operand.tmp 128), type := 4, pos := "law.go:169", after := #[{ on := 21, ground := Go.Ground.data }, { on := 20, ground := Go.Ground.chain }, { on := 17, ground := Go.Ground.guard }], guard := some (17, false) }) (v := ?_) rfl (by kernel_rfl) (by kernel_rfl) (by kernel_rfl) (fun _ _ _ h => h) (Or.inl ⟨by rfl, ?_⟩) (by assumption) ?_
                        rotate_left
                        · (intro w hSw; (try dsimp only at hSw); go_simp; (try (with_reducible rfl)))
                        try simp only [Act.put, List.setIfInBounds_toArray, List.set_cons_zero, List.set_cons_succ]
                        refine wpAnyH_take (i := 23) (oi := { dst := some 130, op := Go.Op.fieldAddr 28 (Go.Operand.tmp 14) 1, type := 0, pos := "law.go:169", after := #[{ on := 22, ground := Go.Ground.guard }], guard := some (22, true) }) (v := ?_) rfl (by kernel_rfl) (by kernel_rfl) (by kernel_rfl) (fun _ _ _ h => h) (Or.inl ⟨by rfl, ?_⟩) (by assumption) ?_
                        rotate_left
                        · (intro w hSw; (try dsimp only at hSw); go_simp; (try (with_reducible rfl)))
                        try simp only [Act.put, List.setIfInBounds_toArray, List.set_cons_zero, List.set_cons_succ]
                        refine wpAnyH_take (i := 24) (oi := { dst := some 131, op := Go.Op.load 3 (Go.Operand.tmp 130), type := 3, pos := "law.go:169", after := #[{ on := 23, ground := Go.Ground.data }, { on := 22, ground := Go.Ground.guard }], guard := some (22, true) }) (v := ?_) rfl (by kernel_rfl) (by kernel_rfl) (by kernel_rfl) (fun _ _ _ h => h) (Or.inl ⟨by rfl, ?_⟩) (by assumption) ?_
                        rotate_left
                        · (intro w hSw; (try dsimp only at hSw); go_simp; (try (with_reducible rfl)))
                        try simp only [Act.put, List.setIfInBounds_toArray, List.set_cons_zero, List.set_cons_succ]
                        refine wpAnyH_take (i := 25) (oi := { dst := some 132, op := Go.Op.move (Go.Operand.tmp 5), type := 67, pos := "law.go:169", after := #[{ on := 22, ground := Go.Ground.guard }], guard := some (22, true) }) (v := ?_) rfl (by kernel_rfl) (by kernel_rfl) (by kernel_rfl) (fun _ _ _ h => h) (Or.inl ⟨by rfl, ?_⟩) (by assumption) ?_
                        rotate_left
                        · (intro w hSw; (try dsimp only at hSw); go_simp; (try (with_reducible rfl)))
                        try simp only [Act.put, List.setIfInBounds_toArray, List.set_cons_zero, List.set_cons_succ]
                        refine wpAnyH_take (i := 26) (oi := { dst := some 133, op := Go.Op.fieldAddr 28 (Go.Operand.tmp 14) 0, type := 0, pos := "law.go:169", after := #[{ on := 22, ground := Go.Ground.guard }], guard := some (22, true) }) (v := ?_) rfl (by kernel_rfl) (by kernel_rfl) (by kernel_rfl) (fun _ _ _ h => h) (Or.inl ⟨by rfl, ?_⟩) (by assumption) ?_
                        rotate_left
                        · (intro w hSw; (try dsimp only at hSw); go_simp; (try (with_reducible rfl)))
                        try simp only [Act.put, List.setIfInBounds_toArray, List.set_cons_zero, List.set_cons_succ]
                        refine wpAnyH_take (i := 27) (oi := { dst := some 134, op := Go.Op.load 3 (Go.Operand.tmp 133), type := 3, pos := "law.go:169", after := #[{ on := 26, ground := Go.Ground.data }, { on := 22, ground := Go.Ground.guard }], guard := some (22, true) }) (v := ?_) rfl (by kernel_rfl) (by kernel_rfl) (by kernel_rfl) (fun _ _ _ h => h) (Or.inl ⟨by rfl, ?_⟩) (by assumption) ?_
                        rotate_left
                        · (intro w hSw; (try dsimp only at hSw); go_simp; (try (with_reducible rfl)))
                        try simp only [Act.put, List.setIfInBounds_toArray, List.set_cons_zero, List.set_cons_succ]
                        refine wpAnyH_ready (rs := [28]) (by kernel_rfl) (by simp) ?_
                        refine AllReadyH.cons (o := { dst := some 135, op := Go.Op.call { callee := Go.Callee.value (Go.Operand.func 47), args := #[Go.Operand.tmp 132, Go.Operand.tmp 134], argTypes := #[67, 3] }, type := 3, pos := "law.go:169", after := #[{ on := 25, ground := Go.Ground.data }, { on := 27, ground := Go.Ground.data }, { on := 22, ground := Go.Ground.chain }, { on := 22, ground := Go.Ground.guard }], guard := some (22, true) }) rfl (fun K hK => ?_) AllReadyH.nil
                        go_simp
                        refine (hFlo.out _ (hst2)).mono ?_
                        rintro e w31 ⟨rfl, hb3⟩
                        have hst3 := (hst2).below hb3
                        refine hK.out _ _ (kk _ _ hst3) (fun hHeld3 => ?_)
                        clear hK K hHeld2
                        try simp only [Act.put, List.setIfInBounds_toArray, List.set_cons_zero, List.set_cons_succ]
                        refine wpAnyH_take (i := 29) (oi := { dst := some 136, op := Go.Op.binOp Go.BinOp.leq 3 (Go.Operand.tmp 131) (Go.Operand.tmp 135) 3, type := 4, pos := "law.go:169", after := #[{ on := 24, ground := Go.Ground.data }, { on := 28, ground := Go.Ground.data }, { on := 22, ground := Go.Ground.guard }], guard := some (22, true) }) (v := ?_) rfl (by kernel_rfl) (by kernel_rfl) (by kernel_rfl) (fun _ _ _ h => h) (Or.inl ⟨by rfl, ?_⟩) (by assumption) ?_
                        rotate_left
                        · (intro w hSw; (try dsimp only at hSw); go_simp; (try (with_reducible rfl)))
                        try simp only [Act.put, List.setIfInBounds_toArray, List.set_cons_zero, List.set_cons_succ]
                        refine wpAnyH_take (i := 30) (oi := { dst := some 137, op := Go.Op.pick (Go.Operand.tmp 129) (Go.Operand.tmp 136) (Go.Operand.const (Go.Value.bool false)), type := 4, pos := "law.go:169", after := #[{ on := 22, ground := Go.Ground.data }, { on := 29, ground := Go.Ground.data }, { on := 17, ground := Go.Ground.guard }], guard := some (17, false) }) (v := ?_) rfl (by kernel_rfl) (by kernel_rfl) (by kernel_rfl) (fun _ _ _ h => h) (Or.inl ⟨by rfl, ?_⟩) (by assumption) ?_
                        rotate_left
                        · (intro w hSw; (try dsimp only at hSw); go_simp; (try (with_reducible rfl)))
                        try simp only [Act.put, List.setIfInBounds_toArray, List.set_cons_zero, List.set_cons_succ]
                        refine wpAnyH_take (i := 31) (oi := { dst := some 138, op := Go.Op.pick (Go.Operand.tmp 124) (Go.Operand.const (Go.Value.bool true)) (Go.Operand.tmp 137), type := 4, pos := "law.go:169", after := #[{ on := 17, ground := Go.Ground.data }, { on := 30, ground := Go.Ground.data }], guard := none }) (v := ?_) rfl (by kernel_rfl) (by kernel_rfl) (by kernel_rfl) (fun _ _ _ h => h) (Or.inl ⟨by rfl, ?_⟩) (by assumption) ?_
                        rotate_left
                        · (intro w hSw; (try dsimp only at hSw); go_simp; (try (with_reducible rfl)))
                        try simp only [Act.put, List.setIfInBounds_toArray, List.set_cons_zero, List.set_cons_succ]
                        refine wpAnyH_done (by kernel_rfl) ?_ _
                        have hen9 := (((en10.drew).trans (bel_env hb1)).trans (bel_env hb2)).trans (bel_env hb3)
                        clear hHeld3
                        go_wp2_with fail
                        go_roundw
                        case rel => exact ⟨k + 1, H9, by omega, by go_num, Hp.le_trans l9 l10, hst3, hen9⟩
                        case measure => simp [intOf]; omega
                    · have hov : aboveL low ((n : Int), xs) = false := by
                        cases hc : aboveL low ((n : Int), xs) with
                        | false => rfl
                        | true => exact absurd (hmem.2 ⟨hin, hc⟩) hkp
                      have hM := hbd hov
                      rw [hab] at hov
                      have hxl : xs ≤ (lo : Int) := by simpa using hov
                      have hxf : decide ((lo : Int) < xs) = false := decide_eq_false (by omega)
                      have hs := st_gone hkp hM
                      rw [show decide (((n : Int), xs) ∈ sortL (kids (keepK low K))) = false from decide_eq_false (fun h => hkp (hmR.1 h))] at hHas
                      replace hHas := Lib.hid hHas
                      rw [hs] at hStat
                      replace hStat := Lib.hid hStat
                      clear hmem hbd hmR hab hai hin hs hov hM hkp
                      go_wp2_with fail
                      refine (hStat.out _ h10).mono ?_
                      rintro e w11 ⟨rfl, hb11⟩
                      have hW := h10.below hb11
                      replace en10 := en10.trans (bel_env hb11)
                      clear v0 v1 vl h10 hb11 q0 q1 ql
                      go_wp2_with fail
                      refine wp_region_held_drew (S := fun w' : World => w'.cell? ⟨gb, 0, none⟩ = some (.int .i64 (n : Int)) ∧ w'.cell? ⟨gb, 1, none⟩ = some (.int .i64 xs)) (by kernel_rfl) (kk _ _ hW.drew) (fun hHeld => ?_)
                      refine wpAnyH_take (i := 0) (oi := { dst := some 107, op := Go.Op.move (Go.Operand.tmp 12), type := 29, pos := "law.go:169", after := #[], guard := none }) (v := ?_) rfl (by kernel_rfl) (by kernel_rfl) (by kernel_rfl) (fun _ _ _ h => h) (Or.inl ⟨by rfl, ?_⟩) (by assumption) ?_
                      rotate_left
                      · (intro w hSw; (try dsimp only at hSw); go_simp; (try (with_reducible rfl)))
                      try simp only [Act.put, List.setIfInBounds_toArray, List.set_cons_zero, List.set_cons_succ]
                      refine wpAnyH_take (i := 1) (oi := { dst := some 108, op := Go.Op.load 28 (Go.Operand.tmp 14), type := 28, pos := "law.go:169", after := #[], guard := none }) (v := ?_) rfl (by kernel_rfl) (by kernel_rfl) (by kernel_rfl) (fun _ _ _ h => h) (Or.inl ⟨by rfl, ?_⟩) (by assumption) ?_
                      rotate_left
                      · (intro w hSw; (try dsimp only at hSw); go_simp; (try (with_reducible rfl)))
                      try simp only [Act.put, List.setIfInBounds_toArray, List.set_cons_zero, List.set_cons_succ]
                      refine wpAnyH_take (i := 3) (oi := { dst := some 110, op := Go.Op.move (Go.Operand.tmp 15), type := 4, pos := "law.go:169", after := #[], guard := none }) (v := ?_) rfl (by kernel_rfl) (by kernel_rfl) (by kernel_rfl) (fun _ _ _ h => h) (Or.inl ⟨by rfl, ?_⟩) (by assumption) ?_
                      rotate_left
                      · (intro w hSw; (try dsimp only at hSw); go_simp; (try (with_reducible rfl)))
                      try simp only [Act.put, List.setIfInBounds_toArray, List.set_cons_zero, List.set_cons_succ]
                      refine wpAnyH_ready (rs := [2]) (by kernel_rfl) (by simp) ?_
                      refine AllReadyH.cons (o := { dst := some 109, op := Go.Op.call { callee := Go.Callee.value (Go.Operand.func 34), args := #[Go.Operand.tmp 107, Go.Operand.tmp 108], argTypes := #[29, 28] }, type := 4, pos := "law.go:169", after := #[{ on := 0, ground := Go.Ground.data }, { on := 1, ground := Go.Ground.data }], guard := none }) rfl (fun K hK => ?_) AllReadyH.nil
                      go_simp
                      refine (hHas.out _ _ (hW.drew)).mono ?_
                      rintro e w11 ⟨rfl, hb1⟩
                      have hst1 := (hW.drew).below hb1
                      refine hK.out _ _ (kk _ _ hst1) (fun hHeld1 => ?_)
                      clear hK K hHeld
                      try simp only [Act.put, List.setIfInBounds_toArray, List.set_cons_zero, List.set_cons_succ]
                      refine wpAnyH_take (i := 4) (oi := { dst := some 111, op := Go.Op.binOp Go.BinOp.eql 4 (Go.Operand.tmp 109) (Go.Operand.tmp 110) 4, type := 4, pos := "law.go:169", after := #[{ on := 2, ground := Go.Ground.data }, { on := 3, ground := Go.Ground.data }], guard := none }) (v := ?_) rfl (by kernel_rfl) (by kernel_rfl) (by kernel_rfl) (fun _ _ _ h => h) (Or.inl ⟨by rfl, ?_⟩) (by assumption) ?_
                      rotate_left
                      · (intro w hSw; (try dsimp only at hSw); go_simp; (try (with_reducible rfl)))
                      try simp only [Act.put, List.setIfInBounds_toArray, List.set_cons_zero, List.set_cons_succ]
                      refine wpAnyH_take (i := 5) (oi := { dst := some 112, op := Go.Op.move (Go.Operand.tmp 111), type := 4, pos := "law.go:169", after := #[{ on := 4, ground := Go.Ground.data }, { on := 2, ground := Go.Ground.chain }], guard := none }) (v := ?_) rfl (by kernel_rfl) (by kernel_rfl) (by kernel_rfl) (fun _ _ _ h => h) (Or.inl ⟨by rfl, ?_⟩) (by assumption) ?_
                      rotate_left
                      · (intro w hSw; (try dsimp only at hSw); go_simp; (try (with_reducible rfl)))
                      try simp only [Act.put, List.setIfInBounds_toArray, List.set_cons_zero, List.set_cons_succ]
                      refine wpAnyH_take (i := 6) (oi := { dst := some 113, op := Go.Op.move (Go.Operand.tmp 15), type := 4, pos := "law.go:169", after := #[{ on := 5, ground := Go.Ground.guard }], guard := some (5, false) }) (v := ?_) rfl (by kernel_rfl) (by kernel_rfl) (by kernel_rfl) (fun _ _ _ h => h) (Or.inl ⟨by rfl, ?_⟩) (by assumption) ?_
                      rotate_left
                      · (intro w hSw; (try dsimp only at hSw); go_simp; (try (with_reducible rfl)))
                      try simp only [Act.put, List.setIfInBounds_toArray, List.set_cons_zero, List.set_cons_succ]
                      refine wpAnyH_take (i := 7) (oi := { dst := some 114, op := Go.Op.move (Go.Operand.tmp 113), type := 4, pos := "law.go:169", after := #[{ on := 6, ground := Go.Ground.data }, { on := 5, ground := Go.Ground.chain }, { on := 5, ground := Go.Ground.guard }], guard := some (5, false) }) (v := ?_) rfl (by kernel_rfl) (by kernel_rfl) (by kernel_rfl) (fun _ _ _ h => h) (Or.inl ⟨by rfl, ?_⟩) (by assumption) ?_
                      rotate_left
                      · (intro w hSw; (try dsimp only at hSw); go_simp; (try (with_reducible rfl)))
                      try simp only [Act.put, List.setIfInBounds_toArray, List.set_cons_zero, List.set_cons_succ]
                      refine wpAnyH_take (i := 8) (oi := { dst := some 115, op := Go.Op.fieldAddr 28 (Go.Operand.tmp 14) 1, type := 0, pos := "law.go:169", after := #[{ on := 7, ground := Go.Ground.guard }], guard := some (7, true) }) (v := ?_) rfl (by kernel_rfl) (by kernel_rfl) (by kernel_rfl) (fun _ _ _ h => h) (Or.inl ⟨by rfl, ?_⟩) (by assumption) ?_
                      rotate_left
                      · (intro w hSw; (try dsimp only at hSw); go_simp; (try (with_reducible rfl)))
                      try simp only [Act.put, List.setIfInBounds_toArray, List.set_cons_zero, List.set_cons_succ]
                      refine wpAnyH_take (i := 9) (oi := { dst := some 116, op := Go.Op.load 3 (Go.Operand.tmp 115), type := 3, pos := "law.go:169", after := #[{ on := 8, ground := Go.Ground.data }, { on := 7, ground := Go.Ground.guard }], guard := some (7, true) }) (v := ?_) rfl (by kernel_rfl) (by kernel_rfl) (by kernel_rfl) (fun _ _ _ h => h) (Or.inl ⟨by rfl, ?_⟩) (by assumption) ?_
                      rotate_left
                      · (intro w hSw; (try dsimp only at hSw); go_simp; (try (with_reducible rfl)))
                      try simp only [Act.put, List.setIfInBounds_toArray, List.set_cons_zero, List.set_cons_succ]
                      refine wpAnyH_take (i := 10) (oi := { dst := some 117, op := Go.Op.move (Go.Operand.tmp 5), type := 67, pos := "law.go:169", after := #[{ on := 7, ground := Go.Ground.guard }], guard := some (7, true) }) (v := ?_) rfl (by kernel_rfl) (by kernel_rfl) (by kernel_rfl) (fun _ _ _ h => h) (Or.inl ⟨by rfl, ?_⟩) (by assumption) ?_
                      rotate_left
                      · (intro w hSw; (try dsimp only at hSw); go_simp; (try (with_reducible rfl)))
                      try simp only [Act.put, List.setIfInBounds_toArray, List.set_cons_zero, List.set_cons_succ]
                      refine wpAnyH_take (i := 11) (oi := { dst := some 118, op := Go.Op.fieldAddr 28 (Go.Operand.tmp 14) 0, type := 0, pos := "law.go:169", after := #[{ on := 7, ground := Go.Ground.guard }], guard := some (7, true) }) (v := ?_) rfl (by kernel_rfl) (by kernel_rfl) (by kernel_rfl) (fun _ _ _ h => h) (Or.inl ⟨by rfl, ?_⟩) (by assumption) ?_
                      rotate_left
                      · (intro w hSw; (try dsimp only at hSw); go_simp; (try (with_reducible rfl)))
                      try simp only [Act.put, List.setIfInBounds_toArray, List.set_cons_zero, List.set_cons_succ]
                      refine wpAnyH_take (i := 12) (oi := { dst := some 119, op := Go.Op.load 3 (Go.Operand.tmp 118), type := 3, pos := "law.go:169", after := #[{ on := 11, ground := Go.Ground.data }, { on := 7, ground := Go.Ground.guard }], guard := some (7, true) }) (v := ?_) rfl (by kernel_rfl) (by kernel_rfl) (by kernel_rfl) (fun _ _ _ h => h) (Or.inl ⟨by rfl, ?_⟩) (by assumption) ?_
                      rotate_left
                      · (intro w hSw; (try dsimp only at hSw); go_simp; (try (with_reducible rfl)))
                      try simp only [Act.put, List.setIfInBounds_toArray, List.set_cons_zero, List.set_cons_succ]
                      refine wpAnyH_ready (rs := [13]) (by kernel_rfl) (by simp) ?_
                      refine AllReadyH.cons (o := { dst := some 120, op := Go.Op.call { callee := Go.Callee.value (Go.Operand.func 47), args := #[Go.Operand.tmp 117, Go.Operand.tmp 119], argTypes := #[67, 3] }, type := 3, pos := "law.go:169", after := #[{ on := 10, ground := Go.Ground.data }, { on := 12, ground := Go.Ground.data }, { on := 7, ground := Go.Ground.chain }, { on := 7, ground := Go.Ground.guard }], guard := some (7, true) }) rfl (fun K hK => ?_) AllReadyH.nil
                      go_simp
                      refine (hFlo.out _ (hst1)).mono ?_
                      rintro e w21 ⟨rfl, hb2⟩
                      have hst2 := (hst1).below hb2
                      refine hK.out _ _ (kk _ _ hst2) (fun hHeld2 => ?_)
                      clear hK K hHeld1
                      try simp only [Act.put, List.setIfInBounds_toArray, List.set_cons_zero, List.set_cons_succ]
                      refine wpAnyH_take (i := 14) (oi := { dst := some 121, op := Go.Op.binOp Go.BinOp.gtr 3 (Go.Operand.tmp 116) (Go.Operand.tmp 120) 3, type := 4, pos := "law.go:169", after := #[{ on := 9, ground := Go.Ground.data }, { on := 13, ground := Go.Ground.data }, { on := 7, ground := Go.Ground.guard }], guard := some (7, true) }) (v := ?_) rfl (by kernel_rfl) (by kernel_rfl) (by kernel_rfl) (fun _ _ _ h => h) (Or.inl ⟨by rfl, ?_⟩) (by assumption) ?_
                      rotate_left
                      · (intro w hSw; (try dsimp only at hSw); go_simp; (try (with_reducible rfl)))
                      try simp only [Act.put, List.setIfInBounds_toArray, List.set_cons_zero, List.set_cons_succ]
                      refine wpAnyH_take (i := 15) (oi := { dst := some 122, op := Go.Op.pick (Go.Operand.tmp 114) (Go.Operand.tmp 121) (Go.Operand.const (Go.Value.bool false)), type := 4, pos := "law.go:169", after := #[{ on := 7, ground := Go.Ground.data }, { on := 14, ground := Go.Ground.data }, { on := 5, ground := Go.Ground.guard }], guard := some (5, false) }) (v := ?_) rfl (by kernel_rfl) (by kernel_rfl) (by kernel_rfl) (fun _ _ _ h => h) (Or.inl ⟨by rfl, ?_⟩) (by assumption) ?_
                      rotate_left
                      · (intro w hSw; (try dsimp only at hSw); go_simp; (try (with_reducible rfl)))
                      try simp only [Act.put, List.setIfInBounds_toArray, List.set_cons_zero, List.set_cons_succ]
                      refine wpAnyH_take (i := 16) (oi := { dst := some 123, op := Go.Op.pick (Go.Operand.tmp 112) (Go.Operand.const (Go.Value.bool true)) (Go.Operand.tmp 122), type := 4, pos := "law.go:169", after := #[{ on := 5, ground := Go.Ground.data }, { on := 15, ground := Go.Ground.data }], guard := none }) (v := ?_) rfl (by kernel_rfl) (by kernel_rfl) (by kernel_rfl) (fun _ _ _ h => h) (Or.inl ⟨by rfl, ?_⟩) (by assumption) ?_
                      rotate_left
                      · (intro w hSw; (try dsimp only at hSw); go_simp; (try (with_reducible rfl)))
                      try simp only [Act.put, List.setIfInBounds_toArray, List.set_cons_zero, List.set_cons_succ]
                      refine wpAnyH_take (i := 17) (oi := { dst := some 124, op := Go.Op.move (Go.Operand.tmp 123), type := 4, pos := "law.go:169", after := #[{ on := 16, ground := Go.Ground.data }, { on := 13, ground := Go.Ground.chain }], guard := none }) (v := ?_) rfl (by kernel_rfl) (by kernel_rfl) (by kernel_rfl) (fun _ _ _ h => h) (Or.inl ⟨by rfl, ?_⟩) (by assumption) ?_
                      rotate_left
                      · (intro w hSw; (try dsimp only at hSw); go_simp; (try (with_reducible rfl)))
                      try simp only [Act.put, List.setIfInBounds_toArray, List.set_cons_zero, List.set_cons_succ]
                      refine wpAnyH_take (i := 18) (oi := { dst := some 125, op := Go.Op.move (Go.Operand.tmp 5), type := 67, pos := "law.go:169", after := #[{ on := 17, ground := Go.Ground.guard }], guard := some (17, false) }) (v := ?_) rfl (by kernel_rfl) (by kernel_rfl) (by kernel_rfl) (fun _ _ _ h => h) (Or.inl ⟨by rfl, ?_⟩) (by assumption) ?_
                      rotate_left
                      · (intro w hSw; (try dsimp only at hSw); go_simp; (try (with_reducible rfl)))
                      try simp only [Act.put, List.setIfInBounds_toArray, List.set_cons_zero, List.set_cons_succ]
                      refine wpAnyH_take (i := 19) (oi := { dst := some 126, op := Go.Op.load 28 (Go.Operand.tmp 14), type := 28, pos := "law.go:169", after := #[{ on := 17, ground := Go.Ground.guard }], guard := some (17, false) }) (v := ?_) rfl (by kernel_rfl) (by kernel_rfl) (by kernel_rfl) (fun _ _ _ h => h) (Or.inl ⟨by rfl, ?_⟩) (by assumption) ?_
                      rotate_left
                      · (intro w hSw; (try dsimp only at hSw); go_simp; (try (with_reducible rfl)))
                      try simp only [Act.put, List.setIfInBounds_toArray, List.set_cons_zero, List.set_cons_succ]
                      refine wpAnyH_ready (rs := [20]) (by kernel_rfl) (by simp) ?_
                      refine AllReadyH.cons (o := { dst := some 127, op := Go.Op.call { callee := Go.Callee.value (Go.Operand.func 46), args := #[Go.Operand.tmp 125, Go.Operand.tmp 126], argTypes := #[67, 28] }, type := 3, pos := "law.go:169", after := #[{ on := 18, ground := Go.Ground.data }, { on := 19, ground := Go.Ground.data }, { on := 17, ground := Go.Ground.chain }, { on := 17, ground := Go.Ground.guard }], guard := some (17, false) }) rfl (fun K hK => ?_) AllReadyH.nil
                      go_simp
                      refine (hStat.out _ (hst2)).mono ?_
                      rintro e w31 ⟨rfl, hb3⟩
                      have hst3 := (hst2).below hb3
                      refine hK.out _ _ (kk _ _ hst3) (fun hHeld3 => ?_)
                      clear hK K hHeld2
                      try simp only [Act.put, List.setIfInBounds_toArray, List.set_cons_zero, List.set_cons_succ]
                      refine wpAnyH_take (i := 21) (oi := { dst := some 128, op := Go.Op.binOp Go.BinOp.eql 3 (Go.Operand.tmp 127) (Go.Operand.const (Go.Value.int Go.IntKind.i64 2)) 3, type := 4, pos := "law.go:169", after := #[{ on := 20, ground := Go.Ground.data }, { on := 17, ground := Go.Ground.guard }], guard := some (17, false) }) (v := ?_) rfl (by kernel_rfl) (by kernel_rfl) (by kernel_rfl) (fun _ _ _ h => h) (Or.inl ⟨by rfl, ?_⟩) (by assumption) ?_
                      rotate_left
                      · (intro w hSw; (try dsimp only at hSw); go_simp; (try (with_reducible rfl)))
                      try simp only [Act.put, List.setIfInBounds_toArray, List.set_cons_zero, List.set_cons_succ]
                      refine wpAnyH_take (i := 22) (oi := { dst := some 129, op := Go.Op.move (Go.Operand.tmp 128), type := 4, pos := "law.go:169", after := #[{ on := 21, ground := Go.Ground.data }, { on := 20, ground := Go.Ground.chain }, { on := 17, ground := Go.Ground.guard }], guard := some (17, false) }) (v := ?_) rfl (by kernel_rfl) (by kernel_rfl) (by kernel_rfl) (fun _ _ _ h => h) (Or.inl ⟨by rfl, ?_⟩) (by assumption) ?_
                      rotate_left
                      · (intro w hSw; (try dsimp only at hSw); go_simp; (try (with_reducible rfl)))
                      try simp only [Act.put, List.setIfInBounds_toArray, List.set_cons_zero, List.set_cons_succ]
                      refine wpAnyH_take (i := 23) (oi := { dst := some 130, op := Go.Op.fieldAddr 28 (Go.Operand.tmp 14) 1, type := 0, pos := "law.go:169", after := #[{ on := 22, ground := Go.Ground.guard }], guard := some (22, true) }) (v := undef) rfl (by kernel_rfl) (by kernel_rfl) (by kernel_rfl) (fun _ _ _ h => h) (Or.inr ⟨by rfl, rfl⟩) (by assumption) ?_
                      try simp only [Act.put, List.setIfInBounds_toArray, List.set_cons_zero, List.set_cons_succ]
                      refine wpAnyH_take (i := 24) (oi := { dst := some 131, op := Go.Op.load 3 (Go.Operand.tmp 130), type := 3, pos := "law.go:169", after := #[{ on := 23, ground := Go.Ground.data }, { on := 22, ground := Go.Ground.guard }], guard := some (22, true) }) (v := undef) rfl (by kernel_rfl) (by kernel_rfl) (by kernel_rfl) (fun _ _ _ h => h) (Or.inr ⟨by rfl, rfl⟩) (by assumption) ?_
                      try simp only [Act.put, List.setIfInBounds_toArray, List.set_cons_zero, List.set_cons_succ]
                      refine wpAnyH_take (i := 25) (oi := { dst := some 132, op := Go.Op.move (Go.Operand.tmp 5), type := 67, pos := "law.go:169", after := #[{ on := 22, ground := Go.Ground.guard }], guard := some (22, true) }) (v := undef) rfl (by kernel_rfl) (by kernel_rfl) (by kernel_rfl) (fun _ _ _ h => h) (Or.inr ⟨by rfl, rfl⟩) (by assumption) ?_
                      try simp only [Act.put, List.setIfInBounds_toArray, List.set_cons_zero, List.set_cons_succ]
                      refine wpAnyH_take (i := 26) (oi := { dst := some 133, op := Go.Op.fieldAddr 28 (Go.Operand.tmp 14) 0, type := 0, pos := "law.go:169", after := #[{ on := 22, ground := Go.Ground.guard }], guard := some (22, true) }) (v := undef) rfl (by kernel_rfl) (by kernel_rfl) (by kernel_rfl) (fun _ _ _ h => h) (Or.inr ⟨by rfl, rfl⟩) (by assumption) ?_
                      try simp only [Act.put, List.setIfInBounds_toArray, List.set_cons_zero, List.set_cons_succ]
                      refine wpAnyH_take (i := 27) (oi := { dst := some 134, op := Go.Op.load 3 (Go.Operand.tmp 133), type := 3, pos := "law.go:169", after := #[{ on := 26, ground := Go.Ground.data }, { on := 22, ground := Go.Ground.guard }], guard := some (22, true) }) (v := undef) rfl (by kernel_rfl) (by kernel_rfl) (by kernel_rfl) (fun _ _ _ h => h) (Or.inr ⟨by rfl, rfl⟩) (by assumption) ?_
                      try simp only [Act.put, List.setIfInBounds_toArray, List.set_cons_zero, List.set_cons_succ]
                      refine wpAnyH_take (i := 28) (oi := { dst := some 135, op := Go.Op.call { callee := Go.Callee.value (Go.Operand.func 47), args := #[Go.Operand.tmp 132, Go.Operand.tmp 134], argTypes := #[67, 3] }, type := 3, pos := "law.go:169", after := #[{ on := 25, ground := Go.Ground.data }, { on := 27, ground := Go.Ground.data }, { on := 22, ground := Go.Ground.chain }, { on := 22, ground := Go.Ground.guard }], guard := some (22, true) }) (v := undef) rfl (by kernel_rfl) (by kernel_rfl) (by kernel_rfl) (fun _ _ _ h => h) (Or.inr ⟨by rfl, rfl⟩) (by assumption) ?_
                      try simp only [Act.put, List.setIfInBounds_toArray, List.set_cons_zero, List.set_cons_succ]
                      refine wpAnyH_take (i := 29) (oi := { dst := some 136, op := Go.Op.binOp Go.BinOp.leq 3 (Go.Operand.tmp 131) (Go.Operand.tmp 135) 3, type := 4, pos := "law.go:169", after := #[{ on := 24, ground := Go.Ground.data }, { on := 28, ground := Go.Ground.data }, { on := 22, ground := Go.Ground.guard }], guard := some (22, true) }) (v := undef) rfl (by kernel_rfl) (by kernel_rfl) (by kernel_rfl) (fun _ _ _ h => h) (Or.inr ⟨by rfl, rfl⟩) (by assumption) ?_
                      try simp only [Act.put, List.setIfInBounds_toArray, List.set_cons_zero, List.set_cons_succ]
                      refine wpAnyH_take (i := 30) (oi := { dst := some 137, op := Go.Op.pick (Go.Operand.tmp 129) (Go.Operand.tmp 136) (Go.Operand.const (Go.Value.bool false)), type := 4, pos := "law.go:169", after := #[{ on := 22, ground := Go.Ground.data }, { on := 29, ground := Go.Ground.data }, { on := 17, ground := Go.Ground.guard }], guard := some (17, false) }) (v := ?_) rfl (by kernel_rfl) (by kernel_rfl) (by kernel_rfl) (fun _ _ _ h => h) (Or.inl ⟨by rfl, ?_⟩) (by assumption) ?_
                      rotate_left
                      · (intro w hSw; (try dsimp only at hSw); go_simp; (try (with_reducible rfl)))
                      try simp only [Act.put, List.setIfInBounds_toArray, List.set_cons_zero, List.set_cons_succ]
                      refine wpAnyH_take (i := 31) (oi := { dst := some 138, op := Go.Op.pick (Go.Operand.tmp 124) (Go.Operand.const (Go.Value.bool true)) (Go.Operand.tmp 137), type := 4, pos := "law.go:169", after := #[{ on := 17, ground := Go.Ground.data }, { on := 30, ground := Go.Ground.data }], guard := none }) (v := ?_) rfl (by kernel_rfl) (by kernel_rfl) (by kernel_rfl) (fun _ _ _ h => h) (Or.inl ⟨by rfl, ?_⟩) (by assumption) ?_
                      rotate_left
                      · (intro w hSw; (try dsimp only at hSw); go_simp; (try (with_reducible rfl)))
                      try simp only [Act.put, List.setIfInBounds_toArray, List.set_cons_zero, List.set_cons_succ]
                      refine wpAnyH_done (by kernel_rfl) ?_ _
                      have hen9 := (((en10.drew).trans (bel_env hb1)).trans (bel_env hb2)).trans (bel_env hb3)
                      clear hHeld3
                      go_wp2_with fail
                      go_roundw
                      case rel => exact ⟨k + 1, H9, by omega, by go_num, Hp.le_trans l9 l10, hst3, hen9⟩
                      case measure => simp [intOf]; omega
                  · obtain rfl : k = K.length := by omega
                    have hw1 : IntKind.i64.wrap ((K.length : Int) - ((K.length : Int) - ((keepK low K).length : Int))) = ((keepK low K).length : Int) := by rw [IntKind.wrap_i64]; omega
                    have hw2 : IntKind.i64.wrap ((4096 : Int) - (K.length : Int) + ((K.length : Int) - ((keepK low K).length : Int))) = 4096 - ((keepK low K).length : Int) := by rw [IntKind.wrap_i64]; omega
                    have hFr := Lib.hid (vsFree_any p 4096 (by decide) (keepK low K) (by omega) M low H8 [] _ hst)
                    go_wp2_with fail
                    refine hFr.out.mono ?_
                    rintro e w5 ⟨rfl, hb5⟩
                    have h5 := hst.below hb5
                    have en5 := hen.trans (bel_env hb5)
                    clear hst hen hb5 hFr
                    have hCm := Lib.hid (vsCompact_any p 4096 (keepK low K) M low hlow H8 [] _ h5 (by omega) (fun x hx => hKK.out.1.2 x (List.mem_filter.1 hx).1))
                    go_wp2_with fail
                    refine hCm.out.mono ?_
                    rintro e w6 ⟨low2, hlow2, hfl2, rfl, h6, en6⟩
                    rw [keepK_two hfl.out hfl2 hKK.out.1.2]
                    have en7 := en5.trans en6
                    clear hCm h5 hfl2
                    have hz0 : ((keepK low K).length : Int) - ((keepK low K).length : Int) = 0 := by omega
                    rw [hz0]
                    go_wp2_with fail
                    refine (works21 _).mono ?_
                    rintro e w8 ⟨rfl, hb8⟩
                    have hz := ends21 (Hp.le_trans l8 l9) h6 en7 hb8
                    go_wp2_with fail
                    go_ret
                    exact ⟨rfl, hz⟩
    · have d60' : (60 : Int) < (D.length : Int) := by omega
      have h60' : ¬ (60 : Int) < (l.length : Int) := by omega
      go_enter Try.func8, Try.ntmps8
      go_wp2_with fail
      refine (works21 _).mono ?_
      rintro e w3 ⟨rfl, hb3⟩
      go_wp2_with fail
      go_ret
      exact ⟨rfl, hb3⟩
  · have h60' : (60 : Int) < (l.length : Int) := by omega
    go_enter Try.func8, Try.ntmps8
    go_wp2_with fail
    refine (works21 _).mono ?_
    rintro e w3 ⟨rfl, hb3⟩
    go_wp2_with fail
    go_ret
    exact ⟨rfl, hb3⟩
end Go.Proofs.Ytelmhcbdpimaaaa
