/- A journal is loaded. -/
import Derived.Test.YtmdmekdmlkhchaaJournal5
set_option linter.unusedVariables false
set_option linter.unusedSimpArgs false
namespace Go.Proofs.Ytmdmekdmlkhchaa
open Go.RowKit Go.Cw Go.Jn
/-- A journal that was loaded. -/
def LoadR (H : Hp) (fr : List HA) (xs : List Int) (w : World) (e : Ending) (w' : World) : Prop := ∃ (p : Nat) (l : List JEnt) (k : Nat) (b : Int) (H' : Hp), e = .returned (.tuple #[jP p, .int .i64 (k : Int), .int .i64 b]) ∧ Hp.le H H' ∧ St H' (JA p l :: fr) w' ∧ Env w w' ∧ EGood H' l ∧ Loaded xs (ents l) k b
theorem fitKn {x : Ent} (h : Fit x) : Kn x.1 x.2.1 x.2.2.length := by
  obtain ⟨k, n, b⟩ := x
  rcases h with ⟨h1, h2, h3, h4⟩ | ⟨h1, h2, h3, h4⟩ | ⟨h1, h2, h3⟩ <;> simp only at h1 h2 h3 <;> subst h1
  · exact .inl ⟨rfl, h3⟩
  · exact .inr (.inl ⟨rfl, h2, h3⟩)
  · exact .inr (.inr rfl)
set_option maxRecDepth 100000 in
set_option maxHeartbeats 3200000 in
theorem load_any (A : Option Addr) (n c : Nat) (xs : List Int) (hb : Byt xs) (hxl : xs.length ≤ 600000) (H : Hp) (fr : List HA) (w : World) (h : St H fr w) (hx : Rd H 1 (.slice A n c) (u8s xs)) :
    Calls Try.prog 40 #[.slice A n c] w (LoadR H fr xs w) := by
  obtain ⟨A', n', c', hv, hl, hnc, hcM⟩ := hx.form
  cases hv
  rw [u8s_len, Nat.mul_one] at hl
  subst hl
  go_enter Try.func40, Try.ntmps40
  go_wp2_with fail
  go_step3
  go_wp2_with fail
  refine (jNew w).mono ?_
  rintro e w1 ⟨p, rfl, h1, en1⟩
  replace h1 := St.lift h h1 en1
  go_wp2_with fail
  go_step3
  go_wp2_with fail
  go_loopg [6, 7] xs.length (fun q s6 s7 wr => ∃ (k : Nat) (l : List JEnt) (H' : Hp), s6 = .int .i64 (k : Int) ∧ s7 = .int .i64 0 ∧ k + q = xs.length ∧ Hp.le H H' ∧ St H' (JA p l :: fr) wr ∧ Env w wr ∧ EGood H' l ∧ Hid (xs.take k = flat (ents l)))
  case atStart => exact ⟨0, [], H, rfl, rfl, by omega, Hp.le_refl H, h1, en1, fun x hx => (by cases hx), Lib.hid rfl⟩
  case round =>
    clear h1 en1 h
    obtain ⟨k, l, H', rfl, rfl, hkq, hle, hst, hen, hg, hfl⟩ := hrel
    by_cases hlt : k < xs.length
    · have hxw := (hx.mono hle).rw hst
      obtain ⟨b, off, rfl, hcc⟩ := hxw.cells (by omega)
      clear hcc
      have hr := hxw.from k (by omega) ⟨b, off + k, none⟩ (xs.length - k) (fun _ => by rw [Nat.mul_one]) (Nat.le_refl _) (by omega)
      rw [Nat.mul_one, u8s_drop] at hr
      have hkI : (k : Int) ≤ (xs.length : Int) := by omega
      have hkl : (k : Int) < (xs.length : Int) := by omega
      have hlc : (xs.length : Int) ≤ (c : Int) := by omega
      have hne : ¬ xs.length = k := by omega
      go_wp2_with fail
      refine (next_any _ _ _ _ (hb.drop k) (by rw [List.length_drop]; omega) _ hr).mono ?_
      rintro e w2 ⟨v, rfl, bel2, hr2⟩
      obtain ⟨vA, vn, vc, rfl, hvl, _⟩ := hr2.form
      rw [u8s_len, Nat.mul_one] at hvl
      have h2 := hst.below bel2
      have en2 := hen.trans (bel_env bel2)
      obtain ⟨E, K, ⟨kk, n, ys⟩, hN⟩ : ∃ E K x, nextF (xs.drop k) = (E, K, x) := ⟨_, _, _, rfl⟩
      rw [hN] at hr2 hvl ⊢
      simp only at hr2 hvl ⊢
      have h3 := h2.alloc (.cells #[.int .i64 kk, .int .i64 n, .slice vA vn vc] 140)
      have en3 := en2.alloc (.cells #[.int .i64 kk, .int .i64 n, .slice vA vn vc] 140)
      have hr3 := hr2.alloc (.cells #[.int .i64 kk, .int .i64 n, .slice vA vn vc] 140)
      by_cases hE : E = 0
      · subst hE
        by_cases hp1 : kk = 1 ∧ 4096 < ys.length
        · obtain ⟨rfl, hp1⟩ := hp1
          have hL : Loaded xs (ents l) k 18 := ⟨hg.good, hfl.out, by omega, .inr ⟨by decide, hlt, .inr (by rw [hN]; exact ⟨rfl, fun h => h.1 ⟨rfl, hp1⟩⟩)⟩⟩
          replace hN := Lib.hid hN
          have hput := jPut_long p n vA vn vc (by omega) (w2.alloc (.cells #[.int .i64 1, .int .i64 n, .slice vA vn vc] 140))
          replace hvl := Lib.hid hvl
          replace hkq := Lib.hid hkq
          go_wp2_with fail
          refine hput.mono ?_
          rintro e w4 ⟨rfl, bel4⟩
          have h4 := h3.below bel4
          have en4 := en3.trans (bel_env bel4)
          go_wp2_with fail
          rw [Exit.noGoto_ret]
          go_ret3
          exact ⟨p, l, k, 18, H', rfl, hle, h4, en4, hg, hL⟩
        · by_cases hp2 : kk = 2 ∧ (n < 0 ∨ 4096 < n)
          · obtain ⟨rfl, hp2⟩ := hp2
            have hL : Loaded xs (ents l) k 1 := ⟨hg.good, hfl.out, by omega, .inr ⟨by decide, hlt, .inr (by rw [hN]; exact ⟨rfl, fun h => h.2 ⟨rfl, hp2⟩⟩)⟩⟩
            replace hN := Lib.hid hN
            have hput := jPut_arg p n vA vn vc hp2 (w2.alloc (.cells #[.int .i64 2, .int .i64 n, .slice vA vn vc] 140))
            replace hvl := Lib.hid hvl
            replace hkq := Lib.hid hkq
            clear hp2 hp1
            go_wp2_with fail
            refine hput.mono ?_
            rintro e w4 ⟨rfl, bel4⟩
            have h4 := h3.below bel4
            have en4 := en3.trans (bel_env bel4)
            go_wp2_with fail
            rw [Exit.noGoto_ret]
            go_ret3
            exact ⟨p, l, k, 1, H', rfl, hle, h4, en4, hg, hL⟩
          · obtain ⟨hf, hK, r, hr0⟩ := nextF_ok (hb.drop k) hN ⟨hp1, hp2⟩
            have hkn := fitKn hf
            simp only at hkn
            rw [hvl] at hkn
            have hfb := flatJ_len hg.good
            have hKb := (eb_good hf).2
            have hdl := congrArg List.length hr0
            rw [List.length_drop, List.length_append] at hdl
            have hft := congrArg List.length hfl.out
            rw [List.length_take] at hft
            have hll : l.length < 65536 := by rw [ents_len] at hfb; omega
            have hyl : ys.length ≤ 4200 := by
              rcases hf with ⟨_, _, h, _⟩ | ⟨_, _, _, h⟩ | ⟨_, _, h⟩ <;> simp only at h
              · omega
              · subst h; simp
              · subst h; simp
            have hput := jPut_ok p l kk n vA vn vc ys hkn hll hyl H' fr _ h3 hr3
            have hfl2 : Hid (xs.take (k + K) = flat (ents l ++ [(kk, n, ys)])) := Lib.hid (by
              rw [flat_app, ← hfl.out, List.take_add]
              congr 1
              rw [hr0, hK, List.take_left]
              simp [flat])
            have hK1 : k + K ≤ xs.length := by omega
            have hK0 : 1 ≤ K := by omega
            have hKI : (k : Int) + (K : Int) ≤ (xs.length : Int) := by omega
            clear hp1 hp2 hkn hfb hKb hdl hft hll hyl hr0 hN hK
            replace hvl := Lib.hid hvl
            replace hkq := hkq
            have hkq' := Lib.hid hkq
            clear hkq
            go_wp2_with fail
            refine hput.mono ?_
            rintro e w4 ⟨rfl, en4, v4, h4⟩
            obtain ⟨H4, l4, h5, hrd⟩ := h4.row_keep
            replace en4 := en3.trans en4
            go_wp2_with fail
            go_roundg (xs.length - (k + K))
            case measure => have := hkq'.out; omega
            case rel => exact ⟨k + K, l ++ [(kk, n, v4, ys)], H4, by go_num, rfl, by omega, Hp.le_trans hle l4, h5, en4, (hg.mono l4).snoc ⟨hrd, hf⟩, Lib.hid (by rw [hfl2.out]; simp [ents, ent])⟩
      · have bE : (E == 0) = false := by simpa using hE
        have bE' : (E != 0) = true := by simpa using hE
        have hL : Loaded xs (ents l) k E := ⟨hg.good, hfl.out, by omega, .inr ⟨hE, hlt, .inl (by rw [hN])⟩⟩
        replace hE := Lib.hid hE
        replace hN := Lib.hid hN
        replace hvl := Lib.hid hvl
        replace hkq := Lib.hid hkq
        go_wp2_with fail
        rw [Exit.noGoto_ret]
        go_ret3
        exact ⟨p, l, k, E, H', rfl, hle, h3, en3, hg, hL⟩
    · obtain rfl : k = xs.length := by omega
      have hL : Loaded xs (ents l) xs.length 0 := ⟨hg.good, hfl.out, Nat.le_refl _, .inl ⟨rfl, rfl⟩⟩
      replace hkq := Lib.hid hkq
      go_wp2_with fail
      rw [Exit.noGoto_ret]
      go_ret3
      exact ⟨p, l, xs.length, 0, H', rfl, hle, hst, hen, hg, hL⟩
end Go.Proofs.Ytmdmekdmlkhchaa
