/- The laws FrontOrder and FrontMarks: parts, and FrontOrder walked. -/
import Derived.Test.YtmdmekdmlkhchaaFront4
set_option linter.unusedVariables false
set_option linter.unusedSimpArgs false
namespace Go.Proofs.Ytmdmekdmlkhchaa
open Go.RowKit Go.Cw
attribute [local go_sem ↓] eql_id neq_id
set_option maxRecDepth 100000 in
set_option maxHeartbeats 800000 in
theorem works05 (w : World) : Calls Try.prog 68 #[] w fun e w' => e = .returned (.bool true) ∧ Below w.heap.size w w' := by
  go_enter Try.func68, Try.ntmps68
  go_wp2_with fail
  refine (frNew w).mono ?_
  rintro e w2 ⟨p, rfl, h2, en2⟩
  go_wp2_with fail
  refine (frMark p [] (1, 2) _ [] w2 h2).mono ?_
  rintro e w3 ⟨rfl, h3, en3⟩
  rw [show mayM (1, 2) [] = true from by decide +kernel]
  rw [show markL (1, 2) [] = [(1, 2)] from by decide +kernel] at h3
  go_wp2_with fail
  refine (frFloor_in p 1 (by decide) [(1, 2)] _ [] w3 h3).mono ?_
  rintro e w3' ⟨n, rfl, rfl, hf⟩
  obtain rfl : n = 0 := FlP.one hf ⟨fun m h1 h2 => by omega, by decide +kernel⟩
  clear hf
  go_wp2_with fail
  refine (frMark p [(1, 2)] (1, 1) _ [] w3 h3).mono ?_
  rintro e w4 ⟨rfl, h4, en4⟩
  rw [show mayM (1, 1) [(1, 2)] = true from by decide +kernel]
  rw [show markL (1, 1) [(1, 2)] = [(1, 1), (1, 2)] from by decide +kernel] at h4
  go_wp2_with fail
  refine (frFloor_in p 1 (by decide) [(1, 1), (1, 2)] _ [] w4 h4).mono ?_
  rintro e w4' ⟨n, rfl, rfl, hf⟩
  obtain rfl : n = 2 := FlP.one hf ⟨fun m h1 h2 => by
    rcases (by omega : m = 1 ∨ m = 2) with rfl | rfl <;> decide +kernel, by decide +kernel⟩
  clear hf
  go_wp2_with fail
  refine (frLen p [(1, 1), (1, 2)] (by decide) _ [] w4 h4).mono ?_
  rintro e w4' ⟨rfl, rfl⟩
  rw [show (([(1, 1), (1, 2)] : List Id).length : Int) = 2 from rfl]
  go_wp2_with fail
  refine (frMark p [(1, 1), (1, 2)] (1, 1) _ [] w4 h4).mono ?_
  rintro e w5 ⟨rfl, h5, en5⟩
  rw [show mayM (1, 1) [(1, 1), (1, 2)] = false from by decide +kernel]
  go_wp2_with fail
  go_ret
  exact ⟨rfl, h5.toBelow (((en2.trans en3).trans en4).trans en5)⟩
theorem markL_mem (a b : Id) (M : List Id) : b ∈ markL a M ↔ b ∈ M ∨ (b = a ∧ idOk a = true) := by
  unfold markL mayM
  by_cases hok : idOk a = true
  · by_cases hm : a ∈ M
    · rw [if_neg (by simp [hm])]
      exact ⟨.inl, fun h => h.elim id (fun h => h.1 ▸ hm)⟩
    · rw [if_pos (by simp [hok, hm]), ins_mem]
      exact ⟨fun h => h.elim (fun e => .inr ⟨e, hok⟩) .inl, fun h => h.elim .inr (fun h => .inl h.1)⟩
  · rw [if_neg (by simp [hok])]
    exact ⟨.inl, fun h => h.elim id (fun h => absurd h.2 hok)⟩
theorem markL_len (a : Id) (M : List Id) : (markL a M).length ≤ M.length + 1 := by
  unfold markL
  split
  · rw [ins_len]; exact Nat.le_refl _
  · omega
theorem fr_rises {H : Hp} {fr : List HA} {w : World} {p : Nat} {M : List Id} (h : St H (FrI p M :: fr) w) : Rises M := by
  obtain ⟨F, L, s, ⟨h1, h2⟩, h3⟩ := frOpen h
  exact h1.rises
set_option maxRecDepth 100000 in
set_option maxHeartbeats 1600000 in
theorem frontOrder_any (u : Value) (l : List Id) (c : Nat) (hc : c < 256) (w : World) (hu : Rw w 2 u (idl l)) :
    Calls Try.prog 11 #[u, .int .u8 (c : Int)] w fun e w' => e = .returned (.bool true) ∧ Below w.heap.size w w' := by
  obtain ⟨A, n, cp, rfl, hl, hn, hcp⟩ := hu.form
  rw [idl_len] at hl
  obtain rfl : n = l.length := by omega
  clear hl
  have hb := hu.rd
  by_cases h1 : (100 : Int) < l.length
  · go_enter Try.func11, Try.ntmps11
    go_wp2_with fail
    refine (works05 _).mono ?_
    rintro e w1 ⟨rfl, hb1⟩
    go_wp2_with fail
    go_ret
    exact ⟨rfl, hb1⟩
  have lb : l.length ≤ 100 := by omega
  go_enter Try.func11, Try.ntmps11
  go_wp2_with fail
  refine (frNew w).mono ?_
  rintro e w2 ⟨p, rfl, h2, en2⟩
  go_wp2_with fail
  refine (frNew w2).mono ?_
  rintro e w3 he
  obtain ⟨q, rfl, h3, en3⟩ := ResE.lift h2 he
  have en3' := en2.trans en3
  go_wp2_with fail
  go_loopw [7] (fun i wr => ∃ (k : Nat) (Mf Mg : List Id), k ≤ l.length ∧ i = .int .i64 (k : Int) ∧ St (snap w) [FrI q Mg, FrI p Mf] wr ∧ Env w wr ∧ Hid ((∀ a, a ∈ Mf ↔ idOk a = true ∧ ∃ i, i < k ∧ l[i]? = some a) ∧ (∀ a, a ∈ Mg ↔ idOk a = true ∧ ∃ i, i < k ∧ l[(i + c) % l.length]? = some a) ∧ Mf.length ≤ k ∧ Mg.length ≤ k)) (fun i _ => l.length - (intOf i).toNat)
  case atStart => exact ⟨0, [], [], Nat.zero_le _, rfl, h3, en3', Lib.hid ⟨fun a => by simp, fun a => by simp, by simp, by simp⟩⟩
  case round =>
    obtain ⟨k, Mf, Mg, hk, rfl, hst, hen, HM⟩ := hrel
    clear h2 h3 en3'
    by_cases hlt : k < l.length
    · obtain ⟨a, HX⟩ : ∃ x, Hid (x = l[k]) := ⟨_, Lib.hid rfl⟩
      have hj : (k + c) % l.length < l.length := Nat.mod_lt _ (by omega)
      obtain ⟨b, HY⟩ : ∃ x, Hid (x = l[(k + c) % l.length]) := ⟨_, Lib.hid rfl⟩
      have hj1 : ((k : Int) + (c : Int)) % (l.length : Int) < (l.length : Int) := Int.emod_lt_of_pos _ (by omega)
      have hj0 : (0 : Int) ≤ ((k : Int) + (c : Int)) % (l.length : Int) := Int.emod_nonneg _ (by omega)
      obtain ⟨qb, qoff, qA, qc⟩ := (hb.rw hst).cells (by omega)
      cases qA
      have q0 := qc _ _ (idl_fst l k hlt)
      have q1 := qc _ _ (idl_snd l k hlt)
      rw [← Nat.add_assoc] at q1
      rw [← HX.out] at q0 q1
      have ql := World.block_lt_of_cell? _ _ q0
      clear qc
      have hw1 : IntKind.i64.wrap (c : Int) = (c : Int) := by rw [IntKind.wrap_i64]; omega
      have hw2 : IntKind.i64.wrap ((k : Int) + (c : Int)) = (k : Int) + (c : Int) := by rw [IntKind.wrap_i64]; omega
      go_wp2_with fail
      refine (frMark p Mf a _ _ _ hst.swap).mono ?_
      rintro e w5 ⟨rfl, h5, en5⟩
      have h6 := (show St (snap w) [FrI p (markL a Mf), FrI q Mg] w5 from h5).swap
      obtain ⟨qb', qoff', qA, qc⟩ := (hb.rw h6).cells (by omega)
      cases qA
      have r0 := qc _ _ (idl_fst l _ hj)
      have r1 := qc _ _ (idl_snd l _ hj)
      rw [← Nat.add_assoc] at r1
      rw [← HY.out] at r0 r1
      have rl := World.block_lt_of_cell? _ _ r0
      clear qc q0 q1 ql
      go_wp2_with fail
      refine (frMark q Mg b _ _ _ h6).mono ?_
      rintro e w7 ⟨rfl, h7, en7⟩
      go_wp2_with fail
      go_roundw
      case rel =>
        refine ⟨k + 1, markL a Mf, markL b Mg, by omega, by go_num, h7, (hen.trans en5).trans en7, Lib.hid ⟨fun x => ?_, fun x => ?_, by have := markL_len a Mf; have := HM.out.2.2.1; omega, by have := markL_len b Mg; have := HM.out.2.2.2; omega⟩⟩
        · rw [markL_mem, HM.out.1]
          constructor
          · rintro (⟨h8, i, h9, h10⟩ | ⟨rfl, h8⟩)
            · exact ⟨h8, i, by omega, h10⟩
            · exact ⟨h8, k, by omega, by rw [HX.out]; exact List.getElem?_eq_getElem hlt⟩
          · rintro ⟨h8, i, h9, h10⟩
            rcases Nat.lt_or_ge i k with h11 | h11
            · exact .inl ⟨h8, i, h11, h10⟩
            · obtain rfl : i = k := by omega
              rw [List.getElem?_eq_getElem hlt, ← HX.out] at h10
              exact .inr ⟨(Option.some.inj h10).symm, by rw [Option.some.inj h10]; exact h8⟩
        · rw [markL_mem, HM.out.2.1]
          constructor
          · rintro (⟨h8, i, h9, h10⟩ | ⟨rfl, h8⟩)
            · exact ⟨h8, i, by omega, h10⟩
            · exact ⟨h8, k, by omega, by rw [HY.out]; exact List.getElem?_eq_getElem hj⟩
          · rintro ⟨h8, i, h9, h10⟩
            rcases Nat.lt_or_ge i k with h11 | h11
            · exact .inl ⟨h8, i, h11, h10⟩
            · obtain rfl : i = k := by omega
              rw [List.getElem?_eq_getElem hj, ← HY.out] at h10
              exact .inr ⟨(Option.some.inj h10).symm, by rw [Option.some.inj h10]; exact h8⟩
      case measure => simp [intOf]; omega
    · obtain rfl : k = l.length := by omega
      have hrf := fr_rises hst.swap
      have hrg := fr_rises hst
      obtain rfl : Mg = Mf := rises_eq hrg hrf (fun a => by
        rw [HM.out.1, HM.out.2.1]
        refine and_congr_right (fun _ => ⟨?_, ?_⟩)
        · rintro ⟨i, h9, h10⟩
          exact ⟨(i + c) % l.length, Nat.mod_lt _ (by omega), h10⟩
        · rintro ⟨i, h9, h10⟩
          refine ⟨(i + (l.length - c % l.length)) % l.length, Nat.mod_lt _ (by omega), ?_⟩
          have hm : ((i + (l.length - c % l.length)) % l.length + c) % l.length = i := by
            have h12 : c % l.length < l.length := Nat.mod_lt _ (by omega)
            rw [Nat.mod_add_mod, show i + (l.length - c % l.length) + c = i + (l.length - c % l.length) + (c % l.length + l.length * (c / l.length)) by rw [Nat.mod_add_div]]
            rw [show i + (l.length - c % l.length) + (c % l.length + l.length * (c / l.length)) = i + l.length + l.length * (c / l.length) by omega]
            rw [Nat.add_mul_mod_self_left, Nat.add_mod_right]
            exact Nat.mod_eq_of_lt h9
          rw [hm]
          exact h10)
      have hML := HM.out.2.2.1
      replace hrf := Lib.hid hrf
      replace hrg := Lib.hid hrg
      go_wp2_with fail
      go_loopw [8] (fun i wr => ∃ r : Nat, r ≤ 8 ∧ i = .int .i64 (r : Int) ∧ St (snap w) [FrI q Mg, FrI p Mg] wr ∧ Env w wr) (fun i _ => 8 - (intOf i).toNat)
      case atStart => exact ⟨0, by omega, rfl, hst, hen⟩
      case round =>
        clear hst hen
        obtain ⟨r, hr, rfl, hst, hen⟩ := hrel
        by_cases hr8 : r < 8
        · have hr8' : (r : Int) < 8 := by omega
          go_wp2_with fail
          refine (frFloor_in p r hr8 Mg _ _ _ hst.swap).mono ?_
          rintro e w5 ⟨n, rfl, rfl, hf1⟩
          go_wp2_with fail
          refine (frFloor_in q r hr8 Mg _ _ _ hst).mono ?_
          rintro e w5 ⟨n', rfl, rfl, hf2⟩
          obtain rfl := FlP.one hf1 hf2
          clear hf1 hf2
          go_wp2_with fail
          go_roundw
          case rel => exact ⟨r + 1, by omega, by go_num, hst, hen⟩
          case measure => simp [intOf]; omega
        · have hr8' : ¬ (r : Int) < 8 := by omega
          go_wp2_with fail
          refine (frAbove p Mg (by omega) _ _ _ hst.swap).mono ?_
          rintro e w5 ⟨v1, R1, rfl, ha1, h5, en5⟩
          go_wp2_with fail
          refine (frAbove q Mg (by omega) _ _ _ (h5.pick 2 (by simp))).mono ?_
          rintro e w6 ⟨v2, R2, rfl, ha2, h6, en6⟩
          obtain rfl := AbP.one ha1 ha2
          clear ha1 ha2
          go_wp2_with fail
          refine (sameIds_any _ _ R1 R1 _ ((h6.pick 2 (by simp)).row_rw (by omega)) (h6.row_rw (by omega))).mono ?_
          rintro e w7 ⟨rfl, hb7⟩
          rw [decide_eq_true rfl]
          have h7 := h6.below hb7
          go_wp2_with fail
          refine (frLen p Mg (by omega) _ _ _ (h7.pick 3 (by simp))).mono ?_
          rintro e w7' ⟨rfl, rfl⟩
          go_wp2_with fail
          refine (frLen q Mg (by omega) _ _ _ (h7.pick 1 (by simp))).mono ?_
          rintro e w7' ⟨rfl, rfl⟩
          go_wp2_with fail
          refine (works05 _).mono ?_
          rintro e w8 ⟨rfl, hb8⟩
          go_wp2_with fail
          go_ret
          exact ⟨rfl, (h7.below hb8).toBelow ((((hen.trans en5).trans en6).trans (bel_env hb7)).trans (bel_env hb8))⟩
end Go.Proofs.Ytmdmekdmlkhchaa
