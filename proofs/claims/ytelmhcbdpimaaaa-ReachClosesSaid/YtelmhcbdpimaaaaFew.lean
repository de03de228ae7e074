/- Graphs: Few, small facts. -/
import Derived.Test.YtelmhcbdpimaaaaEdges6
set_option linter.unusedVariables false
set_option linter.unusedSimpArgs false
namespace Go.Proofs.Ytelmhcbdpimaaaa
open Go.RowKit Go.Cw Go.Fl
attribute [local go_sem ↓] eql_id neq_id
def fewR (l : List Rc) : Bool := l.all (fun x => decide (x.2.2.2.2.1.length ≤ 20) && decide (x.2.2.2.2.2.length ≤ 20))
theorem fewR_step (l : List Rc) (k : Nat) (h : k < l.length) : fewR (l.drop k) = (decide (l[k].2.2.2.2.1.length ≤ 20) && decide (l[k].2.2.2.2.2.length ≤ 20) && fewR (l.drop (k + 1))) := by
  unfold fewR
  rw [List.drop_eq_getElem_cons h, List.all_cons]
set_option maxRecDepth 100000 in
set_option maxHeartbeats 1600000 in
theorem few15_any (u : Value) (l : List Rc) (n : Int) (w : World) (hx : Rw w 5 u (recs l)) (hl : ∀ x ∈ l, RcR w x) :
    Calls Try.prog 10 #[u, .int .i64 n] w fun e w' => e = .returned (.bool (fewR l && decide ((l.length : Int) ≤ n))) ∧ Below w.heap.size w w' := by
  obtain ⟨A, m, c, rfl, hn, hnc, hc⟩ := hx.form
  rw [recs_len] at hn
  obtain rfl : m = l.length := by omega
  clear hn
  obtain ⟨G, hG⟩ : ∃ G, Hid (fewR l = G) := ⟨_, Lib.hid rfl⟩
  rw [hG.out]
  have hst0 := Lib.hid (show fewR (l.drop 0) = G from hG.out)
  obtain ⟨B, hB⟩ : ∃ B, Hid (B = decide ((l.length : Int) ≤ n)) := ⟨_, Lib.hid rfl⟩
  rw [← hB.out]
  clear hG
  go_enter Try.func10, Try.ntmps10
  go_wp2_with fail
  go_loopw [5] (fun i wr => ∃ k : Nat, k ≤ l.length ∧ i = .int .i64 (k : Int) ∧ wr = w ∧ Hid (fewR (l.drop k) = G)) (fun i _ => l.length - (intOf i).toNat)
  case atStart => exact ⟨0, by omega, by go_num, rfl, hst0⟩
  case round =>
    clear hst0
    obtain ⟨k, hk, rfl, rfl, hg⟩ := hrel
    by_cases hlt : k < l.length
    · obtain ⟨b, off, hA, hcr⟩ := hx.cells (by omega)
      cases hA
      obtain ⟨-, -, -, p3, p4⟩ := recs_get l k hlt
      replace p3 := hcr _ _ p3
      replace p4 := hcr _ _ p4
      rw [← Nat.add_assoc] at p3 p4
      clear hcr
      have hst := fewR_step l k hlt
      rw [hg.out] at hst
      have hxk := hl l[k] (List.getElem_mem hlt)
      generalize l[k] = x at *
      obtain ⟨⟨x0, x1⟩, x2, dv, bv, D, Bt⟩ := x
      obtain ⟨d1, d2, d3, hdv, hd4, _⟩ := hxk.d.form
      obtain ⟨b1, b2, b3, hbv, hb4, _⟩ := hxk.b.form
      simp only at hdv hbv p3 p4 hst hd4 hb4
      subst hdv hbv
      rw [idl_len] at hd4
      rw [cml_len] at hb4
      obtain rfl : d2 = D.length := by omega
      obtain rfl : b2 = Bt.length := by omega
      have pl := World.block_lt_of_cell? _ _ p3
      clear hxk hl hx
      by_cases h1 : D.length ≤ 20
      · have h1' : ¬ (20 : Int) < (D.length : Int) := by omega
        have h1b : decide ((20 : Int) < (D.length : Int)) = false := by simpa using h1'
        by_cases h2 : Bt.length ≤ 20
        · rw [decide_eq_true h1, decide_eq_true h2, Bool.true_and, Bool.true_and] at hst
          have h2' : ¬ (20 : Int) < (Bt.length : Int) := by omega
          replace hst := Lib.hid hst
          go_wp2_with fail
          go_roundw
          case rel => exact ⟨k + 1, by omega, by go_num, trivial, Lib.hid hst.out.symm⟩
          case measure => simp [intOf]; omega
        · rw [decide_eq_false h2, Bool.and_false, Bool.false_and] at hst
          have h2' : (20 : Int) < (Bt.length : Int) := by omega
          subst hst
          go_wp2_with fail
          go_ret
          exact ⟨rfl, Below.refl _ _⟩
      · rw [decide_eq_false h1, Bool.false_and, Bool.false_and] at hst
        have h1' : (20 : Int) < (D.length : Int) := by omega
        subst hst
        go_wp2_with fail
        go_ret
        exact ⟨rfl, Below.refl _ _⟩
    · obtain rfl : k = l.length := by omega
      have hG0 : G = true := by rw [← hg.out, List.drop_length]; rfl
      subst hG0
      go_wp2_with fail
      go_ret
      exact ⟨by rw [hB.out]; rfl, Below.refl _ _⟩
/-- A list that rises and has one id alone. -/
theorem rises_one {R : List Id} {a : Id} (hr : Rises R) (h : ∀ b, b ∈ R ↔ b = a) : R = [a] := rises_eq hr (List.pairwise_singleton _ _) (fun b => by rw [h]; simp)
theorem gErr_zero : ∀ (l : List Rp) (seen : List Id), gErr seen l = 0 → ∀ x ∈ l, recErr x = 0
  | [], _, _, x, hx => by simp at hx
  | y :: r, seen, h, x, hx => by
    unfold gErr at h
    by_cases h1 : recErr y = 0
    · rw [if_neg (by simpa using h1)] at h
      by_cases h2 : y.1 ∈ seen
      · rw [if_pos h2] at h; omega
      · rw [if_neg h2] at h
        rcases List.mem_cons.1 hx with rfl | hx
        · exact h1
        · exact gErr_zero r _ h x hx
    · rw [if_pos (by simpa using h1)] at h
      exact absurd h h1
theorem edgesOf_take (l : List Rc) (k : Nat) (h : k < l.length) : edgesOf (l.take (k + 1)) = edgesOf (l.take k) + l[k].2.2.2.2.1.length := by
  rw [List.take_add_one, List.getElem?_eq_getElem h]
  exact edgesOf_snoc _ _
end Go.Proofs.Ytelmhcbdpimaaaa
