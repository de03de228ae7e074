/- Graphs: the reference's Ids, Users, Missing. -/
import Derived.Test.YtelmhcbdpimaaaaEdges6
set_option linter.unusedVariables false
set_option linter.unusedSimpArgs false
namespace Go.Proofs.Ytelmhcbdpimaaaa
open Go.RowKit Go.Cw Go.Fl
attribute [local go_sem ↓] eql_id neq_id
theorem sortL_push (M : List Id) (x : Id) : sortL (M ++ [x]) = putL x (sortL M) := by unfold sortL; rw [List.foldl_append]; rfl
set_option maxRecDepth 100000 in
set_option maxHeartbeats 1600000 in
theorem refGrIds_any (u : Value) (l : List Rc) (w : World) (hx : Rw w 5 u (recs l)) (hlen : l.length ≤ 1000000) :
    Calls Try.prog 71 #[u] w (ResE (snap w) [] w (fun v => v) (fun v => [Row 28 2 v (idl (sortL (rids l)))])) := by
  obtain ⟨A, n, c, rfl, hn, hnc, hc⟩ := hx.form
  rw [recs_len] at hn
  obtain rfl : n = l.length := by omega
  clear hn
  have h1 := (St.start w).row_lit 28 2 0 #[] rfl (by decide)
  have en1 := (Env.refl w).alloc (.cells #[] 28)
  have hrd := hx.rd
  go_enter Try.func71, Try.ntmps71
  go_wp2_with fail
  go_loopw [3, 4] (fun lv i wr => ∃ k : Nat, k ≤ l.length ∧ i = .int .i64 k ∧ St (snap w) [Row 28 2 lv (idl (sortL (rids (l.take k))))] wr ∧ Env w wr) (fun _ i _ => l.length - (intOf i).toNat)
  case atStart => exact ⟨0, Nat.zero_le _, rfl, h1, en1⟩
  case round =>
    clear h1 en1
    obtain ⟨k, hk, rfl, hst, hen⟩ := hrel
    by_cases hlt : k < l.length
    · have htk : rids (l.take (k + 1)) = rids (l.take k) ++ [l[k].1] := by unfold rids; rw [List.take_add_one, List.getElem?_eq_getElem hlt, List.map_append]; rfl
      have hsl : (sortL (rids (l.take k))).length ≤ k := by
        have := sortL_len (rids (l.take k))
        have h2 : (rids (l.take k)).length ≤ k := by rw [List.length_map, List.length_take]; omega
        omega
      obtain ⟨b, off, hA, hcr⟩ := (hrd.rw hst).cells (by omega)
      cases hA
      obtain ⟨p0, p1, -, -, -⟩ := recs_get l k hlt
      replace p0 := hcr _ _ p0
      replace p1 := hcr _ _ p1
      rw [← Nat.add_assoc] at p1
      clear hcr
      have pl := World.block_lt_of_cell? _ _ p0
      generalize l[k].1 = x at *
      obtain ⟨x0, x1⟩ := x
      have HN : Hid (putL (x0, x1) (sortL (rids (l.take k))) = sortL (rids (l.take (k + 1)))) := Lib.hid (by rw [htk, sortL_push])
      clear htk
      go_wp2_with fail
      refine (put_own _ _ (x0, x1) _ _ _ hst (by omega)).mono ?_
      rintro e w3 ⟨v', rfl, h3, en3⟩
      rw [HN.out] at h3
      go_wp2_with fail
      go_roundw
      case rel => exact ⟨k + 1, by omega, by go_num, h3, hen.trans en3⟩
      case measure => simp [intOf]; omega
    · obtain rfl : k = l.length := by omega
      rw [List.take_length] at hst
      go_wp2_with fail
      go_ret
      exact ⟨_, rfl, hst, hen⟩
/-- Who depends on one. -/
def usr (a : Id) (l : List Rc) : List Id := (l.filter (fun x => decide (a ∈ x.2.2.2.2.1))).map (·.1)
theorem usr_step (a : Id) (l : List Rc) (k : Nat) (h : k < l.length) : usr a (l.take (k + 1)) = if a ∈ l[k].2.2.2.2.1 then usr a (l.take k) ++ [l[k].1] else usr a (l.take k) := by
  unfold usr
  rw [List.take_add_one, List.getElem?_eq_getElem h, List.filter_append, List.map_append]
  by_cases hm : a ∈ l[k].2.2.2.2.1 <;> simp [hm]
theorem usr_len (a : Id) (l : List Rc) : (usr a l).length ≤ l.length := by
  unfold usr
  rw [List.length_map]
  exact List.length_filter_le ..
/-- What is missing. -/
def mis (K : List Id) (l : List Rc) : List Id := l.flatMap (fun x => x.2.2.2.2.1.filter (fun d => decide (d ∉ K)))
theorem mis_step (K : List Id) (l : List Rc) (k : Nat) (h : k < l.length) : mis K (l.take (k + 1)) = mis K (l.take k) ++ l[k].2.2.2.2.1.filter (fun d => decide (d ∉ K)) := by
  unfold mis
  rw [List.take_add_one, List.getElem?_eq_getElem h, List.flatMap_append]
  simp
theorem mis_len (K : List Id) (l : List Rc) (h : ∀ x ∈ l, x.2.2.2.2.1.length ≤ 16) : (mis K l).length ≤ 16 * l.length := flat_le _ l (fun x hx => Nat.le_trans (List.length_filter_le ..) (h x hx))
end Go.Proofs.Ytelmhcbdpimaaaa
