/- Who waits for whom: the contracts of the package over one list. -/
import Derived.Test.YtmdmekdmlkhchaaWaits6
import Derived.Test.YtmdmekdmlkhchaaIdsetLaw
set_option linter.unusedVariables false
set_option linter.unusedSimpArgs false
namespace Go.Proofs.Ytmdmekdmlkhchaa
open Go.RowKit Go.Cw
theorem mlook_mem {ν : Type} {a : Id} : ∀ {l : List (Id × ν)}, mlook a l = none → a ∉ l.map (·.1)
  | [], _ => by simp
  | x :: r, h => by
    rw [mlook] at h
    by_cases e : x.1 = a
    · rw [if_pos e] at h; cases h
    · rw [if_neg e] at h
      rw [List.map_cons, List.mem_cons, not_or]
      exact ⟨fun e' => e e'.symm, mlook_mem h⟩
theorem mlook_some {ν : Type} {a : Id} {v : ν} : ∀ {l : List (Id × ν)}, mlook a l = some v → (a, v) ∈ l
  | [], h => by simp [mlook] at h
  | x :: r, h => by
    rw [mlook] at h
    by_cases e : x.1 = a
    · rw [if_pos e] at h
      cases h
      subst e
      exact List.mem_cons_self ..
    · rw [if_neg e] at h
      exact List.mem_cons_of_mem _ (mlook_some h)
/-- May a wait for b? -/
def mayL (a b : Id) (on : List (Id × Id)) : Bool := !decide (a ∈ on.map (·.1)) && !decide (a = b)
def parkL (a b : Id) (on : List (Id × Id)) : List (Id × Id) := if mayL a b on then on ++ [(a, b)] else on
def onL (a : Id) (on : List (Id × Id)) : Id := (mlook a on).getD (0, 0)
theorem parkL_len (a b : Id) (on : List (Id × Id)) : (parkL a b on).length ≤ on.length + 1 := by
  unfold parkL
  split <;> simp
theorem wokenL_len (b : Id) (on : List (Id × Id)) : (wokenL b on).length ≤ on.length := by
  unfold wokenL
  rw [List.length_map]
  exact List.length_filter_le ..
theorem leftL_len (b : Id) (on : List (Id × Id)) : (leftL b on).length ≤ on.length := List.length_filter_le ..
theorem waIPark (p : Nat) (on : List (Id × Id)) (a b : Id) (H : Hp) (fr : List HA) (w : World) (h : St H (WaI p on :: fr) w) (hb : on.length * 16 + 16 ≤ 140737488355328) :
    Calls Try.prog 63 #[waP p, idV a, idV b] w (Res H fr w (.bool (mayL a b on)) [WaI p (parkL a b on)]) := by
  obtain ⟨WL, hw, h1⟩ := waI_open h
  by_cases hab : a = b
  · have hm : mayL a b on = false := by unfold mayL; rw [decide_eq_true hab]; simp
    have hp : parkL a b on = on := by unfold parkL; rw [hm]; rfl
    refine (waPark_self p on WL a b hab w).mono ?_
    rintro e w' ⟨rfl, hb'⟩
    rw [hm, hp]
    exact ⟨rfl, h.below hb', bel_env hb'⟩
  cases hl : mlook a on with
  | some c =>
    have hin : a ∈ on.map (·.1) := List.mem_map.2 ⟨_, mlook_some hl, rfl⟩
    have hm : mayL a b on = false := by unfold mayL; rw [decide_eq_true hin]; rfl
    have hp : parkL a b on = on := by unfold parkL; rw [hm]; rfl
    refine (waPark_has p on WL a b c hab hl H fr w h1).mono ?_
    rintro e w' ⟨rfl, hb'⟩
    rw [hm, hp]
    exact ⟨rfl, h.below hb', bel_env hb'⟩
  | none =>
    have hno := mlook_mem hl
    have hm : mayL a b on = true := by unfold mayL; rw [decide_eq_false hno, decide_eq_false hab]; rfl
    have hp : parkL a b on = on ++ [(a, b)] := by unfold parkL; rw [hm]; rfl
    have hpo : mput a b on = on ++ [(a, b)] := mput_new on a b hno
    rw [hm, hp]
    obtain ⟨g1, g2, h2⟩ := waOpen h1
    have hnd := (h2.pick 2 (by simp)).mp_nodup
    by_cases hbW : b ∈ WL.map (·.1)
    · obtain ⟨⟨b', v, R⟩, hx, hbb⟩ := List.mem_map.1 hbW
      simp only at hbb
      subst hbb
      obtain ⟨pre, post, rfl⟩ := List.append_of_mem hx
      have hML : (pre ++ (b', v, R) :: post).map (fun x => (x.1, x.2.1)) = pre.map (fun x => (x.1, x.2.1)) ++ (b', v) :: post.map (fun x => (x.1, x.2.1)) := by simp
      have hnd2 : ((pre ++ (b', v, R) :: post).map (·.1)).Nodup := by simpa [List.map_map, Function.comp_def] using hnd
      rw [hML] at h2 hnd
      obtain ⟨hs1, hs2⟩ := split_apart hnd
      have hR : R = wokenL b' on := (hw.1 _ hx).1
      have h3 : St H (Row 42 2 v (idl R) :: Bag (fun x : Id × Value × List Id => Row 42 2 x.2.1 (idl x.2.2)) (pre ++ post) :: Blk p #[.map (some g1), .map (some g2)] 157 :: Mp onC g1 on :: Mp whoC g2 (pre.map (fun x => (x.1, x.2.1)) ++ (b', v) :: post.map (fun x => (x.1, x.2.1))) :: fr) w := (h2.pick 3 (by simp)).bag_take
      have h4 : St H (Blk p #[.map (some g1), .map (some g2)] 157 :: Mp onC g1 on :: Mp whoC g2 (pre.map (fun x => (x.1, x.2.1)) ++ (b', v) :: post.map (fun x => (x.1, x.2.1))) :: Row 42 2 v (idl R) :: Bag (fun x : Id × Value × List Id => Row 42 2 x.2.1 (idl x.2.2)) (pre ++ post) :: fr) w := h3.perm ((List.perm_append_comm (l₁ := [_, _]) (l₂ := [_, _, _])).append_right fr)
      refine (waPark_core p g1 g2 on _ v R a b' hab hl H _ w h4 (by rw [mlook_split _ _ _ _ hs1]; rfl) (by rw [hR]; have := wokenL_len b' on; omega)).mono ?_
      rintro e w' ⟨rfl, en, v', h5⟩
      rw [hpo, mens_in _ _ _ (by simp), mput_split _ _ _ _ _ hs1 hs2] at h5
      have h6 : St H (Row 42 2 v' (idl (R ++ [a])) :: Bag (fun x : Id × Value × List Id => Row 42 2 x.2.1 (idl x.2.2)) (pre ++ post) :: Blk p #[.map (some g1), .map (some g2)] 157 :: Mp onC g1 (on ++ [(a, b')]) :: Mp whoC g2 (pre.map (fun x => (x.1, x.2.1)) ++ (b', v') :: post.map (fun x => (x.1, x.2.1))) :: fr) w' := h5.perm ((List.perm_append_comm (l₁ := [_, _, _]) (l₂ := [_, _])).append_right fr)
      have h7 := St.bag_put (f := fun x : Id × Value × List Id => Row 42 2 x.2.1 (idl x.2.2)) (x := (b', v', R ++ [a])) h6
      have h8 := h7.perm (List.perm_middle (l₁ := [_, _, _])).symm
      have hML' : (pre ++ (b', v', R ++ [a]) :: post).map (fun x => (x.1, x.2.1)) = pre.map (fun x => (x.1, x.2.1)) ++ (b', v') :: post.map (fun x => (x.1, x.2.1)) := by simp
      have h9 := waShut (who := pre ++ (b', v', R ++ [a]) :: post) (by rw [hML']; exact h8)
      exact ⟨rfl, waI_shut (hw.park_in hnd2) h9, en⟩
    · have hb2 : b ∉ (WL.map (fun x => (x.1, x.2.1))).map (·.1) := by simpa [List.map_map, Function.comp_def] using hbW
      have h3 := h2.row_nil 42 2
      have h4 : St H (Blk p #[.map (some g1), .map (some g2)] 157 :: Mp onC g1 on :: Mp whoC g2 (WL.map (fun x => (x.1, x.2.1))) :: Row 42 2 (.slice none 0 0) (idl []) :: Bag (fun x : Id × Value × List Id => Row 42 2 x.2.1 (idl x.2.2)) WL :: fr) w := h3.perm (List.perm_middle (l₁ := [_, _, _])).symm
      refine (waPark_core p g1 g2 on _ _ [] a b hab hl H _ w h4 (by rw [lookup_none hb2]; rfl) (by simp)).mono ?_
      rintro e w' ⟨rfl, en, v', h5⟩
      rw [hpo, mens_new _ _ _ hb2, mput_split _ [] _ _ _ hb2 (by simp)] at h5
      have h6 : St H (Row 42 2 v' (idl ([] ++ [a])) :: Bag (fun x : Id × Value × List Id => Row 42 2 x.2.1 (idl x.2.2)) (WL ++ []) :: Blk p #[.map (some g1), .map (some g2)] 157 :: Mp onC g1 (on ++ [(a, b)]) :: Mp whoC g2 (WL.map (fun x => (x.1, x.2.1)) ++ [(b, v')]) :: fr) w' := by
        rw [List.append_nil]
        exact h5.perm ((List.perm_append_comm (l₁ := [_, _, _]) (l₂ := [_, _])).append_right fr)
      have h7 := St.bag_put (f := fun x : Id × Value × List Id => Row 42 2 x.2.1 (idl x.2.2)) (x := (b, v', [a])) h6
      have h8 := h7.perm (List.perm_middle (l₁ := [_, _, _])).symm
      have hML' : (WL ++ [(b, v', [a])]).map (fun x => (x.1, x.2.1)) = WL.map (fun x => (x.1, x.2.1)) ++ [(b, v')] := by simp
      have h9 := waShut (who := WL ++ [(b, v', [a])]) (by rw [hML']; exact h8)
      exact ⟨rfl, waI_shut (hw.park_new hbW) h9, en⟩
theorem waIWake (p : Nat) (on : List (Id × Id)) (b : Id) (H : Hp) (fr : List HA) (w : World) (h : St H (WaI p on :: fr) w) :
    Calls Try.prog 62 #[waP p, idV b] w fun e w' => ∃ v, e = .returned v ∧ St H (Row 42 2 v (idl (wokenL b on)) :: WaI p (leftL b on) :: fr) w' ∧ Env w w' := by
  have hndo := waI_nodup h
  obtain ⟨WL, hw, h1⟩ := waI_open h
  obtain ⟨g1, g2, h2⟩ := waOpen h1
  have hnd := (h2.pick 2 (by simp)).mp_nodup
  by_cases hbW : b ∈ WL.map (·.1)
  · obtain ⟨⟨b', v, R⟩, hx, hbb⟩ := List.mem_map.1 hbW
    simp only at hbb
    subst hbb
    obtain ⟨pre, post, rfl⟩ := List.append_of_mem hx
    have hML : (pre ++ (b', v, R) :: post).map (fun x => (x.1, x.2.1)) = pre.map (fun x => (x.1, x.2.1)) ++ (b', v) :: post.map (fun x => (x.1, x.2.1)) := by simp
    have hnd2 : ((pre ++ (b', v, R) :: post).map (·.1)).Nodup := by simpa [List.map_map, Function.comp_def] using hnd
    rw [hML] at h2 hnd
    obtain ⟨hs1, hs2⟩ := split_apart hnd
    have hR : R = wokenL b' on := (hw.1 _ hx).1
    have h3 : St H (Row 42 2 v (idl R) :: Bag (fun x : Id × Value × List Id => Row 42 2 x.2.1 (idl x.2.2)) (pre ++ post) :: Blk p #[.map (some g1), .map (some g2)] 157 :: Mp onC g1 on :: Mp whoC g2 (pre.map (fun x => (x.1, x.2.1)) ++ (b', v) :: post.map (fun x => (x.1, x.2.1))) :: fr) w := (h2.pick 3 (by simp)).bag_take
    have h4 : St H (Blk p #[.map (some g1), .map (some g2)] 157 :: Mp onC g1 on :: Mp whoC g2 (pre.map (fun x => (x.1, x.2.1)) ++ (b', v) :: post.map (fun x => (x.1, x.2.1))) :: Row 42 2 v (idl R) :: Bag (fun x : Id × Value × List Id => Row 42 2 x.2.1 (idl x.2.2)) (pre ++ post) :: fr) w := h3.perm ((List.perm_append_comm (l₁ := [_, _]) (l₂ := [_, _, _])).append_right fr)
    refine (waWake_core p g1 g2 on _ v R b' H _ w h4 (by rw [mlook_split _ _ _ _ hs1]; rfl)).mono ?_
    rintro e w' ⟨rfl, en, h5⟩
    rw [mdel_split _ _ _ _ hs1 hs2, hR, delsL_woken _ _ hndo] at h5
    have h6 : St H (Blk p #[.map (some g1), .map (some g2)] 157 :: Mp onC g1 (leftL b' on) :: Mp whoC g2 (pre.map (fun x => (x.1, x.2.1)) ++ post.map (fun x => (x.1, x.2.1))) :: Bag (fun x : Id × Value × List Id => Row 42 2 x.2.1 (idl x.2.2)) (pre ++ post) :: Row 42 2 v (idl (wokenL b' on)) :: fr) w' := h5.perm (List.Perm.cons _ (List.Perm.cons _ (List.Perm.cons _ (List.Perm.swap _ _ _))))
    have h7 := waShut (who := pre ++ post) (by rw [List.map_append]; exact h6)
    exact ⟨v, rfl, (waI_shut (hw.wake_in hnd2) h7).swap, en⟩
  · have hb2 : b ∉ (WL.map (fun x => (x.1, x.2.1))).map (·.1) := by simpa [List.map_map, Function.comp_def] using hbW
    have h3 := h2.row_nil 42 2
    have h4 : St H (Blk p #[.map (some g1), .map (some g2)] 157 :: Mp onC g1 on :: Mp whoC g2 (WL.map (fun x => (x.1, x.2.1))) :: Row 42 2 (.slice none 0 0) (idl []) :: Bag (fun x : Id × Value × List Id => Row 42 2 x.2.1 (idl x.2.2)) WL :: fr) w := h3.perm (List.perm_middle (l₁ := [_, _, _])).symm
    refine (waWake_core p g1 g2 on _ _ [] b H _ w h4 (by rw [lookup_none hb2]; rfl)).mono ?_
    rintro e w' ⟨rfl, en, h5⟩
    have hwk : wokenL b on = [] := hw.none hbW
    rw [mdel_none _ _ hb2, delsL_nil] at h5
    rw [hwk, leftL_none hwk]
    have h6 : St H (Blk p #[.map (some g1), .map (some g2)] 157 :: Mp onC g1 on :: Mp whoC g2 (WL.map (fun x => (x.1, x.2.1))) :: Bag (fun x : Id × Value × List Id => Row 42 2 x.2.1 (idl x.2.2)) WL :: Row 42 2 (.slice none 0 0) (idl []) :: fr) w' := h5.perm (List.Perm.cons _ (List.Perm.cons _ (List.Perm.cons _ (List.Perm.swap _ _ _))))
    exact ⟨_, rfl, (waI_shut hw (waShut h6)).swap, en⟩
theorem waIOn (p : Nat) (on : List (Id × Id)) (a : Id) (H : Hp) (fr : List HA) (w : World) (h : St H (WaI p on :: fr) w) :
    Calls Try.prog 64 #[waP p, idV a] w fun e w' => e = .returned (.tuple #[idV (onL a on), .bool (decide (a ∈ on.map (·.1)))]) ∧ Below w.heap.size w w' := by
  obtain ⟨WL, hw, h1⟩ := waI_open h
  cases hl : mlook a on with
  | some c =>
    have h2 : onL a on = c := by unfold onL; rw [hl]; rfl
    rw [h2, decide_eq_true (List.mem_map.2 ⟨_, mlook_some hl, rfl⟩ : a ∈ on.map (·.1))]
    exact waOn_some p on WL a c hl H fr w h1
  | none =>
    have h2 : onL a on = (0, 0) := by unfold onL; rw [hl]; rfl
    rw [h2, decide_eq_false (mlook_mem hl)]
    exact waOn_none p on WL a hl H fr w h1
theorem waILen (p : Nat) (on : List (Id × Id)) (H : Hp) (fr : List HA) (w : World) (h : St H (WaI p on :: fr) w) :
    Calls Try.prog 65 #[waP p] w fun e w' => e = .returned (.int .i64 on.length) ∧ w = w' := by
  obtain ⟨WL, hw, h1⟩ := waI_open h
  exact waLen p on WL H fr w h1
theorem waIMissing (p : Nat) (on : List (Id × Id)) (H : Hp) (fr : List HA) (w : World) (h : St H (WaI p on :: fr) w) (hL : on.length * 32 ≤ 140737488355328) :
    Calls Try.prog 66 #[waP p] w fun e w' => ∃ v, e = .returned v ∧ St H (Row 42 2 v (idl (sortL (on.map (·.2)))) :: WaI p on :: fr) w' ∧ Env w w' := by
  obtain ⟨WL, hw, h1⟩ := waI_open h
  obtain ⟨g1, g2, h2⟩ := waOpen h1
  have hnd : (WL.map (·.1)).Nodup := by
    have := (h2.pick 2 (by simp)).mp_nodup
    simpa [List.map_map, Function.comp_def] using this
  have hle : WL.length ≤ on.length := by
    have := sub_len (WL.map (·.1)) (on.map (·.2)) hnd (fun x hx => (hw.keys x).1 hx)
    simpa using this
  refine (waMissing p on WL H fr w h1 (by omega)).mono ?_
  rintro e w' ⟨v, R, rfl, h3, en, hr, hm⟩
  obtain rfl : R = sortL (on.map (·.2)) := rises_eq hr (sortL_rises _) (fun a => by rw [hm, sortL_mem, hw.keys])
  exact ⟨v, rfl, (waI_shut hw h3.swap).swap, en⟩
theorem waIParked (p : Nat) (on : List (Id × Id)) (H : Hp) (fr : List HA) (w : World) (h : St H (WaI p on :: fr) w) (hL : on.length * 32 ≤ 140737488355328) :
    Calls Try.prog 67 #[waP p] w fun e w' => ∃ v, e = .returned v ∧ St H (Row 42 2 v (idl (sortL (on.map (·.1)))) :: WaI p on :: fr) w' ∧ Env w w' := by
  obtain ⟨WL, hw, h1⟩ := waI_open h
  refine (waParked p on WL H fr w h1 hL).mono ?_
  rintro e w' ⟨v, R, rfl, h3, en, hr, hm⟩
  obtain rfl : R = sortL (on.map (·.1)) := rises_eq hr (sortL_rises _) (fun a => by rw [hm, sortL_mem])
  exact ⟨v, rfl, (waI_shut hw h3.swap).swap, en⟩
theorem waINew (w : World) : Calls Try.prog 61 #[] w (ResE (snap w) [] w (fun p => waP p) (fun p => [WaI p []])) := by
  refine (waNew w).mono ?_
  rintro e w' ⟨p, h1, h2, h3⟩
  exact ⟨p, h1, waI_shut ⟨fun x hx => by simp at hx, fun q hq => by simp at hq⟩ h2, h3⟩
end Go.Proofs.Ytmdmekdmlkhchaa
