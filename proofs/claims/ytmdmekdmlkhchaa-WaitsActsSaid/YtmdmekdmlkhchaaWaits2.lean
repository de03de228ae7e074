/- Who waits, and who is waited for, in order. -/
import Derived.Test.YtmdmekdmlkhchaaWaits
set_option linter.unusedVariables false
set_option linter.unusedSimpArgs false
namespace Go.Proofs.Ytmdmekdmlkhchaa
open Go.RowKit Go.Cw
attribute [local go_sem ↓] eql_id neq_id
theorem onC_kv (a : Id) : onC.kv a = .agg #[.int .i64 a.1, .int .i64 a.2] := rfl
theorem onC_vv (a : Id) : onC.vv a = .agg #[.int .i64 a.1, .int .i64 a.2] := rfl
attribute [local go_sem ↓] onC_kv onC_vv
theorem rg_left2 {H : Hp} {fr : List HA} {w : World} {g r : Nat} {L left : List (Id × Id)} (h : St H (Rg onC g r L left :: fr) w) : w.rangeLeft g r = left.length := h.get (fun S hS => by
  obtain ⟨⟨hne, es, clock, since, seen, c0, h1, h2, h3, h4, h5, h6, h7, h8⟩, hS⟩ := hS
  have := congrArg List.length h8
  simp only [List.length_map] at this
  simp only [World.rangeLeft, h1, h4]
  simpa using this)
set_option maxRecDepth 100000 in
set_option maxHeartbeats 1600000 in
theorem waParked (p : Nat) (on : List (Id × Id)) (who : List (Id × Value × List Id)) (H : Hp) (fr : List HA) (w : World) (h : St H (WaA p on who :: fr) w) (hL : on.length * 32 ≤ 140737488355328) :
    Calls Try.prog 67 #[waP p] w fun e w' => ∃ v R, e = .returned v ∧ St H (Row 42 2 v (idl R) :: WaA p on who :: fr) w' ∧ Env w w' ∧ Rises R ∧ ∀ a, a ∈ R ↔ a ∈ on.map (·.1) := by
  obtain ⟨g1, g2, h1⟩ := waOpen h
  have hnd := h1.swap.mp_nodup
  have hc : w.cell? ⟨p, 0, none⟩ = some (.map (some g1)) := h1.blk_cell 0
  have hl := h1.blk_lt
  go_enter Try.func67, Try.ntmps67
  go_wp2_with (at_range; refine wpList_mrange h1.swap rfl (.tmp 10) rfl Try.underlying154 rfl ?_; intro w2 h2 en2)
  go_frame
  have h3 := (h2.row_nil 42 2)
  generalize w.heap.size = r at *
  go_loopw [3] (fun lv wr => ∃ (out : List Id) (left : List (Id × Id)), St H (Row 42 2 lv (idl out) :: Rg onC g1 r on left :: Blk p #[.map (some g1), .map (some g2)] 157 :: Mp whoC g2 (who.map fun x => (x.1, x.2.1)) :: Bag (fun x : Id × Value × List Id => Row 42 2 x.2.1 (idl x.2.2)) who :: fr) wr ∧ Env w wr ∧ Hid ((out ++ left.map (·.1)).Perm (on.map (·.1)))) (fun _ wr => wr.rangeLeft g1 r)
  case atStart => exact ⟨[], on, h3, en2, Lib.hid (List.Perm.refl _)⟩
  case round =>
    obtain ⟨out, left, hst, hen, HP⟩ := hrel
    go_wp2_with (at_next; refine wpList_mnext hst.swap rfl (.tmp 11) rfl rfl ?_ ?_)
    · intro hl0
      subst hl0
      have hperm : out.Perm (on.map (·.1)) := by simpa using HP.out
      have hno : out.Nodup := hperm.nodup_iff.2 hnd
      have hlo : out.length ≤ on.length := by rw [hperm.length_eq]; simp
      go_wp2_with fail
      refine (identSorted_nodup _ out _ (hst.row_rw (by omega)) hno (by omega)).mono ?_
      rintro e w6 he
      obtain ⟨v, rfl, h6, en6⟩ := ResE.lift hst he
      go_wp2_with fail
      go_ret
      have a2 := h6.swap.drop.swap.rg_end.swap
      have a3 := a2.perm (List.Perm.cons _ (List.Perm.swap _ _ _))
      have a4 := waShut (fr := Row 42 2 v (idl (idSort out)) :: fr) (a3.perm (List.perm_middle (l₁ := [_, _, _, _])).symm)
      refine ⟨v, idSort out, rfl, a4.swap, hen.trans en6, idSort_rises hno, fun a => ?_⟩
      rw [show (a ∈ idSort out ↔ a ∈ out) from (List.mergeSort_perm out _).mem_iff, hperm.mem_iff]
    · intro pre post xa xb ya yb w5 hleft h5 en5 hent
      have hent : (Instr.entry (.pointer (some ⟨r, 0, none⟩))).run Try.prog w5 = .ok (.tuple #[.agg #[.int .i64 xa, .int .i64 xb], .agg #[.int .i64 ya, .int .i64 yb]]) w5 := hent
      have h8 := h5.swap
      have hms := Lib.hid (rg_left2 hst.swap)
      have HN : Hid (((out ++ [(xa, xb)]) ++ (pre ++ post).map (·.1)).Perm (on.map (·.1))) := Lib.hid (by
        refine List.Perm.trans ?_ HP.out
        rw [hleft, List.map_append, List.map_append, List.map_cons]
        simp only [List.append_assoc, List.singleton_append]
        exact List.Perm.append_left out (List.perm_middle).symm)
      have hol : out.length + 1 ≤ on.length := by
        have h1 := HN.out.length_eq
        simp only [List.length_append, List.length_map, List.length_cons, List.length_nil] at h1
        omega
      obtain ⟨H', hle, h9, hy⟩ := h8.box #[.int .i64 xa, .int .i64 xb] 42
      have en9 := (hen.trans en5).alloc (.cells #[.int .i64 xa, .int .i64 xb] 42)
      go_wp2_with (at_builtin; refine wpList_append rfl (.tmp 16) (.tmp 18) 47 47 rfl Try.underlying47 (.inl ⟨_, Try.underlying47⟩) (.agg #[.int .i64 0, .int .i64 0]) 16 info_id rfl (by decide) (by decide) rfl rfl (h9.alloc _) (News.newAt _ _ 1 _ _ (by simp) rfl (by simp [Value.oneCell'])) ?apB1 ?apK1)
      case apB1 => first | omega | (simp; omega) | (simp [idl_len]; omega) | skip
      intro v' w10 h10 en10
      go_wp2_with fail
      go_roundw
      case rel => exact ⟨out ++ [(xa, xb)], pre ++ post, by simpa [idl, idc] using h10.weaken hle, (en9.alloc _).trans en10, HN⟩
      case measure => rw [rg_left2 h10.swap, hms.out, hleft]; simp
end Go.Proofs.Ytmdmekdmlkhchaa
