/- Records that are kept: Kept; what is taken out of a map under a range. -/
import Derived.Test.YtelmhcbdpimaaaaVert5
set_option linter.unusedVariables false
set_option linter.unusedSimpArgs false
namespace Go.Proofs.Ytelmhcbdpimaaaa
open Go.RowKit Go.Cw Go.Fl
attribute [local go_sem ↓] eql_id neq_id
theorem filter_erase {α : Type} (p : α → Bool) (l : List α) (j : Nat) (x : α) (h : l[j]? = some x) (hp : p x = false) : (l.eraseIdx j).filter p = l.filter p := by
  induction l generalizing j with
  | nil => simp
  | cons y r ih =>
    cases j with
    | zero =>
      simp only [List.getElem?_cons_zero, Option.some.injEq] at h
      subst h
      rw [List.eraseIdx_cons_zero, List.filter_cons, if_neg (by simp [hp])]
    | succ j =>
      rw [List.getElem?_cons_succ] at h
      rw [List.eraseIdx_cons_succ, List.filter_cons, List.filter_cons, ih j h]
theorem mem_erase {α : Type} {l : List α} {j : Nat} {x : α} (h : x ∈ l.eraseIdx j) : x ∈ l := (List.eraseIdx_sublist l j).subset h
section
open Go.MapKept
open Go.ChangeMaps (setBlock)
/-- What came already is taken out of a map under a range. -/
theorem St.rg_del {P : Program} {k e t : TypeId} {κ ν : Type} [DecidableEq κ] {C : Go.Cw.Code P k κ ν} {g r : Nat} {l left : List (κ × ν)} {H : Hp} {fr : List HA} {w : World} {ty : TypeId}
    (h : St H (Rg C g r l left :: fr) w) (ht : P.underlying t = some (.map k e)) (a : κ) (ha : a ∉ left.map (·.1)) :
    ∃ w', (Builtin.delete_ #[t, k] ty #[.map (some g), C.kv a]).run P w = .ok (.tuple #[]) w' ∧ St H (Rg C g r (mdel a l) left :: fr) w' ∧ Env w w' := by
  obtain ⟨hne, es, clock, since, seen, c0, hb, hst, he, hr, hold, hsc, hsk, hleft⟩ := h.get (φ := g ≠ r ∧ ∃ es clock since seen c0, w.heap[g]? = some (.map es clock) ∧ Stamped es clock ∧ es.toList.map ent = l.map C.enc ∧ w.heap[r]? = some (.mapIter (some g) since seen c0) ∧
    (∀ x ∈ es.toList, x.born < since) ∧ since ≤ c0 ∧ since ≤ clock ∧ (leftOf es seen).toList.map ent = left.map C.enc) (fun S hS => hS.1)
  have key : ∀ es' : Array MapEntry, Stamped es' clock → es'.toList.map ent = (mdel a l).map C.enc → (∀ x ∈ es'.toList, x ∈ es.toList) → (leftOf es' seen).toList = (leftOf es seen).toList → St H (Rg C g r (mdel a l) left :: fr) (setBlock w g (.map es' clock)) := by
    intro es' h1 h2 h3 h4
    refine h.turn (by simp [setBlock]) (fun S hS => ⟨S, ⟨⟨hne, es', clock, since, seen, c0, Go.ChangeMaps.heap_setBlock_same hb _, h1, h2, ?_, fun x hx => hold x (h3 x hx), hsc, hsk, by rw [h4]; exact hleft⟩, hS.2⟩, fun j hj => .inl hj, fun j _ hj => ?_⟩)
    · exact (Go.ChangeMaps.heap_setBlock_other hb _ (Ne.symm hne)).trans hr
    · exact Go.ChangeMaps.heap_setBlock_other hb _ (fun e => hj ((hS.2 j).2 (.inl e)))
  rcases C.kinds.find w ⟨a, rfl⟩ es.toList (keys_of he) with ⟨h1, h2⟩ | ⟨j, e0, h1, h2, h3⟩
  · refine ⟨setBlock w g (.map es clock), ?_, key es hst ?_ (fun _ hx => hx) rfl, env_setBlock _ _ _⟩
    · simp [Builtin.delete_, run_underlying ht, MapKept.run_getObj_map hb, C.kinds.check w _ ⟨a, rfl⟩, h1, MapKept.run_setObj_map _ hb, Result.andThen, setBlock]
    · have hn := none_of he h2
      have hfs : mdel a l = l := List.filter_eq_self.2 (fun q hq => decide_eq_true (fun (e' : q.1 = a) => hn (e' ▸ (List.mem_map.2 ⟨q, hq, rfl⟩ : q.1 ∈ l.map (·.1)))))
      rw [hfs, he]
  · obtain ⟨y, hx, hv⟩ := some_of he h2 h3
    have hjl : j < es.toList.length := (List.getElem?_eq_some_iff.1 h2).1
    have hjs : j < es.size := by simpa using hjl
    have hsub : (es.eraseIdxIfInBounds j).toList = es.toList.eraseIdx j := by
      unfold Array.eraseIdxIfInBounds
      rw [dif_pos hjs]
      simp
    refine ⟨setBlock w g (.map (es.eraseIdxIfInBounds j) clock), ?_, key _ (stamped_erase hst j) ?_ (fun x hx => by rw [hsub] at hx; exact mem_erase hx) ?_, env_setBlock _ _ _⟩
    · simp [Builtin.delete_, run_underlying ht, MapKept.run_getObj_map hb, C.kinds.check w _ ⟨a, rfl⟩, h1, MapKept.run_setObj_map _ hb, Result.andThen, setBlock]
    · rw [hsub, filter_del (nodup_of hst he) hx, Go.ChangeMaps.map_eraseIdx, Go.ChangeMaps.map_eraseIdx, he]
    · unfold leftOf at hleft ⊢
      rw [Array.toList_filter] at hleft
      rw [Array.toList_filter, Array.toList_filter, hsub]
      refine filter_erase _ _ _ _ h2 ?_
      cases hc : (!seen.contains e0.born) with
      | false => rfl
      | true =>
        exfalso
        have hm : ent e0 ∈ left.map C.enc := hleft ▸ List.mem_map.2 ⟨e0, List.mem_filter.2 ⟨List.mem_of_getElem? h2, hc⟩, rfl⟩
        obtain ⟨q, hq, hqe⟩ := List.mem_map.1 hm
        exact ha (List.mem_map.2 ⟨q, hq, C.inj _ _ ((congrArg Prod.fst hqe).trans h3)⟩)
end
theorem entsK_split {L : List Kp} {pre post : List (Id × Kp)} {p : Id × Kp} (h : entsK L = pre ++ p :: post) : ∃ A x B, L = A ++ x :: B ∧ p = (x.1.1, x) ∧ pre = entsK A ∧ post = entsK B := by
  unfold entsK at h
  obtain ⟨A, q, rfl, hA, hq⟩ := List.map_eq_append_iff.1 h
  obtain ⟨x, B, rfl, hx, hB⟩ := List.map_eq_cons_iff.1 hq
  exact ⟨A, x, B, rfl, hx.symm, hA.symm, hB.symm⟩
/-- What came out of a range, and what is left. -/
def Came (left pre post : List Kp) (x : Id) (v : Value) : Prop := ∃ y : Kp, y.1.1 = x ∧ kpV y = v ∧ left = pre ++ y :: post
theorem wpList_knext {H : Hp} {fr : List HA} {w : World} {g r : Nat} {L left : List Kp} {ops : Array Oper} {rest : List Oper} {o : Oper} {a : Act} {Q : Exit → Act → World → Prop}
    (hst : St H (Rg kpC g r (entsK L) (entsK left) :: fr) w) (hg : o.guard = none) (it : Operand) (hop : o.op = Op.next it false) (hit : a.eval it = .pointer (some ⟨r, 0, none⟩))
    (hDone : left = [] → wpList Try.prog ops Q rest (a.put o.dst (.tuple #[.bool false])) w)
    (hMore : ∀ (pre post : List Kp) (x : Id) (v : Value) (w' : World), Came left pre post x v → St H (Rg kpC g r (entsK L) (entsK (pre ++ post)) :: fr) w' → Env w w' → (Instr.entry (.pointer (some ⟨r, 0, none⟩))).run Try.prog w' = .ok (.tuple #[idV x, v]) w' →
      wpList Try.prog ops Q rest (a.put o.dst (.tuple #[.bool true, idV x, v])) w') : wpList Try.prog ops Q (o :: rest) a w := by
  refine wpList_mnext hst hg it hop hit (fun h => hDone (by cases left with | nil => rfl | cons x l => simp [entsK] at h)) ?_
  intro pre post p w' hl h' en hen
  obtain ⟨A, x, B, rfl, rfl, rfl, rfl⟩ := entsK_split hl
  refine hMore A B x.1.1 (kpV x) w' ⟨x, rfl, rfl, rfl⟩ ?_ en hen
  unfold entsK at *
  rw [List.map_append]
  exact h'
theorem rgk_left {H : Hp} {fr : List HA} {w : World} {g r : Nat} {L left : List Kp} (h : St H (Rg kpC g r (entsK L) (entsK left) :: fr) w) : w.rangeLeft g r = left.length := h.get (fun S hS => by
  obtain ⟨⟨hne, es, clock, since, seen, c0, h1, h2, h3, h4, h5, h6, h7, h8⟩, hS⟩ := hS
  have := congrArg List.length h8
  simp only [List.length_map, entsK_len] at this
  simp only [World.rangeLeft, h1, h4]
  simpa using this)
set_option maxRecDepth 100000 in
set_option maxHeartbeats 3200000 in
theorem vsKept_any (p : Nat) (room : Int) (K : List Kp) (M : List Id) (low : List Nat) (H : Hp) (fr : List HA) (w : World) (h : St H (VsA p room K M low :: fr) w) (hKl : K.length ≤ 1000000) :
    Calls Try.prog 43 #[vsP p] w fun e w' => ∃ v, e = .returned v ∧ St H (Row 28 2 v (idl (sortL (kids K))) :: VsA p room K M low :: fr) w' ∧ Env w w' := by
  have hnd := vs_nodup h
  obtain ⟨g, f, h1⟩ := vsOpen h
  have hc : w.cell? ⟨p, 1, none⟩ = some (.map (some g)) := h1.blk_cell 1
  have hl := h1.blk_lt
  go_enter Try.func43, Try.ntmps43
  go_wp2_with (at_range; refine wpList_mrange h1.swap rfl (.tmp 10) rfl Try.underlying116 rfl ?_; intro w2 h2 en2)
  go_frame
  have h3 := (h2.row_nil 28 2)
  generalize w.heap.size = r at *
  go_loopw [3] (fun lv wr => ∃ (out : List Id) (left : List Kp), St H (Row 28 2 lv (idl out) :: Rg kpC g r (entsK K) (entsK left) :: Blk p (vsC room g f low) 120 :: FrI f M :: fr) wr ∧ Env w wr ∧ Hid ((out ++ kids left).Perm (kids K))) (fun _ wr => wr.rangeLeft g r)
  case atStart => exact ⟨[], K, h3, en2, Lib.hid (List.Perm.refl _)⟩
  case round =>
    clear h h1 h2 h3 hc hl en2
    obtain ⟨out, left, hst, hen, HP⟩ := hrel
    go_wp2_with (at_next; refine wpList_knext hst.swap rfl (.tmp 11) rfl rfl ?_ ?_)
    · intro hl0
      subst hl0
      have hperm : out.Perm (kids K) := by simpa [kids] using HP.out
      have hno : out.Nodup := hperm.nodup_iff.2 hnd
      have hlo : out.length ≤ K.length := by rw [hperm.length_eq]; simp [kids]
      go_wp2_with fail
      refine (identSorted_nodup _ out _ (hst.row_rw (by omega)) hno (by omega)).mono ?_
      rintro e w6 he
      obtain ⟨v, rfl, h6, en6⟩ := ResE.lift hst he
      have hso : idSort out = sortL (kids K) := rises_eq (idSort_rises hno) (sortL_rises _) (fun a => by
        rw [show (a ∈ idSort out ↔ a ∈ out) from (List.mergeSort_perm out _).mem_iff, hperm.mem_iff, sortL_mem])
      rw [hso] at h6
      have a1 : St H (Row 28 2 v (idl (sortL (kids K))) :: Rg kpC g r (entsK K) (entsK []) :: Blk p (vsC room g f low) 120 :: FrI f M :: fr) w6 := h6.swap.drop
      have a2 := a1.swap.rg_end
      have a3 : St H (Blk p (vsC room g f low) 120 :: Mp kpC g (entsK K) :: FrI f M :: Row 28 2 v (idl (sortL (kids K))) :: fr) w6 := (a2.pick 2 (by simp)).perm (by
        refine List.Perm.cons _ (List.Perm.cons _ ?_)
        exact List.Perm.swap _ _ _)
      have hz := Lib.hid (And.intro (vsShut a3).swap (hen.trans en6))
      go_wp2_with fail
      go_ret
      exact ⟨v, rfl, hz.out.1, hz.out.2⟩
    · intro pre post xa xb vv w5 hlf h5 en5 hent
      obtain ⟨y, hyx, hyv, hleft⟩ := hlf
      clear hyv
      have hent : (Instr.entry (.pointer (some ⟨r, 0, none⟩))).run Try.prog w5 = .ok (.tuple #[.agg #[.int .i64 xa, .int .i64 xb], vv]) w5 := hent
      obtain ⟨H', hle, h6, hy⟩ := h5.box #[.int .i64 xa, .int .i64 xb] 28
      have x0 := h6.cell (hy 0 _ rfl)
      have x1 := h6.cell (hy 1 _ rfl)
      have xl := World.block_lt_of_cell? _ _ x0
      have en6 := (hen.trans en5).alloc (.cells #[.int .i64 xa, .int .i64 xb] 28)
      have hms := Lib.hid (rgk_left hst.swap)
      have HN : Hid (((out ++ [(xa, xb)]) ++ kids (pre ++ post)).Perm (kids K)) := Lib.hid (by
        refine List.Perm.trans ?_ HP.out
        rw [hleft]
        simp only [kids, List.map_append, List.map_cons, List.append_assoc, List.singleton_append, hyx]
        refine List.Perm.append_left out ?_
        exact (List.perm_middle).symm)
      have hol : (out ++ [(xa, xb)]).length ≤ K.length := by
        have h1 := HN.out.length_eq
        rw [List.length_append] at h1
        simp only [kids, List.length_map] at h1
        omega
      rw [List.length_append] at hol
      replace hleft := Lib.hid hleft
      clear hy HP hyx
      have h8 := h6.swap
      have e1 : (w5.alloc (.cells #[.int .i64 xa, .int .i64 xb] 28)).heap.size = w5.heap.size + 1 := by simp
      go_wp2_with (at_builtin; refine wpList_append rfl (.tmp 16) (.tmp 18) 29 29 rfl Try.underlying29 (.inl ⟨_, Try.underlying29⟩) (.agg #[.int .i64 0, .int .i64 0]) 16 info_id rfl (by decide) (by decide) rfl rfl (h8.alloc _) (news_at _ _ 1 #[.int .i64 xa, .int .i64 xb] rfl (by simp [Value.oneCell']) e1) ?apB1 ?apK1)
      try case apB1 => first | omega | (simp; omega) | (simp [idl_len]; omega) | skip
      intro v' w9 h9 en9
      go_wp2_with fail
      go_roundw
      case rel => exact ⟨out ++ [(xa, xb)], pre ++ post, by simpa [idl, idc] using h9.weaken hle, (en6.alloc _).trans en9, HN⟩
      case measure => rw [rgk_left h9.swap, hms.out, hleft.out]; simp
end Go.Proofs.Ytelmhcbdpimaaaa
