/- Joined texts: Idset, Idset2, Bytes. -/
import Derived.Laws.BytesArg
import Derived.Laws.MakeOwn
import Derived.Laws.IdiomCopy
import Derived.Test.YtcbckeoalmjcoaaGreatCGR1
import Derived.Test.YtcbckeoalmjcoaaGreatCGR2
import Derived.Test.YtcbckeoalmjcoaaGreatCGR3
/- Sets of ids: contracts of the package idset. -/
set_option linter.unusedVariables false
set_option linter.unusedSimpArgs false
namespace Go.Proofs.YtcbckeoalmjcoaaGreat
open Go.RowKit Go.Cw
attribute [local go_sem ↓] eql_id neq_id

theorem equal_id (a b c d : Int) (w : World) : (Op.equal 41 (.agg #[.int .i64 a, .int .i64 b]) (.agg #[.int .i64 c, .int .i64 d])).run Tryz.prog w = .ok (idEq a b c d) w := by
  have h := eql_id a b c d w
  have h2 : (binOp .eql 41 (.agg #[.int .i64 a, .int .i64 b]) (.agg #[.int .i64 c, .int .i64 d])).run Tryz.prog w = ((Op.equal 41 (.agg #[.int .i64 a, .int .i64 b]) (.agg #[.int .i64 c, .int .i64 d])).run Tryz.prog w).andThen fun b w' => .ok (.bool b) w' := run_eql_struct ..
  rw [h2] at h
  cases hr : (Op.equal 41 (.agg #[.int .i64 a, .int .i64 b]) (.agg #[.int .i64 c, .int .i64 d])).run Tryz.prog w <;> rw [hr] at h <;> simp [Result.andThen] at h
  obtain ⟨rfl, rfl⟩ := h
  rfl
theorem asking_id (a : Id) (w : World) : ∀ (es : List MapEntry) (i : Nat), (∀ e ∈ es, ∃ b : Id, e.key = idV b) →
    ((Instr.findAsking 41 (idV a) es i).run Tryz.prog w = .ok none w ∧ ∀ e ∈ es, e.key ≠ idV a) ∨
    ∃ j e, (Instr.findAsking 41 (idV a) es i).run Tryz.prog w = .ok (some (i + j, e.val)) w ∧ es[j]? = some e ∧ e.key = idV a
  | [], i, _ => .inl ⟨rfl, fun _ h => by simp at h⟩
  | e :: es, i, h => by
    obtain ⟨b, hb⟩ := h e (List.mem_cons_self ..)
    have hq := equal_id a.1 a.2 b.1 b.2 w
    by_cases hab : a = b
    · subst hab
      refine .inr ⟨0, e, ?_, rfl, hb⟩
      rw [(idEq_iff (a := a) (b := a)).2 rfl] at hq
      simp [Instr.findAsking, hb, idV, hq, Result.andThen]
    · have hne : idEq a.1 a.2 b.1 b.2 = false := by
        cases hh : idEq a.1 a.2 b.1 b.2 with
        | false => rfl
        | true => exact absurd (idEq_iff.1 hh) hab
      rw [hne] at hq
      have hk : e.key ≠ idV a := by
        rw [hb]
        intro he
        simp only [idV, Value.agg.injEq] at he
        have h1 := congrArg Array.toList he
        simp at h1
        exact hab (Prod.ext h1.1.symm h1.2.symm)
      have hstep : (Instr.findAsking 41 (idV a) (e :: es) i).run Tryz.prog w = (Instr.findAsking 41 (idV a) es (i + 1)).run Tryz.prog w := by
        simp [Instr.findAsking, hb, idV, hq, Result.andThen]
      rw [hstep]
      rcases asking_id a w es (i + 1) (fun x hx => h x (List.mem_cons_of_mem _ hx)) with ⟨h1, h2⟩ | ⟨j, x, h1, h2, h3⟩
      · exact .inl ⟨h1, fun x hx => by
          rcases List.mem_cons.1 hx with rfl | hx
          · exact hk
          · exact h2 x hx⟩
      · exact .inr ⟨j + 1, x, by rw [h1, show i + 1 + j = i + (j + 1) by omega], h2, h3⟩
set_option maxRecDepth 100000 in
theorem find_id (a : Id) (w : World) (es : List MapEntry) : (Instr.findKey 41 (idV a) es).run Tryz.prog w = (Instr.findAsking 41 (idV a) es 0).run Tryz.prog w := by
  have hS : Tryz.prog.underlying 41 = some (.struct (Tryz.prog.fieldsOf 41)) := by kernel_rfl
  cases es with
  | nil => simp [Instr.findKey, run_underlying hS, Instr.findNow, Instr.findAsking, Result.andThen]
  | cons e es =>
    have : Instr.sameNow (.struct (Tryz.prog.fieldsOf 41)) (idV a) e.key = none := by unfold Instr.sameNow; rfl
    simp [Instr.findKey, run_underlying hS, Instr.findNow, this, Result.andThen]
set_option maxRecDepth 100000 in
theorem kinds_id : Kinds Tryz.prog 41 (fun v => ∃ a : Id, v = idV a) where
  check := by
    rintro w em v ⟨a, rfl⟩
    kernel_rfl
  find := by
    rintro w x ⟨a, rfl⟩ es hes
    rw [find_id]
    rcases asking_id a w es 0 hes with h | ⟨j, e, h1, h2, h3⟩
    · exact .inl h
    · exact .inr ⟨j, e, by rw [h1, Nat.zero_add], h2, h3⟩
  stays := by
    rintro w v ⟨a, rfl⟩
    simp [Instr.keyThatStays, Instr.sameBits, idV]
/-- The codes of a map from ids to truths that are all true. -/
def setC : Go.Cw.Code Tryz.prog 41 Id Unit where
  kv := idV
  vv := fun _ => .bool true
  inj := by
    intro a b h
    simp only [idV, Value.agg.injEq] at h
    have h1 := congrArg Array.toList h
    simp at h1
    exact Prod.ext h1.1 h1.2
  kinds := kinds_id
/-- The entries of a set. -/
def ents (L : List Id) : List (Id × Unit) := L.map (fun a => (a, ()))
theorem ents_keys (L : List Id) : (ents L).map (·.1) = L := by unfold ents; rw [List.map_map]; exact List.map_id' L
theorem ents_len (L : List Id) : (ents L).length = L.length := by simp [ents]
theorem ents_look (L : List Id) (a : Id) : setC.at_ (.bool false) false (mlook a (ents L)) = .bool (decide (a ∈ L)) := by
  by_cases h : a ∈ L
  · have : ∀ (M : List Id), a ∈ M → mlook a (ents M) = some () := by
      intro M
      induction M with
      | nil => intro h; simp at h
      | cons b M ih =>
        intro h
        show (if b = a then some () else mlook a (ents M)) = some ()
        by_cases hb : b = a
        · rw [if_pos hb]
        · rw [if_neg hb]
          exact ih (by rcases List.mem_cons.1 h with e | e; exact absurd e.symm hb; exact e)
    rw [this L h, decide_eq_true h]
    rfl
  · rw [lookup_none (by rw [ents_keys]; exact h), decide_eq_false h]
    rfl
/-- A set with one more id. -/
def addL (a : Id) (L : List Id) : List Id := if a ∈ L then L else L ++ [a]
theorem ents_put (L : List Id) (a : Id) : mput a () (ents L) = ents (addL a L) := by
  unfold mput addL
  rw [ents_keys]
  split
  · unfold ents
    rw [List.map_map]
    refine List.map_congr_left (fun b _ => ?_)
    show (if b = a then (a, ()) else (b, ())) = (b, ())
    split
    · rename_i h; rw [h]
    · rfl
  · simp [ents]
/-- A set without an id. -/
def cutL (a : Id) (L : List Id) : List Id := L.filter (fun b => decide (b ≠ a))
theorem ents_del (L : List Id) (a : Id) : mdel a (ents L) = ents (cutL a L) := by
  unfold mdel cutL ents
  rw [List.filter_map]
  rfl
/-- A set at p. -/
def SetA (p : Nat) (L : List Id) : HA := Ex fun g => Star (Blk p #[.map (some g)] 96) (Mp setC g (ents L))
abbrev setP (p : Nat) : Value := .pointer (some ⟨p, 0, none⟩)
theorem setOpen {H : Hp} {fr : List HA} {w : World} {p : Nat} {L : List Id} (h : St H (SetA p L :: fr) w) : ∃ g, St H (Blk p #[.map (some g)] 96 :: Mp setC g (ents L) :: fr) w := by
  obtain ⟨g, hg⟩ := h.openEx
  exact ⟨g, hg.openStar⟩
theorem setShut {H : Hp} {fr : List HA} {w : World} {p g : Nat} {L : List Id} (h : St H (Blk p #[.map (some g)] 96 :: Mp setC g (ents L) :: fr) w) : St H (SetA p L :: fr) w := St.shutEx g h.shutStar
theorem set_nodup {H : Hp} {fr : List HA} {w : World} {p : Nat} {L : List Id} (h : St H (SetA p L :: fr) w) : L.Nodup := by
  obtain ⟨g, hg⟩ := setOpen h
  have := hg.swap.mp_nodup
  rwa [ents_keys] at this
theorem zero_bool (w : World) : (zeroValue 4).run Tryz.prog w = .ok (.bool false) w := by kernel_rfl
theorem boxBelow (w : World) (o : Obj) : Below w.heap.size w (w.alloc o) := (Below.refl _ _).alloc (Nat.le_refl _) _
set_option maxRecDepth 100000 in
set_option maxHeartbeats 800000 in
theorem has_any (p : Nat) (L : List Id) (a : Id) (H : Hp) (fr : List HA) (w : World) (h : St H (SetA p L :: fr) w) :
    Calls Tryz.prog 71 #[setP p, idV a] w fun e w' => e = .returned (.bool (decide (a ∈ L))) ∧ Below w.heap.size w w' := by
  obtain ⟨g, h1⟩ := setOpen h
  obtain ⟨H', hle, h2, hx⟩ := h1.box #[.int .i64 a.1, .int .i64 a.2] 41
  have hc : (w.alloc (.cells #[.int .i64 a.1, .int .i64 a.2] 41)).cell? ⟨p, 0, none⟩ = some (.map (some g)) := h2.blk_cell 0
  have hl := h2.blk_lt
  have hlk : ∀ n, (Instr.lookup 82 (.map (some g)) (.agg #[.int .i64 a.1, .int .i64 a.2]) false).run Tryz.prog ((w.alloc (.cells #[.int .i64 a.1, .int .i64 a.2] 41)).drewN n) = .ok (.bool (decide (a ∈ L))) ((w.alloc (.cells #[.int .i64 a.1, .int .i64 a.2] 41)).drewN n) := fun n => by
    have := (h2.drewN n).swap.mp_get false Tryz.underlying82 (zero_bool _) a
    rwa [ents_look] at this
  have x0 := h2.cell (hx 0 _ rfl)
  have x1 := h2.cell (hx 1 _ rfl)
  have xl := World.block_lt_of_cell? _ _ x0
  have hb := boxBelow w (.cells #[.int .i64 a.1, .int .i64 a.2] 41)
  clear hx
  obtain ⟨r, hr⟩ : ∃ r, r = decide (a ∈ L) := ⟨_, rfl⟩
  rw [← hr] at hlk ⊢
  go_enter Tryz.func71, Tryz.ntmps71
  go_wp2_with fail
  generalize (w.alloc (.cells #[.int .i64 a.1, .int .i64 a.2] 41)) = W at *
  go_quiet (fail)
  go_wp2_with fail
  go_ret
  exact ⟨congrArg (fun x => Ending.returned (Value.bool x)) (by rw [hr]), bel_drewN hb _⟩
set_option maxRecDepth 100000 in
theorem has_nil (a : Id) (w : World) : Calls Tryz.prog 71 #[.pointer none, idV a] w fun e w' => e = .returned (.bool false) ∧ Below w.heap.size w w' := by
  have hb := boxBelow w (.cells #[.int .i64 a.1, .int .i64 a.2] 41)
  go_enter Tryz.func71, Tryz.ntmps71
  go_wp2_with fail
  go_quiet (fail)
  go_wp2_with fail
  go_ret
  exact ⟨rfl, bel_drewN hb _⟩
set_option maxRecDepth 100000 in
set_option maxHeartbeats 800000 in
theorem add_nil (a : Id) (w : World) : Calls Tryz.prog 89 #[.pointer none, idV a] w fun e w' => e = .returned (.bool false) ∧ Below w.heap.size w w' := by
  have hb := boxBelow w (.cells #[.int .i64 a.1, .int .i64 a.2] 41)
  go_enter Tryz.func89, Tryz.ntmps89
  go_wp2_with fail
  go_quiet (fail)
  go_wp2_with fail
  go_ret
  exact ⟨rfl, bel_drewN hb _⟩
set_option maxRecDepth 100000 in
set_option maxHeartbeats 800000 in
theorem setAdd_any (p : Nat) (L : List Id) (a : Id) (H : Hp) (fr : List HA) (w : World) (h : St H (SetA p L :: fr) w) :
    Calls Tryz.prog 89 #[setP p, idV a] w (Res H fr w (.bool (!decide (a ∈ L))) [SetA p (addL a L)]) := by
  obtain ⟨g, h1⟩ := setOpen h
  obtain ⟨H', hle, h2, hx⟩ := h1.box #[.int .i64 a.1, .int .i64 a.2] 41
  have hc : (w.alloc (.cells #[.int .i64 a.1, .int .i64 a.2] 41)).cell? ⟨p, 0, none⟩ = some (.map (some g)) := h2.blk_cell 0
  have hl := h2.blk_lt
  have hlk : ∀ n, (Instr.lookup 82 (.map (some g)) (.agg #[.int .i64 a.1, .int .i64 a.2]) false).run Tryz.prog ((w.alloc (.cells #[.int .i64 a.1, .int .i64 a.2] 41)).drewN n) = .ok (.bool (decide (a ∈ L))) ((w.alloc (.cells #[.int .i64 a.1, .int .i64 a.2] 41)).drewN n) := fun n => by
    have := (h2.drewN n).swap.mp_get false Tryz.underlying82 (zero_bool _) a
    rwa [ents_look] at this
  have x0 := h2.cell (hx 0 _ rfl)
  have x1 := h2.cell (hx 1 _ rfl)
  have xl := World.block_lt_of_cell? _ _ x0
  have en : Env w (w.alloc (.cells #[.int .i64 a.1, .int .i64 a.2] 41)) := (Env.refl w).alloc _
  by_cases hm : a ∈ L
  · have hd : decide (a ∈ L) = true := decide_eq_true hm
    have hN : Hid (addL a L = L) := Lib.hid (if_pos hm)
    rw [hd] at hlk ⊢
    clear hm hx hd
    go_enter Tryz.func89, Tryz.ntmps89
    go_wp2_with fail
    generalize (w.alloc (.cells #[.int .i64 a.1, .int .i64 a.2] 41)) = W at *
    go_quiet (fail)
    go_wp2_with fail
    go_ret
    exact ⟨rfl, by rw [hN.out]; exact setShut ((h2.drewN _).weaken hle), en.drewN _⟩
  · have hd : decide (a ∈ L) = false := decide_eq_false hm
    have hN : Hid (addL a L = L ++ [a]) := Lib.hid (if_neg hm)
    have hP := Lib.hid (ents_put L a)
    rw [hd] at hlk ⊢
    have hx0 := hx 0 _ rfl
    have hx1 := hx 1 _ rfl
    clear hm hx hd
    go_enter Tryz.func89, Tryz.ntmps89
    go_wp2_with fail
    generalize (w.alloc (.cells #[.int .i64 a.1, .int .i64 a.2] 41)) = W at *
    go_quiet (fail)
    have h3 := h2.drewN nq
    have en3 := en.drewN nq
    clear hc hl x0 x1 xl hlk
    generalize W.drewN nq = W3 at *
    have hc : W3.cell? ⟨p, 0, none⟩ = some (.map (some g)) := h3.blk_cell 0
    have hl := h3.blk_lt
    have x0 := h3.cell hx0
    have x1 := h3.cell hx1
    have xl := World.block_lt_of_cell? _ _ x0
    go_wp2_with fail
    go_still_tail 5, (by kernel_rfl)
    change wpList _ _ _ _ _ W3.drew
    have h4 := h3.drew.swap
    go_wp2_with (at_mapUpdate; refine wpList_mput h4 rfl (.tmp 18) (.tmp 19) (.const (.bool true)) rfl Tryz.underlying82 rfl a rfl () rfl ?_; intro w5 h5 en5)
    rw [hP.out] at h5
    go_ret
    exact ⟨rfl, setShut (h5.swap.weaken hle), en3.drew.trans en5⟩
set_option maxRecDepth 100000 in
set_option maxHeartbeats 800000 in
theorem rem_nil (a : Id) (w : World) : Calls Tryz.prog 73 #[.pointer none, idV a] w fun e w' => e = .returned (.bool false) ∧ Below w.heap.size w w' := by
  obtain ⟨H', hle, h2, hx⟩ := (St.start w).box #[.int .i64 a.1, .int .i64 a.2] 41
  have x0 := h2.cell (hx 0 _ rfl)
  have x1 := h2.cell (hx 1 _ rfl)
  have xl := World.block_lt_of_cell? _ _ x0
  have en : Env w (w.alloc (.cells #[.int .i64 a.1, .int .i64 a.2] 41)) := (Env.refl w).alloc _
  go_enter Tryz.func73, Tryz.ntmps73
  go_wp2_with fail
  refine (has_nil a _).mono ?_
  rintro e w3 ⟨rfl, hb3⟩
  go_wp2_with fail
  go_ret
  exact ⟨rfl, ((h2.below hb3).weaken hle).toBelow (en.trans (bel_env hb3))⟩
set_option maxRecDepth 100000 in
set_option maxHeartbeats 800000 in
theorem setRem_any (p : Nat) (L : List Id) (a : Id) (H : Hp) (fr : List HA) (w : World) (h : St H (SetA p L :: fr) w) :
    Calls Tryz.prog 73 #[setP p, idV a] w (Res H fr w (.bool (decide (a ∈ L))) [SetA p (cutL a L)]) := by
  obtain ⟨H', hle, h2, hx⟩ := h.box #[.int .i64 a.1, .int .i64 a.2] 41
  have hx0 := hx 0 _ rfl
  have hx1 := hx 1 _ rfl
  have en : Env w (w.alloc (.cells #[.int .i64 a.1, .int .i64 a.2] 41)) := (Env.refl w).alloc _
  have x0 := h2.cell hx0
  have x1 := h2.cell hx1
  have xl := World.block_lt_of_cell? _ _ x0
  clear hx
  by_cases hm : a ∈ L
  · have hd : decide (a ∈ L) = true := decide_eq_true hm
    have hP := Lib.hid (ents_del L a)
    clear hm
    go_enter Tryz.func73, Tryz.ntmps73
    go_wp2_with fail
    generalize w.heap.size = gb at *
    generalize (w.alloc (.cells #[.int .i64 a.1, .int .i64 a.2] 41)) = W at *
    refine (has_any p L a _ _ _ h2).mono ?_
    rintro e w3 ⟨rfl, hb3⟩
    rw [hd]
    obtain ⟨g, h3⟩ := setOpen (h2.below hb3)
    have en3 := en.trans (bel_env hb3)
    clear x0 x1 xl
    have hc : w3.cell? ⟨p, 0, none⟩ = some (.map (some g)) := h3.blk_cell 0
    have hl := h3.blk_lt
    have x0 := h3.cell hx0
    have x1 := h3.cell hx1
    have xl := World.block_lt_of_cell? _ _ x0
    go_wp2_with fail
    go_still_tail 5, (by kernel_rfl)
    change wpList _ _ _ _ _ w3.drew
    have h4 := h3.drew.swap
    go_wp2_with (at_delete; refine wpList_mdel h4 rfl (.tmp 12) (.tmp 13) rfl Tryz.underlying82 rfl a rfl ?_; intro w5 h5 en5)
    rw [hP.out] at h5
    go_ret
    exact ⟨congrArg (fun x => Ending.returned (Value.bool x)) hd.symm, setShut (h5.swap.weaken hle), en3.drew.trans en5⟩
  · have hd : decide (a ∈ L) = false := decide_eq_false hm
    have hN : Hid (cutL a L = L) := Lib.hid (List.filter_eq_self.2 (fun b hb => decide_eq_true (fun (e : b = a) => hm (e ▸ hb))))
    clear hm
    go_enter Tryz.func73, Tryz.ntmps73
    go_wp2_with fail
    generalize w.heap.size = gb at *
    generalize (w.alloc (.cells #[.int .i64 a.1, .int .i64 a.2] 41)) = W at *
    refine (has_any p L a _ _ _ h2).mono ?_
    rintro e w3 ⟨rfl, hb3⟩
    rw [hd]
    go_wp2_with fail
    go_ret
    exact ⟨congrArg (fun x => Ending.returned (Value.bool x)) hd.symm, by rw [hN.out]; exact (h2.below hb3).weaken hle, en.trans (bel_env hb3)⟩
/-- The set of a list's ids. -/
def dedup (l : List Id) : List Id := l.foldl (fun L a => addL a L) []
theorem dedup_snoc (l : List Id) (k : Nat) (h : k < l.length) : dedup (l.take (k + 1)) = addL l[k] (dedup (l.take k)) := by
  unfold dedup
  rw [List.take_succ_eq_append_getElem h, List.foldl_append]
  rfl
set_option maxRecDepth 100000 in
set_option maxHeartbeats 1600000 in
theorem fill_any (p : Nat) (L0 : List Id) (u : Value) (l : List Id) (H : Hp) (fr : List HA) (w : World) (h : St H (SetA p L0 :: fr) w) (hx : Rd H 2 u (idl l)) :
    Calls Tryz.prog 72 #[setP p, u] w (Res H fr w (.tuple #[]) [SetA p (dedup l)]) := by
  obtain ⟨A, n, c, rfl, hl, hn, hc⟩ := hx.form
  rw [idl_len] at hl
  obtain rfl : n = l.length := by omega
  clear hl
  obtain ⟨g, h1⟩ := setOpen h
  have hcm : w.cell? ⟨p, 0, none⟩ = some (.map (some g)) := h1.blk_cell 0
  have hpl := h1.blk_lt
  replace hc : c ≤ 9223372036854775807 := hc
  obtain ⟨w2, hclr, h2, en2⟩ := h1.swap.mp_clear (ty := 0) Tryz.underlying82
  go_enter Tryz.func72, Tryz.ntmps72
  go_wp2_with fail
  go_loopw [12] (fun i wr => ∃ k : Nat, k ≤ l.length ∧ i = .int .i64 k ∧ St H (Blk p #[.map (some g)] 96 :: Mp setC g (ents (dedup (l.take k))) :: fr) wr ∧ Env w wr) (fun i _ => l.length - (intOf i).toNat)
  case atStart => exact ⟨0, Nat.zero_le _, rfl, h2.swap, en2⟩
  case round =>
    obtain ⟨k, hk, rfl, hst, hen⟩ := hrel
    by_cases hlt : k < l.length
    · obtain ⟨a, HX⟩ : ∃ a, Hid (a = l[k]) := ⟨_, Lib.hid rfl⟩
      have hP : Hid (mput a () (ents (dedup (l.take k))) = ents (dedup (l.take (k + 1)))) := Lib.hid (by rw [HX.out, dedup_snoc l k hlt, ents_put])
      obtain ⟨qb, qoff, qA, qc⟩ := (hx.rw hst).cells (by omega)
      cases qA
      have q1 := qc _ _ (idl_fst l k hlt)
      have q2 := qc _ _ (idl_snd l k hlt)
      rw [← Nat.add_assoc] at q2
      rw [← HX.out] at q1 q2
      have ql := World.block_lt_of_cell? _ _ q1
      clear qc
      obtain ⟨H', hle, h3, hy⟩ := hst.box #[.int .i64 a.1, .int .i64 a.2] 41
      have en3 : Env w (wr.alloc (.cells #[.int .i64 a.1, .int .i64 a.2] 41)) := hen.alloc _
      have hy0 := hy 0 _ rfl
      have hy1 := hy 1 _ rfl
      go_wp2_with fail
      generalize wr.heap.size = gb at *
      generalize (wr.alloc (.cells #[.int .i64 a.1, .int .i64 a.2] 41)) = W3 at *
      clear hy q1 q2 ql hcm hpl
      have hc3 : W3.cell? ⟨p, 0, none⟩ = some (.map (some g)) := h3.blk_cell 0
      have hl3 := h3.blk_lt
      have x0 := h3.cell hy0
      have x1 := h3.cell hy1
      have xl := World.block_lt_of_cell? _ _ x0
      go_still_tail 5, (by kernel_rfl)
      change wpList _ _ _ _ _ W3.drew
      have h4 := h3.drew.swap
      go_wp2_with (at_mapUpdate; refine wpList_mput h4 rfl (.tmp 19) (.tmp 20) (.const (.bool true)) rfl Tryz.underlying82 rfl a rfl () rfl ?_; intro w5 h5 en5)
      rw [hP.out] at h5
      go_roundw
      case rel => exact ⟨k + 1, by omega, by go_num, h5.swap.weaken hle, en3.drew.trans en5⟩
      case measure => simp [intOf]; omega
    · obtain rfl : k = l.length := by omega
      rw [List.take_length] at hst
      go_wp2_with fail
      go_end0
      exact ⟨rfl, setShut hst, hen⟩
set_option maxRecDepth 100000 in
set_option maxHeartbeats 800000 in
theorem setNew_any (u : Value) (l : List Id) (w : World) (hx : Rw w 2 u (idl l)) :
    Calls Tryz.prog 38 #[u] w (ResE (snap w) [] w (fun p => setP p) (fun p => [SetA p (dedup l)])) := by
  have h1 := (St.start w).mp_made (C := setC)
  have en1 : Env w (w.alloc (.map #[] 0)) := (Env.refl w).alloc _
  have h2 := h1.blk #[.map (some w.heap.size)] 96
  have en2 := en1.alloc (.cells #[.map (some w.heap.size)] 96)
  have hsz : (w.alloc (.map #[] 0)).heap.size = w.heap.size + 1 := by simp
  rw [hsz] at h2
  have h3 := setShut (L := []) h2
  have hmk := run_makeMap (P := Tryz.prog) 82 w
  go_enter Tryz.func38, Tryz.ntmps38
  go_wp2_with fail
  refine (fill_any (w.heap.size + 1) [] u l _ _ _ h3 hx.rd).mono ?_
  rintro e w4 ⟨rfl, h4, en4⟩
  go_wp2_with fail
  go_ret
  exact ⟨w.heap.size + 1, rfl, h4, en2.trans en4⟩
end Go.Proofs.YtcbckeoalmjcoaaGreat

/- Sets of ids: what one has and another one has not; sameness. -/
set_option linter.unusedVariables false
set_option linter.unusedSimpArgs false
namespace Go.Proofs.YtcbckeoalmjcoaaGreat
open Go.RowKit Go.Cw
attribute [local go_sem ↓] eql_id neq_id
theorem ents_split {L : List Id} {pre post : List (Id × Unit)} {p : Id × Unit} (h : ents L = pre ++ p :: post) : ∃ A B, L = A ++ p.1 :: B ∧ pre = ents A ∧ post = ents B := by
  unfold ents at h
  obtain ⟨A, q, rfl, hA, hq⟩ := List.map_eq_append_iff.1 h
  obtain ⟨x, B, rfl, hx, hB⟩ := List.map_eq_cons_iff.1 hq
  exact ⟨A, B, by rw [← hx], hA.symm, hB.symm⟩
theorem wpList_snext {H : Hp} {fr : List HA} {w : World} {g r : Nat} {L left : List Id} {ops : Array Oper} {rest : List Oper} {o : Oper} {a : Act} {Q : Exit → Act → World → Prop}
    (hst : St H (Rg setC g r (ents L) (ents left) :: fr) w) (hg : o.guard = none) (it : Operand) (hop : o.op = Op.next it false) (hit : a.eval it = .pointer (some ⟨r, 0, none⟩))
    (hDone : left = [] → wpList Tryz.prog ops Q rest (a.put o.dst (.tuple #[.bool false])) w)
    (hMore : ∀ (pre post : List Id) (x : Id) (w' : World), left = pre ++ x :: post → St H (Rg setC g r (ents L) (ents (pre ++ post)) :: fr) w' → Env w w' → (Instr.entry (.pointer (some ⟨r, 0, none⟩))).run Tryz.prog w' = .ok (.tuple #[.agg #[.int .i64 x.1, .int .i64 x.2], .bool true]) w' →
      wpList Tryz.prog ops Q rest (a.put o.dst (.tuple #[.bool true, .agg #[.int .i64 x.1, .int .i64 x.2], .bool true])) w') : wpList Tryz.prog ops Q (o :: rest) a w := by
  refine wpList_mnext hst hg it hop hit (fun h => hDone (by cases left with | nil => rfl | cons x l => simp [ents] at h)) ?_
  intro pre post p w' hl h' en hen
  obtain ⟨A, B, rfl, rfl, rfl⟩ := ents_split hl
  refine hMore A B p.1 w' rfl ?_ en hen
  unfold ents at *
  rw [List.map_append]
  exact h'
theorem rg_left {H : Hp} {fr : List HA} {w : World} {g r : Nat} {L left : List Id} (h : St H (Rg setC g r (ents L) (ents left) :: fr) w) : w.rangeLeft g r = left.length := h.get (fun S hS => by
  obtain ⟨⟨hne, es, clock, since, seen, c0, h1, h2, h3, h4, h5, h6, h7, h8⟩, hS⟩ := hS
  have := congrArg List.length h8
  simp only [List.length_map, ents_len] at this
  simp only [World.rangeLeft, h1, h4]
  simpa using this)
/-- A list that rises. -/
def Rises (l : List Id) : Prop := l.Pairwise (fun a b => idLt a b = true)
theorem idSort_rises {l : List Id} (h : l.Nodup) : Rises (idSort l) := by
  have hs : (idSort l).Pairwise (fun a b => (!(ltOf cmpId) b a) = true) := by
    unfold idSort
    refine List.pairwise_mergeSort (fun a b c h1 h2 => ?_) (fun a b => ?_) l
    · rw [ltOf_id] at *
      simp only [Bool.not_eq_true', idLt_no] at *
      omega
    · rw [ltOf_id, ltOf_id]
      simp only [Bool.or_eq_true, Bool.not_eq_true', idLt_no]
      omega
  have hn : (idSort l).Nodup := (List.mergeSort_perm l _).nodup_iff.2 h
  refine (hs.and hn).imp (fun {a b} hab => ?_)
  obtain ⟨h1, h2⟩ := hab
  rw [ltOf_id] at h1
  simp only [Bool.not_eq_true', idLt_no] at h1
  rw [idLt_iff]
  have : ¬ (a.1 = b.1 ∧ a.2 = b.2) := fun e => h2 (Prod.ext e.1 e.2)
  omega
theorem rises_nodup {l : List Id} (h : Rises l) : l.Nodup := h.imp (fun {a b} hab e => by subst e; rw [idLt_iff] at hab; omega)
/-- Two rising lists with the same members are one. -/
theorem rises_eq : ∀ {l m : List Id}, Rises l → Rises m → (∀ a, a ∈ l ↔ a ∈ m) → l = m
  | [], [], _, _, _ => rfl
  | [], b :: m, _, _, h => by have := (h b).2 (List.mem_cons_self ..); simp at this
  | a :: l, [], _, _, h => by have := (h a).1 (List.mem_cons_self ..); simp at this
  | a :: l, b :: m, hl, hm, h => by
    obtain ⟨l1, l2⟩ := List.pairwise_cons.1 hl
    obtain ⟨m1, m2⟩ := List.pairwise_cons.1 hm
    have hab : a = b := by
      rcases List.mem_cons.1 ((h a).1 (List.mem_cons_self ..)) with e | e
      · exact e
      · rcases List.mem_cons.1 ((h b).2 (List.mem_cons_self ..)) with e' | e'
        · exact e'.symm
        · have x1 := l1 b e'
          have x2 := m1 a e
          rw [idLt_iff] at x1 x2
          omega
    subst hab
    have : l = m := rises_eq l2 m2 (fun x => by
      have := h x
      simp only [List.mem_cons] at this
      constructor
      · intro hx
        rcases this.1 (.inr hx) with e | e
        · subst e
          have := l1 _ hx
          rw [idLt_iff] at this
          omega
        · exact e
      · intro hx
        rcases this.2 (.inr hx) with e | e
        · subst e
          have := m1 _ hx
          rw [idLt_iff] at this
          omega
        · exact e)
    rw [this]
end Go.Proofs.YtcbckeoalmjcoaaGreat

/- Slices that are made, copied into, and turned into strings: plain lemmas, of no program. -/
set_option linter.unusedVariables false
set_option linter.unusedSimpArgs false
namespace Go.Cw
open Go.RowKit
def u8s (xs : List Int) : List Value := xs.map (Value.int .u8)
theorem u8s_len (xs : List Int) : (u8s xs).length = xs.length := by simp [u8s]
theorem u8s_one (xs : List Int) : ∀ u ∈ u8s xs, u.oneCell' = true := by
  intro u hu
  obtain ⟨x, _, rfl⟩ := List.mem_map.1 hu
  rfl
theorem u8s_get (xs : List Int) (k : Nat) (h : k < xs.length) : (u8s xs)[k]? = some (.int .u8 (xs.getD k 0)) := by simp [u8s, h]
theorem u8s_append (xs ys : List Int) : u8s (xs ++ ys) = u8s xs ++ u8s ys := by simp [u8s]
theorem u8s_take (xs : List Int) (k : Nat) : (u8s xs).take k = u8s (xs.take k) := by simp [u8s]
theorem u8s_drop (xs : List Int) (k : Nat) : (u8s xs).drop k = u8s (xs.drop k) := by simp [u8s]
theorem setCells_far (b : Nat) : ∀ (vs : List Value) (o : Nat) (w : World) (cur : Array Value) (e : TypeId), w.heap[b]? = some (.cells cur e (0, 0)) →
    ∀ cur' e', (w.setCells b o vs).heap[b]? = some (.cells cur' e' (0, 0)) → ∀ j, o + vs.length ≤ j → cur'[j]? = cur[j]?
  | [], o, w, cur, e, h, cur', e', h', j, hj => by
    have : (w.setCells b o []).heap[b]? = w.heap[b]? := rfl
    rw [this, h] at h'
    cases h'
    rfl
  | x :: r, o, w, cur, e, h, cur', e', h', j, hj => by
    have ih := setCells_far b r (o + 1) (w.setCell ⟨b, o, none⟩ x) (cur.setIfInBounds o x) e (heap_set w b o cur e x h) cur' e' h' j (by simp at hj; omega)
    rw [ih, Array.getElem?_setIfInBounds, if_neg (by simp at hj; omega)]
section
variable {P : Program} {H : Hp} {l : List HA} {w : World} {e : TypeId} {sz : Nat} {cs : List Value}
/-- copy into a row of one's own, from its element k on: m elements. -/
theorem St.copy_row {g off n c : Nat} (h : St H (Row e sz (.slice (some ⟨g, off, none⟩) n c) cs :: l) w) (t u ty : TypeId) (ht : P.underlying t = some (.slice e)) (hsz : (P.info? e).map (·.size) = some sz) (k m d c' M : Nat) (x : Value) (news : List Value) (o' : Nat)
    (ho : 0 < m → o' = off + k * sz) (hn : news.length = m * sz) (hk : (k + m) * sz ≤ cs.length) (hM : (Builtin.lenOf x).run P w = .ok M w) (hm : Nat.min M d = m) (hf : (Builtin.firstCells sz m x).run P w = .ok news.toArray w) (h1 : ∀ u ∈ news, u.oneCell' = true) :
    ∃ w', (Builtin.copy_ #[t, u] ty #[.slice (some ⟨g, o', none⟩) d c', x]).run P w = .ok (.int .i64 m) w' ∧ St H (Row e sz (.slice (some ⟨g, off, none⟩) n c) (cs.take (k * sz) ++ news ++ cs.drop ((k + m) * sz)) :: l) w' ∧ Env w w' := by
  rcases Nat.eq_zero_or_pos m with rfl | hm0
  · obtain rfl : news = [] := List.eq_nil_of_length_eq_zero (by simpa using hn)
    refine ⟨w, ?_, by simpa using h, Env.refl w⟩
    cases hq : P.info? e with
    | none => simp [hq] at hsz
    | some i =>
      have hi : i.size = sz := by simpa [hq] using hsz
      simp [Builtin.copy_, run_underlying ht, hM, hm, sizeOf, typeInfo, hq, hi, hf, storeCells, goInt]
  obtain rfl := ho hm0
  have hadd : (k + m) * sz = k * sz + m * sz := Nat.add_mul ..
  obtain ⟨S, ⟨S1, S2, hR, h2, hdj, hs⟩, hno⟩ := h.sep
  rcases hR with ⟨hv, _⟩ | ⟨g', off', n', cap, cur, hv, hl', hc', hM', hh, hs', hjj, hS⟩
  · cases hv
  · cases hv
    have hcl : cs.length ≤ c * sz := by rw [hl']; exact Nat.mul_le_mul_right _ hc'
    have hst := run_storeCells_cells (P := P) g (off + k * sz) news 0 w
      (fun j hj => by
        simp only [Nat.add_zero, World.cell?, hh]
        rw [if_neg (by simp)]
        simp
        omega)
      (fun j hj => by simp [World.frozen?, hh]) h1
    simp only [Nat.add_zero] at hst
    obtain ⟨cur', hh', hsz', hlow, hnew, hfar⟩ := setCells_heap g news (off + k * sz) w cur e hh (by omega)
    have hbey := setCells_far g news (off + k * sz) w cur e hh cur' e hh'
    refine ⟨w.setCells g (off + k * sz) news, ?_, ?_, setCells_env _ _ _ _⟩
    · cases hq : P.info? e with
      | none => simp [hq] at hsz
      | some i =>
        have hi : i.size = sz := by simpa [hq] using hsz
        simp [Builtin.copy_, run_underlying ht, hM, hm, sizeOf, typeInfo, hq, hi, hf, hst, goInt]
    · refine h.turn (setCells_env _ _ _ _).size (fun S hS => ?_)
      rcases hS with ⟨hv, _⟩ | ⟨g', off', n', cap', cur2, hv, _, _, _, hh2, _, _, hS⟩
      · cases hv
      · cases hv
        refine ⟨S, .inr ⟨g, off, n, c, cur', rfl, ?_, hc', hM', hh', by omega, fun j u hj => ?_, hS⟩, fun k hk => .inl hk, fun k _ hk => hfar k (fun e => hk ((hS k).2 e))⟩
        · simp only [List.length_append, List.length_take, List.length_drop]
          omega
        · have hlt : (cs.take (k * sz)).length = k * sz := by rw [List.length_take]; omega
          rw [List.append_assoc] at hj
          rcases Nat.lt_or_ge j (k * sz) with hj1 | hj1
          · rw [List.getElem?_append_left (by omega), List.getElem?_take_of_lt hj1] at hj
            rw [hlow (off + j) (by omega)]
            exact hjj j u hj
          · rw [List.getElem?_append_right (by omega), hlt] at hj
            rcases Nat.lt_or_ge (j - k * sz) news.length with hj2 | hj2
            · rw [List.getElem?_append_left hj2] at hj
              have := hnew _ u hj
              rwa [show off + k * sz + (j - k * sz) = off + j by omega] at this
            · rw [List.getElem?_append_right hj2, List.getElem?_drop, show (k + m) * sz + (j - k * sz - news.length) = j by omega] at hj
              rw [hbey (off + j) (by omega)]
              exact hjj j u hj
/-- string(b) of bytes that may be read. -/
theorem conv_rw {A : Option Addr} {n c : Nat} {xs : List Int} (h : Rw w 1 (.slice A n c) (u8s xs)) (src dst : TypeId) (hs : P.underlying src = some (.slice e)) (he : P.underlying e = some (.int .u8)) (hd : P.underlying dst = some .string) :
    (convert src dst (.slice A n c)).run P w = .ok (.string (strOfNums xs)) w := by
  obtain ⟨A', n', c', hv, hl, _, _, hc⟩ := h
  cases hv
  rw [u8s_len, Nat.mul_one] at hl
  rcases Nat.eq_zero_or_pos n with rfl | hn
  · obtain rfl : xs = [] := List.eq_nil_of_length_eq_zero hl
    rw [run_convert_bytes_string w src dst e _ 0 c hs he hd]
    cases A with
    | none => simp [Conv.bytesToString]; rfl
    | some a =>
      rw [run_bytesToString w a 0 c [] rfl]
      rfl
  · obtain ⟨b, off, rfl, hcc⟩ := hc hn
    exact run_convert_bytes_arg w src e hs he b off n c xs hl (fun i hi => hcc i _ (u8s_get xs i (by omega))) dst hd
end
end Go.Cw
