/- Joined texts: Idset, Idset2, Sorted, Rec, Rec2. -/
import Derived.Deep.RegionHeld3
import Derived.Test.YtelmhcbdpimaaaaVA2
import Derived.Test.YtelmhcbdpimaaaaVA3
/- Sets of ids: contracts of the package idset. -/
set_option linter.unusedVariables false
set_option linter.unusedSimpArgs false
namespace Go.Proofs.Ytelmhcbdpimaaaa
open Go.RowKit Go.Cw
attribute [local go_sem ↓] eql_id neq_id

theorem equal_id (a b c d : Int) (w : World) : (Op.equal 28 (.agg #[.int .i64 a, .int .i64 b]) (.agg #[.int .i64 c, .int .i64 d])).run Try.prog w = .ok (idEq a b c d) w := by
  have h := eql_id a b c d w
  have h2 : (binOp .eql 28 (.agg #[.int .i64 a, .int .i64 b]) (.agg #[.int .i64 c, .int .i64 d])).run Try.prog w = ((Op.equal 28 (.agg #[.int .i64 a, .int .i64 b]) (.agg #[.int .i64 c, .int .i64 d])).run Try.prog w).andThen fun b w' => .ok (.bool b) w' := run_eql_struct ..
  rw [h2] at h
  cases hr : (Op.equal 28 (.agg #[.int .i64 a, .int .i64 b]) (.agg #[.int .i64 c, .int .i64 d])).run Try.prog w <;> rw [hr] at h <;> simp [Result.andThen] at h
  obtain ⟨rfl, rfl⟩ := h
  rfl
theorem asking_id (a : Id) (w : World) : ∀ (es : List MapEntry) (i : Nat), (∀ e ∈ es, ∃ b : Id, e.key = idV b) →
    ((Instr.findAsking 28 (idV a) es i).run Try.prog w = .ok none w ∧ ∀ e ∈ es, e.key ≠ idV a) ∨
    ∃ j e, (Instr.findAsking 28 (idV a) es i).run Try.prog w = .ok (some (i + j, e.val)) w ∧ es[j]? = some e ∧ e.key = idV a
  | [], i, _ => .inl ⟨rfl, fun _ h => by simp at h⟩
  | e :: es, i, h => by
    obtain ⟨b, hb⟩ := h e (List.mem_cons_self ..)
    have hq := equal_id a.1 a.2 b.1 b.2 w
    by_cases hab : a = b
    · subst hab
      refine .inr ⟨0, e, ?_, rfl, hb⟩
      rw [(idEq_iff (a := a) (b := a)).2 rfl] at hq
      simp [Instr.findAsking, hb, idV, hq, Result.andThen]
    · have hne : idEq a.1 a.2 b.1 b.2 = false := by
        cases hh : idEq a.1 a.2 b.1 b.2 with
        | false => rfl
        | true => exact absurd (idEq_iff.1 hh) hab
      rw [hne] at hq
      have hk : e.key ≠ idV a := by
        rw [hb]
        intro he
        simp only [idV, Value.agg.injEq] at he
        have h1 := congrArg Array.toList he
        simp at h1
        exact hab (Prod.ext h1.1.symm h1.2.symm)
      have hstep : (Instr.findAsking 28 (idV a) (e :: es) i).run Try.prog w = (Instr.findAsking 28 (idV a) es (i + 1)).run Try.prog w := by
        simp [Instr.findAsking, hb, idV, hq, Result.andThen]
      rw [hstep]
      rcases asking_id a w es (i + 1) (fun x hx => h x (List.mem_cons_of_mem _ hx)) with ⟨h1, h2⟩ | ⟨j, x, h1, h2, h3⟩
      · exact .inl ⟨h1, fun x hx => by
          rcases List.mem_cons.1 hx with rfl | hx
          · exact hk
          · exact h2 x hx⟩
      · exact .inr ⟨j + 1, x, by rw [h1, show i + 1 + j = i + (j + 1) by omega], h2, h3⟩
set_option maxRecDepth 100000 in
theorem find_id (a : Id) (w : World) (es : List MapEntry) : (Instr.findKey 28 (idV a) es).run Try.prog w = (Instr.findAsking 28 (idV a) es 0).run Try.prog w := by
  have hS : Try.prog.underlying 28 = some (.struct (Try.prog.fieldsOf 28)) := by kernel_rfl
  cases es with
  | nil => simp [Instr.findKey, run_underlying hS, Instr.findNow, Instr.findAsking, Result.andThen]
  | cons e es =>
    have : Instr.sameNow (.struct (Try.prog.fieldsOf 28)) (idV a) e.key = none := by unfold Instr.sameNow; rfl
    simp [Instr.findKey, run_underlying hS, Instr.findNow, this, Result.andThen]
set_option maxRecDepth 100000 in
theorem kinds_id : Kinds Try.prog 28 (fun v => ∃ a : Id, v = idV a) where
  check := by
    rintro w em v ⟨a, rfl⟩
    kernel_rfl
  find := by
    rintro w x ⟨a, rfl⟩ es hes
    rw [find_id]
    rcases asking_id a w es 0 hes with h | ⟨j, e, h1, h2, h3⟩
    · exact .inl h
    · exact .inr ⟨j, e, by rw [h1, Nat.zero_add], h2, h3⟩
  stays := by
    rintro w v ⟨a, rfl⟩
    simp [Instr.keyThatStays, Instr.sameBits, idV]
/-- The codes of a map from ids to truths that are all true. -/
def setC : Go.Cw.Code Try.prog 28 Id Unit where
  kv := idV
  vv := fun _ => .bool true
  inj := by
    intro a b h
    simp only [idV, Value.agg.injEq] at h
    have h1 := congrArg Array.toList h
    simp at h1
    exact Prod.ext h1.1 h1.2
  kinds := kinds_id
/-- The entries of a set. -/
def ents (L : List Id) : List (Id × Unit) := L.map (fun a => (a, ()))
theorem ents_keys (L : List Id) : (ents L).map (·.1) = L := by unfold ents; rw [List.map_map]; exact List.map_id' L
theorem ents_len (L : List Id) : (ents L).length = L.length := by simp [ents]
theorem ents_look (L : List Id) (a : Id) : setC.at_ (.bool false) false (mlook a (ents L)) = .bool (decide (a ∈ L)) := by
  by_cases h : a ∈ L
  · have : ∀ (M : List Id), a ∈ M → mlook a (ents M) = some () := by
      intro M
      induction M with
      | nil => intro h; simp at h
      | cons b M ih =>
        intro h
        show (if b = a then some () else mlook a (ents M)) = some ()
        by_cases hb : b = a
        · rw [if_pos hb]
        · rw [if_neg hb]
          exact ih (by rcases List.mem_cons.1 h with e | e; exact absurd e.symm hb; exact e)
    rw [this L h, decide_eq_true h]
    rfl
  · rw [lookup_none (by rw [ents_keys]; exact h), decide_eq_false h]
    rfl
/-- A set with one more id. -/
def addL (a : Id) (L : List Id) : List Id := if a ∈ L then L else L ++ [a]
theorem ents_put (L : List Id) (a : Id) : mput a () (ents L) = ents (addL a L) := by
  unfold mput addL
  rw [ents_keys]
  split
  · unfold ents
    rw [List.map_map]
    refine List.map_congr_left (fun b _ => ?_)
    show (if b = a then (a, ()) else (b, ())) = (b, ())
    split
    · rename_i h; rw [h]
    · rfl
  · simp [ents]
/-- A set without an id. -/
def cutL (a : Id) (L : List Id) : List Id := L.filter (fun b => decide (b ≠ a))
theorem ents_del (L : List Id) (a : Id) : mdel a (ents L) = ents (cutL a L) := by
  unfold mdel cutL ents
  rw [List.filter_map]
  rfl
/-- A set at p. -/
def SetA (p : Nat) (L : List Id) : HA := Ex fun g => Star (Blk p #[.map (some g)] 144) (Mp setC g (ents L))
abbrev setP (p : Nat) : Value := .pointer (some ⟨p, 0, none⟩)
theorem setOpen {H : Hp} {fr : List HA} {w : World} {p : Nat} {L : List Id} (h : St H (SetA p L :: fr) w) : ∃ g, St H (Blk p #[.map (some g)] 144 :: Mp setC g (ents L) :: fr) w := by
  obtain ⟨g, hg⟩ := h.openEx
  exact ⟨g, hg.openStar⟩
theorem setShut {H : Hp} {fr : List HA} {w : World} {p g : Nat} {L : List Id} (h : St H (Blk p #[.map (some g)] 144 :: Mp setC g (ents L) :: fr) w) : St H (SetA p L :: fr) w := St.shutEx g h.shutStar
theorem set_nodup {H : Hp} {fr : List HA} {w : World} {p : Nat} {L : List Id} (h : St H (SetA p L :: fr) w) : L.Nodup := by
  obtain ⟨g, hg⟩ := setOpen h
  have := hg.swap.mp_nodup
  rwa [ents_keys] at this
theorem zero_bool (w : World) : (zeroValue 4).run Try.prog w = .ok (.bool false) w := by kernel_rfl
theorem boxBelow (w : World) (o : Obj) : Below w.heap.size w (w.alloc o) := (Below.refl _ _).alloc (Nat.le_refl _) _
set_option maxRecDepth 100000 in
set_option maxHeartbeats 800000 in
theorem has_any (p : Nat) (L : List Id) (a : Id) (H : Hp) (fr : List HA) (w : World) (h : St H (SetA p L :: fr) w) :
    Calls Try.prog 76 #[setP p, idV a] w fun e w' => e = .returned (.bool (decide (a ∈ L))) ∧ Below w.heap.size w w' := by
  obtain ⟨g, h1⟩ := setOpen h
  obtain ⟨H', hle, h2, hx⟩ := h1.box #[.int .i64 a.1, .int .i64 a.2] 28
  have hc : (w.alloc (.cells #[.int .i64 a.1, .int .i64 a.2] 28)).cell? ⟨p, 0, none⟩ = some (.map (some g)) := h2.blk_cell 0
  have hl := h2.blk_lt
  have hlk : ∀ n, (Instr.lookup 91 (.map (some g)) (.agg #[.int .i64 a.1, .int .i64 a.2]) false).run Try.prog ((w.alloc (.cells #[.int .i64 a.1, .int .i64 a.2] 28)).drewN n) = .ok (.bool (decide (a ∈ L))) ((w.alloc (.cells #[.int .i64 a.1, .int .i64 a.2] 28)).drewN n) := fun n => by
    have := (h2.drewN n).swap.mp_get false Try.underlying91 (zero_bool _) a
    rwa [ents_look] at this
  have x0 := h2.cell (hx 0 _ rfl)
  have x1 := h2.cell (hx 1 _ rfl)
  have xl := World.block_lt_of_cell? _ _ x0
  have hb := boxBelow w (.cells #[.int .i64 a.1, .int .i64 a.2] 28)
  clear hx
  obtain ⟨r, hr⟩ : ∃ r, r = decide (a ∈ L) := ⟨_, rfl⟩
  rw [← hr] at hlk ⊢
  go_enter Try.func76, Try.ntmps76
  go_wp2_with fail
  generalize (w.alloc (.cells #[.int .i64 a.1, .int .i64 a.2] 28)) = W at *
  go_quiet (fail)
  go_wp2_with fail
  go_ret
  exact ⟨congrArg (fun x => Ending.returned (Value.bool x)) (by rw [hr]), bel_drewN hb _⟩
set_option maxRecDepth 100000 in
theorem has_nil (a : Id) (w : World) : Calls Try.prog 76 #[.pointer none, idV a] w fun e w' => e = .returned (.bool false) ∧ Below w.heap.size w w' := by
  have hb := boxBelow w (.cells #[.int .i64 a.1, .int .i64 a.2] 28)
  go_enter Try.func76, Try.ntmps76
  go_wp2_with fail
  go_quiet (fail)
  go_wp2_with fail
  go_ret
  exact ⟨rfl, bel_drewN hb _⟩
set_option maxRecDepth 100000 in
set_option maxHeartbeats 800000 in
theorem add_nil (a : Id) (w : World) : Calls Try.prog 108 #[.pointer none, idV a] w fun e w' => e = .returned (.bool false) ∧ Below w.heap.size w w' := by
  have hb := boxBelow w (.cells #[.int .i64 a.1, .int .i64 a.2] 28)
  go_enter Try.func108, Try.ntmps108
  go_wp2_with fail
  go_quiet (fail)
  go_wp2_with fail
  go_ret
  exact ⟨rfl, bel_drewN hb _⟩
set_option maxRecDepth 100000 in
set_option maxHeartbeats 800000 in
theorem setAdd_any (p : Nat) (L : List Id) (a : Id) (H : Hp) (fr : List HA) (w : World) (h : St H (SetA p L :: fr) w) :
    Calls Try.prog 108 #[setP p, idV a] w (Res H fr w (.bool (!decide (a ∈ L))) [SetA p (addL a L)]) := by
  obtain ⟨g, h1⟩ := setOpen h
  obtain ⟨H', hle, h2, hx⟩ := h1.box #[.int .i64 a.1, .int .i64 a.2] 28
  have hc : (w.alloc (.cells #[.int .i64 a.1, .int .i64 a.2] 28)).cell? ⟨p, 0, none⟩ = some (.map (some g)) := h2.blk_cell 0
  have hl := h2.blk_lt
  have hlk : ∀ n, (Instr.lookup 91 (.map (some g)) (.agg #[.int .i64 a.1, .int .i64 a.2]) false).run Try.prog ((w.alloc (.cells #[.int .i64 a.1, .int .i64 a.2] 28)).drewN n) = .ok (.bool (decide (a ∈ L))) ((w.alloc (.cells #[.int .i64 a.1, .int .i64 a.2] 28)).drewN n) := fun n => by
    have := (h2.drewN n).swap.mp_get false Try.underlying91 (zero_bool _) a
    rwa [ents_look] at this
  have x0 := h2.cell (hx 0 _ rfl)
  have x1 := h2.cell (hx 1 _ rfl)
  have xl := World.block_lt_of_cell? _ _ x0
  have en : Env w (w.alloc (.cells #[.int .i64 a.1, .int .i64 a.2] 28)) := (Env.refl w).alloc _
  by_cases hm : a ∈ L
  · have hd : decide (a ∈ L) = true := decide_eq_true hm
    have hN : Hid (addL a L = L) := Lib.hid (if_pos hm)
    rw [hd] at hlk ⊢
    clear hm hx hd
    go_enter Try.func108, Try.ntmps108
    go_wp2_with fail
    generalize (w.alloc (.cells #[.int .i64 a.1, .int .i64 a.2] 28)) = W at *
    go_quiet (fail)
    go_wp2_with fail
    go_ret
    exact ⟨rfl, by rw [hN.out]; exact setShut ((h2.drewN _).weaken hle), en.drewN _⟩
  · have hd : decide (a ∈ L) = false := decide_eq_false hm
    have hN : Hid (addL a L = L ++ [a]) := Lib.hid (if_neg hm)
    have hP := Lib.hid (ents_put L a)
    rw [hd] at hlk ⊢
    have hx0 := hx 0 _ rfl
    have hx1 := hx 1 _ rfl
    clear hm hx hd
    go_enter Try.func108, Try.ntmps108
    go_wp2_with fail
    generalize (w.alloc (.cells #[.int .i64 a.1, .int .i64 a.2] 28)) = W at *
    go_quiet (fail)
    have h3 := h2.drewN nq
    have en3 := en.drewN nq
    clear hc hl x0 x1 xl hlk
    generalize W.drewN nq = W3 at *
    have hc : W3.cell? ⟨p, 0, none⟩ = some (.map (some g)) := h3.blk_cell 0
    have hl := h3.blk_lt
    have x0 := h3.cell hx0
    have x1 := h3.cell hx1
    have xl := World.block_lt_of_cell? _ _ x0
    go_wp2_with fail
    go_still_tail 5, (by kernel_rfl)
    change wpList _ _ _ _ _ W3.drew
    have h4 := h3.drew.swap
    go_wp2_with (at_mapUpdate; refine wpList_mput h4 rfl (.tmp 18) (.tmp 19) (.const (.bool true)) rfl Try.underlying91 rfl a rfl () rfl ?_; intro w5 h5 en5)
    rw [hP.out] at h5
    go_ret
    exact ⟨rfl, setShut (h5.swap.weaken hle), en3.drew.trans en5⟩
set_option maxRecDepth 100000 in
set_option maxHeartbeats 800000 in
theorem rem_nil (a : Id) (w : World) : Calls Try.prog 139 #[.pointer none, idV a] w fun e w' => e = .returned (.bool false) ∧ Below w.heap.size w w' := by
  obtain ⟨H', hle, h2, hx⟩ := (St.start w).box #[.int .i64 a.1, .int .i64 a.2] 28
  have x0 := h2.cell (hx 0 _ rfl)
  have x1 := h2.cell (hx 1 _ rfl)
  have xl := World.block_lt_of_cell? _ _ x0
  have en : Env w (w.alloc (.cells #[.int .i64 a.1, .int .i64 a.2] 28)) := (Env.refl w).alloc _
  go_enter Try.func139, Try.ntmps139
  go_wp2_with fail
  refine (has_nil a _).mono ?_
  rintro e w3 ⟨rfl, hb3⟩
  go_wp2_with fail
  go_ret
  exact ⟨rfl, ((h2.below hb3).weaken hle).toBelow (en.trans (bel_env hb3))⟩
set_option maxRecDepth 100000 in
set_option maxHeartbeats 800000 in
theorem setRem_any (p : Nat) (L : List Id) (a : Id) (H : Hp) (fr : List HA) (w : World) (h : St H (SetA p L :: fr) w) :
    Calls Try.prog 139 #[setP p, idV a] w (Res H fr w (.bool (decide (a ∈ L))) [SetA p (cutL a L)]) := by
  obtain ⟨H', hle, h2, hx⟩ := h.box #[.int .i64 a.1, .int .i64 a.2] 28
  have hx0 := hx 0 _ rfl
  have hx1 := hx 1 _ rfl
  have en : Env w (w.alloc (.cells #[.int .i64 a.1, .int .i64 a.2] 28)) := (Env.refl w).alloc _
  have x0 := h2.cell hx0
  have x1 := h2.cell hx1
  have xl := World.block_lt_of_cell? _ _ x0
  clear hx
  by_cases hm : a ∈ L
  · have hd : decide (a ∈ L) = true := decide_eq_true hm
    have hP := Lib.hid (ents_del L a)
    clear hm
    go_enter Try.func139, Try.ntmps139
    go_wp2_with fail
    generalize w.heap.size = gb at *
    generalize (w.alloc (.cells #[.int .i64 a.1, .int .i64 a.2] 28)) = W at *
    refine (has_any p L a _ _ _ h2).mono ?_
    rintro e w3 ⟨rfl, hb3⟩
    rw [hd]
    obtain ⟨g, h3⟩ := setOpen (h2.below hb3)
    have en3 := en.trans (bel_env hb3)
    clear x0 x1 xl
    have hc : w3.cell? ⟨p, 0, none⟩ = some (.map (some g)) := h3.blk_cell 0
    have hl := h3.blk_lt
    have x0 := h3.cell hx0
    have x1 := h3.cell hx1
    have xl := World.block_lt_of_cell? _ _ x0
    go_wp2_with fail
    go_still_tail 5, (by kernel_rfl)
    change wpList _ _ _ _ _ w3.drew
    have h4 := h3.drew.swap
    go_wp2_with (at_delete; refine wpList_mdel h4 rfl (.tmp 12) (.tmp 13) rfl Try.underlying91 rfl a rfl ?_; intro w5 h5 en5)
    rw [hP.out] at h5
    go_ret
    exact ⟨congrArg (fun x => Ending.returned (Value.bool x)) hd.symm, setShut (h5.swap.weaken hle), en3.drew.trans en5⟩
  · have hd : decide (a ∈ L) = false := decide_eq_false hm
    have hN : Hid (cutL a L = L) := Lib.hid (List.filter_eq_self.2 (fun b hb => decide_eq_true (fun (e : b = a) => hm (e ▸ hb))))
    clear hm
    go_enter Try.func139, Try.ntmps139
    go_wp2_with fail
    generalize w.heap.size = gb at *
    generalize (w.alloc (.cells #[.int .i64 a.1, .int .i64 a.2] 28)) = W at *
    refine (has_any p L a _ _ _ h2).mono ?_
    rintro e w3 ⟨rfl, hb3⟩
    rw [hd]
    go_wp2_with fail
    go_ret
    exact ⟨congrArg (fun x => Ending.returned (Value.bool x)) hd.symm, by rw [hN.out]; exact (h2.below hb3).weaken hle, en.trans (bel_env hb3)⟩
/-- The set of a list's ids. -/
def dedup (l : List Id) : List Id := l.foldl (fun L a => addL a L) []
theorem dedup_snoc (l : List Id) (k : Nat) (h : k < l.length) : dedup (l.take (k + 1)) = addL l[k] (dedup (l.take k)) := by
  unfold dedup
  rw [List.take_succ_eq_append_getElem h, List.foldl_append]
  rfl
set_option maxRecDepth 100000 in
set_option maxHeartbeats 1600000 in
theorem fill_any (p : Nat) (L0 : List Id) (u : Value) (l : List Id) (H : Hp) (fr : List HA) (w : World) (h : St H (SetA p L0 :: fr) w) (hx : Rd H 2 u (idl l)) :
    Calls Try.prog 110 #[setP p, u] w (Res H fr w (.tuple #[]) [SetA p (dedup l)]) := by
  obtain ⟨A, n, c, rfl, hl, hn, hc⟩ := hx.form
  rw [idl_len] at hl
  obtain rfl : n = l.length := by omega
  clear hl
  obtain ⟨g, h1⟩ := setOpen h
  have hcm : w.cell? ⟨p, 0, none⟩ = some (.map (some g)) := h1.blk_cell 0
  have hpl := h1.blk_lt
  replace hc : c ≤ 9223372036854775807 := hc
  obtain ⟨w2, hclr, h2, en2⟩ := h1.swap.mp_clear (ty := 0) Try.underlying91
  go_enter Try.func110, Try.ntmps110
  go_wp2_with fail
  go_loopw [12] (fun i wr => ∃ k : Nat, k ≤ l.length ∧ i = .int .i64 k ∧ St H (Blk p #[.map (some g)] 144 :: Mp setC g (ents (dedup (l.take k))) :: fr) wr ∧ Env w wr) (fun i _ => l.length - (intOf i).toNat)
  case atStart => exact ⟨0, Nat.zero_le _, rfl, h2.swap, en2⟩
  case round =>
    obtain ⟨k, hk, rfl, hst, hen⟩ := hrel
    by_cases hlt : k < l.length
    · obtain ⟨a, HX⟩ : ∃ a, Hid (a = l[k]) := ⟨_, Lib.hid rfl⟩
      have hP : Hid (mput a () (ents (dedup (l.take k))) = ents (dedup (l.take (k + 1)))) := Lib.hid (by rw [HX.out, dedup_snoc l k hlt, ents_put])
      obtain ⟨qb, qoff, qA, qc⟩ := (hx.rw hst).cells (by omega)
      cases qA
      have q1 := qc _ _ (idl_fst l k hlt)
      have q2 := qc _ _ (idl_snd l k hlt)
      rw [← Nat.add_assoc] at q2
      rw [← HX.out] at q1 q2
      have ql := World.block_lt_of_cell? _ _ q1
      clear qc
      obtain ⟨H', hle, h3, hy⟩ := hst.box #[.int .i64 a.1, .int .i64 a.2] 28
      have en3 : Env w (wr.alloc (.cells #[.int .i64 a.1, .int .i64 a.2] 28)) := hen.alloc _
      have hy0 := hy 0 _ rfl
      have hy1 := hy 1 _ rfl
      go_wp2_with fail
      generalize wr.heap.size = gb at *
      generalize (wr.alloc (.cells #[.int .i64 a.1, .int .i64 a.2] 28)) = W3 at *
      clear hy q1 q2 ql hcm hpl
      have hc3 : W3.cell? ⟨p, 0, none⟩ = some (.map (some g)) := h3.blk_cell 0
      have hl3 := h3.blk_lt
      have x0 := h3.cell hy0
      have x1 := h3.cell hy1
      have xl := World.block_lt_of_cell? _ _ x0
      go_still_tail 5, (by kernel_rfl)
      change wpList _ _ _ _ _ W3.drew
      have h4 := h3.drew.swap
      go_wp2_with (at_mapUpdate; refine wpList_mput h4 rfl (.tmp 19) (.tmp 20) (.const (.bool true)) rfl Try.underlying91 rfl a rfl () rfl ?_; intro w5 h5 en5)
      rw [hP.out] at h5
      go_roundw
      case rel => exact ⟨k + 1, by omega, by go_num, h5.swap.weaken hle, en3.drew.trans en5⟩
      case measure => simp [intOf]; omega
    · obtain rfl : k = l.length := by omega
      rw [List.take_length] at hst
      go_wp2_with fail
      go_end0
      exact ⟨rfl, setShut hst, hen⟩
set_option maxRecDepth 100000 in
set_option maxHeartbeats 800000 in
theorem setNew_any (u : Value) (l : List Id) (w : World) (hx : Rw w 2 u (idl l)) :
    Calls Try.prog 77 #[u] w (ResE (snap w) [] w (fun p => setP p) (fun p => [SetA p (dedup l)])) := by
  have h1 := (St.start w).mp_made (C := setC)
  have en1 : Env w (w.alloc (.map #[] 0)) := (Env.refl w).alloc _
  have h2 := h1.blk #[.map (some w.heap.size)] 144
  have en2 := en1.alloc (.cells #[.map (some w.heap.size)] 144)
  have hsz : (w.alloc (.map #[] 0)).heap.size = w.heap.size + 1 := by simp
  rw [hsz] at h2
  have h3 := setShut (L := []) h2
  have hmk := run_makeMap (P := Try.prog) 91 w
  go_enter Try.func77, Try.ntmps77
  go_wp2_with fail
  refine (fill_any (w.heap.size + 1) [] u l _ _ _ h3 hx.rd).mono ?_
  rintro e w4 ⟨rfl, h4, en4⟩
  go_wp2_with fail
  go_ret
  exact ⟨w.heap.size + 1, rfl, h4, en2.trans en4⟩
end Go.Proofs.Ytelmhcbdpimaaaa

/- Sets of ids: what one has and another one has not; sameness. -/
set_option linter.unusedVariables false
set_option linter.unusedSimpArgs false
namespace Go.Proofs.Ytelmhcbdpimaaaa
open Go.RowKit Go.Cw
attribute [local go_sem ↓] eql_id neq_id
theorem ents_split {L : List Id} {pre post : List (Id × Unit)} {p : Id × Unit} (h : ents L = pre ++ p :: post) : ∃ A B, L = A ++ p.1 :: B ∧ pre = ents A ∧ post = ents B := by
  unfold ents at h
  obtain ⟨A, q, rfl, hA, hq⟩ := List.map_eq_append_iff.1 h
  obtain ⟨x, B, rfl, hx, hB⟩ := List.map_eq_cons_iff.1 hq
  exact ⟨A, B, by rw [← hx], hA.symm, hB.symm⟩
theorem wpList_snext {H : Hp} {fr : List HA} {w : World} {g r : Nat} {L left : List Id} {ops : Array Oper} {rest : List Oper} {o : Oper} {a : Act} {Q : Exit → Act → World → Prop}
    (hst : St H (Rg setC g r (ents L) (ents left) :: fr) w) (hg : o.guard = none) (it : Operand) (hop : o.op = Op.next it false) (hit : a.eval it = .pointer (some ⟨r, 0, none⟩))
    (hDone : left = [] → wpList Try.prog ops Q rest (a.put o.dst (.tuple #[.bool false])) w)
    (hMore : ∀ (pre post : List Id) (x : Id) (w' : World), left = pre ++ x :: post → St H (Rg setC g r (ents L) (ents (pre ++ post)) :: fr) w' → Env w w' → (Instr.entry (.pointer (some ⟨r, 0, none⟩))).run Try.prog w' = .ok (.tuple #[.agg #[.int .i64 x.1, .int .i64 x.2], .bool true]) w' →
      wpList Try.prog ops Q rest (a.put o.dst (.tuple #[.bool true, .agg #[.int .i64 x.1, .int .i64 x.2], .bool true])) w') : wpList Try.prog ops Q (o :: rest) a w := by
  refine wpList_mnext hst hg it hop hit (fun h => hDone (by cases left with | nil => rfl | cons x l => simp [ents] at h)) ?_
  intro pre post p w' hl h' en hen
  obtain ⟨A, B, rfl, rfl, rfl⟩ := ents_split hl
  refine hMore A B p.1 w' rfl ?_ en hen
  unfold ents at *
  rw [List.map_append]
  exact h'
theorem rg_left {H : Hp} {fr : List HA} {w : World} {g r : Nat} {L left : List Id} (h : St H (Rg setC g r (ents L) (ents left) :: fr) w) : w.rangeLeft g r = left.length := h.get (fun S hS => by
  obtain ⟨⟨hne, es, clock, since, seen, c0, h1, h2, h3, h4, h5, h6, h7, h8⟩, hS⟩ := hS
  have := congrArg List.length h8
  simp only [List.length_map, ents_len] at this
  simp only [World.rangeLeft, h1, h4]
  simpa using this)
/-- A list that rises. -/
def Rises (l : List Id) : Prop := l.Pairwise (fun a b => idLt a b = true)
theorem idSort_rises {l : List Id} (h : l.Nodup) : Rises (idSort l) := by
  have hs : (idSort l).Pairwise (fun a b => (!(ltOf cmpId) b a) = true) := by
    unfold idSort
    refine List.pairwise_mergeSort (fun a b c h1 h2 => ?_) (fun a b => ?_) l
    · rw [ltOf_id] at *
      simp only [Bool.not_eq_true', idLt_no] at *
      omega
    · rw [ltOf_id, ltOf_id]
      simp only [Bool.or_eq_true, Bool.not_eq_true', idLt_no]
      omega
  have hn : (idSort l).Nodup := (List.mergeSort_perm l _).nodup_iff.2 h
  refine (hs.and hn).imp (fun {a b} hab => ?_)
  obtain ⟨h1, h2⟩ := hab
  rw [ltOf_id] at h1
  simp only [Bool.not_eq_true', idLt_no] at h1
  rw [idLt_iff]
  have : ¬ (a.1 = b.1 ∧ a.2 = b.2) := fun e => h2 (Prod.ext e.1 e.2)
  omega
theorem rises_nodup {l : List Id} (h : Rises l) : l.Nodup := h.imp (fun {a b} hab e => by subst e; rw [idLt_iff] at hab; omega)
/-- Two rising lists with the same members are one. -/
theorem rises_eq : ∀ {l m : List Id}, Rises l → Rises m → (∀ a, a ∈ l ↔ a ∈ m) → l = m
  | [], [], _, _, _ => rfl
  | [], b :: m, _, _, h => by have := (h b).2 (List.mem_cons_self ..); simp at this
  | a :: l, [], _, _, h => by have := (h a).1 (List.mem_cons_self ..); simp at this
  | a :: l, b :: m, hl, hm, h => by
    obtain ⟨l1, l2⟩ := List.pairwise_cons.1 hl
    obtain ⟨m1, m2⟩ := List.pairwise_cons.1 hm
    have hab : a = b := by
      rcases List.mem_cons.1 ((h a).1 (List.mem_cons_self ..)) with e | e
      · exact e
      · rcases List.mem_cons.1 ((h b).2 (List.mem_cons_self ..)) with e' | e'
        · exact e'.symm
        · have x1 := l1 b e'
          have x2 := m1 a e
          rw [idLt_iff] at x1 x2
          omega
    subst hab
    have : l = m := rises_eq l2 m2 (fun x => by
      have := h x
      simp only [List.mem_cons] at this
      constructor
      · intro hx
        rcases this.1 (.inr hx) with e | e
        · subst e
          have := l1 _ hx
          rw [idLt_iff] at this
          omega
        · exact e
      · intro hx
        rcases this.2 (.inr hx) with e | e
        · subst e
          have := m1 _ hx
          rw [idLt_iff] at this
          omega
        · exact e)
    rw [this]
end Go.Proofs.Ytelmhcbdpimaaaa

/- The reference's Put, Sorted, and the law's cut: what they make of ids. -/
set_option linter.unusedVariables false
set_option linter.unusedSimpArgs false
namespace Go.Proofs.Ytelmhcbdpimaaaa
open Go.RowKit Go.Cw
attribute [local go_sem ↓] eql_id neq_id
/-- A rising list with one more id. -/
def putL (a : Id) (l : List Id) : List Id := if a ∈ l then l else ins a l
def sortL (l : List Id) : List Id := l.foldl (fun acc a => putL a acc) []
theorem ins_mem (a b : Id) (l : List Id) : b ∈ ins a l ↔ b = a ∨ b ∈ l := by
  induction l with
  | nil => simp [ins]
  | cons x r ih =>
    unfold ins
    split
    · simp
    · simp only [List.mem_cons, ih]
      constructor
      · rintro (h | h | h)
        · exact .inr (.inl h)
        · exact .inl h
        · exact .inr (.inr h)
      · rintro (h | h | h)
        · exact .inr (.inl h)
        · exact .inl h
        · exact .inr (.inr h)
theorem ins_rises (a : Id) : ∀ (l : List Id), Rises l → a ∉ l → Rises (ins a l)
  | [], _, _ => by simp [ins, Rises]
  | x :: r, h, hn => by
    obtain ⟨h1, h2⟩ := List.pairwise_cons.1 h
    have hax : a ≠ x := fun e => hn (by simp [e])
    have har : a ∉ r := fun e => hn (List.mem_cons_of_mem _ e)
    unfold ins
    split
    · rename_i hlt
      refine List.pairwise_cons.2 ⟨fun b hb => ?_, h⟩
      rcases List.mem_cons.1 hb with e | e
      · rw [e]; exact hlt
      · have := h1 b e
        rw [idLt_iff] at *
        omega
    · rename_i hlt
      refine List.pairwise_cons.2 ⟨fun b hb => ?_, ins_rises a r h2 har⟩
      rcases (ins_mem a b r).1 hb with e | e
      · subst e
        have hne : ¬ (b.1 = x.1 ∧ b.2 = x.2) := fun e => hax (Prod.ext e.1 e.2)
        have hl : idLt b x = false := Bool.eq_false_iff.2 hlt
        rw [idLt_no] at hl
        rw [idLt_iff]
        omega
      · exact h1 b e
theorem putL_mem (a b : Id) (l : List Id) : b ∈ putL a l ↔ b = a ∨ b ∈ l := by
  unfold putL
  split
  · rename_i h
    constructor
    · exact .inr
    · rintro (e | e)
      · rw [e]; exact h
      · exact e
  · exact ins_mem a b l
theorem putL_rises (a : Id) (l : List Id) (h : Rises l) : Rises (putL a l) := by
  unfold putL
  split
  · exact h
  · rename_i hn; exact ins_rises a l h hn
theorem putL_len (a : Id) (l : List Id) : (putL a l).length ≤ l.length + 1 := by
  unfold putL
  split
  · omega
  · rw [ins_len]; exact Nat.le_refl _
theorem foldl_put (l : List Id) : ∀ acc, Rises acc → Rises (l.foldl (fun acc a => putL a acc) acc) ∧ (∀ b, b ∈ l.foldl (fun acc a => putL a acc) acc ↔ b ∈ l ∨ b ∈ acc) ∧ (l.foldl (fun acc a => putL a acc) acc).length ≤ acc.length + l.length := by
  induction l with
  | nil => intro acc h; exact ⟨h, by simp, by simp⟩
  | cons x r ih =>
    intro acc h
    obtain ⟨h1, h2, h3⟩ := ih (putL x acc) (putL_rises x acc h)
    refine ⟨h1, fun b => ?_, ?_⟩
    · rw [List.foldl_cons, h2, putL_mem, List.mem_cons]
      constructor
      · rintro (e | e | e)
        · exact .inl (.inr e)
        · exact .inl (.inl e)
        · exact .inr e
      · rintro ((e | e) | e)
        · exact .inr (.inl e)
        · exact .inl e
        · exact .inr (.inr e)
    · have := putL_len x acc
      simp only [List.foldl_cons, List.length_cons]
      omega
theorem sortL_rises (l : List Id) : Rises (sortL l) := (foldl_put l [] List.Pairwise.nil).1
theorem sortL_mem (l : List Id) (b : Id) : b ∈ sortL l ↔ b ∈ l := by
  have := (foldl_put l [] List.Pairwise.nil).2.1 b
  simpa [sortL] using this
theorem sortL_len (l : List Id) : (sortL l).length ≤ l.length := by
  have := (foldl_put l [] List.Pairwise.nil).2.2
  simpa [sortL] using this
theorem sortL_snoc (l : List Id) (k : Nat) (h : k < l.length) : sortL (l.take (k + 1)) = putL l[k] (sortL (l.take k)) := by
  unfold sortL
  rw [List.take_succ_eq_append_getElem h, List.foldl_append]
  rfl
set_option maxRecDepth 100000 in
theorem put_has (u : Value) (l : List Id) (id : Id) (w : World) (hx : Rw w 2 u (idl l)) (hin : id ∈ l) :
    Calls Try.prog 50 #[u, idV id] w fun e w' => e = .returned u ∧ Below w.heap.size w w' := by
  obtain ⟨H', hle, h2, hy⟩ := (St.start w).box #[.int .i64 id.1, .int .i64 id.2] 28
  have x0 := h2.cell (hy 0 _ rfl)
  have x1 := h2.cell (hy 1 _ rfl)
  have xl := World.block_lt_of_cell? _ _ x0
  have en := (Env.refl w).alloc (.cells #[.int .i64 id.1, .int .i64 id.2] 28)
  have hd : decide (id ∈ l) = true := decide_eq_true hin
  obtain ⟨A, n, c, rfl, _, _, _⟩ := hx.form
  go_enter Try.func50, Try.ntmps50
  go_wp2_with fail
  refine (hasIds_any _ l id _ (hx.alloc _)).mono ?_
  rintro e w1 ⟨rfl, hb1⟩
  rw [hd]
  go_wp2_with fail
  go_ret
  exact ⟨rfl, ((h2.below hb1).weaken hle).toBelow (en.trans (bel_env hb1))⟩
/-- Put, of a list that one owns. -/
theorem put_own (v : Value) (l : List Id) (id : Id) (H : Hp) (fr : List HA) (w : World) (h : St H (Row 28 2 v (idl l) :: fr) w) (hlen : (l.length + 1) * 16 ≤ 140737488355328) :
    Calls Try.prog 50 #[v, idV id] w fun e w' => ∃ v', e = .returned v' ∧ St H (Row 28 2 v' (idl (putL id l)) :: fr) w' ∧ Env w w' := by
  by_cases hin : id ∈ l
  · refine (put_has v l id w (h.row_rw (by omega)) hin).mono ?_
    rintro e w' ⟨rfl, hb⟩
    exact ⟨v, rfl, by unfold putL; rw [if_pos hin]; exact h.below hb, bel_env hb⟩
  · refine (put_new v l id w (h.row_rw (by omega)) hin hlen).mono ?_
    rintro e w' he
    obtain ⟨v', rfl, h', en'⟩ := ResE.lift h he
    exact ⟨v', rfl, by unfold putL; rw [if_neg hin]; exact h'.swap.drop, en'⟩
set_option maxRecDepth 100000 in
set_option maxHeartbeats 800000 in
theorem refSorted_any (u : Value) (l : List Id) (w : World) (hx : Rw w 2 u (idl l)) (hlen : (l.length + 1) * 16 ≤ 140737488355328) :
    Calls Try.prog 80 #[u] w (ResE (snap w) [] w (fun v => v) (fun v => [Row 28 2 v (idl (sortL l))])) := by
  obtain ⟨A, n, c, rfl, hl, hn, hc⟩ := hx.form
  rw [idl_len] at hl
  obtain rfl : n = l.length := by omega
  clear hl
  have h1 := (St.start w).row_lit 28 2 0 #[] rfl (by decide)
  have en1 := (Env.refl w).alloc (.cells #[] 28)
  have hrd := hx.rd
  go_enter Try.func80, Try.ntmps80
  go_wp2_with fail
  go_loopw [3, 4] (fun lv i wr => ∃ k : Nat, k ≤ l.length ∧ i = .int .i64 k ∧ St (snap w) [Row 28 2 lv (idl (sortL (l.take k)))] wr ∧ Env w wr) (fun _ i _ => l.length - (intOf i).toNat)
  case atStart => exact ⟨0, Nat.zero_le _, rfl, h1, en1⟩
  case round =>
    obtain ⟨k, hk, rfl, hst, hen⟩ := hrel
    by_cases hlt : k < l.length
    · obtain ⟨x, HX⟩ : ∃ x, Hid (x = l[k]) := ⟨_, Lib.hid rfl⟩
      have HN : Hid (putL x (sortL (l.take k)) = sortL (l.take (k + 1))) := Lib.hid (by rw [HX.out, sortL_snoc l k hlt])
      have hsl : (sortL (l.take k)).length ≤ k := by
        have := sortL_len (l.take k)
        rw [List.length_take] at this
        omega
      obtain ⟨qb, qoff, qA, qc⟩ := (hrd.rw hst).cells (by omega)
      cases qA
      have q1 := qc _ _ (idl_fst l k hlt)
      have q2 := qc _ _ (idl_snd l k hlt)
      rw [← Nat.add_assoc] at q2
      rw [← HX.out] at q1 q2
      have ql := World.block_lt_of_cell? _ _ q1
      clear qc
      go_wp2_with fail
      refine (put_own _ _ x _ _ _ hst (by omega)).mono ?_
      rintro e w3 ⟨v', rfl, h3, en3⟩
      rw [HN.out] at h3
      go_wp2_with fail
      go_roundw
      case rel => exact ⟨k + 1, by omega, by go_num, h3, hen.trans en3⟩
      case measure => simp [intOf]; omega
    · obtain rfl : k = l.length := by omega
      rw [List.take_length] at hst
      go_wp2_with fail
      go_ret
      exact ⟨_, rfl, hst, hen⟩
theorem cutL_snoc (id : Id) (l : List Id) (k : Nat) (h : k < l.length) : cutL id (l.take (k + 1)) = if l[k] = id then cutL id (l.take k) else cutL id (l.take k) ++ [l[k]] := by
  unfold cutL
  rw [List.take_succ_eq_append_getElem h, List.filter_append]
  by_cases hx : l[k] = id <;> simp [hx]
end Go.Proofs.Ytelmhcbdpimaaaa

/- Records: whether one may be: the parts. -/
set_option linter.unusedVariables false
set_option linter.unusedSimpArgs false
namespace Go.Proofs.Ytelmhcbdpimaaaa
open Go.RowKit Go.Cw Go.Fl
def idErr (a : Id) : Int := if 0 ≤ a.1 ∧ a.1 < 8 then (if 1 ≤ a.2 ∧ a.2 ≤ 1048576 then 0 else 8) else 7
theorem idErr_cases (a : Id) : (a.1 < 0 ∧ idErr a = 7) ∨ (¬ a.1 < 0 ∧ 8 ≤ a.1 ∧ idErr a = 7) ∨ (¬ a.1 < 0 ∧ ¬ 8 ≤ a.1 ∧ a.2 < 1 ∧ idErr a = 8) ∨ (¬ a.1 < 0 ∧ ¬ 8 ≤ a.1 ∧ ¬ a.2 < 1 ∧ 1048576 < a.2 ∧ idErr a = 8) ∨ (¬ a.1 < 0 ∧ ¬ 8 ≤ a.1 ∧ ¬ a.2 < 1 ∧ ¬ 1048576 < a.2 ∧ idErr a = 0) := by
  unfold idErr
  by_cases h1 : a.1 < 0
  · exact .inl ⟨h1, by rw [if_neg (by omega)]⟩
  · by_cases h2 : 8 ≤ a.1
    · exact .inr (.inl ⟨h1, h2, by rw [if_neg (by omega)]⟩)
    · by_cases h3 : a.2 < 1
      · exact .inr (.inr (.inl ⟨h1, h2, h3, by rw [if_pos (by omega), if_neg (by omega)]⟩))
      · by_cases h4 : 1048576 < a.2
        · exact .inr (.inr (.inr (.inl ⟨h1, h2, h3, h4, by rw [if_pos (by omega), if_neg (by omega)]⟩)))
        · exact .inr (.inr (.inr (.inr ⟨h1, h2, h3, h4, by rw [if_pos (by omega), if_pos (by omega)]⟩)))
set_option maxRecDepth 100000 in
set_option maxHeartbeats 800000 in
theorem identCheck_any (a : Id) (w : World) : Calls Try.prog 114 #[idV a] w fun e w' => e = .returned (.int .i64 (idErr a)) ∧ Below w.heap.size w w' := by
  obtain ⟨r, s⟩ := a
  have bel := boxBelow w (.cells #[.int .i64 r, .int .i64 s] 28)
  rcases idErr_cases (r, s) with ⟨h1, h⟩ | ⟨h1, h2, h⟩ | ⟨h1, h2, h3, h⟩ | ⟨h1, h2, h3, h4, h⟩ | ⟨h1, h2, h3, h4, h⟩ <;> simp only at h1 <;> (try simp only at h2) <;> (try simp only at h3) <;> (try simp only at h4) <;> rw [h] <;> clear h
  all_goals
    go_enter Try.func114, Try.ntmps114
    go_wp2_with fail
    go_ret
    exact ⟨rfl, bel⟩
set_option maxRecDepth 100000 in
set_option maxHeartbeats 800000 in
theorem refId_any (a : Id) (w : World) : Calls Try.prog 101 #[idV a] w fun e w' => e = .returned (.int .i64 (idErr a)) ∧ Below w.heap.size w w' := by
  have hR := right_any a
  have hok : Hid (idErr a = if a.1 < 0 ∨ 8 ≤ a.1 then 7 else if idOk a then 0 else 8) := Lib.hid (by
    unfold idErr idOk
    by_cases h1 : a.1 < 0 ∨ 8 ≤ a.1
    · rw [if_neg (by omega), if_pos h1]
    · rw [if_pos (by omega), if_neg h1]
      by_cases h2 : 1 ≤ a.2 ∧ a.2 ≤ 1048576
      · rw [if_pos h2, decide_eq_true (by omega)]; rfl
      · rw [if_neg h2, decide_eq_false (by omega)]; rfl)
  obtain ⟨r, s⟩ := a
  have bel := boxBelow w (.cells #[.int .i64 r, .int .i64 s] 28)
  by_cases h1 : r < 0
  · rw [hok.out, if_pos (.inl h1)]
    clear hok
    replace hR := Lib.hid hR
    go_enter Try.func101, Try.ntmps101
    go_wp2_with fail
    go_ret
    exact ⟨rfl, bel⟩
  · by_cases h2 : 7 < r
    · rw [hok.out, if_pos (.inr (by simp only; omega))]
      clear hok
      replace hR := Lib.hid hR
      go_enter Try.func101, Try.ntmps101
      go_wp2_with fail
      go_ret
      exact ⟨rfl, bel⟩
    · rw [hok.out, if_neg (by simp only; omega)]
      clear hok
      cases hi : idOk (r, s) with
      | true =>
        rw [hi] at hR
        replace hR := Lib.hid hR
        clear hi
        go_enter Try.func101, Try.ntmps101
        go_wp2_with fail
        refine (hR.out _).mono ?_
        rintro e w2 ⟨rfl, hb2⟩
        go_wp2_with fail
        go_ret
        exact ⟨rfl, bel.trans (hb2.mono (by simp))⟩
      | false =>
        rw [hi] at hR
        replace hR := Lib.hid hR
        clear hi
        go_enter Try.func101, Try.ntmps101
        go_wp2_with fail
        refine (hR.out _).mono ?_
        rintro e w2 ⟨rfl, hb2⟩
        go_wp2_with fail
        go_ret
        exact ⟨rfl, bel.trans (hb2.mono (by simp))⟩
/-- A record: its id, its Seq, its Deps' and its Batch's slices, and what these have. -/
abbrev Rc := Id × Int × Value × Value × List Id × List Cm
abbrev recV (x : Rc) : Value := .agg #[.int .i64 x.1.1, .int .i64 x.1.2, .int .i64 x.2.1, x.2.2.1, x.2.2.2.1]
def recc (x : Rc) : List Value := [.int .i64 x.1.1, .int .i64 x.1.2, .int .i64 x.2.1, x.2.2.1, x.2.2.2.1]
def recs (l : List Rc) : List Value := l.flatMap recc
theorem recs_len (l : List Rc) : (recs l).length = l.length * 5 := flat_len recc 5 (fun _ => rfl) l
theorem recs_get (l : List Rc) (k : Nat) (h : k < l.length) : (recs l)[k * 5]? = some (.int .i64 l[k].1.1) ∧ (recs l)[k * 5 + 1]? = some (.int .i64 l[k].1.2) ∧ (recs l)[k * 5 + 2]? = some (.int .i64 l[k].2.1) ∧ (recs l)[k * 5 + 3]? = some l[k].2.2.1 ∧ (recs l)[k * 5 + 4]? = some l[k].2.2.2.1 := by
  have := fun i hi => flat_get recc 5 (fun _ => rfl) l k i h hi
  exact ⟨this 0 (by omega), this 1 (by omega), this 2 (by omega), this 3 (by omega), this 4 (by omega)⟩
/-- A record without its memory. -/
abbrev Rp := Id × Int × List Id × List Cm
abbrev rp (x : Rc) : Rp := (x.1, x.2.1, x.2.2.2.2.1, x.2.2.2.2.2)
def aheadOf : Option Id → Id → Bool
  | none, _ => true
  | some q, d => idLt q d
/-- What is wrong with Deps, behind one. -/
def depsErr (own : Id) : Option Id → List Id → Int
  | _, [] => 0
  | p, d :: r => if idErr d ≠ 0 then idErr d else if d = own then 6 else if aheadOf p d then depsErr own (some d) r else 11
def ownErr (x : Rp) : Int := if idErr x.1 ≠ 0 then idErr x.1 else if 1 ≤ x.2.1 ∧ x.2.1 ≤ 1073741824 then 0 else 9
def depErr (x : Rp) : Int := if 16 < x.2.2.1.length then 10 else depsErr x.1 none x.2.2.1
def recErr (x : Rp) : Int := if ownErr x ≠ 0 then ownErr x else if depErr x ≠ 0 then depErr x else batchErr x.2.2.2
/-- A record's slices may be read, and what they have is such as Go has. -/
structure RcR (w : World) (x : Rc) : Prop where
  d : Rw w 2 x.2.2.1 (idl x.2.2.2.2.1)
  b : Rw w 3 x.2.2.2.1 (cml x.2.2.2.2.2)
  ok : ∀ c ∈ x.2.2.2.2.2, CmW c
theorem RcR.below {w w' : World} {x : Rc} (h : RcR w x) (hb : Below w.heap.size w w') : RcR w' x := ⟨h.d.below hb, h.b.below hb, h.ok⟩
set_option maxRecDepth 100000 in
set_option maxHeartbeats 1600000 in
theorem own_any (x : Rc) (w : World) (h : RcR w x) : Calls Try.prog 87 #[recV x] w fun e w' => e = .returned (.int .i64 (ownErr (rp x))) ∧ Below w.heap.size w w' := by
  obtain ⟨⟨r, s⟩, q, dv, bv, D, Bt⟩ := x
  obtain ⟨dA, dn, dc, hd, _⟩ := h.d.form
  obtain ⟨bA, bn, bc, hb, _⟩ := h.b.form
  simp only at hd hb
  subst hd hb
  clear h
  have bel := boxBelow w (.cells #[.int .i64 r, .int .i64 s, .int .i64 q, .slice dA dn dc, .slice bA bn bc] 128)
  have hI := identCheck_any (r, s) (w.alloc (.cells #[.int .i64 r, .int .i64 s, .int .i64 q, .slice dA dn dc, .slice bA bn bc] 128))
  by_cases hi : idErr (r, s) = 0
  · have hR : ownErr ((r, s), q, D, Bt) = if 1 ≤ q ∧ q ≤ 1073741824 then 0 else 9 := by unfold ownErr; rw [if_neg (by simpa using hi)]
    rw [hR]
    rw [hi] at hI
    clear hR hi
    have hbx := (St.start w).blk #[.int .i64 r, .int .i64 s, .int .i64 q, .slice dA dn dc, .slice bA bn bc] 128
    by_cases h1 : q < 1
    · rw [if_neg (by omega)]
      go_enter Try.func87, Try.ntmps87
      go_wp2_with fail
      refine hI.mono ?_
      rintro e w2 ⟨rfl, hb2⟩
      have hc2 := (hbx.below hb2).blk_cell 2
      go_wp2_with fail
      go_ret
      exact ⟨rfl, bel.trans (hb2.mono (by simp))⟩
    · by_cases h2 : 1073741824 < q
      · rw [if_neg (by omega)]
        go_enter Try.func87, Try.ntmps87
        go_wp2_with fail
        refine hI.mono ?_
        rintro e w2 ⟨rfl, hb2⟩
        have hc2 := (hbx.below hb2).blk_cell 2
        go_wp2_with fail
        go_ret
        exact ⟨rfl, bel.trans (hb2.mono (by simp))⟩
      · rw [if_pos (by omega)]
        go_enter Try.func87, Try.ntmps87
        go_wp2_with fail
        refine hI.mono ?_
        rintro e w2 ⟨rfl, hb2⟩
        have hc2 := (hbx.below hb2).blk_cell 2
        go_wp2_with fail
        go_ret
        exact ⟨rfl, bel.trans (hb2.mono (by simp))⟩
  · have hR : ownErr ((r, s), q, D, Bt) = idErr (r, s) := by unfold ownErr; rw [if_pos (by simpa using hi)]
    rw [hR]
    have hne : (idErr (r, s) != 0) = true := by simpa using hi
    clear hR hi
    generalize idErr (r, s) = E at *
    go_enter Try.func87, Try.ntmps87
    go_wp2_with fail
    refine hI.mono ?_
    rintro e w2 ⟨rfl, hb2⟩
    go_wp2_with fail
    go_ret
    exact ⟨rfl, bel.trans (hb2.mono (by simp))⟩
end Go.Proofs.Ytelmhcbdpimaaaa

/- Records: what is wrong with Deps. -/
set_option linter.unusedVariables false
set_option linter.unusedSimpArgs false
namespace Go.Proofs.Ytelmhcbdpimaaaa
open Go.RowKit Go.Cw Go.Fl
attribute [local go_sem ↓] eql_id neq_id
theorem grow_below (w : World) (os : Array Obj) : Below w.heap.size w (Go.Sort.grow w os) := by
  refine ⟨rfl, rfl, rfl, by simp [Go.Sort.grow], fun k hk => ?_⟩
  simp [Go.Sort.grow, Array.getElem?_append, hk]
theorem cmp_below (a b : Id) (w : World) : Calls Try.prog 92 #[idV a, idV b] w fun e w' => e = .returned (.int .i64 (cmpId a b)) ∧ Below w.heap.size w w' :=
  (compare_any a b w).mono fun e w' ⟨h1, q, os, h2⟩ => ⟨h1, by rw [h2]; exact (bel_drewN (Below.refl _ _) q).trans (grow_below (w.drewN q) os)⟩
theorem cmpId_lt (a b : Id) : (idLt a b = true → cmpId a b < 0) ∧ (idLt a b = false → 0 ≤ cmpId a b) := by
  have h := ltOf_id a b
  unfold ltOf at h
  constructor
  · intro h1; rw [h1] at h; exact of_decide_eq_true h
  · intro h1; rw [h1] at h; have := of_decide_eq_false h; omega
theorem depsErr_step (own : Id) (p : Option Id) (D : List Id) (k : Nat) (h : k < D.length) : depsErr own p (D.drop k) = if idErr D[k] ≠ 0 then idErr D[k] else if D[k] = own then 6 else if aheadOf p D[k] then depsErr own (some D[k]) (D.drop (k + 1)) else 11 := by
  rw [List.drop_eq_getElem_cons h, depsErr]
/-- The one ahead. -/
def prevOf (D : List Id) (k : Nat) : Option Id := match k with
  | 0 => none
  | m + 1 => D[m]?
set_option maxRecDepth 100000 in
set_option maxHeartbeats 3200000 in
theorem deps_any (x : Rc) (w : World) (h : RcR w x) : Calls Try.prog 88 #[recV x] w fun e w' => e = .returned (.int .i64 (depErr (rp x))) ∧ Below w.heap.size w w' := by
  obtain ⟨⟨r, s⟩, q, dv, bv, D, Bt⟩ := x
  obtain ⟨dA, dn, dc, hd, hdl, hdn, hdc⟩ := h.d.form
  obtain ⟨bA, bn, bc, hb, _⟩ := h.b.form
  have hD := h.d.rd
  simp only at hd hb hD hdl
  subst hd hb
  rw [idl_len] at hdl
  obtain rfl : dn = D.length := by omega
  clear h hdl
  obtain ⟨H1, l1, h1, y⟩ := (St.start w).box #[.int .i64 r, .int .i64 s, .int .i64 q, .slice dA D.length dc, .slice bA bn bc] 128
  have en1 := (Env.refl w).alloc (.cells #[.int .i64 r, .int .i64 s, .int .i64 q, .slice dA D.length dc, .slice bA bn bc] 128)
  have y0 := y 0 _ rfl
  have y1 := y 1 _ rfl
  have y3 := y 3 _ rfl
  clear y
  by_cases h16 : 16 < D.length
  · have hR : depErr ((r, s), q, D, Bt) = 10 := if_pos h16
    rw [hR]
    have hI : (16 : Int) < (D.length : Int) := by omega
    clear hR
    go_enter Try.func88, Try.ntmps88
    go_wp2_with fail
    go_ret
    exact ⟨rfl, (h1.weaken l1).toBelow en1⟩
  · have hR : depErr ((r, s), q, D, Bt) = depsErr (r, s) none D := if_neg h16
    rw [hR]
    have hI : ¬ (16 : Int) < (D.length : Int) := by omega
    clear hR
    generalize hG : depsErr (r, s) none D = G at *
    replace hG := Lib.hid hG
    go_enter Try.func88, Try.ntmps88
    go_wp2_with fail
    go_loopw [15] (fun s15 wr => ∃ k : Nat, k ≤ D.length ∧ s15 = .int .i64 (k : Int) ∧ St H1 [] wr ∧ Env w wr ∧ Hid (depsErr (r, s) (prevOf D k) (D.drop k) = G)) (fun s15 _ => D.length - (intOf s15).toNat)
    case atStart => exact ⟨0, by omega, rfl, h1, en1, hG⟩
    case round =>
      clear hG h1 en1
      obtain ⟨k, hk, rfl, hst, hen, hg⟩ := hrel
      by_cases hlt : k < D.length
      · have hstep := depsErr_step (r, s) (prevOf D k) D k hlt
        rw [hg.out] at hstep
        obtain ⟨A0, n0, c0, hv0, hl0, hn0, hc0, hcells0⟩ := hD.mono l1
        cases hv0
        obtain ⟨b, off, rfl, hcells⟩ := hcells0 (by omega)
        have q0 := hst.cell (hcells _ _ (idl_fst D k hlt))
        have q1 := hst.cell (hcells _ _ (idl_snd D k hlt))
        replace hcells := Lib.hid hcells
        rw [← Nat.add_assoc] at q1
        have ql := World.block_lt_of_cell? _ _ q0
        obtain ⟨d, HX⟩ : ∃ x, Hid (x = D[k]) := ⟨_, Lib.hid rfl⟩
        rw [← HX.out] at q0 q1 hstep
        obtain ⟨d1, d2⟩ := d
        simp only at q0 q1
        clear hg hcells0 hc0 hl0
        obtain ⟨H2, l2, h2, z⟩ := hst.box #[.int .i64 d1, .int .i64 d2] 28
        have z0 := z 0 _ rfl
        have z1 := z 1 _ rfl
        have en2 := hen.alloc (.cells #[.int .i64 d1, .int .i64 d2] 28)
        clear z
        have hI := identCheck_any (d1, d2) (wr.alloc (.cells #[.int .i64 d1, .int .i64 d2] 28))
        by_cases hi : idErr (d1, d2) = 0
        · rw [if_neg (by simpa using hi)] at hstep
          rw [hi] at hI
          clear hi
          by_cases ho : (d1, d2) = ((r, s) : Id)
          · rw [if_pos ho] at hstep
            subst hstep
            have hq := idEq_of ho
            simp only at hq
            clear ho
            go_wp2_with fail
            refine hI.mono ?_
            rintro e w3 ⟨rfl, hb3⟩
            have h3 := h2.below hb3
            have x0 := h3.cell z0
            have x1 := h3.cell z1
            have v0 := h3.cell (Hp.cell_le l2 y0)
            have v1 := h3.cell (Hp.cell_le l2 y1)
            have xl := World.block_lt_of_cell? _ _ x0
            have vl := World.block_lt_of_cell? _ _ v0
            go_wp2_with fail
            go_ret
            exact ⟨rfl, (((h3.weaken l2).weaken l1)).toBelow (en2.trans (bel_env hb3))⟩
          · rw [if_neg ho] at hstep
            have hq := idEq_not ho
            simp only at hq
            clear ho
            cases k with
            | zero =>
              replace hstep : G = depsErr (r, s) (some (d1, d2)) (D.drop (0 + 1)) := hstep
              replace hstep := Lib.hid hstep
              simp only [Nat.zero_mul, Nat.add_zero] at q0 q1
              have hd0 : decide ((0 : Int) < ((0 : Nat) : Int)) = false := by decide
              go_wp2_with fail
              refine hI.mono ?_
              rintro e w3 ⟨rfl, hb3⟩
              have h3 := h2.below hb3
              have x0 := h3.cell z0
              have x1 := h3.cell z1
              have v0 := h3.cell (Hp.cell_le l2 y0)
              have v1 := h3.cell (Hp.cell_le l2 y1)
              have v3 := h3.cell (Hp.cell_le l2 y3)
              have xl := World.block_lt_of_cell? _ _ x0
              have vl := World.block_lt_of_cell? _ _ v0
              go_wp2_with fail
              go_quiet (fail)
              go_wp2_with fail
              go_roundw
              case rel => exact ⟨1, by omega, by go_num, (h3.weaken l2).drewN _, (en2.trans (bel_env hb3)).drewN _, Lib.hid (by rw [show prevOf D 1 = some (d1, d2) by unfold prevOf; rw [HX.out]; simp [hlt]]; exact hstep.out.symm)⟩
              case measure => simp [intOf]; omega
            | succ m =>
              have hpv : prevOf D (m + 1) = some D[m] := by unfold prevOf; simp [show m < D.length by omega]
              rw [hpv] at hstep
              have g0 := Hp.cell_le l2 (hcells.out _ _ (idl_fst D m (by omega)))
              have g1 := Hp.cell_le l2 (hcells.out _ _ (idl_snd D m (by omega)))
              rw [← Nat.add_assoc] at g1
              obtain ⟨pd, HY⟩ : ∃ x, Hid (x = D[m]) := ⟨_, Lib.hid rfl⟩
              rw [← HY.out] at g0 g1 hstep
              obtain ⟨p1', p2'⟩ := pd
              simp only at g0 g1
              clear hpv
              have hk1 : (0 : Int) < ((m : Int) + 1) := by omega
              have hm0 : (0 : Int) ≤ (m : Int) := by omega
              have hml : (m : Int) < (D.length : Int) := by omega
              have hw1 : IntKind.i64.wrap ((m : Int) + 1 - 1) = (m : Int) := by rw [IntKind.wrap_i64]; omega
              have hw2 : IntKind.i64.wrap (m : Int) = (m : Int) := by rw [IntKind.wrap_i64]; omega
              have hC := fun w => cmp_below (p1', p2') (d1, d2) w
              obtain ⟨hlt1, hlt2⟩ := cmpId_lt (p1', p2') (d1, d2)
              cases hah : idLt (p1', p2') (d1, d2) with
              | true =>
                have hneg := hlt1 hah
                replace hstep : G = depsErr (r, s) (some (d1, d2)) (D.drop (m + 1 + 1)) := by rw [hstep, show aheadOf (some (p1', p2')) (d1, d2) = idLt (p1', p2') (d1, d2) from rfl, hah]; rfl
                replace hstep := Lib.hid hstep
                clear hlt1 hlt2 hah
                generalize cmpId (p1', p2') (d1, d2) = C at *
                replace hC := Lib.hid hC
                go_wp2_with fail
                refine hI.mono ?_
                rintro e w3 ⟨rfl, hb3⟩
                have h3 := h2.below hb3
                have x0 := h3.cell z0
                have x1 := h3.cell z1
                have v0 := h3.cell (Hp.cell_le l2 y0)
                have v1 := h3.cell (Hp.cell_le l2 y1)
                have v3 := h3.cell (Hp.cell_le l2 y3)
                have p0 := h3.cell g0
                have p1 := h3.cell g1
                have pl := World.block_lt_of_cell? _ _ p0
                have xl := World.block_lt_of_cell? _ _ x0
                have vl := World.block_lt_of_cell? _ _ v0
                go_wp2_with fail
                go_still_tail 11, (by kernel_rfl)
                change wpList _ _ _ _ _ w3.drew
                go_wp2_with fail
                refine (hC.out _).mono ?_
                rintro e w4 ⟨rfl, hb4⟩
                have h4 := h3.drew.below hb4
                go_wp2_with fail
                go_roundw
                case rel => exact ⟨m + 1 + 1, by omega, by go_num, h4.weaken l2, (en2.trans (bel_env hb3)).drew.trans (bel_env hb4), Lib.hid (by rw [show prevOf D (m + 1 + 1) = some (d1, d2) by unfold prevOf; rw [HX.out]; simp [hlt]]; exact hstep.out.symm)⟩
                case measure => simp [intOf]; omega
              | false =>
                have hneg := hlt2 hah
                replace hstep : G = 11 := by rw [hstep, show aheadOf (some (p1', p2')) (d1, d2) = idLt (p1', p2') (d1, d2) from rfl, hah]; rfl
                clear hlt1 hlt2 hah
                generalize cmpId (p1', p2') (d1, d2) = C at *
                replace hC := Lib.hid hC
                subst hstep
                go_wp2_with fail
                refine hI.mono ?_
                rintro e w3 ⟨rfl, hb3⟩
                have h3 := h2.below hb3
                have x0 := h3.cell z0
                have x1 := h3.cell z1
                have v0 := h3.cell (Hp.cell_le l2 y0)
                have v1 := h3.cell (Hp.cell_le l2 y1)
                have v3 := h3.cell (Hp.cell_le l2 y3)
                have p0 := h3.cell g0
                have p1 := h3.cell g1
                have pl := World.block_lt_of_cell? _ _ p0
                have xl := World.block_lt_of_cell? _ _ x0
                have vl := World.block_lt_of_cell? _ _ v0
                go_wp2_with fail
                go_still_tail 11, (by kernel_rfl)
                change wpList _ _ _ _ _ w3.drew
                go_wp2_with fail
                refine (hC.out _).mono ?_
                rintro e w4 ⟨rfl, hb4⟩
                have h4 := h3.drew.below hb4
                go_wp2_with fail
                go_ret
                exact ⟨rfl, ((h4.weaken l2).weaken l1).toBelow ((en2.trans (bel_env hb3)).drew.trans (bel_env hb4))⟩
        · rw [if_pos (by simpa using hi)] at hstep
          have hne : (idErr (d1, d2) != 0) = true := by simpa using hi
          clear hi
          generalize idErr (d1, d2) = E at *
          subst hstep
          go_wp2_with fail
          refine hI.mono ?_
          rintro e w3 ⟨rfl, hb3⟩
          go_wp2_with fail
          go_ret
          exact ⟨rfl, (((h2.below hb3).weaken l2).weaken l1).toBelow (en2.trans (bel_env hb3))⟩
      · obtain rfl : k = D.length := by omega
        have hG2 : G = 0 := by rw [← hg.out, List.drop_length]; rfl
        subst hG2
        clear hg
        go_wp2_with fail
        go_ret
        exact ⟨rfl, (hst.weaken l1).toBelow hen⟩
end Go.Proofs.Ytelmhcbdpimaaaa
