/- Sets of ids: contracts of the package idset. -/
import Derived.Test.YtelmhcbdpimaaaaIdent
import Derived.Test.YtelmhcbdpimaaaaMaps
import Derived.Test.YtelmhcbdpimaaaaFloat
set_option linter.unusedVariables false
set_option linter.unusedSimpArgs false
namespace Go.Proofs.Ytelmhcbdpimaaaa
open Go.RowKit Go.Cw
attribute [local go_sem ↓] eql_id neq_id

theorem equal_id (a b c d : Int) (w : World) : (Op.equal 28 (.agg #[.int .i64 a, .int .i64 b]) (.agg #[.int .i64 c, .int .i64 d])).run Try.prog w = .ok (idEq a b c d) w := by
  have h := eql_id a b c d w
  have h2 : (binOp .eql 28 (.agg #[.int .i64 a, .int .i64 b]) (.agg #[.int .i64 c, .int .i64 d])).run Try.prog w = ((Op.equal 28 (.agg #[.int .i64 a, .int .i64 b]) (.agg #[.int .i64 c, .int .i64 d])).run Try.prog w).andThen fun b w' => .ok (.bool b) w' := run_eql_struct ..
  rw [h2] at h
  cases hr : (Op.equal 28 (.agg #[.int .i64 a, .int .i64 b]) (.agg #[.int .i64 c, .int .i64 d])).run Try.prog w <;> rw [hr] at h <;> simp [Result.andThen] at h
  obtain ⟨rfl, rfl⟩ := h
  rfl
theorem asking_id (a : Id) (w : World) : ∀ (es : List MapEntry) (i : Nat), (∀ e ∈ es, ∃ b : Id, e.key = idV b) →
    ((Instr.findAsking 28 (idV a) es i).run Try.prog w = .ok none w ∧ ∀ e ∈ es, e.key ≠ idV a) ∨
    ∃ j e, (Instr.findAsking 28 (idV a) es i).run Try.prog w = .ok (some (i + j, e.val)) w ∧ es[j]? = some e ∧ e.key = idV a
  | [], i, _ => .inl ⟨rfl, fun _ h => by simp at h⟩
  | e :: es, i, h => by
    obtain ⟨b, hb⟩ := h e (List.mem_cons_self ..)
    have hq := equal_id a.1 a.2 b.1 b.2 w
    by_cases hab : a = b
    · subst hab
      refine .inr ⟨0, e, ?_, rfl, hb⟩
      rw [(idEq_iff (a := a) (b := a)).2 rfl] at hq
      simp [Instr.findAsking, hb, idV, hq, Result.andThen]
    · have hne : idEq a.1 a.2 b.1 b.2 = false := by
        cases hh : idEq a.1 a.2 b.1 b.2 with
        | false => rfl
        | true => exact absurd (idEq_iff.1 hh) hab
      rw [hne] at hq
      have hk : e.key ≠ idV a := by
        rw [hb]
        intro he
        simp only [idV, Value.agg.injEq] at he
        have h1 := congrArg Array.toList he
        simp at h1
        exact hab (Prod.ext h1.1.symm h1.2.symm)
      have hstep : (Instr.findAsking 28 (idV a) (e :: es) i).run Try.prog w = (Instr.findAsking 28 (idV a) es (i + 1)).run Try.prog w := by
        simp [Instr.findAsking, hb, idV, hq, Result.andThen]
      rw [hstep]
      rcases asking_id a w es (i + 1) (fun x hx => h x (List.mem_cons_of_mem _ hx)) with ⟨h1, h2⟩ | ⟨j, x, h1, h2, h3⟩
      · exact .inl ⟨h1, fun x hx => by
          rcases List.mem_cons.1 hx with rfl | hx
          · exact hk
          · exact h2 x hx⟩
      · exact .inr ⟨j + 1, x, by rw [h1, show i + 1 + j = i + (j + 1) by omega], h2, h3⟩
set_option maxRecDepth 100000 in
theorem find_id (a : Id) (w : World) (es : List MapEntry) : (Instr.findKey 28 (idV a) es).run Try.prog w = (Instr.findAsking 28 (idV a) es 0).run Try.prog w := by
  have hS : Try.prog.underlying 28 = some (.struct (Try.prog.fieldsOf 28)) := by kernel_rfl
  cases es with
  | nil => simp [Instr.findKey, run_underlying hS, Instr.findNow, Instr.findAsking, Result.andThen]
  | cons e es =>
    have : Instr.sameNow (.struct (Try.prog.fieldsOf 28)) (idV a) e.key = none := by unfold Instr.sameNow; rfl
    simp [Instr.findKey, run_underlying hS, Instr.findNow, this, Result.andThen]
set_option maxRecDepth 100000 in
theorem kinds_id : Kinds Try.prog 28 (fun v => ∃ a : Id, v = idV a) where
  check := by
    rintro w em v ⟨a, rfl⟩
    kernel_rfl
  find := by
    rintro w x ⟨a, rfl⟩ es hes
    rw [find_id]
    rcases asking_id a w es 0 hes with h | ⟨j, e, h1, h2, h3⟩
    · exact .inl h
    · exact .inr ⟨j, e, by rw [h1, Nat.zero_add], h2, h3⟩
  stays := by
    rintro w v ⟨a, rfl⟩
    simp [Instr.keyThatStays, Instr.sameBits, idV]
/-- The codes of a map from ids to truths that are all true. -/
def setC : Go.Cw.Code Try.prog 28 Id Unit where
  kv := idV
  vv := fun _ => .bool true
  inj := by
    intro a b h
    simp only [idV, Value.agg.injEq] at h
    have h1 := congrArg Array.toList h
    simp at h1
    exact Prod.ext h1.1 h1.2
  kinds := kinds_id
/-- The entries of a set. -/
def ents (L : List Id) : List (Id × Unit) := L.map (fun a => (a, ()))
theorem ents_keys (L : List Id) : (ents L).map (·.1) = L := by unfold ents; rw [List.map_map]; exact List.map_id' L
theorem ents_len (L : List Id) : (ents L).length = L.length := by simp [ents]
theorem ents_look (L : List Id) (a : Id) : setC.at_ (.bool false) false (mlook a (ents L)) = .bool (decide (a ∈ L)) := by
  by_cases h : a ∈ L
  · have : ∀ (M : List Id), a ∈ M → mlook a (ents M) = some () := by
      intro M
      induction M with
      | nil => intro h; simp at h
      | cons b M ih =>
        intro h
        show (if b = a then some () else mlook a (ents M)) = some ()
        by_cases hb : b = a
        · rw [if_pos hb]
        · rw [if_neg hb]
          exact ih (by rcases List.mem_cons.1 h with e | e; exact absurd e.symm hb; exact e)
    rw [this L h, decide_eq_true h]
    rfl
  · rw [lookup_none (by rw [ents_keys]; exact h), decide_eq_false h]
    rfl
/-- A set with one more id. -/
def addL (a : Id) (L : List Id) : List Id := if a ∈ L then L else L ++ [a]
theorem ents_put (L : List Id) (a : Id) : mput a () (ents L) = ents (addL a L) := by
  unfold mput addL
  rw [ents_keys]
  split
  · unfold ents
    rw [List.map_map]
    refine List.map_congr_left (fun b _ => ?_)
    show (if b = a then (a, ()) else (b, ())) = (b, ())
    split
    · rename_i h; rw [h]
    · rfl
  · simp [ents]
/-- A set without an id. -/
def cutL (a : Id) (L : List Id) : List Id := L.filter (fun b => decide (b ≠ a))
theorem ents_del (L : List Id) (a : Id) : mdel a (ents L) = ents (cutL a L) := by
  unfold mdel cutL ents
  rw [List.filter_map]
  rfl
/-- A set at p. -/
def SetA (p : Nat) (L : List Id) : HA := Ex fun g => Star (Blk p #[.map (some g)] 144) (Mp setC g (ents L))
abbrev setP (p : Nat) : Value := .pointer (some ⟨p, 0, none⟩)
theorem setOpen {H : Hp} {fr : List HA} {w : World} {p : Nat} {L : List Id} (h : St H (SetA p L :: fr) w) : ∃ g, St H (Blk p #[.map (some g)] 144 :: Mp setC g (ents L) :: fr) w := by
  obtain ⟨g, hg⟩ := h.openEx
  exact ⟨g, hg.openStar⟩
theorem setShut {H : Hp} {fr : List HA} {w : World} {p g : Nat} {L : List Id} (h : St H (Blk p #[.map (some g)] 144 :: Mp setC g (ents L) :: fr) w) : St H (SetA p L :: fr) w := St.shutEx g h.shutStar
theorem set_nodup {H : Hp} {fr : List HA} {w : World} {p : Nat} {L : List Id} (h : St H (SetA p L :: fr) w) : L.Nodup := by
  obtain ⟨g, hg⟩ := setOpen h
  have := hg.swap.mp_nodup
  rwa [ents_keys] at this
theorem zero_bool (w : World) : (zeroValue 4).run Try.prog w = .ok (.bool false) w := by kernel_rfl
theorem boxBelow (w : World) (o : Obj) : Below w.heap.size w (w.alloc o) := (Below.refl _ _).alloc (Nat.le_refl _) _
set_option maxRecDepth 100000 in
set_option maxHeartbeats 800000 in
theorem has_any (p : Nat) (L : List Id) (a : Id) (H : Hp) (fr : List HA) (w : World) (h : St H (SetA p L :: fr) w) :
    Calls Try.prog 76 #[setP p, idV a] w fun e w' => e = .returned (.bool (decide (a ∈ L))) ∧ Below w.heap.size w w' := by
  obtain ⟨g, h1⟩ := setOpen h
  obtain ⟨H', hle, h2, hx⟩ := h1.box #[.int .i64 a.1, .int .i64 a.2] 28
  have hc : (w.alloc (.cells #[.int .i64 a.1, .int .i64 a.2] 28)).cell? ⟨p, 0, none⟩ = some (.map (some g)) := h2.blk_cell 0
  have hl := h2.blk_lt
  have hlk : ∀ n, (Instr.lookup 91 (.map (some g)) (.agg #[.int .i64 a.1, .int .i64 a.2]) false).run Try.prog ((w.alloc (.cells #[.int .i64 a.1, .int .i64 a.2] 28)).drewN n) = .ok (.bool (decide (a ∈ L))) ((w.alloc (.cells #[.int .i64 a.1, .int .i64 a.2] 28)).drewN n) := fun n => by
    have := (h2.drewN n).swap.mp_get false Try.underlying91 (zero_bool _) a
    rwa [ents_look] at this
  have x0 := h2.cell (hx 0 _ rfl)
  have x1 := h2.cell (hx 1 _ rfl)
  have xl := World.block_lt_of_cell? _ _ x0
  have hb := boxBelow w (.cells #[.int .i64 a.1, .int .i64 a.2] 28)
  clear hx
  obtain ⟨r, hr⟩ : ∃ r, r = decide (a ∈ L) := ⟨_, rfl⟩
  rw [← hr] at hlk ⊢
  go_enter Try.func76, Try.ntmps76
  go_wp2_with fail
  generalize (w.alloc (.cells #[.int .i64 a.1, .int .i64 a.2] 28)) = W at *
  go_quiet (fail)
  go_wp2_with fail
  go_ret
  exact ⟨congrArg (fun x => Ending.returned (Value.bool x)) (by rw [hr]), bel_drewN hb _⟩
set_option maxRecDepth 100000 in
theorem has_nil (a : Id) (w : World) : Calls Try.prog 76 #[.pointer none, idV a] w fun e w' => e = .returned (.bool false) ∧ Below w.heap.size w w' := by
  have hb := boxBelow w (.cells #[.int .i64 a.1, .int .i64 a.2] 28)
  go_enter Try.func76, Try.ntmps76
  go_wp2_with fail
  go_quiet (fail)
  go_wp2_with fail
  go_ret
  exact ⟨rfl, bel_drewN hb _⟩
set_option maxRecDepth 100000 in
set_option maxHeartbeats 800000 in
theorem add_nil (a : Id) (w : World) : Calls Try.prog 108 #[.pointer none, idV a] w fun e w' => e = .returned (.bool false) ∧ Below w.heap.size w w' := by
  have hb := boxBelow w (.cells #[.int .i64 a.1, .int .i64 a.2] 28)
  go_enter Try.func108, Try.ntmps108
  go_wp2_with fail
  go_quiet (fail)
  go_wp2_with fail
  go_ret
  exact ⟨rfl, bel_drewN hb _⟩
set_option maxRecDepth 100000 in
set_option maxHeartbeats 800000 in
theorem setAdd_any (p : Nat) (L : List Id) (a : Id) (H : Hp) (fr : List HA) (w : World) (h : St H (SetA p L :: fr) w) :
    Calls Try.prog 108 #[setP p, idV a] w (Res H fr w (.bool (!decide (a ∈ L))) [SetA p (addL a L)]) := by
  obtain ⟨g, h1⟩ := setOpen h
  obtain ⟨H', hle, h2, hx⟩ := h1.box #[.int .i64 a.1, .int .i64 a.2] 28
  have hc : (w.alloc (.cells #[.int .i64 a.1, .int .i64 a.2] 28)).cell? ⟨p, 0, none⟩ = some (.map (some g)) := h2.blk_cell 0
  have hl := h2.blk_lt
  have hlk : ∀ n, (Instr.lookup 91 (.map (some g)) (.agg #[.int .i64 a.1, .int .i64 a.2]) false).run Try.prog ((w.alloc (.cells #[.int .i64 a.1, .int .i64 a.2] 28)).drewN n) = .ok (.bool (decide (a ∈ L))) ((w.alloc (.cells #[.int .i64 a.1, .int .i64 a.2] 28)).drewN n) := fun n => by
    have := (h2.drewN n).swap.mp_get false Try.underlying91 (zero_bool _) a
    rwa [ents_look] at this
  have x0 := h2.cell (hx 0 _ rfl)
  have x1 := h2.cell (hx 1 _ rfl)
  have xl := World.block_lt_of_cell? _ _ x0
  have en : Env w (w.alloc (.cells #[.int .i64 a.1, .int .i64 a.2] 28)) := (Env.refl w).alloc _
  by_cases hm : a ∈ L
  · have hd : decide (a ∈ L) = true := decide_eq_true hm
    have hN : Hid (addL a L = L) := Lib.hid (if_pos hm)
    rw [hd] at hlk ⊢
    clear hm hx hd
    go_enter Try.func108, Try.ntmps108
    go_wp2_with fail
    generalize (w.alloc (.cells #[.int .i64 a.1, .int .i64 a.2] 28)) = W at *
    go_quiet (fail)
    go_wp2_with fail
    go_ret
    exact ⟨rfl, by rw [hN.out]; exact setShut ((h2.drewN _).weaken hle), en.drewN _⟩
  · have hd : decide (a ∈ L) = false := decide_eq_false hm
    have hN : Hid (addL a L = L ++ [a]) := Lib.hid (if_neg hm)
    have hP := Lib.hid (ents_put L a)
    rw [hd] at hlk ⊢
    have hx0 := hx 0 _ rfl
    have hx1 := hx 1 _ rfl
    clear hm hx hd
    go_enter Try.func108, Try.ntmps108
    go_wp2_with fail
    generalize (w.alloc (.cells #[.int .i64 a.1, .int .i64 a.2] 28)) = W at *
    go_quiet (fail)
    have h3 := h2.drewN nq
    have en3 := en.drewN nq
    clear hc hl x0 x1 xl hlk
    generalize W.drewN nq = W3 at *
    have hc : W3.cell? ⟨p, 0, none⟩ = some (.map (some g)) := h3.blk_cell 0
    have hl := h3.blk_lt
    have x0 := h3.cell hx0
    have x1 := h3.cell hx1
    have xl := World.block_lt_of_cell? _ _ x0
    go_wp2_with fail
    go_still_tail 5, (by kernel_rfl)
    change wpList _ _ _ _ _ W3.drew
    have h4 := h3.drew.swap
    go_wp2_with (at_mapUpdate; refine wpList_mput h4 rfl (.tmp 18) (.tmp 19) (.const (.bool true)) rfl Try.underlying91 rfl a rfl () rfl ?_; intro w5 h5 en5)
    rw [hP.out] at h5
    go_ret
    exact ⟨rfl, setShut (h5.swap.weaken hle), en3.drew.trans en5⟩
set_option maxRecDepth 100000 in
set_option maxHeartbeats 800000 in
theorem rem_nil (a : Id) (w : World) : Calls Try.prog 139 #[.pointer none, idV a] w fun e w' => e = .returned (.bool false) ∧ Below w.heap.size w w' := by
  obtain ⟨H', hle, h2, hx⟩ := (St.start w).box #[.int .i64 a.1, .int .i64 a.2] 28
  have x0 := h2.cell (hx 0 _ rfl)
  have x1 := h2.cell (hx 1 _ rfl)
  have xl := World.block_lt_of_cell? _ _ x0
  have en : Env w (w.alloc (.cells #[.int .i64 a.1, .int .i64 a.2] 28)) := (Env.refl w).alloc _
  go_enter Try.func139, Try.ntmps139
  go_wp2_with fail
  refine (has_nil a _).mono ?_
  rintro e w3 ⟨rfl, hb3⟩
  go_wp2_with fail
  go_ret
  exact ⟨rfl, ((h2.below hb3).weaken hle).toBelow (en.trans (bel_env hb3))⟩
set_option maxRecDepth 100000 in
set_option maxHeartbeats 800000 in
theorem setRem_any (p : Nat) (L : List Id) (a : Id) (H : Hp) (fr : List HA) (w : World) (h : St H (SetA p L :: fr) w) :
    Calls Try.prog 139 #[setP p, idV a] w (Res H fr w (.bool (decide (a ∈ L))) [SetA p (cutL a L)]) := by
  obtain ⟨H', hle, h2, hx⟩ := h.box #[.int .i64 a.1, .int .i64 a.2] 28
  have hx0 := hx 0 _ rfl
  have hx1 := hx 1 _ rfl
  have en : Env w (w.alloc (.cells #[.int .i64 a.1, .int .i64 a.2] 28)) := (Env.refl w).alloc _
  have x0 := h2.cell hx0
  have x1 := h2.cell hx1
  have xl := World.block_lt_of_cell? _ _ x0
  clear hx
  by_cases hm : a ∈ L
  · have hd : decide (a ∈ L) = true := decide_eq_true hm
    have hP := Lib.hid (ents_del L a)
    clear hm
    go_enter Try.func139, Try.ntmps139
    go_wp2_with fail
    generalize w.heap.size = gb at *
    generalize (w.alloc (.cells #[.int .i64 a.1, .int .i64 a.2] 28)) = W at *
    refine (has_any p L a _ _ _ h2).mono ?_
    rintro e w3 ⟨rfl, hb3⟩
    rw [hd]
    obtain ⟨g, h3⟩ := setOpen (h2.below hb3)
    have en3 := en.trans (bel_env hb3)
    clear x0 x1 xl
    have hc : w3.cell? ⟨p, 0, none⟩ = some (.map (some g)) := h3.blk_cell 0
    have hl := h3.blk_lt
    have x0 := h3.cell hx0
    have x1 := h3.cell hx1
    have xl := World.block_lt_of_cell? _ _ x0
    go_wp2_with fail
    go_still_tail 5, (by kernel_rfl)
    change wpList _ _ _ _ _ w3.drew
    have h4 := h3.drew.swap
    go_wp2_with (at_delete; refine wpList_mdel h4 rfl (.tmp 12) (.tmp 13) rfl Try.underlying91 rfl a rfl ?_; intro w5 h5 en5)
    rw [hP.out] at h5
    go_ret
    exact ⟨congrArg (fun x => Ending.returned (Value.bool x)) hd.symm, setShut (h5.swap.weaken hle), en3.drew.trans en5⟩
  · have hd : decide (a ∈ L) = false := decide_eq_false hm
    have hN : Hid (cutL a L = L) := Lib.hid (List.filter_eq_self.2 (fun b hb => decide_eq_true (fun (e : b = a) => hm (e ▸ hb))))
    clear hm
    go_enter Try.func139, Try.ntmps139
    go_wp2_with fail
    generalize w.heap.size = gb at *
    generalize (w.alloc (.cells #[.int .i64 a.1, .int .i64 a.2] 28)) = W at *
    refine (has_any p L a _ _ _ h2).mono ?_
    rintro e w3 ⟨rfl, hb3⟩
    rw [hd]
    go_wp2_with fail
    go_ret
    exact ⟨congrArg (fun x => Ending.returned (Value.bool x)) hd.symm, by rw [hN.out]; exact (h2.below hb3).weaken hle, en.trans (bel_env hb3)⟩
/-- The set of a list's ids. -/
def dedup (l : List Id) : List Id := l.foldl (fun L a => addL a L) []
theorem dedup_snoc (l : List Id) (k : Nat) (h : k < l.length) : dedup (l.take (k + 1)) = addL l[k] (dedup (l.take k)) := by
  unfold dedup
  rw [List.take_succ_eq_append_getElem h, List.foldl_append]
  rfl
set_option maxRecDepth 100000 in
set_option maxHeartbeats 1600000 in
theorem fill_any (p : Nat) (L0 : List Id) (u : Value) (l : List Id) (H : Hp) (fr : List HA) (w : World) (h : St H (SetA p L0 :: fr) w) (hx : Rd H 2 u (idl l)) :
    Calls Try.prog 110 #[setP p, u] w (Res H fr w (.tuple #[]) [SetA p (dedup l)]) := by
  obtain ⟨A, n, c, rfl, hl, hn, hc⟩ := hx.form
  rw [idl_len] at hl
  obtain rfl : n = l.length := by omega
  clear hl
  obtain ⟨g, h1⟩ := setOpen h
  have hcm : w.cell? ⟨p, 0, none⟩ = some (.map (some g)) := h1.blk_cell 0
  have hpl := h1.blk_lt
  replace hc : c ≤ 9223372036854775807 := hc
  obtain ⟨w2, hclr, h2, en2⟩ := h1.swap.mp_clear (ty := 0) Try.underlying91
  go_enter Try.func110, Try.ntmps110
  go_wp2_with fail
  go_loopw [12] (fun i wr => ∃ k : Nat, k ≤ l.length ∧ i = .int .i64 k ∧ St H (Blk p #[.map (some g)] 144 :: Mp setC g (ents (dedup (l.take k))) :: fr) wr ∧ Env w wr) (fun i _ => l.length - (intOf i).toNat)
  case atStart => exact ⟨0, Nat.zero_le _, rfl, h2.swap, en2⟩
  case round =>
    obtain ⟨k, hk, rfl, hst, hen⟩ := hrel
    by_cases hlt : k < l.length
    · obtain ⟨a, HX⟩ : ∃ a, Hid (a = l[k]) := ⟨_, Lib.hid rfl⟩
      have hP : Hid (mput a () (ents (dedup (l.take k))) = ents (dedup (l.take (k + 1)))) := Lib.hid (by rw [HX.out, dedup_snoc l k hlt, ents_put])
      obtain ⟨qb, qoff, qA, qc⟩ := (hx.rw hst).cells (by omega)
      cases qA
      have q1 := qc _ _ (idl_fst l k hlt)
      have q2 := qc _ _ (idl_snd l k hlt)
      rw [← Nat.add_assoc] at q2
      rw [← HX.out] at q1 q2
      have ql := World.block_lt_of_cell? _ _ q1
      clear qc
      obtain ⟨H', hle, h3, hy⟩ := hst.box #[.int .i64 a.1, .int .i64 a.2] 28
      have en3 : Env w (wr.alloc (.cells #[.int .i64 a.1, .int .i64 a.2] 28)) := hen.alloc _
      have hy0 := hy 0 _ rfl
      have hy1 := hy 1 _ rfl
      go_wp2_with fail
      generalize wr.heap.size = gb at *
      generalize (wr.alloc (.cells #[.int .i64 a.1, .int .i64 a.2] 28)) = W3 at *
      clear hy q1 q2 ql hcm hpl
      have hc3 : W3.cell? ⟨p, 0, none⟩ = some (.map (some g)) := h3.blk_cell 0
      have hl3 := h3.blk_lt
      have x0 := h3.cell hy0
      have x1 := h3.cell hy1
      have xl := World.block_lt_of_cell? _ _ x0
      go_still_tail 5, (by kernel_rfl)
      change wpList _ _ _ _ _ W3.drew
      have h4 := h3.drew.swap
      go_wp2_with (at_mapUpdate; refine wpList_mput h4 rfl (.tmp 19) (.tmp 20) (.const (.bool true)) rfl Try.underlying91 rfl a rfl () rfl ?_; intro w5 h5 en5)
      rw [hP.out] at h5
      go_roundw
      case rel => exact ⟨k + 1, by omega, by go_num, h5.swap.weaken hle, en3.drew.trans en5⟩
      case measure => simp [intOf]; omega
    · obtain rfl : k = l.length := by omega
      rw [List.take_length] at hst
      go_wp2_with fail
      go_end0
      exact ⟨rfl, setShut hst, hen⟩
set_option maxRecDepth 100000 in
set_option maxHeartbeats 800000 in
theorem setNew_any (u : Value) (l : List Id) (w : World) (hx : Rw w 2 u (idl l)) :
    Calls Try.prog 77 #[u] w (ResE (snap w) [] w (fun p => setP p) (fun p => [SetA p (dedup l)])) := by
  have h1 := (St.start w).mp_made (C := setC)
  have en1 : Env w (w.alloc (.map #[] 0)) := (Env.refl w).alloc _
  have h2 := h1.blk #[.map (some w.heap.size)] 144
  have en2 := en1.alloc (.cells #[.map (some w.heap.size)] 144)
  have hsz : (w.alloc (.map #[] 0)).heap.size = w.heap.size + 1 := by simp
  rw [hsz] at h2
  have h3 := setShut (L := []) h2
  have hmk := run_makeMap (P := Try.prog) 91 w
  go_enter Try.func77, Try.ntmps77
  go_wp2_with fail
  refine (fill_any (w.heap.size + 1) [] u l _ _ _ h3 hx.rd).mono ?_
  rintro e w4 ⟨rfl, h4, en4⟩
  go_wp2_with fail
  go_ret
  exact ⟨w.heap.size + 1, rfl, h4, en2.trans en4⟩
end Go.Proofs.Ytelmhcbdpimaaaa
