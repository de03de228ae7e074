/- Joined texts: Maps, Cmd, Float. -/
import Derived.Maps.RangeWalk
import Derived.Carry
import Derived.Test.YtcbckeoalmjcoaaGreatCGR1
import Derived.Test.YtcbckeoalmjcoaaGreatCGR2
/- Maps that a call owns: the laws of look-up, store, delete, clear, len and range, over typed lists of entries. -/
set_option linter.unusedVariables false
set_option linter.unusedSimpArgs false
set_option linter.unusedSectionVars false
namespace Go.Cw
open Go.RowKit Go.MapKept
open Go.ChangeMaps (setBlock)

/-- What is known of keys of a type. -/
structure Kinds (P : Program) (k : TypeId) (Key : Value → Prop) : Prop where
  check : ∀ (w : World) (em : Bool) {v : Value}, Key v → (Instr.checkKey em 10000 k v).run P w = .ok () w
  find : ∀ (w : World) {x : Value}, Key x → ∀ es : List MapEntry, (∀ e ∈ es, Key e.key) →
    ((Instr.findKey k x es).run P w = .ok none w ∧ ∀ e ∈ es, e.key ≠ x) ∨ ∃ j e, (Instr.findKey k x es).run P w = .ok (some (j, e.val)) w ∧ es[j]? = some e ∧ e.key = x
  stays : ∀ (w : World) {v : Value}, Key v → (Instr.keyThatStays v v).run P w = .ok v w

section
variable {κ ν : Type} [DecidableEq κ]
/-- The codes of keys and elements. -/
structure Code (P : Program) (k : TypeId) (κ ν : Type) where
  kv : κ → Value
  vv : ν → Value
  inj : ∀ a b, kv a = kv b → a = b
  kinds : Kinds P k (fun v => ∃ a, v = kv a)
variable {P : Program} {k : TypeId} {C : Code P k κ ν}
def Code.enc (C : Code P k κ ν) (p : κ × ν) : Value × Value := (C.kv p.1, C.vv p.2)
def ent (e : MapEntry) : Value × Value := (e.key, e.val)
def mput (a : κ) (x : ν) (l : List (κ × ν)) : List (κ × ν) := if a ∈ l.map (·.1) then l.map (fun p => if p.1 = a then (a, x) else p) else l ++ [(a, x)]
def mdel (a : κ) (l : List (κ × ν)) : List (κ × ν) := l.filter (fun p => decide (p.1 ≠ a))

def Mp (C : Code P k κ ν) (g : Nat) (l : List (κ × ν)) : HA where
  at_ := fun w S => (∃ es clock, w.heap[g]? = some (.map es clock) ∧ Stamped es clock ∧ es.toList.map ent = l.map C.enc) ∧ ∀ j, S j ↔ j = g
  move := fun ⟨⟨es, clock, h, r⟩, hS⟩ hm => ⟨⟨es, clock, (hm g ((hS g).2 rfl)).trans h, r⟩, hS⟩
  lt := fun ⟨⟨es, clock, h, r⟩, hS⟩ j hj => by
    have := (hS j).1 hj
    subst this
    exact (Array.getElem?_eq_some_iff.1 h).1
variable {H : Hp} {fr : List HA} {w : World} {g : Nat} {l : List (κ × ν)}

theorem St.mp_made (h : St H fr w) : St H (Mp C w.heap.size [] :: fr) (w.alloc (.map #[] 0)) :=
  h.new (by simp) (fun j => j = w.heap.size) ⟨⟨#[], 0, heap_alloc_new w _, stamped_empty 0, rfl⟩, fun _ => Iff.rfl⟩ (fun j hj => by omega) (fun j hj => Below.heap_alloc w _ j hj)

theorem nodup_of {es : Array MapEntry} {clock : Nat} (hs : Stamped es clock) (he : es.toList.map ent = l.map C.enc) : (l.map (·.1)).Nodup := by
  have h3 := ((stamped_iff es clock).1 hs).2.2
  have h4 : (es.toList.map ent).Pairwise (fun x y => x.1 ≠ y.1) := List.pairwise_map.2 h3
  rw [he] at h4
  have h5 := List.pairwise_map.1 h4
  exact List.pairwise_map.2 (h5.imp (fun hne he' => hne (by unfold Code.enc; simp only [he'])))
theorem St.mp_nodup (h : St H (Mp C g l :: fr) w) : (l.map (·.1)).Nodup := h.get (fun S hS => by
  obtain ⟨⟨es, clock, hb, hst, he⟩, _⟩ := hS
  exact nodup_of hst he)
/-- The keys of a map's entries are keys. -/
theorem keys_of {es : Array MapEntry} (he : es.toList.map ent = l.map C.enc) : ∀ e ∈ es.toList, ∃ a, e.key = C.kv a := fun e hem => by
  have : ent e ∈ l.map C.enc := he ▸ List.mem_map.2 ⟨e, hem, rfl⟩
  obtain ⟨p, _, hp⟩ := List.mem_map.1 this
  exact ⟨p.1, (congrArg Prod.fst hp).symm⟩
theorem none_of {es : Array MapEntry} (he : es.toList.map ent = l.map C.enc) {a : κ} (hn : ∀ e ∈ es.toList, e.key ≠ C.kv a) : a ∉ l.map (·.1) := fun ha => by
  obtain ⟨p, hp, rfl⟩ := List.mem_map.1 ha
  have : C.enc p ∈ es.toList.map ent := he ▸ List.mem_map.2 ⟨p, hp, rfl⟩
  obtain ⟨e, hem, hee⟩ := List.mem_map.1 this
  exact hn e hem (congrArg Prod.fst hee)
theorem some_of {es : Array MapEntry} (he : es.toList.map ent = l.map C.enc) {a : κ} {j : Nat} {e : MapEntry} (hj : es.toList[j]? = some e) (hk : e.key = C.kv a) : ∃ x, l[j]? = some (a, x) ∧ e.val = C.vv x := by
  have h1 : (es.toList.map ent)[j]? = some (ent e) := by simp [hj]
  rw [he, List.getElem?_map] at h1
  cases hl : l[j]? with
  | none => rw [hl] at h1; simp at h1
  | some p =>
    rw [hl] at h1
    simp only [Option.map_some, Option.some.injEq] at h1
    have h2 := congrArg Prod.fst h1
    have h3 := congrArg Prod.snd h1
    have : p.1 = a := C.inj _ _ (h2.trans hk)
    exact ⟨p.2, by rw [← this], h3.symm⟩
/-- What a key has. -/
def mlook (a : κ) : List (κ × ν) → Option ν
  | [] => none
  | p :: r => if p.1 = a then some p.2 else mlook a r
theorem lookup_none : ∀ {l : List (κ × ν)} {a : κ}, a ∉ l.map (·.1) → mlook a l = none
  | [], _, _ => rfl
  | p :: r, a, h => by
    have h1 : ¬ p.1 = a := fun e => h (by simp [e])
    have h2 : a ∉ r.map (·.1) := fun e => h (by simp only [List.map_cons, List.mem_cons]; exact .inr e)
    rw [mlook, if_neg h1]
    exact lookup_none h2
theorem lookup_some : ∀ {l : List (κ × ν)} {a : κ} {j : Nat} {x : ν}, (l.map (·.1)).Nodup → l[j]? = some (a, x) → mlook a l = some x
  | [], _, _, _, _, h => by simp at h
  | p :: r, a, 0, x, hn, h => by
    simp only [List.getElem?_cons_zero, Option.some.injEq] at h
    subst h
    rw [mlook, if_pos rfl]
  | p :: r, a, j + 1, x, hn, h => by
    simp only [List.map_cons, List.nodup_cons] at hn
    rw [List.getElem?_cons_succ] at h
    have hm : a ∈ r.map (·.1) := List.mem_map.2 ⟨(a, x), List.mem_of_getElem? h, rfl⟩
    have h1 : ¬ p.1 = a := fun e => hn.1 (e ▸ hm)
    rw [mlook, if_neg h1]
    exact lookup_some hn.2 h
/-- What a look-up tells. -/
def Code.at_ (C : Code P k κ ν) (z : Value) (c : Bool) : Option ν → Value
  | some x => if c then .tuple #[C.vv x, .bool true] else C.vv x
  | none => if c then .tuple #[z, .bool false] else z
variable {t e : TypeId}
theorem St.mp_get (h : St H (Mp C g l :: fr) w) (c : Bool) (ht : P.underlying t = some (.map k e)) {z : Value} (hz : (zeroValue e).run P w = .ok z w) (a : κ) :
    (Instr.lookup t (.map (some g)) (C.kv a) c).run P w = .ok (C.at_ z c (mlook a l)) w := h.get (fun S hS => by
  obtain ⟨⟨es, clock, hb, hst, he⟩, _⟩ := hS
  rcases C.kinds.find w ⟨a, rfl⟩ es.toList (keys_of he) with ⟨h1, h2⟩ | ⟨j, e0, h1, h2, h3⟩
  · rw [lookup_none (none_of he h2)]
    cases c <;> simp [Code.at_, Instr.lookup, run_underlying ht, MapKept.run_getObj_map hb, C.kinds.check w _ ⟨a, rfl⟩, h1, hz, Result.andThen]
  · obtain ⟨x, hx, hv⟩ := some_of he h2 h3
    rw [lookup_some (nodup_of hst he) hx]
    cases c <;> simp [Code.at_, Instr.lookup, run_underlying ht, MapKept.run_getObj_map hb, C.kinds.check w _ ⟨a, rfl⟩, h1, hv, Result.andThen])
/-- A nil map has nothing. -/
theorem nilmap_get (C : Code P k κ ν) (c : Bool) (ht : P.underlying t = some (.map k e)) {z : Value} (hz : (zeroValue e).run P w = .ok z w) (a : κ) :
    (Instr.lookup t (.map none) (C.kv a) c).run P w = .ok (C.at_ z c none) w := by
  rcases C.kinds.find w ⟨a, rfl⟩ [] (fun _ h => by simp at h) with ⟨h1, h2⟩ | ⟨j, e0, h1, h2, h3⟩
  · cases c <;> simp [Code.at_, Instr.lookup, run_underlying ht, C.kinds.check w _ ⟨a, rfl⟩, h1, hz, Result.andThen]
  · simp at h2
theorem St.mp_turn (h : St H (Mp C g l :: fr) w) (es' : Array MapEntry) (clock' : Nat) (l' : List (κ × ν)) (hs : Stamped es' clock') (he : es'.toList.map ent = l'.map C.enc) : St H (Mp C g l' :: fr) (setBlock w g (.map es' clock')) :=
  h.turn (by simp [setBlock]) (fun S hS => ⟨S, ⟨⟨es', clock', by obtain ⟨⟨es, clock, hb, _⟩, _⟩ := hS; exact Go.ChangeMaps.heap_setBlock_same hb _, hs, he⟩, hS.2⟩, fun j hj => .inl hj, fun j _ hj => by
    obtain ⟨⟨es, clock, hb, _⟩, hS⟩ := hS
    exact Go.ChangeMaps.heap_setBlock_other hb _ (fun e => hj ((hS j).2 e))⟩)
theorem env_setBlock (w : World) (g : Nat) (o : Obj) : Env w (setBlock w g o) := ⟨rfl, rfl, rfl, by simp [setBlock]⟩
theorem map_upd : ∀ {l : List (κ × ν)} {a : κ} {j : Nat} {y : ν} (x : ν), (l.map (·.1)).Nodup → l[j]? = some (a, y) → l.map (fun p => if p.1 = a then (a, x) else p) = l.set j (a, x)
  | [], _, _, _, _, _, h => by simp at h
  | p :: r, a, 0, y, x, hn, h => by
    simp only [List.getElem?_cons_zero, Option.some.injEq] at h
    subst h
    simp only [List.map_cons, List.nodup_cons] at hn
    simp only [List.map_cons, if_pos, List.set_cons_zero]
    congr 1
    refine (List.map_congr_left (fun q hq => ?_)).trans (List.map_id' r)
    rw [if_neg (fun (e' : q.1 = a) => hn.1 (e' ▸ (List.mem_map.2 ⟨q, hq, rfl⟩ : q.1 ∈ r.map (·.1))))]
  | p :: r, a, j + 1, y, x, hn, h => by
    simp only [List.map_cons, List.nodup_cons] at hn
    rw [List.getElem?_cons_succ] at h
    have hm : a ∈ r.map (·.1) := List.mem_map.2 ⟨(a, y), List.mem_of_getElem? h, rfl⟩
    have h1 : ¬ p.1 = a := fun e => hn.1 (e ▸ hm)
    rw [List.map_cons, if_neg h1, map_upd x hn.2 h, List.set_cons_succ]
theorem St.mp_put (h : St H (Mp C g l :: fr) w) (ht : P.underlying t = some (.map k e)) (a : κ) (x : ν) :
    ∃ w', (Instr.mapUpdate t (.map (some g)) (C.kv a) (C.vv x)).run P w = .ok () w' ∧ St H (Mp C g (mput a x l) :: fr) w' ∧ Env w w' := by
  have hall := h.get (φ := ∃ es clock, w.heap[g]? = some (.map es clock) ∧ Stamped es clock ∧ es.toList.map ent = l.map C.enc) (fun S hS => hS.1)
  obtain ⟨es, clock, hb, hst, he⟩ := hall
  rcases C.kinds.find w ⟨a, rfl⟩ es.toList (keys_of he) with ⟨h1, h2⟩ | ⟨j, e0, h1, h2, h3⟩
  · refine ⟨setBlock w g (.map (es.push ⟨C.kv a, C.vv x, clock⟩) (clock + 1)), ?_, h.mp_turn _ _ _ (stamped_push hst h2) ?_, env_setBlock _ _ _⟩
    · simp [Instr.mapUpdate, run_underlying ht, MapKept.run_getObj_map hb, C.kinds.check w false ⟨a, rfl⟩, h1, MapKept.run_setObj_map _ hb, Result.andThen, setBlock]
    · unfold mput
      rw [if_neg (none_of he h2)]
      simp [he, ent, Code.enc]
  · obtain ⟨y, hx, hv⟩ := some_of he h2 h3
    have hj : es[j]? = some e0 := by simpa using h2
    have hlist : (es.modify j (fun e' => { e' with key := C.kv a, val := C.vv x })).toList = es.toList.set j { e0 with key := C.kv a, val := C.vv x } := by
      rw [Array.toList_modify, Go.ChangeMaps.modify_eq_set _ _ _ _ h2]
    refine ⟨setBlock w g (.map (es.modify j (fun e' => { e' with key := C.kv a, val := C.vv x })) clock), ?_, h.mp_turn _ _ _ (stamped_modify hst _ _ (fun _ _ => rfl) (fun e' _ he' => ?_)) ?_, env_setBlock _ _ _⟩
    · simp [Instr.mapUpdate, run_underlying ht, MapKept.run_getObj_map hb, C.kinds.check w false ⟨a, rfl⟩, h1, hj, h3, C.kinds.stays w ⟨a, rfl⟩, MapKept.run_setObj_map _ hb, Result.andThen, setBlock]
    · rw [hj] at he'; cases he'; exact h3.symm
    · rw [hlist]
      unfold mput
      rw [if_pos (List.mem_map.2 ⟨(a, y), List.mem_of_getElem? hx, rfl⟩), map_upd x (nodup_of hst he) hx, List.map_set, List.map_set, he]
      rfl
theorem filter_del : ∀ {l : List (κ × ν)} {a : κ} {j : Nat} {y : ν}, (l.map (·.1)).Nodup → l[j]? = some (a, y) → mdel a l = l.eraseIdx j
  | [], _, _, _, _, h => by simp at h
  | p :: r, a, 0, y, hn, h => by
    simp only [List.getElem?_cons_zero, Option.some.injEq] at h
    subst h
    simp only [List.map_cons, List.nodup_cons] at hn
    unfold mdel
    rw [List.filter_cons, if_neg (by simp), List.eraseIdx_cons_zero]
    exact List.filter_eq_self.2 (fun q hq => decide_eq_true (fun (e' : q.1 = a) => hn.1 (e' ▸ (List.mem_map.2 ⟨q, hq, rfl⟩ : q.1 ∈ r.map (·.1)))))
  | p :: r, a, j + 1, y, hn, h => by
    simp only [List.map_cons, List.nodup_cons] at hn
    rw [List.getElem?_cons_succ] at h
    have hm : a ∈ r.map (·.1) := List.mem_map.2 ⟨(a, y), List.mem_of_getElem? h, rfl⟩
    have h1 : p.1 ≠ a := fun e => hn.1 (e ▸ hm)
    have ih := filter_del hn.2 h
    unfold mdel at ih ⊢
    rw [List.filter_cons, if_pos (decide_eq_true h1), ih, List.eraseIdx_cons_succ]
theorem St.mp_del {ty : TypeId} (h : St H (Mp C g l :: fr) w) (ht : P.underlying t = some (.map k e)) (a : κ) :
    ∃ w', (Builtin.delete_ #[t, k] ty #[.map (some g), C.kv a]).run P w = .ok (.tuple #[]) w' ∧ St H (Mp C g (mdel a l) :: fr) w' ∧ Env w w' := by
  obtain ⟨es, clock, hb, hst, he⟩ := h.get (φ := ∃ es clock, w.heap[g]? = some (.map es clock) ∧ Stamped es clock ∧ es.toList.map ent = l.map C.enc) (fun S hS => hS.1)
  rcases C.kinds.find w ⟨a, rfl⟩ es.toList (keys_of he) with ⟨h1, h2⟩ | ⟨j, e0, h1, h2, h3⟩
  · refine ⟨setBlock w g (.map es clock), ?_, h.mp_turn _ _ _ hst ?_, env_setBlock _ _ _⟩
    · simp [Builtin.delete_, run_underlying ht, MapKept.run_getObj_map hb, C.kinds.check w _ ⟨a, rfl⟩, h1, MapKept.run_setObj_map _ hb, Result.andThen, setBlock]
    · have hn := none_of he h2
      have hfs : mdel a l = l := List.filter_eq_self.2 (fun q hq => decide_eq_true (fun (e' : q.1 = a) => hn (e' ▸ (List.mem_map.2 ⟨q, hq, rfl⟩ : q.1 ∈ l.map (·.1)))))
      rw [hfs, he]
  · obtain ⟨y, hx, hv⟩ := some_of he h2 h3
    have hjl : j < es.toList.length := (List.getElem?_eq_some_iff.1 h2).1
    have hjs : j < es.size := by simpa using hjl
    have hsub : (es.eraseIdxIfInBounds j).toList = es.toList.eraseIdx j := by
      unfold Array.eraseIdxIfInBounds
      rw [dif_pos hjs]
      simp
    refine ⟨setBlock w g (.map (es.eraseIdxIfInBounds j) clock), ?_, h.mp_turn _ _ _ (stamped_erase hst j) ?_, env_setBlock _ _ _⟩
    · simp [Builtin.delete_, run_underlying ht, MapKept.run_getObj_map hb, C.kinds.check w _ ⟨a, rfl⟩, h1, MapKept.run_setObj_map _ hb, Result.andThen, setBlock]
    · rw [hsub, filter_del (nodup_of hst he) hx, Go.ChangeMaps.map_eraseIdx, Go.ChangeMaps.map_eraseIdx, he]
theorem St.mp_clear {ty : TypeId} (h : St H (Mp C g l :: fr) w) (ht : P.underlying t = some (.map k e)) :
    ∃ w', (Builtin.clear_ #[t] ty #[.map (some g)]).run P w = .ok (.tuple #[]) w' ∧ St H (Mp C g [] :: fr) w' ∧ Env w w' := by
  obtain ⟨es, clock, hb, hst, he⟩ := h.get (φ := ∃ es clock, w.heap[g]? = some (.map es clock) ∧ Stamped es clock ∧ es.toList.map ent = l.map C.enc) (fun S hS => hS.1)
  refine ⟨setBlock w g (.map #[] clock), ?_, h.mp_turn _ _ _ (stamped_empty clock) rfl, env_setBlock _ _ _⟩
  simp [Builtin.clear_, run_underlying ht, MapKept.run_getObj_map hb, MapKept.run_setObj_map _ hb, Result.andThen, setBlock]
theorem St.mp_len {ty : TypeId} (h : St H (Mp C g l :: fr) w) (ht : P.underlying t = some (.map k e)) :
    (Builtin.len_ #[t] ty #[.map (some g)]).run P w = .ok (.int .i64 l.length) w := h.get (fun S hS => by
  obtain ⟨⟨es, clock, hb, hst, he⟩, _⟩ := hS
  have : es.size = l.length := by have := congrArg List.length he; simpa using this
  simp [Builtin.len_, run_underlying ht, MapKept.run_getObj_map hb, Result.andThen, goInt, this])

/-! ### At the operations -/
variable {ops : Array Oper} {rest : List Oper} {o : Oper} {a : Act} {Q : Exit → Act → World → Prop}
theorem wpList_mget (hst : St H (Mp C g l :: fr) w) (hg : o.guard = none) (m x : Operand) (c : Bool) (hop : o.op = Op.lookup t m x c) (ht : P.underlying t = some (.map k e)) {z : Value} (hz : (zeroValue e).run P w = .ok z w)
    (hm : a.eval m = .map (some g)) (y : κ) (hx : a.eval x = C.kv y) (hK : wpList P ops Q rest (a.put o.dst (C.at_ z c (mlook y l))) w) : wpList P ops Q (o :: rest) a w := by
  refine wpList_plain hg fun K' hK' => ?_
  have hrun := hst.mp_get c ht hz y
  unfold Oper.wp
  simp [execOp, hop, hm, hx, hrun, Result.andThen]
  exact hK' _ _ hK
theorem wpList_mput (hst : St H (Mp C g l :: fr) w) (hg : o.guard = none) (m x u : Operand) (hop : o.op = Op.mapUpdate t m x u) (ht : P.underlying t = some (.map k e))
    (hm : a.eval m = .map (some g)) (y : κ) (hx : a.eval x = C.kv y) (v : ν) (hu : a.eval u = C.vv v) (hK : ∀ w', St H (Mp C g (mput y v l) :: fr) w' → Env w w' → wpList P ops Q rest (a.put o.dst undef) w') : wpList P ops Q (o :: rest) a w := by
  refine wpList_plain hg fun K' hK' => ?_
  obtain ⟨w', hrun, h1, h2⟩ := hst.mp_put ht y v
  unfold Oper.wp
  simp [execOp, hop, hm, hx, hu, hrun, Result.andThen]
  exact hK' _ _ (hK w' h1 h2)
theorem wpList_mdel (hst : St H (Mp C g l :: fr) w) (hg : o.guard = none) (m x : Operand) (hop : o.op = Op.call { callee := Callee.builtin Builtin.delete, args := #[m, x], argTypes := #[t, k] }) (ht : P.underlying t = some (.map k e))
    (hm : a.eval m = .map (some g)) (y : κ) (hx : a.eval x = C.kv y) (hK : ∀ w', St H (Mp C g (mdel y l) :: fr) w' → Env w w' → wpList P ops Q rest (a.put o.dst (.tuple #[])) w') : wpList P ops Q (o :: rest) a w := by
  refine wpList_plain hg fun K' hK' => ?_
  obtain ⟨w', hrun, h1, h2⟩ := hst.mp_del (ty := o.type) ht y
  unfold Oper.wp
  simp [execOp, hop, resolve, invoke, builtin, hm, hx, hrun, Result.andThen]
  exact hK' _ _ (hK w' h1 h2)
theorem wpList_mclear (hst : St H (Mp C g l :: fr) w) (hg : o.guard = none) (m : Operand) (hop : o.op = Op.call { callee := Callee.builtin Builtin.clear, args := #[m], argTypes := #[t] }) (ht : P.underlying t = some (.map k e))
    (hm : a.eval m = .map (some g)) (hK : ∀ w', St H (Mp C g ([] : List (κ × ν)) :: fr) w' → Env w w' → wpList P ops Q rest (a.put o.dst (.tuple #[])) w') : wpList P ops Q (o :: rest) a w := by
  refine wpList_plain hg fun K' hK' => ?_
  obtain ⟨w', hrun, h1, h2⟩ := hst.mp_clear (ty := o.type) ht
  unfold Oper.wp
  simp [execOp, hop, resolve, invoke, builtin, hm, hrun, Result.andThen]
  exact hK' _ _ (hK w' h1 h2)
theorem wpList_mlen (hst : St H (Mp C g l :: fr) w) (hg : o.guard = none) (m : Operand) (hop : o.op = Op.call { callee := Callee.builtin Builtin.len, args := #[m], argTypes := #[t] }) (ht : P.underlying t = some (.map k e))
    (hm : a.eval m = .map (some g)) (hK : wpList P ops Q rest (a.put o.dst (.int .i64 l.length)) w) : wpList P ops Q (o :: rest) a w := by
  refine wpList_plain hg fun K' hK' => ?_
  have hrun := hst.mp_len (ty := o.type) ht
  unfold Oper.wp
  simp [execOp, hop, resolve, invoke, builtin, hm, hrun, Result.andThen]
  exact hK' _ _ hK

/-! ### Range -/
/-- A map under way: the entries that are still to come. -/
def Rg (C : Code P k κ ν) (g r : Nat) (l left : List (κ × ν)) : HA where
  at_ := fun w S => (g ≠ r ∧ ∃ es clock since seen c0, w.heap[g]? = some (.map es clock) ∧ Stamped es clock ∧ es.toList.map ent = l.map C.enc ∧ w.heap[r]? = some (.mapIter (some g) since seen c0) ∧
    (∀ x ∈ es.toList, x.born < since) ∧ since ≤ c0 ∧ since ≤ clock ∧ (leftOf es seen).toList.map ent = left.map C.enc) ∧ ∀ j, S j ↔ (j = g ∨ j = r)
  move := fun ⟨⟨hne, es, clock, since, seen, c0, h1, h2, h3, h4, r'⟩, hS⟩ hm => ⟨⟨hne, es, clock, since, seen, c0, (hm g ((hS g).2 (.inl rfl))).trans h1, h2, h3, (hm r ((hS r).2 (.inr rfl))).trans h4, r'⟩, hS⟩
  lt := fun ⟨⟨hne, es, clock, since, seen, c0, h1, h2, h3, h4, r'⟩, hS⟩ j hj => by
    rcases (hS j).1 hj with e | e
    · subst e; exact (Array.getElem?_eq_some_iff.1 h1).1
    · subst e; exact (Array.getElem?_eq_some_iff.1 h4).1
theorem St.rg_end {r : Nat} {left : List (κ × ν)} (h : St H (Rg C g r l left :: fr) w) : St H (Mp C g l :: fr) w :=
  h.turn (Nat.le_refl _) (fun S hS => ⟨fun j => j = g, by obtain ⟨⟨hne, es, clock, since, seen, c0, h1, h2, h3, r'⟩, hS⟩ := hS; exact ⟨⟨es, clock, h1, h2, h3⟩, fun _ => Iff.rfl⟩, fun j hj => .inl ((hS.2 j).2 (.inl hj)), fun _ _ _ => rfl⟩)
theorem wpList_mrange (hst : St H (Mp C g l :: fr) w) (hg : o.guard = none) (m : Operand) (hop : o.op = Op.range t m) (ht : P.underlying t = some (.map k e)) (hm : a.eval m = .map (some g))
    (hK : ∀ w', St H (Rg C g w.heap.size l l :: fr) w' → Env w w' → wpList P ops Q rest (a.put o.dst (.pointer (some ⟨w.heap.size, 0, none⟩))) w') : wpList P ops Q (o :: rest) a w := by
  refine wpList_plain hg fun K' hK' => ?_
  obtain ⟨es, clock, hb, hs, he⟩ := hst.get (φ := ∃ es clock, w.heap[g]? = some (.map es clock) ∧ Stamped es clock ∧ es.toList.map ent = l.map C.enc) (fun S hS => hS.1)
  have hrun := run_range_map w t k e g es clock ht hb
  have hlt := (Array.getElem?_eq_some_iff.1 hb).1
  unfold Oper.wp
  simp [execOp, hop, hm, hrun, Result.andThen]
  refine hK' _ _ (hK _ ?_ ((Env.refl w).alloc _))
  refine hst.turn (by simp) (fun S hS => ⟨fun j => j = g ∨ j = w.heap.size, ⟨⟨by omega, es, clock, clock, #[], clock, (Below.heap_alloc w _ _ hlt).trans hb, hs, he, heap_alloc_new w _, ((stamped_iff es clock).1 hs).1, Nat.le_refl _, Nat.le_refl _, ?_⟩, fun _ => Iff.rfl⟩, ?_, fun j hj _ => Below.heap_alloc w _ _ hj⟩)
  · rw [show leftOf es #[] = es by simp [leftOf], he]
  · rintro j (rfl | rfl)
    · exact .inl ((hS.2 _).2 rfl)
    · exact .inr (Nat.le_refl _)
theorem left_split {es : Array MapEntry} {clock : Nat} {seen : Array Nat} (hs : Stamped es clock) {x : MapEntry} {A B : List MapEntry} (h : (leftOf es seen).toList = A ++ x :: B) : (leftOf es (seen.push x.born)).toList = A ++ B := by
  have hnd : ((leftOf es seen).toList.map (·.born)).Nodup := by
    have h2 := ((stamped_iff es clock).1 hs).2.1
    refine h2.sublist (List.Sublist.map _ ?_)
    unfold leftOf
    rw [Array.toList_filter]
    exact List.filter_sublist
  have h3 : (leftOf es (seen.push x.born)).toList = (leftOf es seen).toList.filter (fun y => decide (y.born ≠ x.born)) := by
    unfold leftOf
    rw [Array.toList_filter, Array.toList_filter, List.filter_filter]
    refine List.filter_congr (fun y _ => ?_)
    rw [contains_push]
    by_cases hb : y.born = x.born <;> cases seen.contains y.born <;> simp [hb]
  rw [h3, h]
  rw [h] at hnd
  rw [List.map_append, List.map_cons, List.nodup_append] at hnd
  obtain ⟨_, h5, h6⟩ := hnd
  rw [List.nodup_cons] at h5
  rw [List.filter_append, List.filter_cons, if_neg (by simp)]
  congr 1
  · exact List.filter_eq_self.2 (fun y hy => decide_eq_true (h6 _ (List.mem_map.2 ⟨y, hy, rfl⟩) _ (List.mem_cons_self ..)))
  · exact List.filter_eq_self.2 (fun y hy => decide_eq_true (fun e' => h5.1 (e' ▸ (List.mem_map.2 ⟨y, hy, rfl⟩ : y.born ∈ B.map (·.born)))))
theorem wpList_mnext {r : Nat} {left : List (κ × ν)} (hst : St H (Rg C g r l left :: fr) w) (hg : o.guard = none) (it : Operand) (hop : o.op = Op.next it false) (hit : a.eval it = .pointer (some ⟨r, 0, none⟩))
    (hDone : left = [] → wpList P ops Q rest (a.put o.dst (.tuple #[.bool false])) w)
    (hMore : ∀ (pre post : List (κ × ν)) (p : κ × ν) (w' : World), left = pre ++ p :: post → St H (Rg C g r l (pre ++ post) :: fr) w' → Env w w' → (Instr.entry (.pointer (some ⟨r, 0, none⟩))).run P w' = .ok (.tuple #[C.kv p.1, C.vv p.2]) w' →
      wpList P ops Q rest (a.put o.dst (.tuple #[.bool true, C.kv p.1, C.vv p.2])) w') : wpList P ops Q (o :: rest) a w := by
  refine wpList_plain hg fun K' hK' => ?_
  obtain ⟨hne, es, clock, since, seen, c0, hb, hs, he, hr, hold, hsc, hsk, hleft⟩ := hst.get (φ := g ≠ r ∧ ∃ es clock since seen c0, w.heap[g]? = some (.map es clock) ∧ Stamped es clock ∧ es.toList.map ent = l.map C.enc ∧ w.heap[r]? = some (.mapIter (some g) since seen c0) ∧
    (∀ x ∈ es.toList, x.born < since) ∧ since ≤ c0 ∧ since ≤ clock ∧ (leftOf es seen).toList.map ent = left.map C.enc) (fun S hS => hS.1)
  unfold Oper.wp
  rcases run_next_at (P := P) w o.type r g since c0 seen es clock hr hb hold hsc with ⟨h0, hrun⟩ | ⟨x, hx, w1, hal, hrun⟩
  · simp [execOp, hop, hit, hrun, Result.andThen]
    refine hK' _ _ (hDone ?_)
    have : left.length = 0 := by have := congrArg List.length hleft; simp at this; omega
    exact List.length_eq_zero_iff.1 this
  · obtain ⟨A, B, hAB⟩ := List.append_of_mem hx
    have h1 := hleft
    rw [hAB, List.map_append, List.map_cons] at h1
    obtain ⟨pre, q, rfl, hpre, hq⟩ := List.map_eq_append_iff.1 h1.symm
    obtain ⟨p, post, rfl, hp, hpost⟩ := List.map_eq_cons_iff.1 hq
    simp [execOp, hop, hit, hrun, Result.andThen]
    have hk1 : x.key = C.kv p.1 := (congrArg Prod.fst hp).symm
    have hv1 : x.val = C.vv p.2 := (congrArg Prod.snd hp).symm
    have hg' : (setBlock w1 r (.mapIter (some g) since (seen.push x.born) clock)).heap[g]? = some (.map es clock) := by
      have : (setBlock w1 r (.mapIter (some g) since (seen.push x.born) clock)).heap[g]? = w1.heap[g]? := by simp [setBlock, Array.getElem?_setIfInBounds, hne.symm]
      rw [this]
      rcases hal with rfl | rfl <;> exact hb
    have hr' : (setBlock w1 r (.mapIter (some g) since (seen.push x.born) clock)).heap[r]? = some (.mapIter (some g) since (seen.push x.born) clock) := by
      have hlt := (Array.getElem?_eq_some_iff.1 hr).1
      rcases hal with rfl | rfl <;> simp [setBlock, Array.getElem?_setIfInBounds, hlt]
    have hen := run_entry_at (P := P) _ r g since seen es clock x hr' hg' (mem_left hx).1 ((stamped_iff es clock).1 hs).2.1
    rw [hk1, hv1] at hen
    rw [hk1, hv1]
    refine hK' _ _ (hMore pre post p _ rfl ?_ ?_ hen)
    · refine hst.turn ?_ (fun S hS => ⟨S, ⟨⟨hne, es, clock, since, seen.push x.born, clock, hg', hs, he, hr', hold, hsk, hsk, ?_⟩, hS.2⟩, fun j hj => .inl hj, ?_⟩)
      · rcases hal with rfl | rfl <;> simp [setBlock]
      · rw [left_split hs hAB, List.map_append, List.map_append, hpre, hpost]
      · intro j hj hn
        have : j ≠ r := fun e => hn ((hS.2 j).2 (.inr e))
        rcases hal with rfl | rfl <;> simp [setBlock, Array.getElem?_setIfInBounds, this.symm] <;> rfl
    · rcases hal with rfl | rfl
      · exact env_setBlock _ _ _
      · exact (Env.refl w).drew.trans (env_setBlock _ _ _)
end
end Go.Cw

/- Keys and commands: contracts of cmd.key, cmd.word, cmd.Check and of the reference's Key, Same. -/
set_option linter.unusedVariables false
set_option linter.unusedSimpArgs false
namespace Go.Proofs.YtcbckeoalmjcoaaGreat
open Go.RowKit Go.Cw
attribute [local go_sem ↓] eql_id neq_id

/-- May a byte stand in a key? -/
def kb (c : UInt8) : Bool := (decide (97 ≤ c.toNat) && decide (c.toNat ≤ 122)) || (decide (48 ≤ c.toNat) && decide (c.toNat ≤ 57))
def kbi (x : Int) : Bool := (decide (97 ≤ x) && decide (x ≤ 122)) || (decide (48 ≤ x) && decide (x ≤ 57))
def keyOk (s : ByteArray) : Bool := s.data.toList.all kb && (decide (1 ≤ s.size) && decide (s.size ≤ 12))
theorem all_drop {k : Nat} (s : ByteArray) (h : k < s.size) : (s.data.toList.drop k).all kb = (kb s[k] && (s.data.toList.drop (k + 1)).all kb) := by
  have h' : k < s.data.toList.length := by simpa using h
  rw [List.drop_eq_getElem_cons h', List.all_cons]
  rfl
theorem kb_eq (c : UInt8) : kb c = kbi c.toNat := by
  unfold kb kbi
  congr 1 <;> congr 1 <;> (apply decide_eq_decide.2; omega)
theorem kb_cases (x : Int) : (kbi x = true ∧ 97 ≤ x ∧ x ≤ 122 ∧ ¬ x < 97 ∧ ¬ 122 < x) ∨ (kbi x = true ∧ 48 ≤ x ∧ x ≤ 57 ∧ x < 97 ∧ ¬ x < 48 ∧ ¬ 57 < x) ∨ (kbi x = false ∧ x < 48 ∧ x < 97) ∨ (kbi x = false ∧ 48 ≤ x ∧ 57 < x ∧ x < 97 ∧ ¬ x ≤ 57) ∨ (kbi x = false ∧ 122 < x ∧ 97 ≤ x ∧ 48 ≤ x ∧ 57 < x ∧ ¬ x ≤ 122 ∧ ¬ x ≤ 57) := by
  unfold kbi
  simp only [Bool.or_eq_true, Bool.and_eq_true, decide_eq_true_eq, Bool.or_eq_false_iff, Bool.and_eq_false_iff, decide_eq_false_iff_not]
  omega
theorem keyOk_no {s : ByteArray} {k : Nat} (h : k < s.size) (ha : s.data.toList.all kb = (s.data.toList.drop k).all kb) (hk : kb s[k] = false) : keyOk s = false := by
  unfold keyOk
  rw [ha, all_drop s h, hk]
  rfl
theorem keyOk_yes {s : ByteArray} (ha : s.data.toList.all kb = (s.data.toList.drop s.size).all kb) : keyOk s = (decide (1 ≤ s.size) && decide (s.size ≤ 12)) := by
  unfold keyOk
  rw [ha, List.drop_eq_nil_of_le (by simp)]
  rfl
set_option maxRecDepth 100000 in
set_option maxHeartbeats 800000 in
theorem refKey_any (s : ByteArray) (w : World) (hs : s.size ≤ 9223372036854775807) :
    Calls Tryz.prog 104 #[.string s] w fun e w' => e = .returned (.bool (keyOk s)) ∧ w = w' := by
  go_enter Tryz.func104, Tryz.ntmps104
  go_wp2_with fail
  go_loopw [3] (fun i wr => ∃ k : Nat, k ≤ s.size ∧ i = .int .i64 k ∧ Hid (s.data.toList.all kb = (s.data.toList.drop k).all kb) ∧ w = wr) (fun i _ => s.size - (intOf i).toNat)
  case atStart => exact ⟨0, Nat.zero_le _, rfl, Lib.hid rfl, rfl⟩
  case round =>
    obtain ⟨k, hk, rfl, HI, rfl⟩ := hrel
    by_cases hlt : k < s.size
    · have HS := Lib.hid (all_drop s hlt)
      have HK := Lib.hid (kb_eq s[k])
      have hat : s.data[k]? = some s[k] := Array.getElem?_eq_getElem hlt
      rcases kb_cases (s[k]).toNat with ⟨h0, h1, h2, h3, h4⟩ | ⟨h0, h1, h2, h3, h4, h5⟩ | ⟨h0, h1, h2⟩ | ⟨h0, h1, h2, h3, h4⟩ | ⟨h0, h1, h2, h3, h4, h5, h6⟩
      · have HN : Hid (s.data.toList.all kb = (s.data.toList.drop (k + 1)).all kb) := Lib.hid (by rw [HI.out, HS.out, HK.out, h0]; rfl)
        go_wp2_with fail
        all_goals
          go_roundw
          case rel => exact ⟨k + 1, by omega, by go_num, HN, by first | rfl | trivial⟩
          case measure => simp [intOf]; omega
      · have HN : Hid (s.data.toList.all kb = (s.data.toList.drop (k + 1)).all kb) := Lib.hid (by rw [HI.out, HS.out, HK.out, h0]; rfl)
        go_wp2_with fail
        all_goals
          go_roundw
          case rel => exact ⟨k + 1, by omega, by go_num, HN, by first | rfl | trivial⟩
          case measure => simp [intOf]; omega
      all_goals
        have HN : Hid (keyOk s = false) := Lib.hid (keyOk_no hlt HI.out (HK.out.trans h0))
        go_wp2_with fail
        go_ret
        exact ⟨rb HN.out.symm, rfl⟩
    · obtain rfl : k = s.size := by omega
      have HN := Lib.hid (keyOk_yes HI.out)
      by_cases h1 : 1 ≤ s.size
      · go_wp2_with fail
        go_ret
        exact ⟨rb (by rw [HN.out]; simp [h1] <;> omega), rfl⟩
      · go_wp2_with fail
        go_ret
        exact ⟨rb (by rw [HN.out]; simp [h1] <;> omega), rfl⟩
set_option maxRecDepth 100000 in
set_option maxHeartbeats 800000 in
theorem key_any (s : ByteArray) (w : World) (hs : s.size ≤ 9223372036854775807) :
    Calls Tryz.prog 117 #[.string s] w fun e w' => e = .returned (.bool (keyOk s)) ∧ Below w.heap.size w w' := by
  have hcv := run_bytes_of_string (P := Tryz.prog) w 9 147 5 s Tryz.underlying9 Tryz.underlying147 Tryz.underlying5
  have hcell : ∀ c k, (hlt : k < s.size) → (w.drew.alloc (.cells (bytesRow s c) 5 ((bytesRow s c).size, (bytesRow s c).size + 1))).cell? ⟨w.heap.size, k, none⟩ = some (.int .u8 (s[k].toNat : Int)) := by
    intro c k hlt
    have h1 := heap_alloc_new w.drew (.cells (bytesRow s c) 5 ((bytesRow s c).size, (bytesRow s c).size + 1))
    have h2 : (bytesRow s c)[k]? = some (.int .u8 (s[k].toNat : Int)) := by
      unfold bytesRow
      rw [Array.getElem?_append_left (by simpa using hlt)]
      simp [Array.getElem?_eq_getElem (show k < s.data.size from hlt)]
      rfl
    unfold World.cell?
    have h3 : (w.drew.alloc (.cells (bytesRow s c) 5 ((bytesRow s c).size, (bytesRow s c).size + 1))).heap[w.heap.size]? = _ := h1
    rw [h3]
    exact h2
  have hbel : ∀ c, Below w.heap.size w (w.drew.alloc (.cells (bytesRow s c) 5 ((bytesRow s c).size, (bytesRow s c).size + 1))) := fun c => (Below.refl _ w).drew.alloc (Nat.le_refl _) _
  have hcap : s.size ≤ grownCap w s.size 0 5 := grownCap_ge _ _ _ _
  generalize grownCap w s.size 0 5 = c at *
  have hcell := hcell c
  have hbel := hbel c
  generalize (w.drew.alloc (.cells (bytesRow s c) 5 ((bytesRow s c).size, (bytesRow s c).size + 1))) = w1 at *
  go_enter Tryz.func117, Tryz.ntmps117
  go_wp2_with fail
  go_loopw [8] (fun i wr => ∃ k : Nat, k ≤ s.size ∧ i = .int .i64 k ∧ Hid (s.data.toList.all kb = (s.data.toList.drop k).all kb) ∧ w1 = wr) (fun i _ => s.size - (intOf i).toNat)
  case atStart => exact ⟨0, Nat.zero_le _, rfl, Lib.hid rfl, rfl⟩
  case round =>
    obtain ⟨k, hk, rfl, HI, rfl⟩ := hrel
    by_cases hlt : k < s.size
    · have HS := Lib.hid (all_drop s hlt)
      have HK := Lib.hid (kb_eq s[k])
      have hat := hcell k hlt
      rcases kb_cases (s[k]).toNat with ⟨h0, h1, h2, h3, h4⟩ | ⟨h0, h1, h2, h3, h4, h5⟩ | ⟨h0, h1, h2⟩ | ⟨h0, h1, h2, h3, h4⟩ | ⟨h0, h1, h2, h3, h4, h5, h6⟩
      · have HN : Hid (s.data.toList.all kb = (s.data.toList.drop (k + 1)).all kb) := Lib.hid (by rw [HI.out, HS.out, HK.out, h0]; rfl)
        go_wp2_with fail
        all_goals
          go_roundw
          case rel => exact ⟨k + 1, by omega, by go_num, HN, by first | rfl | trivial⟩
          case measure => simp [intOf]; omega
      · have HN : Hid (s.data.toList.all kb = (s.data.toList.drop (k + 1)).all kb) := Lib.hid (by rw [HI.out, HS.out, HK.out, h0]; rfl)
        go_wp2_with fail
        all_goals
          go_roundw
          case rel => exact ⟨k + 1, by omega, by go_num, HN, by first | rfl | trivial⟩
          case measure => simp [intOf]; omega
      all_goals
        have HN : Hid (keyOk s = false) := Lib.hid (keyOk_no hlt HI.out (HK.out.trans h0))
        go_wp2_with fail
        go_ret
        exact ⟨rb HN.out.symm, hbel⟩
    · obtain rfl : k = s.size := by omega
      have HN := Lib.hid (keyOk_yes HI.out)
      by_cases h1 : 1 ≤ s.size
      · go_wp2_with fail
        go_ret
        exact ⟨rb (by rw [HN.out]; simp [h1] <;> omega), hbel⟩
      · go_wp2_with fail
        go_ret
        exact ⟨rb (by rw [HN.out]; simp [h1] <;> omega), hbel⟩
end Go.Proofs.YtcbckeoalmjcoaaGreat

/- Numbers: contracts of real.Same and of the reference's Nan, Same at what chains need. -/
set_option linter.unusedVariables false
set_option linter.unusedSimpArgs false
namespace Go.Proofs.YtcbckeoalmjcoaaGreat
open Go.RowKit Go.Cw
/-- A box: a new block that stays as it is. -/
theorem _root_.Go.Cw.St.box {H : Hp} {l : List HA} {w : World} (h : St H l w) (cs : Array Value) (t : TypeId) : ∃ H', Hp.le H H' ∧ St H' l (w.alloc (.cells cs t)) ∧ ∀ i u, cs[i]? = some u → H'.cell w.heap.size i = some u :=
  ⟨_, h.keep_le _, h.keep _, fun i u hu => by
    have := Hp.put_same H w.heap.size (.cells cs t)
    simp [Hp.cell, this, hu]⟩
theorem _root_.Go.Cw.News.newAt {P : Program} {sz : Nat} (w : World) (e : TypeId) (n : Nat) (cs : Array Value) (g : Nat) (hg : g = w.heap.size) (hl : cs.size = n * sz) (h1 : ∀ u ∈ cs.toList, u.oneCell' = true) : News P (w.alloc (.cells cs e)) sz (.slice (some ⟨g, 0, none⟩) n n) n cs.toList := by
  subst hg
  exact News.new w e n cs hl h1
theorem _root_.Go.Cw.St.row_litAt {H : Hp} {l : List HA} {w : World} (h : St H l w) (e : TypeId) (sz n : Nat) (cs : Array Value) (g : Nat) (hg : g = w.heap.size) (hl : cs.size = n * sz) (hM : n ≤ maxLen) : St H (Row e sz (.slice (some ⟨g, 0, none⟩) n n) cs.toList :: l) (w.alloc (.cells cs e)) := by
  subst hg
  exact h.row_lit e sz n cs hl hM
theorem f64bits (b : Nat) (w : World) : (callFunc 122 #[.float .f64 b]).run Tryz.prog w = .ok (.value (.int .u64 b)) w := by kernel_rfl
theorem f64from (n : Int) (w : World) : (callFunc 124 #[.int .u64 n]).run Tryz.prog w = .ok (.value (.float .f64 n.toNat)) w := by kernel_rfl
attribute [local go_sem ↓] f64bits f64from
/-- The bits of a number, of any NaN those of one. -/
def bitsOf (b : Nat) : Nat := if FloatKind.f64.format.order b b != some Ordering.eq then 9221120237041090561 else b
theorem bitsOf_zero (b : Nat) : bitsOf b = 0 ↔ b = 0 := by
  unfold bitsOf
  split
  · rename_i h
    constructor
    · intro h'; cases h'
    · intro h'
      subst h'
      exact absurd h (by decide +kernel)
  · exact Iff.rfl
set_option maxRecDepth 100000 in
theorem canon_any (b : Nat) (w : World) : Calls Tryz.prog 123 #[.float .f64 b] w fun e w' => e = .returned (.float .f64 (bitsOf b)) ∧ w = w' := by
  by_cases h : (FloatKind.f64.format.order b b != some Ordering.eq) = true
  · have HB : Hid (bitsOf b = 9221120237041090561) := Lib.hid (if_pos h)
    go_enter Tryz.func123, Tryz.ntmps123
    go_wp2_with fail
    go_ret
    exact ⟨congrArg (fun x => Ending.returned (Value.float FloatKind.f64 x)) HB.out.symm, rfl⟩
  · have HB : Hid (bitsOf b = b) := Lib.hid (if_neg h)
    have h := Bool.eq_false_iff.2 h
    go_enter Tryz.func123, Tryz.ntmps123
    go_wp2_with fail
    go_ret
    exact ⟨congrArg (fun x => Ending.returned (Value.float FloatKind.f64 x)) HB.out.symm, rfl⟩
set_option maxRecDepth 100000 in
theorem bits_any (b : Nat) (w : World) : Calls Tryz.prog 121 #[.float .f64 b] w fun e w' => e = .returned (.int .u64 (bitsOf b)) ∧ w = w' := by
  go_enter Tryz.func121, Tryz.ntmps121
  go_wp2_with (go_at_call 123; refine (canon_any _ _).mono ?_; rintro e w1 ⟨rfl, rfl⟩)
  go_ret
  exact ⟨rfl, rfl⟩
set_option maxRecDepth 100000 in
theorem realSame_any (a b : Nat) (w : World) : Calls Tryz.prog 120 #[.float .f64 a, .float .f64 b] w fun e w' => e = .returned (.bool (decide (bitsOf a = bitsOf b))) ∧ w = w' := by
  go_enter Tryz.func120, Tryz.ntmps120
  go_wp2_with (go_at_call 121; refine (bits_any _ _).mono ?_; rintro e w1 ⟨rfl, rfl⟩)
  go_ret
  exact ⟨rb (by by_cases h : bitsOf a = bitsOf b <;> simp [h]; omega), rfl⟩
set_option maxRecDepth 100000 in
theorem plus_any (b : Nat) (w : World) : Calls Tryz.prog 118 #[.float .f64 b] w fun e w' => e = .returned (.bool (decide (b = 0))) ∧ w = w' := by
  go_enter Tryz.func118, Tryz.ntmps118
  go_wp2_with (go_at_call 120; refine (realSame_any _ _ _).mono ?_; rintro e w1 ⟨rfl, rfl⟩)
  go_ret
  refine ⟨rb (decide_eq_decide.2 ?_), rfl⟩
  have h0 : bitsOf 0 = 0 := (bitsOf_zero 0).2 rfl
  rw [h0, bitsOf_zero]
set_option maxRecDepth 100000 in
theorem nan_any (b : Nat) (w : World) : Calls Tryz.prog 114 #[.float .f64 b] w fun e w' => e = .returned (.bool (FloatKind.f64.format.order b b != some Ordering.eq)) ∧ w = w' := by
  go_enter Tryz.func114, Tryz.ntmps114
  go_wp2_with fail
  go_ret
  exact ⟨rfl, rfl⟩
theorem belAlloc (w : World) (o : Obj) : Below w.heap.size w (w.alloc o) := (Below.refl _ _).alloc (Nat.le_refl _) _
/-- A kind's word. -/
def wordOf (k : Int) : ByteArray := if k = 1 then ⟨#[103, 101, 116]⟩ else if k = 2 then ⟨#[112, 117, 116]⟩ else if k = 3 then ⟨#[100, 101, 108]⟩ else if k = 4 then ⟨#[97, 100, 100]⟩ else ⟨#[]⟩
set_option maxRecDepth 100000 in
theorem word_any (k : Int) (w : World) : Calls Tryz.prog 116 #[.int .i64 k] w fun e w' => e = .returned (.string (wordOf k)) ∧ Below w.heap.size w w' := by
  by_cases h0 : k < 0
  · have hw : Hid (wordOf k = ⟨#[]⟩) := Lib.hid (by unfold wordOf; rw [if_neg (by omega), if_neg (by omega), if_neg (by omega), if_neg (by omega)])
    go_enter Tryz.func116, Tryz.ntmps116
    go_wp2_with fail
    go_ret
    exact ⟨congrArg (fun x => Ending.returned (Value.string x)) hw.out.symm, belAlloc w _⟩
  · by_cases h5 : 5 ≤ k
    · have hw : Hid (wordOf k = ⟨#[]⟩) := Lib.hid (by unfold wordOf; rw [if_neg (by omega), if_neg (by omega), if_neg (by omega), if_neg (by omega)])
      go_enter Tryz.func116, Tryz.ntmps116
      go_wp2_with fail
      go_ret
      exact ⟨congrArg (fun x => Ending.returned (Value.string x)) hw.out.symm, belAlloc w _⟩
    · have hk : k = 0 ∨ k = 1 ∨ k = 2 ∨ k = 3 ∨ k = 4 := by omega
      rcases hk with rfl | rfl | rfl | rfl | rfl
      all_goals
        go_enter Tryz.func116, Tryz.ntmps116
        go_wp2_with fail
        go_ret
        exact ⟨rfl, belAlloc w _⟩
end Go.Proofs.YtcbckeoalmjcoaaGreat
