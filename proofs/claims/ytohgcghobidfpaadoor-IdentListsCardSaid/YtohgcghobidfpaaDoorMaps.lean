/- Maps that a call owns: the laws of look-up, store, delete, clear, len and range, over typed lists of entries. -/
import Derived.Test.YtohgcghobidfpaaDoorOwn
import Derived.Maps.RangeWalk
import Derived.Carry
set_option linter.unusedVariables false
set_option linter.unusedSimpArgs false
set_option linter.unusedSectionVars false
namespace Go.Cw
open Go.RowKit Go.MapKept
open Go.ChangeMaps (setBlock)

/-- What is known of keys of a type. -/
structure Kinds (P : Program) (k : TypeId) (Key : Value → Prop) : Prop where
  check : ∀ (w : World) (em : Bool) {v : Value}, Key v → (Instr.checkKey em 10000 k v).run P w = .ok () w
  find : ∀ (w : World) {x : Value}, Key x → ∀ es : List MapEntry, (∀ e ∈ es, Key e.key) →
    ((Instr.findKey k x es).run P w = .ok none w ∧ ∀ e ∈ es, e.key ≠ x) ∨ ∃ j e, (Instr.findKey k x es).run P w = .ok (some (j, e.val)) w ∧ es[j]? = some e ∧ e.key = x
  stays : ∀ (w : World) {v : Value}, Key v → (Instr.keyThatStays v v).run P w = .ok v w

section
variable {κ ν : Type} [DecidableEq κ]
/-- The codes of keys and elements. -/
structure Code (P : Program) (k : TypeId) (κ ν : Type) where
  kv : κ → Value
  vv : ν → Value
  inj : ∀ a b, kv a = kv b → a = b
  kinds : Kinds P k (fun v => ∃ a, v = kv a)
variable {P : Program} {k : TypeId} {C : Code P k κ ν}
def Code.enc (C : Code P k κ ν) (p : κ × ν) : Value × Value := (C.kv p.1, C.vv p.2)
def ent (e : MapEntry) : Value × Value := (e.key, e.val)
def mput (a : κ) (x : ν) (l : List (κ × ν)) : List (κ × ν) := if a ∈ l.map (·.1) then l.map (fun p => if p.1 = a then (a, x) else p) else l ++ [(a, x)]
def mdel (a : κ) (l : List (κ × ν)) : List (κ × ν) := l.filter (fun p => decide (p.1 ≠ a))

def Mp (C : Code P k κ ν) (g : Nat) (l : List (κ × ν)) : HA where
  at_ := fun w S => (∃ es clock, w.heap[g]? = some (.map es clock) ∧ Stamped es clock ∧ es.toList.map ent = l.map C.enc) ∧ ∀ j, S j ↔ j = g
  move := fun ⟨⟨es, clock, h, r⟩, hS⟩ hm => ⟨⟨es, clock, (hm g ((hS g).2 rfl)).trans h, r⟩, hS⟩
  lt := fun ⟨⟨es, clock, h, r⟩, hS⟩ j hj => by
    have := (hS j).1 hj
    subst this
    exact (Array.getElem?_eq_some_iff.1 h).1
variable {H : Hp} {fr : List HA} {w : World} {g : Nat} {l : List (κ × ν)}

theorem St.mp_made (h : St H fr w) : St H (Mp C w.heap.size [] :: fr) (w.alloc (.map #[] 0)) :=
  h.new (by simp) (fun j => j = w.heap.size) ⟨⟨#[], 0, heap_alloc_new w _, stamped_empty 0, rfl⟩, fun _ => Iff.rfl⟩ (fun j hj => by omega) (fun j hj => Below.heap_alloc w _ j hj)

theorem nodup_of {es : Array MapEntry} {clock : Nat} (hs : Stamped es clock) (he : es.toList.map ent = l.map C.enc) : (l.map (·.1)).Nodup := by
  have h3 := ((stamped_iff es clock).1 hs).2.2
  have h4 : (es.toList.map ent).Pairwise (fun x y => x.1 ≠ y.1) := List.pairwise_map.2 h3
  rw [he] at h4
  have h5 := List.pairwise_map.1 h4
  exact List.pairwise_map.2 (h5.imp (fun hne he' => hne (by unfold Code.enc; simp only [he'])))
theorem St.mp_nodup (h : St H (Mp C g l :: fr) w) : (l.map (·.1)).Nodup := h.get (fun S hS => by
  obtain ⟨⟨es, clock, hb, hst, he⟩, _⟩ := hS
  exact nodup_of hst he)
/-- The keys of a map's entries are keys. -/
theorem keys_of {es : Array MapEntry} (he : es.toList.map ent = l.map C.enc) : ∀ e ∈ es.toList, ∃ a, e.key = C.kv a := fun e hem => by
  have : ent e ∈ l.map C.enc := he ▸ List.mem_map.2 ⟨e, hem, rfl⟩
  obtain ⟨p, _, hp⟩ := List.mem_map.1 this
  exact ⟨p.1, (congrArg Prod.fst hp).symm⟩
theorem none_of {es : Array MapEntry} (he : es.toList.map ent = l.map C.enc) {a : κ} (hn : ∀ e ∈ es.toList, e.key ≠ C.kv a) : a ∉ l.map (·.1) := fun ha => by
  obtain ⟨p, hp, rfl⟩ := List.mem_map.1 ha
  have : C.enc p ∈ es.toList.map ent := he ▸ List.mem_map.2 ⟨p, hp, rfl⟩
  obtain ⟨e, hem, hee⟩ := List.mem_map.1 this
  exact hn e hem (congrArg Prod.fst hee)
theorem some_of {es : Array MapEntry} (he : es.toList.map ent = l.map C.enc) {a : κ} {j : Nat} {e : MapEntry} (hj : es.toList[j]? = some e) (hk : e.key = C.kv a) : ∃ x, l[j]? = some (a, x) ∧ e.val = C.vv x := by
  have h1 : (es.toList.map ent)[j]? = some (ent e) := by simp [hj]
  rw [he, List.getElem?_map] at h1
  cases hl : l[j]? with
  | none => rw [hl] at h1; simp at h1
  | some p =>
    rw [hl] at h1
    simp only [Option.map_some, Option.some.injEq] at h1
    have h2 := congrArg Prod.fst h1
    have h3 := congrArg Prod.snd h1
    have : p.1 = a := C.inj _ _ (h2.trans hk)
    exact ⟨p.2, by rw [← this], h3.symm⟩
/-- What a key has. -/
def mlook (a : κ) : List (κ × ν) → Option ν
  | [] => none
  | p :: r => if p.1 = a then some p.2 else mlook a r
theorem lookup_none : ∀ {l : List (κ × ν)} {a : κ}, a ∉ l.map (·.1) → mlook a l = none
  | [], _, _ => rfl
  | p :: r, a, h => by
    have h1 : ¬ p.1 = a := fun e => h (by simp [e])
    have h2 : a ∉ r.map (·.1) := fun e => h (by simp only [List.map_cons, List.mem_cons]; exact .inr e)
    rw [mlook, if_neg h1]
    exact lookup_none h2
theorem lookup_some : ∀ {l : List (κ × ν)} {a : κ} {j : Nat} {x : ν}, (l.map (·.1)).Nodup → l[j]? = some (a, x) → mlook a l = some x
  | [], _, _, _, _, h => by simp at h
  | p :: r, a, 0, x, hn, h => by
    simp only [List.getElem?_cons_zero, Option.some.injEq] at h
    subst h
    rw [mlook, if_pos rfl]
  | p :: r, a, j + 1, x, hn, h => by
    simp only [List.map_cons, List.nodup_cons] at hn
    rw [List.getElem?_cons_succ] at h
    have hm : a ∈ r.map (·.1) := List.mem_map.2 ⟨(a, x), List.mem_of_getElem? h, rfl⟩
    have h1 : ¬ p.1 = a := fun e => hn.1 (e ▸ hm)
    rw [mlook, if_neg h1]
    exact lookup_some hn.2 h
/-- What a look-up tells. -/
def Code.at_ (C : Code P k κ ν) (z : Value) (c : Bool) : Option ν → Value
  | some x => if c then .tuple #[C.vv x, .bool true] else C.vv x
  | none => if c then .tuple #[z, .bool false] else z
variable {t e : TypeId}
theorem St.mp_get (h : St H (Mp C g l :: fr) w) (c : Bool) (ht : P.underlying t = some (.map k e)) {z : Value} (hz : (zeroValue e).run P w = .ok z w) (a : κ) :
    (Instr.lookup t (.map (some g)) (C.kv a) c).run P w = .ok (C.at_ z c (mlook a l)) w := h.get (fun S hS => by
  obtain ⟨⟨es, clock, hb, hst, he⟩, _⟩ := hS
  rcases C.kinds.find w ⟨a, rfl⟩ es.toList (keys_of he) with ⟨h1, h2⟩ | ⟨j, e0, h1, h2, h3⟩
  · rw [lookup_none (none_of he h2)]
    cases c <;> simp [Code.at_, Instr.lookup, run_underlying ht, MapKept.run_getObj_map hb, C.kinds.check w _ ⟨a, rfl⟩, h1, hz, Result.andThen]
  · obtain ⟨x, hx, hv⟩ := some_of he h2 h3
    rw [lookup_some (nodup_of hst he) hx]
    cases c <;> simp [Code.at_, Instr.lookup, run_underlying ht, MapKept.run_getObj_map hb, C.kinds.check w _ ⟨a, rfl⟩, h1, hv, Result.andThen])
/-- A nil map has nothing. -/
theorem nilmap_get (C : Code P k κ ν) (c : Bool) (ht : P.underlying t = some (.map k e)) {z : Value} (hz : (zeroValue e).run P w = .ok z w) (a : κ) :
    (Instr.lookup t (.map none) (C.kv a) c).run P w = .ok (C.at_ z c none) w := by
  rcases C.kinds.find w ⟨a, rfl⟩ [] (fun _ h => by simp at h) with ⟨h1, h2⟩ | ⟨j, e0, h1, h2, h3⟩
  · cases c <;> simp [Code.at_, Instr.lookup, run_underlying ht, C.kinds.check w _ ⟨a, rfl⟩, h1, hz, Result.andThen]
  · simp at h2
theorem St.mp_turn (h : St H (Mp C g l :: fr) w) (es' : Array MapEntry) (clock' : Nat) (l' : List (κ × ν)) (hs : Stamped es' clock') (he : es'.toList.map ent = l'.map C.enc) : St H (Mp C g l' :: fr) (setBlock w g (.map es' clock')) :=
  h.turn (by simp [setBlock]) (fun S hS => ⟨S, ⟨⟨es', clock', by obtain ⟨⟨es, clock, hb, _⟩, _⟩ := hS; exact Go.ChangeMaps.heap_setBlock_same hb _, hs, he⟩, hS.2⟩, fun j hj => .inl hj, fun j _ hj => by
    obtain ⟨⟨es, clock, hb, _⟩, hS⟩ := hS
    exact Go.ChangeMaps.heap_setBlock_other hb _ (fun e => hj ((hS j).2 e))⟩)
theorem env_setBlock (w : World) (g : Nat) (o : Obj) : Env w (setBlock w g o) := ⟨rfl, rfl, rfl, by simp [setBlock]⟩
theorem map_upd : ∀ {l : List (κ × ν)} {a : κ} {j : Nat} {y : ν} (x : ν), (l.map (·.1)).Nodup → l[j]? = some (a, y) → l.map (fun p => if p.1 = a then (a, x) else p) = l.set j (a, x)
  | [], _, _, _, _, _, h => by simp at h
  | p :: r, a, 0, y, x, hn, h => by
    simp only [List.getElem?_cons_zero, Option.some.injEq] at h
    subst h
    simp only [List.map_cons, List.nodup_cons] at hn
    simp only [List.map_cons, if_pos, List.set_cons_zero]
    congr 1
    refine (List.map_congr_left (fun q hq => ?_)).trans (List.map_id' r)
    rw [if_neg (fun (e' : q.1 = a) => hn.1 (e' ▸ (List.mem_map.2 ⟨q, hq, rfl⟩ : q.1 ∈ r.map (·.1))))]
  | p :: r, a, j + 1, y, x, hn, h => by
    simp only [List.map_cons, List.nodup_cons] at hn
    rw [List.getElem?_cons_succ] at h
    have hm : a ∈ r.map (·.1) := List.mem_map.2 ⟨(a, y), List.mem_of_getElem? h, rfl⟩
    have h1 : ¬ p.1 = a := fun e => hn.1 (e ▸ hm)
    rw [List.map_cons, if_neg h1, map_upd x hn.2 h, List.set_cons_succ]
theorem St.mp_put (h : St H (Mp C g l :: fr) w) (ht : P.underlying t = some (.map k e)) (a : κ) (x : ν) :
    ∃ w', (Instr.mapUpdate t (.map (some g)) (C.kv a) (C.vv x)).run P w = .ok () w' ∧ St H (Mp C g (mput a x l) :: fr) w' ∧ Env w w' := by
  have hall := h.get (φ := ∃ es clock, w.heap[g]? = some (.map es clock) ∧ Stamped es clock ∧ es.toList.map ent = l.map C.enc) (fun S hS => hS.1)
  obtain ⟨es, clock, hb, hst, he⟩ := hall
  rcases C.kinds.find w ⟨a, rfl⟩ es.toList (keys_of he) with ⟨h1, h2⟩ | ⟨j, e0, h1, h2, h3⟩
  · refine ⟨setBlock w g (.map (es.push ⟨C.kv a, C.vv x, clock⟩) (clock + 1)), ?_, h.mp_turn _ _ _ (stamped_push hst h2) ?_, env_setBlock _ _ _⟩
    · simp [Instr.mapUpdate, run_underlying ht, MapKept.run_getObj_map hb, C.kinds.check w false ⟨a, rfl⟩, h1, MapKept.run_setObj_map _ hb, Result.andThen, setBlock]
    · unfold mput
      rw [if_neg (none_of he h2)]
      simp [he, ent, Code.enc]
  · obtain ⟨y, hx, hv⟩ := some_of he h2 h3
    have hj : es[j]? = some e0 := by simpa using h2
    have hlist : (es.modify j (fun e' => { e' with key := C.kv a, val := C.vv x })).toList = es.toList.set j { e0 with key := C.kv a, val := C.vv x } := by
      rw [Array.toList_modify, Go.ChangeMaps.modify_eq_set _ _ _ _ h2]
    refine ⟨setBlock w g (.map (es.modify j (fun e' => { e' with key := C.kv a, val := C.vv x })) clock), ?_, h.mp_turn _ _ _ (stamped_modify hst _ _ (fun _ _ => rfl) (fun e' _ he' => ?_)) ?_, env_setBlock _ _ _⟩
    · simp [Instr.mapUpdate, run_underlying ht, MapKept.run_getObj_map hb, C.kinds.check w false ⟨a, rfl⟩, h1, hj, h3, C.kinds.stays w ⟨a, rfl⟩, MapKept.run_setObj_map _ hb, Result.andThen, setBlock]
    · rw [hj] at he'; cases he'; exact h3.symm
    · rw [hlist]
      unfold mput
      rw [if_pos (List.mem_map.2 ⟨(a, y), List.mem_of_getElem? hx, rfl⟩), map_upd x (nodup_of hst he) hx, List.map_set, List.map_set, he]
      rfl
theorem filter_del : ∀ {l : List (κ × ν)} {a : κ} {j : Nat} {y : ν}, (l.map (·.1)).Nodup → l[j]? = some (a, y) → mdel a l = l.eraseIdx j
  | [], _, _, _, _, h => by simp at h
  | p :: r, a, 0, y, hn, h => by
    simp only [List.getElem?_cons_zero, Option.some.injEq] at h
    subst h
    simp only [List.map_cons, List.nodup_cons] at hn
    unfold mdel
    rw [List.filter_cons, if_neg (by simp), List.eraseIdx_cons_zero]
    exact List.filter_eq_self.2 (fun q hq => decide_eq_true (fun (e' : q.1 = a) => hn.1 (e' ▸ (List.mem_map.2 ⟨q, hq, rfl⟩ : q.1 ∈ r.map (·.1)))))
  | p :: r, a, j + 1, y, hn, h => by
    simp only [List.map_cons, List.nodup_cons] at hn
    rw [List.getElem?_cons_succ] at h
    have hm : a ∈ r.map (·.1) := List.mem_map.2 ⟨(a, y), List.mem_of_getElem? h, rfl⟩
    have h1 : p.1 ≠ a := fun e => hn.1 (e ▸ hm)
    have ih := filter_del hn.2 h
    unfold mdel at ih ⊢
    rw [List.filter_cons, if_pos (decide_eq_true h1), ih, List.eraseIdx_cons_succ]
theorem St.mp_del {ty : TypeId} (h : St H (Mp C g l :: fr) w) (ht : P.underlying t = some (.map k e)) (a : κ) :
    ∃ w', (Builtin.delete_ #[t, k] ty #[.map (some g), C.kv a]).run P w = .ok (.tuple #[]) w' ∧ St H (Mp C g (mdel a l) :: fr) w' ∧ Env w w' := by
  obtain ⟨es, clock, hb, hst, he⟩ := h.get (φ := ∃ es clock, w.heap[g]? = some (.map es clock) ∧ Stamped es clock ∧ es.toList.map ent = l.map C.enc) (fun S hS => hS.1)
  rcases C.kinds.find w ⟨a, rfl⟩ es.toList (keys_of he) with ⟨h1, h2⟩ | ⟨j, e0, h1, h2, h3⟩
  · refine ⟨setBlock w g (.map es clock), ?_, h.mp_turn _ _ _ hst ?_, env_setBlock _ _ _⟩
    · simp [Builtin.delete_, run_underlying ht, MapKept.run_getObj_map hb, C.kinds.check w _ ⟨a, rfl⟩, h1, MapKept.run_setObj_map _ hb, Result.andThen, setBlock]
    · have hn := none_of he h2
      have hfs : mdel a l = l := List.filter_eq_self.2 (fun q hq => decide_eq_true (fun (e' : q.1 = a) => hn (e' ▸ (List.mem_map.2 ⟨q, hq, rfl⟩ : q.1 ∈ l.map (·.1)))))
      rw [hfs, he]
  · obtain ⟨y, hx, hv⟩ := some_of he h2 h3
    have hjl : j < es.toList.length := (List.getElem?_eq_some_iff.1 h2).1
    have hjs : j < es.size := by simpa using hjl
    have hsub : (es.eraseIdxIfInBounds j).toList = es.toList.eraseIdx j := by
      unfold Array.eraseIdxIfInBounds
      rw [dif_pos hjs]
      simp
    refine ⟨setBlock w g (.map (es.eraseIdxIfInBounds j) clock), ?_, h.mp_turn _ _ _ (stamped_erase hst j) ?_, env_setBlock _ _ _⟩
    · simp [Builtin.delete_, run_underlying ht, MapKept.run_getObj_map hb, C.kinds.check w _ ⟨a, rfl⟩, h1, MapKept.run_setObj_map _ hb, Result.andThen, setBlock]
    · rw [hsub, filter_del (nodup_of hst he) hx, Go.ChangeMaps.map_eraseIdx, Go.ChangeMaps.map_eraseIdx, he]
theorem St.mp_clear {ty : TypeId} (h : St H (Mp C g l :: fr) w) (ht : P.underlying t = some (.map k e)) :
    ∃ w', (Builtin.clear_ #[t] ty #[.map (some g)]).run P w = .ok (.tuple #[]) w' ∧ St H (Mp C g [] :: fr) w' ∧ Env w w' := by
  obtain ⟨es, clock, hb, hst, he⟩ := h.get (φ := ∃ es clock, w.heap[g]? = some (.map es clock) ∧ Stamped es clock ∧ es.toList.map ent = l.map C.enc) (fun S hS => hS.1)
  refine ⟨setBlock w g (.map #[] clock), ?_, h.mp_turn _ _ _ (stamped_empty clock) rfl, env_setBlock _ _ _⟩
  simp [Builtin.clear_, run_underlying ht, MapKept.run_getObj_map hb, MapKept.run_setObj_map _ hb, Result.andThen, setBlock]
theorem St.mp_len {ty : TypeId} (h : St H (Mp C g l :: fr) w) (ht : P.underlying t = some (.map k e)) :
    (Builtin.len_ #[t] ty #[.map (some g)]).run P w = .ok (.int .i64 l.length) w := h.get (fun S hS => by
  obtain ⟨⟨es, clock, hb, hst, he⟩, _⟩ := hS
  have : es.size = l.length := by have := congrArg List.length he; simpa using this
  simp [Builtin.len_, run_underlying ht, MapKept.run_getObj_map hb, Result.andThen, goInt, this])

/-! ### At the operations -/
variable {ops : Array Oper} {rest : List Oper} {o : Oper} {a : Act} {Q : Exit → Act → World → Prop}
theorem wpList_mget (hst : St H (Mp C g l :: fr) w) (hg : o.guard = none) (m x : Operand) (c : Bool) (hop : o.op = Op.lookup t m x c) (ht : P.underlying t = some (.map k e)) {z : Value} (hz : (zeroValue e).run P w = .ok z w)
    (hm : a.eval m = .map (some g)) (y : κ) (hx : a.eval x = C.kv y) (hK : wpList P ops Q rest (a.put o.dst (C.at_ z c (mlook y l))) w) : wpList P ops Q (o :: rest) a w := by
  refine wpList_plain hg fun K' hK' => ?_
  have hrun := hst.mp_get c ht hz y
  unfold Oper.wp
  simp [execOp, hop, hm, hx, hrun, Result.andThen]
  exact hK' _ _ hK
theorem wpList_mput (hst : St H (Mp C g l :: fr) w) (hg : o.guard = none) (m x u : Operand) (hop : o.op = Op.mapUpdate t m x u) (ht : P.underlying t = some (.map k e))
    (hm : a.eval m = .map (some g)) (y : κ) (hx : a.eval x = C.kv y) (v : ν) (hu : a.eval u = C.vv v) (hK : ∀ w', St H (Mp C g (mput y v l) :: fr) w' → Env w w' → wpList P ops Q rest (a.put o.dst undef) w') : wpList P ops Q (o :: rest) a w := by
  refine wpList_plain hg fun K' hK' => ?_
  obtain ⟨w', hrun, h1, h2⟩ := hst.mp_put ht y v
  unfold Oper.wp
  simp [execOp, hop, hm, hx, hu, hrun, Result.andThen]
  exact hK' _ _ (hK w' h1 h2)
theorem wpList_mdel (hst : St H (Mp C g l :: fr) w) (hg : o.guard = none) (m x : Operand) (hop : o.op = Op.call { callee := Callee.builtin Builtin.delete, args := #[m, x], argTypes := #[t, k] }) (ht : P.underlying t = some (.map k e))
    (hm : a.eval m = .map (some g)) (y : κ) (hx : a.eval x = C.kv y) (hK : ∀ w', St H (Mp C g (mdel y l) :: fr) w' → Env w w' → wpList P ops Q rest (a.put o.dst (.tuple #[])) w') : wpList P ops Q (o :: rest) a w := by
  refine wpList_plain hg fun K' hK' => ?_
  obtain ⟨w', hrun, h1, h2⟩ := hst.mp_del (ty := o.type) ht y
  unfold Oper.wp
  simp [execOp, hop, resolve, invoke, builtin, hm, hx, hrun, Result.andThen]
  exact hK' _ _ (hK w' h1 h2)
theorem wpList_mclear (hst : St H (Mp C g l :: fr) w) (hg : o.guard = none) (m : Operand) (hop : o.op = Op.call { callee := Callee.builtin Builtin.clear, args := #[m], argTypes := #[t] }) (ht : P.underlying t = some (.map k e))
    (hm : a.eval m = .map (some g)) (hK : ∀ w', St H (Mp C g ([] : List (κ × ν)) :: fr) w' → Env w w' → wpList P ops Q rest (a.put o.dst (.tuple #[])) w') : wpList P ops Q (o :: rest) a w := by
  refine wpList_plain hg fun K' hK' => ?_
  obtain ⟨w', hrun, h1, h2⟩ := hst.mp_clear (ty := o.type) ht
  unfold Oper.wp
  simp [execOp, hop, resolve, invoke, builtin, hm, hrun, Result.andThen]
  exact hK' _ _ (hK w' h1 h2)
theorem wpList_mlen (hst : St H (Mp C g l :: fr) w) (hg : o.guard = none) (m : Operand) (hop : o.op = Op.call { callee := Callee.builtin Builtin.len, args := #[m], argTypes := #[t] }) (ht : P.underlying t = some (.map k e))
    (hm : a.eval m = .map (some g)) (hK : wpList P ops Q rest (a.put o.dst (.int .i64 l.length)) w) : wpList P ops Q (o :: rest) a w := by
  refine wpList_plain hg fun K' hK' => ?_
  have hrun := hst.mp_len (ty := o.type) ht
  unfold Oper.wp
  simp [execOp, hop, resolve, invoke, builtin, hm, hrun, Result.andThen]
  exact hK' _ _ hK

/-! ### Range -/
/-- A map under way: the entries that are still to come. -/
def Rg (C : Code P k κ ν) (g r : Nat) (l left : List (κ × ν)) : HA where
  at_ := fun w S => (g ≠ r ∧ ∃ es clock since seen c0, w.heap[g]? = some (.map es clock) ∧ Stamped es clock ∧ es.toList.map ent = l.map C.enc ∧ w.heap[r]? = some (.mapIter (some g) since seen c0) ∧
    (∀ x ∈ es.toList, x.born < since) ∧ since ≤ c0 ∧ since ≤ clock ∧ (leftOf es seen).toList.map ent = left.map C.enc) ∧ ∀ j, S j ↔ (j = g ∨ j = r)
  move := fun ⟨⟨hne, es, clock, since, seen, c0, h1, h2, h3, h4, r'⟩, hS⟩ hm => ⟨⟨hne, es, clock, since, seen, c0, (hm g ((hS g).2 (.inl rfl))).trans h1, h2, h3, (hm r ((hS r).2 (.inr rfl))).trans h4, r'⟩, hS⟩
  lt := fun ⟨⟨hne, es, clock, since, seen, c0, h1, h2, h3, h4, r'⟩, hS⟩ j hj => by
    rcases (hS j).1 hj with e | e
    · subst e; exact (Array.getElem?_eq_some_iff.1 h1).1
    · subst e; exact (Array.getElem?_eq_some_iff.1 h4).1
theorem St.rg_end {r : Nat} {left : List (κ × ν)} (h : St H (Rg C g r l left :: fr) w) : St H (Mp C g l :: fr) w :=
  h.turn (Nat.le_refl _) (fun S hS => ⟨fun j => j = g, by obtain ⟨⟨hne, es, clock, since, seen, c0, h1, h2, h3, r'⟩, hS⟩ := hS; exact ⟨⟨es, clock, h1, h2, h3⟩, fun _ => Iff.rfl⟩, fun j hj => .inl ((hS.2 j).2 (.inl hj)), fun _ _ _ => rfl⟩)
theorem wpList_mrange (hst : St H (Mp C g l :: fr) w) (hg : o.guard = none) (m : Operand) (hop : o.op = Op.range t m) (ht : P.underlying t = some (.map k e)) (hm : a.eval m = .map (some g))
    (hK : ∀ w', St H (Rg C g w.heap.size l l :: fr) w' → Env w w' → wpList P ops Q rest (a.put o.dst (.pointer (some ⟨w.heap.size, 0, none⟩))) w') : wpList P ops Q (o :: rest) a w := by
  refine wpList_plain hg fun K' hK' => ?_
  obtain ⟨es, clock, hb, hs, he⟩ := hst.get (φ := ∃ es clock, w.heap[g]? = some (.map es clock) ∧ Stamped es clock ∧ es.toList.map ent = l.map C.enc) (fun S hS => hS.1)
  have hrun := run_range_map w t k e g es clock ht hb
  have hlt := (Array.getElem?_eq_some_iff.1 hb).1
  unfold Oper.wp
  simp [execOp, hop, hm, hrun, Result.andThen]
  refine hK' _ _ (hK _ ?_ ((Env.refl w).alloc _))
  refine hst.turn (by simp) (fun S hS => ⟨fun j => j = g ∨ j = w.heap.size, ⟨⟨by omega, es, clock, clock, #[], clock, (Below.heap_alloc w _ _ hlt).trans hb, hs, he, heap_alloc_new w _, ((stamped_iff es clock).1 hs).1, Nat.le_refl _, Nat.le_refl _, ?_⟩, fun _ => Iff.rfl⟩, ?_, fun j hj _ => Below.heap_alloc w _ _ hj⟩)
  · rw [show leftOf es #[] = es by simp [leftOf], he]
  · rintro j (rfl | rfl)
    · exact .inl ((hS.2 _).2 rfl)
    · exact .inr (Nat.le_refl _)
theorem left_split {es : Array MapEntry} {clock : Nat} {seen : Array Nat} (hs : Stamped es clock) {x : MapEntry} {A B : List MapEntry} (h : (leftOf es seen).toList = A ++ x :: B) : (leftOf es (seen.push x.born)).toList = A ++ B := by
  have hnd : ((leftOf es seen).toList.map (·.born)).Nodup := by
    have h2 := ((stamped_iff es clock).1 hs).2.1
    refine h2.sublist (List.Sublist.map _ ?_)
    unfold leftOf
    rw [Array.toList_filter]
    exact List.filter_sublist
  have h3 : (leftOf es (seen.push x.born)).toList = (leftOf es seen).toList.filter (fun y => decide (y.born ≠ x.born)) := by
    unfold leftOf
    rw [Array.toList_filter, Array.toList_filter, List.filter_filter]
    refine List.filter_congr (fun y _ => ?_)
    rw [contains_push]
    by_cases hb : y.born = x.born <;> cases seen.contains y.born <;> simp [hb]
  rw [h3, h]
  rw [h] at hnd
  rw [List.map_append, List.map_cons, List.nodup_append] at hnd
  obtain ⟨_, h5, h6⟩ := hnd
  rw [List.nodup_cons] at h5
  rw [List.filter_append, List.filter_cons, if_neg (by simp)]
  congr 1
  · exact List.filter_eq_self.2 (fun y hy => decide_eq_true (h6 _ (List.mem_map.2 ⟨y, hy, rfl⟩) _ (List.mem_cons_self ..)))
  · exact List.filter_eq_self.2 (fun y hy => decide_eq_true (fun e' => h5.1 (e' ▸ (List.mem_map.2 ⟨y, hy, rfl⟩ : y.born ∈ B.map (·.born)))))
theorem wpList_mnext {r : Nat} {left : List (κ × ν)} (hst : St H (Rg C g r l left :: fr) w) (hg : o.guard = none) (it : Operand) (hop : o.op = Op.next it false) (hit : a.eval it = .pointer (some ⟨r, 0, none⟩))
    (hDone : left = [] → wpList P ops Q rest (a.put o.dst (.tuple #[.bool false])) w)
    (hMore : ∀ (pre post : List (κ × ν)) (p : κ × ν) (w' : World), left = pre ++ p :: post → St H (Rg C g r l (pre ++ post) :: fr) w' → Env w w' → (Instr.entry (.pointer (some ⟨r, 0, none⟩))).run P w' = .ok (.tuple #[C.kv p.1, C.vv p.2]) w' →
      wpList P ops Q rest (a.put o.dst (.tuple #[.bool true, C.kv p.1, C.vv p.2])) w') : wpList P ops Q (o :: rest) a w := by
  refine wpList_plain hg fun K' hK' => ?_
  obtain ⟨hne, es, clock, since, seen, c0, hb, hs, he, hr, hold, hsc, hsk, hleft⟩ := hst.get (φ := g ≠ r ∧ ∃ es clock since seen c0, w.heap[g]? = some (.map es clock) ∧ Stamped es clock ∧ es.toList.map ent = l.map C.enc ∧ w.heap[r]? = some (.mapIter (some g) since seen c0) ∧
    (∀ x ∈ es.toList, x.born < since) ∧ since ≤ c0 ∧ since ≤ clock ∧ (leftOf es seen).toList.map ent = left.map C.enc) (fun S hS => hS.1)
  unfold Oper.wp
  rcases run_next_at (P := P) w o.type r g since c0 seen es clock hr hb hold hsc with ⟨h0, hrun⟩ | ⟨x, hx, w1, hal, hrun⟩
  · simp [execOp, hop, hit, hrun, Result.andThen]
    refine hK' _ _ (hDone ?_)
    have : left.length = 0 := by have := congrArg List.length hleft; simp at this; omega
    exact List.length_eq_zero_iff.1 this
  · obtain ⟨A, B, hAB⟩ := List.append_of_mem hx
    have h1 := hleft
    rw [hAB, List.map_append, List.map_cons] at h1
    obtain ⟨pre, q, rfl, hpre, hq⟩ := List.map_eq_append_iff.1 h1.symm
    obtain ⟨p, post, rfl, hp, hpost⟩ := List.map_eq_cons_iff.1 hq
    simp [execOp, hop, hit, hrun, Result.andThen]
    have hk1 : x.key = C.kv p.1 := (congrArg Prod.fst hp).symm
    have hv1 : x.val = C.vv p.2 := (congrArg Prod.snd hp).symm
    have hg' : (setBlock w1 r (.mapIter (some g) since (seen.push x.born) clock)).heap[g]? = some (.map es clock) := by
      have : (setBlock w1 r (.mapIter (some g) since (seen.push x.born) clock)).heap[g]? = w1.heap[g]? := by simp [setBlock, Array.getElem?_setIfInBounds, hne.symm]
      rw [this]
      rcases hal with rfl | rfl <;> exact hb
    have hr' : (setBlock w1 r (.mapIter (some g) since (seen.push x.born) clock)).heap[r]? = some (.mapIter (some g) since (seen.push x.born) clock) := by
      have hlt := (Array.getElem?_eq_some_iff.1 hr).1
      rcases hal with rfl | rfl <;> simp [setBlock, Array.getElem?_setIfInBounds, hlt]
    have hen := run_entry_at (P := P) _ r g since seen es clock x hr' hg' (mem_left hx).1 ((stamped_iff es clock).1 hs).2.1
    rw [hk1, hv1] at hen
    rw [hk1, hv1]
    refine hK' _ _ (hMore pre post p _ rfl ?_ ?_ hen)
    · refine hst.turn ?_ (fun S hS => ⟨S, ⟨⟨hne, es, clock, since, seen.push x.born, clock, hg', hs, he, hr', hold, hsk, hsk, ?_⟩, hS.2⟩, fun j hj => .inl hj, ?_⟩)
      · rcases hal with rfl | rfl <;> simp [setBlock]
      · rw [left_split hs hAB, List.map_append, List.map_append, hpre, hpost]
      · intro j hj hn
        have : j ≠ r := fun e => hn ((hS.2 j).2 (.inr e))
        rcases hal with rfl | rfl <;> simp [setBlock, Array.getElem?_setIfInBounds, this.symm] <;> rfl
    · rcases hal with rfl | rfl
      · exact env_setBlock _ _ _
      · exact (Env.refl w).drew.trans (env_setBlock _ _ _)
end
end Go.Cw
