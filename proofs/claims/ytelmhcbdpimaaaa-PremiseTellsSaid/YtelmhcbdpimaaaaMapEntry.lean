/- m[k] = append(m[k], ..): the entry, and the store into it. -/
import Derived.Test.YtelmhcbdpimaaaaMaps
set_option linter.unusedVariables false
set_option linter.unusedSimpArgs false
set_option linter.unusedSectionVars false
namespace Go.Cw
open Go.RowKit Go.MapKept
open Go.ChangeMaps (setBlock)
section
variable {κ ν : Type} [DecidableEq κ] {P : Program} {k e t : TypeId} {C : Code P k κ ν} {H : Hp} {fr : List HA} {w : World} {g : Nat} {l : List (κ × ν)}
/-- A map, and the stamp of the entry of a key. -/
def MpS (C : Code P k κ ν) (g : Nat) (l : List (κ × ν)) (a : κ) (s : Nat) : HA where
  at_ := fun w S => (∃ es clock, w.heap[g]? = some (.map es clock) ∧ Stamped es clock ∧ es.toList.map ent = l.map C.enc ∧ ∃ x ∈ es.toList, x.key = C.kv a ∧ x.born = s) ∧ ∀ j, S j ↔ j = g
  move := fun ⟨⟨es, clock, h, r⟩, hS⟩ hm => ⟨⟨es, clock, (hm g ((hS g).2 rfl)).trans h, r⟩, hS⟩
  lt := fun ⟨⟨es, clock, h, r⟩, hS⟩ j hj => by
    have := (hS j).1 hj
    subst this
    exact (Array.getElem?_eq_some_iff.1 h).1
/-- The entries with one for a key. -/
def mens (a : κ) (z : ν) (l : List (κ × ν)) : List (κ × ν) := if a ∈ l.map (·.1) then l else l ++ [(a, z)]
theorem St.mps_turn (h : St H (Mp C g l :: fr) w) (es' : Array MapEntry) (clock' : Nat) (l' : List (κ × ν)) (a : κ) (s : Nat) (hs : Stamped es' clock') (he : es'.toList.map ent = l'.map C.enc) (hx : ∃ x ∈ es'.toList, x.key = C.kv a ∧ x.born = s) : St H (MpS C g l' a s :: fr) (setBlock w g (.map es' clock')) :=
  h.turn (by simp [setBlock]) (fun S hS => ⟨S, ⟨⟨es', clock', by obtain ⟨⟨es, clock, hb, _⟩, _⟩ := hS; exact Go.ChangeMaps.heap_setBlock_same hb _, hs, he, hx⟩, hS.2⟩, fun j hj => .inl hj, fun j _ hj => by
    obtain ⟨⟨es, clock, hb, _⟩, hS⟩ := hS
    exact Go.ChangeMaps.heap_setBlock_other hb _ (fun e => hj ((hS j).2 e))⟩)
theorem St.mp_entry (h : St H (Mp C g l :: fr) w) (ht : P.underlying t = some (.map k e)) (z : ν) (hz : (zeroValue e).run P w = .ok (C.vv z) w) (a : κ) :
    ∃ w', ∃ s : Nat, (Instr.mapEntry t (.map (some g)) (C.kv a)).run P w = .ok (.tuple #[C.vv ((mlook a l).getD z), .int .i64 (s : Int)]) w' ∧ St H (MpS C g (mens a z l) a s :: fr) w' ∧ Env w w' := by
  obtain ⟨es, clock, hb, hst, he⟩ := h.get (φ := ∃ es clock, w.heap[g]? = some (.map es clock) ∧ Stamped es clock ∧ es.toList.map ent = l.map C.enc) (fun S hS => hS.1)
  rcases C.kinds.find w ⟨a, rfl⟩ es.toList (keys_of he) with ⟨h1, h2⟩ | ⟨j, e0, h1, h2, h3⟩
  · have hn := none_of he h2
    refine ⟨setBlock w g (.map (es.push ⟨C.kv a, C.vv z, clock⟩) (clock + 1)), clock, ?_, h.mps_turn _ _ _ _ _ (stamped_push hst h2) ?_ ⟨⟨C.kv a, C.vv z, clock⟩, by simp, rfl, rfl⟩, env_setBlock _ _ _⟩
    · rw [lookup_none hn]
      simp [Instr.mapEntry, run_underlying ht, MapKept.run_getObj_map hb, C.kinds.check w false ⟨a, rfl⟩, h1, hz, MapKept.run_setObj_map _ hb, Result.andThen, setBlock, goInt]
    · unfold mens
      rw [if_neg hn]
      simp [he, ent, Code.enc]
  · obtain ⟨y, hx, hv⟩ := some_of he h2 h3
    have hj : es[j]? = some e0 := by simpa using h2
    have hkey : ({ e0 with key := C.kv a } : MapEntry) = e0 := by cases e0; simp only at h3; subst h3; rfl
    have hlist : (es.modify j (fun e' => { e' with key := C.kv a })).toList = es.toList := by
      rw [Array.toList_modify, Go.ChangeMaps.modify_eq_set _ _ _ _ h2, hkey]
      refine List.ext_getElem? (fun i => ?_)
      rw [List.getElem?_set]
      split
      · rename_i hij
        subst hij
        have hjl := (List.getElem?_eq_some_iff.1 h2).1
        rw [if_pos hjl, h2]
      · rfl
    have harr : es.modify j (fun e' => { e' with key := C.kv a }) = es := Array.toList_inj.1 hlist
    refine ⟨setBlock w g (.map es clock), e0.born, ?_, h.mps_turn _ _ _ _ _ hst ?_ ⟨e0, List.mem_of_getElem? h2, h3, rfl⟩, env_setBlock _ _ _⟩
    · rw [lookup_some (nodup_of hst he) hx]
      simp [Instr.mapEntry, run_underlying ht, MapKept.run_getObj_map hb, C.kinds.check w false ⟨a, rfl⟩, h1, hj, h3, C.kinds.stays w ⟨a, rfl⟩, harr, MapKept.run_setObj_map _ hb, Result.andThen, setBlock, goInt, hv]
    · unfold mens
      rw [if_pos (List.mem_map.2 ⟨(a, y), List.mem_of_getElem? hx, rfl⟩), he]
theorem St.mps_store {a : κ} {s : Nat} (h : St H (MpS C g l a s :: fr) w) (x : ν) :
    ∃ w', (Instr.entryStore t (.map (some g)) (.int .i64 s) (C.vv x)).run P w = .ok () w' ∧ St H (Mp C g (mput a x l) :: fr) w' ∧ Env w w' := by
  obtain ⟨es, clock, hb, hst, he, e0, hm, hk, hs⟩ := h.get (φ := ∃ es clock, w.heap[g]? = some (.map es clock) ∧ Stamped es clock ∧ es.toList.map ent = l.map C.enc ∧ ∃ x ∈ es.toList, x.key = C.kv a ∧ x.born = s) (fun S hS => hS.1)
  have hnd := ((stamped_iff es clock).1 hst).2.1
  have hex : ∃ i, es.findIdx? (fun e => (e.born : Int) == (s : Int)) = some i := by
    cases hf : es.findIdx? (fun e => (e.born : Int) == (s : Int)) with
    | some i => exact ⟨i, rfl⟩
    | none =>
      rw [Array.findIdx?_eq_none_iff] at hf
      have := hf e0 (Array.mem_toList_iff.1 hm)
      rw [hs] at this
      simp at this
  obtain ⟨i, hi⟩ := hex
  obtain ⟨hlt, hp, _⟩ := Array.findIdx?_eq_some_iff_getElem.1 hi
  have hbi : es[i].born = s := by
    have := (beq_iff_eq.1 hp)
    omega
  have hei : es[i] = e0 := born_inj hnd (Array.mem_toList_iff.2 (Array.getElem_mem hlt)) hm (hbi.trans hs.symm)
  have h2 : es.toList[i]? = some e0 := by rw [List.getElem?_eq_getElem (by simpa using hlt)]; simp [hei]
  obtain ⟨y, hx, hv⟩ := some_of he h2 hk
  have hlist : (es.modify i (fun e' => { e' with val := C.vv x })).toList = es.toList.set i { e0 with val := C.vv x } := by
    rw [Array.toList_modify, Go.ChangeMaps.modify_eq_set _ _ _ _ h2]
  refine ⟨setBlock w g (.map (es.modify i (fun e' => { e' with val := C.vv x })) clock), ?_, ?_, env_setBlock _ _ _⟩
  · simp [Instr.entryStore, MapKept.run_getObj_map hb, asInt, asIntOf, hi, MapKept.run_setObj_map _ hb, Result.andThen, setBlock]
  · refine h.turn (by simp [setBlock]) (fun S hS => ⟨S, ⟨⟨_, clock, Go.ChangeMaps.heap_setBlock_same hb _, stamped_modify hst _ _ (fun _ _ => rfl) (fun e' _ _ => rfl), ?_⟩, hS.2⟩, fun j hj => .inl hj, fun j _ hj => Go.ChangeMaps.heap_setBlock_other hb _ (fun e => hj ((hS.2 j).2 e))⟩)
    rw [hlist]
    unfold mput
    rw [if_pos (List.mem_map.2 ⟨(a, y), List.mem_of_getElem? hx, rfl⟩), map_upd x (nodup_of hst he) hx, List.map_set, List.map_set, he]
    congr 1
    show ((e0.key, C.vv x) : Value × Value) = (C.kv a, C.vv x)
    rw [hk]
variable {ops : Array Oper} {rest : List Oper} {o : Oper} {b : Act} {Q : Exit → Act → World → Prop}
theorem wpList_mentry (hst : St H (Mp C g l :: fr) w) (hg : o.guard = none) (m x : Operand) (hop : o.op = Op.mapEntry t m x) (ht : P.underlying t = some (.map k e)) (z : ν) (hz : (zeroValue e).run P w = .ok (C.vv z) w)
    (hm : b.eval m = .map (some g)) (a : κ) (hx : b.eval x = C.kv a)
    (hK : ∀ w' (s : Nat), St H (MpS C g (mens a z l) a s :: fr) w' → Env w w' → wpList P ops Q rest (b.put o.dst (.tuple #[C.vv ((mlook a l).getD z), .int .i64 (s : Int)])) w') : wpList P ops Q (o :: rest) b w := by
  refine wpList_plain hg fun K' hK' => ?_
  obtain ⟨w', s, hrun, h1, h2⟩ := hst.mp_entry ht z hz a
  unfold Oper.wp
  simp [execOp, hop, hm, hx, hrun, Result.andThen]
  exact hK' _ _ (hK w' s h1 h2)
theorem wpList_mstore {a : κ} {s : Nat} (hst : St H (MpS C g l a s :: fr) w) (hg : o.guard = none) (m c u : Operand) (hop : o.op = Op.entryStore t m c u) (hm : b.eval m = .map (some g)) (hc : b.eval c = .int .i64 s) (x : ν) (hu : b.eval u = C.vv x)
    (hK : ∀ w', St H (Mp C g (mput a x l) :: fr) w' → Env w w' → wpList P ops Q rest (b.put o.dst undef) w') : wpList P ops Q (o :: rest) b w := by
  refine wpList_plain hg fun K' hK' => ?_
  obtain ⟨w', hrun, h1, h2⟩ := hst.mps_store (t := t) x
  unfold Oper.wp
  simp [execOp, hop, hm, hc, hu, hrun, Result.andThen]
  exact hK' _ _ (hK w' h1 h2)
end
theorem oper_append_run {P : Program} {o : Oper} {a : Act} {w w' : World} {K : Act → World → Prop} {Q : Exit → Act → World → Prop} (s y : Operand) (t u : TypeId)
    (hop : o.op = Op.call { callee := Callee.builtin Builtin.append, args := #[s, y], argTypes := #[t, u] }) {v x v' : Value} (hs : a.eval s = v) (hy : a.eval y = x)
    (hrun : (Builtin.append_ #[t, u] o.type #[v, x]).run P w = .ok v' w') (hK : K (a.put o.dst v') w') : Oper.wp P o a w K Q := by
  unfold Oper.wp
  simp [execOp, hop, resolve, invoke, builtin, hs, hy, hrun, Result.andThen]
  exact hK
theorem oper_append_at {P : Program} {o : Oper} {a : Act} {w w' : World} {K : Act → World → Prop} {Q : Exit → Act → World → Prop} (s y : Operand) (t u ty : TypeId) {v x v' : Value}
    (hrun : (Builtin.append_ #[t, u] ty #[v, x]).run P w = .ok v' w') (hop : o.op = Op.call { callee := Callee.builtin Builtin.append, args := #[s, y], argTypes := #[t, u] }) (hty : o.type = ty) (hs : a.eval s = v) (hy : a.eval y = x)
    (hK : K (a.put o.dst v') w') : Oper.wp P o a w K Q := oper_append_run s y t u hop hs hy (hty ▸ hrun) hK
end Go.Cw
