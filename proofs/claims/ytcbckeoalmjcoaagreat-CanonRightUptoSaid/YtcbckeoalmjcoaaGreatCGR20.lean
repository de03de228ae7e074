/- Joined texts: MapEntry, Jump, CFromJ. -/
import Derived.ScopeJumps
import Derived.Test.YtcbckeoalmjcoaaGreatCGR1
import Derived.Test.YtcbckeoalmjcoaaGreatCGR3
import Derived.Test.YtcbckeoalmjcoaaGreatCGR16
import Derived.Test.YtcbckeoalmjcoaaGreatCGR19
/- m[k] = append(m[k], ..): the entry, and the store into it. -/
set_option linter.unusedVariables false
set_option linter.unusedSimpArgs false
set_option linter.unusedSectionVars false
namespace Go.Cw
open Go.RowKit Go.MapKept
open Go.ChangeMaps (setBlock)
section
variable {κ ν : Type} [DecidableEq κ] {P : Program} {k e t : TypeId} {C : Code P k κ ν} {H : Hp} {fr : List HA} {w : World} {g : Nat} {l : List (κ × ν)}
/-- A map, and the stamp of the entry of a key. -/
def MpS (C : Code P k κ ν) (g : Nat) (l : List (κ × ν)) (a : κ) (s : Nat) : HA where
  at_ := fun w S => (∃ es clock, w.heap[g]? = some (.map es clock) ∧ Stamped es clock ∧ es.toList.map ent = l.map C.enc ∧ ∃ x ∈ es.toList, x.key = C.kv a ∧ x.born = s) ∧ ∀ j, S j ↔ j = g
  move := fun ⟨⟨es, clock, h, r⟩, hS⟩ hm => ⟨⟨es, clock, (hm g ((hS g).2 rfl)).trans h, r⟩, hS⟩
  lt := fun ⟨⟨es, clock, h, r⟩, hS⟩ j hj => by
    have := (hS j).1 hj
    subst this
    exact (Array.getElem?_eq_some_iff.1 h).1
/-- The entries with one for a key. -/
def mens (a : κ) (z : ν) (l : List (κ × ν)) : List (κ × ν) := if a ∈ l.map (·.1) then l else l ++ [(a, z)]
theorem St.mps_turn (h : St H (Mp C g l :: fr) w) (es' : Array MapEntry) (clock' : Nat) (l' : List (κ × ν)) (a : κ) (s : Nat) (hs : Stamped es' clock') (he : es'.toList.map ent = l'.map C.enc) (hx : ∃ x ∈ es'.toList, x.key = C.kv a ∧ x.born = s) : St H (MpS C g l' a s :: fr) (setBlock w g (.map es' clock')) :=
  h.turn (by simp [setBlock]) (fun S hS => ⟨S, ⟨⟨es', clock', by obtain ⟨⟨es, clock, hb, _⟩, _⟩ := hS; exact Go.ChangeMaps.heap_setBlock_same hb _, hs, he, hx⟩, hS.2⟩, fun j hj => .inl hj, fun j _ hj => by
    obtain ⟨⟨es, clock, hb, _⟩, hS⟩ := hS
    exact Go.ChangeMaps.heap_setBlock_other hb _ (fun e => hj ((hS j).2 e))⟩)
theorem St.mp_entry (h : St H (Mp C g l :: fr) w) (ht : P.underlying t = some (.map k e)) (z : ν) (hz : (zeroValue e).run P w = .ok (C.vv z) w) (a : κ) :
    ∃ w', ∃ s : Nat, (Instr.mapEntry t (.map (some g)) (C.kv a)).run P w = .ok (.tuple #[C.vv ((mlook a l).getD z), .int .i64 (s : Int)]) w' ∧ St H (MpS C g (mens a z l) a s :: fr) w' ∧ Env w w' := by
  obtain ⟨es, clock, hb, hst, he⟩ := h.get (φ := ∃ es clock, w.heap[g]? = some (.map es clock) ∧ Stamped es clock ∧ es.toList.map ent = l.map C.enc) (fun S hS => hS.1)
  rcases C.kinds.find w ⟨a, rfl⟩ es.toList (keys_of he) with ⟨h1, h2⟩ | ⟨j, e0, h1, h2, h3⟩
  · have hn := none_of he h2
    refine ⟨setBlock w g (.map (es.push ⟨C.kv a, C.vv z, clock⟩) (clock + 1)), clock, ?_, h.mps_turn _ _ _ _ _ (stamped_push hst h2) ?_ ⟨⟨C.kv a, C.vv z, clock⟩, by simp, rfl, rfl⟩, env_setBlock _ _ _⟩
    · rw [lookup_none hn]
      simp [Instr.mapEntry, run_underlying ht, MapKept.run_getObj_map hb, C.kinds.check w false ⟨a, rfl⟩, h1, hz, MapKept.run_setObj_map _ hb, Result.andThen, setBlock, goInt]
    · unfold mens
      rw [if_neg hn]
      simp [he, ent, Code.enc]
  · obtain ⟨y, hx, hv⟩ := some_of he h2 h3
    have hj : es[j]? = some e0 := by simpa using h2
    have hkey : ({ e0 with key := C.kv a } : MapEntry) = e0 := by cases e0; simp only at h3; subst h3; rfl
    have hlist : (es.modify j (fun e' => { e' with key := C.kv a })).toList = es.toList := by
      rw [Array.toList_modify, Go.ChangeMaps.modify_eq_set _ _ _ _ h2, hkey]
      refine List.ext_getElem? (fun i => ?_)
      rw [List.getElem?_set]
      split
      · rename_i hij
        subst hij
        have hjl := (List.getElem?_eq_some_iff.1 h2).1
        rw [if_pos hjl, h2]
      · rfl
    have harr : es.modify j (fun e' => { e' with key := C.kv a }) = es := Array.toList_inj.1 hlist
    refine ⟨setBlock w g (.map es clock), e0.born, ?_, h.mps_turn _ _ _ _ _ hst ?_ ⟨e0, List.mem_of_getElem? h2, h3, rfl⟩, env_setBlock _ _ _⟩
    · rw [lookup_some (nodup_of hst he) hx]
      simp [Instr.mapEntry, run_underlying ht, MapKept.run_getObj_map hb, C.kinds.check w false ⟨a, rfl⟩, h1, hj, h3, C.kinds.stays w ⟨a, rfl⟩, harr, MapKept.run_setObj_map _ hb, Result.andThen, setBlock, goInt, hv]
    · unfold mens
      rw [if_pos (List.mem_map.2 ⟨(a, y), List.mem_of_getElem? hx, rfl⟩), he]
theorem St.mps_store {a : κ} {s : Nat} (h : St H (MpS C g l a s :: fr) w) (x : ν) :
    ∃ w', (Instr.entryStore t (.map (some g)) (.int .i64 s) (C.vv x)).run P w = .ok () w' ∧ St H (Mp C g (mput a x l) :: fr) w' ∧ Env w w' := by
  obtain ⟨es, clock, hb, hst, he, e0, hm, hk, hs⟩ := h.get (φ := ∃ es clock, w.heap[g]? = some (.map es clock) ∧ Stamped es clock ∧ es.toList.map ent = l.map C.enc ∧ ∃ x ∈ es.toList, x.key = C.kv a ∧ x.born = s) (fun S hS => hS.1)
  have hnd := ((stamped_iff es clock).1 hst).2.1
  have hex : ∃ i, es.findIdx? (fun e => (e.born : Int) == (s : Int)) = some i := by
    cases hf : es.findIdx? (fun e => (e.born : Int) == (s : Int)) with
    | some i => exact ⟨i, rfl⟩
    | none =>
      rw [Array.findIdx?_eq_none_iff] at hf
      have := hf e0 (Array.mem_toList_iff.1 hm)
      rw [hs] at this
      simp at this
  obtain ⟨i, hi⟩ := hex
  obtain ⟨hlt, hp, _⟩ := Array.findIdx?_eq_some_iff_getElem.1 hi
  have hbi : es[i].born = s := by
    have := (beq_iff_eq.1 hp)
    omega
  have hei : es[i] = e0 := born_inj hnd (Array.mem_toList_iff.2 (Array.getElem_mem hlt)) hm (hbi.trans hs.symm)
  have h2 : es.toList[i]? = some e0 := by rw [List.getElem?_eq_getElem (by simpa using hlt)]; simp [hei]
  obtain ⟨y, hx, hv⟩ := some_of he h2 hk
  have hlist : (es.modify i (fun e' => { e' with val := C.vv x })).toList = es.toList.set i { e0 with val := C.vv x } := by
    rw [Array.toList_modify, Go.ChangeMaps.modify_eq_set _ _ _ _ h2]
  refine ⟨setBlock w g (.map (es.modify i (fun e' => { e' with val := C.vv x })) clock), ?_, ?_, env_setBlock _ _ _⟩
  · simp [Instr.entryStore, MapKept.run_getObj_map hb, asInt, asIntOf, hi, MapKept.run_setObj_map _ hb, Result.andThen, setBlock]
  · refine h.turn (by simp [setBlock]) (fun S hS => ⟨S, ⟨⟨_, clock, Go.ChangeMaps.heap_setBlock_same hb _, stamped_modify hst _ _ (fun _ _ => rfl) (fun e' _ _ => rfl), ?_⟩, hS.2⟩, fun j hj => .inl hj, fun j _ hj => Go.ChangeMaps.heap_setBlock_other hb _ (fun e => hj ((hS.2 j).2 e))⟩)
    rw [hlist]
    unfold mput
    rw [if_pos (List.mem_map.2 ⟨(a, y), List.mem_of_getElem? hx, rfl⟩), map_upd x (nodup_of hst he) hx, List.map_set, List.map_set, he]
    congr 1
    show ((e0.key, C.vv x) : Value × Value) = (C.kv a, C.vv x)
    rw [hk]
variable {ops : Array Oper} {rest : List Oper} {o : Oper} {b : Act} {Q : Exit → Act → World → Prop}
theorem wpList_mentry (hst : St H (Mp C g l :: fr) w) (hg : o.guard = none) (m x : Operand) (hop : o.op = Op.mapEntry t m x) (ht : P.underlying t = some (.map k e)) (z : ν) (hz : (zeroValue e).run P w = .ok (C.vv z) w)
    (hm : b.eval m = .map (some g)) (a : κ) (hx : b.eval x = C.kv a)
    (hK : ∀ w' (s : Nat), St H (MpS C g (mens a z l) a s :: fr) w' → Env w w' → wpList P ops Q rest (b.put o.dst (.tuple #[C.vv ((mlook a l).getD z), .int .i64 (s : Int)])) w') : wpList P ops Q (o :: rest) b w := by
  refine wpList_plain hg fun K' hK' => ?_
  obtain ⟨w', s, hrun, h1, h2⟩ := hst.mp_entry ht z hz a
  unfold Oper.wp
  simp [execOp, hop, hm, hx, hrun, Result.andThen]
  exact hK' _ _ (hK w' s h1 h2)
theorem wpList_mstore {a : κ} {s : Nat} (hst : St H (MpS C g l a s :: fr) w) (hg : o.guard = none) (m c u : Operand) (hop : o.op = Op.entryStore t m c u) (hm : b.eval m = .map (some g)) (hc : b.eval c = .int .i64 s) (x : ν) (hu : b.eval u = C.vv x)
    (hK : ∀ w', St H (Mp C g (mput a x l) :: fr) w' → Env w w' → wpList P ops Q rest (b.put o.dst undef) w') : wpList P ops Q (o :: rest) b w := by
  refine wpList_plain hg fun K' hK' => ?_
  obtain ⟨w', hrun, h1, h2⟩ := hst.mps_store (t := t) x
  unfold Oper.wp
  simp [execOp, hop, hm, hc, hu, hrun, Result.andThen]
  exact hK' _ _ (hK w' h1 h2)
end
theorem oper_append_run {P : Program} {o : Oper} {a : Act} {w w' : World} {K : Act → World → Prop} {Q : Exit → Act → World → Prop} (s y : Operand) (t u : TypeId)
    (hop : o.op = Op.call { callee := Callee.builtin Builtin.append, args := #[s, y], argTypes := #[t, u] }) {v x v' : Value} (hs : a.eval s = v) (hy : a.eval y = x)
    (hrun : (Builtin.append_ #[t, u] o.type #[v, x]).run P w = .ok v' w') (hK : K (a.put o.dst v') w') : Oper.wp P o a w K Q := by
  unfold Oper.wp
  simp [execOp, hop, resolve, invoke, builtin, hs, hy, hrun, Result.andThen]
  exact hK
theorem oper_append_at {P : Program} {o : Oper} {a : Act} {w w' : World} {K : Act → World → Prop} {Q : Exit → Act → World → Prop} (s y : Operand) (t u ty : TypeId) {v x v' : Value}
    (hrun : (Builtin.append_ #[t, u] ty #[v, x]).run P w = .ok v' w') (hop : o.op = Op.call { callee := Callee.builtin Builtin.append, args := #[s, y], argTypes := #[t, u] }) (hty : o.type = ty) (hs : a.eval s = v) (hy : a.eval y = x)
    (hK : K (a.put o.dst v') w') : Oper.wp P o a w K Q := oper_append_run s y t u hop hs hy (hty ▸ hrun) hK
end Go.Cw

/- A scope in which the run jumps back to one label, with a measure that is carried along. -/
set_option linter.unusedVariables false
namespace Go.Cw
theorem wp_jumps {P : Program} {a : Act} {w : World} {Q : Exit → Act → World → Prop} {c rest : _root_.Go.Code} (l : Nat) (J : Nat → Act → World → Prop) (hf : findLabel c l = some rest)
    (first : (∀ n a w, J n a w → rest.wp P (Exit.jump l (fun a' w' => ∃ m, J m a' w') Q) a w) → c.wp P (Exit.jump l (fun a' w' => ∃ m, J m a' w') Q) a w)
    (pass : ∀ n a w, J n a w → rest.wp P (Exit.jump l (fun a' w' => ∃ m, m < n ∧ J m a' w') Q) a w) : (Code.scope c).wp P Q a w := by
  classical
  have hmono : ∀ n a w, J n a w → rest.wp P (Exit.jump l (fun a' w' => ∃ m, J m a' w') Q) a w := fun n a w h => Code.wp_mono (fun e a' w' hq => by
    cases e with
    | goto l' => exact ⟨hq.1, hq.2.elim fun m hm => ⟨m, hm.2⟩⟩
    | _ => exact hq) (pass n a w h)
  have least : ∀ a w, (∃ n, J n a w) → ∃ n, J n a w ∧ ∀ m, J m a w → n ≤ m := fun a w ⟨n, h⟩ => by
    induction n using Nat.strongRecOn with
    | _ n ih =>
      by_cases hm : ∃ m, m < n ∧ J m a w
      · obtain ⟨m, h1, h2⟩ := hm
        exact ih m h1 h2
      · exact ⟨n, h, fun m h2 => Nat.le_of_not_lt (fun h3 => hm ⟨m, h3, h2⟩)⟩
  refine wp_scope_jumps l (fun a' w' => ∃ m, J m a' w') (fun a' w' => if h : ∃ n, J n a' w' then (least a' w' h).choose else 0) hf (first hmono) ?_
  intro a w h
  obtain ⟨h1, h2⟩ := (least a w h).choose_spec
  refine Code.wp_mono (fun e a' w' hq => ?_) (pass _ a w h1)
  cases e with
  | goto l' =>
    obtain ⟨e1, m, hm, hJ⟩ := hq
    refine ⟨e1, ⟨m, hJ⟩, ?_⟩
    have h3 : ∃ n, J n a' w' := ⟨m, hJ⟩
    have h4 := (least a' w' h3).choose_spec.2 m hJ
    simp only [dif_pos h, dif_pos h3]
    omega
  | _ => exact hq
/-- The same where the label's rest begins with nothing. -/
theorem wp_jumps_skip {P : Program} {a : Act} {w : World} {Q : Exit → Act → World → Prop} {c rest : _root_.Go.Code} (l : Nat) (J : Nat → Act → World → Prop) (hf : findLabel c l = some (Code.skip.seq rest))
    (first : (∀ n a w, J n a w → rest.wp P (Exit.jump l (fun a' w' => ∃ m, J m a' w') Q) a w) → c.wp P (Exit.jump l (fun a' w' => ∃ m, J m a' w') Q) a w)
    (pass : ∀ n a w, J n a w → rest.wp P (Exit.jump l (fun a' w' => ∃ m, m < n ∧ J m a' w') Q) a w) : (Code.scope c).wp P Q a w :=
  wp_jumps l J hf (fun _ => first (fun n a w h => Code.wp_mono (fun e a' w' hq => by
    cases e with
    | goto l' => exact ⟨hq.1, hq.2.elim fun m hm => ⟨m, hm.2⟩⟩
    | _ => exact hq) (pass n a w h))) (fun n a w h => wp_seq (wp_skip (pass n a w h)))
end Go.Cw

/- comps.walk.from: one walk. -/
set_option linter.unusedVariables false
set_option linter.unusedSimpArgs false
namespace Go.Proofs.YtcbckeoalmjcoaaGreat
open Go.RowKit Go.Cw Go.Fl
attribute [local go_sem ↓] eql_id neq_id
/-- A place: an id, how many of its edges were gone, its edges. -/
abbrev Pl := Id × Nat × Value
def plc (x : Pl) : List Value := [.int .i64 x.1.1, .int .i64 x.1.2, .int .i64 (x.2.1 : Int), x.2.2]
def pls (T : List Pl) : List Value := T.flatMap plc
theorem pls_len (T : List Pl) : (pls T).length = T.length * 4 := flat_len plc 4 (fun _ => rfl) T
theorem pls_app (T S : List Pl) : pls (T ++ S) = pls T ++ pls S := by simp [pls]
theorem pls_top (T : List Pl) (x : Pl) (j : Nat) (hj : j < 4) : (pls (T ++ [x]))[T.length * 4 + j]? = (plc x)[j]? := by
  rw [pls_app, List.getElem?_append_right (by rw [pls_len]; omega), pls_len]
  simp [pls, show T.length * 4 + j - T.length * 4 = j by omega]
theorem pls_take (T : List Pl) (x : Pl) : (pls (T ++ [x])).take (T.length * 4) = pls T := by
  rw [pls_app, List.take_left' (pls_len T)]
theorem info_place : (Tryz.prog.info? 99).map (fun i => (i.zero, i.size, i.bytes)) = some (some (.agg #[.int .i64 0, .int .i64 0, .int .i64 0, .slice none 0 0]), 4, 48) := by kernel_rfl
theorem nil_or_snoc {α : Type} (T : List α) : T = [] ∨ ∃ T0 x, T = T0 ++ [x] := by
  rcases List.eq_nil_or_concat T with h | ⟨a, b, h⟩
  · exact .inl h
  · exact .inr ⟨a, b, by simpa using h⟩
theorem pls_set (T : List Pl) (a : Id) (k k' : Nat) (v : Value) : (pls (T ++ [(a, k, v)])).set (T.length * 4 + 2) (.int .i64 (k' : Int)) = pls (T ++ [(a, k', v)]) := by
  rw [pls_app, pls_app, List.set_append_right _ _ (by rw [pls_len]; omega), pls_len, show T.length * 4 + 2 - T.length * 4 = 2 by omega]
  rfl
theorem pls_one (x : Pl) : pls [x] = plc x := by simp [pls]
theorem plc_one (a : Id) (k : Nat) (A : Option Addr) (n c : Nat) : ∀ u ∈ plc (a, k, .slice A n c), u.oneCell' = true := by
  intro u hu
  simp only [plc, List.mem_cons, List.not_mem_nil, or_false] at hu
  rcases hu with rfl | rfl | rfl | rfl <;> rfl
theorem Rd.form2 {H : Hp} {sz : Nat} {A : Option Addr} {n c : Nat} {cs : List Value} (h : Rd H sz (.slice A n c) cs) (hn : 0 < n) : ∃ b off, A = some ⟨b, off, none⟩ ∧ ∀ j u, cs[j]? = some u → H.cell b (off + j) = some u := by
  obtain ⟨A', n', c', hv, _, _, _, h4⟩ := h
  cases hv
  exact h4 hn
theorem perm_G (G S R B O : HA) (fr : List HA) : (G :: S :: R :: B :: O :: fr).Perm (R :: B :: S :: O :: G :: fr) :=
  (List.Perm.swap _ _ _).trans ((List.Perm.cons _ (List.Perm.swap _ _ _)).trans ((List.Perm.swap _ _ _).trans (List.Perm.cons _ ((List.Perm.cons _ (List.Perm.swap _ _ _)).trans ((List.Perm.swap _ _ _).trans (List.Perm.cons _ (List.Perm.cons _ (List.Perm.swap _ _ _))))))))
/-- The walk's stack, the top first. -/
def stk (T : List Pl) : List (Id × Nat) := (T.map (fun x => (x.1, x.2.1))).reverse
theorem stk_snoc (T : List Pl) (x : Pl) : stk (T ++ [x]) = (x.1, x.2.1) :: stk T := by simp [stk]
theorem stk_ne (T : List Pl) (x : Pl) : stk (T ++ [x]) ≠ [] := by rw [stk_snoc]; simp
/-- Steps, none of them a root's. -/
inductive Stpn (nx : Id → List Id) : Wk → Wk → Prop
  | nil {w : Wk} : Stpn nx w w
  | snoc {a b c : Wk} : Stpn nx a b → b.st ≠ [] → Stp nx b c → Stpn nx a c
theorem Stpn.all {nx : Id → List Id} {a b : Wk} (h : Stpn nx a b) : Stps nx a b := by
  induction h with
  | nil => exact .nil
  | snoc _ _ s ih => exact .snoc ih s
theorem Stpn.keep {nx : Id → List Id} {P : Wk → Prop} (hs : ∀ a b, P a → a.st ≠ [] → Stp nx a b → P b) {a b : Wk} (h : P a) (k : Stpn nx a b) : P b := by
  induction k with
  | nil => exact h
  | snoc _ hn s ih => exact hs _ _ ih hn s
/-- What a walk's next function tells. -/
def NextOf (F : Nat) (bnd caps : Array Value) (G : HA) (nx : Id → List Id) (H : Hp) : Prop :=
  ∀ (a : Id) (H' : Hp) (fr : List HA) (w : World), Hp.le H H' → St H' (G :: fr) w → Calls Tryz.prog F (bnd.push (idV a) ++ caps) w fun e w' => ∃ (v : Value) (H'' : Hp), e = .returned v ∧ Hp.le H' H'' ∧ St H'' (G :: fr) w' ∧ Env w w' ∧ Rd H'' 2 v (idl (nx a))
/-- What a walk leaves. -/
def WalkR (pw ps : Nat) (fnv : Value) (G : HA) (fr : List HA) (nx : Id → List Id) (L O : List Id) (a : Id) (H : Hp) (w : World) (e : Ending) (w' : World) : Prop :=
  ∃ (ov : Value) (L' O' : List Id) (H' : Hp), e = .returned (.tuple #[]) ∧ Hp.le H H' ∧ St H' (Blk pw #[setP ps, fnv, ov] 71 :: SetA ps L' :: Row 41 2 ov (idl O') :: G :: fr) w' ∧ Env w w' ∧ ((a ∉ L ∧ L' = L ∧ O' = O) ∨ (a ∈ L ∧ Stpn nx ⟨cutL a L, [(a, 0)], O⟩ ⟨L', [], O'⟩))
theorem Iv.room {nx : Id → List Id} {U : List Id} {w : Wk} (h : Iv nx U w) : w.st.length + w.out.length ≤ U.length := by
  have := sub_len16 (w.ids ++ w.out) U h.nd (fun x hx => (h.all x).2 (.inr (List.mem_append.1 hx)))
  rw [List.length_append] at this
  simpa [Wk.ids] using this
theorem Iv.rooml {nx : Id → List Id} {U : List Id} {w : Wk} (h : Iv nx U w) (hn : w.left.Nodup) : w.left.length ≤ U.length := sub_len16 _ _ hn (fun x hx => (h.all x).2 (.inl hx))
/-- A frame of 93 slots of which five are known. -/
theorem act93 (a : Act) (p q r s : Value) (h : a.tmps.size = 93) (hd : a.defers = []) (h0 : a.tmps[0]? = some p) (h1 : a.tmps[1]? = some q) (h3 : a.tmps[3]? = some r) (h4 : a.tmps[4]? = some s) :
    ∃ us : Nat → Value, a = { tmps := #[p, q, us 2, r, s, us 5, us 6, us 7, us 8, us 9, us 10, us 11, us 12, us 13, us 14, us 15, us 16, us 17, us 18, us 19, us 20, us 21, us 22, us 23, us 24, us 25, us 26, us 27, us 28, us 29, us 30, us 31, us 32, us 33, us 34, us 35, us 36, us 37, us 38, us 39, us 40, us 41, us 42, us 43, us 44, us 45, us 46, us 47, us 48, us 49, us 50, us 51, us 52, us 53, us 54, us 55, us 56, us 57, us 58, us 59, us 60, us 61, us 62, us 63, us 64, us 65, us 66, us 67, us 68, us 69, us 70, us 71, us 72, us 73, us 74, us 75, us 76, us 77, us 78, us 79, us 80, us 81, us 82, us 83, us 84, us 85, us 86, us 87, us 88, us 89, us 90, us 91, us 92], defers := [] } := by
  have key : ∀ us : Nat → Value, ((List.range 93).map us).toArray = #[us 0, us 1, us 2, us 3, us 4, us 5, us 6, us 7, us 8, us 9, us 10, us 11, us 12, us 13, us 14, us 15, us 16, us 17, us 18, us 19, us 20, us 21, us 22, us 23, us 24, us 25, us 26, us 27, us 28, us 29, us 30, us 31, us 32, us 33, us 34, us 35, us 36, us 37, us 38, us 39, us 40, us 41, us 42, us 43, us 44, us 45, us 46, us 47, us 48, us 49, us 50, us 51, us 52, us 53, us 54, us 55, us 56, us 57, us 58, us 59, us 60, us 61, us 62, us 63, us 64, us 65, us 66, us 67, us 68, us 69, us 70, us 71, us 72, us 73, us 74, us 75, us 76, us 77, us 78, us 79, us 80, us 81, us 82, us 83, us 84, us 85, us 86, us 87, us 88, us 89, us 90, us 91, us 92] := fun us => rfl
  obtain ⟨t, d⟩ := a
  simp only at h hd h0 h1 h3 h4
  subst hd
  have e0 : t.getD 0 undef = p := by rw [Array.getD_eq_getD_getElem?, h0]; rfl
  have e1 : t.getD 1 undef = q := by rw [Array.getD_eq_getD_getElem?, h1]; rfl
  have e3 : t.getD 3 undef = r := by rw [Array.getD_eq_getD_getElem?, h3]; rfl
  have e4 : t.getD 4 undef = s := by rw [Array.getD_eq_getD_getElem?, h4]; rfl
  have hk : t = ((List.range 93).map (fun i => t.getD i undef)).toArray := by
    apply Array.ext
    · simp [h]
    · intro i hi hi'
      simp [Array.getD, hi]
  refine ⟨fun i => t.getD i undef, ?_⟩
  have hk2 := hk.trans (key _)
  rw [e0, e1, e3, e4] at hk2
  exact congrArg (fun x => Act.mk x []) hk2
/-- What holds at the walk's label. -/
def CFJ (pw ps F : Nat) (bnd caps : Array Value) (G : HA) (nx : Id → List Id) (U L O : List Id) (a : Id) (gb : Nat) (H1 : Hp) (fr : List HA) (w : World) : Nat → Act → World → Prop := fun q a' w' =>
  ∃ (sv : Value) (T : List Pl) (L' O' : List Id) (ov' : Value) (H' : Hp), a'.tmps.size = 93 ∧ a'.defers = [] ∧ a'.tmps[0]? = some (.pointer (some ⟨pw, 0, none⟩)) ∧ a'.tmps[1]? = some (idV a) ∧ a'.tmps[3]? = some (.pointer (some ⟨gb, 0, none⟩)) ∧ a'.tmps[4]? = some sv ∧ q = L'.length * 1002 + (T.map (fun x => (nx x.1).length - x.2.1 + 1)).sum ∧ Hp.le H1 H' ∧ St H' (Row 99 4 sv (pls T) :: Blk pw #[setP ps, .func (.func F) bnd caps, ov'] 71 :: SetA ps L' :: Row 41 2 ov' (idl O') :: G :: fr) w' ∧ Env w w' ∧ (∀ x ∈ T, Rd H' 2 x.2.2 (idl (nx x.1)) ∧ x.2.1 ≤ (nx x.1).length) ∧ (a ∈ L ∧ Stpn nx ⟨cutL a L, [(a, 0)], O⟩ ⟨L', stk T, O'⟩) ∧ Iv nx U ⟨L', stk T, O'⟩ ∧ L'.Nodup
theorem CFJ.mk {pw ps F : Nat} {bnd caps : Array Value} {G : HA} {nx : Id → List Id} {U L O : List Id} {a : Id} {gb : Nat} {H1 : Hp} {fr : List HA} {w : World} {q : Nat} {a' : Act} {w' : World} (sv : Value) (T : List Pl) (L' O' : List Id) (ov' : Value) (H' : Hp)
    (x1 : a'.tmps.size = 93) (x2 : a'.defers = []) (x3 : a'.tmps[0]? = some (.pointer (some ⟨pw, 0, none⟩))) (x4 : a'.tmps[1]? = some (idV a)) (x5 : a'.tmps[3]? = some (.pointer (some ⟨gb, 0, none⟩))) (x6 : a'.tmps[4]? = some sv) (x7 : q = L'.length * 1002 + (T.map (fun x => (nx x.1).length - x.2.1 + 1)).sum) (x8 : Hp.le H1 H') (x9 : St H' (Row 99 4 sv (pls T) :: Blk pw #[setP ps, .func (.func F) bnd caps, ov'] 71 :: SetA ps L' :: Row 41 2 ov' (idl O') :: G :: fr) w') (x10 : Env w w') (x11 : ∀ x ∈ T, Rd H' 2 x.2.2 (idl (nx x.1)) ∧ x.2.1 ≤ (nx x.1).length) (x12 : a ∈ L ∧ Stpn nx ⟨cutL a L, [(a, 0)], O⟩ ⟨L', stk T, O'⟩) (x13 : Iv nx U ⟨L', stk T, O'⟩) (x14 : L'.Nodup) :
    CFJ pw ps F bnd caps G nx U L O a gb H1 fr w q a' w' := ⟨sv, T, L', O', ov', H', x1, x2, x3, x4, x5, x6, x7, x8, x9, x10, x11, x12, x13, x14⟩
theorem CFJ.out {pw ps F : Nat} {bnd caps : Array Value} {G : HA} {nx : Id → List Id} {U L O : List Id} {a : Id} {gb : Nat} {H1 : Hp} {fr : List HA} {w : World} {q : Nat} {a' : Act} {w' : World} (h : CFJ pw ps F bnd caps G nx U L O a gb H1 fr w q a' w') :
    ∃ (p r s : Value) (q' : Value) (us : Nat → Value), a' = { tmps := #[p, q', us 2, r, s, us 5, us 6, us 7, us 8, us 9, us 10, us 11, us 12, us 13, us 14, us 15, us 16, us 17, us 18, us 19, us 20, us 21, us 22, us 23, us 24, us 25, us 26, us 27, us 28, us 29, us 30, us 31, us 32, us 33, us 34, us 35, us 36, us 37, us 38, us 39, us 40, us 41, us 42, us 43, us 44, us 45, us 46, us 47, us 48, us 49, us 50, us 51, us 52, us 53, us 54, us 55, us 56, us 57, us 58, us 59, us 60, us 61, us 62, us 63, us 64, us 65, us 66, us 67, us 68, us 69, us 70, us 71, us 72, us 73, us 74, us 75, us 76, us 77, us 78, us 79, us 80, us 81, us 82, us 83, us 84, us 85, us 86, us 87, us 88, us 89, us 90, us 91, us 92], defers := [] } ∧ p = .pointer (some ⟨pw, 0, none⟩) ∧ q' = idV a ∧ r = .pointer (some ⟨gb, 0, none⟩) ∧ ∃ (T : List Pl) (L' O' : List Id) (ov' : Value) (H' : Hp), q = L'.length * 1002 + (T.map (fun x => (nx x.1).length - x.2.1 + 1)).sum ∧ Hp.le H1 H' ∧ St H' (Row 99 4 s (pls T) :: Blk pw #[setP ps, .func (.func F) bnd caps, ov'] 71 :: SetA ps L' :: Row 41 2 ov' (idl O') :: G :: fr) w' ∧ Env w w' ∧ (∀ x ∈ T, Rd H' 2 x.2.2 (idl (nx x.1)) ∧ x.2.1 ≤ (nx x.1).length) ∧ (a ∈ L ∧ Stpn nx ⟨cutL a L, [(a, 0)], O⟩ ⟨L', stk T, O'⟩) ∧ Iv nx U ⟨L', stk T, O'⟩ ∧ L'.Nodup := by
  obtain ⟨sv, T, L', O', ov', H', x1, x2, x3, x4, x5, x6, rest⟩ := h
  obtain ⟨us, he⟩ := act93 a' _ _ _ _ x1 x2 x3 x4 x5 x6
  exact ⟨_, _, _, _, us, he, rfl, rfl, rfl, T, L', O', ov', H', rest⟩
end Go.Proofs.YtcbckeoalmjcoaaGreat
