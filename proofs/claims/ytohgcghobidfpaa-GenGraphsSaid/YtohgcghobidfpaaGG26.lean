/- Joined texts: Yield, Reach. -/
import Derived.RangeFuncIn
import Derived.RangeFuncLeaves
import Derived.RangeFuncRecord
import Derived.RangeFuncSeq
import Derived.RangeFuncBound
import Derived.RangeFuncCalls
import Derived.OwnWalkIn
import Derived.TacticsInMore
import Derived.LoopIn
import Derived.Sort.LoopGhostIn
import Derived.Test.YtohgcghobidfpaaGG1
import Derived.Test.YtohgcghobidfpaaGG18
import Derived.Test.YtohgcghobidfpaaGG24
/- Ranges over a function, over the assertions of Own: no program. -/
set_option linter.unusedVariables false
set_option linter.unusedSimpArgs false
namespace Go.Cw
open Go.RowKit
/-- One block, whatever it is. -/
def Ob (g : Nat) (o : Obj) : HA where
  at_ := fun w S => w.heap[g]? = some o ∧ ∀ k, S k ↔ k = g
  move := fun h hm => ⟨(hm g ((h.2 g).2 rfl)).trans h.1, h.2⟩
  lt := fun h k hk => by
    have := (h.2 k).1 hk
    subst this
    exact (Array.getElem?_eq_some_iff.1 h.1).1
section
variable {H : Hp} {l : List HA} {w : World} {g : Nat} {o : Obj}
theorem St.ob (h : St H l w) (o : Obj) : St H (Ob w.heap.size o :: l) (w.alloc o) :=
  h.new (by simp) (fun k => k = w.heap.size) ⟨heap_alloc_new w o, fun _ => Iff.rfl⟩ (fun k hk => by omega) (fun k hk => Below.heap_alloc w o k hk)
theorem St.ob_heap (h : St H (Ob g o :: l) w) : w.heap[g]? = some o := h.get (fun _ hS => hS.1)
theorem St.ob_lt (h : St H (Ob g o :: l) w) : g < w.heap.size := (Array.getElem?_eq_some_iff.1 h.ob_heap).1
theorem St.ob_put (h : St H (Ob g o :: l) w) (o' : Obj) : St H (Ob g o' :: l) (w.putObj g o') :=
  h.turn (by simp) (fun S hS => ⟨S, ⟨World.putObj_heap_same h.ob_lt, hS.2⟩, fun k hk => .inl hk, fun k _ hk => World.putObj_heap_other (fun e => hk ((hS.2 k).2 e))⟩)
theorem Env.putObj {a w : World} (h : Env a w) (g : Nat) (o : Obj) : Env a (w.putObj g o) := ⟨h.os, h.tape, h.output, Nat.le_trans h.size (by simp)⟩
end
/-- append(v, x...) as an arm of a fenced walk. -/
theorem wpListIn_append {F : Fence} {n : Nat} {P : Program} {H : Hp} {l : List HA} {w : World} {e : TypeId} {sz : Nat} {v : Value} {cs : List Value} {ops : Array Oper} {rest : List Oper} {o : Oper} {a : Act} {Q : Exit → Act → World → Prop} (hg : o.guard = none) (s y : Operand) (t u : TypeId)
    (hop : o.op = Op.call { callee := Callee.builtin Builtin.append, args := #[s, y], argTypes := #[t, u] }) (ht : P.underlying t = some (.slice e)) (hu : (∃ d, P.underlying u = some (.slice d)) ∨ P.underlying u = some .string)
    (z : Value) (bytes : Nat) (hinfo : (P.info? e).map (fun i => (i.zero, i.size, i.bytes)) = some (some z, sz, bytes)) (hz : z.cells.size = sz) (hsz : 0 < sz) (hb0 : 0 < bytes)
    {x : Value} {m : Nat} {news : List Value} (hs : a.eval s = v) (hy : a.eval y = x)
    (h : St H (Row e sz v cs :: l) w) (hx : News P w sz x m news) (hb : (cs.length + news.length) * bytes ≤ sz * 140737488355328)
    (k : ∀ v' w', St H (Row e sz v' (cs ++ news) :: l) w' → Env w w' → wpListIn F n P ops Q rest (a.put o.dst v') w') : wpListIn F n P ops Q (o :: rest) a w := by
  refine wpListIn_plain hg fun K hK' => ?_
  obtain ⟨v', w', hrun, r1, r2⟩ := h.append_run t u o.type z bytes ht hu hinfo hz hsz hx hb hb0
  unfold Oper.wpIn
  refine ⟨?_, ?_⟩
  · simp [Oper.about, hop, resolve, Target.leads, Sem.run_pure]
  · rw [Oper.semAt_plain F _ _ (by rw [hop]; intro c hc'; cases hc')]
    simp [execOp, hop, resolve, invoke, builtin, hs, hy, hrun, Result.andThen]
    exact hK' _ _ (k v' w' r1 r2)
/-- A plain contract, in whatever round. -/
theorem calls_in {P : Program} {n : Nat} {f : FuncId} {args : Array Value} {w : World} {R : Ending → World → Prop} (l : Nat) (h : Calls P f args w R) : CallsIn (Fence.wide.inRound l) n P f args w R := CallsIn.inRound l (callsIn_wide.2 h)
end Go.Cw

/- What some ids reach, one by one: the closure that reach.each makes. -/
set_option linter.unusedVariables false
set_option linter.unusedSimpArgs false
namespace Go.Proofs.Ytohgcghobidfpaa
open Go.RowKit Go.Cw Go.Fl
attribute [local go_sem ↓] eql_id neq_id
attribute [local go_sem] Oper.semAt_some
theorem wide_fn (f : FuncId) : Fence.wide.fn f = True := rfl
theorem wide_fnR (l : Nat) (f : FuncId) : (Fence.wide.inRound l).fn f = True := rfl
theorem wide_dp : Fence.wide.depth = none := rfl
theorem wide_dpR (l : Nat) : (Fence.wide.inRound l).depth = none := rfl
theorem wide_rd : Fence.wide.round = none := rfl
theorem wide_rdR (l : Nat) : (Fence.wide.inRound l).round = some l := rfl
attribute [local go_sem] wide_fn wide_fnR wide_dp wide_dpR wide_rd wide_rdR
/-- What an iterator leaves. -/
def EachR (deps : Id → List Id) (src : List Id) (G : HA) (D Dx : List Id → HA) (H : Hp) (fr : List HA) (W : World) (e : Ending) (W' : World) : Prop :=
  (∃ v, e = .returned v) ∧ ∃ H', Hp.le H H' ∧ Env W W' ∧ ((∃ xs, xs.Nodup ∧ (∀ a, a ∈ xs ↔ Rch deps src a) ∧ St H' (G :: D xs :: fr) W') ∨ (∃ xs, (∀ a ∈ xs, Rch deps src a) ∧ St H' (G :: Dx xs :: fr) W'))
/-- What a round must do. -/
def RoundOf (G : HA) (deps : Id → List Id) (src : List Id) (D Dx : List Id → HA) (H0 : Hp) (n : Nat) (l : Nat) : Prop := ∀ (pre : List Id) (x : Id) (H : Hp) (fr : List HA) (W : World), Hp.le H0 H → Rch deps src x → x ∉ pre → pre.Nodup → (∀ a ∈ pre, Rch deps src a) → St H (G :: D pre :: fr) W →
  YieldAt Fence.wide n Try.prog l #[idV x] W fun e W' => ∃ H', Hp.le H H' ∧ Env W W' ∧ ((e = .returned (.bool true) ∧ St H' (G :: D (pre ++ [x]) :: fr) W') ∨ (e = .returned (.bool false) ∧ St H' (G :: Dx (pre ++ [x]) :: fr) W'))
theorem addL_new {x : Id} {pre : List Id} (h : x ∉ pre) : addL x pre = pre ++ [x] := by unfold addL; rw [if_neg h]
theorem addL_old {x : Id} {pre : List Id} (h : x ∈ pre) : addL x pre = pre := by unfold addL; rw [if_pos h]
end Go.Proofs.Ytohgcghobidfpaa
