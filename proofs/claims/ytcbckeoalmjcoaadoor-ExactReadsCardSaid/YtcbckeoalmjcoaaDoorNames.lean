/- exact.names: a map that is made; what a key of int has in a map. -/
import Derived.Test.YtcbckeoalmjcoaaDoorKind
import Derived.Maps.RangeWalk
import Derived.Carry
set_option linter.unusedVariables false
set_option linter.unusedSimpArgs false
namespace Go.Proofs.YtcbckeoalmjcoaaDoor
open Go.RowKit Go.Cw
open Go.ChangeMaps (setBlock)
def entI (e : MapEntry) : Value × Value := (e.key, e.val)
def encI (p : Int × ByteArray) : Value × Value := (.int .i64 p.1, .string p.2)
def lkI (x : Int) : List (Int × ByteArray) → Nat → Option (Nat × ByteArray)
  | [], _ => none
  | p :: r, i => if p.1 = x then some (i, p.2) else lkI x r (i + 1)
theorem findNow_int (x : Int) : ∀ (es : List MapEntry) (l : List (Int × ByteArray)) (i : Nat), es.map entI = l.map encI → Instr.findNow (.int .i64) (.int .i64 x) es i = some ((lkI x l i).map fun q => (q.1, .string q.2))
  | [], [], i, h => rfl
  | [], p :: r, i, h => by simp at h
  | e :: es, [], i, h => by simp at h
  | e :: es, p :: r, i, h => by
    simp only [List.map_cons, List.cons.injEq, entI, encI, Prod.mk.injEq] at h
    obtain ⟨⟨h1, h2⟩, h3⟩ := h
    have ih := findNow_int x es r (i + 1) h3
    unfold Instr.findNow
    rw [h1]
    by_cases hx : p.1 = x
    · have hb : Instr.sameNow (.int .i64) (.int .i64 x) (.int .i64 p.1) = some true := by
        show some (x == p.1) = some true
        rw [hx]; simp
      rw [hb]
      simp only [lkI, if_pos hx, h2, Option.map_some]
    · have hb : Instr.sameNow (.int .i64) (.int .i64 x) (.int .i64 p.1) = some false := by
        show some (x == p.1) = some false
        congr 1
        rw [beq_eq_false_iff_ne]
        exact fun e => hx e.symm
      rw [hb]
      simp only [lkI, if_neg hx]
      exact ih
theorem lkI_none {x : Int} : ∀ (l : List (Int × ByteArray)) (i : Nat), (∀ p ∈ l, p.1 ≠ x) → lkI x l i = none
  | [], i, h => rfl
  | p :: r, i, h => by
    unfold lkI
    rw [if_neg (h p (by simp))]
    exact lkI_none r (i + 1) (fun q hq => h q (by simp [hq]))
def MpI (w : World) (g : Nat) (l : List (Int × ByteArray)) : Prop := ∃ es clock, w.heap[g]? = some (.map es clock) ∧ es.toList.map entI = l.map encI
set_option maxRecDepth 100000 in
theorem chk_int (w : World) (em : Bool) (x : Int) : (Instr.checkKey em 10000 3 (.int .i64 x)).run Tryd.prog w = .ok () w := by kernel_rfl
theorem undM : Tryd.prog.underlying 68 = some (.map 3 9) := by kernel_rfl
theorem undI : Tryd.prog.underlying 3 = some (.int .i64) := by kernel_rfl
theorem mpI_put {w0 w : World} {g : Nat} {l : List (Int × ByteArray)} (h : MpI w g l) (hb : Below w0.heap.size w0 w) (hg : w0.heap.size ≤ g) (x : Int) (s : ByteArray) (hx : ∀ p ∈ l, p.1 ≠ x) :
    ∃ w', (Instr.mapUpdate 68 (.map (some g)) (.int .i64 x) (.string s)).run Tryd.prog w = .ok () w' ∧ MpI w' g (l ++ [(x, s)]) ∧ Below w0.heap.size w0 w' := by
  obtain ⟨es, clock, h1, h2⟩ := h
  have h3 := findNow_int x es.toList l 0 h2
  rw [lkI_none l 0 hx] at h3
  refine ⟨setBlock w g (.map (es.push ⟨.int .i64 x, .string s, clock⟩) (clock + 1)), ?_, ⟨_, _, Go.ChangeMaps.heap_setBlock_same h1 _, ?_⟩, ?_⟩
  · simp [Instr.mapUpdate, run_underlying undM, run_underlying undI, Go.MapKept.run_getObj_map h1, chk_int, Instr.findKey, h3, Go.MapKept.run_setObj_map _ h1, Result.andThen, setBlock]
  · simp [h2, entI, encI]
  · refine hb.trans ⟨rfl, rfl, rfl, by simp [setBlock], fun k hk => ?_⟩
    exact Go.ChangeMaps.heap_setBlock_other h1 _ (by omega)
theorem mpI_get {w : World} {g : Nat} {l : List (Int × ByteArray)} (h : MpI w g l) (x : Int) :
    (Instr.lookup 68 (.map (some g)) (.int .i64 x) true).run Tryd.prog w = .ok (.tuple #[.string (((lkI x l 0).map (·.2)).getD ByteArray.empty), .bool (lkI x l 0).isSome]) w := by
  obtain ⟨es, clock, h1, h2⟩ := h
  have h3 := findNow_int x es.toList l 0 h2
  have hz : (zeroValue 9).run Tryd.prog w = .ok (.string ByteArray.empty) w := by kernel_rfl
  cases hl : lkI x l 0 with
  | none =>
    rw [hl] at h3
    simp [Instr.lookup, run_underlying undM, run_underlying undI, Go.MapKept.run_getObj_map h1, chk_int, Instr.findKey, h3, hz, Result.andThen]
  | some q =>
    rw [hl] at h3
    simp [Instr.lookup, run_underlying undM, run_underlying undI, Go.MapKept.run_getObj_map h1, chk_int, Instr.findKey, h3, hz, Result.andThen]
/-- The names. -/
def nmL : List (Int × ByteArray) := [(0, { data := #[110, 97, 110] }), (1, { data := #[45, 105, 110, 102] }), (3, { data := #[45, 48] }), (4, { data := #[48] }), (6, { data := #[105, 110, 102] })]
set_option maxRecDepth 100000 in
theorem names_any (w : World) : Calls Tryd.prog 49 #[] w fun e w' => ∃ g, e = .returned (.map (some g)) ∧ MpI w' g nmL ∧ Below w.heap.size w w' := by
  have hfin : ∀ w' : World, MpI w' w.heap.size nmL → Below w.heap.size w w' → (fun (e : Ending) (w' : World) => ∃ g, e = .returned (.map (some g)) ∧ MpI w' g nmL ∧ Below w.heap.size w w') (.returned (.map (some w.heap.size))) w' := fun w' h1 h2 => ⟨_, rfl, h1, h2⟩
  generalize (fun (e : Ending) (w' : World) => ∃ g, e = .returned (.map (some g)) ∧ MpI w' g nmL ∧ Below w.heap.size w w') = Q at *
  have m1 := run_makeMap (P := Tryd.prog) 68 w
  have k1 : MpI (w.alloc (.map #[] 0)) w.heap.size [] := ⟨_, _, heap_alloc_new w _, rfl⟩
  have b1 : Below w.heap.size w (w.alloc (.map #[] 0)) := (Below.refl _ _).alloc (Nat.le_refl _) _
  generalize w.alloc (.map #[] 0) = w1 at *
  obtain ⟨w2, m2, k2, b2⟩ := mpI_put k1 b1 (Nat.le_refl _) 0 { data := #[110, 97, 110] } (by simp)
  obtain ⟨w3, m3, k3, b3⟩ := mpI_put k2 b2 (Nat.le_refl _) 1 { data := #[45, 105, 110, 102] } (by simp)
  obtain ⟨w4, m4, k4, b4⟩ := mpI_put k3 b3 (Nat.le_refl _) 3 { data := #[45, 48] } (by simp)
  obtain ⟨w5, m5, k5, b5⟩ := mpI_put k4 b4 (Nat.le_refl _) 4 { data := #[48] } (by simp)
  obtain ⟨w6, m6, k6, b6⟩ := mpI_put k5 b5 (Nat.le_refl _) 6 { data := #[105, 110, 102] } (by simp)
  have hq := Lib.hid (hfin w6 k6 b6)
  clear hfin k1 k2 k3 k4 k5 k6 b1 b2 b3 b4 b5 b6
  go_enter Tryd.func49, Tryd.ntmps49
  go_wp2_with fail
  exact hq.out
end Go.Proofs.YtcbckeoalmjcoaaDoor
