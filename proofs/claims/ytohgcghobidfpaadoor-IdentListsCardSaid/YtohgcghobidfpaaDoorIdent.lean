/- Ids compared and sorted by the program: contracts of ident.Compare and ident.Sorted. -/
import Derived.Test.YtohgcghobidfpaaDoorIds
import Derived.Shelf.SlSortCmp.WholeK
import Derived.Shelf.SlSortCmp.NoneTotal
import Derived.Ground.SlsfProg
import Derived.StillTailTactics
set_option linter.unusedVariables false
set_option linter.unusedSimpArgs false
namespace Go.Proofs.YtohgcghobidfpaaDoor
open Go.RowKit Go.Cw Go.Sort Go.Shelf
attribute [local go_sem ↓] eql_id neq_id

def sortId_ren : Go.Shelf.Ren := ⟨fun | 6 => 64 | 15 => 89 | 14 => 88 | 28 => 115 | 29 => 116 | 20 => 107 | 21 => 108 | 22 => 109 | 23 => 110 | 24 => 111 | 25 => 112 | 26 => 113 | 27 => 114 | 46 => 132 | 47 => 133 | 48 => 134 | 49 => 135 | 50 => 136 | 57 => 144 | n => n, fun | 22 => 48 | 24 => 23 | 25 => 27 | 3 => 3 | 39 => 99 | 0 => 0 | 53 => 125 | 55 => 93 | 4 => 4 | 46 => 118 | 45 => 117 | 50 => 122 | 5 => 5 | 9 => 9 | 66 => 137 | 70 => 141 | 76 => 152 | 77 => 153 | n => n, fun | n => n⟩
theorem sortId : Go.Proofs.SlLaysF0.n6 Tryd.prog sortId_ren := {
  mixed := by kernel_rfl
  f6 := ⟨Tryd.f64.name, by decide, Tryd.func64.trans (congrArg some (by kernel_rfl))⟩
  f14 := ⟨Tryd.f88.name, by decide, Tryd.func88.trans (congrArg some (by kernel_rfl))⟩
  f15 := Tryd.func89.trans (congrArg some (by kernel_rfl))
  f20 := ⟨Tryd.f107.name, by decide, Tryd.func107.trans (congrArg some (by kernel_rfl))⟩
  f21 := ⟨Tryd.f108.name, by decide, Tryd.func108.trans (congrArg some (by kernel_rfl))⟩
  f22 := ⟨Tryd.f109.name, by decide, Tryd.func109.trans (congrArg some (by kernel_rfl))⟩
  f23 := ⟨Tryd.f110.name, by decide, Tryd.func110.trans (congrArg some (by kernel_rfl))⟩
  f24 := ⟨Tryd.f111.name, by decide, Tryd.func111.trans (congrArg some (by kernel_rfl))⟩
  f25 := ⟨Tryd.f112.name, by decide, Tryd.func112.trans (congrArg some (by kernel_rfl))⟩
  f26 := ⟨Tryd.f113.name, by decide, Tryd.func113.trans (congrArg some (by kernel_rfl))⟩
  f27 := ⟨Tryd.f114.name, by decide, Tryd.func114.trans (congrArg some (by kernel_rfl))⟩
  f28 := Tryd.func115.trans (congrArg some (by kernel_rfl))
  f29 := Tryd.func116.trans (congrArg some (by kernel_rfl))
  f46 := ⟨Tryd.f132.name, by decide, Tryd.func132.trans (congrArg some (by kernel_rfl))⟩
  f47 := Tryd.func133.trans (congrArg some (by kernel_rfl))
  f48 := Tryd.func134.trans (congrArg some (by kernel_rfl))
  f49 := ⟨Tryd.f135.name, by decide, Tryd.func135.trans (congrArg some (by kernel_rfl))⟩
  f50 := ⟨Tryd.f136.name, by decide, Tryd.func136.trans (congrArg some (by kernel_rfl))⟩
  f57 := ⟨Tryd.f144.name, by decide, Tryd.func144.trans (congrArg some (by kernel_rfl))⟩
  t0 := Tryd.underlying0
  a0 := Tryd.isAgg0
  z0 := Tryd.sizeOf0
  v0 := Tryd.zeroValue0
  t3 := Tryd.underlying3
  a3 := Tryd.isAgg3
  z3 := Tryd.sizeOf3
  v3 := Tryd.zeroValue3
  t4 := Tryd.underlying4
  a4 := Tryd.isAgg4
  z4 := Tryd.sizeOf4
  v4 := Tryd.zeroValue4
  t5 := Tryd.underlying5
  a5 := Tryd.isAgg5
  z5 := Tryd.sizeOf5
  v5 := Tryd.zeroValue5
  t9 := Tryd.underlying9
  a9 := Tryd.isAgg9
  z9 := Tryd.sizeOf9
  v9 := Tryd.zeroValue9
  t22 := Tryd.underlying48
  a22 := Tryd.isAgg48
  z22 := Tryd.sizeOf48
  v22 := Tryd.zeroValue48
  t25 := Tryd.underlying27
  a25 := Tryd.isAgg27
  z25 := Tryd.sizeOf27
  v25 := Tryd.zeroValue27
  t39 := Tryd.underlying99
  a39 := Tryd.isAgg99
  z39 := Tryd.sizeOf99
  v39 := Tryd.zeroValue99
  t45 := Tryd.underlying117
  a45 := Tryd.isAgg117
  z45 := Tryd.sizeOf117
  v45 := Tryd.zeroValue117
  t46 := Tryd.underlying118
  a46 := Tryd.isAgg118
  z46 := Tryd.sizeOf118
  v46 := Tryd.zeroValue118
  t50 := Tryd.underlying122
  a50 := Tryd.isAgg122
  z50 := Tryd.sizeOf122
  v50 := Tryd.zeroValue122
  t53 := Tryd.underlying125
  a53 := Tryd.isAgg125
  z53 := Tryd.sizeOf125
  v53 := Tryd.zeroValue125
  t55 := Tryd.underlying93
  a55 := Tryd.isAgg93
  z55 := Tryd.sizeOf93
  v55 := Tryd.zeroValue93
  t66 := Tryd.underlying137
  a66 := Tryd.isAgg137
  z66 := Tryd.sizeOf137
  v66 := Tryd.zeroValue137
  t70 := Tryd.underlying141
  a70 := Tryd.isAgg141
  z70 := Tryd.sizeOf141
  v70 := Tryd.zeroValue141
  t76 := Tryd.underlying152
  a76 := Tryd.isAgg152
  z76 := Tryd.sizeOf152
  v76 := Tryd.zeroValue152
  t77 := Tryd.underlying153
  a77 := Tryd.isAgg153
  z77 := Tryd.sizeOf153
  v77 := Tryd.zeroValue153 }

/-- How two numbers stand. -/
def cmpInt (x y : Int) : Int := if x < y then -1 else if y < x then 1 else 0
set_option maxRecDepth 100000 in
theorem isNaN_any (x : Int) (w : World) : Calls Tryd.prog 69 #[.int .i64 x] w fun e w' => e = .returned (.bool false) ∧ w = w' := by
  go_enter Tryd.func69, Tryd.ntmps69
  go_wp2
  go_ret
  exact ⟨by simp, rfl⟩
set_option maxRecDepth 100000 in
theorem cmpInt_any (x y : Int) (w : World) : Calls Tryd.prog 38 #[.int .i64 x, .int .i64 y] w fun e w' => e = .returned (.int .i64 (cmpInt x y)) ∧ w = w' := by
  go_enter Tryd.func38, Tryd.ntmps38
  go_wp2_with (go_at_call 69; refine (isNaN_any _ _).mono ?_; rintro e w' ⟨rfl, rfl⟩)
  all_goals (go_ret; refine ⟨?_, rfl⟩; unfold cmpInt; (repeat' split) <;> first | rfl | (exfalso; omega))
theorem cmpInt_still (x y : Int) (w : World) : Calls Tryd.prog 38 #[.int .i64 x, .int .i64 y] w fun e w' => e = .returned (.int .i64 (cmpInt x y)) ∧ w' = w := (cmpInt_any x y w).mono fun _ _ h => ⟨h.1, h.2.symm⟩
/-- The first number that is not zero. -/
def orInt (x y : Int) : Int := if x ≠ 0 then x else y
set_option maxRecDepth 100000 in
set_option maxHeartbeats 800000 in
theorem or_any (x y : Int) (b : Nat) (w : World) (h0 : w.cell? ⟨b, 0, none⟩ = some (.int .i64 x)) (h1 : w.cell? ⟨b, 1, none⟩ = some (.int .i64 y)) :
    Calls Tryd.prog 37 #[.slice (some ⟨b, 0, none⟩) 2 2] w fun e w' => e = .returned (.int .i64 (orInt x y)) ∧ ∃ q, w' = w.drewN q := by
  have bl := World.block_lt_of_cell? _ _ h0
  go_enter Tryd.func37, Tryd.ntmps37
  go_wp2_with fail
  go_loopw [8] (fun i wr => ∃ k : Nat, k ≤ 2 ∧ i = .int .i64 k ∧ Hid ((1 ≤ k → x = 0) ∧ (2 ≤ k → y = 0)) ∧ wr = w) (fun i _ => 2 - (intOf i).toNat)
  case atStart => exact ⟨0, by omega, rfl, Lib.hid ⟨by omega, by omega⟩, rfl⟩
  case round =>
    obtain ⟨k, hk, rfl, HI, rfl⟩ := hrel
    have hk3 : k = 0 ∨ k = 1 ∨ k = 2 := by omega
    rcases hk3 with rfl | rfl | rfl
    · by_cases hx : x = 0
      · have hx' : (x != 0) = false := bne_eq_false_iff_eq.2 hx
        have hx2 := Lib.hid hx
        clear hx
        go_wp2_with fail
        go_roundw
        case rel => exact ⟨1, by omega, by go_num, Lib.hid ⟨fun _ => hx2.out, by omega⟩, by first | rfl | trivial⟩
        case measure => simp [intOf]
      · have hx' : (x != 0) = true := bne_iff_ne.2 hx
        have hN : Hid (orInt x y = x) := Lib.hid (if_pos hx)
        go_wp2_with fail
        go_ret
        exact ⟨congrArg (fun x => Ending.returned (Value.int .i64 x)) hN.out.symm, 0, rfl⟩
    · have hx := HI.out.1 (by omega)
      by_cases hy : y = 0
      · have hy' : (y != 0) = false := bne_eq_false_iff_eq.2 hy
        have hx2 := Lib.hid (And.intro hx hy)
        clear hx hy
        go_wp2_with fail
        go_roundw
        case rel => exact ⟨2, by omega, by go_num, Lib.hid ⟨fun _ => hx2.out.1, fun _ => hx2.out.2⟩, by first | rfl | trivial⟩
        case measure => simp [intOf]
      · have hy' : (y != 0) = true := bne_iff_ne.2 hy
        have hN : Hid (orInt x y = y) := Lib.hid (if_neg (fun h => h hx))
        clear hx
        go_wp2_with fail
        go_ret
        exact ⟨congrArg (fun x => Ending.returned (Value.int .i64 x)) hN.out.symm, 0, rfl⟩
    · have hN : Hid (orInt x y = 0) := Lib.hid ((if_neg (fun h => h (HI.out.1 (by omega)))).trans (HI.out.2 (by omega)))
      go_wp2_with fail
      go_ret
      exact ⟨congrArg (fun x => Ending.returned (Value.int .i64 x)) hN.out.symm, 0, rfl⟩
def cmpId (a b : Id) : Int := orInt (cmpInt a.1 b.1) (cmpInt a.2 b.2)
theorem cmpId_eq (a b : Id) (h : idEq a.1 a.2 b.1 b.2 = true) : cmpId a b = 0 := by
  unfold idEq at h
  simp only [Bool.and_eq_true, beq_iff_eq] at h
  unfold cmpId orInt cmpInt
  simp [h.1, h.2]
set_option maxRecDepth 100000 in
set_option maxHeartbeats 800000 in
theorem compare_any (a b : Id) (w : World) :
    Calls Tryd.prog 11 #[idV a, idV b] w fun e w' => e = .returned (.int .i64 (cmpId a b)) ∧ ∃ q os', w' = grow (w.drewN q) os' := by
  by_cases hab : idEq a.1 a.2 b.1 b.2 = true
  · have hN := Lib.hid (cmpId_eq a b hab)
    go_enter Tryd.func11, Tryd.ntmps11
    go_wp2_with fail
    go_ret
    exact ⟨congrArg (fun x => Ending.returned (Value.int .i64 x)) hN.out.symm, 0, _, by rw [alloc_eq_grow, alloc_eq_grow, grow_grow]; rfl⟩
  · have hab := Bool.eq_false_iff.2 hab
    obtain ⟨W, hW⟩ : ∃ W, W = (w.alloc (.cells #[.int .i64 a.1, .int .i64 a.2] 23)).alloc (.cells #[.int .i64 b.1, .int .i64 b.2] 23) := ⟨_, rfl⟩
    have hg : W = grow w #[.cells #[.int .i64 a.1, .int .i64 a.2] 23, .cells #[.int .i64 b.1, .int .i64 b.2] 23] := by rw [hW, alloc_eq_grow, alloc_eq_grow, grow_grow]; rfl
    have hh0 : W.heap[w.heap.size]? = some (.cells #[.int .i64 a.1, .int .i64 a.2] 23) := by rw [hg]; simp [grow]
    have hh1 : W.heap[w.heap.size + 1]? = some (.cells #[.int .i64 b.1, .int .i64 b.2] 23) := by rw [hg]; simp [grow]
    have a0 : W.cell? ⟨w.heap.size, 0, none⟩ = some (.int .i64 a.1) := by simp [World.cell?, hh0]
    have a1 : W.cell? ⟨w.heap.size, 1, none⟩ = some (.int .i64 a.2) := by simp [World.cell?, hh0]
    have b0 : W.cell? ⟨w.heap.size + 1, 0, none⟩ = some (.int .i64 b.1) := by simp [World.cell?, hh1]
    have b1 : W.cell? ⟨w.heap.size + 1, 1, none⟩ = some (.int .i64 b.2) := by simp [World.cell?, hh1]
    have hsz : W.heap.size = w.heap.size + 2 := by rw [hg]; simp
    replace hg := Lib.hid hg
    clear hh0 hh1
    go_enter Tryd.func11, Tryd.ntmps11
    go_wp2_with fail
    rw [← hW]
    clear hW
    have hsz0 : w.heap.size < W.heap.size := by omega
    have hsz1 : w.heap.size + 1 < W.heap.size := by omega
    go_still_tail 10, (by kernel_rfl)
    still_call (cmpInt_still _ _ _)
    repeat still_step
    still_call (cmpInt_still _ _ _)
    refine wpStill_nil ?_
    change wpList _ _ _ _ _ (World.drew _)
    go_wp2_with fail
    have hv : (W.alloc (.cells #[.int .i64 (cmpInt a.1 b.1), .int .i64 (cmpInt a.2 b.2)] 3)).drew.heap[w.heap.size + 2]? = some (.cells #[.int .i64 (cmpInt a.1 b.1), .int .i64 (cmpInt a.2 b.2)] 3) := by
      rw [← hsz]
      exact heap_alloc_new W _
    refine (or_any (cmpInt a.1 b.1) (cmpInt a.2 b.2) _ _ (by simp [World.cell?, hv]) (by simp [World.cell?, hv])).mono ?_
    rintro e w3 ⟨rfl, q, rfl⟩
    go_wp2_with fail
    go_ret
    refine ⟨rfl, 1 + q, #[.cells #[.int .i64 a.1, .int .i64 a.2] 23, .cells #[.int .i64 b.1, .int .i64 b.2] 23] ++ #[.cells #[.int .i64 (cmpInt a.1 b.1), .int .i64 (cmpInt a.2 b.2)] 3], ?_⟩
    have hg := hg.out
    subst hg
    simp [grow, World.drewN, World.drew, World.alloc, Nat.add_assoc]
theorem cmpLays_id (blk off size : Nat) (w : World) : CmpLays Tryd.prog 11 #[] idc 2 cmpId blk off size w := fun _ _ _ _ x y => compare_any x y _
theorem ltOf_id (x y : Id) : ltOf cmpId x y = idLt x y := by
  unfold ltOf cmpId orInt cmpInt idLt
  by_cases h1 : x.1 = y.1
  · rw [if_pos h1]
    by_cases h2 : x.2 < y.2
    · simp [h1, h2]
    · by_cases h3 : y.2 < x.2 <;> simp [h1, h2, h3]
  · rw [if_neg h1]
    by_cases h2 : x.1 < y.1
    · simp [h2]
    · have h3 : y.1 < x.1 := by omega
      simp [h2, h3]
theorem idLt_iff (x y : Id) : idLt x y = true ↔ (x.1 < y.1 ∨ (x.1 = y.1 ∧ x.2 < y.2)) := by
  unfold idLt
  split
  · rename_i h; simp [h]
  · rename_i h; simp [h]
theorem idLt_no (x y : Id) : idLt x y = false ↔ ¬ (x.1 < y.1 ∨ (x.1 = y.1 ∧ x.2 < y.2)) := by rw [← idLt_iff]; simp
theorem swo_id : SWO (ltOf cmpId) where
  irrefl x := by rw [ltOf_id, idLt_no]; omega
  trans x y z h1 h2 := by rw [ltOf_id, idLt_iff] at *; omega
  ntrans x y z h1 h2 := by rw [ltOf_id, idLt_no] at *; omega
theorem total_id (x y : Id) (h1 : ltOf cmpId x y = false) (h2 : ltOf cmpId y x = false) : x = y := by
  rw [ltOf_id, idLt_no] at *
  exact Prod.ext (by omega) (by omega)
theorem flatK_eq {α : Type} [Inhabited α] (enc : α → List Value) (k : Nat) (h0 : 0 < k) (hk : ∀ x, (enc x).length = k) (l : List α) : flatK enc k l.toArray = (l.flatMap enc).toArray := by
  refine ext_get! (by simp [flat_len enc k hk]) (fun t ht => ?_)
  have ht' : t < l.length * k := by simpa using ht
  rw [get_flatK enc k _ t (by simpa using ht')]
  have hi : t / k < l.length := Nat.div_lt_of_lt_mul (by rw [Nat.mul_comm]; exact ht')
  have hr : t % k < k := Nat.mod_lt _ h0
  have := flat_get enc k hk l (t / k) (t % k) hi hr
  have e1 : t / k * k + t % k = t := Nat.div_add_mod' t k
  rw [e1] at this
  have e2 : l.toArray[t / k]! = l[t / k] := by simp [hi]
  rw [e2]
  simp only [List.getElem!_toArray, List.getElem!_eq_getElem?_getD, this]
theorem row_sort {H : Hp} {fr : List HA} {w : World} {e : TypeId} {g off n c : Nat} {l : List Id} (h : St H (Row e 2 (.slice (some ⟨g, off, none⟩) n c) (idl l) :: fr) w) (l' : List Id) (hl : l'.length = l.length) (m : Nat) (os : Array Obj) :
    St H (Row e 2 (.slice (some ⟨g, off, none⟩) n c) (idl l') :: fr) (sortWorldK idc 2 w g off m l'.toArray os) ∧ Env w (sortWorldK idc 2 w g off m l'.toArray os) := by
  have hsz : (sortWorldK idc 2 w g off m l'.toArray os).heap.size = w.heap.size + os.size := by simp [sortWorldK, putRowK, Sort.ahead]
  have hold : ∀ k, k < w.heap.size → (sortWorldK idc 2 w g off m l'.toArray os).heap[k]? = (w.heap.modify g (onCells (putCells id off (flatK idc 2 l'.toArray))))[k]? := fun k hk =>
    heap_grow_old _ os (by simpa [putRowK, Sort.ahead] using hk)
  refine ⟨h.turn (by omega) (fun S hS => ⟨S, ?_, fun k hk => .inl hk, fun k hk hn => ?_⟩), ⟨rfl, rfl, rfl, by omega⟩⟩
  · rcases hS with ⟨hv, _⟩ | ⟨g', off', n', cap, cur, hv, hlen, hc, hM, hh, hs, hj, hS⟩
    · cases hv
    · cases hv
      have hlt := (Array.getElem?_eq_some_iff.1 hh).1
      refine .inr ⟨g, off, n, c, putCells id off (flatK idc 2 l'.toArray) cur, rfl, by rw [idl_len] at hlen ⊢; omega, hc, hM, ?_, by unfold putCells; simpa using hs, fun j u hu => ?_, hS⟩
      · rw [hold g hlt, Array.getElem?_modify]
        simp [hh, onCells]
      · have hjl : j < (idl l').length := (List.getElem?_eq_some_iff.1 hu).1
        have hF : flatK idc 2 l'.toArray = (idl l').toArray := flatK_eq idc 2 (by omega) (fun _ => rfl) l'
        have hfs : (flatK idc 2 l'.toArray).size = (idl l').length := by rw [hF]; simp
        have hcs : off + j < cur.size := by
          rw [idl_len] at hlen hjl
          omega
        unfold putCells
        rw [Array.getElem?_mapIdx, Array.getElem?_eq_getElem hcs]
        simp only [Option.map_some]
        rw [if_pos ⟨Nat.le_add_right _ _, by omega⟩, hF]
        simp only [Nat.add_sub_cancel_left, id, List.getElem!_toArray, List.getElem!_eq_getElem?_getD, hu, Option.getD_some]
  · have hne : k ≠ g := fun e' => by
      rcases hS with ⟨hv, _⟩ | ⟨g', off', n', cap, cur, hv, hlen, hc, hM, hh, hs, hj, hS⟩
      · cases hv
      · cases hv
        exact hn ((hS k).2 e')
    rw [hold k hk, Array.getElem?_modify, if_neg (fun e' => hne e'.symm)]
/-- No two neighbours are one. -/
def Apart (l : List Id) : Prop := ∀ (k : Nat) (h : k + 1 < l.length), l[k + 1] ≠ l[k]
theorem apart_nodup {l : List Id} (h : l.Nodup) : Apart l := fun k hk he => (List.pairwise_iff_getElem.1 h k (k + 1) (by omega) hk (by omega)) he.symm
theorem idEq_no {a b : Id} (h : a ≠ b) : idEq a.1 a.2 b.1 b.2 = false := by
  unfold idEq
  rw [Bool.and_eq_false_iff]
  by_cases h1 : a.1 = b.1
  · right; exact beq_eq_false_iff_ne.2 (fun h2 => h (Prod.ext h1 h2))
  · left; exact beq_eq_false_iff_ne.2 h1
set_option maxRecDepth 100000 in
set_option maxHeartbeats 800000 in
theorem compact_apart (v : Value) (l : List Id) (w : World) (hx : Rw w 2 v (idl l)) (hap : Apart l) :
    Calls Tryd.prog 65 #[v] w fun e w' => e = .returned v ∧ Below w.heap.size w w' := by
  obtain ⟨A, n, c, rfl, hl, hn, hc⟩ := hx.form
  rw [idl_len] at hl
  obtain rfl : n = l.length := by omega
  clear hl
  rcases Nat.lt_or_ge l.length 2 with h2 | h2
  · have h2' : (l.length : Int) < 2 := by omega
    go_enter Tryd.func65, Tryd.ntmps65
    go_wp2_with fail
    go_ret
    exact ⟨rfl, Below.refl _ _⟩
  · have h2' : ¬ (l.length : Int) < 2 := by omega
    obtain ⟨b, off, rfl, hcx⟩ := hx.cells (by omega)
    go_enter Tryd.func65, Tryd.ntmps65
    go_wp2_with fail
    go_loopw [3] (fun i wr => ∃ k : Nat, 1 ≤ k ∧ k ≤ l.length ∧ i = .int .i64 k ∧ Below w.heap.size w wr) (fun i _ => l.length - (intOf i).toNat)
    case atStart => exact ⟨1, by omega, by omega, by go_num, Below.refl _ _⟩
    case round =>
      obtain ⟨k, hk1, hk, rfl, hb⟩ := hrel
      by_cases hlt : k < l.length
      · obtain ⟨m, rfl⟩ : ∃ m, k = m + 1 := ⟨k - 1, by omega⟩
        have hne := Lib.hid (idEq_no (hap m hlt))
        obtain ⟨b', off', hA, hcr⟩ := (hx.below hb).cells (by omega)
        cases hA
        have p1 := hcr _ _ (idl_fst l (m + 1) hlt)
        have p2 := hcr _ _ (idl_snd l (m + 1) hlt)
        have q1 := hcr _ _ (idl_fst l m (by omega))
        have q2 := hcr _ _ (idl_snd l m (by omega))
        rw [← Nat.add_assoc] at p2 q2
        obtain ⟨x, HX⟩ : ∃ x, Hid (x = l[m + 1]) := ⟨_, Lib.hid rfl⟩
        obtain ⟨y, HY⟩ : ∃ y, Hid (y = l[m]) := ⟨_, Lib.hid rfl⟩
        rw [← HX.out] at p1 p2
        rw [← HY.out] at q1 q2
        have hne' : idEq x.1 x.2 y.1 y.2 = false := by rw [HX.out, HY.out]; exact hne.out
        clear hcr hcx
        go_wp2_with fail
        go_quiet (fail)
        go_wp2_with fail
        go_roundw
        case rel => exact ⟨m + 1 + 1, by omega, by omega, by go_num, bel_drewN hb _⟩
        case measure => simp [intOf]; omega
      · go_wp2_with fail
        go_ret
        exact ⟨rfl, hb⟩
theorem below_self (w : World) (n : Nat) : Below w.heap.size w (w.drewN n) := bel_drewN (Below.refl _ _) n
/-- Ids in order. -/
def idSort (l : List Id) : List Id := l.mergeSort fun x y => !(ltOf cmpId) y x
theorem idSort_len (l : List Id) : (idSort l).length = l.length := by simp [idSort]
theorem holds_row {H : Hp} {fr : List HA} {w : World} {e : TypeId} {g off n c : Nat} {l : List Id} (h : St H (Row e 2 (.slice (some ⟨g, off, none⟩) n c) (idl l) :: fr) w) (hn : 0 < n) : HoldsK idc 2 w g off l.toArray ∧ g < w.heap.size := by
  obtain ⟨b, o, hA, hb, h1, h2⟩ := h.row_cells hn (by omega)
  cases hA
  refine ⟨fun j hj => ⟨?_, h2 j⟩, hb⟩
  rw [flatK_eq idc 2 (by omega) (fun _ => rfl) l] at hj ⊢
  have hj' : j < (idl l).length := by simpa [idl] using hj
  have := h1 j _ (List.getElem?_eq_getElem hj')
  rw [this]
  have e2 : (List.flatMap idc l).toArray[j]! = (idl l)[j] := by
    simp only [List.getElem!_toArray, List.getElem!_eq_getElem?_getD]
    rw [show List.flatMap idc l = idl l from rfl, List.getElem?_eq_getElem hj']
    rfl
  rw [e2]
  rfl
set_option maxRecDepth 100000 in
set_option maxHeartbeats 1600000 in
theorem identSorted_nodup (u : Value) (l : List Id) (w : World) (hx : Rw w 2 u (idl l)) (hnd : l.Nodup) (hlen : l.length * 16 ≤ 140737488355328) :
    Calls Tryd.prog 30 #[u] w (ResE (snap w) [] w (fun v => v) (fun v => [Row 23 2 v (idl (idSort l))])) := by
  obtain ⟨A, n, c, rfl, hl, hn, hc⟩ := hx.form
  rw [idl_len] at hl
  obtain rfl : n = l.length := by omega
  clear hl
  have eg : ∀ args w, (callFunc 11 args).run Tryd.prog w = .ok (.enter 11 args) w := enters_of Tryd.func11 (by kernel_rfl) rfl
  have h1 := (St.start w).row_lit 23 2 0 #[] rfl (by decide)
  go_enter Tryd.func30, Tryd.ntmps30
  go_wp2_with (at_builtin; refine wpList_append rfl (.tmp 4) (.tmp 5) 48 48 rfl Tryd.underlying48 (.inl ⟨_, Tryd.underlying48⟩) (.agg #[.int .i64 0, .int .i64 0]) 16 info_id rfl (by decide) (by decide) rfl rfl h1 (News.rw (hx.alloc _) (idl_one l)) ?apB ?apK)
  case apB => rw [idl_len]; omega
  intro v' w2 h2 en2
  obtain ⟨A', n', c', rfl, hl', hn', hc'⟩ := h2.row_form
  rw [idl_len] at hl'
  obtain rfl : n' = l.length := by omega
  have en2' := ((Env.refl w).alloc (.cells #[] 23)).trans en2
  rcases Nat.eq_zero_or_pos l.length with h0 | h0
  · have hl0 : l = [] := List.length_eq_zero_iff.1 h0
    subst hl0
    have hcon := AnyF.slices_SortFunc_none { sortId with } A' c' (.func (.func 11) #[] #[]) w2
    change Calls Tryd.prog 64 _ _ _ at hcon
    go_wp2_with fail
    refine hcon.mono ?_
    rintro e w3 ⟨rfl, rfl⟩
    go_wp2_with fail
    refine (compact_apart _ [] _ (h2.row_rw (by omega)) (fun k h => by simp at h)).mono ?_
    rintro e w4 ⟨rfl, hb4⟩
    go_wp2_with fail
    go_ret
    have e0 : idSort [] = [] := by simp [idSort]
    exact ⟨_, rfl, by rw [e0]; exact h2.below hb4, en2'.trans (bel_env hb4)⟩
  · obtain ⟨b, off, hA, _⟩ := h2.row_cells h0 (by omega)
    cases hA
    obtain ⟨hH, hlt⟩ := holds_row h2 h0
    have hcon := AnyQ.slices_SortFunc_total sortId 2 Tryd.isAgg23 Tryd.sizeOf23 idc (fun _ => rfl) (fun x v hv => by simp [idc] at hv; rcases hv with rfl | rfl <;> rfl) cmpId swo_id 11 #[] b off c' l.toArray w2 eg (cmpLays_id b off l.toArray.size w2) hH hlt (by simp; omega) total_id
    change Calls Tryd.prog 64 _ _ _ at hcon
    have hap : Apart (idSort l) := apart_nodup ((List.mergeSort_perm l _).nodup_iff.2 hnd)
    clear eg hH
    go_wp2_with fail
    refine hcon.mono ?_
    rintro e w3 ⟨rfl, m, os, rfl⟩
    have hs := row_sort h2 (idSort l) (idSort_len l) m os
    change St _ _ (sortWorldK idc 2 w2 b off m (l.toArray.toList.mergeSort fun x y => !(ltOf cmpId) y x).toArray os) ∧ Env w2 (sortWorldK idc 2 w2 b off m (l.toArray.toList.mergeSort fun x y => !(ltOf cmpId) y x).toArray os) at hs
    obtain ⟨h3, en3⟩ := hs
    generalize sortWorldK idc 2 w2 b off m (l.toArray.toList.mergeSort fun x y => !(ltOf cmpId) y x).toArray os = W at *
    go_wp2_with fail
    refine (compact_apart _ _ _ (h3.row_rw (by omega)) hap).mono ?_
    rintro e w4 ⟨rfl, hb4⟩
    go_wp2_with fail
    go_ret
    exact ⟨_, rfl, h3.below hb4, (en2'.trans en3).trans (bel_env hb4)⟩
end Go.Proofs.YtohgcghobidfpaaDoor
