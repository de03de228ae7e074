/- Ids compared and sorted by the program: contracts of ident.Compare and ident.Sorted. -/
import Derived.Test.YtelmhcbdpimaaaaIds
import Derived.Shelf.SlSortCmp.WholeK
import Derived.Shelf.SlSortCmp.NoneTotal
import Derived.Ground.SlsfProg
import Derived.StillTailTactics
set_option linter.unusedVariables false
set_option linter.unusedSimpArgs false
namespace Go.Proofs.Ytelmhcbdpimaaaa
open Go.RowKit Go.Cw Go.Sort Go.Shelf
attribute [local go_sem ↓] eql_id neq_id

def sortId_ren : Go.Shelf.Ren := ⟨fun | 6 => 91 | 15 => 122 | 14 => 121 | 28 => 149 | 29 => 150 | 20 => 141 | 21 => 142 | 22 => 143 | 23 => 144 | 24 => 145 | 25 => 146 | 26 => 147 | 27 => 148 | 46 => 154 | 47 => 155 | 48 => 156 | 49 => 157 | 50 => 158 | 57 => 160 | n => n, fun | 22 => 29 | 24 => 28 | 25 => 131 | 3 => 3 | 39 => 135 | 0 => 0 | 53 => 169 | 55 => 40 | 4 => 4 | 46 => 162 | 45 => 161 | 50 => 166 | 5 => 5 | 9 => 9 | 66 => 174 | 70 => 178 | 76 => 181 | 77 => 182 | n => n, fun | n => n⟩
theorem sortId : Go.Proofs.SlLaysF0.n6 Try.prog sortId_ren := {
  mixed := by kernel_rfl
  f6 := ⟨Try.f91.name, by decide, Try.func91.trans (congrArg some (by kernel_rfl))⟩
  f14 := ⟨Try.f121.name, by decide, Try.func121.trans (congrArg some (by kernel_rfl))⟩
  f15 := Try.func122.trans (congrArg some (by kernel_rfl))
  f20 := ⟨Try.f141.name, by decide, Try.func141.trans (congrArg some (by kernel_rfl))⟩
  f21 := ⟨Try.f142.name, by decide, Try.func142.trans (congrArg some (by kernel_rfl))⟩
  f22 := ⟨Try.f143.name, by decide, Try.func143.trans (congrArg some (by kernel_rfl))⟩
  f23 := ⟨Try.f144.name, by decide, Try.func144.trans (congrArg some (by kernel_rfl))⟩
  f24 := ⟨Try.f145.name, by decide, Try.func145.trans (congrArg some (by kernel_rfl))⟩
  f25 := ⟨Try.f146.name, by decide, Try.func146.trans (congrArg some (by kernel_rfl))⟩
  f26 := ⟨Try.f147.name, by decide, Try.func147.trans (congrArg some (by kernel_rfl))⟩
  f27 := ⟨Try.f148.name, by decide, Try.func148.trans (congrArg some (by kernel_rfl))⟩
  f28 := Try.func149.trans (congrArg some (by kernel_rfl))
  f29 := Try.func150.trans (congrArg some (by kernel_rfl))
  f46 := ⟨Try.f154.name, by decide, Try.func154.trans (congrArg some (by kernel_rfl))⟩
  f47 := Try.func155.trans (congrArg some (by kernel_rfl))
  f48 := Try.func156.trans (congrArg some (by kernel_rfl))
  f49 := ⟨Try.f157.name, by decide, Try.func157.trans (congrArg some (by kernel_rfl))⟩
  f50 := ⟨Try.f158.name, by decide, Try.func158.trans (congrArg some (by kernel_rfl))⟩
  f57 := ⟨Try.f160.name, by decide, Try.func160.trans (congrArg some (by kernel_rfl))⟩
  t0 := Try.underlying0
  a0 := Try.isAgg0
  z0 := Try.sizeOf0
  v0 := Try.zeroValue0
  t3 := Try.underlying3
  a3 := Try.isAgg3
  z3 := Try.sizeOf3
  v3 := Try.zeroValue3
  t4 := Try.underlying4
  a4 := Try.isAgg4
  z4 := Try.sizeOf4
  v4 := Try.zeroValue4
  t5 := Try.underlying5
  a5 := Try.isAgg5
  z5 := Try.sizeOf5
  v5 := Try.zeroValue5
  t9 := Try.underlying9
  a9 := Try.isAgg9
  z9 := Try.sizeOf9
  v9 := Try.zeroValue9
  t22 := Try.underlying29
  a22 := Try.isAgg29
  z22 := Try.sizeOf29
  v22 := Try.zeroValue29
  t25 := Try.underlying131
  a25 := Try.isAgg131
  z25 := Try.sizeOf131
  v25 := Try.zeroValue131
  t39 := Try.underlying135
  a39 := Try.isAgg135
  z39 := Try.sizeOf135
  v39 := Try.zeroValue135
  t45 := Try.underlying161
  a45 := Try.isAgg161
  z45 := Try.sizeOf161
  v45 := Try.zeroValue161
  t46 := Try.underlying162
  a46 := Try.isAgg162
  z46 := Try.sizeOf162
  v46 := Try.zeroValue162
  t50 := Try.underlying166
  a50 := Try.isAgg166
  z50 := Try.sizeOf166
  v50 := Try.zeroValue166
  t53 := Try.underlying169
  a53 := Try.isAgg169
  z53 := Try.sizeOf169
  v53 := Try.zeroValue169
  t55 := Try.underlying40
  a55 := Try.isAgg40
  z55 := Try.sizeOf40
  v55 := Try.zeroValue40
  t66 := Try.underlying174
  a66 := Try.isAgg174
  z66 := Try.sizeOf174
  v66 := Try.zeroValue174
  t70 := Try.underlying178
  a70 := Try.isAgg178
  z70 := Try.sizeOf178
  v70 := Try.zeroValue178
  t76 := Try.underlying181
  a76 := Try.isAgg181
  z76 := Try.sizeOf181
  v76 := Try.zeroValue181
  t77 := Try.underlying182
  a77 := Try.isAgg182
  z77 := Try.sizeOf182
  v77 := Try.zeroValue182 }

/-- How two numbers stand. -/
def cmpInt (x y : Int) : Int := if x < y then -1 else if y < x then 1 else 0
set_option maxRecDepth 100000 in
theorem isNaN_any (x : Int) (w : World) : Calls Try.prog 151 #[.int .i64 x] w fun e w' => e = .returned (.bool false) ∧ w = w' := by
  go_enter Try.func151, Try.ntmps151
  go_wp2
  go_ret
  exact ⟨by simp, rfl⟩
set_option maxRecDepth 100000 in
theorem cmpInt_any (x y : Int) (w : World) : Calls Try.prog 124 #[.int .i64 x, .int .i64 y] w fun e w' => e = .returned (.int .i64 (cmpInt x y)) ∧ w = w' := by
  go_enter Try.func124, Try.ntmps124
  go_wp2_with (go_at_call 151; refine (isNaN_any _ _).mono ?_; rintro e w' ⟨rfl, rfl⟩)
  all_goals (go_ret; refine ⟨?_, rfl⟩; unfold cmpInt; (repeat' split) <;> first | rfl | (exfalso; omega))
theorem cmpInt_still (x y : Int) (w : World) : Calls Try.prog 124 #[.int .i64 x, .int .i64 y] w fun e w' => e = .returned (.int .i64 (cmpInt x y)) ∧ w' = w := (cmpInt_any x y w).mono fun _ _ h => ⟨h.1, h.2.symm⟩
/-- The first number that is not zero. -/
def orInt (x y : Int) : Int := if x ≠ 0 then x else y
set_option maxRecDepth 100000 in
set_option maxHeartbeats 800000 in
theorem or_any (x y : Int) (b : Nat) (w : World) (h0 : w.cell? ⟨b, 0, none⟩ = some (.int .i64 x)) (h1 : w.cell? ⟨b, 1, none⟩ = some (.int .i64 y)) :
    Calls Try.prog 123 #[.slice (some ⟨b, 0, none⟩) 2 2] w fun e w' => e = .returned (.int .i64 (orInt x y)) ∧ ∃ q, w' = w.drewN q := by
  have bl := World.block_lt_of_cell? _ _ h0
  go_enter Try.func123, Try.ntmps123
  go_wp2_with fail
  go_loopw [8] (fun i wr => ∃ k : Nat, k ≤ 2 ∧ i = .int .i64 k ∧ Hid ((1 ≤ k → x = 0) ∧ (2 ≤ k → y = 0)) ∧ wr = w) (fun i _ => 2 - (intOf i).toNat)
  case atStart => exact ⟨0, by omega, rfl, Lib.hid ⟨by omega, by omega⟩, rfl⟩
  case round =>
    obtain ⟨k, hk, rfl, HI, rfl⟩ := hrel
    have hk3 : k = 0 ∨ k = 1 ∨ k = 2 := by omega
    rcases hk3 with rfl | rfl | rfl
    · by_cases hx : x = 0
      · have hx' : (x != 0) = false := bne_eq_false_iff_eq.2 hx
        have hx2 := Lib.hid hx
        clear hx
        go_wp2_with fail
        go_roundw
        case rel => exact ⟨1, by omega, by go_num, Lib.hid ⟨fun _ => hx2.out, by omega⟩, by first | rfl | trivial⟩
        case measure => simp [intOf]
      · have hx' : (x != 0) = true := bne_iff_ne.2 hx
        have hN : Hid (orInt x y = x) := Lib.hid (if_pos hx)
        go_wp2_with fail
        go_ret
        exact ⟨congrArg (fun x => Ending.returned (Value.int .i64 x)) hN.out.symm, 0, rfl⟩
    · have hx := HI.out.1 (by omega)
      by_cases hy : y = 0
      · have hy' : (y != 0) = false := bne_eq_false_iff_eq.2 hy
        have hx2 := Lib.hid (And.intro hx hy)
        clear hx hy
        go_wp2_with fail
        go_roundw
        case rel => exact ⟨2, by omega, by go_num, Lib.hid ⟨fun _ => hx2.out.1, fun _ => hx2.out.2⟩, by first | rfl | trivial⟩
        case measure => simp [intOf]
      · have hy' : (y != 0) = true := bne_iff_ne.2 hy
        have hN : Hid (orInt x y = y) := Lib.hid (if_neg (fun h => h hx))
        clear hx
        go_wp2_with fail
        go_ret
        exact ⟨congrArg (fun x => Ending.returned (Value.int .i64 x)) hN.out.symm, 0, rfl⟩
    · have hN : Hid (orInt x y = 0) := Lib.hid ((if_neg (fun h => h (HI.out.1 (by omega)))).trans (HI.out.2 (by omega)))
      go_wp2_with fail
      go_ret
      exact ⟨congrArg (fun x => Ending.returned (Value.int .i64 x)) hN.out.symm, 0, rfl⟩
def cmpId (a b : Id) : Int := orInt (cmpInt a.1 b.1) (cmpInt a.2 b.2)
theorem cmpId_eq (a b : Id) (h : idEq a.1 a.2 b.1 b.2 = true) : cmpId a b = 0 := by
  unfold idEq at h
  simp only [Bool.and_eq_true, beq_iff_eq] at h
  unfold cmpId orInt cmpInt
  simp [h.1, h.2]
set_option maxRecDepth 100000 in
set_option maxHeartbeats 800000 in
theorem compare_any (a b : Id) (w : World) :
    Calls Try.prog 92 #[idV a, idV b] w fun e w' => e = .returned (.int .i64 (cmpId a b)) ∧ ∃ q os', w' = grow (w.drewN q) os' := by
  by_cases hab : idEq a.1 a.2 b.1 b.2 = true
  · have hN := Lib.hid (cmpId_eq a b hab)
    go_enter Try.func92, Try.ntmps92
    go_wp2_with fail
    go_ret
    exact ⟨congrArg (fun x => Ending.returned (Value.int .i64 x)) hN.out.symm, 0, _, by rw [alloc_eq_grow, alloc_eq_grow, grow_grow]; rfl⟩
  · have hab := Bool.eq_false_iff.2 hab
    obtain ⟨W, hW⟩ : ∃ W, W = (w.alloc (.cells #[.int .i64 a.1, .int .i64 a.2] 28)).alloc (.cells #[.int .i64 b.1, .int .i64 b.2] 28) := ⟨_, rfl⟩
    have hg : W = grow w #[.cells #[.int .i64 a.1, .int .i64 a.2] 28, .cells #[.int .i64 b.1, .int .i64 b.2] 28] := by rw [hW, alloc_eq_grow, alloc_eq_grow, grow_grow]; rfl
    have hh0 : W.heap[w.heap.size]? = some (.cells #[.int .i64 a.1, .int .i64 a.2] 28) := by rw [hg]; simp [grow]
    have hh1 : W.heap[w.heap.size + 1]? = some (.cells #[.int .i64 b.1, .int .i64 b.2] 28) := by rw [hg]; simp [grow]
    have a0 : W.cell? ⟨w.heap.size, 0, none⟩ = some (.int .i64 a.1) := by simp [World.cell?, hh0]
    have a1 : W.cell? ⟨w.heap.size, 1, none⟩ = some (.int .i64 a.2) := by simp [World.cell?, hh0]
    have b0 : W.cell? ⟨w.heap.size + 1, 0, none⟩ = some (.int .i64 b.1) := by simp [World.cell?, hh1]
    have b1 : W.cell? ⟨w.heap.size + 1, 1, none⟩ = some (.int .i64 b.2) := by simp [World.cell?, hh1]
    have hsz : W.heap.size = w.heap.size + 2 := by rw [hg]; simp
    replace hg := Lib.hid hg
    clear hh0 hh1
    go_enter Try.func92, Try.ntmps92
    go_wp2_with fail
    rw [← hW]
    clear hW
    have hsz0 : w.heap.size < W.heap.size := by omega
    have hsz1 : w.heap.size + 1 < W.heap.size := by omega
    go_still_tail 10, (by kernel_rfl)
    still_call (cmpInt_still _ _ _)
    repeat still_step
    still_call (cmpInt_still _ _ _)
    refine wpStill_nil ?_
    change wpList _ _ _ _ _ (World.drew _)
    go_wp2_with fail
    have hv : (W.alloc (.cells #[.int .i64 (cmpInt a.1 b.1), .int .i64 (cmpInt a.2 b.2)] 3)).drew.heap[w.heap.size + 2]? = some (.cells #[.int .i64 (cmpInt a.1 b.1), .int .i64 (cmpInt a.2 b.2)] 3) := by
      rw [← hsz]
      exact heap_alloc_new W _
    refine (or_any (cmpInt a.1 b.1) (cmpInt a.2 b.2) _ _ (by simp [World.cell?, hv]) (by simp [World.cell?, hv])).mono ?_
    rintro e w3 ⟨rfl, q, rfl⟩
    go_wp2_with fail
    go_ret
    refine ⟨rfl, 1 + q, #[.cells #[.int .i64 a.1, .int .i64 a.2] 28, .cells #[.int .i64 b.1, .int .i64 b.2] 28] ++ #[.cells #[.int .i64 (cmpInt a.1 b.1), .int .i64 (cmpInt a.2 b.2)] 3], ?_⟩
    have hg := hg.out
    subst hg
    simp [grow, World.drewN, World.drew, World.alloc, Nat.add_assoc]
theorem cmpLays_id (blk off size : Nat) (w : World) : CmpLays Try.prog 92 #[] idc 2 cmpId blk off size w := fun _ _ _ _ x y => compare_any x y _
theorem ltOf_id (x y : Id) : ltOf cmpId x y = idLt x y := by
  unfold ltOf cmpId orInt cmpInt idLt
  by_cases h1 : x.1 = y.1
  · rw [if_pos h1]
    by_cases h2 : x.2 < y.2
    · simp [h1, h2]
    · by_cases h3 : y.2 < x.2 <;> simp [h1, h2, h3]
  · rw [if_neg h1]
    by_cases h2 : x.1 < y.1
    · simp [h2]
    · have h3 : y.1 < x.1 := by omega
      simp [h2, h3]
theorem idLt_iff (x y : Id) : idLt x y = true ↔ (x.1 < y.1 ∨ (x.1 = y.1 ∧ x.2 < y.2)) := by
  unfold idLt
  split
  · rename_i h; simp [h]
  · rename_i h; simp [h]
theorem idLt_no (x y : Id) : idLt x y = false ↔ ¬ (x.1 < y.1 ∨ (x.1 = y.1 ∧ x.2 < y.2)) := by rw [← idLt_iff]; simp
theorem swo_id : SWO (ltOf cmpId) where
  irrefl x := by rw [ltOf_id, idLt_no]; omega
  trans x y z h1 h2 := by rw [ltOf_id, idLt_iff] at *; omega
  ntrans x y z h1 h2 := by rw [ltOf_id, idLt_no] at *; omega
theorem total_id (x y : Id) (h1 : ltOf cmpId x y = false) (h2 : ltOf cmpId y x = false) : x = y := by
  rw [ltOf_id, idLt_no] at *
  exact Prod.ext (by omega) (by omega)
theorem flatK_eq {α : Type} [Inhabited α] (enc : α → List Value) (k : Nat) (h0 : 0 < k) (hk : ∀ x, (enc x).length = k) (l : List α) : flatK enc k l.toArray = (l.flatMap enc).toArray := by
  refine ext_get! (by simp [flat_len enc k hk]) (fun t ht => ?_)
  have ht' : t < l.length * k := by simpa using ht
  rw [get_flatK enc k _ t (by simpa using ht')]
  have hi : t / k < l.length := Nat.div_lt_of_lt_mul (by rw [Nat.mul_comm]; exact ht')
  have hr : t % k < k := Nat.mod_lt _ h0
  have := flat_get enc k hk l (t / k) (t % k) hi hr
  have e1 : t / k * k + t % k = t := Nat.div_add_mod' t k
  rw [e1] at this
  have e2 : l.toArray[t / k]! = l[t / k] := by simp [hi]
  rw [e2]
  simp only [List.getElem!_toArray, List.getElem!_eq_getElem?_getD, this]
theorem row_sort {H : Hp} {fr : List HA} {w : World} {e : TypeId} {g off n c : Nat} {l : List Id} (h : St H (Row e 2 (.slice (some ⟨g, off, none⟩) n c) (idl l) :: fr) w) (l' : List Id) (hl : l'.length = l.length) (m : Nat) (os : Array Obj) :
    St H (Row e 2 (.slice (some ⟨g, off, none⟩) n c) (idl l') :: fr) (sortWorldK idc 2 w g off m l'.toArray os) ∧ Env w (sortWorldK idc 2 w g off m l'.toArray os) := by
  have hsz : (sortWorldK idc 2 w g off m l'.toArray os).heap.size = w.heap.size + os.size := by simp [sortWorldK, putRowK, Sort.ahead]
  have hold : ∀ k, k < w.heap.size → (sortWorldK idc 2 w g off m l'.toArray os).heap[k]? = (w.heap.modify g (onCells (putCells id off (flatK idc 2 l'.toArray))))[k]? := fun k hk =>
    heap_grow_old _ os (by simpa [putRowK, Sort.ahead] using hk)
  refine ⟨h.turn (by omega) (fun S hS => ⟨S, ?_, fun k hk => .inl hk, fun k hk hn => ?_⟩), ⟨rfl, rfl, rfl, by omega⟩⟩
  · rcases hS with ⟨hv, _⟩ | ⟨g', off', n', cap, cur, hv, hlen, hc, hM, hh, hs, hj, hS⟩
    · cases hv
    · cases hv
      have hlt := (Array.getElem?_eq_some_iff.1 hh).1
      refine .inr ⟨g, off, n, c, putCells id off (flatK idc 2 l'.toArray) cur, rfl, by rw [idl_len] at hlen ⊢; omega, hc, hM, ?_, by unfold putCells; simpa using hs, fun j u hu => ?_, hS⟩
      · rw [hold g hlt, Array.getElem?_modify]
        simp [hh, onCells]
      · have hjl : j < (idl l').length := (List.getElem?_eq_some_iff.1 hu).1
        have hF : flatK idc 2 l'.toArray = (idl l').toArray := flatK_eq idc 2 (by omega) (fun _ => rfl) l'
        have hfs : (flatK idc 2 l'.toArray).size = (idl l').length := by rw [hF]; simp
        have hcs : off + j < cur.size := by
          rw [idl_len] at hlen hjl
          omega
        unfold putCells
        rw [Array.getElem?_mapIdx, Array.getElem?_eq_getElem hcs]
        simp only [Option.map_some]
        rw [if_pos ⟨Nat.le_add_right _ _, by omega⟩, hF]
        simp only [Nat.add_sub_cancel_left, id, List.getElem!_toArray, List.getElem!_eq_getElem?_getD, hu, Option.getD_some]
  · have hne : k ≠ g := fun e' => by
      rcases hS with ⟨hv, _⟩ | ⟨g', off', n', cap, cur, hv, hlen, hc, hM, hh, hs, hj, hS⟩
      · cases hv
      · cases hv
        exact hn ((hS k).2 e')
    rw [hold k hk, Array.getElem?_modify, if_neg (fun e' => hne e'.symm)]
/-- No two neighbours are one. -/
def Apart (l : List Id) : Prop := ∀ (k : Nat) (h : k + 1 < l.length), l[k + 1] ≠ l[k]
theorem apart_nodup {l : List Id} (h : l.Nodup) : Apart l := fun k hk he => (List.pairwise_iff_getElem.1 h k (k + 1) (by omega) hk (by omega)) he.symm
theorem idEq_no {a b : Id} (h : a ≠ b) : idEq a.1 a.2 b.1 b.2 = false := by
  unfold idEq
  rw [Bool.and_eq_false_iff]
  by_cases h1 : a.1 = b.1
  · right; exact beq_eq_false_iff_ne.2 (fun h2 => h (Prod.ext h1 h2))
  · left; exact beq_eq_false_iff_ne.2 h1
set_option maxRecDepth 100000 in
set_option maxHeartbeats 800000 in
theorem compact_apart (v : Value) (l : List Id) (w : World) (hx : Rw w 2 v (idl l)) (hap : Apart l) :
    Calls Try.prog 93 #[v] w fun e w' => e = .returned v ∧ Below w.heap.size w w' := by
  obtain ⟨A, n, c, rfl, hl, hn, hc⟩ := hx.form
  rw [idl_len] at hl
  obtain rfl : n = l.length := by omega
  clear hl
  rcases Nat.lt_or_ge l.length 2 with h2 | h2
  · have h2' : (l.length : Int) < 2 := by omega
    go_enter Try.func93, Try.ntmps93
    go_wp2_with fail
    go_ret
    exact ⟨rfl, Below.refl _ _⟩
  · have h2' : ¬ (l.length : Int) < 2 := by omega
    obtain ⟨b, off, rfl, hcx⟩ := hx.cells (by omega)
    go_enter Try.func93, Try.ntmps93
    go_wp2_with fail
    go_loopw [3] (fun i wr => ∃ k : Nat, 1 ≤ k ∧ k ≤ l.length ∧ i = .int .i64 k ∧ Below w.heap.size w wr) (fun i _ => l.length - (intOf i).toNat)
    case atStart => exact ⟨1, by omega, by omega, by go_num, Below.refl _ _⟩
    case round =>
      obtain ⟨k, hk1, hk, rfl, hb⟩ := hrel
      by_cases hlt : k < l.length
      · obtain ⟨m, rfl⟩ : ∃ m, k = m + 1 := ⟨k - 1, by omega⟩
        have hne := Lib.hid (idEq_no (hap m hlt))
        obtain ⟨b', off', hA, hcr⟩ := (hx.below hb).cells (by omega)
        cases hA
        have p1 := hcr _ _ (idl_fst l (m + 1) hlt)
        have p2 := hcr _ _ (idl_snd l (m + 1) hlt)
        have q1 := hcr _ _ (idl_fst l m (by omega))
        have q2 := hcr _ _ (idl_snd l m (by omega))
        rw [← Nat.add_assoc] at p2 q2
        obtain ⟨x, HX⟩ : ∃ x, Hid (x = l[m + 1]) := ⟨_, Lib.hid rfl⟩
        obtain ⟨y, HY⟩ : ∃ y, Hid (y = l[m]) := ⟨_, Lib.hid rfl⟩
        rw [← HX.out] at p1 p2
        rw [← HY.out] at q1 q2
        have hne' : idEq x.1 x.2 y.1 y.2 = false := by rw [HX.out, HY.out]; exact hne.out
        clear hcr hcx
        go_wp2_with fail
        go_quiet (fail)
        go_wp2_with fail
        go_roundw
        case rel => exact ⟨m + 1 + 1, by omega, by omega, by go_num, bel_drewN hb _⟩
        case measure => simp [intOf]; omega
      · go_wp2_with fail
        go_ret
        exact ⟨rfl, hb⟩
theorem below_self (w : World) (n : Nat) : Below w.heap.size w (w.drewN n) := bel_drewN (Below.refl _ _) n
/-- Ids in order. -/
def idSort (l : List Id) : List Id := l.mergeSort fun x y => !(ltOf cmpId) y x
theorem idSort_len (l : List Id) : (idSort l).length = l.length := by simp [idSort]
theorem holds_row {H : Hp} {fr : List HA} {w : World} {e : TypeId} {g off n c : Nat} {l : List Id} (h : St H (Row e 2 (.slice (some ⟨g, off, none⟩) n c) (idl l) :: fr) w) (hn : 0 < n) : HoldsK idc 2 w g off l.toArray ∧ g < w.heap.size := by
  obtain ⟨b, o, hA, hb, h1, h2⟩ := h.row_cells hn (by omega)
  cases hA
  refine ⟨fun j hj => ⟨?_, h2 j⟩, hb⟩
  rw [flatK_eq idc 2 (by omega) (fun _ => rfl) l] at hj ⊢
  have hj' : j < (idl l).length := by simpa [idl] using hj
  have := h1 j _ (List.getElem?_eq_getElem hj')
  rw [this]
  have e2 : (List.flatMap idc l).toArray[j]! = (idl l)[j] := by
    simp only [List.getElem!_toArray, List.getElem!_eq_getElem?_getD]
    rw [show List.flatMap idc l = idl l from rfl, List.getElem?_eq_getElem hj']
    rfl
  rw [e2]
  rfl
set_option maxRecDepth 100000 in
set_option maxHeartbeats 1600000 in
theorem identSorted_nodup (u : Value) (l : List Id) (w : World) (hx : Rw w 2 u (idl l)) (hnd : l.Nodup) (hlen : l.length * 16 ≤ 140737488355328) :
    Calls Try.prog 58 #[u] w (ResE (snap w) [] w (fun v => v) (fun v => [Row 28 2 v (idl (idSort l))])) := by
  obtain ⟨A, n, c, rfl, hl, hn, hc⟩ := hx.form
  rw [idl_len] at hl
  obtain rfl : n = l.length := by omega
  clear hl
  have eg : ∀ args w, (callFunc 92 args).run Try.prog w = .ok (.enter 92 args) w := enters_of Try.func92 (by kernel_rfl) rfl
  have h1 := (St.start w).row_lit 28 2 0 #[] rfl (by decide)
  go_enter Try.func58, Try.ntmps58
  go_wp2_with (at_builtin; refine wpList_append rfl (.tmp 4) (.tmp 5) 29 29 rfl Try.underlying29 (.inl ⟨_, Try.underlying29⟩) (.agg #[.int .i64 0, .int .i64 0]) 16 info_id rfl (by decide) (by decide) rfl rfl h1 (News.rw (hx.alloc _) (idl_one l)) ?apB ?apK)
  case apB => rw [idl_len]; omega
  intro v' w2 h2 en2
  obtain ⟨A', n', c', rfl, hl', hn', hc'⟩ := h2.row_form
  rw [idl_len] at hl'
  obtain rfl : n' = l.length := by omega
  have en2' := ((Env.refl w).alloc (.cells #[] 28)).trans en2
  rcases Nat.eq_zero_or_pos l.length with h0 | h0
  · have hl0 : l = [] := List.length_eq_zero_iff.1 h0
    subst hl0
    have hcon := AnyF.slices_SortFunc_none { sortId with } A' c' (.func (.func 92) #[] #[]) w2
    change Calls Try.prog 91 _ _ _ at hcon
    go_wp2_with fail
    refine hcon.mono ?_
    rintro e w3 ⟨rfl, rfl⟩
    go_wp2_with fail
    refine (compact_apart _ [] _ (h2.row_rw (by omega)) (fun k h => by simp at h)).mono ?_
    rintro e w4 ⟨rfl, hb4⟩
    go_wp2_with fail
    go_ret
    have e0 : idSort [] = [] := by simp [idSort]
    exact ⟨_, rfl, by rw [e0]; exact h2.below hb4, en2'.trans (bel_env hb4)⟩
  · obtain ⟨b, off, hA, _⟩ := h2.row_cells h0 (by omega)
    cases hA
    obtain ⟨hH, hlt⟩ := holds_row h2 h0
    have hcon := AnyQ.slices_SortFunc_total sortId 2 Try.isAgg28 Try.sizeOf28 idc (fun _ => rfl) (fun x v hv => by simp [idc] at hv; rcases hv with rfl | rfl <;> rfl) cmpId swo_id 92 #[] b off c' l.toArray w2 eg (cmpLays_id b off l.toArray.size w2) hH hlt (by simp; omega) total_id
    change Calls Try.prog 91 _ _ _ at hcon
    have hap : Apart (idSort l) := apart_nodup ((List.mergeSort_perm l _).nodup_iff.2 hnd)
    clear eg hH
    go_wp2_with fail
    refine hcon.mono ?_
    rintro e w3 ⟨rfl, m, os, rfl⟩
    have hs := row_sort h2 (idSort l) (idSort_len l) m os
    change St _ _ (sortWorldK idc 2 w2 b off m (l.toArray.toList.mergeSort fun x y => !(ltOf cmpId) y x).toArray os) ∧ Env w2 (sortWorldK idc 2 w2 b off m (l.toArray.toList.mergeSort fun x y => !(ltOf cmpId) y x).toArray os) at hs
    obtain ⟨h3, en3⟩ := hs
    generalize sortWorldK idc 2 w2 b off m (l.toArray.toList.mergeSort fun x y => !(ltOf cmpId) y x).toArray os = W at *
    go_wp2_with fail
    refine (compact_apart _ _ _ (h3.row_rw (by omega)) hap).mono ?_
    rintro e w4 ⟨rfl, hb4⟩
    go_wp2_with fail
    go_ret
    exact ⟨_, rfl, h3.below hb4, (en2'.trans en3).trans (bel_env hb4)⟩
end Go.Proofs.Ytelmhcbdpimaaaa
