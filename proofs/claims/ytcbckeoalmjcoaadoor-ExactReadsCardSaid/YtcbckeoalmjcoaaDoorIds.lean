/- Ids: what the reference does with lists of them, each function by its contract. -/
import Derived.Test.YtcbckeoalmjcoaaDoorProg
import Derived.Test.YtcbckeoalmjcoaaDoorOwn
import Derived.Deep.RegionHeld3
import Derived.StillTailTactics
import Derived.Deep.RegionWith
set_option linter.unusedVariables false
set_option linter.unusedSimpArgs false
namespace Go.Proofs.YtcbckeoalmjcoaaDoor
open Go.RowKit Go.Cw

abbrev Id := Int × Int
def idc (x : Id) : List Value := [.int .i64 x.1, .int .i64 x.2]
def idl (l : List Id) : List Value := l.flatMap idc
theorem info_id : (Tryd.prog.info? 23).map (fun i => (i.zero, i.size, i.bytes)) = some (some (.agg #[.int .i64 0, .int .i64 0]), 2, 16) := by kernel_rfl
theorem idl_len (l : List Id) : (idl l).length = l.length * 2 := flat_len idc 2 (fun _ => rfl) l
theorem idl_one (l : List Id) : ∀ u ∈ idl l, u.oneCell' = true := by
  intro u hu
  obtain ⟨x, _, hx⟩ := List.mem_flatMap.1 hu
  simp only [idc, List.mem_cons, List.not_mem_nil, or_false] at hx
  rcases hx with rfl | rfl <;> rfl
theorem idl_append (l m : List Id) : idl (l ++ m) = idl l ++ idl m := by simp [idl]
theorem idl_nil : idl [] = [] := rfl
theorem idl_fst (l : List Id) (k : Nat) (h : k < l.length) : (idl l)[k * 2]? = some (.int .i64 l[k].1) := by
  have := flat_get idc 2 (fun _ => rfl) l k 0 h (by omega)
  simpa [idl, idc] using this
theorem idl_snd (l : List Id) (k : Nat) (h : k < l.length) : (idl l)[k * 2 + 1]? = some (.int .i64 l[k].2) := by
  have := flat_get idc 2 (fun _ => rfl) l k 1 h (by omega)
  simpa [idl, idc] using this
theorem idl_take (l : List Id) (k : Nat) : (idl l).take (k * 2) = idl (l.take k) := by
  induction l generalizing k with
  | nil => simp [idl]
  | cons x l ih =>
    cases k with
    | zero => simp [idl]
    | succ k => simp only [idl, List.flatMap_cons, List.take_succ_cons, idc] at *; rw [Nat.add_mul]; simp [ih]
theorem idl_drop (l : List Id) (k : Nat) : (idl l).drop (k * 2) = idl (l.drop k) := by
  induction l generalizing k with
  | nil => simp [idl]
  | cons x l ih =>
    cases k with
    | zero => simp [idl]
    | succ k => simp only [idl, List.flatMap_cons, List.drop_succ_cons, idc] at *; rw [Nat.add_mul]; simp [ih]
/-- Go's == of two ids. -/
def idEq (a b c d : Int) : Bool := a == c && b == d
theorem eql_id (a b c d : Int) (w : World) : (binOp .eql 23 (.agg #[.int .i64 a, .int .i64 b]) (.agg #[.int .i64 c, .int .i64 d])).run Tryd.prog w = .ok (.bool (idEq a b c d)) w := by
  have u3 := Tryd.underlying3
  have a3 := Tryd.isAgg3
  have z3 := Tryd.sizeOf3
  have hS : Tryd.prog.underlying 23 = some (.struct (Tryd.prog.fieldsOf 23)) := by kernel_rfl
  have hp : Tryd.prog.stoodInHeld 23 = false := by kernel_rfl
  rw [run_eql_struct, show (10000 : Nat) = 9999 + 1 from rfl, run_equalIn_agg w 9999 23 _ _ hS hp]
  simp only [Program.fieldsOf, Tryd.underlying23, idEq]
  go_simp
  by_cases h1 : a = c <;> by_cases h2 : b = d <;> simp [h1, h2]
theorem neq_id (a b c d : Int) (w : World) : (binOp .neq 23 (.agg #[.int .i64 a, .int .i64 b]) (.agg #[.int .i64 c, .int .i64 d])).run Tryd.prog w = .ok (.bool (!idEq a b c d)) w := by
  have u3 := Tryd.underlying3
  have a3 := Tryd.isAgg3
  have z3 := Tryd.sizeOf3
  have hS : Tryd.prog.underlying 23 = some (.struct (Tryd.prog.fieldsOf 23)) := by kernel_rfl
  have hp : Tryd.prog.stoodInHeld 23 = false := by kernel_rfl
  rw [run_neq_struct, show (10000 : Nat) = 9999 + 1 from rfl, run_equalIn_agg w 9999 23 _ _ hS hp]
  simp only [Program.fieldsOf, Tryd.underlying23, idEq]
  go_simp
  by_cases h1 : a = c <;> by_cases h2 : b = d <;> simp [h1, h2]
theorem idEq_iff {a b : Id} : idEq a.1 a.2 b.1 b.2 = true ↔ a = b := by
  unfold idEq
  rw [Bool.and_eq_true, beq_iff_eq, beq_iff_eq]
  exact ⟨fun h => Prod.ext h.1 h.2, fun h => by rw [h]; exact ⟨rfl, rfl⟩⟩
theorem idEq_of {a b : Id} (h : a = b) : idEq a.1 a.2 b.1 b.2 = true := idEq_iff.2 h
theorem idEq_not {a b : Id} (h : ¬ a = b) : idEq a.1 a.2 b.1 b.2 = false := by
  rw [Bool.eq_false_iff]
  exact fun h' => h (idEq_iff.1 h')

theorem rb {a b : Bool} (h : a = b) : Ending.returned (.bool a) = .returned (.bool b) := by rw [h]
theorem dec_ids (xs ys : List Id) (k : Nat) (h : k < xs.length) (h' : k < ys.length) : decide (xs.drop k = ys.drop k) = (decide (xs[k] = ys[k]) && decide (xs.drop (k + 1) = ys.drop (k + 1))) := by
  rw [List.drop_eq_getElem_cons h, List.drop_eq_getElem_cons h']
  generalize xs[k] = a
  generalize ys[k] = b
  generalize xs.drop (k + 1) = l
  generalize ys.drop (k + 1) = m
  by_cases h1 : a = b <;> by_cases h2 : l = m <;> simp [h1, h2]

attribute [local go_sem ↓] eql_id neq_id
set_option maxRecDepth 100000 in
set_option maxHeartbeats 800000 in
theorem sameIds_any (u v : Value) (xs ys : List Id) (w : World) (hx : Rw w 2 u (idl xs)) (hy : Rw w 2 v (idl ys)) :
    Calls Tryd.prog 18 #[u, v] w fun e w' => e = .returned (.bool (decide (xs = ys))) ∧ Below w.heap.size w w' := by
  obtain ⟨A, n, c, rfl, hl, hn, hc⟩ := hx.form
  obtain ⟨A2, n2, c2, rfl, hl2, hn2, hc2⟩ := hy.form
  rw [idl_len] at hl hl2
  obtain rfl : n = xs.length := by omega
  obtain rfl : n2 = ys.length := by omega
  clear hl hl2
  by_cases hne : xs.length = ys.length
  · have hq : ((xs.length : Int) != ys.length) = false := bne_eq_false_iff_eq.2 (by omega)
    have hd : decide (xs = ys) = decide (xs.drop 0 = ys.drop 0) := by simp
    generalize decide (xs = ys) = r at *
    have HE := Lib.hid hne
    have HD := Lib.hid hd
    clear hne hd
    go_enter Tryd.func18, Tryd.ntmps18
    go_wp2
    go_loopw [5] (fun i wr => ∃ k n : Nat, k ≤ xs.length ∧ i = .int .i64 k ∧ Hid (r = decide (xs.drop k = ys.drop k)) ∧ wr = w.drewN n) (fun i _ => xs.length - (intOf i).toNat)
    case atStart => exact ⟨0, 0, Nat.zero_le _, rfl, HD, rfl⟩
    case round =>
      obtain ⟨k, n, hk, rfl, HR, rfl⟩ := hrel
      by_cases hlt : k < xs.length
      · obtain ⟨b, off, rfl, hcx⟩ := hx.cells (by omega)
        obtain ⟨b2, off2, rfl, hcy⟩ := hy.cells (by have := HE.out; omega)
        have hlt2 : k < ys.length := by have := HE.out; omega
        have h1 := hcx _ _ (idl_fst xs k hlt)
        have h1' := hcx _ _ (idl_snd xs k hlt)
        have h2 := hcy _ _ (idl_fst ys k hlt2)
        have h2' := hcy _ _ (idl_snd ys k hlt2)
        rw [← Nat.add_assoc] at h1' h2'
        clear hcx hcy
        have HS := Lib.hid (dec_ids xs ys k hlt hlt2)
        generalize xs[k] = x at *
        generalize ys[k] = y at *
        by_cases he : x = y
        · have he' := idEq_of he
          have HN : Hid (r = decide (xs.drop (k + 1) = ys.drop (k + 1))) := Lib.hid (by rw [HR.out, HS.out, decide_eq_true he, Bool.true_and])
          clear he
          go_wp2
          go_quiet (fail)
          go_wp2
          go_roundw
          case rel => exact ⟨k + 1, _, by omega, by go_num, HN, rfl⟩
          case measure => simp [intOf]; omega
        · have he' := idEq_not he
          have HN : Hid (r = false) := Lib.hid (by rw [HR.out, HS.out, decide_eq_false he, Bool.false_and])
          clear he
          go_wp2
          go_quiet (fail)
          go_wp2
          go_ret
          exact ⟨rb HN.out.symm, bel_drewN (bel_drewN (Below.refl _ _) _) _⟩
      · have HN : Hid (r = true) := Lib.hid (by rw [HR.out, List.drop_of_length_le (by omega), List.drop_of_length_le (by have := HE.out; omega)]; simp)
        go_wp2
        go_ret
        exact ⟨rb HN.out.symm, bel_drewN (Below.refl _ _) _⟩
  · have hq : ((xs.length : Int) != ys.length) = true := by rw [bne_iff_ne]; omega
    have hd : decide (xs = ys) = false := decide_eq_false (fun h => hne (by rw [h]))
    rw [hd]
    go_enter Tryd.func18, Tryd.ntmps18
    go_wp2
    go_ret
    exact ⟨rfl, Below.refl _ _⟩

abbrev idV (x : Id) : Value := .agg #[.int .i64 x.1, .int .i64 x.2]
theorem mem_step (id : Id) (l : List Id) (k : Nat) (h : k < l.length) : decide (id ∈ l.drop k) = (decide (l[k] = id) || decide (id ∈ l.drop (k + 1))) := by
  have := List.drop_eq_getElem_cons h
  rw [this]
  generalize l[k] = a
  generalize l.drop (k + 1) = m
  by_cases h1 : a = id
  · subst h1
    simp
  · have h3 : ¬ id = a := fun h => h1 h.symm
    by_cases h2 : id ∈ m <;> simp [h1, h2, h3]
set_option maxRecDepth 100000 in
set_option maxHeartbeats 800000 in
theorem hasIds_any (u : Value) (l : List Id) (id : Id) (w : World) (hx : Rw w 2 u (idl l)) :
    Calls Tryd.prog 23 #[u, idV id] w fun e w' => e = .returned (.bool (decide (id ∈ l))) ∧ Below w.heap.size w w' := by
  obtain ⟨A, n, c, rfl, hl, hn, hc⟩ := hx.form
  rw [idl_len] at hl
  obtain rfl : n = l.length := by omega
  clear hl
  have hd : decide (id ∈ l) = decide (id ∈ l.drop 0) := by simp
  generalize decide (id ∈ l) = r at *
  have HD := Lib.hid hd
  clear hd
  go_enter Tryd.func23, Tryd.ntmps23
  go_wp2
  go_loopw [5] (fun i wr => ∃ k n : Nat, k ≤ l.length ∧ i = .int .i64 k ∧ Hid (r = decide (id ∈ l.drop k)) ∧ wr = (w.alloc (.cells #[.int .i64 id.1, .int .i64 id.2] 23)).drewN n) (fun i _ => l.length - (intOf i).toNat)
  case atStart => exact ⟨0, 0, Nat.zero_le _, rfl, HD, rfl⟩
  case round =>
    obtain ⟨k, n, hk, rfl, HR, rfl⟩ := hrel
    by_cases hlt : k < l.length
    · obtain ⟨b, off, rfl, hcx⟩ := hx.cells (by omega)
      have h1 := hcx _ _ (idl_fst l k hlt)
      have h1' := hcx _ _ (idl_snd l k hlt)
      rw [← Nat.add_assoc] at h1'
      have hb := World.block_lt_of_cell? w _ h1
      clear hcx
      have HS := Lib.hid (mem_step id l k hlt)
      generalize l[k] = x at *
      by_cases he : x = id
      · have he' := idEq_of he
        have HN : Hid (r = true) := Lib.hid (by rw [HR.out, HS.out, decide_eq_true he, Bool.true_or])
        clear he
        go_wp2
        go_quiet (fail)
        go_wp2
        go_ret
        exact ⟨rb HN.out.symm, bel_drewN (bel_drewN ((Below.refl _ _).alloc (Nat.le_refl _) _) _) _⟩
      · have he' := idEq_not he
        have HN : Hid (r = decide (id ∈ l.drop (k + 1))) := Lib.hid (by rw [HR.out, HS.out, decide_eq_false he, Bool.false_or])
        clear he
        go_wp2
        go_quiet (fail)
        go_wp2
        go_roundw
        case rel => exact ⟨k + 1, _, by omega, by go_num, HN, rfl⟩
        case measure => simp [intOf]; omega
    · have HN : Hid (r = false) := Lib.hid (by rw [HR.out, List.drop_of_length_le (by omega)]; simp)
      go_wp2
      go_ret
      exact ⟨rb HN.out.symm, bel_drewN ((Below.refl _ _).alloc (Nat.le_refl _) _) _⟩
/-- Does a stand ahead of b? -/
def idLt (a b : Id) : Bool := if a.1 = b.1 then decide (a.2 < b.2) else decide (a.1 < b.1)
theorem below2 (w : World) (o o' : Obj) : Below w.heap.size w ((w.alloc o).alloc o') := ((Below.refl _ _).alloc (Nat.le_refl _) _).alloc (by simp) _
set_option maxRecDepth 100000 in
theorem less_any (a b : Id) (w : World) :
    Calls Tryd.prog 10 #[idV a, idV b] w fun e w' => e = .returned (.bool (idLt a b)) ∧ Below w.heap.size w w' := by
  by_cases h : a.1 = b.1
  · have hr : idLt a b = decide (a.2 < b.2) := if_pos h
    have h1 : (a.1 != b.1) = false := bne_eq_false_iff_eq.2 h
    have HR := Lib.hid hr
    clear hr h
    go_enter Tryd.func10, Tryd.ntmps10
    go_wp2
    go_ret
    exact ⟨rb HR.out.symm, below2 w _ _⟩
  · have hr : idLt a b = decide (a.1 < b.1) := if_neg h
    have h1 : (a.1 != b.1) = true := bne_iff_ne.2 h
    have HR := Lib.hid hr
    clear hr h
    go_enter Tryd.func10, Tryd.ntmps10
    go_wp2
    go_ret
    exact ⟨rb HR.out.symm, below2 w _ _⟩
/-- May an id be? -/
def idOk (a : Id) : Bool := decide (0 ≤ a.1 ∧ a.1 < 8 ∧ 1 ≤ a.2 ∧ a.2 ≤ 1048576)
set_option maxRecDepth 100000 in
theorem right_any (a : Id) (w : World) :
    Calls Tryd.prog 43 #[idV a] w fun e w' => e = .returned (.bool (idOk a)) ∧ Below w.heap.size w w' := by
  by_cases h1 : 0 ≤ a.1
  · by_cases h2 : a.1 < 8
    · by_cases h3 : 1 ≤ a.2
      · have HR := Lib.hid (show idOk a = decide (a.2 ≤ 1048576) by unfold idOk; simp [h1, h2, h3])
        go_enter Tryd.func43, Tryd.ntmps43
        go_wp2
        go_ret
        exact ⟨rb HR.out.symm, (Below.refl _ _).alloc (Nat.le_refl _) _⟩
      · have HR := Lib.hid (show idOk a = false by unfold idOk; simp [h1, h2, h3])
        go_enter Tryd.func43, Tryd.ntmps43
        go_wp2
        go_ret
        exact ⟨rb HR.out.symm, (Below.refl _ _).alloc (Nat.le_refl _) _⟩
    · have HR := Lib.hid (show idOk a = false by unfold idOk; simp [h1, h2])
      go_enter Tryd.func43, Tryd.ntmps43
      go_wp2
      go_ret
      exact ⟨rb HR.out.symm, (Below.refl _ _).alloc (Nat.le_refl _) _⟩
  · have HR := Lib.hid (show idOk a = false by unfold idOk; simp [h1])
    go_enter Tryd.func43, Tryd.ntmps43
    go_wp2
    go_ret
    exact ⟨rb HR.out.symm, (Below.refl _ _).alloc (Nat.le_refl _) _⟩
/-- An id put ahead of the first one that it stands ahead of. -/
def ins (id : Id) : List Id → List Id
  | [] => [id]
  | x :: r => if idLt id x then id :: x :: r else x :: ins id r
theorem ins_len (id : Id) (l : List Id) : (ins id l).length = l.length + 1 := by
  induction l with
  | nil => rfl
  | cons x r ih => unfold ins; split <;> simp [ih]
theorem bcell {W w1 : World} (hb : Below W.heap.size W w1) : (∀ b o, b < W.heap.size → w1.cell? ⟨b, o, none⟩ = W.cell? ⟨b, o, none⟩) ∧ (∀ b o, b < W.heap.size → w1.frozen? ⟨b, o, none⟩ = W.frozen? ⟨b, o, none⟩) :=
  ⟨fun b o h => hb.cell (p := ⟨b, o, none⟩) h, fun b o h => hb.frozen (p := ⟨b, o, none⟩) h⟩
theorem ins_step (id : Id) (l : List Id) (k : Nat) (h : k < l.length) : ins id (l.drop k) = if idLt id l[k] then id :: l.drop k else l[k] :: ins id (l.drop (k + 1)) := by
  have := List.drop_eq_getElem_cons h
  rw [this]
  rfl
set_option maxRecDepth 100000 in
set_option maxHeartbeats 1600000 in
theorem put_new (u : Value) (l : List Id) (id : Id) (w : World) (hx : Rw w 2 u (idl l)) (hno : id ∉ l) (hlen : (l.length + 1) * 16 ≤ 140737488355328) :
    Calls Tryd.prog 46 #[u, idV id] w (ResE (snap w) [] w (fun v => v) (fun v => [Row 23 2 v (idl (ins id l))])) := by
  obtain ⟨A, n, c, rfl, hl, hn, hc⟩ := hx.form
  rw [idl_len] at hl
  obtain rfl : n = l.length := by omega
  clear hl
  have hd : decide (id ∈ l) = false := decide_eq_false hno
  go_enter Tryd.func46, Tryd.ntmps46
  go_wp2_with fail
  have hst := (St.start w).keep (.cells #[.int .i64 id.1, .int .i64 id.2] 23)
  have hle := (St.start w).keep_le (.cells #[.int .i64 id.1, .int .i64 id.2] 23)
  have hb0 : (snap w).put w.heap.size (.cells #[.int .i64 id.1, .int .i64 id.2] 23) w.heap.size = some (.cells #[.int .i64 id.1, .int .i64 id.2] 23) := Hp.put_same _ _ _
  refine (hasIds_any _ l id _ (hx.alloc _)).mono ?_
  rintro e w1 ⟨rfl, hb1⟩
  have hst1 := hst.below hb1
  have en1 : Env w w1 := ((Env.refl w).alloc _).trans (bel_env hb1)
  have hrd := hx.rd.mono hle
  generalize (snap w).put w.heap.size (.cells #[.int .i64 id.1, .int .i64 id.2] 23) = H at *
  have hcell0 : H.cell w.heap.size 0 = some (.int .i64 id.1) := by simp [Hp.cell, hb0]
  have hcell1 : H.cell w.heap.size 1 = some (.int .i64 id.2) := by simp [Hp.cell, hb0]
  generalize w.heap.size = gb at *
  rw [hd]
  go_wp2_with fail
  have hst2 := hst1.row_lit 23 2 0 #[] rfl (by decide)
  have en2 := en1.alloc (.cells #[] 23)
  generalize w1.alloc (.cells #[] 23) = w2 at *
  go_loopw [5, 6, 7] (fun o d i wr => ∃ (k : Nat) (done : Bool) (out : List Id), k ≤ l.length ∧ i = .int .i64 k ∧ d = .bool done ∧ out.length + (if done then 0 else 1) ≤ k + 1 ∧ St H [Row 23 2 o (idl out)] wr ∧ Env w wr ∧ Hid (ins id l = out ++ (if done then l.drop k else ins id (l.drop k)))) (fun _ _ i _ => l.length - (intOf i).toNat)
  case atStart => exact ⟨0, false, [], Nat.zero_le _, rfl, rfl, by simp, hst2, en2, Lib.hid (by simp)⟩
  case round =>
    obtain ⟨k, done, out, hk, rfl, rfl, ho, hst, hen, HI⟩ := hrel
    have b0 := hst.cell hcell0
    have b1 := hst.cell hcell1
    have l0 := World.block_lt_of_cell? _ _ b0
    by_cases hlt : k < l.length
    · have HS := Lib.hid (ins_step id l k hlt)
      have HD := Lib.hid (List.drop_eq_getElem_cons hlt)
      obtain ⟨x, HX⟩ : ∃ x, Hid (x = l[k]) := ⟨_, Lib.hid rfl⟩
      cases done with
      | true =>
        simp only [↓reduceIte] at ho
        have HN : Hid (ins id l = (out ++ [x]) ++ (if true then l.drop (k + 1) else ins id (l.drop (k + 1)))) := Lib.hid (by rw [HI.out, if_pos rfl, if_pos rfl, HD.out, HX.out]; simp)
        clear b0 b1 l0
        obtain ⟨pb, poff, pA, pc⟩ := (hrd.rw hst).cells (by omega)
        cases pA
        have p1 := pc _ _ (idl_fst l k hlt)
        have p2 := pc _ _ (idl_snd l k hlt)
        rw [← Nat.add_assoc] at p2
        rw [← HX.out] at p1 p2
        have pl := World.block_lt_of_cell? _ _ p1
        clear pc
        go_wp2_with fail
        go_quiet (fail)
        have hst' := hst.drewN nq
        have hen' := hen.drewN nq
        clear p1 p2 pl
        generalize wr.drewN nq = w3 at *
        obtain ⟨pb, poff, pA, pc⟩ := (hrd.rw hst').cells (by omega)
        cases pA
        have p1 := pc _ _ (idl_fst l k hlt)
        have p2 := pc _ _ (idl_snd l k hlt)
        rw [← Nat.add_assoc] at p2
        rw [← HX.out] at p1 p2
        have pl := World.block_lt_of_cell? _ _ p1
        clear pc
        go_wp2_with (at_builtin; refine wpList_append rfl (.tmp 33) (.tmp 38) 35 35 rfl Tryd.underlying35 (.inl ⟨_, Tryd.underlying35⟩) (.agg #[.int .i64 0, .int .i64 0]) 16 info_id rfl (by decide) (by decide) rfl rfl (hst'.alloc _) (News.new w3 _ 1 #[.int .i64 x.1, .int .i64 x.2] rfl (by simp [Value.oneCell'])) ?apB4 ?apK4)
        try case apB4 => first | (rw [idl_len]; simp; omega) | (rw [idl_len]; omega)
        intro v' w4 h4 en4
        go_wp2_with fail
        go_roundw
        case rel => exact ⟨k + 1, true, out ++ [x], by omega, by go_num, rfl, by simp; omega, by simpa [idl, idc] using h4, (hen'.alloc _).trans en4, HN⟩
        case measure => simp [intOf]; omega
      | false =>
        simp only [Bool.false_eq_true, ↓reduceIte] at ho
        by_cases hL : idLt id x = true
        · have HN : Hid (ins id l = (out ++ [id] ++ [x]) ++ (if true then l.drop (k + 1) else ins id (l.drop (k + 1)))) := Lib.hid (by rw [HI.out, if_neg (by decide), if_pos rfl, HS.out, ← HX.out, if_pos hL, HD.out, HX.out]; simp)
          obtain ⟨pb, poff, pA, pc⟩ := (hrd.rw hst).cells (by omega)
          cases pA
          have p1 := pc _ _ (idl_fst l k hlt)
          have p2 := pc _ _ (idl_snd l k hlt)
          rw [← Nat.add_assoc] at p2
          rw [← HX.out] at p1 p2
          have pl := World.block_lt_of_cell? _ _ p1
          clear pc
          go_wp2_with fail
          go_still_tail 8, (by kernel_rfl)
          change wpList _ _ _ _ _ wr.drew
          go_wp2_with fail
          refine (less_any id x _).mono ?_
          rintro e w3 ⟨rfl, hb3⟩
          rw [hL]
          have hst3 := hst.drew.below hb3
          have hen3 := hen.drew.trans (bel_env hb3)
          clear b0 b1 l0 p1 p2 pl
          obtain ⟨pb, poff, pA, pc⟩ := (hrd.rw hst3).cells (by omega)
          cases pA
          have p1 := pc _ _ (idl_fst l k hlt)
          have p2 := pc _ _ (idl_snd l k hlt)
          rw [← Nat.add_assoc] at p2
          rw [← HX.out] at p1 p2
          have pl := World.block_lt_of_cell? _ _ p1
          clear pc
          have b0 := hst3.cell hcell0
          have b1 := hst3.cell hcell1
          have l0 := World.block_lt_of_cell? _ _ b0
          go_wp2_with (at_builtin; refine wpList_append rfl (.tmp 29) (.tmp 31) 35 35 rfl Tryd.underlying35 (.inl ⟨_, Tryd.underlying35⟩) (.agg #[.int .i64 0, .int .i64 0]) 16 info_id rfl (by decide) (by decide) rfl rfl (hst3.alloc _) (News.new w3 _ 1 #[.int .i64 id.1, .int .i64 id.2] rfl (by simp [Value.oneCell'])) ?apB8 ?apK8)
          try case apB8 => first | (rw [idl_len]; simp; omega) | (rw [idl_len]; omega)
          intro v' w4 h4 en4
          clear b0 b1 l0 p1 p2 pl
          obtain ⟨pb, poff, pA, pc⟩ := (hrd.rw h4).cells (by omega)
          cases pA
          have p1 := pc _ _ (idl_fst l k hlt)
          have p2 := pc _ _ (idl_snd l k hlt)
          rw [← Nat.add_assoc] at p2
          rw [← HX.out] at p1 p2
          have pl := World.block_lt_of_cell? _ _ p1
          clear pc
          go_wp2_with (at_builtin; refine wpList_append rfl (.tmp 33) (.tmp 38) 35 35 rfl Tryd.underlying35 (.inl ⟨_, Tryd.underlying35⟩) (.agg #[.int .i64 0, .int .i64 0]) 16 info_id rfl (by decide) (by decide) rfl rfl (h4.alloc _) (News.new w4 _ 1 #[.int .i64 x.1, .int .i64 x.2] rfl (by simp [Value.oneCell'])) ?apB10 ?apK10)
          try case apB10 => first | (rw [idl_len]; simp; omega) | (rw [idl_len]; omega)
          intro v2 w5 h5 en5
          go_wp2_with fail
          go_roundw
          case rel => exact ⟨k + 1, true, out ++ [id] ++ [x], by omega, by go_num, rfl, by simp; omega, by simpa [idl, idc] using h5, (((hen3.alloc _).trans en4).alloc _).trans en5, HN⟩
          case measure => simp [intOf]; omega
        · have HN : Hid (ins id l = (out ++ [x]) ++ (if false then l.drop (k + 1) else ins id (l.drop (k + 1)))) := Lib.hid (by rw [HI.out, if_neg (by decide), if_neg (by decide), HS.out, ← HX.out, if_neg hL]; simp)
          have hL := Bool.eq_false_iff.2 hL
          obtain ⟨pb, poff, pA, pc⟩ := (hrd.rw hst).cells (by omega)
          cases pA
          have p1 := pc _ _ (idl_fst l k hlt)
          have p2 := pc _ _ (idl_snd l k hlt)
          rw [← Nat.add_assoc] at p2
          rw [← HX.out] at p1 p2
          have pl := World.block_lt_of_cell? _ _ p1
          clear pc
          go_wp2_with fail
          go_still_tail 8, (by kernel_rfl)
          change wpList _ _ _ _ _ wr.drew
          go_wp2_with fail
          refine (less_any id x _).mono ?_
          rintro e w3 ⟨rfl, hb3⟩
          rw [hL]
          have hst3 := hst.drew.below hb3
          have hen3 := hen.drew.trans (bel_env hb3)
          clear b0 b1 l0 p1 p2 pl
          obtain ⟨pb, poff, pA, pc⟩ := (hrd.rw hst3).cells (by omega)
          cases pA
          have p1 := pc _ _ (idl_fst l k hlt)
          have p2 := pc _ _ (idl_snd l k hlt)
          rw [← Nat.add_assoc] at p2
          rw [← HX.out] at p1 p2
          have pl := World.block_lt_of_cell? _ _ p1
          clear pc
          go_wp2_with (at_builtin; refine wpList_append rfl (.tmp 33) (.tmp 38) 35 35 rfl Tryd.underlying35 (.inl ⟨_, Tryd.underlying35⟩) (.agg #[.int .i64 0, .int .i64 0]) 16 info_id rfl (by decide) (by decide) rfl rfl (hst3.alloc _) (News.new w3 _ 1 #[.int .i64 x.1, .int .i64 x.2] rfl (by simp [Value.oneCell'])) ?apB14 ?apK14)
          try case apB14 => first | (rw [idl_len]; simp; omega) | (rw [idl_len]; omega)
          intro v' w4 h4 en4
          go_wp2_with fail
          go_roundw
          case rel => exact ⟨k + 1, false, out ++ [x], by omega, by go_num, rfl, by simp; omega, by simpa [idl, idc] using h4, (hen3.alloc _).trans en4, HN⟩
          case measure => simp [intOf]; omega
    · obtain rfl : k = l.length := by omega
      cases done with
      | true =>
        have HF : Hid (ins id l = out) := Lib.hid (by rw [HI.out]; simp)
        go_wp2_with fail
        go_ret
        exact ⟨_, rfl, by rw [HF.out]; exact hst.weaken hle, hen⟩
      | false =>
        simp only [Bool.false_eq_true, ↓reduceIte] at ho
        have HF : Hid (ins id l = out ++ [id]) := Lib.hid (by rw [HI.out]; simp [ins])
        go_wp2_with (at_builtin; refine wpList_append rfl (.tmp 42) (.tmp 44) 35 35 rfl Tryd.underlying35 (.inl ⟨_, Tryd.underlying35⟩) (.agg #[.int .i64 0, .int .i64 0]) 16 info_id rfl (by decide) (by decide) rfl rfl (hst.alloc _) (News.new wr _ 1 #[.int .i64 id.1, .int .i64 id.2] rfl (by simp [Value.oneCell'])) ?apB15 ?apK15)
        try case apB15 => first | (rw [idl_len]; simp; omega) | (rw [idl_len]; omega)
        intro v' w4 h4 en4
        go_wp2_with fail
        go_ret
        exact ⟨v', rfl, by rw [HF.out]; simpa [idl, idc] using h4.weaken hle, (hen.alloc _).trans en4⟩
end Go.Proofs.YtcbckeoalmjcoaaDoor
