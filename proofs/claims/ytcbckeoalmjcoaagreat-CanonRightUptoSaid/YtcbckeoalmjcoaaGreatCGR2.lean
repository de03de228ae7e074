/- Joined texts: Ids, Ident. -/
import Derived.Test.YtcbckeoalmjcoaaGreatProg
import Derived.Deep.RegionHeld3
import Derived.StillTailTactics
import Derived.Deep.RegionWith
import Derived.Shelf.SlSortCmp.WholeK
import Derived.Shelf.SlSortCmp.NoneTotal
import Derived.Ground.SlsfProg
import Derived.Test.YtcbckeoalmjcoaaGreatCGR1
/- Ids: what the reference does with lists of them, each function by its contract. -/
set_option linter.unusedVariables false
set_option linter.unusedSimpArgs false
namespace Go.Proofs.YtcbckeoalmjcoaaGreat
open Go.RowKit Go.Cw

abbrev Id := Int × Int
def idc (x : Id) : List Value := [.int .i64 x.1, .int .i64 x.2]
def idl (l : List Id) : List Value := l.flatMap idc
theorem info_id : (Tryz.prog.info? 41).map (fun i => (i.zero, i.size, i.bytes)) = some (some (.agg #[.int .i64 0, .int .i64 0]), 2, 16) := by kernel_rfl
theorem idl_len (l : List Id) : (idl l).length = l.length * 2 := flat_len idc 2 (fun _ => rfl) l
theorem idl_one (l : List Id) : ∀ u ∈ idl l, u.oneCell' = true := by
  intro u hu
  obtain ⟨x, _, hx⟩ := List.mem_flatMap.1 hu
  simp only [idc, List.mem_cons, List.not_mem_nil, or_false] at hx
  rcases hx with rfl | rfl <;> rfl
theorem idl_append (l m : List Id) : idl (l ++ m) = idl l ++ idl m := by simp [idl]
theorem idl_nil : idl [] = [] := rfl
theorem idl_fst (l : List Id) (k : Nat) (h : k < l.length) : (idl l)[k * 2]? = some (.int .i64 l[k].1) := by
  have := flat_get idc 2 (fun _ => rfl) l k 0 h (by omega)
  simpa [idl, idc] using this
theorem idl_snd (l : List Id) (k : Nat) (h : k < l.length) : (idl l)[k * 2 + 1]? = some (.int .i64 l[k].2) := by
  have := flat_get idc 2 (fun _ => rfl) l k 1 h (by omega)
  simpa [idl, idc] using this
theorem idl_take (l : List Id) (k : Nat) : (idl l).take (k * 2) = idl (l.take k) := by
  induction l generalizing k with
  | nil => simp [idl]
  | cons x l ih =>
    cases k with
    | zero => simp [idl]
    | succ k => simp only [idl, List.flatMap_cons, List.take_succ_cons, idc] at *; rw [Nat.add_mul]; simp [ih]
theorem idl_drop (l : List Id) (k : Nat) : (idl l).drop (k * 2) = idl (l.drop k) := by
  induction l generalizing k with
  | nil => simp [idl]
  | cons x l ih =>
    cases k with
    | zero => simp [idl]
    | succ k => simp only [idl, List.flatMap_cons, List.drop_succ_cons, idc] at *; rw [Nat.add_mul]; simp [ih]
/-- Go's == of two ids. -/
def idEq (a b c d : Int) : Bool := a == c && b == d
theorem eql_id (a b c d : Int) (w : World) : (binOp .eql 41 (.agg #[.int .i64 a, .int .i64 b]) (.agg #[.int .i64 c, .int .i64 d])).run Tryz.prog w = .ok (.bool (idEq a b c d)) w := by
  have u3 := Tryz.underlying3
  have a3 := Tryz.isAgg3
  have z3 := Tryz.sizeOf3
  have hS : Tryz.prog.underlying 41 = some (.struct (Tryz.prog.fieldsOf 41)) := by kernel_rfl
  have hp : Tryz.prog.stoodInHeld 41 = false := by kernel_rfl
  rw [run_eql_struct, show (10000 : Nat) = 9999 + 1 from rfl, run_equalIn_agg w 9999 41 _ _ hS hp]
  simp only [Program.fieldsOf, Tryz.underlying41, idEq]
  go_simp
  by_cases h1 : a = c <;> by_cases h2 : b = d <;> simp [h1, h2]
theorem neq_id (a b c d : Int) (w : World) : (binOp .neq 41 (.agg #[.int .i64 a, .int .i64 b]) (.agg #[.int .i64 c, .int .i64 d])).run Tryz.prog w = .ok (.bool (!idEq a b c d)) w := by
  have u3 := Tryz.underlying3
  have a3 := Tryz.isAgg3
  have z3 := Tryz.sizeOf3
  have hS : Tryz.prog.underlying 41 = some (.struct (Tryz.prog.fieldsOf 41)) := by kernel_rfl
  have hp : Tryz.prog.stoodInHeld 41 = false := by kernel_rfl
  rw [run_neq_struct, show (10000 : Nat) = 9999 + 1 from rfl, run_equalIn_agg w 9999 41 _ _ hS hp]
  simp only [Program.fieldsOf, Tryz.underlying41, idEq]
  go_simp
  by_cases h1 : a = c <;> by_cases h2 : b = d <;> simp [h1, h2]
theorem idEq_iff {a b : Id} : idEq a.1 a.2 b.1 b.2 = true ↔ a = b := by
  unfold idEq
  rw [Bool.and_eq_true, beq_iff_eq, beq_iff_eq]
  exact ⟨fun h => Prod.ext h.1 h.2, fun h => by rw [h]; exact ⟨rfl, rfl⟩⟩
theorem idEq_of {a b : Id} (h : a = b) : idEq a.1 a.2 b.1 b.2 = true := idEq_iff.2 h
theorem idEq_not {a b : Id} (h : ¬ a = b) : idEq a.1 a.2 b.1 b.2 = false := by
  rw [Bool.eq_false_iff]
  exact fun h' => h (idEq_iff.1 h')

theorem rb {a b : Bool} (h : a = b) : Ending.returned (.bool a) = .returned (.bool b) := by rw [h]
theorem dec_ids (xs ys : List Id) (k : Nat) (h : k < xs.length) (h' : k < ys.length) : decide (xs.drop k = ys.drop k) = (decide (xs[k] = ys[k]) && decide (xs.drop (k + 1) = ys.drop (k + 1))) := by
  rw [List.drop_eq_getElem_cons h, List.drop_eq_getElem_cons h']
  generalize xs[k] = a
  generalize ys[k] = b
  generalize xs.drop (k + 1) = l
  generalize ys.drop (k + 1) = m
  by_cases h1 : a = b <;> by_cases h2 : l = m <;> simp [h1, h2]

attribute [local go_sem ↓] eql_id neq_id
set_option maxRecDepth 100000 in
set_option maxHeartbeats 800000 in
theorem sameIds_any (u v : Value) (xs ys : List Id) (w : World) (hx : Rw w 2 u (idl xs)) (hy : Rw w 2 v (idl ys)) :
    Calls Tryz.prog 15 #[u, v] w fun e w' => e = .returned (.bool (decide (xs = ys))) ∧ Below w.heap.size w w' := by
  obtain ⟨A, n, c, rfl, hl, hn, hc⟩ := hx.form
  obtain ⟨A2, n2, c2, rfl, hl2, hn2, hc2⟩ := hy.form
  rw [idl_len] at hl hl2
  obtain rfl : n = xs.length := by omega
  obtain rfl : n2 = ys.length := by omega
  clear hl hl2
  by_cases hne : xs.length = ys.length
  · have hq : ((xs.length : Int) != ys.length) = false := bne_eq_false_iff_eq.2 (by omega)
    have hd : decide (xs = ys) = decide (xs.drop 0 = ys.drop 0) := by simp
    generalize decide (xs = ys) = r at *
    have HE := Lib.hid hne
    have HD := Lib.hid hd
    clear hne hd
    go_enter Tryz.func15, Tryz.ntmps15
    go_wp2
    go_loopw [5] (fun i wr => ∃ k n : Nat, k ≤ xs.length ∧ i = .int .i64 k ∧ Hid (r = decide (xs.drop k = ys.drop k)) ∧ wr = w.drewN n) (fun i _ => xs.length - (intOf i).toNat)
    case atStart => exact ⟨0, 0, Nat.zero_le _, rfl, HD, rfl⟩
    case round =>
      obtain ⟨k, n, hk, rfl, HR, rfl⟩ := hrel
      by_cases hlt : k < xs.length
      · obtain ⟨b, off, rfl, hcx⟩ := hx.cells (by omega)
        obtain ⟨b2, off2, rfl, hcy⟩ := hy.cells (by have := HE.out; omega)
        have hlt2 : k < ys.length := by have := HE.out; omega
        have h1 := hcx _ _ (idl_fst xs k hlt)
        have h1' := hcx _ _ (idl_snd xs k hlt)
        have h2 := hcy _ _ (idl_fst ys k hlt2)
        have h2' := hcy _ _ (idl_snd ys k hlt2)
        rw [← Nat.add_assoc] at h1' h2'
        clear hcx hcy
        have HS := Lib.hid (dec_ids xs ys k hlt hlt2)
        generalize xs[k] = x at *
        generalize ys[k] = y at *
        by_cases he : x = y
        · have he' := idEq_of he
          have HN : Hid (r = decide (xs.drop (k + 1) = ys.drop (k + 1))) := Lib.hid (by rw [HR.out, HS.out, decide_eq_true he, Bool.true_and])
          clear he
          go_wp2
          go_quiet (fail)
          go_wp2
          go_roundw
          case rel => exact ⟨k + 1, _, by omega, by go_num, HN, rfl⟩
          case measure => simp [intOf]; omega
        · have he' := idEq_not he
          have HN : Hid (r = false) := Lib.hid (by rw [HR.out, HS.out, decide_eq_false he, Bool.false_and])
          clear he
          go_wp2
          go_quiet (fail)
          go_wp2
          go_ret
          exact ⟨rb HN.out.symm, bel_drewN (bel_drewN (Below.refl _ _) _) _⟩
      · have HN : Hid (r = true) := Lib.hid (by rw [HR.out, List.drop_of_length_le (by omega), List.drop_of_length_le (by have := HE.out; omega)]; simp)
        go_wp2
        go_ret
        exact ⟨rb HN.out.symm, bel_drewN (Below.refl _ _) _⟩
  · have hq : ((xs.length : Int) != ys.length) = true := by rw [bne_iff_ne]; omega
    have hd : decide (xs = ys) = false := decide_eq_false (fun h => hne (by rw [h]))
    rw [hd]
    go_enter Tryz.func15, Tryz.ntmps15
    go_wp2
    go_ret
    exact ⟨rfl, Below.refl _ _⟩

abbrev idV (x : Id) : Value := .agg #[.int .i64 x.1, .int .i64 x.2]
theorem mem_step (id : Id) (l : List Id) (k : Nat) (h : k < l.length) : decide (id ∈ l.drop k) = (decide (l[k] = id) || decide (id ∈ l.drop (k + 1))) := by
  have := List.drop_eq_getElem_cons h
  rw [this]
  generalize l[k] = a
  generalize l.drop (k + 1) = m
  by_cases h1 : a = id
  · subst h1
    simp
  · have h3 : ¬ id = a := fun h => h1 h.symm
    by_cases h2 : id ∈ m <;> simp [h1, h2, h3]
set_option maxRecDepth 100000 in
set_option maxHeartbeats 800000 in
theorem hasIds_any (u : Value) (l : List Id) (id : Id) (w : World) (hx : Rw w 2 u (idl l)) :
    Calls Tryz.prog 47 #[u, idV id] w fun e w' => e = .returned (.bool (decide (id ∈ l))) ∧ Below w.heap.size w w' := by
  obtain ⟨A, n, c, rfl, hl, hn, hc⟩ := hx.form
  rw [idl_len] at hl
  obtain rfl : n = l.length := by omega
  clear hl
  have hd : decide (id ∈ l) = decide (id ∈ l.drop 0) := by simp
  generalize decide (id ∈ l) = r at *
  have HD := Lib.hid hd
  clear hd
  go_enter Tryz.func47, Tryz.ntmps47
  go_wp2
  go_loopw [5] (fun i wr => ∃ k n : Nat, k ≤ l.length ∧ i = .int .i64 k ∧ Hid (r = decide (id ∈ l.drop k)) ∧ wr = (w.alloc (.cells #[.int .i64 id.1, .int .i64 id.2] 41)).drewN n) (fun i _ => l.length - (intOf i).toNat)
  case atStart => exact ⟨0, 0, Nat.zero_le _, rfl, HD, rfl⟩
  case round =>
    obtain ⟨k, n, hk, rfl, HR, rfl⟩ := hrel
    by_cases hlt : k < l.length
    · obtain ⟨b, off, rfl, hcx⟩ := hx.cells (by omega)
      have h1 := hcx _ _ (idl_fst l k hlt)
      have h1' := hcx _ _ (idl_snd l k hlt)
      rw [← Nat.add_assoc] at h1'
      have hb := World.block_lt_of_cell? w _ h1
      clear hcx
      have HS := Lib.hid (mem_step id l k hlt)
      generalize l[k] = x at *
      by_cases he : x = id
      · have he' := idEq_of he
        have HN : Hid (r = true) := Lib.hid (by rw [HR.out, HS.out, decide_eq_true he, Bool.true_or])
        clear he
        go_wp2
        go_quiet (fail)
        go_wp2
        go_ret
        exact ⟨rb HN.out.symm, bel_drewN (bel_drewN ((Below.refl _ _).alloc (Nat.le_refl _) _) _) _⟩
      · have he' := idEq_not he
        have HN : Hid (r = decide (id ∈ l.drop (k + 1))) := Lib.hid (by rw [HR.out, HS.out, decide_eq_false he, Bool.false_or])
        clear he
        go_wp2
        go_quiet (fail)
        go_wp2
        go_roundw
        case rel => exact ⟨k + 1, _, by omega, by go_num, HN, rfl⟩
        case measure => simp [intOf]; omega
    · have HN : Hid (r = false) := Lib.hid (by rw [HR.out, List.drop_of_length_le (by omega)]; simp)
      go_wp2
      go_ret
      exact ⟨rb HN.out.symm, bel_drewN ((Below.refl _ _).alloc (Nat.le_refl _) _) _⟩
/-- Does a stand ahead of b? -/
def idLt (a b : Id) : Bool := if a.1 = b.1 then decide (a.2 < b.2) else decide (a.1 < b.1)
theorem below2 (w : World) (o o' : Obj) : Below w.heap.size w ((w.alloc o).alloc o') := ((Below.refl _ _).alloc (Nat.le_refl _) _).alloc (by simp) _
set_option maxRecDepth 100000 in
theorem less_any (a b : Id) (w : World) :
    Calls Tryz.prog 64 #[idV a, idV b] w fun e w' => e = .returned (.bool (idLt a b)) ∧ Below w.heap.size w w' := by
  by_cases h : a.1 = b.1
  · have hr : idLt a b = decide (a.2 < b.2) := if_pos h
    have h1 : (a.1 != b.1) = false := bne_eq_false_iff_eq.2 h
    have HR := Lib.hid hr
    clear hr h
    go_enter Tryz.func64, Tryz.ntmps64
    go_wp2
    go_ret
    exact ⟨rb HR.out.symm, below2 w _ _⟩
  · have hr : idLt a b = decide (a.1 < b.1) := if_neg h
    have h1 : (a.1 != b.1) = true := bne_iff_ne.2 h
    have HR := Lib.hid hr
    clear hr h
    go_enter Tryz.func64, Tryz.ntmps64
    go_wp2
    go_ret
    exact ⟨rb HR.out.symm, below2 w _ _⟩
/-- May an id be? -/
def idOk (a : Id) : Bool := decide (0 ≤ a.1 ∧ a.1 < 8 ∧ 1 ≤ a.2 ∧ a.2 ≤ 1048576)
set_option maxRecDepth 100000 in
theorem right_any (a : Id) (w : World) :
    Calls Tryz.prog 84 #[idV a] w fun e w' => e = .returned (.bool (idOk a)) ∧ Below w.heap.size w w' := by
  by_cases h1 : 0 ≤ a.1
  · by_cases h2 : a.1 < 8
    · by_cases h3 : 1 ≤ a.2
      · have HR := Lib.hid (show idOk a = decide (a.2 ≤ 1048576) by unfold idOk; simp [h1, h2, h3])
        go_enter Tryz.func84, Tryz.ntmps84
        go_wp2
        go_ret
        exact ⟨rb HR.out.symm, (Below.refl _ _).alloc (Nat.le_refl _) _⟩
      · have HR := Lib.hid (show idOk a = false by unfold idOk; simp [h1, h2, h3])
        go_enter Tryz.func84, Tryz.ntmps84
        go_wp2
        go_ret
        exact ⟨rb HR.out.symm, (Below.refl _ _).alloc (Nat.le_refl _) _⟩
    · have HR := Lib.hid (show idOk a = false by unfold idOk; simp [h1, h2])
      go_enter Tryz.func84, Tryz.ntmps84
      go_wp2
      go_ret
      exact ⟨rb HR.out.symm, (Below.refl _ _).alloc (Nat.le_refl _) _⟩
  · have HR := Lib.hid (show idOk a = false by unfold idOk; simp [h1])
    go_enter Tryz.func84, Tryz.ntmps84
    go_wp2
    go_ret
    exact ⟨rb HR.out.symm, (Below.refl _ _).alloc (Nat.le_refl _) _⟩
/-- An id put ahead of the first one that it stands ahead of. -/
def ins (id : Id) : List Id → List Id
  | [] => [id]
  | x :: r => if idLt id x then id :: x :: r else x :: ins id r
theorem ins_len (id : Id) (l : List Id) : (ins id l).length = l.length + 1 := by
  induction l with
  | nil => rfl
  | cons x r ih => unfold ins; split <;> simp [ih]
theorem bcell {W w1 : World} (hb : Below W.heap.size W w1) : (∀ b o, b < W.heap.size → w1.cell? ⟨b, o, none⟩ = W.cell? ⟨b, o, none⟩) ∧ (∀ b o, b < W.heap.size → w1.frozen? ⟨b, o, none⟩ = W.frozen? ⟨b, o, none⟩) :=
  ⟨fun b o h => hb.cell (p := ⟨b, o, none⟩) h, fun b o h => hb.frozen (p := ⟨b, o, none⟩) h⟩
theorem ins_step (id : Id) (l : List Id) (k : Nat) (h : k < l.length) : ins id (l.drop k) = if idLt id l[k] then id :: l.drop k else l[k] :: ins id (l.drop (k + 1)) := by
  have := List.drop_eq_getElem_cons h
  rw [this]
  rfl
set_option maxRecDepth 100000 in
set_option maxHeartbeats 1600000 in
theorem put_new (u : Value) (l : List Id) (id : Id) (w : World) (hx : Rw w 2 u (idl l)) (hno : id ∉ l) (hlen : (l.length + 1) * 16 ≤ 140737488355328) :
    Calls Tryz.prog 55 #[u, idV id] w (ResE (snap w) [] w (fun v => v) (fun v => [Row 41 2 v (idl (ins id l))])) := by
  obtain ⟨A, n, c, rfl, hl, hn, hc⟩ := hx.form
  rw [idl_len] at hl
  obtain rfl : n = l.length := by omega
  clear hl
  have hd : decide (id ∈ l) = false := decide_eq_false hno
  go_enter Tryz.func55, Tryz.ntmps55
  go_wp2_with fail
  have hst := (St.start w).keep (.cells #[.int .i64 id.1, .int .i64 id.2] 41)
  have hle := (St.start w).keep_le (.cells #[.int .i64 id.1, .int .i64 id.2] 41)
  have hb0 : (snap w).put w.heap.size (.cells #[.int .i64 id.1, .int .i64 id.2] 41) w.heap.size = some (.cells #[.int .i64 id.1, .int .i64 id.2] 41) := Hp.put_same _ _ _
  refine (hasIds_any _ l id _ (hx.alloc _)).mono ?_
  rintro e w1 ⟨rfl, hb1⟩
  have hst1 := hst.below hb1
  have en1 : Env w w1 := ((Env.refl w).alloc _).trans (bel_env hb1)
  have hrd := hx.rd.mono hle
  generalize (snap w).put w.heap.size (.cells #[.int .i64 id.1, .int .i64 id.2] 41) = H at *
  have hcell0 : H.cell w.heap.size 0 = some (.int .i64 id.1) := by simp [Hp.cell, hb0]
  have hcell1 : H.cell w.heap.size 1 = some (.int .i64 id.2) := by simp [Hp.cell, hb0]
  generalize w.heap.size = gb at *
  rw [hd]
  go_wp2_with fail
  have hst2 := hst1.row_lit 41 2 0 #[] rfl (by decide)
  have en2 := en1.alloc (.cells #[] 41)
  generalize w1.alloc (.cells #[] 41) = w2 at *
  go_loopw [5, 6, 7] (fun o d i wr => ∃ (k : Nat) (done : Bool) (out : List Id), k ≤ l.length ∧ i = .int .i64 k ∧ d = .bool done ∧ out.length + (if done then 0 else 1) ≤ k + 1 ∧ St H [Row 41 2 o (idl out)] wr ∧ Env w wr ∧ Hid (ins id l = out ++ (if done then l.drop k else ins id (l.drop k)))) (fun _ _ i _ => l.length - (intOf i).toNat)
  case atStart => exact ⟨0, false, [], Nat.zero_le _, rfl, rfl, by simp, hst2, en2, Lib.hid (by simp)⟩
  case round =>
    obtain ⟨k, done, out, hk, rfl, rfl, ho, hst, hen, HI⟩ := hrel
    have b0 := hst.cell hcell0
    have b1 := hst.cell hcell1
    have l0 := World.block_lt_of_cell? _ _ b0
    by_cases hlt : k < l.length
    · have HS := Lib.hid (ins_step id l k hlt)
      have HD := Lib.hid (List.drop_eq_getElem_cons hlt)
      obtain ⟨x, HX⟩ : ∃ x, Hid (x = l[k]) := ⟨_, Lib.hid rfl⟩
      cases done with
      | true =>
        simp only [↓reduceIte] at ho
        have HN : Hid (ins id l = (out ++ [x]) ++ (if true then l.drop (k + 1) else ins id (l.drop (k + 1)))) := Lib.hid (by rw [HI.out, if_pos rfl, if_pos rfl, HD.out, HX.out]; simp)
        clear b0 b1 l0
        obtain ⟨pb, poff, pA, pc⟩ := (hrd.rw hst).cells (by omega)
        cases pA
        have p1 := pc _ _ (idl_fst l k hlt)
        have p2 := pc _ _ (idl_snd l k hlt)
        rw [← Nat.add_assoc] at p2
        rw [← HX.out] at p1 p2
        have pl := World.block_lt_of_cell? _ _ p1
        clear pc
        go_wp2_with fail
        go_quiet (fail)
        have hst' := hst.drewN nq
        have hen' := hen.drewN nq
        clear p1 p2 pl
        generalize wr.drewN nq = w3 at *
        obtain ⟨pb, poff, pA, pc⟩ := (hrd.rw hst').cells (by omega)
        cases pA
        have p1 := pc _ _ (idl_fst l k hlt)
        have p2 := pc _ _ (idl_snd l k hlt)
        rw [← Nat.add_assoc] at p2
        rw [← HX.out] at p1 p2
        have pl := World.block_lt_of_cell? _ _ p1
        clear pc
        go_wp2_with (at_builtin; refine wpList_append rfl (.tmp 33) (.tmp 38) 35 35 rfl Tryz.underlying35 (.inl ⟨_, Tryz.underlying35⟩) (.agg #[.int .i64 0, .int .i64 0]) 16 info_id rfl (by decide) (by decide) rfl rfl (hst'.alloc _) (News.new w3 _ 1 #[.int .i64 x.1, .int .i64 x.2] rfl (by simp [Value.oneCell'])) ?apB4 ?apK4)
        try case apB4 => first | (rw [idl_len]; simp; omega) | (rw [idl_len]; omega)
        intro v' w4 h4 en4
        go_wp2_with fail
        go_roundw
        case rel => exact ⟨k + 1, true, out ++ [x], by omega, by go_num, rfl, by simp; omega, by simpa [idl, idc] using h4, (hen'.alloc _).trans en4, HN⟩
        case measure => simp [intOf]; omega
      | false =>
        simp only [Bool.false_eq_true, ↓reduceIte] at ho
        by_cases hL : idLt id x = true
        · have HN : Hid (ins id l = (out ++ [id] ++ [x]) ++ (if true then l.drop (k + 1) else ins id (l.drop (k + 1)))) := Lib.hid (by rw [HI.out, if_neg (by decide), if_pos rfl, HS.out, ← HX.out, if_pos hL, HD.out, HX.out]; simp)
          obtain ⟨pb, poff, pA, pc⟩ := (hrd.rw hst).cells (by omega)
          cases pA
          have p1 := pc _ _ (idl_fst l k hlt)
          have p2 := pc _ _ (idl_snd l k hlt)
          rw [← Nat.add_assoc] at p2
          rw [← HX.out] at p1 p2
          have pl := World.block_lt_of_cell? _ _ p1
          clear pc
          go_wp2_with fail
          go_still_tail 8, (by kernel_rfl)
          change wpList _ _ _ _ _ wr.drew
          go_wp2_with fail
          refine (less_any id x _).mono ?_
          rintro e w3 ⟨rfl, hb3⟩
          rw [hL]
          have hst3 := hst.drew.below hb3
          have hen3 := hen.drew.trans (bel_env hb3)
          clear b0 b1 l0 p1 p2 pl
          obtain ⟨pb, poff, pA, pc⟩ := (hrd.rw hst3).cells (by omega)
          cases pA
          have p1 := pc _ _ (idl_fst l k hlt)
          have p2 := pc _ _ (idl_snd l k hlt)
          rw [← Nat.add_assoc] at p2
          rw [← HX.out] at p1 p2
          have pl := World.block_lt_of_cell? _ _ p1
          clear pc
          have b0 := hst3.cell hcell0
          have b1 := hst3.cell hcell1
          have l0 := World.block_lt_of_cell? _ _ b0
          go_wp2_with (at_builtin; refine wpList_append rfl (.tmp 29) (.tmp 31) 35 35 rfl Tryz.underlying35 (.inl ⟨_, Tryz.underlying35⟩) (.agg #[.int .i64 0, .int .i64 0]) 16 info_id rfl (by decide) (by decide) rfl rfl (hst3.alloc _) (News.new w3 _ 1 #[.int .i64 id.1, .int .i64 id.2] rfl (by simp [Value.oneCell'])) ?apB8 ?apK8)
          try case apB8 => first | (rw [idl_len]; simp; omega) | (rw [idl_len]; omega)
          intro v' w4 h4 en4
          clear b0 b1 l0 p1 p2 pl
          obtain ⟨pb, poff, pA, pc⟩ := (hrd.rw h4).cells (by omega)
          cases pA
          have p1 := pc _ _ (idl_fst l k hlt)
          have p2 := pc _ _ (idl_snd l k hlt)
          rw [← Nat.add_assoc] at p2
          rw [← HX.out] at p1 p2
          have pl := World.block_lt_of_cell? _ _ p1
          clear pc
          go_wp2_with (at_builtin; refine wpList_append rfl (.tmp 33) (.tmp 38) 35 35 rfl Tryz.underlying35 (.inl ⟨_, Tryz.underlying35⟩) (.agg #[.int .i64 0, .int .i64 0]) 16 info_id rfl (by decide) (by decide) rfl rfl (h4.alloc _) (News.new w4 _ 1 #[.int .i64 x.1, .int .i64 x.2] rfl (by simp [Value.oneCell'])) ?apB10 ?apK10)
          try case apB10 => first | (rw [idl_len]; simp; omega) | (rw [idl_len]; omega)
          intro v2 w5 h5 en5
          go_wp2_with fail
          go_roundw
          case rel => exact ⟨k + 1, true, out ++ [id] ++ [x], by omega, by go_num, rfl, by simp; omega, by simpa [idl, idc] using h5, (((hen3.alloc _).trans en4).alloc _).trans en5, HN⟩
          case measure => simp [intOf]; omega
        · have HN : Hid (ins id l = (out ++ [x]) ++ (if false then l.drop (k + 1) else ins id (l.drop (k + 1)))) := Lib.hid (by rw [HI.out, if_neg (by decide), if_neg (by decide), HS.out, ← HX.out, if_neg hL]; simp)
          have hL := Bool.eq_false_iff.2 hL
          obtain ⟨pb, poff, pA, pc⟩ := (hrd.rw hst).cells (by omega)
          cases pA
          have p1 := pc _ _ (idl_fst l k hlt)
          have p2 := pc _ _ (idl_snd l k hlt)
          rw [← Nat.add_assoc] at p2
          rw [← HX.out] at p1 p2
          have pl := World.block_lt_of_cell? _ _ p1
          clear pc
          go_wp2_with fail
          go_still_tail 8, (by kernel_rfl)
          change wpList _ _ _ _ _ wr.drew
          go_wp2_with fail
          refine (less_any id x _).mono ?_
          rintro e w3 ⟨rfl, hb3⟩
          rw [hL]
          have hst3 := hst.drew.below hb3
          have hen3 := hen.drew.trans (bel_env hb3)
          clear b0 b1 l0 p1 p2 pl
          obtain ⟨pb, poff, pA, pc⟩ := (hrd.rw hst3).cells (by omega)
          cases pA
          have p1 := pc _ _ (idl_fst l k hlt)
          have p2 := pc _ _ (idl_snd l k hlt)
          rw [← Nat.add_assoc] at p2
          rw [← HX.out] at p1 p2
          have pl := World.block_lt_of_cell? _ _ p1
          clear pc
          go_wp2_with (at_builtin; refine wpList_append rfl (.tmp 33) (.tmp 38) 35 35 rfl Tryz.underlying35 (.inl ⟨_, Tryz.underlying35⟩) (.agg #[.int .i64 0, .int .i64 0]) 16 info_id rfl (by decide) (by decide) rfl rfl (hst3.alloc _) (News.new w3 _ 1 #[.int .i64 x.1, .int .i64 x.2] rfl (by simp [Value.oneCell'])) ?apB14 ?apK14)
          try case apB14 => first | (rw [idl_len]; simp; omega) | (rw [idl_len]; omega)
          intro v' w4 h4 en4
          go_wp2_with fail
          go_roundw
          case rel => exact ⟨k + 1, false, out ++ [x], by omega, by go_num, rfl, by simp; omega, by simpa [idl, idc] using h4, (hen3.alloc _).trans en4, HN⟩
          case measure => simp [intOf]; omega
    · obtain rfl : k = l.length := by omega
      cases done with
      | true =>
        have HF : Hid (ins id l = out) := Lib.hid (by rw [HI.out]; simp)
        go_wp2_with fail
        go_ret
        exact ⟨_, rfl, by rw [HF.out]; exact hst.weaken hle, hen⟩
      | false =>
        simp only [Bool.false_eq_true, ↓reduceIte] at ho
        have HF : Hid (ins id l = out ++ [id]) := Lib.hid (by rw [HI.out]; simp [ins])
        go_wp2_with (at_builtin; refine wpList_append rfl (.tmp 42) (.tmp 44) 35 35 rfl Tryz.underlying35 (.inl ⟨_, Tryz.underlying35⟩) (.agg #[.int .i64 0, .int .i64 0]) 16 info_id rfl (by decide) (by decide) rfl rfl (hst.alloc _) (News.new wr _ 1 #[.int .i64 id.1, .int .i64 id.2] rfl (by simp [Value.oneCell'])) ?apB15 ?apK15)
        try case apB15 => first | (rw [idl_len]; simp; omega) | (rw [idl_len]; omega)
        intro v' w4 h4 en4
        go_wp2_with fail
        go_ret
        exact ⟨v', rfl, by rw [HF.out]; simpa [idl, idc] using h4.weaken hle, (hen.alloc _).trans en4⟩
end Go.Proofs.YtcbckeoalmjcoaaGreat

/- Ids compared and sorted by the program: contracts of ident.Compare and ident.Sorted. -/
set_option linter.unusedVariables false
set_option linter.unusedSimpArgs false
namespace Go.Proofs.YtcbckeoalmjcoaaGreat
open Go.RowKit Go.Cw Go.Sort Go.Shelf
attribute [local go_sem ↓] eql_id neq_id

def sortId_ren : Go.Shelf.Ren := ⟨fun | 6 => 46 | 15 => 79 | 14 => 78 | 28 => 101 | 29 => 102 | 20 => 93 | 21 => 94 | 22 => 95 | 23 => 96 | 24 => 97 | 25 => 98 | 26 => 99 | 27 => 100 | 46 => 109 | 47 => 110 | 48 => 111 | 49 => 112 | 50 => 113 | 57 => 119 | n => n, fun | 22 => 35 | 24 => 41 | 25 => 76 | 3 => 3 | 39 => 106 | 0 => 0 | 53 => 126 | 55 => 128 | 4 => 4 | 46 => 119 | 45 => 118 | 50 => 123 | 5 => 5 | 9 => 9 | 66 => 134 | 70 => 138 | 76 => 143 | 77 => 144 | n => n, fun | n => n⟩
theorem sortId : Go.Proofs.SlLaysF0.n6 Tryz.prog sortId_ren := {
  mixed := by kernel_rfl
  f6 := ⟨Tryz.f46.name, by decide, Tryz.func46.trans (congrArg some (by kernel_rfl))⟩
  f14 := ⟨Tryz.f78.name, by decide, Tryz.func78.trans (congrArg some (by kernel_rfl))⟩
  f15 := Tryz.func79.trans (congrArg some (by kernel_rfl))
  f20 := ⟨Tryz.f93.name, by decide, Tryz.func93.trans (congrArg some (by kernel_rfl))⟩
  f21 := ⟨Tryz.f94.name, by decide, Tryz.func94.trans (congrArg some (by kernel_rfl))⟩
  f22 := ⟨Tryz.f95.name, by decide, Tryz.func95.trans (congrArg some (by kernel_rfl))⟩
  f23 := ⟨Tryz.f96.name, by decide, Tryz.func96.trans (congrArg some (by kernel_rfl))⟩
  f24 := ⟨Tryz.f97.name, by decide, Tryz.func97.trans (congrArg some (by kernel_rfl))⟩
  f25 := ⟨Tryz.f98.name, by decide, Tryz.func98.trans (congrArg some (by kernel_rfl))⟩
  f26 := ⟨Tryz.f99.name, by decide, Tryz.func99.trans (congrArg some (by kernel_rfl))⟩
  f27 := ⟨Tryz.f100.name, by decide, Tryz.func100.trans (congrArg some (by kernel_rfl))⟩
  f28 := Tryz.func101.trans (congrArg some (by kernel_rfl))
  f29 := Tryz.func102.trans (congrArg some (by kernel_rfl))
  f46 := ⟨Tryz.f109.name, by decide, Tryz.func109.trans (congrArg some (by kernel_rfl))⟩
  f47 := Tryz.func110.trans (congrArg some (by kernel_rfl))
  f48 := Tryz.func111.trans (congrArg some (by kernel_rfl))
  f49 := ⟨Tryz.f112.name, by decide, Tryz.func112.trans (congrArg some (by kernel_rfl))⟩
  f50 := ⟨Tryz.f113.name, by decide, Tryz.func113.trans (congrArg some (by kernel_rfl))⟩
  f57 := ⟨Tryz.f119.name, by decide, Tryz.func119.trans (congrArg some (by kernel_rfl))⟩
  t0 := Tryz.underlying0
  a0 := Tryz.isAgg0
  z0 := Tryz.sizeOf0
  v0 := Tryz.zeroValue0
  t3 := Tryz.underlying3
  a3 := Tryz.isAgg3
  z3 := Tryz.sizeOf3
  v3 := Tryz.zeroValue3
  t4 := Tryz.underlying4
  a4 := Tryz.isAgg4
  z4 := Tryz.sizeOf4
  v4 := Tryz.zeroValue4
  t5 := Tryz.underlying5
  a5 := Tryz.isAgg5
  z5 := Tryz.sizeOf5
  v5 := Tryz.zeroValue5
  t9 := Tryz.underlying9
  a9 := Tryz.isAgg9
  z9 := Tryz.sizeOf9
  v9 := Tryz.zeroValue9
  t22 := Tryz.underlying35
  a22 := Tryz.isAgg35
  z22 := Tryz.sizeOf35
  v22 := Tryz.zeroValue35
  t25 := Tryz.underlying76
  a25 := Tryz.isAgg76
  z25 := Tryz.sizeOf76
  v25 := Tryz.zeroValue76
  t39 := Tryz.underlying106
  a39 := Tryz.isAgg106
  z39 := Tryz.sizeOf106
  v39 := Tryz.zeroValue106
  t45 := Tryz.underlying118
  a45 := Tryz.isAgg118
  z45 := Tryz.sizeOf118
  v45 := Tryz.zeroValue118
  t46 := Tryz.underlying119
  a46 := Tryz.isAgg119
  z46 := Tryz.sizeOf119
  v46 := Tryz.zeroValue119
  t50 := Tryz.underlying123
  a50 := Tryz.isAgg123
  z50 := Tryz.sizeOf123
  v50 := Tryz.zeroValue123
  t53 := Tryz.underlying126
  a53 := Tryz.isAgg126
  z53 := Tryz.sizeOf126
  v53 := Tryz.zeroValue126
  t55 := Tryz.underlying128
  a55 := Tryz.isAgg128
  z55 := Tryz.sizeOf128
  v55 := Tryz.zeroValue128
  t66 := Tryz.underlying134
  a66 := Tryz.isAgg134
  z66 := Tryz.sizeOf134
  v66 := Tryz.zeroValue134
  t70 := Tryz.underlying138
  a70 := Tryz.isAgg138
  z70 := Tryz.sizeOf138
  v70 := Tryz.zeroValue138
  t76 := Tryz.underlying143
  a76 := Tryz.isAgg143
  z76 := Tryz.sizeOf143
  v76 := Tryz.zeroValue143
  t77 := Tryz.underlying144
  a77 := Tryz.isAgg144
  z77 := Tryz.sizeOf144
  v77 := Tryz.zeroValue144 }

/-- How two numbers stand. -/
def cmpInt (x y : Int) : Int := if x < y then -1 else if y < x then 1 else 0
set_option maxRecDepth 100000 in
theorem isNaN_any (x : Int) (w : World) : Calls Tryz.prog 108 #[.int .i64 x] w fun e w' => e = .returned (.bool false) ∧ w = w' := by
  go_enter Tryz.func108, Tryz.ntmps108
  go_wp2
  go_ret
  exact ⟨by simp, rfl⟩
set_option maxRecDepth 100000 in
theorem cmpInt_any (x y : Int) (w : World) : Calls Tryz.prog 92 #[.int .i64 x, .int .i64 y] w fun e w' => e = .returned (.int .i64 (cmpInt x y)) ∧ w = w' := by
  go_enter Tryz.func92, Tryz.ntmps92
  go_wp2_with (go_at_call 108; refine (isNaN_any _ _).mono ?_; rintro e w' ⟨rfl, rfl⟩)
  all_goals (go_ret; refine ⟨?_, rfl⟩; unfold cmpInt; (repeat' split) <;> first | rfl | (exfalso; omega))
theorem cmpInt_still (x y : Int) (w : World) : Calls Tryz.prog 92 #[.int .i64 x, .int .i64 y] w fun e w' => e = .returned (.int .i64 (cmpInt x y)) ∧ w' = w := (cmpInt_any x y w).mono fun _ _ h => ⟨h.1, h.2.symm⟩
/-- The first number that is not zero. -/
def orInt (x y : Int) : Int := if x ≠ 0 then x else y
set_option maxRecDepth 100000 in
set_option maxHeartbeats 800000 in
theorem or_any (x y : Int) (b : Nat) (w : World) (h0 : w.cell? ⟨b, 0, none⟩ = some (.int .i64 x)) (h1 : w.cell? ⟨b, 1, none⟩ = some (.int .i64 y)) :
    Calls Tryz.prog 91 #[.slice (some ⟨b, 0, none⟩) 2 2] w fun e w' => e = .returned (.int .i64 (orInt x y)) ∧ ∃ q, w' = w.drewN q := by
  have bl := World.block_lt_of_cell? _ _ h0
  go_enter Tryz.func91, Tryz.ntmps91
  go_wp2_with fail
  go_loopw [8] (fun i wr => ∃ k : Nat, k ≤ 2 ∧ i = .int .i64 k ∧ Hid ((1 ≤ k → x = 0) ∧ (2 ≤ k → y = 0)) ∧ wr = w) (fun i _ => 2 - (intOf i).toNat)
  case atStart => exact ⟨0, by omega, rfl, Lib.hid ⟨by omega, by omega⟩, rfl⟩
  case round =>
    obtain ⟨k, hk, rfl, HI, rfl⟩ := hrel
    have hk3 : k = 0 ∨ k = 1 ∨ k = 2 := by omega
    rcases hk3 with rfl | rfl | rfl
    · by_cases hx : x = 0
      · have hx' : (x != 0) = false := bne_eq_false_iff_eq.2 hx
        have hx2 := Lib.hid hx
        clear hx
        go_wp2_with fail
        go_roundw
        case rel => exact ⟨1, by omega, by go_num, Lib.hid ⟨fun _ => hx2.out, by omega⟩, by first | rfl | trivial⟩
        case measure => simp [intOf]
      · have hx' : (x != 0) = true := bne_iff_ne.2 hx
        have hN : Hid (orInt x y = x) := Lib.hid (if_pos hx)
        go_wp2_with fail
        go_ret
        exact ⟨congrArg (fun x => Ending.returned (Value.int .i64 x)) hN.out.symm, 0, rfl⟩
    · have hx := HI.out.1 (by omega)
      by_cases hy : y = 0
      · have hy' : (y != 0) = false := bne_eq_false_iff_eq.2 hy
        have hx2 := Lib.hid (And.intro hx hy)
        clear hx hy
        go_wp2_with fail
        go_roundw
        case rel => exact ⟨2, by omega, by go_num, Lib.hid ⟨fun _ => hx2.out.1, fun _ => hx2.out.2⟩, by first | rfl | trivial⟩
        case measure => simp [intOf]
      · have hy' : (y != 0) = true := bne_iff_ne.2 hy
        have hN : Hid (orInt x y = y) := Lib.hid (if_neg (fun h => h hx))
        clear hx
        go_wp2_with fail
        go_ret
        exact ⟨congrArg (fun x => Ending.returned (Value.int .i64 x)) hN.out.symm, 0, rfl⟩
    · have hN : Hid (orInt x y = 0) := Lib.hid ((if_neg (fun h => h (HI.out.1 (by omega)))).trans (HI.out.2 (by omega)))
      go_wp2_with fail
      go_ret
      exact ⟨congrArg (fun x => Ending.returned (Value.int .i64 x)) hN.out.symm, 0, rfl⟩
def cmpId (a b : Id) : Int := orInt (cmpInt a.1 b.1) (cmpInt a.2 b.2)
theorem cmpId_eq (a b : Id) (h : idEq a.1 a.2 b.1 b.2 = true) : cmpId a b = 0 := by
  unfold idEq at h
  simp only [Bool.and_eq_true, beq_iff_eq] at h
  unfold cmpId orInt cmpInt
  simp [h.1, h.2]
set_option maxRecDepth 100000 in
set_option maxHeartbeats 800000 in
theorem compare_any (a b : Id) (w : World) :
    Calls Tryz.prog 76 #[idV a, idV b] w fun e w' => e = .returned (.int .i64 (cmpId a b)) ∧ ∃ q os', w' = grow (w.drewN q) os' := by
  by_cases hab : idEq a.1 a.2 b.1 b.2 = true
  · have hN := Lib.hid (cmpId_eq a b hab)
    go_enter Tryz.func76, Tryz.ntmps76
    go_wp2_with fail
    go_ret
    exact ⟨congrArg (fun x => Ending.returned (Value.int .i64 x)) hN.out.symm, 0, _, by rw [alloc_eq_grow, alloc_eq_grow, grow_grow]; rfl⟩
  · have hab := Bool.eq_false_iff.2 hab
    obtain ⟨W, hW⟩ : ∃ W, W = (w.alloc (.cells #[.int .i64 a.1, .int .i64 a.2] 41)).alloc (.cells #[.int .i64 b.1, .int .i64 b.2] 41) := ⟨_, rfl⟩
    have hg : W = grow w #[.cells #[.int .i64 a.1, .int .i64 a.2] 41, .cells #[.int .i64 b.1, .int .i64 b.2] 41] := by rw [hW, alloc_eq_grow, alloc_eq_grow, grow_grow]; rfl
    have hh0 : W.heap[w.heap.size]? = some (.cells #[.int .i64 a.1, .int .i64 a.2] 41) := by rw [hg]; simp [grow]
    have hh1 : W.heap[w.heap.size + 1]? = some (.cells #[.int .i64 b.1, .int .i64 b.2] 41) := by rw [hg]; simp [grow]
    have a0 : W.cell? ⟨w.heap.size, 0, none⟩ = some (.int .i64 a.1) := by simp [World.cell?, hh0]
    have a1 : W.cell? ⟨w.heap.size, 1, none⟩ = some (.int .i64 a.2) := by simp [World.cell?, hh0]
    have b0 : W.cell? ⟨w.heap.size + 1, 0, none⟩ = some (.int .i64 b.1) := by simp [World.cell?, hh1]
    have b1 : W.cell? ⟨w.heap.size + 1, 1, none⟩ = some (.int .i64 b.2) := by simp [World.cell?, hh1]
    have hsz : W.heap.size = w.heap.size + 2 := by rw [hg]; simp
    replace hg := Lib.hid hg
    clear hh0 hh1
    go_enter Tryz.func76, Tryz.ntmps76
    go_wp2_with fail
    rw [← hW]
    clear hW
    have hsz0 : w.heap.size < W.heap.size := by omega
    have hsz1 : w.heap.size + 1 < W.heap.size := by omega
    go_still_tail 10, (by kernel_rfl)
    still_call (cmpInt_still _ _ _)
    repeat still_step
    still_call (cmpInt_still _ _ _)
    refine wpStill_nil ?_
    change wpList _ _ _ _ _ (World.drew _)
    go_wp2_with fail
    have hv : (W.alloc (.cells #[.int .i64 (cmpInt a.1 b.1), .int .i64 (cmpInt a.2 b.2)] 3)).drew.heap[w.heap.size + 2]? = some (.cells #[.int .i64 (cmpInt a.1 b.1), .int .i64 (cmpInt a.2 b.2)] 3) := by
      rw [← hsz]
      exact heap_alloc_new W _
    refine (or_any (cmpInt a.1 b.1) (cmpInt a.2 b.2) _ _ (by simp [World.cell?, hv]) (by simp [World.cell?, hv])).mono ?_
    rintro e w3 ⟨rfl, q, rfl⟩
    go_wp2_with fail
    go_ret
    refine ⟨rfl, 1 + q, #[.cells #[.int .i64 a.1, .int .i64 a.2] 41, .cells #[.int .i64 b.1, .int .i64 b.2] 41] ++ #[.cells #[.int .i64 (cmpInt a.1 b.1), .int .i64 (cmpInt a.2 b.2)] 3], ?_⟩
    have hg := hg.out
    subst hg
    simp [grow, World.drewN, World.drew, World.alloc, Nat.add_assoc]
theorem cmpLays_id (blk off size : Nat) (w : World) : CmpLays Tryz.prog 76 #[] idc 2 cmpId blk off size w := fun _ _ _ _ x y => compare_any x y _
theorem ltOf_id (x y : Id) : ltOf cmpId x y = idLt x y := by
  unfold ltOf cmpId orInt cmpInt idLt
  by_cases h1 : x.1 = y.1
  · rw [if_pos h1]
    by_cases h2 : x.2 < y.2
    · simp [h1, h2]
    · by_cases h3 : y.2 < x.2 <;> simp [h1, h2, h3]
  · rw [if_neg h1]
    by_cases h2 : x.1 < y.1
    · simp [h2]
    · have h3 : y.1 < x.1 := by omega
      simp [h2, h3]
theorem idLt_iff (x y : Id) : idLt x y = true ↔ (x.1 < y.1 ∨ (x.1 = y.1 ∧ x.2 < y.2)) := by
  unfold idLt
  split
  · rename_i h; simp [h]
  · rename_i h; simp [h]
theorem idLt_no (x y : Id) : idLt x y = false ↔ ¬ (x.1 < y.1 ∨ (x.1 = y.1 ∧ x.2 < y.2)) := by rw [← idLt_iff]; simp
theorem swo_id : SWO (ltOf cmpId) where
  irrefl x := by rw [ltOf_id, idLt_no]; omega
  trans x y z h1 h2 := by rw [ltOf_id, idLt_iff] at *; omega
  ntrans x y z h1 h2 := by rw [ltOf_id, idLt_no] at *; omega
theorem total_id (x y : Id) (h1 : ltOf cmpId x y = false) (h2 : ltOf cmpId y x = false) : x = y := by
  rw [ltOf_id, idLt_no] at *
  exact Prod.ext (by omega) (by omega)
theorem flatK_eq {α : Type} [Inhabited α] (enc : α → List Value) (k : Nat) (h0 : 0 < k) (hk : ∀ x, (enc x).length = k) (l : List α) : flatK enc k l.toArray = (l.flatMap enc).toArray := by
  refine ext_get! (by simp [flat_len enc k hk]) (fun t ht => ?_)
  have ht' : t < l.length * k := by simpa using ht
  rw [get_flatK enc k _ t (by simpa using ht')]
  have hi : t / k < l.length := Nat.div_lt_of_lt_mul (by rw [Nat.mul_comm]; exact ht')
  have hr : t % k < k := Nat.mod_lt _ h0
  have := flat_get enc k hk l (t / k) (t % k) hi hr
  have e1 : t / k * k + t % k = t := Nat.div_add_mod' t k
  rw [e1] at this
  have e2 : l.toArray[t / k]! = l[t / k] := by simp [hi]
  rw [e2]
  simp only [List.getElem!_toArray, List.getElem!_eq_getElem?_getD, this]
theorem row_sort {H : Hp} {fr : List HA} {w : World} {e : TypeId} {g off n c : Nat} {l : List Id} (h : St H (Row e 2 (.slice (some ⟨g, off, none⟩) n c) (idl l) :: fr) w) (l' : List Id) (hl : l'.length = l.length) (m : Nat) (os : Array Obj) :
    St H (Row e 2 (.slice (some ⟨g, off, none⟩) n c) (idl l') :: fr) (sortWorldK idc 2 w g off m l'.toArray os) ∧ Env w (sortWorldK idc 2 w g off m l'.toArray os) := by
  have hsz : (sortWorldK idc 2 w g off m l'.toArray os).heap.size = w.heap.size + os.size := by simp [sortWorldK, putRowK, Sort.ahead]
  have hold : ∀ k, k < w.heap.size → (sortWorldK idc 2 w g off m l'.toArray os).heap[k]? = (w.heap.modify g (onCells (putCells id off (flatK idc 2 l'.toArray))))[k]? := fun k hk =>
    heap_grow_old _ os (by simpa [putRowK, Sort.ahead] using hk)
  refine ⟨h.turn (by omega) (fun S hS => ⟨S, ?_, fun k hk => .inl hk, fun k hk hn => ?_⟩), ⟨rfl, rfl, rfl, by omega⟩⟩
  · rcases hS with ⟨hv, _⟩ | ⟨g', off', n', cap, cur, hv, hlen, hc, hM, hh, hs, hj, hS⟩
    · cases hv
    · cases hv
      have hlt := (Array.getElem?_eq_some_iff.1 hh).1
      refine .inr ⟨g, off, n, c, putCells id off (flatK idc 2 l'.toArray) cur, rfl, by rw [idl_len] at hlen ⊢; omega, hc, hM, ?_, by unfold putCells; simpa using hs, fun j u hu => ?_, hS⟩
      · rw [hold g hlt, Array.getElem?_modify]
        simp [hh, onCells]
      · have hjl : j < (idl l').length := (List.getElem?_eq_some_iff.1 hu).1
        have hF : flatK idc 2 l'.toArray = (idl l').toArray := flatK_eq idc 2 (by omega) (fun _ => rfl) l'
        have hfs : (flatK idc 2 l'.toArray).size = (idl l').length := by rw [hF]; simp
        have hcs : off + j < cur.size := by
          rw [idl_len] at hlen hjl
          omega
        unfold putCells
        rw [Array.getElem?_mapIdx, Array.getElem?_eq_getElem hcs]
        simp only [Option.map_some]
        rw [if_pos ⟨Nat.le_add_right _ _, by omega⟩, hF]
        simp only [Nat.add_sub_cancel_left, id, List.getElem!_toArray, List.getElem!_eq_getElem?_getD, hu, Option.getD_some]
  · have hne : k ≠ g := fun e' => by
      rcases hS with ⟨hv, _⟩ | ⟨g', off', n', cap, cur, hv, hlen, hc, hM, hh, hs, hj, hS⟩
      · cases hv
      · cases hv
        exact hn ((hS k).2 e')
    rw [hold k hk, Array.getElem?_modify, if_neg (fun e' => hne e'.symm)]
/-- No two neighbours are one. -/
def Apart (l : List Id) : Prop := ∀ (k : Nat) (h : k + 1 < l.length), l[k + 1] ≠ l[k]
theorem apart_nodup {l : List Id} (h : l.Nodup) : Apart l := fun k hk he => (List.pairwise_iff_getElem.1 h k (k + 1) (by omega) hk (by omega)) he.symm
theorem idEq_no {a b : Id} (h : a ≠ b) : idEq a.1 a.2 b.1 b.2 = false := by
  unfold idEq
  rw [Bool.and_eq_false_iff]
  by_cases h1 : a.1 = b.1
  · right; exact beq_eq_false_iff_ne.2 (fun h2 => h (Prod.ext h1 h2))
  · left; exact beq_eq_false_iff_ne.2 h1
set_option maxRecDepth 100000 in
set_option maxHeartbeats 800000 in
theorem compact_apart (v : Value) (l : List Id) (w : World) (hx : Rw w 2 v (idl l)) (hap : Apart l) :
    Calls Tryz.prog 77 #[v] w fun e w' => e = .returned v ∧ Below w.heap.size w w' := by
  obtain ⟨A, n, c, rfl, hl, hn, hc⟩ := hx.form
  rw [idl_len] at hl
  obtain rfl : n = l.length := by omega
  clear hl
  rcases Nat.lt_or_ge l.length 2 with h2 | h2
  · have h2' : (l.length : Int) < 2 := by omega
    go_enter Tryz.func77, Tryz.ntmps77
    go_wp2_with fail
    go_ret
    exact ⟨rfl, Below.refl _ _⟩
  · have h2' : ¬ (l.length : Int) < 2 := by omega
    obtain ⟨b, off, rfl, hcx⟩ := hx.cells (by omega)
    go_enter Tryz.func77, Tryz.ntmps77
    go_wp2_with fail
    go_loopw [3] (fun i wr => ∃ k : Nat, 1 ≤ k ∧ k ≤ l.length ∧ i = .int .i64 k ∧ Below w.heap.size w wr) (fun i _ => l.length - (intOf i).toNat)
    case atStart => exact ⟨1, by omega, by omega, by go_num, Below.refl _ _⟩
    case round =>
      obtain ⟨k, hk1, hk, rfl, hb⟩ := hrel
      by_cases hlt : k < l.length
      · obtain ⟨m, rfl⟩ : ∃ m, k = m + 1 := ⟨k - 1, by omega⟩
        have hne := Lib.hid (idEq_no (hap m hlt))
        obtain ⟨b', off', hA, hcr⟩ := (hx.below hb).cells (by omega)
        cases hA
        have p1 := hcr _ _ (idl_fst l (m + 1) hlt)
        have p2 := hcr _ _ (idl_snd l (m + 1) hlt)
        have q1 := hcr _ _ (idl_fst l m (by omega))
        have q2 := hcr _ _ (idl_snd l m (by omega))
        rw [← Nat.add_assoc] at p2 q2
        obtain ⟨x, HX⟩ : ∃ x, Hid (x = l[m + 1]) := ⟨_, Lib.hid rfl⟩
        obtain ⟨y, HY⟩ : ∃ y, Hid (y = l[m]) := ⟨_, Lib.hid rfl⟩
        rw [← HX.out] at p1 p2
        rw [← HY.out] at q1 q2
        have hne' : idEq x.1 x.2 y.1 y.2 = false := by rw [HX.out, HY.out]; exact hne.out
        clear hcr hcx
        go_wp2_with fail
        go_quiet (fail)
        go_wp2_with fail
        go_roundw
        case rel => exact ⟨m + 1 + 1, by omega, by omega, by go_num, bel_drewN hb _⟩
        case measure => simp [intOf]; omega
      · go_wp2_with fail
        go_ret
        exact ⟨rfl, hb⟩
theorem below_self (w : World) (n : Nat) : Below w.heap.size w (w.drewN n) := bel_drewN (Below.refl _ _) n
/-- Ids in order. -/
def idSort (l : List Id) : List Id := l.mergeSort fun x y => !(ltOf cmpId) y x
theorem idSort_len (l : List Id) : (idSort l).length = l.length := by simp [idSort]
theorem holds_row {H : Hp} {fr : List HA} {w : World} {e : TypeId} {g off n c : Nat} {l : List Id} (h : St H (Row e 2 (.slice (some ⟨g, off, none⟩) n c) (idl l) :: fr) w) (hn : 0 < n) : HoldsK idc 2 w g off l.toArray ∧ g < w.heap.size := by
  obtain ⟨b, o, hA, hb, h1, h2⟩ := h.row_cells hn (by omega)
  cases hA
  refine ⟨fun j hj => ⟨?_, h2 j⟩, hb⟩
  rw [flatK_eq idc 2 (by omega) (fun _ => rfl) l] at hj ⊢
  have hj' : j < (idl l).length := by simpa [idl] using hj
  have := h1 j _ (List.getElem?_eq_getElem hj')
  rw [this]
  have e2 : (List.flatMap idc l).toArray[j]! = (idl l)[j] := by
    simp only [List.getElem!_toArray, List.getElem!_eq_getElem?_getD]
    rw [show List.flatMap idc l = idl l from rfl, List.getElem?_eq_getElem hj']
    rfl
  rw [e2]
  rfl
set_option maxRecDepth 100000 in
set_option maxHeartbeats 1600000 in
theorem identSorted_nodup (u : Value) (l : List Id) (w : World) (hx : Rw w 2 u (idl l)) (hnd : l.Nodup) (hlen : l.length * 16 ≤ 140737488355328) :
    Calls Tryz.prog 43 #[u] w (ResE (snap w) [] w (fun v => v) (fun v => [Row 41 2 v (idl (idSort l))])) := by
  obtain ⟨A, n, c, rfl, hl, hn, hc⟩ := hx.form
  rw [idl_len] at hl
  obtain rfl : n = l.length := by omega
  clear hl
  have eg : ∀ args w, (callFunc 76 args).run Tryz.prog w = .ok (.enter 76 args) w := enters_of Tryz.func76 (by kernel_rfl) rfl
  have h1 := (St.start w).row_lit 41 2 0 #[] rfl (by decide)
  go_enter Tryz.func43, Tryz.ntmps43
  go_wp2_with (at_builtin; refine wpList_append rfl (.tmp 4) (.tmp 5) 35 35 rfl Tryz.underlying35 (.inl ⟨_, Tryz.underlying35⟩) (.agg #[.int .i64 0, .int .i64 0]) 16 info_id rfl (by decide) (by decide) rfl rfl h1 (News.rw (hx.alloc _) (idl_one l)) ?apB ?apK)
  case apB => rw [idl_len]; omega
  intro v' w2 h2 en2
  obtain ⟨A', n', c', rfl, hl', hn', hc'⟩ := h2.row_form
  rw [idl_len] at hl'
  obtain rfl : n' = l.length := by omega
  have en2' := ((Env.refl w).alloc (.cells #[] 41)).trans en2
  rcases Nat.eq_zero_or_pos l.length with h0 | h0
  · have hl0 : l = [] := List.length_eq_zero_iff.1 h0
    subst hl0
    have hcon := AnyF.slices_SortFunc_none { sortId with } A' c' (.func (.func 76) #[] #[]) w2
    change Calls Tryz.prog 46 _ _ _ at hcon
    go_wp2_with fail
    refine hcon.mono ?_
    rintro e w3 ⟨rfl, rfl⟩
    go_wp2_with fail
    refine (compact_apart _ [] _ (h2.row_rw (by omega)) (fun k h => by simp at h)).mono ?_
    rintro e w4 ⟨rfl, hb4⟩
    go_wp2_with fail
    go_ret
    have e0 : idSort [] = [] := by simp [idSort]
    exact ⟨_, rfl, by rw [e0]; exact h2.below hb4, en2'.trans (bel_env hb4)⟩
  · obtain ⟨b, off, hA, _⟩ := h2.row_cells h0 (by omega)
    cases hA
    obtain ⟨hH, hlt⟩ := holds_row h2 h0
    have hcon := AnyQ.slices_SortFunc_total sortId 2 Tryz.isAgg41 Tryz.sizeOf41 idc (fun _ => rfl) (fun x v hv => by simp [idc] at hv; rcases hv with rfl | rfl <;> rfl) cmpId swo_id 76 #[] b off c' l.toArray w2 eg (cmpLays_id b off l.toArray.size w2) hH hlt (by simp; omega) total_id
    change Calls Tryz.prog 46 _ _ _ at hcon
    have hap : Apart (idSort l) := apart_nodup ((List.mergeSort_perm l _).nodup_iff.2 hnd)
    clear eg hH
    go_wp2_with fail
    refine hcon.mono ?_
    rintro e w3 ⟨rfl, m, os, rfl⟩
    have hs := row_sort h2 (idSort l) (idSort_len l) m os
    change St _ _ (sortWorldK idc 2 w2 b off m (l.toArray.toList.mergeSort fun x y => !(ltOf cmpId) y x).toArray os) ∧ Env w2 (sortWorldK idc 2 w2 b off m (l.toArray.toList.mergeSort fun x y => !(ltOf cmpId) y x).toArray os) at hs
    obtain ⟨h3, en3⟩ := hs
    generalize sortWorldK idc 2 w2 b off m (l.toArray.toList.mergeSort fun x y => !(ltOf cmpId) y x).toArray os = W at *
    go_wp2_with fail
    refine (compact_apart _ _ _ (h3.row_rw (by omega)) hap).mono ?_
    rintro e w4 ⟨rfl, hb4⟩
    go_wp2_with fail
    go_ret
    exact ⟨_, rfl, h3.below hb4, (en2'.trans en3).trans (bel_env hb4)⟩
end Go.Proofs.YtcbckeoalmjcoaaGreat
