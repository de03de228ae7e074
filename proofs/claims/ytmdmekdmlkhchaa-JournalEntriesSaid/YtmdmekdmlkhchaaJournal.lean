/- A journal in memory: what is put into it, what it tells. -/
import Derived.Test.YtmdmekdmlkhchaaWire7
import Derived.Test.YtmdmekdmlkhchaaMapEntry
import Derived.Deep.RegionLaw
import Derived.Laws.ResultCell
import Derived.Laws.Rows
set_option linter.unusedVariables false
set_option linter.unusedSimpArgs false
namespace Go.Proofs.Ytmdmekdmlkhchaa
open Go.RowKit Go.Cw Go.Jn
abbrev JEnt := Int × Int × Value × List Int
def jec (x : JEnt) : List Value := [.int .i64 x.1, .int .i64 x.2.1, x.2.2.1]
def jecs (l : List JEnt) : List Value := l.flatMap jec
theorem jecs_len (l : List JEnt) : (jecs l).length = l.length * 3 := flat_len jec 3 (fun _ => rfl) l
theorem jecs_get (l : List JEnt) (k : Nat) (h : k < l.length) : (jecs l)[k * 3]? = some (.int .i64 l[k].1) ∧ (jecs l)[k * 3 + 1]? = some (.int .i64 l[k].2.1) ∧ (jecs l)[k * 3 + 2]? = some l[k].2.2.1 := by
  have := fun i hi => flat_get jec 3 (fun _ => rfl) l k i h hi
  exact ⟨this 0 (by omega), this 1 (by omega), this 2 (by omega)⟩
theorem jecs_snoc (l : List JEnt) (m : JEnt) : jecs (l ++ [m]) = jecs l ++ [.int .i64 m.1, .int .i64 m.2.1, m.2.2.1] := by simp [jecs, jec]
/-- The entry without its memory. -/
def ent (x : JEnt) : Ent := (x.1, x.2.1, x.2.2.2)
def ents (l : List JEnt) : List Ent := l.map ent
/-- The entries' bytes are known for good. -/
def EGood (H : Hp) (l : List JEnt) : Prop := ∀ x ∈ l, Rd H 1 x.2.2.1 (u8s x.2.2.2) ∧ Fit (ent x)
theorem EGood.mono {H H' : Hp} {l : List JEnt} (h : EGood H l) (hl : Hp.le H H') : EGood H' l := fun m hm => ⟨(h m hm).1.mono hl, (h m hm).2⟩
theorem EGood.snoc {H : Hp} {l : List JEnt} {x : JEnt} (h : EGood H l) (hx : Rd H 1 x.2.2.1 (u8s x.2.2.2) ∧ Fit (ent x)) : EGood H (l ++ [x]) := by
  intro y hy
  rcases List.mem_append.1 hy with hy | hy
  · exact h y hy
  · rw [List.mem_singleton.1 hy]; exact hx
theorem EGood.good {H : Hp} {l : List JEnt} (h : EGood H l) : ∀ x ∈ ents l, Fit x := by
  intro x hx
  obtain ⟨y, hy, rfl⟩ := List.mem_map.1 hx
  exact (h y hy).2
def JA (p : Nat) (l : List JEnt) : HA := Ex fun v => Star (Blk p #[v] 146) (Row 140 3 v (jecs l))
theorem jOpen {H : Hp} {fr : List HA} {w : World} {p : Nat} {l : List JEnt} (h : St H (JA p l :: fr) w) :
    ∃ A c, St H (Blk p #[.slice A l.length c] 146 :: Row 140 3 (.slice A l.length c) (jecs l) :: fr) w ∧ l.length ≤ c ∧ c ≤ 9223372036854775807 := by
  obtain ⟨v, h1⟩ := h.openEx
  have h2 := h1.openStar
  obtain ⟨A, n, c, rfl, hl, hn, hc⟩ := h2.swap.row_form
  rw [jecs_len] at hl
  obtain rfl : n = l.length := by omega
  exact ⟨A, c, h2, hn, by simpa [maxLen] using hc⟩
theorem jShut {H : Hp} {fr : List HA} {w : World} {p : Nat} {l : List JEnt} {v : Value} (h : St H (Blk p #[v] 146 :: Row 140 3 v (jecs l) :: fr) w) : St H (JA p l :: fr) w := St.shutEx v h.shutStar
theorem jKeep {H : Hp} {g : Nat} {cs : Array Value} {t : TypeId} {l : List HA} {w : World} (h : St H (Blk g cs t :: l) w) : ∃ H', Hp.le H H' ∧ St H' l w ∧ ∀ i u, cs[i]? = some u → H'.cell g i = some u := by
  obtain ⟨h1, h2⟩ := h.blk_keep
  exact ⟨_, Hp.le_put h2, h1, fun i u hu => by
    have := Hp.put_same H g (.cells cs t)
    simp [Hp.cell, this, hu]⟩
theorem jBoxAt {H : Hp} {l : List HA} {w : World} (h : St H l w) (cs : Array Value) (t : TypeId) (g : Nat) (hg : w.heap.size = g) : ∃ H', Hp.le H H' ∧ St H' l (w.alloc (.cells cs t)) ∧ ∀ i u, cs[i]? = some u → H'.cell g i = some u := by subst hg; exact h.box cs t
abbrev jP (p : Nat) : Value := .pointer (some ⟨p, 0, none⟩)
set_option maxRecDepth 100000 in
theorem jNew (w : World) : Calls Try.prog 43 #[] w fun e w' => ∃ p, e = .returned (jP p) ∧ St (snap w) [JA p []] w' ∧ Env w w' := by
  have h3 := (St.start w).blk #[.slice none 0 0] 146
  have h4 := jShut (l := []) ((h3.row_nil 140 3).swap)
  have en := (Env.refl w).alloc (.cells #[.slice none 0 0] 146)
  clear h3
  go_enter Try.func43, Try.ntmps43
  go_wp2_with fail
  go_ret
  exact ⟨w.heap.size, rfl, h4, en⟩
set_option maxRecDepth 100000 in
theorem jLen_nil (w : World) : Calls Try.prog 41 #[.pointer none] w fun e w' => e = .returned (.int .i64 0) ∧ w = w' := by
  go_enter Try.func41, Try.ntmps41
  go_wp2_with fail
  go_ret
  exact ⟨rfl, rfl⟩
set_option maxRecDepth 100000 in
theorem jLen (p : Nat) (l : List JEnt) (H : Hp) (fr : List HA) (w : World) (h : St H (JA p l :: fr) w) : Calls Try.prog 41 #[jP p] w fun e w' => e = .returned (.int .i64 (l.length : Int)) ∧ w = w' := by
  obtain ⟨A, c, h1, hn, hc⟩ := jOpen h
  have c1 : w.cell? ⟨p, 0, none⟩ = some (.slice A l.length c) := h1.blk_cell 0
  have cl := h1.blk_lt
  go_enter Try.func41, Try.ntmps41
  go_wp2_with fail
  go_ret
  exact ⟨rfl, rfl⟩
theorem belBoxJ (w : World) (o : Obj) : Below w.heap.size w (w.alloc o) := (Below.refl _ _).alloc (Nat.le_refl _) _
set_option maxRecDepth 100000 in
theorem jPut_nil (k n : Int) (bv : Value) (w : World) : Calls Try.prog 104 #[.pointer none, .agg #[.int .i64 k, .int .i64 n, bv]] w fun e w' => e = .returned (.int .i64 2) ∧ Below w.heap.size w w' := by
  have hb := belBoxJ w (.cells #[.int .i64 k, .int .i64 n, bv] 140)
  go_enter Try.func104, Try.ntmps104
  go_wp2_with fail
  go_ret
  exact ⟨rfl, hb⟩
set_option maxRecDepth 100000 in
set_option maxHeartbeats 800000 in
theorem jPut_long (p : Nat) (n : Int) (A : Option Addr) (m c : Nat) (hm : (4096 : Int) < (m : Int)) (w : World) : Calls Try.prog 104 #[jP p, .agg #[.int .i64 1, .int .i64 n, .slice A m c]] w fun e w' => e = .returned (.int .i64 18) ∧ Below w.heap.size w w' := by
  have hb := belBoxJ w (.cells #[.int .i64 1, .int .i64 n, .slice A m c] 140)
  go_enter Try.func104, Try.ntmps104
  go_wp2_with fail
  go_ret
  exact ⟨rfl, hb⟩
set_option maxRecDepth 100000 in
set_option maxHeartbeats 800000 in
theorem jPut_arg (p : Nat) (n : Int) (A : Option Addr) (m c : Nat) (hn : n < 0 ∨ 4096 < n) (w : World) : Calls Try.prog 104 #[jP p, .agg #[.int .i64 2, .int .i64 n, .slice A m c]] w fun e w' => e = .returned (.int .i64 1) ∧ Below w.heap.size w w' := by
  have hb := belBoxJ w (.cells #[.int .i64 2, .int .i64 n, .slice A m c] 140)
  rcases hn with hn | hn
  · go_enter Try.func104, Try.ntmps104
    go_wp2_with fail
    go_ret
    exact ⟨rfl, hb⟩
  · have h0 : ¬ n < 0 := by omega
    go_enter Try.func104, Try.ntmps104
    go_wp2_with fail
    go_ret
    exact ⟨rfl, hb⟩
theorem info_ent : (Try.prog.info? 140).map (fun i => (i.zero, i.size, i.bytes)) = some (some (.agg #[.int .i64 0, .int .i64 0, .slice none 0 0]), 3, 40) := by kernel_rfl
theorem News.entAt {H : Hp} {l : List HA} {w : World} (hst : St H l w) (g : Nat) (f t : Int) (A : Option Addr) (n c : Nat) (h0 : H.cell g 0 = some (.int .i64 f)) (h1 : H.cell g 1 = some (.int .i64 t)) (h2 : H.cell g 2 = some (.slice A n c)) : News Try.prog w 3 (.slice (some ⟨g, 0, none⟩) 1 1) 1 [.int .i64 f, .int .i64 t, .slice A n c] :=
  News.slice rfl (fun _ => ⟨_, rfl, fun j u hj => by
    rw [add_lit]
    match j with
    | 0 => simp at hj; subst hj; exact hst.cell h0
    | 1 => simp at hj; subst hj; exact hst.cell h1
    | 2 => simp at hj; subst hj; exact hst.cell h2
    | j + 3 => simp at hj⟩) (by simp [Value.oneCell'])
/-- Kind and number may be put. -/
def Kn (k n : Int) (m : Nat) : Prop := (k = 1 ∧ m ≤ 4096) ∨ (k = 2 ∧ 0 ≤ n ∧ n ≤ 4096) ∨ (k = 3)
set_option maxRecDepth 100000 in
set_option maxHeartbeats 3200000 in
theorem jPut_ok (p : Nat) (l : List JEnt) (k n : Int) (A' : Option Addr) (m c' : Nat) (xs : List Int) (hk : Kn k n m) (hl : l.length < 65536) (hx : xs.length ≤ 4200) (H : Hp) (fr : List HA) (w : World) (h : St H (JA p l :: fr) w) (hr : Rw w 1 (.slice A' m c') (u8s xs)) :
    Calls Try.prog 104 #[jP p, .agg #[.int .i64 k, .int .i64 n, .slice A' m c']] w fun e w' => e = .returned (.int .i64 0) ∧ Env w w' ∧ ∃ v, St H (Row 5 1 v (u8s xs) :: JA p (l ++ [(k, n, v, xs)]) :: fr) w' := by
  have hlx : xs.length = m := by
    obtain ⟨A, n', c, hv, hl', _⟩ := hr.form
    cases hv
    rw [u8s_len] at hl'
    omega
  subst hlx
  have h0 := h.blk #[.int .i64 k, .int .i64 n, .slice A' xs.length c'] 140
  have en0 := (Env.refl w).alloc (.cells #[.int .i64 k, .int .i64 n, .slice A' xs.length c'] 140)
  have hr0 := hr.alloc (.cells #[.int .i64 k, .int .i64 n, .slice A' xs.length c'] 140)
  obtain ⟨A, c, h1, hn, hc⟩ := jOpen h0.swap
  have c0 := h1.blk_cell 0
  have cl := h1.blk_lt
  have h2 := h1.row_lit 5 1 0 #[] rfl (by decide)
  rw [show (w.alloc (.cells #[.int .i64 k, .int .i64 n, .slice A' xs.length c'] 140)).heap.size = w.heap.size + 1 by simp] at h2
  have hml : (u8s xs).length ≤ 140737488355328 := by rw [u8s_len]; omega
  generalize xs.length = m at *
  have hl' : ¬ (65536 : Int) ≤ (l.length : Int) := by omega
  replace hl := Lib.hid hl
  rcases hk with ⟨rfl, hm⟩ | ⟨rfl, hn0, hn1⟩ | rfl
  · have hm' : ¬ (4096 : Int) < (m : Int) := by omega
    go_enter Try.func104, Try.ntmps104
    go_wp2_with (at_builtin; refine wpList_append rfl (.tmp 39) (.tmp 41) 57 57 rfl Try.underlying57 (.inl ⟨_, Try.underlying57⟩) (.int .u8 0) 1 wU8 rfl (by decide) (by decide) rfl rfl (h2) (News.rw (hr0.alloc _) (u8s_one xs)) ?apB1 ?apK1)
    try case apB1 => first | omega | (simp; omega) | (simp [u8s_len]; omega) | skip
    intro v' w4 h4 en4
    clear h2 c0 cl
    obtain ⟨vA, vn, vc, rfl, _⟩ := h4.row_form
    have k4 := h4.pick 3 (by simp)
    have b0 := k4.blk_cell 0
    have b1 := k4.blk_cell 1
    have b2 := k4.blk_cell 2
    have bf2 := k4.blk_free 2
    have bl := k4.blk_lt
    have k5 := k4.blk_set 2 (.slice vA vn vc)
    change St H (Blk w.heap.size #[.int .i64 1, .int .i64 n, .slice vA vn vc] 140 :: _) _ at k5
    have en5 := ((en0.alloc (.cells #[] 5)).trans en4).setCell ⟨w.heap.size, 2, none⟩ (.slice vA vn vc)
    clear k4 h4 h1 h0 hr0 en0 en4
    go_wp2_with fail
    clear b0 b1 b2 bf2 bl
    obtain ⟨H6, l6, h6, y6⟩ := jKeep k5
    generalize w4.setCell ⟨w.heap.size, 2, none⟩ (.slice vA vn vc) = W at *
    generalize w.heap.size = g at *
    have x0 := h6.cell (y6 0 _ rfl)
    have x1 := h6.cell (y6 1 _ rfl)
    have x2 := h6.cell (y6 2 _ rfl)
    have xl := World.block_lt_of_cell? _ _ x0
    have q := h6.pick 1 (by simp)
    have c0 := q.blk_cell 0
    have cf := q.blk_free 0
    have cl := q.blk_lt
    obtain ⟨H7, l7, h7, y7⟩ := (h6.drew).box #[.int .i64 1, .int .i64 n, .slice vA vn vc] 140
    obtain ⟨v', w8, hrun, h8, en8⟩ := St.append_run (h7.pick 2 (by simp)) 144 144 144 (.agg #[.int .i64 0, .int .i64 0, .slice none 0 0]) 40 Try.underlying144 (.inl ⟨_, Try.underlying144⟩) info_ent rfl (by decide) (News.entAt h7 _ 1 n vA vn vc (y7 0 _ rfl) (y7 1 _ rfl) (y7 2 _ rfl)) (by rw [jecs_len]; have := hl.out; simp; omega) (by decide)
    obtain ⟨vB, vm, vd, rfl, _⟩ := h8.row_form
    have c8 := (h8.pick 2 (by simp)).blk_cell 0
    have cf8 := (h8.pick 2 (by simp)).blk_free 0
    have cl8 := (h8.pick 2 (by simp)).blk_lt
    clear y6 y7 h7 k5 q
    go_region_law (rw [if_pos (by rfl)]; (with_reducible refine oper_append_at (.tmp 48) (.tmp 50) 144 144 144 hrun ?_ ?_ ?_ ?_ ?_); rfl; rfl; rfl; rfl)
    all_goals
      have h9 := (h8.pick 2 (by simp)).blk_set 0 (.slice vB vm vd)
      have en9 := ((en5.drew.alloc (.cells #[.int .i64 1, .int .i64 n, .slice vA vn vc] 140)).trans en8).setCell ⟨p, 0, none⟩ (.slice vB vm vd)
      have h10 : St H7 (JA p (l ++ [(1, n, .slice vA vn vc, xs)]) :: Row 5 1 (.slice vA vn vc) (u8s xs) :: fr) _ := jShut (by rw [jecs_snoc]; exact h9)
      have h11 := (h10.swap.weaken l7).weaken l6
      clear h10 h9 h8 h6 hrun c8 cf8 cl8 x0 x1 x2 xl c0 cf cl
      go_wp2_with fail
      go_ret
      exact ⟨rfl, en9, _, h11⟩
  · have hn0' : ¬ n < 0 := by omega
    have hn1' : ¬ (4096 : Int) < n := by omega
    go_enter Try.func104, Try.ntmps104
    go_wp2_with (at_builtin; refine wpList_append rfl (.tmp 39) (.tmp 41) 57 57 rfl Try.underlying57 (.inl ⟨_, Try.underlying57⟩) (.int .u8 0) 1 wU8 rfl (by decide) (by decide) rfl rfl (h2) (News.rw (hr0.alloc _) (u8s_one xs)) ?apB2 ?apK2)
    try case apB2 => first | omega | (simp; omega) | (simp [u8s_len]; omega) | skip
    intro v' w4 h4 en4
    clear h2 c0 cl
    obtain ⟨vA, vn, vc, rfl, _⟩ := h4.row_form
    have k4 := h4.pick 3 (by simp)
    have b0 := k4.blk_cell 0
    have b1 := k4.blk_cell 1
    have b2 := k4.blk_cell 2
    have bf2 := k4.blk_free 2
    have bl := k4.blk_lt
    have k5 := k4.blk_set 2 (.slice vA vn vc)
    change St H (Blk w.heap.size #[.int .i64 2, .int .i64 n, .slice vA vn vc] 140 :: _) _ at k5
    have en5 := ((en0.alloc (.cells #[] 5)).trans en4).setCell ⟨w.heap.size, 2, none⟩ (.slice vA vn vc)
    clear k4 h4 h1 h0 hr0 en0 en4
    go_wp2_with fail
    clear b0 b1 b2 bf2 bl
    obtain ⟨H6, l6, h6, y6⟩ := jKeep k5
    generalize w4.setCell ⟨w.heap.size, 2, none⟩ (.slice vA vn vc) = W at *
    generalize w.heap.size = g at *
    have x0 := h6.cell (y6 0 _ rfl)
    have x1 := h6.cell (y6 1 _ rfl)
    have x2 := h6.cell (y6 2 _ rfl)
    have xl := World.block_lt_of_cell? _ _ x0
    have q := h6.pick 1 (by simp)
    have c0 := q.blk_cell 0
    have cf := q.blk_free 0
    have cl := q.blk_lt
    obtain ⟨H7, l7, h7, y7⟩ := (h6.drew).box #[.int .i64 2, .int .i64 n, .slice vA vn vc] 140
    obtain ⟨v', w8, hrun, h8, en8⟩ := St.append_run (h7.pick 2 (by simp)) 144 144 144 (.agg #[.int .i64 0, .int .i64 0, .slice none 0 0]) 40 Try.underlying144 (.inl ⟨_, Try.underlying144⟩) info_ent rfl (by decide) (News.entAt h7 _ 2 n vA vn vc (y7 0 _ rfl) (y7 1 _ rfl) (y7 2 _ rfl)) (by rw [jecs_len]; have := hl.out; simp; omega) (by decide)
    obtain ⟨vB, vm, vd, rfl, _⟩ := h8.row_form
    have c8 := (h8.pick 2 (by simp)).blk_cell 0
    have cf8 := (h8.pick 2 (by simp)).blk_free 0
    have cl8 := (h8.pick 2 (by simp)).blk_lt
    clear y6 y7 h7 k5 q
    go_region_law (rw [if_pos (by rfl)]; (with_reducible refine oper_append_at (.tmp 48) (.tmp 50) 144 144 144 hrun ?_ ?_ ?_ ?_ ?_); rfl; rfl; rfl; rfl)
    all_goals
      have h9 := (h8.pick 2 (by simp)).blk_set 0 (.slice vB vm vd)
      have en9 := ((en5.drew.alloc (.cells #[.int .i64 2, .int .i64 n, .slice vA vn vc] 140)).trans en8).setCell ⟨p, 0, none⟩ (.slice vB vm vd)
      have h10 : St H7 (JA p (l ++ [(2, n, .slice vA vn vc, xs)]) :: Row 5 1 (.slice vA vn vc) (u8s xs) :: fr) _ := jShut (by rw [jecs_snoc]; exact h9)
      have h11 := (h10.swap.weaken l7).weaken l6
      clear h10 h9 h8 h6 hrun c8 cf8 cl8 x0 x1 x2 xl c0 cf cl
      go_wp2_with fail
      go_ret
      exact ⟨rfl, en9, _, h11⟩
  · skip
    go_enter Try.func104, Try.ntmps104
    go_wp2_with (at_builtin; refine wpList_append rfl (.tmp 39) (.tmp 41) 57 57 rfl Try.underlying57 (.inl ⟨_, Try.underlying57⟩) (.int .u8 0) 1 wU8 rfl (by decide) (by decide) rfl rfl (h2) (News.rw (hr0.alloc _) (u8s_one xs)) ?apB3 ?apK3)
    try case apB3 => first | omega | (simp; omega) | (simp [u8s_len]; omega) | skip
    intro v' w4 h4 en4
    clear h2 c0 cl
    obtain ⟨vA, vn, vc, rfl, _⟩ := h4.row_form
    have k4 := h4.pick 3 (by simp)
    have b0 := k4.blk_cell 0
    have b1 := k4.blk_cell 1
    have b2 := k4.blk_cell 2
    have bf2 := k4.blk_free 2
    have bl := k4.blk_lt
    have k5 := k4.blk_set 2 (.slice vA vn vc)
    change St H (Blk w.heap.size #[.int .i64 3, .int .i64 n, .slice vA vn vc] 140 :: _) _ at k5
    have en5 := ((en0.alloc (.cells #[] 5)).trans en4).setCell ⟨w.heap.size, 2, none⟩ (.slice vA vn vc)
    clear k4 h4 h1 h0 hr0 en0 en4
    go_wp2_with fail
    clear b0 b1 b2 bf2 bl
    obtain ⟨H6, l6, h6, y6⟩ := jKeep k5
    generalize w4.setCell ⟨w.heap.size, 2, none⟩ (.slice vA vn vc) = W at *
    generalize w.heap.size = g at *
    have x0 := h6.cell (y6 0 _ rfl)
    have x1 := h6.cell (y6 1 _ rfl)
    have x2 := h6.cell (y6 2 _ rfl)
    have xl := World.block_lt_of_cell? _ _ x0
    have q := h6.pick 1 (by simp)
    have c0 := q.blk_cell 0
    have cf := q.blk_free 0
    have cl := q.blk_lt
    obtain ⟨H7, l7, h7, y7⟩ := (h6.drew).box #[.int .i64 3, .int .i64 n, .slice vA vn vc] 140
    obtain ⟨v', w8, hrun, h8, en8⟩ := St.append_run (h7.pick 2 (by simp)) 144 144 144 (.agg #[.int .i64 0, .int .i64 0, .slice none 0 0]) 40 Try.underlying144 (.inl ⟨_, Try.underlying144⟩) info_ent rfl (by decide) (News.entAt h7 _ 3 n vA vn vc (y7 0 _ rfl) (y7 1 _ rfl) (y7 2 _ rfl)) (by rw [jecs_len]; have := hl.out; simp; omega) (by decide)
    obtain ⟨vB, vm, vd, rfl, _⟩ := h8.row_form
    have c8 := (h8.pick 2 (by simp)).blk_cell 0
    have cf8 := (h8.pick 2 (by simp)).blk_free 0
    have cl8 := (h8.pick 2 (by simp)).blk_lt
    clear y6 y7 h7 k5 q
    go_region_law (rw [if_pos (by rfl)]; (with_reducible refine oper_append_at (.tmp 48) (.tmp 50) 144 144 144 hrun ?_ ?_ ?_ ?_ ?_); rfl; rfl; rfl; rfl)
    all_goals
      have h9 := (h8.pick 2 (by simp)).blk_set 0 (.slice vB vm vd)
      have en9 := ((en5.drew.alloc (.cells #[.int .i64 3, .int .i64 n, .slice vA vn vc] 140)).trans en8).setCell ⟨p, 0, none⟩ (.slice vB vm vd)
      have h10 : St H7 (JA p (l ++ [(3, n, .slice vA vn vc, xs)]) :: Row 5 1 (.slice vA vn vc) (u8s xs) :: fr) _ := jShut (by rw [jecs_snoc]; exact h9)
      have h11 := (h10.swap.weaken l7).weaken l6
      clear h10 h9 h8 h6 hrun c8 cf8 cl8 x0 x1 x2 xl c0 cf cl
      go_wp2_with fail
      go_ret
      exact ⟨rfl, en9, _, h11⟩
end Go.Proofs.Ytmdmekdmlkhchaa
