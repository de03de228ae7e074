/- An entry is read. -/
import Derived.Test.YtmdmekdmlkhchaaJournal3
set_option linter.unusedVariables false
set_option linter.unusedSimpArgs false
namespace Go.Proofs.Ytmdmekdmlkhchaa
open Go.RowKit Go.Cw Go.Jn
theorem res_cell_tmpJ {P : Program} {fn : Func} {p u : Tmp} {ty : TypeId} (h : fn.results = #[.cell p ty, .tmp u]) (tmps : Array Value) (w : World) (g : Nat) (t : TypeId) (cs : Array Value) (fr : Nat × Nat) (d : TypeDesc)
    (hp : tmps.getD p undef = .pointer (some ⟨g, 0, none⟩)) (hg : w.heap[g]? = some (.cells cs t fr))
    (hu : P.underlying ty = some d) (hd : (match d with | .struct _ | .array _ _ => true | _ => false) = true) (hi : (P.info? ty).map (·.size) = some cs.size) (v : Value) (hv : tmps.getD u undef = v) :
    (results fn tmps).run P w = .ok (.tuple #[.agg cs, v]) w := by
  rw [results_cell_tmp h]
  have hp' : tmps[p]?.getD undef = .pointer (some ⟨g, 0, none⟩) := by simpa using hp
  have hv' : tmps[u]?.getD undef = v := by simpa using hv
  simp [hp', hv', asAddr, run_loadVar_row w g t ty cs fr d hg hu hd hi, Result.andThen]
theorem entSize : (Try.prog.info? 140).map (·.size) = some 3 := by kernel_rfl
theorem twoBlk (w : World) (cs ds : Array Value) (T : TypeId) : St (snap w) [Blk w.heap.size cs T] ((w.alloc (.cells cs T)).alloc (.cells ds T)) ∧ Below w.heap.size w ((w.alloc (.cells cs T)).alloc (.cells ds T)) := by
  have h := ((St.start w).blk cs T).alloc (.cells ds T)
  exact ⟨h, h.toBelow (((Env.refl w).alloc _).alloc _)⟩
/-- An entry that was read: its value, its bytes in memory. -/
def ReadR (s : Value) (xs : List Int) (w : World) (x : Int × Ent) (e : Ending) (w' : World) : Prop := ∃ v, e = .returned (.tuple #[.agg #[.int .i64 x.2.1, .int .i64 x.2.2.1, v], .int .i64 x.1]) ∧ Below w.heap.size w w' ∧ (∃ A n c, v = .slice A n c) ∧ ∀ W : World, Rw W 1 s (u8s xs) → Rw W 1 v (u8s x.2.2.2)
set_option maxRecDepth 100000 in
set_option maxHeartbeats 1600000 in
theorem read_any (A : Option Addr) (n c : Nat) (xs : List Int) (hb : Byt xs) (w : World) (hx : Rw w 1 (.slice A n c) (u8s xs)) :
    Calls Try.prog 129 #[.slice A n c] w (ReadR (.slice A n c) xs w (readF xs)) := by
  obtain ⟨A', n', c', hv, hl, hnc, hcM⟩ := hx.form
  cases hv
  rw [u8s_len, Nat.mul_one] at hl
  subst hl
  have h1 := (St.start w).blk #[.int .i64 0, .int .i64 0, .slice none 0 0] 140
  have en1 := (Env.refl w).alloc (.cells #[.int .i64 0, .int .i64 0, .slice none 0 0] 140)
  have hs1 : (w.alloc (.cells #[.int .i64 0, .int .i64 0, .slice none 0 0] 140)).heap.size = w.heap.size + 1 := by simp
  cases xs with
  | nil =>
    have hr : readF [] = (3, entNo) := rfl
    rw [hr]
    go_enter Try.func129, Try.ntmps129
    go_wp2_with fail
    refine bodyPost_ret (res_cell_tmpJ rfl _ _ w.heap.size 140 _ (0, 0) _ rfl h1.blk_heap Try.underlying140 rfl entSize _ rfl) rfl ?_
    exact ⟨.slice none 0 0, rfl, h1.toBelow en1, ⟨_, _, _, rfl⟩, fun W _ => Rw.nil W _⟩
  | cons k rest =>
    obtain ⟨b, off, rfl, hc⟩ := hx.cells (by simp)
    have q0 := hc 0 (.int .u8 k) rfl
    have hk := hb k (List.mem_cons_self ..)
    have hbr : Byt rest := fun x hx => hb x (List.mem_cons_of_mem _ hx)
    clear hc
    have hL : (k :: rest).length = rest.length + 1 := rfl
    rw [hL] at hx hnc ⊢
    by_cases hc1 : c = 1
    · subst hc1
      obtain rfl : rest = [] := List.eq_nil_of_length_eq_zero (by omega)
      have hr' : ∀ w : World, Rw w 1 (.slice (some ⟨b, off, none⟩) 0 0) (u8s []) := fun w => ⟨_, _, _, rfl, by simp [u8s], by omega, by simp [maxLen], fun h => absurd h (by omega)⟩
      clear hx
      rw [Nat.add_zero] at q0
      have bl := World.block_lt_of_cell? _ _ q0
      obtain ⟨hk0, hk1⟩ := hk
      by_cases k1 : k = 1
      · subst k1
        have hrf : readF [1] = (0, 1, 0, []) := rfl
        rw [hrf]
        go_enter Try.func129, Try.ntmps129
        go_wp2_with fail
        refine bodyPost_ret (res_cell_tmpJ rfl _ _ w.heap.size 140 _ (0, 0) _ rfl (twoBlk w #[_, _, _] _ _).1.blk_heap Try.underlying140 rfl entSize _ rfl) rfl ?_
        exact ⟨_, rfl, (twoBlk w _ _ _).2, ⟨_, _, _, rfl⟩, fun W _ => hr' W⟩
      · by_cases k2 : k = 2
        · subst k2
          have hrf : readF [2] = (3, entNo) := rfl
          rw [hrf]
          have hget := get_any _ _ _ [] hbr _ (hr' ((w.alloc (.cells #[.int .i64 0, .int .i64 0, .slice none 0 0] 140)).alloc (.cells #[.int .i64 2, .int .i64 0, .slice none 0 0] 140)))
          rw [show getF 0 0 [] = (0, 0, 4) from rfl] at hget
          simp only at hget
          go_enter Try.func129, Try.ntmps129
          go_wp2_with fail
          refine hget.mono ?_
          rintro e w1 ⟨rfl, rfl⟩
          go_wp2_with fail
          refine bodyPost_ret (res_cell_tmpJ rfl _ _ w.heap.size 140 _ (0, 0) _ rfl (twoBlk w #[_, _, _] _ _).1.blk_heap Try.underlying140 rfl entSize _ rfl) rfl ?_
          exact ⟨_, rfl, (twoBlk w _ _ _).2, ⟨_, _, _, rfl⟩, fun W _ => Rw.nil W _⟩
        · by_cases k3 : k = 3
          · subst k3
            have hrf : readF [3] = (0, 3, 0, []) := rfl
            rw [hrf]
            go_enter Try.func129, Try.ntmps129
            go_wp2_with fail
            refine bodyPost_ret (res_cell_tmpJ rfl _ _ w.heap.size 140 _ (0, 0) _ rfl (twoBlk w #[_, _, _] _ _).1.blk_heap Try.underlying140 rfl entSize _ rfl) rfl ?_
            exact ⟨_, rfl, (twoBlk w _ _ _).2, ⟨_, _, _, rfl⟩, fun W _ => Rw.nil W _⟩
          · have hrf : readF [k] = (3, entNo) := by simp only [readF, if_neg k1, if_neg k2, if_neg k3]
            rw [hrf]
            have b1 : (k == 1) = false := beq_eq_false_iff_ne.2 k1
            have b2 : (k == 2) = false := beq_eq_false_iff_ne.2 k2
            have b3 : (k == 3) = false := beq_eq_false_iff_ne.2 k3
            clear k1 k2 k3
            go_enter Try.func129, Try.ntmps129
            go_wp2_with fail
            refine bodyPost_ret (res_cell_tmpJ rfl _ _ w.heap.size 140 _ (0, 0) _ rfl (twoBlk w #[_, _, _] _ _).1.blk_heap Try.underlying140 rfl entSize _ rfl) rfl ?_
            exact ⟨_, rfl, (twoBlk w _ _ _).2, ⟨_, _, _, rfl⟩, fun W _ => Rw.nil W _⟩
    · have hR : ∀ W : World, Rw W 1 (.slice (some ⟨b, off, none⟩) (rest.length + 1) c) (u8s (k :: rest)) → Rw W 1 (.slice (some ⟨b, off + 1, none⟩) rest.length (c - 1)) (u8s rest) := fun W hW => by
        have hr := hW.from 1 (by omega) ⟨b, off + 1, none⟩ (c - 1) (fun _ => rfl) (by omega) (by omega)
        simpa [u8s] using hr
      have hr' := hR w hx
      replace hR := hR
      clear hx
      rw [Nat.add_zero] at q0
      have bl := World.block_lt_of_cell? _ _ q0
      have z0 : (((rest.length : Int) + 1) == 0) = false := beq_eq_false_iff_ne.2 (by omega)
      obtain ⟨hk0, hk1⟩ := hk
      have h1c : (1 : Int) ≤ (c : Int) := by omega
      by_cases k1 : k = 1
      · subst k1
        have hrf : readF (1 :: rest) = (0, 1, 0, rest) := rfl
        rw [hrf]
        go_enter Try.func129, Try.ntmps129
        go_wp2_with fail
        refine bodyPost_ret (res_cell_tmpJ rfl _ _ w.heap.size 140 _ (0, 0) _ rfl (twoBlk w #[_, _, _] _ _).1.blk_heap Try.underlying140 rfl entSize _ rfl) rfl ?_
        exact ⟨_, rfl, (twoBlk w _ _ _).2, ⟨_, _, _, rfl⟩, hR⟩
      · by_cases k2 : k = 2
        · subst k2
          obtain ⟨N, K, E, hG⟩ : ∃ N K E, getF 0 0 rest = (N, K, E) := ⟨_, _, _, rfl⟩
          have hrf : readF (2 :: rest) = if E ≠ 0 ∨ K ≠ rest.length then (3, entNo) else (0, 2, (min N 1099511627776 : Nat), []) := by simp only [readF, hG]; rfl
          rw [hrf]
          have hget := get_any _ _ _ rest hbr _ (hr'.below (twoBlk w #[.int .i64 0, .int .i64 0, .slice none 0 0] #[.int .i64 2, .int .i64 0, .slice none 0 0] 140).2)
          rw [hG] at hget
          simp only at hget
          clear hrf hG
          by_cases hE : E = 0
          · subst hE
            by_cases hK : K = rest.length
            · rw [if_neg (by simp [hK])]
              have bK : ((K : Int) != (rest.length : Int)) = false := by rw [bne_eq_false_iff_eq]; omega
              replace hK := Lib.hid hK
              by_cases hN : 1099511627776 < N
              · rw [show min N 1099511627776 = 1099511627776 by omega]
                have hN1 : (1099511627776 : Int) < (N : Int) := by omega
                go_enter Try.func129, Try.ntmps129
                go_wp2_with fail
                refine hget.mono ?_
                rintro e w1 ⟨rfl, rfl⟩
                go_wp2_with fail
                refine bodyPost_ret (res_cell_tmpJ rfl _ _ w.heap.size 140 _ (0, 0) _ rfl (twoBlk w #[_, _, _] _ _).1.blk_heap Try.underlying140 rfl entSize _ rfl) rfl ?_
                exact ⟨_, rfl, (twoBlk w _ _ _).2, ⟨_, _, _, rfl⟩, fun W _ => Rw.nil W _⟩
              · rw [show min N 1099511627776 = N by omega]
                have hN1 : ¬ (1099511627776 : Int) < (N : Int) := by omega
                go_enter Try.func129, Try.ntmps129
                go_wp2_with fail
                refine hget.mono ?_
                rintro e w1 ⟨rfl, rfl⟩
                go_wp2_with fail
                refine bodyPost_ret (res_cell_tmpJ rfl _ _ w.heap.size 140 _ (0, 0) _ rfl (twoBlk w #[_, _, _] _ _).1.blk_heap Try.underlying140 rfl entSize _ rfl) rfl ?_
                exact ⟨_, rfl, (twoBlk w _ _ _).2, ⟨_, _, _, rfl⟩, fun W _ => Rw.nil W _⟩
            · rw [if_pos (.inr hK)]
              have bK : ((K : Int) != (rest.length : Int)) = true := by rw [bne_iff_ne]; omega
              replace hK := Lib.hid hK
              go_enter Try.func129, Try.ntmps129
              go_wp2_with fail
              refine hget.mono ?_
              rintro e w1 ⟨rfl, rfl⟩
              go_wp2_with fail
              refine bodyPost_ret (res_cell_tmpJ rfl _ _ w.heap.size 140 _ (0, 0) _ rfl (twoBlk w #[_, _, _] _ _).1.blk_heap Try.underlying140 rfl entSize _ rfl) rfl ?_
              exact ⟨_, rfl, (twoBlk w _ _ _).2, ⟨_, _, _, rfl⟩, fun W _ => Rw.nil W _⟩
          · rw [if_pos (.inl hE)]
            have bE : (E != 0) = true := by simpa using hE
            replace hE := Lib.hid hE
            go_enter Try.func129, Try.ntmps129
            go_wp2_with fail
            refine hget.mono ?_
            rintro e w1 ⟨rfl, rfl⟩
            go_wp2_with fail
            refine bodyPost_ret (res_cell_tmpJ rfl _ _ w.heap.size 140 _ (0, 0) _ rfl (twoBlk w #[_, _, _] _ _).1.blk_heap Try.underlying140 rfl entSize _ rfl) rfl ?_
            exact ⟨_, rfl, (twoBlk w _ _ _).2, ⟨_, _, _, rfl⟩, fun W _ => Rw.nil W _⟩
        · by_cases k3 : k = 3
          · subst k3
            cases rest with
            | nil =>
              have hrf : readF [3] = (0, 3, 0, []) := rfl
              rw [hrf]
              go_enter Try.func129, Try.ntmps129
              go_wp2_with fail
              refine bodyPost_ret (res_cell_tmpJ rfl _ _ w.heap.size 140 _ (0, 0) _ rfl (twoBlk w #[_, _, _] _ _).1.blk_heap Try.underlying140 rfl entSize _ rfl) rfl ?_
              exact ⟨_, rfl, (twoBlk w _ _ _).2, ⟨_, _, _, rfl⟩, fun W _ => Rw.nil W _⟩
            | cons a r =>
              have hrf : readF (3 :: a :: r) = (3, entNo) := rfl
              rw [hrf]
              have hp : (0 : Int) < ((a :: r).length : Int) := by simp only [List.length_cons]; omega
              generalize (a :: r).length = L at *
              go_enter Try.func129, Try.ntmps129
              go_wp2_with fail
              refine bodyPost_ret (res_cell_tmpJ rfl _ _ w.heap.size 140 _ (0, 0) _ rfl (twoBlk w #[_, _, _] _ _).1.blk_heap Try.underlying140 rfl entSize _ rfl) rfl ?_
              exact ⟨_, rfl, (twoBlk w _ _ _).2, ⟨_, _, _, rfl⟩, fun W _ => Rw.nil W _⟩
          · have hrf : readF (k :: rest) = (3, entNo) := by simp only [readF, if_neg k1, if_neg k2, if_neg k3]
            rw [hrf]
            have b1 : (k == 1) = false := beq_eq_false_iff_ne.2 k1
            have b2 : (k == 2) = false := beq_eq_false_iff_ne.2 k2
            have b3 : (k == 3) = false := beq_eq_false_iff_ne.2 k3
            clear k1 k2 k3
            go_enter Try.func129, Try.ntmps129
            go_wp2_with fail
            refine bodyPost_ret (res_cell_tmpJ rfl _ _ w.heap.size 140 _ (0, 0) _ rfl (twoBlk w #[_, _, _] _ _).1.blk_heap Try.underlying140 rfl entSize _ rfl) rfl ?_
            exact ⟨_, rfl, (twoBlk w _ _ _).2, ⟨_, _, _, rfl⟩, fun W _ => Rw.nil W _⟩
end Go.Proofs.Ytmdmekdmlkhchaa
