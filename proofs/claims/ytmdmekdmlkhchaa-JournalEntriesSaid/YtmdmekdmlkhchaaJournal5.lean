/- The next entry; a journal is loaded. -/
import Derived.Test.YtmdmekdmlkhchaaJournal4
import Derived.Lib.ConvBytes
set_option linter.unusedVariables false
set_option linter.unusedSimpArgs false
namespace Go.Proofs.Ytmdmekdmlkhchaa
open Go.RowKit Go.Cw Go.Jn
/-- []byte(s). -/
theorem conv_bytes (xs : List Int) (hb : Byt xs) (hxl : xs.length ≤ 140737488355328) (w : World) : ∃ w' c, (convert 9 57 (.string (strOfNums xs))).run Try.prog w = .ok (.slice (some ⟨w.heap.size, 0, none⟩) xs.length c) w' ∧ Below w.heap.size w w' ∧ Rw w' 1 (.slice (some ⟨w.heap.size, 0, none⟩) xs.length c) (u8s xs) := by
  have hsz := strOfNums_size xs
  refine ⟨Lib.bytesWorld w 5 (strOfNums xs), grownCap w (strOfNums xs).size 0 5, ?_, ?_, ?_⟩
  · rw [Lib.run_convert_string_bytes w 9 57 5 (strOfNums xs) Try.underlying9 Try.underlying57 Try.underlying5, hsz]
  · exact ⟨rfl, rfl, rfl, by rw [Lib.bytesWorld_size]; omega, fun k hk => Lib.bytesWorld_at_old w _ _ k hk⟩
  · rw [← hsz]
    refine ⟨_, _, _, rfl, by rw [u8s_len, hsz, Nat.mul_one], grownCap_ge _ _ _ _, grownCap_le_maxLen _ _ _ _ (by rw [hsz]; simp only [maxLen]; omega), fun hn => ⟨w.heap.size, 0, rfl, fun j u hj => ?_⟩⟩
    have hlt : j < xs.length := by have := (List.getElem?_eq_some_iff.1 hj).1; rwa [u8s_len] at this
    rw [u8s_get xs j hlt] at hj
    cases hj
    rw [Nat.zero_add, Lib.bytesWorld_cell w _ _ j (by rw [hsz]; exact hlt)]
    have hx := hb xs[j] (List.getElem_mem hlt)
    simp only [strOfNums_data, List.getD_eq_getElem?_getD, List.getElem?_map, List.getElem?_eq_getElem hlt, Option.map_some, Option.getD_some]
    congr 2
    rw [show (UInt8.ofNat xs[j].toNat).toNat = xs[j].toNat by simp; omega]
    omega
theorem res_cell_tmp2 {P : Program} {fn : Func} {p u v : Tmp} {ty : TypeId} (h : fn.results = #[.cell p ty, .tmp u, .tmp v]) (tmps : Array Value) (w : World) (g : Nat) (t : TypeId) (cs : Array Value) (fr : Nat × Nat) (d : TypeDesc)
    (hp : tmps.getD p undef = .pointer (some ⟨g, 0, none⟩)) (hg : w.heap[g]? = some (.cells cs t fr))
    (hu : P.underlying ty = some d) (hd : (match d with | .struct _ | .array _ _ => true | _ => false) = true) (hi : (P.info? ty).map (·.size) = some cs.size) (x y : Value) (hx : tmps.getD u undef = x) (hy : tmps.getD v undef = y) :
    (results fn tmps).run P w = .ok (.tuple #[.agg cs, x, y]) w := by
  have hp' : tmps[p]?.getD undef = .pointer (some ⟨g, 0, none⟩) := by simpa using hp
  have hx' : tmps[u]?.getD undef = x := by simpa using hx
  have hy' : tmps[v]?.getD undef = y := by simpa using hy
  simp only [results, h]
  simp [Sem.run_bind, Result.andThen, hp', hx', hy', asAddr, run_loadVar_row w g t ty cs fr d hg hu hd hi]
def NextR (w : World) (x : Int × Nat × Ent) (e : Ending) (w' : World) : Prop := ∃ v, e = .returned (.tuple #[.agg #[.int .i64 x.2.2.1, .int .i64 x.2.2.2.1, v], .int .i64 (x.2.1 : Nat), .int .i64 x.1]) ∧ Below w.heap.size w w' ∧ Rw w' 1 v (u8s x.2.2.2.2)
set_option maxRecDepth 100000 in
set_option maxHeartbeats 1600000 in
theorem next_any (A : Option Addr) (n c : Nat) (xs : List Int) (hb : Byt xs) (hxl : xs.length ≤ 140737488355328) (w : World) (hx : Rw w 1 (.slice A n c) (u8s xs)) :
    Calls Try.prog 103 #[.slice A n c] w (NextR w (nextF xs)) := by
  have hx1 := hx.alloc (.cells #[.int .i64 0, .int .i64 0, .slice none 0 0] 140)
  have ht := getText_any A n c xs hb hxl _ hx1
  obtain ⟨E, S, K, hT⟩ : ∃ E S K, textF 4200 xs = (E, S, K) := ⟨_, _, _, rfl⟩
  have hbs : Byt S := by
    have : S = (textF 4200 xs).2.1 := by rw [hT]
    rw [this]
    unfold textF
    simp only
    split
    · exact Byt.nil
    · split
      · exact Byt.nil
      · split
        · exact Byt.nil
        · exact (hb.drop _).take _
  rw [hT] at ht
  simp only at ht
  have h1 := (St.start w).blk #[.int .i64 0, .int .i64 0, .slice none 0 0] 140
  have en1 := (Env.refl w).alloc (.cells #[.int .i64 0, .int .i64 0, .slice none 0 0] 140)
  by_cases hE : E = 0
  · subst hE
    obtain ⟨w2, c2, hcv, bel2, hr2⟩ := conv_bytes S hbs (by
      have : S.length ≤ xs.length := by
        have : S = (textF 4200 xs).2.1 := by rw [hT]
        rw [this]
        unfold textF
        simp only
        split
        · simp
        · split
          · simp
          · split
            · simp
            · simp only [List.length_take, List.length_drop]; omega
      omega) (w.alloc (.cells #[.int .i64 0, .int .i64 0, .slice none 0 0] 140))
    have hS20 : S.length + 20 ≤ 140737488355328 := by
      have : S.length ≤ 4200 := by
        by_cases hz : S = []
        · rw [hz]; simp
        · exact (textF_ok hb (by rw [hT])).choose_spec.2.2
      omega
    have hs1 : (w.alloc (.cells #[.int .i64 0, .int .i64 0, .slice none 0 0] 140)).heap.size = w.heap.size + 1 := by simp
    have ho := open_any (some ⟨w.heap.size + 1, 0, none⟩) S.length c2 S hbs hS20 w2 (hs1 ▸ hr2)
    rw [hs1] at hcv
    have h2 := h1.below bel2
    have en2 := en1.trans (bel_env bel2)
    obtain ⟨E2, I, hO⟩ : ∃ E2 I, openF S = (E2, I) := ⟨_, _, rfl⟩
    rw [hO] at ho
    simp only at ho
    by_cases hE2 : E2 = 0
    · subst hE2
      have hn : nextF xs = ((readF I).1, K, (readF I).2) := by simp only [nextF, hT, hO]; rfl
      rw [hn]
      have hbI : Byt I := by
        have := openF_ok hbs hO
        rw [this] at hbs
        exact hbs.left
      clear hn hT hO
      go_enter Try.func103, Try.ntmps103
      go_wp2_with fail
      refine ht.mono ?_
      rintro e w1 ⟨rfl, rfl⟩
      go_wp2_with fail
      refine ho.mono ?_
      rintro e w3 hq
      obtain ⟨v3, rfl, k3, en3⟩ := ResE.lift h2 hq
      replace en3 := en2.trans en3
      obtain ⟨A3, n3, c3, rfl, _⟩ := k3.row_form
      clear hq hcv h2 h1 en1 en2
      go_wp2_with fail
      refine (read_any A3 n3 c3 I hbI w3 (k3.row_rw (by decide))).mono ?_
      rintro e w4 ⟨v4, rfl, bel4, ⟨A4, n4, c4, rfl⟩, hr4⟩
      have k4 := k3.swap.below bel4
      replace en4 := en3.trans (bel_env bel4)
      have z0 := k4.blk_cell 0
      have z1 := k4.blk_cell 1
      have z2 := k4.blk_cell 2
      have f0 := k4.blk_free 0
      have f1 := k4.blk_free 1
      have f2 := k4.blk_free 2
      have zl := k4.blk_lt
      have k5 := (((k4.blk_set 0 (.int .i64 (readF I).2.1)).blk_set 1 (.int .i64 (readF I).2.2.1)).blk_set 2 (.slice A4 n4 c4)).alloc (.cells #[.int .i64 (readF I).2.1, .int .i64 (readF I).2.2.1, .slice A4 n4 c4] 140)
      have en5 := (((en4.setCell ⟨w.heap.size, 0, none⟩ (.int .i64 (readF I).2.1)).setCell ⟨w.heap.size, 1, none⟩ (.int .i64 (readF I).2.2.1)).setCell ⟨w.heap.size, 2, none⟩ (.slice A4 n4 c4)).alloc (.cells #[.int .i64 (readF I).2.1, .int .i64 (readF I).2.2.1, .slice A4 n4 c4] 140)
      change St _ (Blk w.heap.size #[.int .i64 (readF I).2.1, .int .i64 (readF I).2.2.1, .slice A4 n4 c4] 140 :: _) _ at k5
      have hr5 := hr4 _ (k5.swap.row_rw (by decide))
      go_wp2_with fail
      refine bodyPost_ret (res_cell_tmp2 rfl _ _ w.heap.size 140 _ (0, 0) _ rfl k5.blk_heap Try.underlying140 rfl entSize _ _ rfl rfl) rfl ?_
      exact ⟨_, rfl, k5.drop.drop.toBelow en5, hr5⟩
    · have hn : nextF xs = (E2, 0, entNo) := by simp only [nextF, hT, hO]; rw [if_neg (by simp), if_pos hE2]
      rw [hn]
      have bE : (E2 != 0) = true := by simpa using hE2
      replace hE2 := Lib.hid hE2
      clear hn hT hO
      go_enter Try.func103, Try.ntmps103
      go_wp2_with fail
      refine ht.mono ?_
      rintro e w1 ⟨rfl, rfl⟩
      go_wp2_with fail
      refine ho.mono ?_
      rintro e w3 hq
      obtain ⟨v3, rfl, k3, en3⟩ := ResE.lift h2 hq
      replace en3 := en2.trans en3
      obtain ⟨A3, n3, c3, rfl, _⟩ := k3.row_form
      clear hq hcv h2 h1 en1 en2
      have k4 := k3.drop
      have z0 := k4.blk_cell 0
      have z1 := k4.blk_cell 1
      have z2 := k4.blk_cell 2
      have f0 := k4.blk_free 0
      have f1 := k4.blk_free 1
      have f2 := k4.blk_free 2
      have zl := k4.blk_lt
      have k5 := ((k4.blk_set 0 (.int .i64 0)).blk_set 1 (.int .i64 0)).blk_set 2 (.slice none 0 0)
      have en5 := ((en3.setCell ⟨w.heap.size, 0, none⟩ (.int .i64 0)).setCell ⟨w.heap.size, 1, none⟩ (.int .i64 0)).setCell ⟨w.heap.size, 2, none⟩ (.slice none 0 0)
      change St _ (Blk w.heap.size #[.int .i64 0, .int .i64 0, .slice none 0 0] 140 :: _) _ at k5
      go_wp2_with fail
      refine bodyPost_ret (res_cell_tmp2 rfl _ _ w.heap.size 140 _ (0, 0) _ rfl k5.blk_heap Try.underlying140 rfl entSize _ _ rfl rfl) rfl ?_
      exact ⟨_, rfl, k5.drop.toBelow en5, Rw.nil _ _⟩
  · have hn : nextF xs = (E, 0, entNo) := by simp only [nextF, hT]; rw [if_pos hE]
    rw [hn]
    have bE : (E != 0) = true := by simpa using hE
    replace hE := Lib.hid hE
    clear hn hT
    go_enter Try.func103, Try.ntmps103
    go_wp2_with fail
    refine ht.mono ?_
    rintro e w1 ⟨rfl, rfl⟩
    go_wp2_with fail
    refine bodyPost_ret (res_cell_tmp2 rfl _ _ w.heap.size 140 _ (0, 0) _ rfl h1.blk_heap Try.underlying140 rfl entSize _ _ rfl rfl) rfl ?_
    exact ⟨_, rfl, h1.drop.toBelow en1, Rw.nil _ _⟩
end Go.Proofs.Ytmdmekdmlkhchaa
