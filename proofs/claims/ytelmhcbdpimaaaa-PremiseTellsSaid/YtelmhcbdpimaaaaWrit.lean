/- Who wrote a key. -/
import Derived.Test.YtelmhcbdpimaaaaPrem4
import Derived.Test.YtelmhcbdpimaaaaMend2
import Derived.Test.YtelmhcbdpimaaaaFrames
set_option linter.unusedVariables false
set_option linter.unusedSimpArgs false
namespace Go.Proofs.Ytelmhcbdpimaaaa
open Go.RowKit Go.Cw Go.Fl
attribute [local go_sem ↓] eql_id neq_id
attribute [local go_sem] run_store_float
def wrOne (key : ByteArray) (c : Cm) : Bool := decide (c.2.1 = key) && cmWr c
/-- The places of those that write a key. -/
def wrF (key : ByteArray) : List Cm → Int → List Int
  | [], _ => []
  | c :: r, k => if wrOne key c then k :: wrF key r (k + 1) else wrF key r (k + 1)
theorem wrF_snoc (key : ByteArray) (c : Cm) : ∀ (l : List Cm) (k : Int), wrF key (l ++ [c]) k = wrF key l k ++ (if wrOne key c then [k + (l.length : Int)] else [])
  | [], k => by simp [wrF]
  | d :: r, k => by
    rw [List.cons_append, wrF, wrF, wrF_snoc key c r (k + 1)]
    have e : k + 1 + (r.length : Int) = k + ((d :: r).length : Int) := by simp; omega
    rw [e]
    split <;> simp
theorem wrF_take (key : ByteArray) (l : List Cm) (k : Nat) (h : k < l.length) : wrF key (l.take (k + 1)) 0 = wrF key (l.take k) 0 ++ (if wrOne key l[k] then [(k : Int)] else []) := by
  rw [List.take_add_one, List.getElem?_eq_getElem h]
  show wrF key (l.take k ++ [l[k]]) 0 = _
  rw [wrF_snoc, List.length_take, Nat.min_eq_left (by omega), Int.zero_add]
theorem wrF_len (key : ByteArray) : ∀ (l : List Cm) (k : Int), (wrF key l k).length ≤ l.length
  | [], _ => by simp [wrF]
  | d :: r, k => by
    rw [wrF]
    have := wrF_len key r (k + 1)
    split <;> simp <;> omega
set_option maxRecDepth 100000 in
set_option maxHeartbeats 3200000 in
theorem batWrites_any (u : Value) (B : List Cm) (key : ByteArray) (hok : ∀ c ∈ B, CmW c) (w : World) (hx : Rw w 3 u (cml B)) (hlen : B.length ≤ 1000000) :
    Calls Try.prog 73 #[u, .string key] w (ResE (snap w) [] w (fun v => v) (fun v => [Row 3 1 v (ints (wrF key B 0))])) := by
  obtain ⟨A, n, c, rfl, hn, hnc, hc⟩ := hx.form
  rw [cml_len] at hn
  obtain rfl : n = B.length := by omega
  clear hn
  have hrd := hx.rd
  have h0 := (St.start w).row_nil 3 1
  replace hok := Lib.hid hok
  go_enter Try.func73, Try.ntmps73
  go_wp2_with fail
  go_loopw [5, 10] (fun lv i wr => ∃ k : Nat, k ≤ B.length ∧ i = .int .i64 (k : Int) ∧ St (snap w) [Row 3 1 lv (ints (wrF key (B.take k) 0))] wr ∧ Env w wr) (fun _ i _ => B.length - (intOf i).toNat)
  case atStart => exact ⟨0, by omega, by go_num, h0, Env.refl w⟩
  case round =>
    clear h0
    obtain ⟨k, hk, rfl, hst, hen⟩ := hrel
    by_cases hlt : k < B.length
    · obtain ⟨b, off, hA, hcr⟩ := (hrd.rw hst).cells (by omega)
      cases hA
      obtain ⟨p0, p1, p2⟩ := cml_get B k hlt
      replace p0 := hcr _ _ p0
      replace p1 := hcr _ _ p1
      replace p2 := hcr _ _ p2
      rw [← Nat.add_assoc] at p1 p2
      clear hcr
      have pl := World.block_lt_of_cell? _ _ p0
      have hst1 := wrF_take key B k hlt
      have hwl := wrF_len key (B.take k) 0
      rw [List.length_take] at hwl
      have hW := fun w => cmdWrites_any B[k] (hok.out B[k] (List.getElem_mem hlt)) w
      generalize wrF key (B.take k) 0 = P at *
      generalize B[k] = x at *
      obtain ⟨x0, x1, x2⟩ := x
      try simp only at p0 p1 p2
      obtain ⟨H1, l1, h1, y⟩ := hst.box #[.int .i64 x0, .string x1, .float .f64 x2] 90
      have en1 := hen.alloc (.cells #[.int .i64 x0, .string x1, .float .f64 x2] 90)
      have y0 := h1.cell (y 0 _ rfl)
      have y1 := h1.cell (y 1 _ rfl)
      have y2 := h1.cell (y 2 _ rfl)
      have yl := World.block_lt_of_cell? _ _ y0
      clear y
      unfold wrOne at hst1
      by_cases hk1 : x1 = key
      · have hkl : x1.toList = key.toList := by rw [hk1]
        cases hcw : cmWr (x0, x1, x2) with
        | true =>
          rw [decide_eq_true hk1, hcw, Bool.true_and, if_pos rfl] at hst1
          simp only [hcw] at hW
          replace hW := Lib.hid hW
          replace hst1 := Lib.hid hst1
          subst hk1
          clear hkl hcw
          go_wp2_with fail
          refine (hW.out _).mono ?_
          rintro e w2 ⟨rfl, hb2⟩
          have h2 := h1.below hb2
          go_wp2_with (at_builtin; refine wpList_append rfl (.tmp 23) (.tmp 25) 101 101 rfl Try.underlying101 (.inl ⟨_, Try.underlying101⟩) (.int .i64 0) 8 info_int rfl (by decide) (by decide) rfl rfl (h2.alloc _) (news_at _ _ 1 #[.int .i64 (k : Int)] rfl (by simp [Value.oneCell']) rfl) ?apB1 ?apK1)
          try case apB1 => first | omega | (simp; omega) | (simp [ints_len]; omega) | skip
          intro v' w3 h3 en3
          go_wp2_with fail
          go_roundw
          case rel => exact ⟨k + 1, by omega, by go_num, by rw [hst1.out, ints_append]; exact h3.weaken l1, ((en1.trans (bel_env hb2)).alloc _).trans en3⟩
          case measure => simp [intOf]; omega
        | false =>
          rw [decide_eq_true hk1, hcw, Bool.true_and, if_neg (by simp), List.append_nil] at hst1
          simp only [hcw] at hW
          replace hW := Lib.hid hW
          replace hst1 := Lib.hid hst1
          subst hk1
          clear hkl hcw
          go_wp2_with fail
          refine (hW.out _).mono ?_
          rintro e w2 ⟨rfl, hb2⟩
          go_wp2_with fail
          go_roundw
          case rel => exact ⟨k + 1, by omega, by go_num, by rw [hst1.out]; exact (h1.below hb2).weaken l1, en1.trans (bel_env hb2)⟩
          case measure => simp [intOf]; omega
      · rw [decide_eq_false hk1, Bool.false_and, if_neg (by simp), List.append_nil] at hst1
        have hkl : ¬ x1.toList = key.toList := fun h => hk1 (ba_ext h)
        replace hst1 := Lib.hid hst1
        clear hW hk1
        go_wp2_with fail
        go_roundw
        case rel => exact ⟨k + 1, by omega, by go_num, by rw [hst1.out]; exact h1.weaken l1, en1⟩
        case measure => simp [intOf]; omega
    · obtain rfl : k = B.length := by omega
      rw [List.take_length] at hst
      go_wp2_with fail
      go_ret
      exact ⟨_, rfl, hst, hen⟩
/-- A writer: an id, a place. -/
abbrev Wr := Id × Int
def wrc (x : Wr) : List Value := [.int .i64 x.1.1, .int .i64 x.1.2, .int .i64 x.2]
def wrl (l : List Wr) : List Value := l.flatMap wrc
theorem wrl_len (l : List Wr) : (wrl l).length = l.length * 3 := flat_len wrc 3 (fun _ => rfl) l
theorem wrl_append (l m : List Wr) : wrl (l ++ m) = wrl l ++ wrl m := by simp [wrl, List.flatMap_append]
theorem wrl_get (l : List Wr) (k : Nat) (h : k < l.length) : (wrl l)[k * 3]? = some (.int .i64 l[k].1.1) ∧ (wrl l)[k * 3 + 1]? = some (.int .i64 l[k].1.2) ∧ (wrl l)[k * 3 + 2]? = some (.int .i64 l[k].2) := by
  have f := fun j hj => flat_get wrc 3 (fun _ => rfl) l k j h hj
  exact ⟨f 0 (by omega), f 1 (by omega), f 2 (by omega)⟩
theorem info_wr : (Try.prog.info? 107).map (fun i => (i.zero, i.size, i.bytes)) = some (some (.agg #[.int .i64 0, .int .i64 0, .int .i64 0]), 3, 24) := by kernel_rfl
/-- The writers of a key, in a graph. -/
def wrAll (l : List Rp) (ids : List Id) (key : ByteArray) : List Wr := ids.flatMap (fun a => (wrF key (lookR l a).2.2.2 0).map (fun k => (a, k)))
set_option maxRecDepth 100000 in
set_option maxHeartbeats 6400000 in
theorem premWriters_any (p : Nat) (L : List Rc) (u : Value) (S : List Id) (key : ByteArray) (H : Hp) (fr : List HA) (w : World) (h : St H (GrA p L :: fr) w) (hg : GrOk H L) (hu : Rd H 2 u (idl S)) (hS : S.length ≤ 10000) :
    Calls Try.prog 28 #[grP p, u, .string key] w fun e w' => ∃ v H', e = .returned v ∧ Hp.le H H' ∧ St H' (Row 107 3 v (wrl (wrAll (L.map rp) S key)) :: GrA p L :: fr) w' ∧ Env w w' := by
  obtain ⟨A, n, c, rfl, hn, hnc, hc⟩ := hu.form
  rw [idl_len] at hn
  obtain rfl : n = S.length := by omega
  clear hn
  simp only [maxLen] at hc
  have h0 := h.row_nil 107 3
  have hll := lookR_len hg
  replace hll := Lib.hid hll
  go_enter Try.func28, Try.ntmps28
  go_wp2_with fail
  go_loopw [7, 16] (fun lv i wr => ∃ (k : Nat) (H' : Hp), k ≤ S.length ∧ i = .int .i64 (k : Int) ∧ Hp.le H H' ∧ St H' (Row 107 3 lv (wrl (wrAll (L.map rp) (S.take k) key)) :: GrA p L :: fr) wr ∧ Env w wr ∧ (wrAll (L.map rp) (S.take k) key).length ≤ 8 * k) (fun _ i _ => S.length - (intOf i).toNat)
  case atStart => exact ⟨0, H, by omega, by go_num, Hp.le_refl _, h0, Env.refl w, by simp [wrAll]⟩
  case round =>
    clear h0 h
    obtain ⟨k, H1, hk, rfl, l1, h1, en1, hlb⟩ := hrel
    obtain ⟨wo, rfl⟩ : ∃ wo : World, wo = wr := ⟨_, rfl⟩
    by_cases hlt : k < S.length
    · obtain ⟨b, off, hA, hcr⟩ := ((hu.mono l1).rw h1).cells (by omega)
      cases hA
      have p0 := hcr _ _ (idl_fst S k hlt)
      have p1 := hcr _ _ (idl_snd S k hlt)
      rw [← Nat.add_assoc] at p1
      clear hcr
      have pl := World.block_lt_of_cell? _ _ p0
      have hstp : Hid (wrAll (L.map rp) (S.take (k + 1)) key = wrAll (L.map rp) (S.take k) key ++ (wrF key (lookR (L.map rp) S[k]).2.2.2 0).map (fun j => (S[k], j))) := Lib.hid (by
        unfold wrAll
        rw [List.take_add_one, List.getElem?_eq_getElem hlt, List.flatMap_append]
        simp)
      generalize S[k] = a at *
      generalize wrAll (L.map rp) (S.take k) key = Q at *
      obtain ⟨r, s⟩ := a
      try simp only at p0 p1
      obtain ⟨H2, l2, h2, ya⟩ := h1.box #[.int .i64 r, .int .i64 s] 28
      have en2 := en1.alloc (.cells #[.int .i64 r, .int .i64 s] 28)
      have ya0 := ya 0 _ rfl
      have ya1 := ya 1 _ rfl
      have u0 := h2.cell ya0
      have u1 := h2.cell ya1
      have ul := World.block_lt_of_cell? _ _ u0
      clear ya
      go_wp2_with fail
      generalize wo.alloc (.cells #[.int .i64 r, .int .i64 s] 28) = W2 at *
      generalize wo.heap.size = gx at *
      refine (grRecord_any p L (r, s) H2 _ _ h2.swap (hg.mono (Hp.le_trans l1 l2))).mono ?_
      rintro e w3 ⟨H3, x, l3, h3, en3, rfl, hx, hxl⟩
      obtain ⟨d1, d2, d3, hdv, _⟩ := hx.d.form
      obtain ⟨b1', b2', b3', hbv, _⟩ := hx.b.form
      obtain ⟨H4, l4, h4, xc⟩ := St.rcBox h3 x
      have en4 := (en2.trans en3).alloc (.cells (rcA x) 32)
      have hx4 := hx.mono l4
      obtain ⟨ok, hok⟩ : ∃ ok, decide (((r, s) : Id) ∈ rids L) = ok := ⟨_, rfl⟩
      rw [hok]
      have hB8 : x.2.2.2.2.2.length ≤ 8 := by
        have := (hll.out (r, s)).2
        rw [← hxl] at this
        exact this
      rw [← hxl] at hstp
      clear hok p0 p1 pl u0 u1 ul h1 h2 h3 en1 en2 en3 hx hxl
      have hW := fun fr' w' (h' : St H4 fr' w') => batWrites_any x.2.2.2.1 x.2.2.2.2.2 key hx4.ok w' (hx4.b.rw h') (by omega)
      obtain ⟨⟨xr, xs⟩, xq, xd, xb, xD, xB⟩ := x
      try simp only at hdv hbv hstp hB8 hW
      subst hdv hbv
      try simp only [rcA] at h4 en4 xc
      have v3 := h4.cell xc.2.2.2.2
      have vl := World.block_lt_of_cell? _ _ v3
      replace ya0 := Hp.cell_le (Hp.le_trans l3 l4) ya0
      replace ya1 := Hp.cell_le (Hp.le_trans l3 l4) ya1
      have hwl := wrF_len key xB 0
      generalize wrF key xB 0 = T at *
      have hW4 := hW _ _ h4
      replace hW4 := Lib.hid hW4
      have le4 := Hp.le_trans l1 (Hp.le_trans l2 (Hp.le_trans l3 l4))
      clear hW
      go_wp2_with fail
      try simp only at v3
      generalize w3.alloc (.cells #[.int .i64 xr, .int .i64 xs, .int .i64 xq, .slice d1 d2 d3, .slice b1' b2' b3'] 32) = W4 at *
      refine hW4.out.mono ?_
      rintro e w5 he
      obtain ⟨tv, rfl, h5, en5⟩ := ResE.lift h4 he
      obtain ⟨H6, l6, h6, htR⟩ := h5.row_keep
      replace en5 := en4.trans en5
      obtain ⟨tA, t2, t3, rfl, ht4, ht5, ht6⟩ := htR.form
      rw [ints_len, Nat.mul_one] at ht4
      subst ht4
      simp only [maxLen] at ht6
      replace ya0 := Hp.cell_le l6 ya0
      replace ya1 := Hp.cell_le l6 ya1
      have h7 := h6.swap
      clear hW4 he h4 h5 h6 en4 v3 vl xc
      go_wp2_with fail
      go_loopw [7, 31] (fun lv i wr => ∃ (m : Nat), m ≤ T.length ∧ i = .int .i64 (m : Int) ∧ St H6 (Row 107 3 lv (wrl (Q ++ (T.take m).map (fun j => (((r, s) : Id), j)))) :: GrA p L :: fr) wr ∧ Env w wr) (fun _ i _ => T.length - (intOf i).toNat)
      case atStart => exact ⟨0, by omega, by go_num, by simpa using h7, en5⟩
      case round =>
        clear h7 en5
        obtain ⟨m, hm, rfl, hst, hen⟩ := hrel
        by_cases hlt2 : m < T.length
        · obtain ⟨tb, tq, hA, hcr⟩ := (htR.rw hst).cells (by omega)
          cases hA
          have q0 := hcr m (.int .i64 T[m]) (by simp [ints, hlt2])
          have ql := World.block_lt_of_cell? _ _ q0
          clear hcr
          have htk : Hid ((T.take (m + 1)).map (fun j => (((r, s) : Id), j)) = (T.take m).map (fun j => (((r, s) : Id), j)) ++ [((r, s), T[m])]) := Lib.hid (by
            rw [List.take_add_one, List.getElem?_eq_getElem hlt2, List.map_append]; rfl)
          have htl : ((T.take m).map (fun j => (((r, s) : Id), j))).length = m := by simp; omega
          generalize (T.take m).map (fun j => (((r, s) : Id), j)) = Q2 at *
          generalize T[m] = tm at *
          have u0 := hst.cell ya0
          have u1 := hst.cell ya1
          have ul := World.block_lt_of_cell? _ _ u0
          go_wp2_with (at_builtin; refine wpList_append rfl (.tmp 35) (.tmp 39) 54 54 rfl Try.underlying54 (.inl ⟨_, Try.underlying54⟩) (.agg #[.int .i64 0, .int .i64 0, .int .i64 0]) 24 info_wr rfl (by decide) (by decide) rfl rfl (hst.alloc _) (news_at _ _ 1 #[.int .i64 r, .int .i64 s, .int .i64 tm] rfl (by simp [Value.oneCell']) rfl) ?apB2 ?apK2)
          try case apB2 => first | omega | (simp; omega) | (simp [wrl_len]; omega) | skip
          intro v' w7 h7 en7
          go_wp2_with fail
          go_roundw
          case rel => exact ⟨m + 1, by omega, by go_num, by rw [htk.out, ← List.append_assoc, wrl_append]; exact h7, (hen.alloc _).trans en7⟩
          case measure => simp [intOf]; omega
        · obtain rfl : m = T.length := by omega
          rw [List.take_length] at hst
          go_wp2_with fail
          go_roundw
          case rel => exact ⟨k + 1, H6, by omega, by go_num, Hp.le_trans le4 l6, by rw [hstp.out]; exact hst, hen, by rw [hstp.out]; simp; omega⟩
          case measure => simp [intOf]; omega
    · obtain rfl : k = S.length := by omega
      rw [List.take_length] at h1
      go_wp2_with fail
      go_ret
      exact ⟨_, H1, rfl, l1, h1, en1⟩
end Go.Proofs.Ytelmhcbdpimaaaa
