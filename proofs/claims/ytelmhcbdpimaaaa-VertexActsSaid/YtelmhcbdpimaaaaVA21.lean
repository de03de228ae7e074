/- Joined texts: VertActs. -/
import Derived.Test.YtelmhcbdpimaaaaVA20
/- Law 21: whatever is put, done, compacted. -/
set_option linter.unusedVariables false
set_option linter.unusedSimpArgs false
namespace Go.Proofs.Ytelmhcbdpimaaaa
open Go.RowKit Go.Cw Go.Fl
attribute [local go_sem ↓] eql_id neq_id
/-- What is done: a kind, a record, an id. -/
abbrev Ac := Int × Rc × Id
def acc (x : Ac) : List Value := .int .i64 x.1 :: (recc x.2.1 ++ idc x.2.2)
def accs (l : List Ac) : List Value := l.flatMap acc
theorem accs_len (l : List Ac) : (accs l).length = l.length * 8 := flat_len acc 8 (fun _ => rfl) l
theorem accs_get (l : List Ac) (k : Nat) (h : k < l.length) : (accs l)[k * 8]? = some (.int .i64 l[k].1) ∧ (accs l)[k * 8 + 1]? = some (.int .i64 l[k].2.1.1.1) ∧ (accs l)[k * 8 + 2]? = some (.int .i64 l[k].2.1.1.2) ∧ (accs l)[k * 8 + 3]? = some (.int .i64 l[k].2.1.2.1) ∧ (accs l)[k * 8 + 4]? = some l[k].2.1.2.2.1 ∧ (accs l)[k * 8 + 5]? = some l[k].2.1.2.2.2.1 ∧ (accs l)[k * 8 + 6]? = some (.int .i64 l[k].2.2.1) ∧ (accs l)[k * 8 + 7]? = some (.int .i64 l[k].2.2.2) := by
  have := fun i hi => flat_get acc 8 (fun _ => rfl) l k i h hi
  exact ⟨this 0 (by omega), this 1 (by omega), this 2 (by omega), this 3 (by omega), this 4 (by omega), this 5 (by omega), this 6 (by omega), this 7 (by omega)⟩
theorem low_one {M : List Id} {a b : List Nat} (ha : a.length = 8) (hb : b.length = 8) (h1 : FlL M a) (h2 : FlL M b) : a = b := by
  refine List.ext_getElem (by omega) (fun i hi hj => ?_)
  have := FlP.one (h1 i (by omega)) (h2 i (by omega))
  rw [List.getD_eq_getElem?_getD, List.getD_eq_getElem?_getD, List.getElem?_eq_getElem hi, List.getElem?_eq_getElem hj] at this
  exact this
theorem rel_start : Rel21 [] [] z8 [] := by
  refine ⟨rfl, by simp, by simp, by simp, by simp, ?_, rfl⟩
  intro r m h1 h2
  rcases Nat.lt_or_ge r 8 with h | h
  · match r, h with
    | 0, _ | 1, _ | 2, _ | 3, _ | 4, _ | 5, _ | 6, _ | 7, _ => simp at h2; omega
  · rw [List.getD_eq_getElem?_getD, List.getElem?_eq_none (by simpa using h)] at h2
    simp at h2
    omega
/-- What is known of a store and its model. -/
structure Inv21 (H : Hp) (K : List Kp) (M : List Id) (low : List Nat) (L : List Rc) (n : Nat) : Prop where
  rel : Rel21 K M low L
  kd : KpOk H K
  ld : ∀ y ∈ L, RcD H y
  kn : K.length ≤ n
  mn : M.length ≤ n
theorem Inv21.mono {H H' : Hp} {K : List Kp} {M : List Id} {low : List Nat} {L : List Rc} {n n' : Nat} (h : Inv21 H K M low L n) (hl : Hp.le H H') (hn : n ≤ n') : Inv21 H' K M low L n' := ⟨h.rel, h.kd.mono hl, fun y hy => (h.ld y hy).mono hl, Nat.le_trans h.kn hn, Nat.le_trans h.mn hn⟩
def PutK (H : Hp) (K : List Kp) (x : Rc) (E : Int) (K' : List Kp) : Prop := (E ≠ 0 ∧ K' = K) ∨ (E = 0 ∧ ∃ y, RcD H y ∧ rp y = rp x ∧ K' = K ++ [(y, false)])
theorem Inv21.put {H H' : Hp} {K K' : List Kp} {M : List Id} {low : List Nat} {L : List Rc} {n : Nat} {x : Rc} {E room : Int} (h : Inv21 H K M low L n) (hl : Hp.le H H') (hx : RcD H x) (hE : mdE room L low (rp x) = E) (hp : PutK H' K x E K') (hn : n ≤ 1000) : Inv21 H' K' M low (if E = 0 then L ++ [x] else L) (n + 1) := by
  rcases hp with ⟨h0, rfl⟩ | ⟨rfl, y, hy, hyx, rfl⟩
  · rw [if_neg h0]
    exact h.mono hl (by omega)
  · rw [if_pos rfl]
    refine ⟨h.rel.putOk hyx hE, (h.kd.mono hl).put hy (by rw [hyx]; exact (mdE_zero hE).1) (by have := h.kn; omega), ?_, by have := h.kn; simp; omega, by have := h.mn; omega⟩
    intro z hz
    rcases List.mem_append.1 hz with hz | hz
    · exact (h.ld z hz).mono hl
    · rw [List.mem_singleton] at hz
      subst hz
      exact hx.mono hl
theorem ins_len21 (a : Id) : ∀ M : List Id, (ins a M).length = M.length + 1
  | [] => rfl
  | b :: r => by
    unfold ins
    split
    · rfl
    · simp [ins_len21 a r]
theorem Inv21.done {H : Hp} {K : List Kp} {M : List Id} {low : List Nat} {L : List Rc} {n : Nat} {a : Id} (h : Inv21 H K M low L n) (hs : stK K M a = 1) : Inv21 H (doneK a K) (ins a M) low L (n + 1) :=
  ⟨h.rel.done hs, doneK_ok h.kd a, h.ld, by have := h.kn; unfold doneK; rw [List.length_map]; omega, by have := h.mn; rw [ins_len21]; omega⟩
theorem Inv21.compact {H : Hp} {K : List Kp} {M : List Id} {low low2 : List Nat} {L : List Rc} {n : Nat} (h : Inv21 H K M low L n) (hl : low2.length = 8) (hf : FlL M low2) : Inv21 H (keepK low2 K) M low2 (keepR low2 L) n :=
  ⟨h.rel.compact hl hf, ⟨fun x hx => h.kd.d x (List.mem_filter.1 hx).1, fun x hx => h.kd.b x (List.mem_filter.1 hx).1, Nat.le_trans (List.length_filter_le ..) h.kd.n⟩, fun x hx => h.ld x (List.mem_filter.1 hx).1, Nat.le_trans (List.length_filter_le ..) h.kn, h.mn⟩
/-- The store's Put, as the round wants it. -/
theorem sPut21 (H : Hp) (p : Nat) (room : Int) (K : List Kp) (M : List Id) (low : List Nat) (L : List Rc) (n : Nat) (x : Rc) (hI : Inv21 H K M low L n) (hx : RcD H x) {Hc : Hp} {fr : List HA} {W : World} (hl : Hp.le H Hc) (h : St Hc (VsA p room K M low :: fr) W) :
    Calls Try.prog 41 #[vsP p, recV x] W fun e w' => ∃ H' K', e = .returned (.int .i64 (mdE room L low (rp x))) ∧ Hp.le Hc H' ∧ St H' (VsA p room K' M low :: fr) w' ∧ Env W w' ∧ PutK H' K x (mdE room L low (rp x)) K' := by
  refine (vsPut_any p room K M low hI.rel.len x Hc fr W h (hI.kd.mono hl) (hx.mono hl)).mono ?_
  rintro e w' ⟨rfl, en, H', l', hh⟩
  rw [hI.rel.put] at hh ⊢
  rcases hh with ⟨h0, h1⟩ | ⟨h0, y, hy, hyx, h1⟩
  · exact ⟨H', K, rfl, l', h1, en, .inl ⟨h0, rfl⟩⟩
  · exact ⟨H', _, rfl, l', h1, en, .inr ⟨h0, y, hy, hyx, rfl⟩⟩
theorem mPut21 (H : Hp) (q : Nat) (room : Int) (K : List Kp) (M : List Id) (low : List Nat) (L : List Rc) (n : Nat) (x : Rc) (hI : Inv21 H K M low L n) (hn : n ≤ 60) (hx : RcD H x) {Hc : Hp} {fr : List HA} {W : World} (hl : Hp.le H Hc) (h : St Hc (MdA q room L M low :: fr) W) :
    Calls Try.prog 48 #[mdP q, recV x] W fun e w' => e = .returned (.int .i64 (mdE room L low (rp x))) ∧ St Hc (MdA q room (if mdE room L low (rp x) = 0 then L ++ [x] else L) M low :: fr) w' ∧ Env W w' := by
  refine (mdPut_any q room L M low hI.rel.len x Hc fr W h (hx.mono hl) (fun y hy => (hI.ld y hy).mono hl) (by have := hI.rel.length; have := hI.kn; omega)).mono ?_
  rintro e w' ⟨rfl, en, h1⟩
  exact ⟨rfl, h1, en⟩
theorem keep_len21 {K : List Kp} {M : List Id} {low : List Nat} {L : List Rc} (h : Rel21 K M low L) (low2 : List Nat) : (keepK low2 K).length = (keepR low2 L).length := by
  have := congrArg List.length (keep_same (low := low2) h.same)
  simpa using this
theorem flp_out {K : List Kp} {M : List Id} {low : List Nat} {L : List Rc} (h : Rel21 K M low L) {r : Int} {n : Nat} (hf : FlP M r n) (hr : r < 0 ∨ 8 ≤ r) : n = 0 := by
  rcases Nat.eq_zero_or_pos n with h0 | h0
  · exact h0
  · have := (idOk_iff _).1 (h.idm _ (hf.1 1 (by omega) (by omega)))
    simp only at this
    omega
theorem rp_at21 {K : List Kp} {M : List Id} {low : List Nat} {L : List Rc} (h : Rel21 K M low L) {a : Id} {y : Rc} (hy : rp y = rp (lookKp K a).1.1) (ha : a ∈ kids K) {i : Nat} (hi : i < L.length) (hl : rp L[i] = lookR (L.map rp) a) : recSame (rp y) (rp L[i]) = true := by
  rw [hy, look_rp K a ha, h.same, ← hl]
  exact recSame_refl _
theorem flp_ex (M : List Id) (r : Int) : ∃ n, FlP M r n := by
  apply Classical.byContradiction
  intro hno
  have : ∀ n : Nat, ∀ m : Nat, 1 ≤ m → m ≤ n → (r, (m : Int)) ∈ M := by
    intro n
    induction n with
    | zero => intro m h1 h2; omega
    | succ n ih =>
      intro m h1 h2
      by_cases hm : m ≤ n
      · exact ih m h1 hm
      · obtain rfl : m = n + 1 := by omega
        apply Classical.byContradiction
        intro h
        exact hno ⟨n, ih, h⟩
  have := run_slots r M (M.length + 1) (this (M.length + 1))
  omega
theorem vsFloor_ok {p : Nat} {room : Int} {K : List Kp} {M : List Id} {low : List Nat} {L : List Rc} {r : Int} {n : Nat} (hr : Rel21 K M low L) (hf : FlP M r n) (H : Hp) (fr : List HA) (w : World) (h : St H (VsA p room K M low :: fr) w) :
    Calls Try.prog 47 #[vsP p, .int .i64 r] w fun e w' => e = .returned (.int .i64 (n : Int)) ∧ Below w.heap.size w w' := by
  by_cases h0 : 0 ≤ r ∧ r < 8
  · obtain ⟨m, rfl⟩ : ∃ m : Nat, r = (m : Int) := ⟨r.toNat, by omega⟩
    refine (vsFloor_any p room K M low m (by omega) H fr w h).mono ?_
    rintro e w' ⟨x, rfl, rfl, hx⟩
    rw [FlP.one hx hf]
    exact ⟨rfl, Below.refl _ _⟩
  · obtain rfl := flp_out hr hf (by omega)
    refine (vsFloor_out p room K M low r (by omega) H fr w h).mono ?_
    rintro e w' ⟨rfl, rfl⟩
    exact ⟨rfl, Below.refl _ _⟩
theorem mdFloor_ok {q : Nat} {room : Int} {M : List Id} {low : List Nat} {L : List Rc} {r : Int} {n : Nat} (hf : FlP M r n) (hM : M.length ≤ 1000) (H : Hp) (fr : List HA) (w : World) (h : St H (MdA q room L M low :: fr) w) :
    Calls Try.prog 54 #[mdP q, .int .i64 r] w fun e w' => e = .returned (.int .i64 (n : Int)) ∧ Below w.heap.size w w' := by
  refine (mdFloor_any q room L M low r H fr w h hM).mono ?_
  rintro e w' ⟨x, rfl, hb, hx⟩
  rw [FlP.one hx hf]
  exact ⟨rfl, hb⟩
set_option maxRecDepth 100000 in
set_option maxHeartbeats 40000000 in
theorem vertActs_any (room : Int) (v : Value) (l : List Ac) (w : World) (hx : Rw w 8 v (accs l)) (hl : ∀ x ∈ l, RcR w x.2.1) :
    Calls Try.prog 9 #[.int .i64 room, v] w fun e w' => e = .returned (.bool true) ∧ Below w.heap.size w w' := by
  obtain ⟨A, m, c, rfl, hn, hnc, hc⟩ := hx.form
  rw [accs_len] at hn
  obtain rfl : m = l.length := by omega
  clear hn
  have hrd := hx.rd
  have hld : Hid (∀ x ∈ l, RcD (snap w) x.2.1) := Lib.hid (fun x hm => ⟨(hl x hm).d.rd, (hl x hm).b.rd, (hl x hm).ok⟩)
  clear hx hl
  by_cases h60 : l.length ≤ 60
  · have h60' : ¬ (60 : Int) < (l.length : Int) := by omega
    go_enter Try.func9, Try.ntmps9
    go_wp2_with fail
    refine (vsNew_any room w).mono ?_
    rintro e w1 he
    rcases he with ⟨hr1, hr2, p, rfl, h1, en1⟩ | ⟨hr, rfl, hb⟩
    · have hr1' : ¬ room < 1 := by omega
      have hr2' : ¬ (4096 : Int) < room := by omega
      have h2 := h1.blk (mdC room (.slice none 0 0) (.slice none 0 0) z8) 81
      have h3 : St (snap w) [VsA p room [] [] z8, MdA w1.heap.size room [] [] z8] (w1.alloc (.cells #[.int .i64 room, .slice none 0 0, .slice none 0 0, .int .i64 0, .int .i64 0, .int .i64 0, .int .i64 0, .int .i64 0, .int .i64 0, .int .i64 0, .int .i64 0] 81)) := (mdShut ((((h2.row_nil 28 2).row_nil 32 5).pick 2 (by simp)))).swap
      have en3 : Env w (w1.alloc (.cells #[.int .i64 room, .slice none 0 0, .slice none 0 0, .int .i64 0, .int .i64 0, .int .i64 0, .int .i64 0, .int .i64 0, .int .i64 0, .int .i64 0, .int .i64 0] 81)) := en1.alloc _
      clear h2 h1 en1
      go_wp2_with fail
      generalize w1.heap.size = q at *
      go_loopw [8] (fun iv wr => ∃ (k : Nat) (H' : Hp) (K : List Kp) (M : List Id) (low : List Nat) (L : List Rc), k ≤ l.length ∧ iv = .int .i64 (k : Int) ∧ Hp.le (snap w) H' ∧ St H' [VsA p room K M low, MdA q room L M low] wr ∧ Env w wr ∧ Hid (Inv21 H' K M low L k)) (fun i _ => l.length - (intOf i).toNat)
      case atStart => exact ⟨0, snap w, [], [], z8, [], by omega, by go_num, Hp.le_refl _, h3, en3, Lib.hid ⟨rel_start, ⟨by simp, by simp, by simp⟩, by simp, by simp, by simp⟩⟩
      case round =>
        clear h3 en3
        obtain ⟨k, H', K, M, low, L, hk, rfl, hle, hst, hen, HI⟩ := hrel
        by_cases hlt : k < l.length
        · obtain ⟨b, off, hA, hcr⟩ := ((hrd.mono hle).rw hst).cells (by omega)
          cases hA
          obtain ⟨p0, p1, p2, p3, p4, p5, p6, p7⟩ := accs_get l k hlt
          replace p0 := hcr _ _ p0
          replace p1 := hcr _ _ p1
          replace p2 := hcr _ _ p2
          replace p3 := hcr _ _ p3
          replace p4 := hcr _ _ p4
          replace p5 := hcr _ _ p5
          replace p6 := hcr _ _ p6
          replace p7 := hcr _ _ p7
          rw [← Nat.add_assoc] at p1 p2 p3 p4 p5 p6 p7
          clear hcr
          have hxk := hld.out l[k] (List.getElem_mem hlt)
          generalize l[k] = x at *
          obtain ⟨kd, ⟨⟨x0, x1⟩, x2, dv, bv, xD, xB⟩, i0, i1⟩ := x
          obtain ⟨d1, d2, d3, hdv, hd4, _⟩ := hxk.d.form
          obtain ⟨b1, b2, b3, hbv, hb4, _⟩ := hxk.b.form
          simp only at hdv hbv p0 p1 p2 p3 p4 p5 p6 p7 hd4 hb4 hxk
          subst hdv hbv
          have pl := World.block_lt_of_cell? _ _ p3
          obtain ⟨H1, l1, h6, hy⟩ := hst.box #[.int .i64 kd, .int .i64 x0, .int .i64 x1, .int .i64 x2, .slice d1 d2 d3, .slice b1 b2 b3, .int .i64 i0, .int .i64 i1] 83
          have y0 := hy 0 _ rfl
          have y1 := hy 1 _ rfl
          have y2 := hy 2 _ rfl
          have y3 := hy 3 _ rfl
          have y4 := hy 4 _ rfl
          have y5 := hy 5 _ rfl
          have y6 := hy 6 _ rfl
          have y7 := hy 7 _ rfl
          have en6 := hen.alloc (.cells #[.int .i64 kd, .int .i64 x0, .int .i64 x1, .int .i64 x2, .slice d1 d2 d3, .slice b1 b2 b3, .int .i64 i0, .int .i64 i1] 83)
          have hle1 := Hp.le_trans hle l1
          have HI1 := Lib.hid (HI.out.mono l1 (Nat.le_refl _))
          replace hxk := Lib.hid (hxk.mono (Hp.le_trans hle l1))
          clear hy HI
          have v0 := h6.cell y0
          have v4 := h6.cell y4
          have v5 := h6.cell y5
          have v6 := h6.cell y6
          have v7 := h6.cell y7
          have vl := World.block_lt_of_cell? _ _ v0
          by_cases hf1 : (20 : Int) < (d2 : Int)
          · have ht : decide ((20 : Int) < (d2 : Int)) = true := decide_eq_true hf1
            go_wp2_with fail
            refine (works21 _).mono ?_
            rintro e w3 ⟨rfl, hb3⟩
            have hz := ends21 hle1 h6 en6 hb3
            go_wp2_with fail
            go_ret
            exact ⟨rfl, hz⟩
          · have ht1 : decide ((20 : Int) < (d2 : Int)) = false := decide_eq_false hf1
            by_cases hf2 : (20 : Int) < (b2 : Int)
            · have ht : decide ((20 : Int) < (b2 : Int)) = true := decide_eq_true hf2
              go_wp2_with fail
              refine (works21 _).mono ?_
              rintro e w3 ⟨rfl, hb3⟩
              have hz := ends21 hle1 h6 en6 hb3
              go_wp2_with fail
              go_ret
              exact ⟨rfl, hz⟩
            · have ht2 : decide ((20 : Int) < (b2 : Int)) = false := decide_eq_false hf2
              have h7 := (h6.blk #[.int .i64 i0, .int .i64 i1] 28).perm ((List.Perm.swap _ _ _).trans (List.Perm.cons _ (List.Perm.swap _ _ _)))
              have en7 := en6.alloc (.cells #[.int .i64 i0, .int .i64 i1] 28)
              rw [World.size_alloc] at h7
              go_upto_block 2 with fail
              generalize hgi : wr.heap.size + 1 = gi at *
              generalize hga : wr.heap.size = ga at *
              generalize hw6 : wr.alloc (.cells #[.int .i64 kd, .int .i64 x0, .int .i64 x1, .int .i64 x2, .slice d1 d2 d3, .slice b1 b2 b3, .int .i64 i0, .int .i64 i1] 83) = w6 at *
              generalize hw7 : w6.alloc (.cells #[.int .i64 i0, .int .i64 i1] 28) = w7 at *
              clear hga hw6 hgi hw7 v0 v4 v5 v6 v7 vl h6 en6 p0 p1 p2 p3 p4 p5 p6 p7 pl hst hen
              go_cut [11] from 107 to 108 (fun s11 wx => ∃ (H' : Hp) (K : List Kp) (M : List Id) (low : List Nat) (L : List Rc) (r s : Int), Hp.le H1 H' ∧ St H' [VsA p room K M low, MdA q room L M low, Blk gi #[.int .i64 r, .int .i64 s] 28] wx ∧ Env w wx ∧ Hid (Inv21 H' K M low L (k + 1)))
              case first =>
                have v0 := h7.cell y0
                have vl := World.block_lt_of_cell? _ _ v0
                have hb := h7.pick 2 (by simp)
                have z0 := hb.blk_cell 0
                have z1 := hb.blk_cell 1
                have zl := hb.blk_lt
                by_cases k0 : kd = 0
                · as_aux_lemma =>
                    subst k0
                    have v1 := h7.cell y1
                    have v2 := h7.cell y2
                    have zf0 := hb.blk_free 0
                    have zf1 := hb.blk_free 1
                    have h8 : St H1 [Blk gi #[.int .i64 x0, .int .i64 x1] 28, VsA p room K M low, MdA q room L M low] ((w7.setCell ⟨gi, 0, none⟩ (.int .i64 x0)).setCell ⟨gi, 1, none⟩ (.int .i64 x1)) := (hb.blk_set 0 (.int .i64 x0)).blk_set 1 (.int .i64 x1)
                    have en8 := (en7.setCell ⟨gi, 0, none⟩ (.int .i64 x0)).setCell ⟨gi, 1, none⟩ (.int .i64 x1)
                    obtain ⟨E, hE⟩ : ∃ E, mdE room L low (rp ((x0, x1), x2, .slice d1 d2 d3, .slice b1 b2 b3, xD, xB)) = E := ⟨_, rfl⟩
                    have hSP := fun (Hc : Hp) (fr : List HA) (W : World) (hl : Hp.le H1 Hc) (h : St Hc (VsA p room K M low :: fr) W) => sPut21 H1 p room K M low L k ((x0, x1), x2, .slice d1 d2 d3, .slice b1 b2 b3, xD, xB) HI1.out hxk.out hl h
                    have hMP := fun (Hc : Hp) (fr : List HA) (W : World) (hl : Hp.le H1 Hc) (h : St Hc (MdA q room L M low :: fr) W) => mPut21 H1 q room K M low L k ((x0, x1), x2, .slice d1 d2 d3, .slice b1 b2 b3, xD, xB) HI1.out (by omega) hxk.out hl h
                    have hIP := fun (H' : Hp) (K' : List Kp) (hl : Hp.le H1 H') (hp : PutK H' K ((x0, x1), x2, .slice d1 d2 d3, .slice b1 b2 b3, xD, xB) E K') => HI1.out.put hl hxk.out hE hp (by omega)
                    rw [hE] at hSP hMP
                    clear hE
                    replace hSP := Lib.hid hSP
                    replace hMP := Lib.hid hMP
                    replace hIP := Lib.hid hIP
                    go_wp2_with fail
                    generalize (w7.setCell ⟨gi, 0, none⟩ (.int .i64 x0)).setCell ⟨gi, 1, none⟩ (.int .i64 x1) = w8 at *
                    clear v0 v1 v2 vl hb z0 z1 zl zf0 zf1 h7 en7
                    have h9 := (h8.pick 1 (by simp)).drew
                    have kk : ∀ (Hc : Hp) (l' : List HA) (w' : World), Hp.le H1 Hc → St Hc l' w' → (fun w' : World => w'.cell? ⟨ga, 1, none⟩ = some (.int .i64 x0) ∧ w'.cell? ⟨ga, 2, none⟩ = some (.int .i64 x1) ∧ w'.cell? ⟨ga, 3, none⟩ = some (.int .i64 x2) ∧ w'.cell? ⟨ga, 4, none⟩ = some (.slice d1 d2 d3) ∧ w'.cell? ⟨ga, 5, none⟩ = some (.slice b1 b2 b3)) w' := fun Hc l' w' hl h => ⟨h.cell (Hp.cell_le hl y1), h.cell (Hp.cell_le hl y2), h.cell (Hp.cell_le hl y3), h.cell (Hp.cell_le hl y4), h.cell (Hp.cell_le hl y5)⟩
                    have vl := World.block_lt_of_cell? _ _ (h8.cell y1)
                    refine wp_region_held_drew (S := (fun w' : World => w'.cell? ⟨ga, 1, none⟩ = some (.int .i64 x0) ∧ w'.cell? ⟨ga, 2, none⟩ = some (.int .i64 x1) ∧ w'.cell? ⟨ga, 3, none⟩ = some (.int .i64 x2) ∧ w'.cell? ⟨ga, 4, none⟩ = some (.slice d1 d2 d3) ∧ w'.cell? ⟨ga, 5, none⟩ = some (.slice b1 b2 b3))) (by kernel_rfl) (kk _ _ _ (Hp.le_refl _) h9) (fun hHeld => ?_)
                    refine wpAnyH_take (i := 0) (oi := { dst := some 114, op := Go.Op.move (Go.Operand.tmp 5), type := 67, pos := "law.go:120", after := #[], guard := none }) (v := ?_) rfl (by kernel_rfl) (by kernel_rfl) (by kernel_rfl) (fun _ _ _ h => h) (Or.inl ⟨by rfl, ?_⟩) (by assumption) ?_
                    rotate_left
                    · (intro w hSw; (try dsimp only at hSw); go_simp; (try (with_reducible rfl)))
                    try simp only [Act.put, List.setIfInBounds_toArray, List.set_cons_zero, List.set_cons_succ]
                    refine wpAnyH_take (i := 1) (oi := { dst := some 115, op := Go.Op.fieldAddr 83 (Go.Operand.tmp 9) 1, type := 0, pos := "law.go:120", after := #[], guard := none }) (v := ?_) rfl (by kernel_rfl) (by kernel_rfl) (by kernel_rfl) (fun _ _ _ h => h) (Or.inl ⟨by rfl, ?_⟩) (by assumption) ?_
                    rotate_left
                    · (intro w hSw; (try dsimp only at hSw); go_simp; (try (with_reducible rfl)))
                    try simp only [Act.put, List.setIfInBounds_toArray, List.set_cons_zero, List.set_cons_succ]
                    refine wpAnyH_take (i := 2) (oi := { dst := some 116, op := Go.Op.load 32 (Go.Operand.tmp 115), type := 32, pos := "law.go:120", after := #[{ on := 1, ground := Go.Ground.data }], guard := none }) (v := ?_) rfl (by kernel_rfl) (by kernel_rfl) (by kernel_rfl) (fun _ _ _ h => h) (Or.inl ⟨by rfl, ?_⟩) (by assumption) ?_
                    rotate_left
                    · (intro w hSw; (try dsimp only at hSw); go_simp; (try (with_reducible rfl)))
                    try simp only [Act.put, List.setIfInBounds_toArray, List.set_cons_zero, List.set_cons_succ]
                    refine wpAnyH_take (i := 4) (oi := { dst := some 118, op := Go.Op.move (Go.Operand.tmp 7), type := 78, pos := "law.go:120", after := #[], guard := none }) (v := ?_) rfl (by kernel_rfl) (by kernel_rfl) (by kernel_rfl) (fun _ _ _ h => h) (Or.inl ⟨by rfl, ?_⟩) (by assumption) ?_
                    rotate_left
                    · (intro w hSw; (try dsimp only at hSw); go_simp; (try (with_reducible rfl)))
                    try simp only [Act.put, List.setIfInBounds_toArray, List.set_cons_zero, List.set_cons_succ]
                    refine wpAnyH_take (i := 5) (oi := { dst := some 119, op := Go.Op.fieldAddr 83 (Go.Operand.tmp 9) 1, type := 0, pos := "law.go:120", after := #[], guard := none }) (v := ?_) rfl (by kernel_rfl) (by kernel_rfl) (by kernel_rfl) (fun _ _ _ h => h) (Or.inl ⟨by rfl, ?_⟩) (by assumption) ?_
                    rotate_left
                    · (intro w hSw; (try dsimp only at hSw); go_simp; (try (with_reducible rfl)))
                    try simp only [Act.put, List.setIfInBounds_toArray, List.set_cons_zero, List.set_cons_succ]
                    refine wpAnyH_take (i := 6) (oi := { dst := some 120, op := Go.Op.load 32 (Go.Operand.tmp 119), type := 32, pos := "law.go:120", after := #[{ on := 5, ground := Go.Ground.data }], guard := none }) (v := ?_) rfl (by kernel_rfl) (by kernel_rfl) (by kernel_rfl) (fun _ _ _ h => h) (Or.inl ⟨by rfl, ?_⟩) (by assumption) ?_
                    rotate_left
                    · (intro w hSw; (try dsimp only at hSw); go_simp; (try (with_reducible rfl)))
                    try simp only [Act.put, List.setIfInBounds_toArray, List.set_cons_zero, List.set_cons_succ]
                    refine wpAnyH_ready (rs := [3]) (by kernel_rfl) (by simp) ?_
                    refine AllReadyH.cons (o := { dst := some 117, op := Go.Op.call { callee := Go.Callee.value (Go.Operand.func 41), args := #[Go.Operand.tmp 114, Go.Operand.tmp 116], argTypes := #[67, 32] }, type := 34, pos := "law.go:120", after := #[{ on := 0, ground := Go.Ground.data }, { on := 2, ground := Go.Ground.data }], guard := none }) rfl (fun K hK => ?_) AllReadyH.nil
                    go_simp
                    refine (hSP.out _ _ _ (Hp.le_refl _) h9).mono ?_
                    rintro e w10 ⟨H2, K2, rfl, l2, h10, en10, hPK⟩
                    refine hK.out _ _ (kk _ _ _ l2 h10) (fun hHeld2 => ?_)
                    clear hK K hHeld
                    try simp only [Act.put, List.setIfInBounds_toArray, List.set_cons_zero, List.set_cons_succ]
                    refine wpAnyH_ready (rs := [7]) (by kernel_rfl) (by simp) ?_
                    refine AllReadyH.cons (o := { dst := some 121, op := Go.Op.call { callee := Go.Callee.value (Go.Operand.func 48), args := #[Go.Operand.tmp 118, Go.Operand.tmp 120], argTypes := #[78, 32] }, type := 34, pos := "law.go:120", after := #[{ on := 4, ground := Go.Ground.data }, { on := 6, ground := Go.Ground.data }, { on := 3, ground := Go.Ground.chain }], guard := none }) rfl (fun K hK => ?_) AllReadyH.nil
                    go_simp
                    refine (hMP.out _ _ _ l2 (h10.pick 2 (by simp))).mono ?_
                    rintro e w11 ⟨rfl, h11, en11⟩
                    refine hK.out _ _ (kk _ _ _ l2 h11) (fun hHeld3 => ?_)
                    clear hK K hHeld2
                    try simp only [Act.put, List.setIfInBounds_toArray, List.set_cons_zero, List.set_cons_succ]
                    refine wpAnyH_take (i := 8) (oi := { dst := some 122, op := Go.Op.binOp Go.BinOp.neq 34 (Go.Operand.tmp 117) (Go.Operand.tmp 121) 34, type := 4, pos := "law.go:120", after := #[{ on := 3, ground := Go.Ground.data }, { on := 7, ground := Go.Ground.data }], guard := none }) (v := ?_) rfl (by kernel_rfl) (by kernel_rfl) (by kernel_rfl) (fun _ _ _ h => h) (Or.inl ⟨by rfl, ?_⟩) (by assumption) ?_
                    rotate_left
                    · (intro w hSw; (try dsimp only at hSw); go_simp; (try (with_reducible rfl)))
                    try simp only [Act.put, List.setIfInBounds_toArray, List.set_cons_zero, List.set_cons_succ]
                    refine wpAnyH_done (by kernel_rfl) ?_ _
                    have hz := Lib.hid (hIP.out _ _ l2 hPK)
                    have en12 := (en8.drew.trans en10).trans en11
                    clear hHeld3 hPK
                    go_wp2_with fail
                    go_meet
                    exact ⟨H2, K2, M, low, _, x0, x1, l2, h11.perm ((List.Perm.cons _ (List.Perm.refl _)).trans (List.Perm.swap _ _ _)), en12, hz⟩
                · by_cases k1 : kd = 1
                  · as_aux_lemma =>
                      subst k1
                      obtain ⟨st, hs⟩ : ∃ st, stM L M (i0, i1) = st := ⟨_, rfl⟩
                      have hMS := mdStatus_any q room L M low (i0, i1) H1 _ w7 h7.swap
                      rw [hs] at hMS
                      replace hMS := Lib.hid hMS
                      by_cases hs1 : st = 1
                      · subst hs1
                        have hs2 : stK K M (i0, i1) = 1 := by rw [HI1.out.rel.status]; exact hs
                        have hmay := HI1.out.rel.may hs2
                        have hML : Hid (markL (i0, i1) M = ins (i0, i1) M) := Lib.hid (by unfold markL; rw [hmay.1, if_pos rfl])
                        have hPL : Hid (putL (i0, i1) M = ins (i0, i1) M) := Lib.hid (by unfold putL; rw [if_neg hmay.2.2])
                        have hDn := fun (fr : List HA) (w' : World) (h' : St H1 (VsA p room K M low :: fr) w') => vsDone_yes p room K M low (i0, i1) H1 fr w' h' HI1.out.kd hs2
                        rw [hmay.1] at hDn
                        replace hDn := Lib.hid hDn
                        have hMl : Hid (M.length ≤ 60) := Lib.hid (by have := HI1.out.mn; omega)
                        have hz := Lib.hid (HI1.out.done hs2)
                        clear hmay hs2 hs
                        go_wp2_with fail
                        refine hMS.out.mono ?_
                        rintro e w8 ⟨rfl, hb8⟩
                        have h8 := h7.below hb8
                        have en8 := en7.trans (bel_env hb8)
                        have hb2 := h8.pick 2 (by simp)
                        clear hb z0 z1 zl v0 vl h7 en7 hMS
                        have z0 := hb2.blk_cell 0
                        have z1 := hb2.blk_cell 1
                        have zl := hb2.blk_lt
                        go_wp2_with fail
                        refine (hDn.out _ _ h8).mono ?_
                        rintro e w9 ⟨rfl, h9, en9⟩
                        replace en9 := en8.trans en9
                        rw [hML.out] at h9
                        replace h9 : St H1 [VsA p room (doneK (i0, i1) K) (ins (i0, i1) M) low, MdA q room L M low, Blk gi #[.int .i64 i0, .int .i64 i1] 28] w9 := h9
                        clear hb2 z0 z1 zl h8 en8 hb8 hDn
                        generalize doneK (i0, i1) K = K1 at *
                        obtain ⟨lv, dv, h10⟩ := mdOpen h9.swap
                        obtain ⟨da, dn, dc, rfl, _⟩ := (h10.pick 2 (by simp)).row_form
                        go_wp2_with fail
                        have hD := (h10.pick 2 (by simp)).drew
                        have kq : ∀ (l' : List HA) (w' : World) (A B C : HA), St H1 (A :: B :: C :: VsA p room K1 (ins (i0, i1) M) low :: Blk gi #[.int .i64 i0, .int .i64 i1] 28 :: l') w' → (fun w' : World => w'.cell? ⟨gi, 0, none⟩ = some (.int .i64 i0) ∧ w'.cell? ⟨gi, 1, none⟩ = some (.int .i64 i1)) w' := fun l' w' A B C h => ⟨(h.pick 4 (by simp)).blk_cell 0, (h.pick 4 (by simp)).blk_cell 1⟩
                        have lc1 : w9.cell? ⟨q, 2, none⟩ = some (.slice da dn dc) := h10.blk_cell 2
                        have ll := h10.blk_lt
                        have gl := (h10.pick 4 (by simp)).blk_lt
                        refine wp_region_held_drew (S := fun w' : World => w'.cell? ⟨gi, 0, none⟩ = some (.int .i64 i0) ∧ w'.cell? ⟨gi, 1, none⟩ = some (.int .i64 i1)) (by kernel_rfl) (kq _ _ _ _ _ hD) (fun hHeld => ?_)
                        refine wpAnyH_take (i := 0) (oi := { dst := some 136, op := Go.Op.move (Go.Operand.tmp 7), type := 78, pos := "law.go:129", after := #[], guard := none }) (v := ?_) rfl (by kernel_rfl) (by kernel_rfl) (by kernel_rfl) (fun _ _ _ h => h) (Or.inl ⟨by rfl, ?_⟩) (by assumption) ?_
                        rotate_left
                        · (intro w hSw; (try dsimp only at hSw); go_simp; (try (with_reducible rfl)))
                        try simp only [Act.put, List.setIfInBounds_toArray, List.set_cons_zero, List.set_cons_succ]
                        refine wpAnyH_take (i := 1) (oi := { dst := some 137, op := Go.Op.move (Go.Operand.tmp 7), type := 78, pos := "law.go:129", after := #[], guard := none }) (v := ?_) rfl (by kernel_rfl) (by kernel_rfl) (by kernel_rfl) (fun _ _ _ h => h) (Or.inl ⟨by rfl, ?_⟩) (by assumption) ?_
                        rotate_left
                        · (intro w hSw; (try dsimp only at hSw); go_simp; (try (with_reducible rfl)))
                        try simp only [Act.put, List.setIfInBounds_toArray, List.set_cons_zero, List.set_cons_succ]
                        refine wpAnyH_take (i := 2) (oi := { dst := some 138, op := Go.Op.nilCheck (Go.Operand.tmp 137), type := 0, pos := "law.go:129", after := #[{ on := 1, ground := Go.Ground.data }], guard := none }) (v := ?_) rfl (by kernel_rfl) (by kernel_rfl) (by kernel_rfl) (fun _ _ _ h => h) (Or.inl ⟨by rfl, ?_⟩) (by assumption) ?_
                        rotate_left
                        · (intro w hSw; (try dsimp only at hSw); go_simp; (try (with_reducible rfl)))
                        try simp only [Act.put, List.setIfInBounds_toArray, List.set_cons_zero, List.set_cons_succ]
                        refine wpAnyH_take (i := 3) (oi := { dst := some 139, op := Go.Op.fieldAddr 81 (Go.Operand.tmp 138) 2, type := 0, pos := "law.go:129", after := #[{ on := 2, ground := Go.Ground.data }], guard := none }) (v := ?_) rfl (by kernel_rfl) (by kernel_rfl) (by kernel_rfl) (fun _ _ _ h => h) (Or.inl ⟨by rfl, ?_⟩) (by assumption) ?_
                        rotate_left
                        · (intro w hSw; (try dsimp only at hSw); go_simp; (try (with_reducible rfl)))
                        try simp only [Act.put, List.setIfInBounds_toArray, List.set_cons_zero, List.set_cons_succ]
                        refine wpAnyH_take (i := 5) (oi := { dst := some 141, op := Go.Op.load 28 (Go.Operand.tmp 10), type := 28, pos := "law.go:129", after := #[], guard := none }) (v := ?_) rfl (by kernel_rfl) (by kernel_rfl) (by kernel_rfl) (fun _ _ _ h => h) (Or.inl ⟨by rfl, ?_⟩) (by assumption) ?_
                        rotate_left
                        · (intro w hSw; (try dsimp only at hSw); go_simp; (try (with_reducible rfl)))
                        try simp only [Act.put, List.setIfInBounds_toArray, List.set_cons_zero, List.set_cons_succ]
                        refine wpAnyH_ready (rs := [4]) (by kernel_rfl) (by simp) ?_
                        refine AllReadyH.cons (o := { dst := some 140, op := Go.Op.load 29 (Go.Operand.tmp 139), type := 29, pos := "law.go:129", after := #[{ on := 3, ground := Go.Ground.data }], guard := none }) rfl (fun K hK => ?_) AllReadyH.nil
                        go_simp
                        refine hK.out _ _ (kq _ _ _ _ _ hD) (fun hHeld1 => ?_)
                        clear hK K hHeld
                        try simp only [Act.put, List.setIfInBounds_toArray, List.set_cons_zero, List.set_cons_succ]
                        refine wpAnyH_ready (rs := [6]) (by kernel_rfl) (by simp) ?_
                        refine AllReadyH.cons (o := { dst := some 142, op := Go.Op.call { callee := Go.Callee.value (Go.Operand.func 50), args := #[Go.Operand.tmp 140, Go.Operand.tmp 141], argTypes := #[29, 28] }, type := 29, pos := "law.go:129", after := #[{ on := 4, ground := Go.Ground.data }, { on := 5, ground := Go.Ground.data }], guard := none }) rfl (fun K hK => ?_) AllReadyH.nil
                        go_simp
                        refine (put_own _ M (i0, i1) _ _ _ hD (by have := hMl.out; omega)).mono ?_
                        rintro e w10 ⟨v', rfl, h11, en11⟩
                        rw [hPL.out] at h11
                        obtain ⟨va, vn, vc, rfl, _⟩ := h11.row_form
                        have sc : w10.cell? ⟨q, 2, none⟩ = some (.slice da dn dc) := h11.swap.blk_cell 2
                        have sf := h11.swap.blk_free 2
                        have sl := h11.swap.blk_lt
                        have h12 : St H1 (Blk q (mdC room lv (.slice va vn vc) low) 81 :: Row 28 2 (.slice va vn vc) (idl (ins (i0, i1) M)) :: Row 32 5 lv (recs L) :: VsA p room K1 (ins (i0, i1) M) low :: Blk gi #[.int .i64 i0, .int .i64 i1] 28 :: []) (w10.setCell ⟨q, 2, none⟩ (.slice va vn vc)) := h11.swap.blk_set 2 (.slice va vn vc)
                        refine hK.out _ _ (kq _ _ _ _ _ h11) (fun hHeld2 => ?_)
                        clear hK K hHeld1
                        try simp only [Act.put, List.setIfInBounds_toArray, List.set_cons_zero, List.set_cons_succ]
                        refine wpAnyH_take (i := 7) (oi := { dst := some 143, op := Go.Op.nilCheck (Go.Operand.tmp 136), type := 0, pos := "law.go:129", after := #[{ on := 0, ground := Go.Ground.data }, { on := 0, ground := Go.Ground.phase }, { on := 1, ground := Go.Ground.phase }, { on := 2, ground := Go.Ground.phase }, { on := 3, ground := Go.Ground.phase }, { on := 4, ground := Go.Ground.phase }, { on := 5, ground := Go.Ground.phase }, { on := 6, ground := Go.Ground.phase }], guard := none }) (v := ?_) rfl (by kernel_rfl) (by kernel_rfl) (by kernel_rfl) (fun _ _ _ h => h) (Or.inl ⟨by rfl, ?_⟩) (by assumption) ?_
                        rotate_left
                        · (intro w hSw; (try dsimp only at hSw); go_simp; (try (with_reducible rfl)))
                        try simp only [Act.put, List.setIfInBounds_toArray, List.set_cons_zero, List.set_cons_succ]
                        refine wpAnyH_take (i := 8) (oi := { dst := some 144, op := Go.Op.fieldAddr 81 (Go.Operand.tmp 143) 2, type := 0, pos := "law.go:129", after := #[{ on := 7, ground := Go.Ground.data }, { on := 0, ground := Go.Ground.phase }, { on := 1, ground := Go.Ground.phase }, { on := 2, ground := Go.Ground.phase }, { on := 3, ground := Go.Ground.phase }, { on := 4, ground := Go.Ground.phase }, { on := 5, ground := Go.Ground.phase }, { on := 6, ground := Go.Ground.phase }], guard := none }) (v := ?_) rfl (by kernel_rfl) (by kernel_rfl) (by kernel_rfl) (fun _ _ _ h => h) (Or.inl ⟨by rfl, ?_⟩) (by assumption) ?_
                        rotate_left
                        · (intro w hSw; (try dsimp only at hSw); go_simp; (try (with_reducible rfl)))
                        try simp only [Act.put, List.setIfInBounds_toArray, List.set_cons_zero, List.set_cons_succ]
                        refine wpAnyH_ready (rs := [9]) (by kernel_rfl) (by simp) ?_
                        refine AllReadyH.cons (o := { dst := none, op := Go.Op.store 29 (Go.Operand.tmp 144) (Go.Operand.tmp 142), type := 0, pos := "law.go:129", after := #[{ on := 8, ground := Go.Ground.data }, { on := 6, ground := Go.Ground.data }, { on := 6, ground := Go.Ground.chain }, { on := 0, ground := Go.Ground.phase }, { on := 1, ground := Go.Ground.phase }, { on := 2, ground := Go.Ground.phase }, { on := 3, ground := Go.Ground.phase }, { on := 4, ground := Go.Ground.phase }, { on := 5, ground := Go.Ground.phase }, { on := 6, ground := Go.Ground.phase }], guard := none }) rfl (fun K hK => ?_) AllReadyH.nil
                        go_simp
                        refine hK.out _ _ (kq _ _ _ _ _ h12) (fun hHeld3 => ?_)
                        clear hK K hHeld2
                        try simp only [Act.put, List.setIfInBounds_toArray, List.set_cons_zero, List.set_cons_succ]
                        refine wpAnyH_done (by kernel_rfl) ?_ _
                        have h13 := mdShut (h12.perm (List.Perm.cons _ (List.Perm.swap _ _ _)))
                        have en13 := (en9.drew.trans en11).setCell ⟨q, 2, none⟩ (.slice va vn vc)
                        clear hHeld3
                        go_wp2_with fail
                        go_meet
                        exact ⟨H1, _, _, low, L, i0, i1, Hp.le_refl _, h13.swap, en13, hz⟩
                      · have hs2 : stK K M (i0, i1) ≠ 1 := by rw [HI1.out.rel.status, hs]; exact hs1
                        have hsd : decide (st = 1) = false := decide_eq_false hs1
                        have hDn := Lib.hid (fun (fr : List HA) (w' : World) (h' : St H1 (VsA p room K M low :: fr) w') => vsDone_no p room K M low (i0, i1) H1 fr w' h' HI1.out.kd hs2)
                        have hz := Lib.hid (HI1.out.mono (Hp.le_refl _) (Nat.le_succ k))
                        clear hs2 hs
                        go_wp2_with fail
                        refine hMS.out.mono ?_
                        rintro e w8 ⟨rfl, hb8⟩
                        have h8 := h7.below hb8
                        have en8 := en7.trans (bel_env hb8)
                        have hb2 := h8.pick 2 (by simp)
                        clear hb z0 z1 zl v0 vl h7 en7 hMS
                        have z0 := hb2.blk_cell 0
                        have z1 := hb2.blk_cell 1
                        have zl := hb2.blk_lt
                        go_wp2_with fail
                        refine (hDn.out _ _ h8).mono ?_
                        rintro e w9 ⟨rfl, hb9⟩
                        have h9 := h8.below hb9
                        have en9 := en8.trans (bel_env hb9)
                        go_wp2_with fail
                        go_meet
                        exact ⟨H1, K, M, low, L, i0, i1, Hp.le_refl _, h9, en9, hz⟩
                  · by_cases k2 : kd = 2
                    · as_aux_lemma =>
                        subst k2
                        have hC1 := Lib.hid (vsCompact_any p room K M low HI1.out.rel.len H1 _ w7 h7 HI1.out.kd.n HI1.out.rel.idk)
                        have hC2 := Lib.hid (fun (fr : List HA) (w' : World) (h' : St H1 (MdA q room L M low :: fr) w') => mdCompact_any q room L M low HI1.out.rel.len H1 fr w' h' (by have := HI1.out.rel.length; have := HI1.out.kn; omega) (by have := HI1.out.mn; omega) (by
                          intro x hx
                          have : x.1 ∈ kids K := by rw [HI1.out.rel.kids]; exact List.mem_map.2 ⟨x, hx, rfl⟩
                          obtain ⟨y, hy, he⟩ := List.mem_map.1 this
                          rw [← he]
                          exact HI1.out.rel.idk y hy) HI1.out.ld)
                        go_wp2_with fail
                        refine hC1.out.mono ?_
                        rintro e w8 ⟨low2, hl2, hf2, he, h8, en8⟩
                        generalize hc : ((K.length : Int) - ((keepK low2 K).length : Int)) = c at he
                        subst he
                        replace hc := Lib.hid hc
                        replace hf2 : Hid (FlL M low2) := Lib.hid hf2
                        go_wp2_with fail
                        refine (hC2.out _ _ h8.swap).mono ?_
                        rintro e w9 ⟨low3, hl3, hf3, he, h9, en9⟩
                        obtain rfl : low2 = low3 := low_one hl2 hl3 hf2.out hf3
                        rw [← keep_len21 HI1.out.rel, ← HI1.out.rel.length, hc.out] at he
                        subst he
                        have hz := Lib.hid ((HI1.out.compact hl2 hf2.out).mono (Hp.le_refl _) (Nat.le_succ k))
                        have en10 := (en7.trans en8).trans en9
                        clear hf3
                        go_wp2_with fail
                        go_meet
                        exact ⟨H1, _, M, low2, _, i0, i1, Hp.le_refl _, h9.swap, en10, hz⟩
                    · as_aux_lemma =>
                        have hz := Lib.hid (HI1.out.mono (Hp.le_refl _) (Nat.le_succ k))
                        have e0 : decide (kd = 0) = false := decide_eq_false k0
                        have e1 : decide (kd = 1) = false := decide_eq_false k1
                        have e2 : decide (kd = 2) = false := decide_eq_false k2
                        go_wp2_with fail
                        go_meet
                        exact ⟨H1, K, M, low, L, i0, i1, Hp.le_refl _, h7, en7, hz⟩
              case rest =>
                clear h7 en7 HI1
                clear K M low L
                obtain ⟨H2, K, M, low, L, r, s, l2, h8, en8, HI⟩ := hcut
                have hle2 := Hp.le_trans hle1 l2
                clear l2 y0 y1 y2 y3 y4 y5 y6 y7 hxk
                obtain ⟨H3, l3, h9, kc⟩ := St.blk_for_good (h8.pick 2 (by simp))
                have m0 := kc 0
                have m1 := kc 1
                clear kc h8
                have hle3 := Hp.le_trans hle2 l3
                replace HI := Lib.hid (HI.out.mono l3 (Nat.le_refl _))
                have hk60 : k < 60 := by omega
                have hKl : K.length ≤ 61 := by have := HI.out.kn; omega
                have hLK : K.length = L.length := HI.out.rel.length
                have hMl : M.length ≤ 61 := by have := HI.out.mn; omega
                obtain ⟨lv, dv, h10⟩ := mdOpen h9.swap
                obtain ⟨la, ln, lc, rfl, hln, hlc, hlm⟩ := (h10.pick 1 (by simp)).row_form
                rw [recs_len] at hln
                obtain rfl : ln = L.length := by omega
                clear hln h9
                have hFp := findAt_pos (r, s) (rids L) 0 (by omega)
                have hFl := findAt_look (r, s) L 0
                have hF := fun (w' : World) (h' : Rw w' 5 (.slice la L.length lc) (recs L)) => find_any (.slice la L.length lc) L (r, s) w' h'
                obtain ⟨F, hFF⟩ : ∃ F, findAt (r, s) (rids L) 0 = F := ⟨_, rfl⟩
                rw [hFF] at hFp hFl hF
                clear hFF
                replace hF := Lib.hid hF
                have kk : ∀ (Hc : Hp) (w' : World) (l' : List HA), Hp.le H3 Hc → St Hc (Blk q (mdC room (.slice la L.length lc) dv low) 81 :: l') w' → (fun w' : World => w'.cell? ⟨q, 1, none⟩ = some (.slice la L.length lc) ∧ w'.cell? ⟨gi, 0, none⟩ = some (.int .i64 r) ∧ w'.cell? ⟨gi, 1, none⟩ = some (.int .i64 s)) w' := fun Hc w' l' hl h => ⟨h.blk_cell 1, h.cell (Hp.cell_le hl m0), h.cell (Hp.cell_le hl m1)⟩
                have hD := h10.drew
                have ql := h10.blk_lt
                have gl := World.block_lt_of_cell? _ _ (h10.cell m0)
                go_wp2_with fail
                refine wp_region_held_drew (S := fun w' : World => w'.cell? ⟨q, 1, none⟩ = some (.slice la L.length lc) ∧ w'.cell? ⟨gi, 0, none⟩ = some (.int .i64 r) ∧ w'.cell? ⟨gi, 1, none⟩ = some (.int .i64 s)) (by kernel_rfl) (kk _ _ _ (Hp.le_refl _) hD) (fun hHeld => ?_)
                refine wpAnyH_take (i := 0) (oi := { dst := some 152, op := Go.Op.move (Go.Operand.tmp 7), type := 78, pos := "law.go:136", after := #[], guard := none }) (v := ?_) rfl (by kernel_rfl) (by kernel_rfl) (by kernel_rfl) (fun _ _ _ h => h) (Or.inl ⟨by rfl, ?_⟩) (by assumption) ?_
                rotate_left
                · (intro w hSw; (try dsimp only at hSw); go_simp; (try (with_reducible rfl)))
                try simp only [Act.put, List.setIfInBounds_toArray, List.set_cons_zero, List.set_cons_succ]
                refine wpAnyH_take (i := 1) (oi := { dst := some 153, op := Go.Op.nilCheck (Go.Operand.tmp 152), type := 0, pos := "law.go:136", after := #[{ on := 0, ground := Go.Ground.data }], guard := none }) (v := ?_) rfl (by kernel_rfl) (by kernel_rfl) (by kernel_rfl) (fun _ _ _ h => h) (Or.inl ⟨by rfl, ?_⟩) (by assumption) ?_
                rotate_left
                · (intro w hSw; (try dsimp only at hSw); go_simp; (try (with_reducible rfl)))
                try simp only [Act.put, List.setIfInBounds_toArray, List.set_cons_zero, List.set_cons_succ]
                refine wpAnyH_take (i := 2) (oi := { dst := some 154, op := Go.Op.fieldAddr 81 (Go.Operand.tmp 153) 1, type := 0, pos := "law.go:136", after := #[{ on := 1, ground := Go.Ground.data }], guard := none }) (v := ?_) rfl (by kernel_rfl) (by kernel_rfl) (by kernel_rfl) (fun _ _ _ h => h) (Or.inl ⟨by rfl, ?_⟩) (by assumption) ?_
                rotate_left
                · (intro w hSw; (try dsimp only at hSw); go_simp; (try (with_reducible rfl)))
                try simp only [Act.put, List.setIfInBounds_toArray, List.set_cons_zero, List.set_cons_succ]
                refine wpAnyH_take (i := 3) (oi := { dst := some 155, op := Go.Op.load 22 (Go.Operand.tmp 154), type := 22, pos := "law.go:136", after := #[{ on := 2, ground := Go.Ground.data }], guard := none }) (v := ?_) rfl (by kernel_rfl) (by kernel_rfl) (by kernel_rfl) (fun _ _ _ h => h) (Or.inl ⟨by rfl, ?_⟩) (by assumption) ?_
                rotate_left
                · (intro w hSw; (try dsimp only at hSw); go_simp; (try (with_reducible rfl)))
                try simp only [Act.put, List.setIfInBounds_toArray, List.set_cons_zero, List.set_cons_succ]
                refine wpAnyH_take (i := 4) (oi := { dst := some 156, op := Go.Op.load 28 (Go.Operand.tmp 10), type := 28, pos := "law.go:136", after := #[], guard := none }) (v := ?_) rfl (by kernel_rfl) (by kernel_rfl) (by kernel_rfl) (fun _ _ _ h => h) (Or.inl ⟨by rfl, ?_⟩) (by assumption) ?_
                rotate_left
                · (intro w hSw; (try dsimp only at hSw); go_simp; (try (with_reducible rfl)))
                try simp only [Act.put, List.setIfInBounds_toArray, List.set_cons_zero, List.set_cons_succ]
                refine wpAnyH_ready (rs := [5]) (by kernel_rfl) (by simp) ?_
                refine AllReadyH.cons (o := { dst := some 157, op := Go.Op.call { callee := Go.Callee.value (Go.Operand.func 24), args := #[Go.Operand.tmp 155, Go.Operand.tmp 156], argTypes := #[22, 28] }, type := 3, pos := "law.go:136", after := #[{ on := 3, ground := Go.Ground.data }, { on := 4, ground := Go.Ground.data }], guard := none }) rfl (fun K hK => ?_) AllReadyH.nil
                go_simp
                refine (hF.out _ ((hD.pick 1 (by simp)).row_rw (by decide))).mono ?_
                rintro e w9 ⟨rfl, hb9⟩
                have h11 := hD.below hb9
                refine hK.out _ _ (kk _ _ _ (Hp.le_refl _) h11) (fun hHeld2 => ?_)
                clear hK K hHeld
                try simp only [Act.put, List.setIfInBounds_toArray, List.set_cons_zero, List.set_cons_succ]
                refine wpAnyH_take (i := 6) (oi := { dst := some 12, op := Go.Op.assign (Go.Operand.tmp 157), type := 3, pos := "law.go:136", after := #[{ on := 5, ground := Go.Ground.data }, { on := 5, ground := Go.Ground.chain }, { on := 0, ground := Go.Ground.phase }, { on := 1, ground := Go.Ground.phase }, { on := 2, ground := Go.Ground.phase }, { on := 3, ground := Go.Ground.phase }, { on := 4, ground := Go.Ground.phase }, { on := 5, ground := Go.Ground.phase }], guard := none }) (v := ?_) rfl (by kernel_rfl) (by kernel_rfl) (by kernel_rfl) (fun _ _ _ h => h) (Or.inl ⟨by rfl, ?_⟩) (by assumption) ?_
                rotate_left
                · (intro w hSw; (try dsimp only at hSw); go_simp; (try (with_reducible rfl)))
                try simp only [Act.put, List.setIfInBounds_toArray, List.set_cons_zero, List.set_cons_succ]
                refine wpAnyH_done (by kernel_rfl) ?_ _
                have en11 := en8.drew.trans (bel_env hb9)
                clear hHeld2 hD h10 en8 ql gl hb9 hF
                have hVR := vsRecord_any p room K M low (r, s) H3 _ w9 (h11.pick 3 (by simp)) HI.out.kd
                have v0 := h11.cell m0
                have v1 := h11.cell m1
                have vl := World.block_lt_of_cell? _ _ v0
                obtain ⟨B, hB⟩ : ∃ B, decide ((r, s) ∈ kids K) = B := ⟨_, rfl⟩
                have hFB : Hid (decide (0 ≤ F) = B) := Lib.hid (by rw [← hB, decide_eq_decide, hFp, ← HI.out.rel.kids])
                unfold VRec at hVR
                rw [hB] at hVR
                replace hB := Lib.hid hB
                replace hFl := Lib.hid hFl
                replace hVR := Lib.hid hVR
                clear hFp
                go_wp2_with fail
                refine hVR.out.mono ?_
                rintro e w11 ⟨H4, y, l4, h12, en12, rfl, hyd, hyrp⟩
                replace en12 := en11.trans en12
                clear hVR h11 v0 v1 vl
                obtain ⟨e1, e2, e3, hev, _⟩ := hyd.d.form
                obtain ⟨f1, f2, f3, hfv, _⟩ := hyd.b.form
                obtain ⟨H5, l5, h13, ay⟩ := St.rcBox h12 y
                have en13 := en12.alloc (.cells (rcA y) 32)
                replace hyd := hyd.mono l5
                obtain ⟨⟨t0, t1⟩, tq, td, tb, tD, tB⟩ := y
                simp only at hev hfv h13 en13
                subst hev hfv
                have le35 := Hp.le_trans l4 l5
                have u0 := Hp.cell_le le35 m0
                have u1 := Hp.cell_le le35 m1
                have HI5 := Lib.hid (HI.out.mono le35 (Nat.le_refl _))
                have hle5 := Hp.le_trans hle3 le35
                clear HI le35 l4 l5 m0 m1 h12 en12
                have hO : St H5 (Blk q (mdC room (.slice la L.length lc) dv low) 81 :: Row 32 5 (.slice la L.length lc) (recs L) :: Row 28 2 dv (idl M) :: VsA p room K M low :: []) _ := h13.perm (List.perm_append_comm (l₁ := [VsA p room K M low]) (l₂ := [_, _, _]))
                obtain ⟨st, hst⟩ : ∃ st, stM L M (r, s) = st := ⟨_, rfl⟩
                have hS1 := fun (fr : List HA) (w' : World) (h' : St H5 (VsA p room K M low :: fr) w') => vsStatus_any p room K M low (r, s) H5 fr w' h' HI5.out.kd
                have hS2 := fun (fr : List HA) (w' : World) (h' : St H5 (MdA q room L M low :: fr) w') => mdStatus_any q room L M low (r, s) H5 fr w' h'
                have hFr := fun (fr : List HA) (w' : World) (h' : St H5 (VsA p room K M low :: fr) w') => vsFree_any p room ⟨by omega, by omega⟩ K (by omega) M low H5 fr w' h'
                have hKe := fun (fr : List HA) (w' : World) (h' : St H5 (VsA p room K M low :: fr) w') => vsKept_any p room K M low H5 fr w' h' (by omega)
                have hMk := fun (lv dv : Value) (H' : Hp) (fr : List HA) (w' : World) (h' : St H' (Blk q (mdC room lv dv low) 81 :: Row 32 5 lv (recs L) :: Row 28 2 dv (idl M) :: fr) w') => mdKept_open q room L M low lv dv H' fr w' h' (by omega)
                obtain ⟨N, hN⟩ := flp_ex M r
                have hF1 := fun (H' : Hp) (fr : List HA) (w' : World) (h' : St H' (VsA p room K M low :: fr) w') => vsFloor_ok HI5.out.rel hN H' fr w' h'
                have hF2 := fun (H' : Hp) (fr : List HA) (w' : World) (h' : St H' (MdA q room L M low :: fr) w') => mdFloor_ok hN (by omega) H' fr w' h'
                rw [HI5.out.rel.status, hst] at hS1
                rw [hst] at hS2
                rw [hLK] at hFr
                rw [HI5.out.rel.kids] at hKe
                clear hst hN
                replace hS1 := Lib.hid hS1
                replace hS2 := Lib.hid hS2
                replace hFr := Lib.hid hFr
                replace hKe := Lib.hid hKe
                replace hMk := Lib.hid hMk
                replace hF1 := Lib.hid hF1
                replace hF2 := Lib.hid hF2
                have hw : IntKind.i64.wrap (room - (L.length : Int)) = room - (L.length : Int) := by rw [IntKind.wrap_i64]; omega
                have v0 := hO.cell u0
                have vl := World.block_lt_of_cell? _ _ v0
                clear h13 hlc hlm
                cases B with
                | true =>
                  as_aux_lemma =>
                    obtain ⟨i, hi, hFi, hLi, hLr⟩ := hFl.out (by rw [← HI5.out.rel.kids]; exact of_decide_eq_true hB.out)
                    obtain rfl : F = (i : Int) := by omega
                    have hsm := rp_at21 HI5.out.rel hyrp (of_decide_eq_true hB.out) hi hLr
                    have hzd := HI5.out.ld L[i] (List.getElem_mem hi)
                    obtain ⟨lb, lof, hA, hcr⟩ := ((hO.pick 1 (by simp)).row_rw (by decide)).cells (by omega)
                    cases hA
                    clear hcr
                    have hSm := fun (w' : World) (h' : St H5 (Blk q (mdC room (.slice (some ⟨lb, lof, none⟩) L.length lc) dv low) 81 :: Row 32 5 (.slice (some ⟨lb, lof, none⟩) L.length lc) (recs L) :: Row 28 2 dv (idl M) :: VsA p room K M low :: []) w') => refRecSame_any ((t0, t1), tq, .slice e1 e2 e3, .slice f1 f2 f3, tD, tB) L[i] w' (hyd.rw h') (hzd.rw h')
                    rw [hsm] at hSm
                    have hrg := recs_get L i hi
                    clear hsm hLr hLi hFi
                    generalize L[i] = z at *
                    obtain ⟨j1, j2, j3, hev, _⟩ := hzd.d.form
                    obtain ⟨k1, k2, k3, hfv, _⟩ := hzd.b.form
                    obtain ⟨⟨z0, z1⟩, zq, zd, zb, zD, zB⟩ := z
                    simp only at hev hfv hrg
                    subst hev hfv
                    replace hSm := Lib.hid hSm
                    have kk : ∀ (Hc : Hp) (w' : World) (l' : List HA), Hp.le H5 Hc → St Hc (Blk q (mdC room (.slice (some ⟨lb, lof, none⟩) L.length lc) dv low) 81 :: Row 32 5 (.slice (some ⟨lb, lof, none⟩) L.length lc) (recs L) :: l') w' → (fun w' : World => w'.cell? ⟨q, 1, none⟩ = some (.slice (some ⟨lb, lof, none⟩) L.length lc) ∧ w'.cell? ⟨gi, 0, none⟩ = some (.int .i64 r) ∧ w'.cell? ⟨gi, 1, none⟩ = some (.int .i64 s) ∧ w'.cell? ⟨w11.heap.size, 0, none⟩ = some (.int .i64 t0) ∧ w'.cell? ⟨w11.heap.size, 1, none⟩ = some (.int .i64 t1) ∧ w'.cell? ⟨w11.heap.size, 2, none⟩ = some (.int .i64 tq) ∧ w'.cell? ⟨w11.heap.size, 3, none⟩ = some (.slice e1 e2 e3) ∧ w'.cell? ⟨w11.heap.size, 4, none⟩ = some (.slice f1 f2 f3) ∧ w'.cell? ⟨lb, lof + i * 5, none⟩ = some (.int .i64 z0) ∧ w'.cell? ⟨lb, lof + i * 5 + 1, none⟩ = some (.int .i64 z1) ∧ w'.cell? ⟨lb, lof + i * 5 + 2, none⟩ = some (.int .i64 zq) ∧ w'.cell? ⟨lb, lof + i * 5 + 3, none⟩ = some (.slice j1 j2 j3) ∧ w'.cell? ⟨lb, lof + i * 5 + 4, none⟩ = some (.slice k1 k2 k3)) w' := fun Hc w' l' hl h => by
                      obtain ⟨b2, o2, hA2, hc2⟩ := (h.swap.row_rw (by decide)).cells (by omega)
                      cases hA2
                      obtain ⟨p0, p1, p2, p3, p4⟩ := hrg
                      exact ⟨h.blk_cell 1, h.cell (Hp.cell_le hl u0), h.cell (Hp.cell_le hl u1), h.cell (Hp.cell_le hl ay.1), h.cell (Hp.cell_le hl ay.2.1), h.cell (Hp.cell_le hl ay.2.2.1), h.cell (Hp.cell_le hl ay.2.2.2.1), h.cell (Hp.cell_le hl ay.2.2.2.2), hc2 _ _ p0, by rw [Nat.add_assoc]; exact hc2 _ _ p1, by rw [Nat.add_assoc]; exact hc2 _ _ p2, by rw [Nat.add_assoc]; exact hc2 _ _ p3, by rw [Nat.add_assoc]; exact hc2 _ _ p4⟩
                    have hi' : (i : Int) < (L.length : Int) := by omega
                    have hi0 : (0 : Int) ≤ (i : Int) := by omega
                    have hi1 : decide ((0 : Int) ≤ (i : Int)) = true := decide_eq_true hi0
                    have ql := hO.blk_lt
                    replace kk := Lib.hid kk
                    clear hFl hzd hFB hyd hrg
                    go_wp2_with fail
                    generalize hgr : w11.heap.size = gr at *
                    generalize w11.alloc (.cells (rcA ((t0, t1), tq, .slice e1 e2 e3, .slice f1 f2 f3, tD, tB)) 32) = w12 at *
                    replace hO := hO.drew
                    replace en13 := en13.drew
                    refine wp_region_held_drew (S := (fun w' : World => w'.cell? ⟨q, 1, none⟩ = some (.slice (some ⟨lb, lof, none⟩) L.length lc) ∧ w'.cell? ⟨gi, 0, none⟩ = some (.int .i64 r) ∧ w'.cell? ⟨gi, 1, none⟩ = some (.int .i64 s) ∧ w'.cell? ⟨gr, 0, none⟩ = some (.int .i64 t0) ∧ w'.cell? ⟨gr, 1, none⟩ = some (.int .i64 t1) ∧ w'.cell? ⟨gr, 2, none⟩ = some (.int .i64 tq) ∧ w'.cell? ⟨gr, 3, none⟩ = some (.slice e1 e2 e3) ∧ w'.cell? ⟨gr, 4, none⟩ = some (.slice f1 f2 f3) ∧ w'.cell? ⟨lb, lof + i * 5, none⟩ = some (.int .i64 z0) ∧ w'.cell? ⟨lb, lof + i * 5 + 1, none⟩ = some (.int .i64 z1) ∧ w'.cell? ⟨lb, lof + i * 5 + 2, none⟩ = some (.int .i64 zq) ∧ w'.cell? ⟨lb, lof + i * 5 + 3, none⟩ = some (.slice j1 j2 j3) ∧ w'.cell? ⟨lb, lof + i * 5 + 4, none⟩ = some (.slice k1 k2 k3))) (by kernel_rfl) (kk.out _ _ _ (Hp.le_refl _) hO) (fun hHeld => ?_)
                    refine wpAnyH_take (i := 0) (oi := { dst := some 164, op := Go.Op.move (Go.Operand.tmp 5), type := 67, pos := "law.go:138", after := #[], guard := none }) (v := ?_) rfl (by kernel_rfl) (by kernel_rfl) (by kernel_rfl) (fun _ _ _ h => h) (Or.inl ⟨by rfl, ?_⟩) (by assumption) ?_
                    rotate_left
                    · (intro w hSw; (try dsimp only at hSw); go_simp; (try (with_reducible rfl)))
                    try simp only [Act.put, List.setIfInBounds_toArray, List.set_cons_zero, List.set_cons_succ]
                    refine wpAnyH_take (i := 1) (oi := { dst := some 165, op := Go.Op.load 28 (Go.Operand.tmp 10), type := 28, pos := "law.go:138", after := #[], guard := none }) (v := ?_) rfl (by kernel_rfl) (by kernel_rfl) (by kernel_rfl) (fun _ _ _ h => h) (Or.inl ⟨by rfl, ?_⟩) (by assumption) ?_
                    rotate_left
                    · (intro w hSw; (try dsimp only at hSw); go_simp; (try (with_reducible rfl)))
                    try simp only [Act.put, List.setIfInBounds_toArray, List.set_cons_zero, List.set_cons_succ]
                    refine wpAnyH_take (i := 3) (oi := { dst := some 167, op := Go.Op.move (Go.Operand.tmp 7), type := 78, pos := "law.go:138", after := #[], guard := none }) (v := ?_) rfl (by kernel_rfl) (by kernel_rfl) (by kernel_rfl) (fun _ _ _ h => h) (Or.inl ⟨by rfl, ?_⟩) (by assumption) ?_
                    rotate_left
                    · (intro w hSw; (try dsimp only at hSw); go_simp; (try (with_reducible rfl)))
                    try simp only [Act.put, List.setIfInBounds_toArray, List.set_cons_zero, List.set_cons_succ]
                    refine wpAnyH_take (i := 4) (oi := { dst := some 168, op := Go.Op.load 28 (Go.Operand.tmp 10), type := 28, pos := "law.go:138", after := #[], guard := none }) (v := ?_) rfl (by kernel_rfl) (by kernel_rfl) (by kernel_rfl) (fun _ _ _ h => h) (Or.inl ⟨by rfl, ?_⟩) (by assumption) ?_
                    rotate_left
                    · (intro w hSw; (try dsimp only at hSw); go_simp; (try (with_reducible rfl)))
                    try simp only [Act.put, List.setIfInBounds_toArray, List.set_cons_zero, List.set_cons_succ]
                    refine wpAnyH_ready (rs := [2]) (by kernel_rfl) (by simp) ?_
                    refine AllReadyH.cons (o := { dst := some 166, op := Go.Op.call { callee := Go.Callee.value (Go.Operand.func 46), args := #[Go.Operand.tmp 164, Go.Operand.tmp 165], argTypes := #[67, 28] }, type := 3, pos := "law.go:138", after := #[{ on := 0, ground := Go.Ground.data }, { on := 1, ground := Go.Ground.data }], guard := none }) rfl (fun K hK => ?_) AllReadyH.nil
                    go_simp
                    refine (hS1.out _ _ (hO.pick 3 (by simp))).mono ?_
                    rintro e w14 ⟨rfl, hb14⟩
                    replace hO := hO.below hb14
                    replace en13 := en13.trans (bel_env hb14)
                    refine hK.out _ _ (kk.out _ _ _ (Hp.le_refl _) hO) (fun hHeld => ?_)
                    clear hK K
                    try simp only [Act.put, List.setIfInBounds_toArray, List.set_cons_zero, List.set_cons_succ]
                    refine wpAnyH_ready (rs := [5]) (by kernel_rfl) (by simp) ?_
                    refine AllReadyH.cons (o := { dst := some 169, op := Go.Op.call { callee := Go.Callee.value (Go.Operand.func 49), args := #[Go.Operand.tmp 167, Go.Operand.tmp 168], argTypes := #[78, 28] }, type := 3, pos := "law.go:138", after := #[{ on := 3, ground := Go.Ground.data }, { on := 4, ground := Go.Ground.data }, { on := 2, ground := Go.Ground.chain }], guard := none }) rfl (fun K hK => ?_) AllReadyH.nil
                    go_simp
                    refine (hS2.out _ _ (mdShut hO)).mono ?_
                    rintro e w15 ⟨rfl, hb15⟩
                    replace hO := hO.below hb15
                    replace en13 := en13.trans (bel_env hb15)
                    refine hK.out _ _ (kk.out _ _ _ (Hp.le_refl _) hO) (fun hHeld => ?_)
                    clear hK K
                    try simp only [Act.put, List.setIfInBounds_toArray, List.set_cons_zero, List.set_cons_succ]
                    refine wpAnyH_take (i := 6) (oi := { dst := some 170, op := Go.Op.binOp Go.BinOp.neq 3 (Go.Operand.tmp 166) (Go.Operand.tmp 169) 3, type := 4, pos := "law.go:138", after := #[{ on := 2, ground := Go.Ground.data }, { on := 5, ground := Go.Ground.data }], guard := none }) (v := ?_) rfl (by kernel_rfl) (by kernel_rfl) (by kernel_rfl) (fun _ _ _ h => h) (Or.inl ⟨by rfl, ?_⟩) (by assumption) ?_
                    rotate_left
                    · (intro w hSw; (try dsimp only at hSw); go_simp; (try (with_reducible rfl)))
                    try simp only [Act.put, List.setIfInBounds_toArray, List.set_cons_zero, List.set_cons_succ]
                    refine wpAnyH_take (i := 7) (oi := { dst := some 171, op := Go.Op.move (Go.Operand.tmp 170), type := 4, pos := "law.go:138", after := #[{ on := 6, ground := Go.Ground.data }, { on := 5, ground := Go.Ground.chain }], guard := none }) (v := ?_) rfl (by kernel_rfl) (by kernel_rfl) (by kernel_rfl) (fun _ _ _ h => h) (Or.inl ⟨by rfl, ?_⟩) (by assumption) ?_
                    rotate_left
                    · (intro w hSw; (try dsimp only at hSw); go_simp; (try (with_reducible rfl)))
                    try simp only [Act.put, List.setIfInBounds_toArray, List.set_cons_zero, List.set_cons_succ]
                    refine wpAnyH_take (i := 8) (oi := { dst := some 172, op := Go.Op.move (Go.Operand.tmp 14), type := 4, pos := "law.go:138", after := #[{ on := 7, ground := Go.Ground.guard }], guard := some (7, false) }) (v := ?_) rfl (by kernel_rfl) (by kernel_rfl) (by kernel_rfl) (fun _ _ _ h => h) (Or.inl ⟨by rfl, ?_⟩) (by assumption) ?_
                    rotate_left
                    · (intro w hSw; (try dsimp only at hSw); go_simp; (try (with_reducible rfl)))
                    try simp only [Act.put, List.setIfInBounds_toArray, List.set_cons_zero, List.set_cons_succ]
                    refine wpAnyH_take (i := 9) (oi := { dst := some 173, op := Go.Op.move (Go.Operand.tmp 12), type := 3, pos := "law.go:138", after := #[{ on := 7, ground := Go.Ground.guard }], guard := some (7, false) }) (v := ?_) rfl (by kernel_rfl) (by kernel_rfl) (by kernel_rfl) (fun _ _ _ h => h) (Or.inl ⟨by rfl, ?_⟩) (by assumption) ?_
                    rotate_left
                    · (intro w hSw; (try dsimp only at hSw); go_simp; (try (with_reducible rfl)))
                    try simp only [Act.put, List.setIfInBounds_toArray, List.set_cons_zero, List.set_cons_succ]
                    refine wpAnyH_take (i := 10) (oi := { dst := some 174, op := Go.Op.binOp Go.BinOp.geq 3 (Go.Operand.tmp 173) (Go.Operand.const (Go.Value.int Go.IntKind.i64 0)) 3, type := 4, pos := "law.go:138", after := #[{ on := 9, ground := Go.Ground.data }, { on := 7, ground := Go.Ground.guard }], guard := some (7, false) }) (v := ?_) rfl (by kernel_rfl) (by kernel_rfl) (by kernel_rfl) (fun _ _ _ h => h) (Or.inl ⟨by rfl, ?_⟩) (by assumption) ?_
                    rotate_left
                    · (intro w hSw; (try dsimp only at hSw); go_simp; (try (with_reducible rfl)))
                    try simp only [Act.put, List.setIfInBounds_toArray, List.set_cons_zero, List.set_cons_succ]
                    refine wpAnyH_take (i := 11) (oi := { dst := some 175, op := Go.Op.binOp Go.BinOp.neq 4 (Go.Operand.tmp 172) (Go.Operand.tmp 174) 4, type := 4, pos := "law.go:138", after := #[{ on := 8, ground := Go.Ground.data }, { on := 10, ground := Go.Ground.data }, { on := 7, ground := Go.Ground.guard }], guard := some (7, false) }) (v := ?_) rfl (by kernel_rfl) (by kernel_rfl) (by kernel_rfl) (fun _ _ _ h => h) (Or.inl ⟨by rfl, ?_⟩) (by assumption) ?_
                    rotate_left
                    · (intro w hSw; (try dsimp only at hSw); go_simp; (try (with_reducible rfl)))
                    try simp only [Act.put, List.setIfInBounds_toArray, List.set_cons_zero, List.set_cons_succ]
                    refine wpAnyH_take (i := 12) (oi := { dst := some 176, op := Go.Op.pick (Go.Operand.tmp 171) (Go.Operand.const (Go.Value.bool true)) (Go.Operand.tmp 175), type := 4, pos := "law.go:138", after := #[{ on := 7, ground := Go.Ground.data }, { on := 11, ground := Go.Ground.data }], guard := none }) (v := ?_) rfl (by kernel_rfl) (by kernel_rfl) (by kernel_rfl) (fun _ _ _ h => h) (Or.inl ⟨by rfl, ?_⟩) (by assumption) ?_
                    rotate_left
                    · (intro w hSw; (try dsimp only at hSw); go_simp; (try (with_reducible rfl)))
                    try simp only [Act.put, List.setIfInBounds_toArray, List.set_cons_zero, List.set_cons_succ]
                    refine wpAnyH_take (i := 13) (oi := { dst := some 177, op := Go.Op.move (Go.Operand.tmp 176), type := 4, pos := "law.go:138", after := #[{ on := 12, ground := Go.Ground.data }, { on := 7, ground := Go.Ground.chain }], guard := none }) (v := ?_) rfl (by kernel_rfl) (by kernel_rfl) (by kernel_rfl) (fun _ _ _ h => h) (Or.inl ⟨by rfl, ?_⟩) (by assumption) ?_
                    rotate_left
                    · (intro w hSw; (try dsimp only at hSw); go_simp; (try (with_reducible rfl)))
                    try simp only [Act.put, List.setIfInBounds_toArray, List.set_cons_zero, List.set_cons_succ]
                    refine wpAnyH_take (i := 14) (oi := { dst := some 178, op := Go.Op.move (Go.Operand.tmp 14), type := 4, pos := "law.go:138", after := #[{ on := 13, ground := Go.Ground.guard }], guard := some (13, false) }) (v := ?_) rfl (by kernel_rfl) (by kernel_rfl) (by kernel_rfl) (fun _ _ _ h => h) (Or.inl ⟨by rfl, ?_⟩) (by assumption) ?_
                    rotate_left
                    · (intro w hSw; (try dsimp only at hSw); go_simp; (try (with_reducible rfl)))
                    try simp only [Act.put, List.setIfInBounds_toArray, List.set_cons_zero, List.set_cons_succ]
                    refine wpAnyH_take (i := 15) (oi := { dst := some 179, op := Go.Op.move (Go.Operand.tmp 178), type := 4, pos := "law.go:138", after := #[{ on := 14, ground := Go.Ground.data }, { on := 13, ground := Go.Ground.chain }, { on := 13, ground := Go.Ground.guard }], guard := some (13, false) }) (v := ?_) rfl (by kernel_rfl) (by kernel_rfl) (by kernel_rfl) (fun _ _ _ h => h) (Or.inl ⟨by rfl, ?_⟩) (by assumption) ?_
                    rotate_left
                    · (intro w hSw; (try dsimp only at hSw); go_simp; (try (with_reducible rfl)))
                    try simp only [Act.put, List.setIfInBounds_toArray, List.set_cons_zero, List.set_cons_succ]
                    refine wpAnyH_take (i := 16) (oi := { dst := some 180, op := Go.Op.load 32 (Go.Operand.tmp 13), type := 32, pos := "law.go:138", after := #[{ on := 15, ground := Go.Ground.guard }], guard := some (15, true) }) (v := ?_) rfl (by kernel_rfl) (by kernel_rfl) (by kernel_rfl) (fun _ _ _ h => h) (Or.inl ⟨by rfl, ?_⟩) (by assumption) ?_
                    rotate_left
                    · (intro w hSw; (try dsimp only at hSw); go_simp; (try (with_reducible rfl)))
                    try simp only [Act.put, List.setIfInBounds_toArray, List.set_cons_zero, List.set_cons_succ]
                    refine wpAnyH_take (i := 17) (oi := { dst := some 181, op := Go.Op.move (Go.Operand.tmp 7), type := 78, pos := "law.go:138", after := #[{ on := 15, ground := Go.Ground.guard }], guard := some (15, true) }) (v := ?_) rfl (by kernel_rfl) (by kernel_rfl) (by kernel_rfl) (fun _ _ _ h => h) (Or.inl ⟨by rfl, ?_⟩) (by assumption) ?_
                    rotate_left
                    · (intro w hSw; (try dsimp only at hSw); go_simp; (try (with_reducible rfl)))
                    try simp only [Act.put, List.setIfInBounds_toArray, List.set_cons_zero, List.set_cons_succ]
                    refine wpAnyH_take (i := 18) (oi := { dst := some 182, op := Go.Op.nilCheck (Go.Operand.tmp 181), type := 0, pos := "law.go:138", after := #[{ on := 17, ground := Go.Ground.data }, { on := 15, ground := Go.Ground.guard }], guard := some (15, true) }) (v := ?_) rfl (by kernel_rfl) (by kernel_rfl) (by kernel_rfl) (fun _ _ _ h => h) (Or.inl ⟨by rfl, ?_⟩) (by assumption) ?_
                    rotate_left
                    · (intro w hSw; (try dsimp only at hSw); go_simp; (try (with_reducible rfl)))
                    try simp only [Act.put, List.setIfInBounds_toArray, List.set_cons_zero, List.set_cons_succ]
                    refine wpAnyH_take (i := 19) (oi := { dst := some 183, op := Go.Op.fieldAddr 81 (Go.Operand.tmp 182) 1, type := 0, pos := "law.go:138", after := #[{ on := 18, ground := Go.Ground.data }, { on := 15, ground := Go.Ground.guard }], guard := some (15, true) }) (v := ?_) rfl (by kernel_rfl) (by kernel_rfl) (by kernel_rfl) (fun _ _ _ h => h) (Or.inl ⟨by rfl, ?_⟩) (by assumption) ?_
                    rotate_left
                    · (intro w hSw; (try dsimp only at hSw); go_simp; (try (with_reducible rfl)))
                    try simp only [Act.put, List.setIfInBounds_toArray, List.set_cons_zero, List.set_cons_succ]
                    refine wpAnyH_take (i := 20) (oi := { dst := some 184, op := Go.Op.load 22 (Go.Operand.tmp 183), type := 22, pos := "law.go:138", after := #[{ on := 19, ground := Go.Ground.data }, { on := 15, ground := Go.Ground.guard }], guard := some (15, true) }) (v := ?_) rfl (by kernel_rfl) (by kernel_rfl) (by kernel_rfl) (fun _ _ _ h => h) (Or.inl ⟨by rfl, ?_⟩) (by assumption) ?_
                    rotate_left
                    · (intro w hSw; (try dsimp only at hSw); go_simp; (try (with_reducible rfl)))
                    try simp only [Act.put, List.setIfInBounds_toArray, List.set_cons_zero, List.set_cons_succ]
                    refine wpAnyH_take (i := 21) (oi := { dst := some 185, op := Go.Op.move (Go.Operand.tmp 12), type := 3, pos := "law.go:138", after := #[{ on := 15, ground := Go.Ground.guard }], guard := some (15, true) }) (v := ?_) rfl (by kernel_rfl) (by kernel_rfl) (by kernel_rfl) (fun _ _ _ h => h) (Or.inl ⟨by rfl, ?_⟩) (by assumption) ?_
                    rotate_left
                    · (intro w hSw; (try dsimp only at hSw); go_simp; (try (with_reducible rfl)))
                    try simp only [Act.put, List.setIfInBounds_toArray, List.set_cons_zero, List.set_cons_succ]
                    refine wpAnyH_take (i := 22) (oi := { dst := some 186, op := Go.Op.indexAddr 22 (Go.Operand.tmp 184) (Go.Operand.tmp 185), type := 0, pos := "law.go:138", after := #[{ on := 20, ground := Go.Ground.data }, { on := 21, ground := Go.Ground.data }, { on := 15, ground := Go.Ground.guard }], guard := some (15, true) }) (v := ?_) rfl (by kernel_rfl) (by kernel_rfl) (by kernel_rfl) (fun _ _ _ h => h) (Or.inl ⟨by rfl, ?_⟩) (by assumption) ?_
                    rotate_left
                    · (intro w hSw; (try dsimp only at hSw); go_simp; (try (with_reducible rfl)))
                    try simp only [Act.put, List.setIfInBounds_toArray, List.set_cons_zero, List.set_cons_succ]
                    refine wpAnyH_take (i := 23) (oi := { dst := some 187, op := Go.Op.load 32 (Go.Operand.tmp 186), type := 32, pos := "law.go:138", after := #[{ on := 22, ground := Go.Ground.data }, { on := 15, ground := Go.Ground.guard }], guard := some (15, true) }) (v := ?_) rfl (by kernel_rfl) (by kernel_rfl) (by kernel_rfl) (fun _ _ _ h => h) (Or.inl ⟨by rfl, ?_⟩) (by assumption) ?_
                    rotate_left
                    · (intro w hSw; (try dsimp only at hSw); go_simp; (try (with_reducible rfl)))
                    try simp only [Act.put, List.setIfInBounds_toArray, List.set_cons_zero, List.set_cons_succ]
                    refine wpAnyH_ready (rs := [24]) (by kernel_rfl) (by simp) ?_
                    refine AllReadyH.cons (o := { dst := some 188, op := Go.Op.call { callee := Go.Callee.value (Go.Operand.func 14), args := #[Go.Operand.tmp 180, Go.Operand.tmp 187], argTypes := #[32, 32] }, type := 4, pos := "law.go:138", after := #[{ on := 16, ground := Go.Ground.data }, { on := 23, ground := Go.Ground.data }, { on := 15, ground := Go.Ground.chain }, { on := 15, ground := Go.Ground.guard }], guard := some (15, true) }) rfl (fun K hK => ?_) AllReadyH.nil
                    go_simp
                    refine (hSm.out _ hO).mono ?_
                    rintro e w16 ⟨rfl, hb16⟩
                    replace hO := hO.below hb16
                    replace en13 := en13.trans (bel_env hb16)
                    refine hK.out _ _ (kk.out _ _ _ (Hp.le_refl _) hO) (fun hHeld => ?_)
                    clear hK K
                    try simp only [Act.put, List.setIfInBounds_toArray, List.set_cons_zero, List.set_cons_succ]
                    refine wpAnyH_take (i := 25) (oi := { dst := some 189, op := Go.Op.unOp Go.UnOp.not 4 (Go.Operand.tmp 188), type := 4, pos := "law.go:138", after := #[{ on := 24, ground := Go.Ground.data }, { on := 15, ground := Go.Ground.guard }], guard := some (15, true) }) (v := ?_) rfl (by kernel_rfl) (by kernel_rfl) (by kernel_rfl) (fun _ _ _ h => h) (Or.inl ⟨by rfl, ?_⟩) (by assumption) ?_
                    rotate_left
                    · (intro w hSw; (try dsimp only at hSw); go_simp; (try (with_reducible rfl)))
                    try simp only [Act.put, List.setIfInBounds_toArray, List.set_cons_zero, List.set_cons_succ]
                    refine wpAnyH_take (i := 26) (oi := { dst := some 190, op := Go.Op.pick (Go.Operand.tmp 179) (Go.Operand.tmp 189) (Go.Operand.const (Go.Value.bool false)), type := 4, pos := "law.go:138", after := #[{ on := 15, ground := Go.Ground.data }, { on := 25, ground := Go.Ground.data }, { on := 13, ground := Go.Ground.guard }], guard := some (13, false) }) (v := ?_) rfl (by kernel_rfl) (by kernel_rfl) (by kernel_rfl) (fun _ _ _ h => h) (Or.inl ⟨by rfl, ?_⟩) (by assumption) ?_
                    rotate_left
                    · (intro w hSw; (try dsimp only at hSw); go_simp; (try (with_reducible rfl)))
                    try simp only [Act.put, List.setIfInBounds_toArray, List.set_cons_zero, List.set_cons_succ]
                    refine wpAnyH_take (i := 27) (oi := { dst := some 191, op := Go.Op.pick (Go.Operand.tmp 177) (Go.Operand.const (Go.Value.bool true)) (Go.Operand.tmp 190), type := 4, pos := "law.go:138", after := #[{ on := 13, ground := Go.Ground.data }, { on := 26, ground := Go.Ground.data }], guard := none }) (v := ?_) rfl (by kernel_rfl) (by kernel_rfl) (by kernel_rfl) (fun _ _ _ h => h) (Or.inl ⟨by rfl, ?_⟩) (by assumption) ?_
                    rotate_left
                    · (intro w hSw; (try dsimp only at hSw); go_simp; (try (with_reducible rfl)))
                    try simp only [Act.put, List.setIfInBounds_toArray, List.set_cons_zero, List.set_cons_succ]
                    refine wpAnyH_take (i := 28) (oi := { dst := some 192, op := Go.Op.move (Go.Operand.tmp 191), type := 4, pos := "law.go:138", after := #[{ on := 27, ground := Go.Ground.data }, { on := 24, ground := Go.Ground.chain }], guard := none }) (v := ?_) rfl (by kernel_rfl) (by kernel_rfl) (by kernel_rfl) (fun _ _ _ h => h) (Or.inl ⟨by rfl, ?_⟩) (by assumption) ?_
                    rotate_left
                    · (intro w hSw; (try dsimp only at hSw); go_simp; (try (with_reducible rfl)))
                    try simp only [Act.put, List.setIfInBounds_toArray, List.set_cons_zero, List.set_cons_succ]
                    refine wpAnyH_take (i := 29) (oi := { dst := some 193, op := Go.Op.move (Go.Operand.tmp 5), type := 67, pos := "law.go:138", after := #[{ on := 28, ground := Go.Ground.guard }], guard := some (28, false) }) (v := ?_) rfl (by kernel_rfl) (by kernel_rfl) (by kernel_rfl) (fun _ _ _ h => h) (Or.inl ⟨by rfl, ?_⟩) (by assumption) ?_
                    rotate_left
                    · (intro w hSw; (try dsimp only at hSw); go_simp; (try (with_reducible rfl)))
                    try simp only [Act.put, List.setIfInBounds_toArray, List.set_cons_zero, List.set_cons_succ]
                    refine wpAnyH_take (i := 31) (oi := { dst := some 195, op := Go.Op.move (Go.Operand.tmp 0), type := 3, pos := "law.go:138", after := #[{ on := 28, ground := Go.Ground.guard }], guard := some (28, false) }) (v := ?_) rfl (by kernel_rfl) (by kernel_rfl) (by kernel_rfl) (fun _ _ _ h => h) (Or.inl ⟨by rfl, ?_⟩) (by assumption) ?_
                    rotate_left
                    · (intro w hSw; (try dsimp only at hSw); go_simp; (try (with_reducible rfl)))
                    try simp only [Act.put, List.setIfInBounds_toArray, List.set_cons_zero, List.set_cons_succ]
                    refine wpAnyH_take (i := 32) (oi := { dst := some 196, op := Go.Op.move (Go.Operand.tmp 7), type := 78, pos := "law.go:138", after := #[{ on := 28, ground := Go.Ground.guard }], guard := some (28, false) }) (v := ?_) rfl (by kernel_rfl) (by kernel_rfl) (by kernel_rfl) (fun _ _ _ h => h) (Or.inl ⟨by rfl, ?_⟩) (by assumption) ?_
                    rotate_left
                    · (intro w hSw; (try dsimp only at hSw); go_simp; (try (with_reducible rfl)))
                    try simp only [Act.put, List.setIfInBounds_toArray, List.set_cons_zero, List.set_cons_succ]
                    refine wpAnyH_take (i := 33) (oi := { dst := some 197, op := Go.Op.nilCheck (Go.Operand.tmp 196), type := 0, pos := "law.go:138", after := #[{ on := 32, ground := Go.Ground.data }, { on := 28, ground := Go.Ground.guard }], guard := some (28, false) }) (v := ?_) rfl (by kernel_rfl) (by kernel_rfl) (by kernel_rfl) (fun _ _ _ h => h) (Or.inl ⟨by rfl, ?_⟩) (by assumption) ?_
                    rotate_left
                    · (intro w hSw; (try dsimp only at hSw); go_simp; (try (with_reducible rfl)))
                    try simp only [Act.put, List.setIfInBounds_toArray, List.set_cons_zero, List.set_cons_succ]
                    refine wpAnyH_take (i := 34) (oi := { dst := some 198, op := Go.Op.fieldAddr 81 (Go.Operand.tmp 197) 1, type := 0, pos := "law.go:138", after := #[{ on := 33, ground := Go.Ground.data }, { on := 28, ground := Go.Ground.guard }], guard := some (28, false) }) (v := ?_) rfl (by kernel_rfl) (by kernel_rfl) (by kernel_rfl) (fun _ _ _ h => h) (Or.inl ⟨by rfl, ?_⟩) (by assumption) ?_
                    rotate_left
                    · (intro w hSw; (try dsimp only at hSw); go_simp; (try (with_reducible rfl)))
                    try simp only [Act.put, List.setIfInBounds_toArray, List.set_cons_zero, List.set_cons_succ]
                    refine wpAnyH_take (i := 35) (oi := { dst := some 199, op := Go.Op.load 22 (Go.Operand.tmp 198), type := 22, pos := "law.go:138", after := #[{ on := 34, ground := Go.Ground.data }, { on := 28, ground := Go.Ground.guard }], guard := some (28, false) }) (v := ?_) rfl (by kernel_rfl) (by kernel_rfl) (by kernel_rfl) (fun _ _ _ h => h) (Or.inl ⟨by rfl, ?_⟩) (by assumption) ?_
                    rotate_left
                    · (intro w hSw; (try dsimp only at hSw); go_simp; (try (with_reducible rfl)))
                    try simp only [Act.put, List.setIfInBounds_toArray, List.set_cons_zero, List.set_cons_succ]
                    refine wpAnyH_take (i := 36) (oi := { dst := some 200, op := Go.Op.call { callee := Go.Callee.builtin Go.Builtin.len, args := #[Go.Operand.tmp 199], argTypes := #[22] }, type := 3, pos := "law.go:138", after := #[{ on := 35, ground := Go.Ground.data }, { on := 28, ground := Go.Ground.guard }], guard := some (28, false) }) (v := ?_) rfl (by kernel_rfl) (by kernel_rfl) (by kernel_rfl) (fun _ _ _ h => h) (Or.inl ⟨by rfl, ?_⟩) (by assumption) ?_
                    rotate_left
                    · (intro w hSw; (try dsimp only at hSw); go_simp; (try (with_reducible rfl)))
                    try simp only [Act.put, List.setIfInBounds_toArray, List.set_cons_zero, List.set_cons_succ]
                    refine wpAnyH_take (i := 37) (oi := { dst := some 201, op := Go.Op.binOp Go.BinOp.sub 3 (Go.Operand.tmp 195) (Go.Operand.tmp 200) 3, type := 3, pos := "law.go:138", after := #[{ on := 31, ground := Go.Ground.data }, { on := 36, ground := Go.Ground.data }, { on := 28, ground := Go.Ground.guard }], guard := some (28, false) }) (v := ?_) rfl (by kernel_rfl) (by kernel_rfl) (by kernel_rfl) (fun _ _ _ h => h) (Or.inl ⟨by rfl, ?_⟩) (by assumption) ?_
                    rotate_left
                    · (intro w hSw; (try dsimp only at hSw); go_simp; (try (with_reducible rfl)))
                    try simp only [Act.put, List.setIfInBounds_toArray, List.set_cons_zero, List.set_cons_succ]
                    refine wpAnyH_ready (rs := [30]) (by kernel_rfl) (by simp) ?_
                    refine AllReadyH.cons (o := { dst := some 194, op := Go.Op.call { callee := Go.Callee.value (Go.Operand.func 44), args := #[Go.Operand.tmp 193], argTypes := #[67] }, type := 3, pos := "law.go:138", after := #[{ on := 29, ground := Go.Ground.data }, { on := 28, ground := Go.Ground.chain }, { on := 28, ground := Go.Ground.guard }], guard := some (28, false) }) rfl (fun K hK => ?_) AllReadyH.nil
                    go_simp
                    refine (hFr.out _ _ (hO.pick 3 (by simp))).mono ?_
                    rintro e w17 ⟨rfl, hb17⟩
                    replace hO := hO.below hb17
                    replace en13 := en13.trans (bel_env hb17)
                    refine hK.out _ _ (kk.out _ _ _ (Hp.le_refl _) hO) (fun hHeld => ?_)
                    clear hK K
                    try simp only [Act.put, List.setIfInBounds_toArray, List.set_cons_zero, List.set_cons_succ]
                    refine wpAnyH_take (i := 38) (oi := { dst := some 202, op := Go.Op.binOp Go.BinOp.neq 3 (Go.Operand.tmp 194) (Go.Operand.tmp 201) 3, type := 4, pos := "law.go:138", after := #[{ on := 30, ground := Go.Ground.data }, { on := 37, ground := Go.Ground.data }, { on := 28, ground := Go.Ground.guard }], guard := some (28, false) }) (v := ?_) rfl (by kernel_rfl) (by kernel_rfl) (by kernel_rfl) (fun _ _ _ h => h) (Or.inl ⟨by rfl, ?_⟩) (by assumption) ?_
                    rotate_left
                    · (intro w hSw; (try dsimp only at hSw); go_simp; (try (with_reducible rfl)))
                    try simp only [Act.put, List.setIfInBounds_toArray, List.set_cons_zero, List.set_cons_succ]
                    refine wpAnyH_take (i := 39) (oi := { dst := some 203, op := Go.Op.pick (Go.Operand.tmp 192) (Go.Operand.const (Go.Value.bool true)) (Go.Operand.tmp 202), type := 4, pos := "law.go:138", after := #[{ on := 28, ground := Go.Ground.data }, { on := 38, ground := Go.Ground.data }], guard := none }) (v := ?_) rfl (by kernel_rfl) (by kernel_rfl) (by kernel_rfl) (fun _ _ _ h => h) (Or.inl ⟨by rfl, ?_⟩) (by assumption) ?_
                    rotate_left
                    · (intro w hSw; (try dsimp only at hSw); go_simp; (try (with_reducible rfl)))
                    try simp only [Act.put, List.setIfInBounds_toArray, List.set_cons_zero, List.set_cons_succ]
                    refine wpAnyH_take (i := 40) (oi := { dst := some 204, op := Go.Op.move (Go.Operand.tmp 203), type := 4, pos := "law.go:138", after := #[{ on := 39, ground := Go.Ground.data }, { on := 30, ground := Go.Ground.chain }], guard := none }) (v := ?_) rfl (by kernel_rfl) (by kernel_rfl) (by kernel_rfl) (fun _ _ _ h => h) (Or.inl ⟨by rfl, ?_⟩) (by assumption) ?_
                    rotate_left
                    · (intro w hSw; (try dsimp only at hSw); go_simp; (try (with_reducible rfl)))
                    try simp only [Act.put, List.setIfInBounds_toArray, List.set_cons_zero, List.set_cons_succ]
                    refine wpAnyH_take (i := 41) (oi := { dst := some 205, op := Go.Op.move (Go.Operand.tmp 5), type := 67, pos := "law.go:138", after := #[{ on := 40, ground := Go.Ground.guard }], guard := some (40, false) }) (v := ?_) rfl (by kernel_rfl) (by kernel_rfl) (by kernel_rfl) (fun _ _ _ h => h) (Or.inl ⟨by rfl, ?_⟩) (by assumption) ?_
                    rotate_left
                    · (intro w hSw; (try dsimp only at hSw); go_simp; (try (with_reducible rfl)))
                    try simp only [Act.put, List.setIfInBounds_toArray, List.set_cons_zero, List.set_cons_succ]
                    refine wpAnyH_take (i := 43) (oi := { dst := some 207, op := Go.Op.move (Go.Operand.tmp 7), type := 78, pos := "law.go:138", after := #[{ on := 40, ground := Go.Ground.guard }], guard := some (40, false) }) (v := ?_) rfl (by kernel_rfl) (by kernel_rfl) (by kernel_rfl) (fun _ _ _ h => h) (Or.inl ⟨by rfl, ?_⟩) (by assumption) ?_
                    rotate_left
                    · (intro w hSw; (try dsimp only at hSw); go_simp; (try (with_reducible rfl)))
                    try simp only [Act.put, List.setIfInBounds_toArray, List.set_cons_zero, List.set_cons_succ]
                    refine wpAnyH_ready (rs := [42]) (by kernel_rfl) (by simp) ?_
                    refine AllReadyH.cons (o := { dst := some 206, op := Go.Op.call { callee := Go.Callee.value (Go.Operand.func 43), args := #[Go.Operand.tmp 205], argTypes := #[67] }, type := 29, pos := "law.go:138", after := #[{ on := 41, ground := Go.Ground.data }, { on := 40, ground := Go.Ground.chain }, { on := 40, ground := Go.Ground.guard }], guard := some (40, false) }) rfl (fun K hK => ?_) AllReadyH.nil
                    go_simp
                    refine (hKe.out _ _ (hO.pick 3 (by simp))).mono ?_
                    rintro e w18 ⟨kv, rfl, h18, en18⟩
                    obtain ⟨kv1, kv2, kv3, rfl, _⟩ := h18.row_form
                    replace en13 := en13.trans en18
                    obtain ⟨H6, l6, h19, hkv⟩ := h18.row_keep
                    replace h19 := h19.perm (List.perm_append_comm (l₁ := [VsA p room _ M low]) (l₂ := [_, _, _]))
                    refine hK.out _ _ (kk.out _ _ _ l6 h19) (fun hHeld => ?_)
                    clear hK K
                    try simp only [Act.put, List.setIfInBounds_toArray, List.set_cons_zero, List.set_cons_succ]
                    refine wpAnyH_ready (rs := [44]) (by kernel_rfl) (by simp) ?_
                    refine AllReadyH.cons (o := { dst := some 208, op := Go.Op.call { callee := Go.Callee.value (Go.Operand.func 53), args := #[Go.Operand.tmp 207], argTypes := #[78] }, type := 29, pos := "law.go:138", after := #[{ on := 43, ground := Go.Ground.data }, { on := 42, ground := Go.Ground.chain }, { on := 40, ground := Go.Ground.guard }], guard := some (40, false) }) rfl (fun K hK => ?_) AllReadyH.nil
                    go_simp
                    refine (hMk.out _ _ _ _ _ h19).mono ?_
                    rintro e w20 ⟨mv, rfl, h20, en20⟩
                    obtain ⟨mv1, mv2, mv3, rfl, _⟩ := h20.row_form
                    replace en13 := en13.trans en20
                    obtain ⟨H7, l7, h21, hmv⟩ := h20.row_keep
                    have l67 := Hp.le_trans l6 l7
                    refine hK.out _ _ (kk.out _ _ _ l67 h21) (fun hHeld => ?_)
                    clear hK K
                    try simp only [Act.put, List.setIfInBounds_toArray, List.set_cons_zero, List.set_cons_succ]
                    refine wpAnyH_ready (rs := [45]) (by kernel_rfl) (by simp) ?_
                    refine AllReadyH.cons (o := { dst := some 209, op := Go.Op.call { callee := Go.Callee.value (Go.Operand.func 32), args := #[Go.Operand.tmp 206, Go.Operand.tmp 208], argTypes := #[29, 29] }, type := 4, pos := "law.go:138", after := #[{ on := 42, ground := Go.Ground.data }, { on := 44, ground := Go.Ground.data }, { on := 44, ground := Go.Ground.chain }, { on := 40, ground := Go.Ground.guard }], guard := some (40, false) }) rfl (fun K hK => ?_) AllReadyH.nil
                    go_simp
                    refine (sameIds_any _ _ (sortL (rids L)) (sortL (rids L)) _ ((hkv.mono l7).rw h21) (hmv.rw h21)).mono ?_
                    rintro e w22 ⟨rfl, hb22⟩
                    rw [decide_eq_true rfl]
                    replace h21 := h21.below hb22
                    replace en13 := en13.trans (bel_env hb22)
                    refine hK.out _ _ (kk.out _ _ _ l67 h21) (fun hHeld => ?_)
                    clear hK K
                    try simp only [Act.put, List.setIfInBounds_toArray, List.set_cons_zero, List.set_cons_succ]
                    refine wpAnyH_take (i := 46) (oi := { dst := some 210, op := Go.Op.unOp Go.UnOp.not 4 (Go.Operand.tmp 209), type := 4, pos := "law.go:138", after := #[{ on := 45, ground := Go.Ground.data }, { on := 40, ground := Go.Ground.guard }], guard := some (40, false) }) (v := ?_) rfl (by kernel_rfl) (by kernel_rfl) (by kernel_rfl) (fun _ _ _ h => h) (Or.inl ⟨by rfl, ?_⟩) (by assumption) ?_
                    rotate_left
                    · (intro w hSw; (try dsimp only at hSw); go_simp; (try (with_reducible rfl)))
                    try simp only [Act.put, List.setIfInBounds_toArray, List.set_cons_zero, List.set_cons_succ]
                    refine wpAnyH_take (i := 47) (oi := { dst := some 211, op := Go.Op.pick (Go.Operand.tmp 204) (Go.Operand.const (Go.Value.bool true)) (Go.Operand.tmp 210), type := 4, pos := "law.go:138", after := #[{ on := 40, ground := Go.Ground.data }, { on := 46, ground := Go.Ground.data }], guard := none }) (v := ?_) rfl (by kernel_rfl) (by kernel_rfl) (by kernel_rfl) (fun _ _ _ h => h) (Or.inl ⟨by rfl, ?_⟩) (by assumption) ?_
                    rotate_left
                    · (intro w hSw; (try dsimp only at hSw); go_simp; (try (with_reducible rfl)))
                    try simp only [Act.put, List.setIfInBounds_toArray, List.set_cons_zero, List.set_cons_succ]
                    refine wpAnyH_take (i := 48) (oi := { dst := some 212, op := Go.Op.move (Go.Operand.tmp 211), type := 4, pos := "law.go:138", after := #[{ on := 47, ground := Go.Ground.data }, { on := 45, ground := Go.Ground.chain }], guard := none }) (v := ?_) rfl (by kernel_rfl) (by kernel_rfl) (by kernel_rfl) (fun _ _ _ h => h) (Or.inl ⟨by rfl, ?_⟩) (by assumption) ?_
                    rotate_left
                    · (intro w hSw; (try dsimp only at hSw); go_simp; (try (with_reducible rfl)))
                    try simp only [Act.put, List.setIfInBounds_toArray, List.set_cons_zero, List.set_cons_succ]
                    refine wpAnyH_take (i := 49) (oi := { dst := some 213, op := Go.Op.move (Go.Operand.tmp 5), type := 67, pos := "law.go:138", after := #[{ on := 48, ground := Go.Ground.guard }], guard := some (48, false) }) (v := ?_) rfl (by kernel_rfl) (by kernel_rfl) (by kernel_rfl) (fun _ _ _ h => h) (Or.inl ⟨by rfl, ?_⟩) (by assumption) ?_
                    rotate_left
                    · (intro w hSw; (try dsimp only at hSw); go_simp; (try (with_reducible rfl)))
                    try simp only [Act.put, List.setIfInBounds_toArray, List.set_cons_zero, List.set_cons_succ]
                    refine wpAnyH_take (i := 50) (oi := { dst := some 214, op := Go.Op.fieldAddr 28 (Go.Operand.tmp 10) 0, type := 0, pos := "law.go:138", after := #[{ on := 48, ground := Go.Ground.guard }], guard := some (48, false) }) (v := ?_) rfl (by kernel_rfl) (by kernel_rfl) (by kernel_rfl) (fun _ _ _ h => h) (Or.inl ⟨by rfl, ?_⟩) (by assumption) ?_
                    rotate_left
                    · (intro w hSw; (try dsimp only at hSw); go_simp; (try (with_reducible rfl)))
                    try simp only [Act.put, List.setIfInBounds_toArray, List.set_cons_zero, List.set_cons_succ]
                    refine wpAnyH_take (i := 51) (oi := { dst := some 215, op := Go.Op.load 3 (Go.Operand.tmp 214), type := 3, pos := "law.go:138", after := #[{ on := 50, ground := Go.Ground.data }, { on := 48, ground := Go.Ground.guard }], guard := some (48, false) }) (v := ?_) rfl (by kernel_rfl) (by kernel_rfl) (by kernel_rfl) (fun _ _ _ h => h) (Or.inl ⟨by rfl, ?_⟩) (by assumption) ?_
                    rotate_left
                    · (intro w hSw; (try dsimp only at hSw); go_simp; (try (with_reducible rfl)))
                    try simp only [Act.put, List.setIfInBounds_toArray, List.set_cons_zero, List.set_cons_succ]
                    refine wpAnyH_take (i := 53) (oi := { dst := some 217, op := Go.Op.move (Go.Operand.tmp 7), type := 78, pos := "law.go:138", after := #[{ on := 48, ground := Go.Ground.guard }], guard := some (48, false) }) (v := ?_) rfl (by kernel_rfl) (by kernel_rfl) (by kernel_rfl) (fun _ _ _ h => h) (Or.inl ⟨by rfl, ?_⟩) (by assumption) ?_
                    rotate_left
                    · (intro w hSw; (try dsimp only at hSw); go_simp; (try (with_reducible rfl)))
                    try simp only [Act.put, List.setIfInBounds_toArray, List.set_cons_zero, List.set_cons_succ]
                    refine wpAnyH_take (i := 54) (oi := { dst := some 218, op := Go.Op.fieldAddr 28 (Go.Operand.tmp 10) 0, type := 0, pos := "law.go:138", after := #[{ on := 48, ground := Go.Ground.guard }], guard := some (48, false) }) (v := ?_) rfl (by kernel_rfl) (by kernel_rfl) (by kernel_rfl) (fun _ _ _ h => h) (Or.inl ⟨by rfl, ?_⟩) (by assumption) ?_
                    rotate_left
                    · (intro w hSw; (try dsimp only at hSw); go_simp; (try (with_reducible rfl)))
                    try simp only [Act.put, List.setIfInBounds_toArray, List.set_cons_zero, List.set_cons_succ]
                    refine wpAnyH_take (i := 55) (oi := { dst := some 219, op := Go.Op.load 3 (Go.Operand.tmp 218), type := 3, pos := "law.go:138", after := #[{ on := 54, ground := Go.Ground.data }, { on := 48, ground := Go.Ground.guard }], guard := some (48, false) }) (v := ?_) rfl (by kernel_rfl) (by kernel_rfl) (by kernel_rfl) (fun _ _ _ h => h) (Or.inl ⟨by rfl, ?_⟩) (by assumption) ?_
                    rotate_left
                    · (intro w hSw; (try dsimp only at hSw); go_simp; (try (with_reducible rfl)))
                    try simp only [Act.put, List.setIfInBounds_toArray, List.set_cons_zero, List.set_cons_succ]
                    refine wpAnyH_ready (rs := [52]) (by kernel_rfl) (by simp) ?_
                    refine AllReadyH.cons (o := { dst := some 216, op := Go.Op.call { callee := Go.Callee.value (Go.Operand.func 47), args := #[Go.Operand.tmp 213, Go.Operand.tmp 215], argTypes := #[67, 3] }, type := 3, pos := "law.go:138", after := #[{ on := 49, ground := Go.Ground.data }, { on := 51, ground := Go.Ground.data }, { on := 48, ground := Go.Ground.chain }, { on := 48, ground := Go.Ground.guard }], guard := some (48, false) }) rfl (fun K hK => ?_) AllReadyH.nil
                    go_simp
                    refine (hF1.out _ _ _ (h21.pick 3 (by simp))).mono ?_
                    rintro e w23 ⟨rfl, hb23⟩
                    replace h21 := h21.below hb23
                    replace en13 := en13.trans (bel_env hb23)
                    refine hK.out _ _ (kk.out _ _ _ l67 h21) (fun hHeld => ?_)
                    clear hK K
                    try simp only [Act.put, List.setIfInBounds_toArray, List.set_cons_zero, List.set_cons_succ]
                    refine wpAnyH_ready (rs := [56]) (by kernel_rfl) (by simp) ?_
                    refine AllReadyH.cons (o := { dst := some 220, op := Go.Op.call { callee := Go.Callee.value (Go.Operand.func 54), args := #[Go.Operand.tmp 217, Go.Operand.tmp 219], argTypes := #[78, 3] }, type := 3, pos := "law.go:138", after := #[{ on := 53, ground := Go.Ground.data }, { on := 55, ground := Go.Ground.data }, { on := 52, ground := Go.Ground.chain }, { on := 48, ground := Go.Ground.guard }], guard := some (48, false) }) rfl (fun K hK => ?_) AllReadyH.nil
                    go_simp
                    refine (hF2.out _ _ _ (mdShut h21)).mono ?_
                    rintro e w24 ⟨rfl, hb24⟩
                    replace h21 := h21.below hb24
                    replace en13 := en13.trans (bel_env hb24)
                    refine hK.out _ _ (kk.out _ _ _ l67 h21) (fun hHeld => ?_)
                    clear hK K
                    try simp only [Act.put, List.setIfInBounds_toArray, List.set_cons_zero, List.set_cons_succ]
                    refine wpAnyH_take (i := 57) (oi := { dst := some 221, op := Go.Op.binOp Go.BinOp.neq 3 (Go.Operand.tmp 216) (Go.Operand.tmp 220) 3, type := 4, pos := "law.go:138", after := #[{ on := 52, ground := Go.Ground.data }, { on := 56, ground := Go.Ground.data }, { on := 48, ground := Go.Ground.guard }], guard := some (48, false) }) (v := ?_) rfl (by kernel_rfl) (by kernel_rfl) (by kernel_rfl) (fun _ _ _ h => h) (Or.inl ⟨by rfl, ?_⟩) (by assumption) ?_
                    rotate_left
                    · (intro w hSw; (try dsimp only at hSw); go_simp; (try (with_reducible rfl)))
                    try simp only [Act.put, List.setIfInBounds_toArray, List.set_cons_zero, List.set_cons_succ]
                    refine wpAnyH_take (i := 58) (oi := { dst := some 222, op := Go.Op.move (Go.Operand.tmp 221), type := 4, pos := "law.go:138", after := #[{ on := 57, ground := Go.Ground.data }, { on := 56, ground := Go.Ground.chain }, { on := 48, ground := Go.Ground.guard }], guard := some (48, false) }) (v := ?_) rfl (by kernel_rfl) (by kernel_rfl) (by kernel_rfl) (fun _ _ _ h => h) (Or.inl ⟨by rfl, ?_⟩) (by assumption) ?_
                    rotate_left
                    · (intro w hSw; (try dsimp only at hSw); go_simp; (try (with_reducible rfl)))
                    try simp only [Act.put, List.setIfInBounds_toArray, List.set_cons_zero, List.set_cons_succ]
                    refine wpAnyH_take (i := 59) (oi := { dst := some 223, op := Go.Op.fieldAddr 28 (Go.Operand.tmp 10) 0, type := 0, pos := "law.go:138", after := #[{ on := 58, ground := Go.Ground.guard }], guard := some (58, true) }) (v := undef) rfl (by kernel_rfl) (by kernel_rfl) (by kernel_rfl) (fun _ _ _ h => h) (Or.inr ⟨by rfl, rfl⟩) (by assumption) ?_
                    try simp only [Act.put, List.setIfInBounds_toArray, List.set_cons_zero, List.set_cons_succ]
                    refine wpAnyH_take (i := 60) (oi := { dst := some 224, op := Go.Op.load 3 (Go.Operand.tmp 223), type := 3, pos := "law.go:138", after := #[{ on := 59, ground := Go.Ground.data }, { on := 58, ground := Go.Ground.guard }], guard := some (58, true) }) (v := undef) rfl (by kernel_rfl) (by kernel_rfl) (by kernel_rfl) (fun _ _ _ h => h) (Or.inr ⟨by rfl, rfl⟩) (by assumption) ?_
                    try simp only [Act.put, List.setIfInBounds_toArray, List.set_cons_zero, List.set_cons_succ]
                    refine wpAnyH_take (i := 61) (oi := { dst := some 225, op := Go.Op.binOp Go.BinOp.geq 3 (Go.Operand.tmp 224) (Go.Operand.const (Go.Value.int Go.IntKind.i64 0)) 3, type := 4, pos := "law.go:138", after := #[{ on := 60, ground := Go.Ground.data }, { on := 58, ground := Go.Ground.guard }], guard := some (58, true) }) (v := undef) rfl (by kernel_rfl) (by kernel_rfl) (by kernel_rfl) (fun _ _ _ h => h) (Or.inr ⟨by rfl, rfl⟩) (by assumption) ?_
                    try simp only [Act.put, List.setIfInBounds_toArray, List.set_cons_zero, List.set_cons_succ]
                    refine wpAnyH_take (i := 62) (oi := { dst := some 226, op := Go.Op.pick (Go.Operand.tmp 222) (Go.Operand.tmp 225) (Go.Operand.const (Go.Value.bool false)), type := 4, pos := "law.go:138", after := #[{ on := 58, ground := Go.Ground.data }, { on := 61, ground := Go.Ground.data }, { on := 48, ground := Go.Ground.guard }], guard := some (48, false) }) (v := ?_) rfl (by kernel_rfl) (by kernel_rfl) (by kernel_rfl) (fun _ _ _ h => h) (Or.inl ⟨by rfl, ?_⟩) (by assumption) ?_
                    rotate_left
                    · (intro w hSw; (try dsimp only at hSw); go_simp; (try (with_reducible rfl)))
                    try simp only [Act.put, List.setIfInBounds_toArray, List.set_cons_zero, List.set_cons_succ]
                    refine wpAnyH_take (i := 63) (oi := { dst := some 227, op := Go.Op.move (Go.Operand.tmp 226), type := 4, pos := "law.go:138", after := #[{ on := 62, ground := Go.Ground.data }, { on := 58, ground := Go.Ground.chain }, { on := 48, ground := Go.Ground.guard }], guard := some (48, false) }) (v := ?_) rfl (by kernel_rfl) (by kernel_rfl) (by kernel_rfl) (fun _ _ _ h => h) (Or.inl ⟨by rfl, ?_⟩) (by assumption) ?_
                    rotate_left
                    · (intro w hSw; (try dsimp only at hSw); go_simp; (try (with_reducible rfl)))
                    try simp only [Act.put, List.setIfInBounds_toArray, List.set_cons_zero, List.set_cons_succ]
                    refine wpAnyH_take (i := 64) (oi := { dst := some 228, op := Go.Op.fieldAddr 28 (Go.Operand.tmp 10) 0, type := 0, pos := "law.go:138", after := #[{ on := 63, ground := Go.Ground.guard }], guard := some (63, true) }) (v := undef) rfl (by kernel_rfl) (by kernel_rfl) (by kernel_rfl) (fun _ _ _ h => h) (Or.inr ⟨by rfl, rfl⟩) (by assumption) ?_
                    try simp only [Act.put, List.setIfInBounds_toArray, List.set_cons_zero, List.set_cons_succ]
                    refine wpAnyH_take (i := 65) (oi := { dst := some 229, op := Go.Op.load 3 (Go.Operand.tmp 228), type := 3, pos := "law.go:138", after := #[{ on := 64, ground := Go.Ground.data }, { on := 63, ground := Go.Ground.guard }], guard := some (63, true) }) (v := undef) rfl (by kernel_rfl) (by kernel_rfl) (by kernel_rfl) (fun _ _ _ h => h) (Or.inr ⟨by rfl, rfl⟩) (by assumption) ?_
                    try simp only [Act.put, List.setIfInBounds_toArray, List.set_cons_zero, List.set_cons_succ]
                    refine wpAnyH_take (i := 66) (oi := { dst := some 230, op := Go.Op.binOp Go.BinOp.lss 3 (Go.Operand.tmp 229) (Go.Operand.const (Go.Value.int Go.IntKind.i64 8)) 3, type := 4, pos := "law.go:138", after := #[{ on := 65, ground := Go.Ground.data }, { on := 63, ground := Go.Ground.guard }], guard := some (63, true) }) (v := undef) rfl (by kernel_rfl) (by kernel_rfl) (by kernel_rfl) (fun _ _ _ h => h) (Or.inr ⟨by rfl, rfl⟩) (by assumption) ?_
                    try simp only [Act.put, List.setIfInBounds_toArray, List.set_cons_zero, List.set_cons_succ]
                    refine wpAnyH_take (i := 67) (oi := { dst := some 231, op := Go.Op.pick (Go.Operand.tmp 227) (Go.Operand.tmp 230) (Go.Operand.const (Go.Value.bool false)), type := 4, pos := "law.go:138", after := #[{ on := 63, ground := Go.Ground.data }, { on := 66, ground := Go.Ground.data }, { on := 48, ground := Go.Ground.guard }], guard := some (48, false) }) (v := ?_) rfl (by kernel_rfl) (by kernel_rfl) (by kernel_rfl) (fun _ _ _ h => h) (Or.inl ⟨by rfl, ?_⟩) (by assumption) ?_
                    rotate_left
                    · (intro w hSw; (try dsimp only at hSw); go_simp; (try (with_reducible rfl)))
                    try simp only [Act.put, List.setIfInBounds_toArray, List.set_cons_zero, List.set_cons_succ]
                    refine wpAnyH_take (i := 68) (oi := { dst := some 232, op := Go.Op.pick (Go.Operand.tmp 212) (Go.Operand.const (Go.Value.bool true)) (Go.Operand.tmp 231), type := 4, pos := "law.go:138", after := #[{ on := 48, ground := Go.Ground.data }, { on := 67, ground := Go.Ground.data }], guard := none }) (v := ?_) rfl (by kernel_rfl) (by kernel_rfl) (by kernel_rfl) (fun _ _ _ h => h) (Or.inl ⟨by rfl, ?_⟩) (by assumption) ?_
                    rotate_left
                    · (intro w hSw; (try dsimp only at hSw); go_simp; (try (with_reducible rfl)))
                    try simp only [Act.put, List.setIfInBounds_toArray, List.set_cons_zero, List.set_cons_succ]
                    refine wpAnyH_done (by kernel_rfl) ?_ _
                    have h25 := (mdShut h21).swap
                    have hle7 := Hp.le_trans hle5 l67
                    have HI7 := Lib.hid (HI5.out.mono l67 (Nat.le_refl _))
                    clear hHeld
                    go_wp2_with fail
                    go_roundw
                    case rel => exact ⟨k + 1, H7, K, M, low, L, by omega, by go_num, hle7, h25, en13, HI7⟩
                    case measure => simp [intOf]; omega
                | false =>
                  as_aux_lemma =>
                    have hFn := hFB.out
                    have hFn' : ¬ 0 ≤ F := of_decide_eq_false hFn
                    have kk : ∀ (Hc : Hp) (w' : World) (l' : List HA), Hp.le H5 Hc → St Hc (Blk q (mdC room (.slice la L.length lc) dv low) 81 :: Row 32 5 (.slice la L.length lc) (recs L) :: l') w' → (fun w' : World => w'.cell? ⟨q, 1, none⟩ = some (.slice la L.length lc) ∧ w'.cell? ⟨gi, 0, none⟩ = some (.int .i64 r) ∧ w'.cell? ⟨gi, 1, none⟩ = some (.int .i64 s)) w' := fun Hc w' l' hl h => ⟨h.blk_cell 1, h.cell (Hp.cell_le hl u0), h.cell (Hp.cell_le hl u1)⟩
                    have ql := hO.blk_lt
                    replace kk := Lib.hid kk
                    clear hFl hyd hFB
                    go_wp2_with fail
                    generalize hgr : w11.heap.size = gr at *
                    generalize w11.alloc (.cells (rcA ((t0, t1), tq, .slice e1 e2 e3, .slice f1 f2 f3, tD, tB)) 32) = w12 at *
                    replace hO := hO.drew
                    replace en13 := en13.drew
                    refine wp_region_held_drew (S := (fun w' : World => w'.cell? ⟨q, 1, none⟩ = some (.slice la L.length lc) ∧ w'.cell? ⟨gi, 0, none⟩ = some (.int .i64 r) ∧ w'.cell? ⟨gi, 1, none⟩ = some (.int .i64 s))) (by kernel_rfl) (kk.out _ _ _ (Hp.le_refl _) hO) (fun hHeld => ?_)
                    refine wpAnyH_take (i := 0) (oi := { dst := some 164, op := Go.Op.move (Go.Operand.tmp 5), type := 67, pos := "law.go:138", after := #[], guard := none }) (v := ?_) rfl (by kernel_rfl) (by kernel_rfl) (by kernel_rfl) (fun _ _ _ h => h) (Or.inl ⟨by rfl, ?_⟩) (by assumption) ?_
                    rotate_left
                    · (intro w hSw; (try dsimp only at hSw); go_simp; (try (with_reducible rfl)))
                    try simp only [Act.put, List.setIfInBounds_toArray, List.set_cons_zero, List.set_cons_succ]
                    refine wpAnyH_take (i := 1) (oi := { dst := some 165, op := Go.Op.load 28 (Go.Operand.tmp 10), type := 28, pos := "law.go:138", after := #[], guard := none }) (v := ?_) rfl (by kernel_rfl) (by kernel_rfl) (by kernel_rfl) (fun _ _ _ h => h) (Or.inl ⟨by rfl, ?_⟩) (by assumption) ?_
                    rotate_left
                    · (intro w hSw; (try dsimp only at hSw); go_simp; (try (with_reducible rfl)))
                    try simp only [Act.put, List.setIfInBounds_toArray, List.set_cons_zero, List.set_cons_succ]
                    refine wpAnyH_take (i := 3) (oi := { dst := some 167, op := Go.Op.move (Go.Operand.tmp 7), type := 78, pos := "law.go:138", after := #[], guard := none }) (v := ?_) rfl (by kernel_rfl) (by kernel_rfl) (by kernel_rfl) (fun _ _ _ h => h) (Or.inl ⟨by rfl, ?_⟩) (by assumption) ?_
                    rotate_left
                    · (intro w hSw; (try dsimp only at hSw); go_simp; (try (with_reducible rfl)))
                    try simp only [Act.put, List.setIfInBounds_toArray, List.set_cons_zero, List.set_cons_succ]
                    refine wpAnyH_take (i := 4) (oi := { dst := some 168, op := Go.Op.load 28 (Go.Operand.tmp 10), type := 28, pos := "law.go:138", after := #[], guard := none }) (v := ?_) rfl (by kernel_rfl) (by kernel_rfl) (by kernel_rfl) (fun _ _ _ h => h) (Or.inl ⟨by rfl, ?_⟩) (by assumption) ?_
                    rotate_left
                    · (intro w hSw; (try dsimp only at hSw); go_simp; (try (with_reducible rfl)))
                    try simp only [Act.put, List.setIfInBounds_toArray, List.set_cons_zero, List.set_cons_succ]
                    refine wpAnyH_ready (rs := [2]) (by kernel_rfl) (by simp) ?_
                    refine AllReadyH.cons (o := { dst := some 166, op := Go.Op.call { callee := Go.Callee.value (Go.Operand.func 46), args := #[Go.Operand.tmp 164, Go.Operand.tmp 165], argTypes := #[67, 28] }, type := 3, pos := "law.go:138", after := #[{ on := 0, ground := Go.Ground.data }, { on := 1, ground := Go.Ground.data }], guard := none }) rfl (fun K hK => ?_) AllReadyH.nil
                    go_simp
                    refine (hS1.out _ _ (hO.pick 3 (by simp))).mono ?_
                    rintro e w14 ⟨rfl, hb14⟩
                    replace hO := hO.below hb14
                    replace en13 := en13.trans (bel_env hb14)
                    refine hK.out _ _ (kk.out _ _ _ (Hp.le_refl _) hO) (fun hHeld => ?_)
                    clear hK K
                    try simp only [Act.put, List.setIfInBounds_toArray, List.set_cons_zero, List.set_cons_succ]
                    refine wpAnyH_ready (rs := [5]) (by kernel_rfl) (by simp) ?_
                    refine AllReadyH.cons (o := { dst := some 169, op := Go.Op.call { callee := Go.Callee.value (Go.Operand.func 49), args := #[Go.Operand.tmp 167, Go.Operand.tmp 168], argTypes := #[78, 28] }, type := 3, pos := "law.go:138", after := #[{ on := 3, ground := Go.Ground.data }, { on := 4, ground := Go.Ground.data }, { on := 2, ground := Go.Ground.chain }], guard := none }) rfl (fun K hK => ?_) AllReadyH.nil
                    go_simp
                    refine (hS2.out _ _ (mdShut hO)).mono ?_
                    rintro e w15 ⟨rfl, hb15⟩
                    replace hO := hO.below hb15
                    replace en13 := en13.trans (bel_env hb15)
                    refine hK.out _ _ (kk.out _ _ _ (Hp.le_refl _) hO) (fun hHeld => ?_)
                    clear hK K
                    try simp only [Act.put, List.setIfInBounds_toArray, List.set_cons_zero, List.set_cons_succ]
                    refine wpAnyH_take (i := 6) (oi := { dst := some 170, op := Go.Op.binOp Go.BinOp.neq 3 (Go.Operand.tmp 166) (Go.Operand.tmp 169) 3, type := 4, pos := "law.go:138", after := #[{ on := 2, ground := Go.Ground.data }, { on := 5, ground := Go.Ground.data }], guard := none }) (v := ?_) rfl (by kernel_rfl) (by kernel_rfl) (by kernel_rfl) (fun _ _ _ h => h) (Or.inl ⟨by rfl, ?_⟩) (by assumption) ?_
                    rotate_left
                    · (intro w hSw; (try dsimp only at hSw); go_simp; (try (with_reducible rfl)))
                    try simp only [Act.put, List.setIfInBounds_toArray, List.set_cons_zero, List.set_cons_succ]
                    refine wpAnyH_take (i := 7) (oi := { dst := some 171, op := Go.Op.move (Go.Operand.tmp 170), type := 4, pos := "law.go:138", after := #[{ on := 6, ground := Go.Ground.data }, { on := 5, ground := Go.Ground.chain }], guard := none }) (v := ?_) rfl (by kernel_rfl) (by kernel_rfl) (by kernel_rfl) (fun _ _ _ h => h) (Or.inl ⟨by rfl, ?_⟩) (by assumption) ?_
                    rotate_left
                    · (intro w hSw; (try dsimp only at hSw); go_simp; (try (with_reducible rfl)))
                    try simp only [Act.put, List.setIfInBounds_toArray, List.set_cons_zero, List.set_cons_succ]
                    refine wpAnyH_take (i := 8) (oi := { dst := some 172, op := Go.Op.move (Go.Operand.tmp 14), type := 4, pos := "law.go:138", after := #[{ on := 7, ground := Go.Ground.guard }], guard := some (7, false) }) (v := ?_) rfl (by kernel_rfl) (by kernel_rfl) (by kernel_rfl) (fun _ _ _ h => h) (Or.inl ⟨by rfl, ?_⟩) (by assumption) ?_
                    rotate_left
                    · (intro w hSw; (try dsimp only at hSw); go_simp; (try (with_reducible rfl)))
                    try simp only [Act.put, List.setIfInBounds_toArray, List.set_cons_zero, List.set_cons_succ]
                    refine wpAnyH_take (i := 9) (oi := { dst := some 173, op := Go.Op.move (Go.Operand.tmp 12), type := 3, pos := "law.go:138", after := #[{ on := 7, ground := Go.Ground.guard }], guard := some (7, false) }) (v := ?_) rfl (by kernel_rfl) (by kernel_rfl) (by kernel_rfl) (fun _ _ _ h => h) (Or.inl ⟨by rfl, ?_⟩) (by assumption) ?_
                    rotate_left
                    · (intro w hSw; (try dsimp only at hSw); go_simp; (try (with_reducible rfl)))
                    try simp only [Act.put, List.setIfInBounds_toArray, List.set_cons_zero, List.set_cons_succ]
                    refine wpAnyH_take (i := 10) (oi := { dst := some 174, op := Go.Op.binOp Go.BinOp.geq 3 (Go.Operand.tmp 173) (Go.Operand.const (Go.Value.int Go.IntKind.i64 0)) 3, type := 4, pos := "law.go:138", after := #[{ on := 9, ground := Go.Ground.data }, { on := 7, ground := Go.Ground.guard }], guard := some (7, false) }) (v := ?_) rfl (by kernel_rfl) (by kernel_rfl) (by kernel_rfl) (fun _ _ _ h => h) (Or.inl ⟨by rfl, ?_⟩) (by assumption) ?_
                    rotate_left
                    · (intro w hSw; (try dsimp only at hSw); go_simp; (try (with_reducible rfl)))
                    try simp only [Act.put, List.setIfInBounds_toArray, List.set_cons_zero, List.set_cons_succ]
                    refine wpAnyH_take (i := 11) (oi := { dst := some 175, op := Go.Op.binOp Go.BinOp.neq 4 (Go.Operand.tmp 172) (Go.Operand.tmp 174) 4, type := 4, pos := "law.go:138", after := #[{ on := 8, ground := Go.Ground.data }, { on := 10, ground := Go.Ground.data }, { on := 7, ground := Go.Ground.guard }], guard := some (7, false) }) (v := ?_) rfl (by kernel_rfl) (by kernel_rfl) (by kernel_rfl) (fun _ _ _ h => h) (Or.inl ⟨by rfl, ?_⟩) (by assumption) ?_
                    rotate_left
                    · (intro w hSw; (try dsimp only at hSw); go_simp; (try (with_reducible rfl)))
                    try simp only [Act.put, List.setIfInBounds_toArray, List.set_cons_zero, List.set_cons_succ]
                    refine wpAnyH_take (i := 12) (oi := { dst := some 176, op := Go.Op.pick (Go.Operand.tmp 171) (Go.Operand.const (Go.Value.bool true)) (Go.Operand.tmp 175), type := 4, pos := "law.go:138", after := #[{ on := 7, ground := Go.Ground.data }, { on := 11, ground := Go.Ground.data }], guard := none }) (v := ?_) rfl (by kernel_rfl) (by kernel_rfl) (by kernel_rfl) (fun _ _ _ h => h) (Or.inl ⟨by rfl, ?_⟩) (by assumption) ?_
                    rotate_left
                    · (intro w hSw; (try dsimp only at hSw); go_simp; (try (with_reducible rfl)))
                    try simp only [Act.put, List.setIfInBounds_toArray, List.set_cons_zero, List.set_cons_succ]
                    refine wpAnyH_take (i := 13) (oi := { dst := some 177, op := Go.Op.move (Go.Operand.tmp 176), type := 4, pos := "law.go:138", after := #[{ on := 12, ground := Go.Ground.data }, { on := 7, ground := Go.Ground.chain }], guard := none }) (v := ?_) rfl (by kernel_rfl) (by kernel_rfl) (by kernel_rfl) (fun _ _ _ h => h) (Or.inl ⟨by rfl, ?_⟩) (by assumption) ?_
                    rotate_left
                    · (intro w hSw; (try dsimp only at hSw); go_simp; (try (with_reducible rfl)))
                    try simp only [Act.put, List.setIfInBounds_toArray, List.set_cons_zero, List.set_cons_succ]
                    refine wpAnyH_take (i := 14) (oi := { dst := some 178, op := Go.Op.move (Go.Operand.tmp 14), type := 4, pos := "law.go:138", after := #[{ on := 13, ground := Go.Ground.guard }], guard := some (13, false) }) (v := ?_) rfl (by kernel_rfl) (by kernel_rfl) (by kernel_rfl) (fun _ _ _ h => h) (Or.inl ⟨by rfl, ?_⟩) (by assumption) ?_
                    rotate_left
                    · (intro w hSw; (try dsimp only at hSw); go_simp; (try (with_reducible rfl)))
                    try simp only [Act.put, List.setIfInBounds_toArray, List.set_cons_zero, List.set_cons_succ]
                    refine wpAnyH_take (i := 15) (oi := { dst := some 179, op := Go.Op.move (Go.Operand.tmp 178), type := 4, pos := "law.go:138", after := #[{ on := 14, ground := Go.Ground.data }, { on := 13, ground := Go.Ground.chain }, { on := 13, ground := Go.Ground.guard }], guard := some (13, false) }) (v := ?_) rfl (by kernel_rfl) (by kernel_rfl) (by kernel_rfl) (fun _ _ _ h => h) (Or.inl ⟨by rfl, ?_⟩) (by assumption) ?_
                    rotate_left
                    · (intro w hSw; (try dsimp only at hSw); go_simp; (try (with_reducible rfl)))
                    try simp only [Act.put, List.setIfInBounds_toArray, List.set_cons_zero, List.set_cons_succ]
                    refine wpAnyH_take (i := 16) (oi := { dst := some 180, op := Go.Op.load 32 (Go.Operand.tmp 13), type := 32, pos := "law.go:138", after := #[{ on := 15, ground := Go.Ground.guard }], guard := some (15, true) }) (v := undef) rfl (by kernel_rfl) (by kernel_rfl) (by kernel_rfl) (fun _ _ _ h => h) (Or.inr ⟨by rfl, rfl⟩) (by assumption) ?_
                    try simp only [Act.put, List.setIfInBounds_toArray, List.set_cons_zero, List.set_cons_succ]
                    refine wpAnyH_take (i := 17) (oi := { dst := some 181, op := Go.Op.move (Go.Operand.tmp 7), type := 78, pos := "law.go:138", after := #[{ on := 15, ground := Go.Ground.guard }], guard := some (15, true) }) (v := undef) rfl (by kernel_rfl) (by kernel_rfl) (by kernel_rfl) (fun _ _ _ h => h) (Or.inr ⟨by rfl, rfl⟩) (by assumption) ?_
                    try simp only [Act.put, List.setIfInBounds_toArray, List.set_cons_zero, List.set_cons_succ]
                    refine wpAnyH_take (i := 18) (oi := { dst := some 182, op := Go.Op.nilCheck (Go.Operand.tmp 181), type := 0, pos := "law.go:138", after := #[{ on := 17, ground := Go.Ground.data }, { on := 15, ground := Go.Ground.guard }], guard := some (15, true) }) (v := undef) rfl (by kernel_rfl) (by kernel_rfl) (by kernel_rfl) (fun _ _ _ h => h) (Or.inr ⟨by rfl, rfl⟩) (by assumption) ?_
                    try simp only [Act.put, List.setIfInBounds_toArray, List.set_cons_zero, List.set_cons_succ]
                    refine wpAnyH_take (i := 19) (oi := { dst := some 183, op := Go.Op.fieldAddr 81 (Go.Operand.tmp 182) 1, type := 0, pos := "law.go:138", after := #[{ on := 18, ground := Go.Ground.data }, { on := 15, ground := Go.Ground.guard }], guard := some (15, true) }) (v := undef) rfl (by kernel_rfl) (by kernel_rfl) (by kernel_rfl) (fun _ _ _ h => h) (Or.inr ⟨by rfl, rfl⟩) (by assumption) ?_
                    try simp only [Act.put, List.setIfInBounds_toArray, List.set_cons_zero, List.set_cons_succ]
                    refine wpAnyH_take (i := 20) (oi := { dst := some 184, op := Go.Op.load 22 (Go.Operand.tmp 183), type := 22, pos := "law.go:138", after := #[{ on := 19, ground := Go.Ground.data }, { on := 15, ground := Go.Ground.guard }], guard := some (15, true) }) (v := undef) rfl (by kernel_rfl) (by kernel_rfl) (by kernel_rfl) (fun _ _ _ h => h) (Or.inr ⟨by rfl, rfl⟩) (by assumption) ?_
                    try simp only [Act.put, List.setIfInBounds_toArray, List.set_cons_zero, List.set_cons_succ]
                    refine wpAnyH_take (i := 21) (oi := { dst := some 185, op := Go.Op.move (Go.Operand.tmp 12), type := 3, pos := "law.go:138", after := #[{ on := 15, ground := Go.Ground.guard }], guard := some (15, true) }) (v := undef) rfl (by kernel_rfl) (by kernel_rfl) (by kernel_rfl) (fun _ _ _ h => h) (Or.inr ⟨by rfl, rfl⟩) (by assumption) ?_
                    try simp only [Act.put, List.setIfInBounds_toArray, List.set_cons_zero, List.set_cons_succ]
                    refine wpAnyH_take (i := 22) (oi := { dst := some 186, op := Go.Op.indexAddr 22 (Go.Operand.tmp 184) (Go.Operand.tmp 185), type := 0, pos := "law.go:138", after := #[{ on := 20, ground := Go.Ground.data }, { on := 21, ground := Go.Ground.data }, { on := 15, ground := Go.Ground.guard }], guard := some (15, true) }) (v := undef) rfl (by kernel_rfl) (by kernel_rfl) (by kernel_rfl) (fun _ _ _ h => h) (Or.inr ⟨by rfl, rfl⟩) (by assumption) ?_
                    try simp only [Act.put, List.setIfInBounds_toArray, List.set_cons_zero, List.set_cons_succ]
                    refine wpAnyH_take (i := 23) (oi := { dst := some 187, op := Go.Op.load 32 (Go.Operand.tmp 186), type := 32, pos := "law.go:138", after := #[{ on := 22, ground := Go.Ground.data }, { on := 15, ground := Go.Ground.guard }], guard := some (15, true) }) (v := undef) rfl (by kernel_rfl) (by kernel_rfl) (by kernel_rfl) (fun _ _ _ h => h) (Or.inr ⟨by rfl, rfl⟩) (by assumption) ?_
                    try simp only [Act.put, List.setIfInBounds_toArray, List.set_cons_zero, List.set_cons_succ]
                    refine wpAnyH_take (i := 24) (oi := { dst := some 188, op := Go.Op.call { callee := Go.Callee.value (Go.Operand.func 14), args := #[Go.Operand.tmp 180, Go.Operand.tmp 187], argTypes := #[32, 32] }, type := 4, pos := "law.go:138", after := #[{ on := 16, ground := Go.Ground.data }, { on := 23, ground := Go.Ground.data }, { on := 15, ground := Go.Ground.chain }, { on := 15, ground := Go.Ground.guard }], guard := some (15, true) }) (v := undef) rfl (by kernel_rfl) (by kernel_rfl) (by kernel_rfl) (fun _ _ _ h => h) (Or.inr ⟨by rfl, rfl⟩) (by assumption) ?_
                    try simp only [Act.put, List.setIfInBounds_toArray, List.set_cons_zero, List.set_cons_succ]
                    refine wpAnyH_take (i := 25) (oi := { dst := some 189, op := Go.Op.unOp Go.UnOp.not 4 (Go.Operand.tmp 188), type := 4, pos := "law.go:138", after := #[{ on := 24, ground := Go.Ground.data }, { on := 15, ground := Go.Ground.guard }], guard := some (15, true) }) (v := undef) rfl (by kernel_rfl) (by kernel_rfl) (by kernel_rfl) (fun _ _ _ h => h) (Or.inr ⟨by rfl, rfl⟩) (by assumption) ?_
                    try simp only [Act.put, List.setIfInBounds_toArray, List.set_cons_zero, List.set_cons_succ]
                    refine wpAnyH_take (i := 26) (oi := { dst := some 190, op := Go.Op.pick (Go.Operand.tmp 179) (Go.Operand.tmp 189) (Go.Operand.const (Go.Value.bool false)), type := 4, pos := "law.go:138", after := #[{ on := 15, ground := Go.Ground.data }, { on := 25, ground := Go.Ground.data }, { on := 13, ground := Go.Ground.guard }], guard := some (13, false) }) (v := ?_) rfl (by kernel_rfl) (by kernel_rfl) (by kernel_rfl) (fun _ _ _ h => h) (Or.inl ⟨by rfl, ?_⟩) (by assumption) ?_
                    rotate_left
                    · (intro w hSw; (try dsimp only at hSw); go_simp; (try (with_reducible rfl)))
                    try simp only [Act.put, List.setIfInBounds_toArray, List.set_cons_zero, List.set_cons_succ]
                    refine wpAnyH_take (i := 27) (oi := { dst := some 191, op := Go.Op.pick (Go.Operand.tmp 177) (Go.Operand.const (Go.Value.bool true)) (Go.Operand.tmp 190), type := 4, pos := "law.go:138", after := #[{ on := 13, ground := Go.Ground.data }, { on := 26, ground := Go.Ground.data }], guard := none }) (v := ?_) rfl (by kernel_rfl) (by kernel_rfl) (by kernel_rfl) (fun _ _ _ h => h) (Or.inl ⟨by rfl, ?_⟩) (by assumption) ?_
                    rotate_left
                    · (intro w hSw; (try dsimp only at hSw); go_simp; (try (with_reducible rfl)))
                    try simp only [Act.put, List.setIfInBounds_toArray, List.set_cons_zero, List.set_cons_succ]
                    refine wpAnyH_take (i := 28) (oi := { dst := some 192, op := Go.Op.move (Go.Operand.tmp 191), type := 4, pos := "law.go:138", after := #[{ on := 27, ground := Go.Ground.data }, { on := 24, ground := Go.Ground.chain }], guard := none }) (v := ?_) rfl (by kernel_rfl) (by kernel_rfl) (by kernel_rfl) (fun _ _ _ h => h) (Or.inl ⟨by rfl, ?_⟩) (by assumption) ?_
                    rotate_left
                    · (intro w hSw; (try dsimp only at hSw); go_simp; (try (with_reducible rfl)))
                    try simp only [Act.put, List.setIfInBounds_toArray, List.set_cons_zero, List.set_cons_succ]
                    refine wpAnyH_take (i := 29) (oi := { dst := some 193, op := Go.Op.move (Go.Operand.tmp 5), type := 67, pos := "law.go:138", after := #[{ on := 28, ground := Go.Ground.guard }], guard := some (28, false) }) (v := ?_) rfl (by kernel_rfl) (by kernel_rfl) (by kernel_rfl) (fun _ _ _ h => h) (Or.inl ⟨by rfl, ?_⟩) (by assumption) ?_
                    rotate_left
                    · (intro w hSw; (try dsimp only at hSw); go_simp; (try (with_reducible rfl)))
                    try simp only [Act.put, List.setIfInBounds_toArray, List.set_cons_zero, List.set_cons_succ]
                    refine wpAnyH_take (i := 31) (oi := { dst := some 195, op := Go.Op.move (Go.Operand.tmp 0), type := 3, pos := "law.go:138", after := #[{ on := 28, ground := Go.Ground.guard }], guard := some (28, false) }) (v := ?_) rfl (by kernel_rfl) (by kernel_rfl) (by kernel_rfl) (fun _ _ _ h => h) (Or.inl ⟨by rfl, ?_⟩) (by assumption) ?_
                    rotate_left
                    · (intro w hSw; (try dsimp only at hSw); go_simp; (try (with_reducible rfl)))
                    try simp only [Act.put, List.setIfInBounds_toArray, List.set_cons_zero, List.set_cons_succ]
                    refine wpAnyH_take (i := 32) (oi := { dst := some 196, op := Go.Op.move (Go.Operand.tmp 7), type := 78, pos := "law.go:138", after := #[{ on := 28, ground := Go.Ground.guard }], guard := some (28, false) }) (v := ?_) rfl (by kernel_rfl) (by kernel_rfl) (by kernel_rfl) (fun _ _ _ h => h) (Or.inl ⟨by rfl, ?_⟩) (by assumption) ?_
                    rotate_left
                    · (intro w hSw; (try dsimp only at hSw); go_simp; (try (with_reducible rfl)))
                    try simp only [Act.put, List.setIfInBounds_toArray, List.set_cons_zero, List.set_cons_succ]
                    refine wpAnyH_take (i := 33) (oi := { dst := some 197, op := Go.Op.nilCheck (Go.Operand.tmp 196), type := 0, pos := "law.go:138", after := #[{ on := 32, ground := Go.Ground.data }, { on := 28, ground := Go.Ground.guard }], guard := some (28, false) }) (v := ?_) rfl (by kernel_rfl) (by kernel_rfl) (by kernel_rfl) (fun _ _ _ h => h) (Or.inl ⟨by rfl, ?_⟩) (by assumption) ?_
                    rotate_left
                    · (intro w hSw; (try dsimp only at hSw); go_simp; (try (with_reducible rfl)))
                    try simp only [Act.put, List.setIfInBounds_toArray, List.set_cons_zero, List.set_cons_succ]
                    refine wpAnyH_take (i := 34) (oi := { dst := some 198, op := Go.Op.fieldAddr 81 (Go.Operand.tmp 197) 1, type := 0, pos := "law.go:138", after := #[{ on := 33, ground := Go.Ground.data }, { on := 28, ground := Go.Ground.guard }], guard := some (28, false) }) (v := ?_) rfl (by kernel_rfl) (by kernel_rfl) (by kernel_rfl) (fun _ _ _ h => h) (Or.inl ⟨by rfl, ?_⟩) (by assumption) ?_
                    rotate_left
                    · (intro w hSw; (try dsimp only at hSw); go_simp; (try (with_reducible rfl)))
                    try simp only [Act.put, List.setIfInBounds_toArray, List.set_cons_zero, List.set_cons_succ]
                    refine wpAnyH_take (i := 35) (oi := { dst := some 199, op := Go.Op.load 22 (Go.Operand.tmp 198), type := 22, pos := "law.go:138", after := #[{ on := 34, ground := Go.Ground.data }, { on := 28, ground := Go.Ground.guard }], guard := some (28, false) }) (v := ?_) rfl (by kernel_rfl) (by kernel_rfl) (by kernel_rfl) (fun _ _ _ h => h) (Or.inl ⟨by rfl, ?_⟩) (by assumption) ?_
                    rotate_left
                    · (intro w hSw; (try dsimp only at hSw); go_simp; (try (with_reducible rfl)))
                    try simp only [Act.put, List.setIfInBounds_toArray, List.set_cons_zero, List.set_cons_succ]
                    refine wpAnyH_take (i := 36) (oi := { dst := some 200, op := Go.Op.call { callee := Go.Callee.builtin Go.Builtin.len, args := #[Go.Operand.tmp 199], argTypes := #[22] }, type := 3, pos := "law.go:138", after := #[{ on := 35, ground := Go.Ground.data }, { on := 28, ground := Go.Ground.guard }], guard := some (28, false) }) (v := ?_) rfl (by kernel_rfl) (by kernel_rfl) (by kernel_rfl) (fun _ _ _ h => h) (Or.inl ⟨by rfl, ?_⟩) (by assumption) ?_
                    rotate_left
                    · (intro w hSw; (try dsimp only at hSw); go_simp; (try (with_reducible rfl)))
                    try simp only [Act.put, List.setIfInBounds_toArray, List.set_cons_zero, List.set_cons_succ]
                    refine wpAnyH_take (i := 37) (oi := { dst := some 201, op := Go.Op.binOp Go.BinOp.sub 3 (Go.Operand.tmp 195) (Go.Operand.tmp 200) 3, type := 3, pos := "law.go:138", after := #[{ on := 31, ground := Go.Ground.data }, { on := 36, ground := Go.Ground.data }, { on := 28, ground := Go.Ground.guard }], guard := some (28, false) }) (v := ?_) rfl (by kernel_rfl) (by kernel_rfl) (by kernel_rfl) (fun _ _ _ h => h) (Or.inl ⟨by rfl, ?_⟩) (by assumption) ?_
                    rotate_left
                    · (intro w hSw; (try dsimp only at hSw); go_simp; (try (with_reducible rfl)))
                    try simp only [Act.put, List.setIfInBounds_toArray, List.set_cons_zero, List.set_cons_succ]
                    refine wpAnyH_ready (rs := [30]) (by kernel_rfl) (by simp) ?_
                    refine AllReadyH.cons (o := { dst := some 194, op := Go.Op.call { callee := Go.Callee.value (Go.Operand.func 44), args := #[Go.Operand.tmp 193], argTypes := #[67] }, type := 3, pos := "law.go:138", after := #[{ on := 29, ground := Go.Ground.data }, { on := 28, ground := Go.Ground.chain }, { on := 28, ground := Go.Ground.guard }], guard := some (28, false) }) rfl (fun K hK => ?_) AllReadyH.nil
                    go_simp
                    refine (hFr.out _ _ (hO.pick 3 (by simp))).mono ?_
                    rintro e w17 ⟨rfl, hb17⟩
                    replace hO := hO.below hb17
                    replace en13 := en13.trans (bel_env hb17)
                    refine hK.out _ _ (kk.out _ _ _ (Hp.le_refl _) hO) (fun hHeld => ?_)
                    clear hK K
                    try simp only [Act.put, List.setIfInBounds_toArray, List.set_cons_zero, List.set_cons_succ]
                    refine wpAnyH_take (i := 38) (oi := { dst := some 202, op := Go.Op.binOp Go.BinOp.neq 3 (Go.Operand.tmp 194) (Go.Operand.tmp 201) 3, type := 4, pos := "law.go:138", after := #[{ on := 30, ground := Go.Ground.data }, { on := 37, ground := Go.Ground.data }, { on := 28, ground := Go.Ground.guard }], guard := some (28, false) }) (v := ?_) rfl (by kernel_rfl) (by kernel_rfl) (by kernel_rfl) (fun _ _ _ h => h) (Or.inl ⟨by rfl, ?_⟩) (by assumption) ?_
                    rotate_left
                    · (intro w hSw; (try dsimp only at hSw); go_simp; (try (with_reducible rfl)))
                    try simp only [Act.put, List.setIfInBounds_toArray, List.set_cons_zero, List.set_cons_succ]
                    refine wpAnyH_take (i := 39) (oi := { dst := some 203, op := Go.Op.pick (Go.Operand.tmp 192) (Go.Operand.const (Go.Value.bool true)) (Go.Operand.tmp 202), type := 4, pos := "law.go:138", after := #[{ on := 28, ground := Go.Ground.data }, { on := 38, ground := Go.Ground.data }], guard := none }) (v := ?_) rfl (by kernel_rfl) (by kernel_rfl) (by kernel_rfl) (fun _ _ _ h => h) (Or.inl ⟨by rfl, ?_⟩) (by assumption) ?_
                    rotate_left
                    · (intro w hSw; (try dsimp only at hSw); go_simp; (try (with_reducible rfl)))
                    try simp only [Act.put, List.setIfInBounds_toArray, List.set_cons_zero, List.set_cons_succ]
                    refine wpAnyH_take (i := 40) (oi := { dst := some 204, op := Go.Op.move (Go.Operand.tmp 203), type := 4, pos := "law.go:138", after := #[{ on := 39, ground := Go.Ground.data }, { on := 30, ground := Go.Ground.chain }], guard := none }) (v := ?_) rfl (by kernel_rfl) (by kernel_rfl) (by kernel_rfl) (fun _ _ _ h => h) (Or.inl ⟨by rfl, ?_⟩) (by assumption) ?_
                    rotate_left
                    · (intro w hSw; (try dsimp only at hSw); go_simp; (try (with_reducible rfl)))
                    try simp only [Act.put, List.setIfInBounds_toArray, List.set_cons_zero, List.set_cons_succ]
                    refine wpAnyH_take (i := 41) (oi := { dst := some 205, op := Go.Op.move (Go.Operand.tmp 5), type := 67, pos := "law.go:138", after := #[{ on := 40, ground := Go.Ground.guard }], guard := some (40, false) }) (v := ?_) rfl (by kernel_rfl) (by kernel_rfl) (by kernel_rfl) (fun _ _ _ h => h) (Or.inl ⟨by rfl, ?_⟩) (by assumption) ?_
                    rotate_left
                    · (intro w hSw; (try dsimp only at hSw); go_simp; (try (with_reducible rfl)))
                    try simp only [Act.put, List.setIfInBounds_toArray, List.set_cons_zero, List.set_cons_succ]
                    refine wpAnyH_take (i := 43) (oi := { dst := some 207, op := Go.Op.move (Go.Operand.tmp 7), type := 78, pos := "law.go:138", after := #[{ on := 40, ground := Go.Ground.guard }], guard := some (40, false) }) (v := ?_) rfl (by kernel_rfl) (by kernel_rfl) (by kernel_rfl) (fun _ _ _ h => h) (Or.inl ⟨by rfl, ?_⟩) (by assumption) ?_
                    rotate_left
                    · (intro w hSw; (try dsimp only at hSw); go_simp; (try (with_reducible rfl)))
                    try simp only [Act.put, List.setIfInBounds_toArray, List.set_cons_zero, List.set_cons_succ]
                    refine wpAnyH_ready (rs := [42]) (by kernel_rfl) (by simp) ?_
                    refine AllReadyH.cons (o := { dst := some 206, op := Go.Op.call { callee := Go.Callee.value (Go.Operand.func 43), args := #[Go.Operand.tmp 205], argTypes := #[67] }, type := 29, pos := "law.go:138", after := #[{ on := 41, ground := Go.Ground.data }, { on := 40, ground := Go.Ground.chain }, { on := 40, ground := Go.Ground.guard }], guard := some (40, false) }) rfl (fun K hK => ?_) AllReadyH.nil
                    go_simp
                    refine (hKe.out _ _ (hO.pick 3 (by simp))).mono ?_
                    rintro e w18 ⟨kv, rfl, h18, en18⟩
                    obtain ⟨kv1, kv2, kv3, rfl, _⟩ := h18.row_form
                    replace en13 := en13.trans en18
                    obtain ⟨H6, l6, h19, hkv⟩ := h18.row_keep
                    replace h19 := h19.perm (List.perm_append_comm (l₁ := [VsA p room _ M low]) (l₂ := [_, _, _]))
                    refine hK.out _ _ (kk.out _ _ _ l6 h19) (fun hHeld => ?_)
                    clear hK K
                    try simp only [Act.put, List.setIfInBounds_toArray, List.set_cons_zero, List.set_cons_succ]
                    refine wpAnyH_ready (rs := [44]) (by kernel_rfl) (by simp) ?_
                    refine AllReadyH.cons (o := { dst := some 208, op := Go.Op.call { callee := Go.Callee.value (Go.Operand.func 53), args := #[Go.Operand.tmp 207], argTypes := #[78] }, type := 29, pos := "law.go:138", after := #[{ on := 43, ground := Go.Ground.data }, { on := 42, ground := Go.Ground.chain }, { on := 40, ground := Go.Ground.guard }], guard := some (40, false) }) rfl (fun K hK => ?_) AllReadyH.nil
                    go_simp
                    refine (hMk.out _ _ _ _ _ h19).mono ?_
                    rintro e w20 ⟨mv, rfl, h20, en20⟩
                    obtain ⟨mv1, mv2, mv3, rfl, _⟩ := h20.row_form
                    replace en13 := en13.trans en20
                    obtain ⟨H7, l7, h21, hmv⟩ := h20.row_keep
                    have l67 := Hp.le_trans l6 l7
                    refine hK.out _ _ (kk.out _ _ _ l67 h21) (fun hHeld => ?_)
                    clear hK K
                    try simp only [Act.put, List.setIfInBounds_toArray, List.set_cons_zero, List.set_cons_succ]
                    refine wpAnyH_ready (rs := [45]) (by kernel_rfl) (by simp) ?_
                    refine AllReadyH.cons (o := { dst := some 209, op := Go.Op.call { callee := Go.Callee.value (Go.Operand.func 32), args := #[Go.Operand.tmp 206, Go.Operand.tmp 208], argTypes := #[29, 29] }, type := 4, pos := "law.go:138", after := #[{ on := 42, ground := Go.Ground.data }, { on := 44, ground := Go.Ground.data }, { on := 44, ground := Go.Ground.chain }, { on := 40, ground := Go.Ground.guard }], guard := some (40, false) }) rfl (fun K hK => ?_) AllReadyH.nil
                    go_simp
                    refine (sameIds_any _ _ (sortL (rids L)) (sortL (rids L)) _ ((hkv.mono l7).rw h21) (hmv.rw h21)).mono ?_
                    rintro e w22 ⟨rfl, hb22⟩
                    rw [decide_eq_true rfl]
                    replace h21 := h21.below hb22
                    replace en13 := en13.trans (bel_env hb22)
                    refine hK.out _ _ (kk.out _ _ _ l67 h21) (fun hHeld => ?_)
                    clear hK K
                    try simp only [Act.put, List.setIfInBounds_toArray, List.set_cons_zero, List.set_cons_succ]
                    refine wpAnyH_take (i := 46) (oi := { dst := some 210, op := Go.Op.unOp Go.UnOp.not 4 (Go.Operand.tmp 209), type := 4, pos := "law.go:138", after := #[{ on := 45, ground := Go.Ground.data }, { on := 40, ground := Go.Ground.guard }], guard := some (40, false) }) (v := ?_) rfl (by kernel_rfl) (by kernel_rfl) (by kernel_rfl) (fun _ _ _ h => h) (Or.inl ⟨by rfl, ?_⟩) (by assumption) ?_
                    rotate_left
                    · (intro w hSw; (try dsimp only at hSw); go_simp; (try (with_reducible rfl)))
                    try simp only [Act.put, List.setIfInBounds_toArray, List.set_cons_zero, List.set_cons_succ]
                    refine wpAnyH_take (i := 47) (oi := { dst := some 211, op := Go.Op.pick (Go.Operand.tmp 204) (Go.Operand.const (Go.Value.bool true)) (Go.Operand.tmp 210), type := 4, pos := "law.go:138", after := #[{ on := 40, ground := Go.Ground.data }, { on := 46, ground := Go.Ground.data }], guard := none }) (v := ?_) rfl (by kernel_rfl) (by kernel_rfl) (by kernel_rfl) (fun _ _ _ h => h) (Or.inl ⟨by rfl, ?_⟩) (by assumption) ?_
                    rotate_left
                    · (intro w hSw; (try dsimp only at hSw); go_simp; (try (with_reducible rfl)))
                    try simp only [Act.put, List.setIfInBounds_toArray, List.set_cons_zero, List.set_cons_succ]
                    refine wpAnyH_take (i := 48) (oi := { dst := some 212, op := Go.Op.move (Go.Operand.tmp 211), type := 4, pos := "law.go:138", after := #[{ on := 47, ground := Go.Ground.data }, { on := 45, ground := Go.Ground.chain }], guard := none }) (v := ?_) rfl (by kernel_rfl) (by kernel_rfl) (by kernel_rfl) (fun _ _ _ h => h) (Or.inl ⟨by rfl, ?_⟩) (by assumption) ?_
                    rotate_left
                    · (intro w hSw; (try dsimp only at hSw); go_simp; (try (with_reducible rfl)))
                    try simp only [Act.put, List.setIfInBounds_toArray, List.set_cons_zero, List.set_cons_succ]
                    refine wpAnyH_take (i := 49) (oi := { dst := some 213, op := Go.Op.move (Go.Operand.tmp 5), type := 67, pos := "law.go:138", after := #[{ on := 48, ground := Go.Ground.guard }], guard := some (48, false) }) (v := ?_) rfl (by kernel_rfl) (by kernel_rfl) (by kernel_rfl) (fun _ _ _ h => h) (Or.inl ⟨by rfl, ?_⟩) (by assumption) ?_
                    rotate_left
                    · (intro w hSw; (try dsimp only at hSw); go_simp; (try (with_reducible rfl)))
                    try simp only [Act.put, List.setIfInBounds_toArray, List.set_cons_zero, List.set_cons_succ]
                    refine wpAnyH_take (i := 50) (oi := { dst := some 214, op := Go.Op.fieldAddr 28 (Go.Operand.tmp 10) 0, type := 0, pos := "law.go:138", after := #[{ on := 48, ground := Go.Ground.guard }], guard := some (48, false) }) (v := ?_) rfl (by kernel_rfl) (by kernel_rfl) (by kernel_rfl) (fun _ _ _ h => h) (Or.inl ⟨by rfl, ?_⟩) (by assumption) ?_
                    rotate_left
                    · (intro w hSw; (try dsimp only at hSw); go_simp; (try (with_reducible rfl)))
                    try simp only [Act.put, List.setIfInBounds_toArray, List.set_cons_zero, List.set_cons_succ]
                    refine wpAnyH_take (i := 51) (oi := { dst := some 215, op := Go.Op.load 3 (Go.Operand.tmp 214), type := 3, pos := "law.go:138", after := #[{ on := 50, ground := Go.Ground.data }, { on := 48, ground := Go.Ground.guard }], guard := some (48, false) }) (v := ?_) rfl (by kernel_rfl) (by kernel_rfl) (by kernel_rfl) (fun _ _ _ h => h) (Or.inl ⟨by rfl, ?_⟩) (by assumption) ?_
                    rotate_left
                    · (intro w hSw; (try dsimp only at hSw); go_simp; (try (with_reducible rfl)))
                    try simp only [Act.put, List.setIfInBounds_toArray, List.set_cons_zero, List.set_cons_succ]
                    refine wpAnyH_take (i := 53) (oi := { dst := some 217, op := Go.Op.move (Go.Operand.tmp 7), type := 78, pos := "law.go:138", after := #[{ on := 48, ground := Go.Ground.guard }], guard := some (48, false) }) (v := ?_) rfl (by kernel_rfl) (by kernel_rfl) (by kernel_rfl) (fun _ _ _ h => h) (Or.inl ⟨by rfl, ?_⟩) (by assumption) ?_
                    rotate_left
                    · (intro w hSw; (try dsimp only at hSw); go_simp; (try (with_reducible rfl)))
                    try simp only [Act.put, List.setIfInBounds_toArray, List.set_cons_zero, List.set_cons_succ]
                    refine wpAnyH_take (i := 54) (oi := { dst := some 218, op := Go.Op.fieldAddr 28 (Go.Operand.tmp 10) 0, type := 0, pos := "law.go:138", after := #[{ on := 48, ground := Go.Ground.guard }], guard := some (48, false) }) (v := ?_) rfl (by kernel_rfl) (by kernel_rfl) (by kernel_rfl) (fun _ _ _ h => h) (Or.inl ⟨by rfl, ?_⟩) (by assumption) ?_
                    rotate_left
                    · (intro w hSw; (try dsimp only at hSw); go_simp; (try (with_reducible rfl)))
                    try simp only [Act.put, List.setIfInBounds_toArray, List.set_cons_zero, List.set_cons_succ]
                    refine wpAnyH_take (i := 55) (oi := { dst := some 219, op := Go.Op.load 3 (Go.Operand.tmp 218), type := 3, pos := "law.go:138", after := #[{ on := 54, ground := Go.Ground.data }, { on := 48, ground := Go.Ground.guard }], guard := some (48, false) }) (v := ?_) rfl (by kernel_rfl) (by kernel_rfl) (by kernel_rfl) (fun _ _ _ h => h) (Or.inl ⟨by rfl, ?_⟩) (by assumption) ?_
                    rotate_left
                    · (intro w hSw; (try dsimp only at hSw); go_simp; (try (with_reducible rfl)))
                    try simp only [Act.put, List.setIfInBounds_toArray, List.set_cons_zero, List.set_cons_succ]
                    refine wpAnyH_ready (rs := [52]) (by kernel_rfl) (by simp) ?_
                    refine AllReadyH.cons (o := { dst := some 216, op := Go.Op.call { callee := Go.Callee.value (Go.Operand.func 47), args := #[Go.Operand.tmp 213, Go.Operand.tmp 215], argTypes := #[67, 3] }, type := 3, pos := "law.go:138", after := #[{ on := 49, ground := Go.Ground.data }, { on := 51, ground := Go.Ground.data }, { on := 48, ground := Go.Ground.chain }, { on := 48, ground := Go.Ground.guard }], guard := some (48, false) }) rfl (fun K hK => ?_) AllReadyH.nil
                    go_simp
                    refine (hF1.out _ _ _ (h21.pick 3 (by simp))).mono ?_
                    rintro e w23 ⟨rfl, hb23⟩
                    replace h21 := h21.below hb23
                    replace en13 := en13.trans (bel_env hb23)
                    refine hK.out _ _ (kk.out _ _ _ l67 h21) (fun hHeld => ?_)
                    clear hK K
                    try simp only [Act.put, List.setIfInBounds_toArray, List.set_cons_zero, List.set_cons_succ]
                    refine wpAnyH_ready (rs := [56]) (by kernel_rfl) (by simp) ?_
                    refine AllReadyH.cons (o := { dst := some 220, op := Go.Op.call { callee := Go.Callee.value (Go.Operand.func 54), args := #[Go.Operand.tmp 217, Go.Operand.tmp 219], argTypes := #[78, 3] }, type := 3, pos := "law.go:138", after := #[{ on := 53, ground := Go.Ground.data }, { on := 55, ground := Go.Ground.data }, { on := 52, ground := Go.Ground.chain }, { on := 48, ground := Go.Ground.guard }], guard := some (48, false) }) rfl (fun K hK => ?_) AllReadyH.nil
                    go_simp
                    refine (hF2.out _ _ _ (mdShut h21)).mono ?_
                    rintro e w24 ⟨rfl, hb24⟩
                    replace h21 := h21.below hb24
                    replace en13 := en13.trans (bel_env hb24)
                    refine hK.out _ _ (kk.out _ _ _ l67 h21) (fun hHeld => ?_)
                    clear hK K
                    try simp only [Act.put, List.setIfInBounds_toArray, List.set_cons_zero, List.set_cons_succ]
                    refine wpAnyH_take (i := 57) (oi := { dst := some 221, op := Go.Op.binOp Go.BinOp.neq 3 (Go.Operand.tmp 216) (Go.Operand.tmp 220) 3, type := 4, pos := "law.go:138", after := #[{ on := 52, ground := Go.Ground.data }, { on := 56, ground := Go.Ground.data }, { on := 48, ground := Go.Ground.guard }], guard := some (48, false) }) (v := ?_) rfl (by kernel_rfl) (by kernel_rfl) (by kernel_rfl) (fun _ _ _ h => h) (Or.inl ⟨by rfl, ?_⟩) (by assumption) ?_
                    rotate_left
                    · (intro w hSw; (try dsimp only at hSw); go_simp; (try (with_reducible rfl)))
                    try simp only [Act.put, List.setIfInBounds_toArray, List.set_cons_zero, List.set_cons_succ]
                    refine wpAnyH_take (i := 58) (oi := { dst := some 222, op := Go.Op.move (Go.Operand.tmp 221), type := 4, pos := "law.go:138", after := #[{ on := 57, ground := Go.Ground.data }, { on := 56, ground := Go.Ground.chain }, { on := 48, ground := Go.Ground.guard }], guard := some (48, false) }) (v := ?_) rfl (by kernel_rfl) (by kernel_rfl) (by kernel_rfl) (fun _ _ _ h => h) (Or.inl ⟨by rfl, ?_⟩) (by assumption) ?_
                    rotate_left
                    · (intro w hSw; (try dsimp only at hSw); go_simp; (try (with_reducible rfl)))
                    try simp only [Act.put, List.setIfInBounds_toArray, List.set_cons_zero, List.set_cons_succ]
                    refine wpAnyH_take (i := 59) (oi := { dst := some 223, op := Go.Op.fieldAddr 28 (Go.Operand.tmp 10) 0, type := 0, pos := "law.go:138", after := #[{ on := 58, ground := Go.Ground.guard }], guard := some (58, true) }) (v := undef) rfl (by kernel_rfl) (by kernel_rfl) (by kernel_rfl) (fun _ _ _ h => h) (Or.inr ⟨by rfl, rfl⟩) (by assumption) ?_
                    try simp only [Act.put, List.setIfInBounds_toArray, List.set_cons_zero, List.set_cons_succ]
                    refine wpAnyH_take (i := 60) (oi := { dst := some 224, op := Go.Op.load 3 (Go.Operand.tmp 223), type := 3, pos := "law.go:138", after := #[{ on := 59, ground := Go.Ground.data }, { on := 58, ground := Go.Ground.guard }], guard := some (58, true) }) (v := undef) rfl (by kernel_rfl) (by kernel_rfl) (by kernel_rfl) (fun _ _ _ h => h) (Or.inr ⟨by rfl, rfl⟩) (by assumption) ?_
                    try simp only [Act.put, List.setIfInBounds_toArray, List.set_cons_zero, List.set_cons_succ]
                    refine wpAnyH_take (i := 61) (oi := { dst := some 225, op := Go.Op.binOp Go.BinOp.geq 3 (Go.Operand.tmp 224) (Go.Operand.const (Go.Value.int Go.IntKind.i64 0)) 3, type := 4, pos := "law.go:138", after := #[{ on := 60, ground := Go.Ground.data }, { on := 58, ground := Go.Ground.guard }], guard := some (58, true) }) (v := undef) rfl (by kernel_rfl) (by kernel_rfl) (by kernel_rfl) (fun _ _ _ h => h) (Or.inr ⟨by rfl, rfl⟩) (by assumption) ?_
                    try simp only [Act.put, List.setIfInBounds_toArray, List.set_cons_zero, List.set_cons_succ]
                    refine wpAnyH_take (i := 62) (oi := { dst := some 226, op := Go.Op.pick (Go.Operand.tmp 222) (Go.Operand.tmp 225) (Go.Operand.const (Go.Value.bool false)), type := 4, pos := "law.go:138", after := #[{ on := 58, ground := Go.Ground.data }, { on := 61, ground := Go.Ground.data }, { on := 48, ground := Go.Ground.guard }], guard := some (48, false) }) (v := ?_) rfl (by kernel_rfl) (by kernel_rfl) (by kernel_rfl) (fun _ _ _ h => h) (Or.inl ⟨by rfl, ?_⟩) (by assumption) ?_
                    rotate_left
                    · (intro w hSw; (try dsimp only at hSw); go_simp; (try (with_reducible rfl)))
                    try simp only [Act.put, List.setIfInBounds_toArray, List.set_cons_zero, List.set_cons_succ]
                    refine wpAnyH_take (i := 63) (oi := { dst := some 227, op := Go.Op.move (Go.Operand.tmp 226), type := 4, pos := "law.go:138", after := #[{ on := 62, ground := Go.Ground.data }, { on := 58, ground := Go.Ground.chain }, { on := 48, ground := Go.Ground.guard }], guard := some (48, false) }) (v := ?_) rfl (by kernel_rfl) (by kernel_rfl) (by kernel_rfl) (fun _ _ _ h => h) (Or.inl ⟨by rfl, ?_⟩) (by assumption) ?_
                    rotate_left
                    · (intro w hSw; (try dsimp only at hSw); go_simp; (try (with_reducible rfl)))
                    try simp only [Act.put, List.setIfInBounds_toArray, List.set_cons_zero, List.set_cons_succ]
                    refine wpAnyH_take (i := 64) (oi := { dst := some 228, op := Go.Op.fieldAddr 28 (Go.Operand.tmp 10) 0, type := 0, pos := "law.go:138", after := #[{ on := 63, ground := Go.Ground.guard }], guard := some (63, true) }) (v := undef) rfl (by kernel_rfl) (by kernel_rfl) (by kernel_rfl) (fun _ _ _ h => h) (Or.inr ⟨by rfl, rfl⟩) (by assumption) ?_
                    try simp only [Act.put, List.setIfInBounds_toArray, List.set_cons_zero, List.set_cons_succ]
                    refine wpAnyH_take (i := 65) (oi := { dst := some 229, op := Go.Op.load 3 (Go.Operand.tmp 228), type := 3, pos := "law.go:138", after := #[{ on := 64, ground := Go.Ground.data }, { on := 63, ground := Go.Ground.guard }], guard := some (63, true) }) (v := undef) rfl (by kernel_rfl) (by kernel_rfl) (by kernel_rfl) (fun _ _ _ h => h) (Or.inr ⟨by rfl, rfl⟩) (by assumption) ?_
                    try simp only [Act.put, List.setIfInBounds_toArray, List.set_cons_zero, List.set_cons_succ]
                    refine wpAnyH_take (i := 66) (oi := { dst := some 230, op := Go.Op.binOp Go.BinOp.lss 3 (Go.Operand.tmp 229) (Go.Operand.const (Go.Value.int Go.IntKind.i64 8)) 3, type := 4, pos := "law.go:138", after := #[{ on := 65, ground := Go.Ground.data }, { on := 63, ground := Go.Ground.guard }], guard := some (63, true) }) (v := undef) rfl (by kernel_rfl) (by kernel_rfl) (by kernel_rfl) (fun _ _ _ h => h) (Or.inr ⟨by rfl, rfl⟩) (by assumption) ?_
                    try simp only [Act.put, List.setIfInBounds_toArray, List.set_cons_zero, List.set_cons_succ]
                    refine wpAnyH_take (i := 67) (oi := { dst := some 231, op := Go.Op.pick (Go.Operand.tmp 227) (Go.Operand.tmp 230) (Go.Operand.const (Go.Value.bool false)), type := 4, pos := "law.go:138", after := #[{ on := 63, ground := Go.Ground.data }, { on := 66, ground := Go.Ground.data }, { on := 48, ground := Go.Ground.guard }], guard := some (48, false) }) (v := ?_) rfl (by kernel_rfl) (by kernel_rfl) (by kernel_rfl) (fun _ _ _ h => h) (Or.inl ⟨by rfl, ?_⟩) (by assumption) ?_
                    rotate_left
                    · (intro w hSw; (try dsimp only at hSw); go_simp; (try (with_reducible rfl)))
                    try simp only [Act.put, List.setIfInBounds_toArray, List.set_cons_zero, List.set_cons_succ]
                    refine wpAnyH_take (i := 68) (oi := { dst := some 232, op := Go.Op.pick (Go.Operand.tmp 212) (Go.Operand.const (Go.Value.bool true)) (Go.Operand.tmp 231), type := 4, pos := "law.go:138", after := #[{ on := 48, ground := Go.Ground.data }, { on := 67, ground := Go.Ground.data }], guard := none }) (v := ?_) rfl (by kernel_rfl) (by kernel_rfl) (by kernel_rfl) (fun _ _ _ h => h) (Or.inl ⟨by rfl, ?_⟩) (by assumption) ?_
                    rotate_left
                    · (intro w hSw; (try dsimp only at hSw); go_simp; (try (with_reducible rfl)))
                    try simp only [Act.put, List.setIfInBounds_toArray, List.set_cons_zero, List.set_cons_succ]
                    refine wpAnyH_done (by kernel_rfl) ?_ _
                    have h25 := (mdShut h21).swap
                    have hle7 := Hp.le_trans hle5 l67
                    have HI7 := Lib.hid (HI5.out.mono l67 (Nat.le_refl _))
                    clear hHeld
                    go_wp2_with fail
                    go_roundw
                    case rel => exact ⟨k + 1, H7, K, M, low, L, by omega, by go_num, hle7, h25, en13, HI7⟩
                    case measure => simp [intOf]; omega
        · obtain rfl : k = l.length := by omega
          go_wp2_with fail
          refine (works21 _).mono ?_
          rintro e w3 ⟨rfl, hb3⟩
          have hz := ends21 hle hst hen hb3
          go_wp2_with fail
          go_ret
          exact ⟨rfl, hz⟩
    · rcases Int.lt_or_le room 1 with hr1 | hr1
      · go_wp2_with fail
        refine (vsPut_nil zeroRc _ ⟨⟨none, 0, 0, rfl, rfl, by omega, by simp [maxLen], by omega⟩, ⟨none, 0, 0, rfl, rfl, by omega, by simp [maxLen], by omega⟩, fun c hc => by simp at hc⟩).mono ?_
        rintro e w2 ⟨rfl, hb2⟩
        replace hb2 := hb.trans (hb2.mono hb.size)
        go_wp2_with fail
        refine (vsDone_nil (0, 0) _).mono ?_
        rintro e w3 ⟨rfl, hb3⟩
        replace hb3 := hb2.trans (hb3.mono hb2.size)
        go_wp2_with fail
        refine (vsCompact_nil _).mono ?_
        rintro e w4 ⟨rfl, rfl⟩
        go_wp2_with fail
        refine (vsFree_nil _).mono ?_
        rintro e w5 ⟨rfl, rfl⟩
        go_wp2_with fail
        refine (vsStatus_nil (0, 0) _).mono ?_
        rintro e w6 ⟨rfl, hb6⟩
        replace hb6 := hb3.trans (hb6.mono hb3.size)
        go_wp2_with fail
        refine (works21 _).mono ?_
        rintro e w7 ⟨rfl, hb7⟩
        replace hb7 := hb6.trans (hb7.mono hb6.size)
        go_wp2_with fail
        go_ret
        exact ⟨rfl, hb7⟩
      · have hr2 : (4096 : Int) < room := by omega
        have hr1' : ¬ room < 1 := by omega
        go_wp2_with fail
        refine (vsPut_nil zeroRc _ ⟨⟨none, 0, 0, rfl, rfl, by omega, by simp [maxLen], by omega⟩, ⟨none, 0, 0, rfl, rfl, by omega, by simp [maxLen], by omega⟩, fun c hc => by simp at hc⟩).mono ?_
        rintro e w2 ⟨rfl, hb2⟩
        replace hb2 := hb.trans (hb2.mono hb.size)
        go_wp2_with fail
        refine (vsDone_nil (0, 0) _).mono ?_
        rintro e w3 ⟨rfl, hb3⟩
        replace hb3 := hb2.trans (hb3.mono hb2.size)
        go_wp2_with fail
        refine (vsCompact_nil _).mono ?_
        rintro e w4 ⟨rfl, rfl⟩
        go_wp2_with fail
        refine (vsFree_nil _).mono ?_
        rintro e w5 ⟨rfl, rfl⟩
        go_wp2_with fail
        refine (vsStatus_nil (0, 0) _).mono ?_
        rintro e w6 ⟨rfl, hb6⟩
        replace hb6 := hb3.trans (hb6.mono hb3.size)
        go_wp2_with fail
        refine (works21 _).mono ?_
        rintro e w7 ⟨rfl, hb7⟩
        replace hb7 := hb6.trans (hb7.mono hb6.size)
        go_wp2_with fail
        go_ret
        exact ⟨rfl, hb7⟩
  · have h60' : (60 : Int) < (l.length : Int) := by omega
    go_enter Try.func9, Try.ntmps9
    go_wp2_with fail
    refine (works21 _).mono ?_
    rintro e w3 ⟨rfl, hb3⟩
    go_wp2_with fail
    go_ret
    exact ⟨rfl, hb3⟩
end Go.Proofs.Ytelmhcbdpimaaaa
