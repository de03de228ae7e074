/- Joined texts: Reach6, Keys. -/
import Derived.Test.YtohgcghobidfpaaGG4
import Derived.Test.YtohgcghobidfpaaGG8
import Derived.Test.YtohgcghobidfpaaGG28
/- What some ids reach: Closed. -/
set_option linter.unusedVariables false
set_option linter.unusedSimpArgs false
namespace Go.Proofs.Ytohgcghobidfpaa
open Go.RowKit Go.Cw Go.Fl
attribute [local go_sem ↓] eql_id neq_id
/-- Ids that are not open. -/
def clsF (B R : List Id) : List Id := R.filter (fun a => decide (a ∉ B))
theorem clsF_snoc (B R : List Id) (k : Nat) (h : k < R.length) : clsF B (R.take (k + 1)) = if R[k] ∈ B then clsF B (R.take k) else clsF B (R.take k) ++ [R[k]] := by
  unfold clsF
  rw [List.take_add_one, List.getElem?_eq_getElem h, List.filter_append]
  by_cases hm : R[k] ∈ B <;> simp [hm]
theorem clsF_len (B R : List Id) : (clsF B R).length ≤ R.length := List.length_filter_le ..
theorem rises_filter {R : List Id} (h : Rises R) (q : Id → Bool) : Rises (R.filter q) := List.Pairwise.filter q h
/-- The closed ones of plain records: those that reach nothing that is missing. -/
def Clo (l : List Rp) (a : Id) : Prop := ∀ b, Rch (dpsR l) [a] b → b ∈ pids l
theorem dpsR_at {L : List Rc} (hn : (rids L).Nodup) {x : Rc} (hx : x ∈ L) : dpsR (L.map rp) x.1 = x.2.2.2.2.1 := by
  obtain ⟨y, hy, he, _, hr⟩ := lookR_ent L x.1 (List.mem_map.2 ⟨x, hx, rfl⟩)
  unfold dpsR
  rw [← hr]
  have : y = x := by
    obtain ⟨i, hi, rfl⟩ := List.getElem_of_mem hx
    obtain ⟨j, hj, rfl⟩ := List.getElem_of_mem hy
    have : j = i := (List.getElem_inj (h₀ := by simpa [rids] using hj) (h₁ := by simpa [rids] using hi) hn).1 (by simpa [rids] using he)
    subst this
    rfl
  rw [this]
theorem usr_dps {L : List Rc} (hn : (rids L).Nodup) (a b : Id) : b ∈ usrF L a ↔ (b ∈ rids L ∧ a ∈ dpsR (L.map rp) b) := by
  rw [usrF_mem]
  constructor
  · rintro ⟨x, hx, rfl, ha⟩
    exact ⟨List.mem_map.2 ⟨x, hx, rfl⟩, by rw [dpsR_at hn hx]; exact ha⟩
  · rintro ⟨hb, ha⟩
    obtain ⟨x, hx, rfl⟩ := List.mem_map.1 hb
    exact ⟨x, hx, rfl, by rw [dpsR_at hn hx] at ha; exact ha⟩
theorem mis_dps {L : List Rc} (hn : (rids L).Nodup) (b : Id) : b ∈ misF L ↔ (b ∉ rids L ∧ ∃ a ∈ rids L, b ∈ dpsR (L.map rp) a) := by
  rw [misF_mem]
  constructor
  · rintro ⟨h1, x, hx, hb⟩
    exact ⟨h1, x.1, List.mem_map.2 ⟨x, hx, rfl⟩, by rw [dpsR_at hn hx]; exact hb⟩
  · rintro ⟨h1, a, ha, hb⟩
    obtain ⟨x, hx, rfl⟩ := List.mem_map.1 ha
    exact ⟨h1, x, hx, by rw [dpsR_at hn hx] at hb; exact hb⟩
theorem opn_iff {L : List Rc} (hn : (rids L).Nodup) {a : Id} (ha : a ∈ rids L) : Opn L a ↔ ¬ Clo (L.map rp) a := by
  have hin : ∀ {x y : Id}, y ∈ dpsR (L.map rp) x → x ∈ rids L := fun {x y} h => by
    apply Classical.byContradiction
    intro hx
    rw [dpsR_none (by rw [pids_rp]; exact hx)] at h
    cases h
  constructor
  · intro ho hc
    have : ∀ x, Opn L x → ∃ b, Rch (dpsR (L.map rp)) [x] b ∧ b ∉ rids L := fun x hx => by
      refine hx.closed (P := fun x => ∃ b, Rch (dpsR (L.map rp)) [x] b ∧ b ∉ rids L) (fun m hm => ⟨m, .base (by simp), ((mis_dps hn m).1 hm).1⟩) ?_
      rintro y ⟨b, hb, hnb⟩ z hz
      have hz' := (usr_dps hn y z).1 hz
      exact ⟨b, hb.trans (fun q hq => by rw [List.mem_singleton] at hq; subst hq; exact .step (.base (by simp)) hz'.2), hnb⟩
    obtain ⟨b, hb, hnb⟩ := this a ho
    have := hc b hb
    rw [pids_rp] at this
    exact hnb this
  · intro hc
    apply Classical.byContradiction
    intro ho
    apply hc
    intro b hb
    rw [pids_rp]
    -- along the way all are there and not open
    have : b ∈ rids L ∧ ¬ Opn L b := by
      refine hb.closed (P := fun b => b ∈ rids L ∧ ¬ Opn L b) (fun q hq => by rw [List.mem_singleton] at hq; subst hq; exact ⟨ha, ho⟩) ?_
      rintro x ⟨hx, hxo⟩ y hy
      have hyo : ¬ Opn L y := fun h => hxo (.step h ((usr_dps hn y x).2 ⟨hx, hy⟩))
      refine ⟨?_, hyo⟩
      apply Classical.byContradiction
      intro hny
      exact hyo (.base ((mis_dps hn y).2 ⟨hny, x, hx, hy⟩))
    exact this.1
end Go.Proofs.Ytohgcghobidfpaa

/- Reference 07: In, Keys. -/
set_option linter.unusedVariables false
set_option linter.unusedSimpArgs false
namespace Go.Proofs.Ytohgcghobidfpaa
open Go.RowKit Go.Cw Go.Fl
def strl (l : List ByteArray) : List Value := l.map Value.string
theorem strl_len (l : List ByteArray) : (strl l).length = l.length := by simp [strl]
theorem strl_get (l : List ByteArray) (k : Nat) (h : k < l.length) : (strl l)[k]? = some (.string l[k]) := by simp [strl, h]
theorem strl_append (l m : List ByteArray) : strl (l ++ m) = strl l ++ strl m := by simp [strl]
theorem strl_one (l : List ByteArray) : ∀ u ∈ strl l, u.oneCell' = true := by
  intro u hu
  obtain ⟨s, _, rfl⟩ := List.mem_map.1 hu
  rfl
theorem info_str : (Try.prog.info? 9).map (fun i => (i.zero, i.size, i.bytes)) = some (some (.string ByteArray.empty), 1, 16) := by kernel_rfl
theorem toList_no {x s : ByteArray} (h : ¬ x = s) : (x.toList == s.toList) = false := by
  cases e : (x.toList == s.toList) with
  | false => rfl
  | true => exact absurd (ba_ext (eq_of_beq e)) h
/-- What In tells. -/
def InT (l : List ByteArray) (s : ByteArray) (w : World) (e : Ending) (w' : World) : Prop := ∃ B, e = .returned (.bool B) ∧ (B = true ↔ s ∈ l) ∧ w = w'
set_option maxRecDepth 100000 in
set_option maxHeartbeats 1600000 in
theorem in_any (u : Value) (l : List ByteArray) (s : ByteArray) (w : World) (hx : Rw w 1 u (strl l)) :
    Calls Try.prog 22 #[u, .string s] w (InT l s w) := by
  obtain ⟨A, n, c, rfl, hn, hnc, hc⟩ := hx.form
  rw [strl_len] at hn
  obtain rfl : n = l.length := by omega
  clear hn
  have hfin : ∀ B : Bool, (B = true ↔ s ∈ l) → Hid (InT l s w (Ending.returned (Value.bool B)) w) := fun B h => Lib.hid ⟨B, rfl, h, rfl⟩
  generalize InT l s w = Q at *
  go_enter Try.func22, Try.ntmps22
  go_wp2_with fail
  go_loopw [5] (fun s5 wr => ∃ k : Nat, k ≤ l.length ∧ s5 = .int .i64 (k : Int) ∧ wr = w ∧ Hid (∀ x ∈ l.take k, x ≠ s)) (fun s5 _ => l.length - (intOf s5).toNat)
  case atStart => exact ⟨0, by omega, by go_num, rfl, Lib.hid (by simp)⟩
  case round =>
    obtain ⟨k, hk, rfl, rfl, hA0⟩ := hrel
    by_cases hlt : k < l.length
    · obtain ⟨b, off, hA, hcr⟩ := hx.cells (by omega)
      cases hA
      have p0 := hcr _ _ (strl_get l k hlt)
      clear hcr
      have pl := World.block_lt_of_cell? _ _ p0
      have hk1 := Lib.hid (show k + 1 ≤ l.length by omega)
      have hmem := List.getElem_mem hlt
      have htk : ∀ x ∈ l.take (k + 1), x ∈ l.take k ∨ x = l[k] := fun x h => by
        rw [List.take_add_one, List.getElem?_eq_getElem hlt] at h
        rcases List.mem_append.1 h with h | h
        · exact .inl h
        · simp only [Option.toList_some, List.mem_singleton] at h; exact .inr h
      generalize l[k] = x at *
      by_cases hE : x = s
      · have hz := hfin true (by simp; rw [← hE]; exact hmem)
        subst hE
        clear htk hmem
        go_wp2_with fail
        exact hz.out
      · have hA2 : Hid (∀ y ∈ l.take (k + 1), y ≠ s) := Lib.hid (fun y hy => by
          rcases htk y hy with h | h
          · exact hA0.out y h
          · rw [h]; exact hE)
        have hb : (x.toList == s.toList) = false := toList_no hE
        clear htk hmem
        go_wp2_with fail
        go_roundw
        case rel => exact ⟨k + 1, hk1.out, by go_num, trivial, hA2⟩
        case measure => simp [intOf]; omega
    · obtain rfl : k = l.length := by omega
      have hz := hfin false (by
        simp only [Bool.false_eq_true, false_iff]
        intro h
        exact hA0.out s (by rw [List.take_length]; exact h) rfl)
      go_wp2_with fail
      exact hz.out
/-- The new list of a round: what has been put in. -/
def Ins (x : ByteArray) (K : List ByteArray) (d : Bool) (m : Nat) (N : List ByteArray) : Prop := N.Perm (if d then x :: K.take m else K.take m)
theorem Ins.start (x : ByteArray) (K : List ByteArray) : Ins x K false 0 [] := by simp [Ins]
theorem Ins.put {x : ByteArray} {K N : List ByteArray} {m : Nat} (h : Ins x K false m N) : Ins x K true m (N ++ [x]) := by
  unfold Ins at *
  exact (List.perm_append_comm (l₁ := N) (l₂ := [x])).trans (List.Perm.cons x h)
theorem Ins.next {x : ByteArray} {K N : List ByteArray} {m : Nat} {d : Bool} (h : Ins x K d m N) (hm : m < K.length) : Ins x K d (m + 1) (N ++ [K[m]]) := by
  unfold Ins at *
  have e : K.take (m + 1) = K.take m ++ [K[m]] := by rw [List.take_add_one, List.getElem?_eq_getElem hm]; rfl
  cases d with
  | false => simp only [Bool.false_eq_true, if_false, e] at *; exact h.append_right _
  | true => simp only [if_true, e] at *; exact h.append_right _
theorem Ins.done {x : ByteArray} {K N : List ByteArray} (h : Ins x K true K.length N) : N.Perm (x :: K) := by
  unfold Ins at h
  rwa [if_pos rfl, List.take_length] at h
theorem Ins.last {x : ByteArray} {K N : List ByteArray} (h : Ins x K false K.length N) : (N ++ [x]).Perm (x :: K) := (List.take_length (l := K) ▸ h.put.done)
theorem Ins.len {x : ByteArray} {K N : List ByteArray} {d : Bool} {m : Nat} (h : Ins x K d m N) : N.length ≤ K.length + 1 := by
  unfold Ins at h
  have := h.length_eq
  cases d <;> simp at this <;> omega
/-- The keys found so far. -/
structure KeyS (l : List Cm) (k : Nat) (K : List ByteArray) : Prop where
  nd : K.Nodup
  of : ∀ s ∈ K, ∃ x ∈ l, x.2.1 = s
  len : K.length ≤ k
theorem KeyS.skip {l : List Cm} {k : Nat} {K : List ByteArray} (h : KeyS l k K) : KeyS l (k + 1) K := ⟨h.nd, h.of, Nat.le_succ_of_le h.len⟩
theorem KeyS.go {l : List Cm} {k : Nat} {K N : List ByteArray} (h : KeyS l k K) (hk : k < l.length) (hp : N.Perm (l[k].2.1 :: K)) (hn : ¬ l[k].2.1 ∈ K) : KeyS l (k + 1) N := by
  refine ⟨hp.nodup_iff.2 (List.nodup_cons.2 ⟨hn, h.nd⟩), fun s hs => ?_, by rw [hp.length_eq]; simp; exact h.len⟩
  rcases List.mem_cons.1 (hp.mem_iff.1 hs) with rfl | hs
  · exact ⟨_, List.getElem_mem hk, rfl⟩
  · exact h.of s hs
/-- What Keys tells. -/
def KeysR (l : List Cm) (H : Hp) (fr : List HA) (w : World) (e : Ending) (w' : World) : Prop :=
  ∃ (v : Value) (K : List ByteArray) (H' : Hp), e = .returned v ∧ Hp.le H H' ∧ St H' (Row 9 1 v (strl K) :: fr) w' ∧ Env w w' ∧ KeyS l l.length K
set_option maxRecDepth 100000 in
set_option maxHeartbeats 8000000 in
theorem keys_any (u : Value) (l : List Cm) (H : Hp) (fr : List HA) (w : World) (h : St H fr w) (hx : Rd H 3 u (cml l)) (hl : l.length ≤ 100000) :
    Calls Try.prog 8 #[u] w (KeysR l H fr w) := by
  obtain ⟨A, n, c, rfl, hn, hnc, hc⟩ := hx.form
  rw [cml_len] at hn
  obtain rfl : n = l.length := by omega
  clear hn
  have hfin : ∀ (v : Value) (K : List ByteArray) (H' : Hp) (w' : World), KeyS l l.length K → Hp.le H H' → St H' (Row 9 1 v (strl K) :: fr) w' → Env w w' → KeysR l H fr w (.returned v) w' := fun v K H' w' h1 h2 h3 h4 => ⟨v, K, H', rfl, h2, h3, h4, h1⟩
  generalize KeysR l H fr w = Q at *
  have h0 := h.row_lit 9 1 0 #[] rfl (by decide)
  have en0 := (Env.refl w).alloc (.cells #[] 9)
  go_enter Try.func8, Try.ntmps8
  go_wp2_with fail
  go_loopw [3, 4] (fun s3 s4 wr => ∃ (k : Nat) (K : List ByteArray) (H' : Hp), k ≤ l.length ∧ s4 = .int .i64 (k : Int) ∧ Hp.le H H' ∧ St H' (Row 9 1 s3 (strl K) :: fr) wr ∧ Env w wr ∧ Hid (KeyS l k K)) (fun _ s4 _ => l.length - (intOf s4).toNat)
  case atStart => exact ⟨0, [], H, by omega, by go_num, Hp.le_refl _, h0, en0, Lib.hid ⟨List.nodup_nil, by simp, by simp⟩⟩
  case round =>
    clear h0 h en0
    obtain ⟨k, K, H1, hk, rfl, l1, hst, hen, hK⟩ := hrel
    by_cases hlt : k < l.length
    · obtain ⟨b, off, hA, hcr⟩ := (hx.mono l1).cells hst (by omega)
      cases hA
      have p1 := hcr _ _ (cml_get l k hlt).2.1
      rw [← Nat.add_assoc] at p1
      clear hcr
      have pl := World.block_lt_of_cell? _ _ p1
      have hk1 := Lib.hid (show k + 1 ≤ l.length by omega)
      obtain ⟨kA, kn, kc, rfl, hkn, hknc, hkm⟩ := hst.row_form
      rw [strl_len] at hkn
      obtain rfl : kn = K.length := by omega
      clear hkn
      have hKl := hK.out.len
      have hin := Lib.hid (in_any _ K (l[k].2.1) wr (hst.row_rw (by decide)))
      go_wp2_with fail
      refine hin.out.mono ?_
      rintro e w1 ⟨B, rfl, hB, rfl⟩
      clear hin
      cases B with
      | true =>
        have hK2 := Lib.hid hK.out.skip
        clear hB
        go_wp2_with fail
        go_roundw
        case rel => exact ⟨k + 1, K, H1, hk1.out, by go_num, l1, hst, hen, hK2⟩
        case measure => simp [intOf]; omega
      | false =>
        have hnin : ¬ l[k].2.1 ∈ K := fun hi => by have := hB.2 hi; cases this
        have hKg := Lib.hid (fun (N : List ByteArray) (hp : N.Perm (l[k].2.1 :: K)) => hK.out.go hlt hp hnin)
        clear hB hnin hK
        obtain ⟨H2, l2, h1, hrd⟩ := hst.row_keep
        have h2 := h1.row_lit 9 1 0 #[] rfl (by decide)
        have en2 := hen.alloc (.cells #[] 9)
        obtain ⟨_, _, _, hv, _, _, _, hcH⟩ := hx.mono (Hp.le_trans l1 l2)
        cases hv
        obtain ⟨_, _, hv, hcH⟩ := hcH (by omega)
        cases hv
        have y1 := hcH _ _ (cml_get l k hlt).2.1
        rw [← Nat.add_assoc] at y1
        replace l1 := Hp.le_trans l1 l2
        clear hst h1 hcH l2
        generalize l[k].2.1 = x at *
        clear p1 pl
        clear hen
        go_wp2_with fail
        go_loopw [5, 6, 7] (fun s5 s6 s7 wi => ∃ (m : Nat) (d : Bool) (N : List ByteArray), m ≤ K.length ∧ s7 = .int .i64 (m : Int) ∧ s6 = .bool d ∧ St H2 (Row 9 1 s5 (strl N) :: fr) wi ∧ Env w wi ∧ Hid (Ins x K d m N)) (fun _ _ s7 _ => K.length - (intOf s7).toNat)
        case atStart => exact ⟨0, false, [], by omega, by go_num, rfl, h2, en2, Lib.hid (Ins.start x K)⟩
        case round =>
          clear h2 en2
          obtain ⟨m, d, N, hm, rfl, rfl, hst, hen, hI⟩ := hrel
          have hNl := hI.out.len
          have p1 := hst.cell y1
          have pl := World.block_lt_of_cell? _ _ p1
          by_cases hltm : m < K.length
          · obtain ⟨_, _, _, hv, _, _, _, hcH⟩ := hrd
            cases hv
            replace hcH := hcH (by omega)
            obtain ⟨_, _, hv, hcH⟩ := hcH
            cases hv
            have y2 := hcH _ _ (strl_get K m hltm)
            have p2 := hst.cell y2
            have pl2 := World.block_lt_of_cell? _ _ p2
            have hm1 := Lib.hid (show m + 1 ≤ K.length by omega)
            have hIn := Lib.hid (hI.out.next hltm)
            have hIp := Lib.hid (fun (hd : d = false) => (Ins.put (hd ▸ hI.out)).next hltm)
            clear hcH
            generalize K[m] = y at *
            cases d with
            | true =>
              clear hIp
              go_wp2_with fail
              go_quiet (fail)
              have h3 := hst.drewN nq
              have en3 := hen.drewN nq
              clear p1 p2 pl pl2 hst hen
              generalize wr.drewN nq = w3 at *
              have p2 := h3.cell y2
              have pl2 := World.block_lt_of_cell? _ _ p2
              go_wp2_with (at_builtin; refine wpList_append rfl (.tmp 51) (.tmp 56) 34 34 rfl Try.underlying34 (.inl ⟨_, Try.underlying34⟩) (.string ByteArray.empty) 16 info_str rfl (by decide) (by decide) rfl rfl (h3.alloc _) (News.new w3 _ 1 #[.string y] rfl (by simp [Value.oneCell'])) ?apB1 ?apK1)
              case apB1 => rw [strl_len]; show (_ + 1) * 16 ≤ 1 * 140737488355328; (try simp only [List.length_append, List.length_cons, List.length_nil]); omega
              case apK1 =>
                intro v5 w5 h5 en5
                replace en5 := (en3.alloc _).trans en5
                replace h5 : St H2 (Row 9 1 v5 (strl (N ++ [y])) :: fr) w5 := by rw [strl_append]; exact h5
                go_wp2_with fail
                go_roundw
                case rel => exact ⟨m + 1, true, N ++ [y], hm1.out, by go_num, rfl, h5, en5, hIn⟩
                case measure => simp [intOf]; omega
            | false =>
              replace hIp := Lib.hid (hIp.out rfl)
              go_wp2_with fail
              go_quiet (fail)
              have h3 := hst.drewN nq
              have en3 := hen.drewN nq
              clear p1 p2 pl pl2 hst hen
              generalize wr.drewN nq = w3 at *
              generalize Op.bytesLess x.toList y.toList = BB at *
              cases BB with
              | false =>
                clear hIp
                have p2 := h3.cell y2
                have pl2 := World.block_lt_of_cell? _ _ p2
                go_wp2_with (at_builtin; refine wpList_append rfl (.tmp 51) (.tmp 56) 34 34 rfl Try.underlying34 (.inl ⟨_, Try.underlying34⟩) (.string ByteArray.empty) 16 info_str rfl (by decide) (by decide) rfl rfl (h3.alloc _) (News.new w3 _ 1 #[.string y] rfl (by simp [Value.oneCell'])) ?apB2 ?apK2)
                case apB2 => rw [strl_len]; show (_ + 1) * 16 ≤ 1 * 140737488355328; (try simp only [List.length_append, List.length_cons, List.length_nil]); omega
                case apK2 =>
                  intro v5 w5 h5 en5
                  replace en5 := (en3.alloc _).trans en5
                  replace h5 : St H2 (Row 9 1 v5 (strl (N ++ [y])) :: fr) w5 := by rw [strl_append]; exact h5
                  go_wp2_with fail
                  go_roundw
                  case rel => exact ⟨m + 1, false, N ++ [y], hm1.out, by go_num, rfl, h5, en5, hIn⟩
                  case measure => simp [intOf]; omega
              | true =>
                clear hIn
                have p1 := h3.cell y1
                have pl := World.block_lt_of_cell? _ _ p1
                go_wp2_with (at_builtin; refine wpList_append rfl (.tmp 43) (.tmp 49) 34 34 rfl Try.underlying34 (.inl ⟨_, Try.underlying34⟩) (.string ByteArray.empty) 16 info_str rfl (by decide) (by decide) rfl rfl (h3.alloc _) (News.new w3 _ 1 #[.string x] rfl (by simp [Value.oneCell'])) ?apB3 ?apK3)
                case apB3 => rw [strl_len]; show (_ + 1) * 16 ≤ 1 * 140737488355328; (try simp only [List.length_append, List.length_cons, List.length_nil]); omega
                case apK3 =>
                  intro v5 w5 h5 en5
                  replace en5 := (en3.alloc _).trans en5
                  replace h5 : St H2 (Row 9 1 v5 (strl (N ++ [x])) :: fr) w5 := by rw [strl_append]; exact h5
                  clear p1 pl h3 en3
                  have p2 := h5.cell y2
                  have pl2 := World.block_lt_of_cell? _ _ p2
                  go_wp2_with (at_builtin; refine wpList_append rfl (.tmp 51) (.tmp 56) 34 34 rfl Try.underlying34 (.inl ⟨_, Try.underlying34⟩) (.string ByteArray.empty) 16 info_str rfl (by decide) (by decide) rfl rfl (h5.alloc _) (News.new w5 _ 1 #[.string y] rfl (by simp [Value.oneCell'])) ?apB4 ?apK4)
                  case apB4 => rw [strl_len]; show (_ + 1) * 16 ≤ 1 * 140737488355328; (try simp only [List.length_append, List.length_cons, List.length_nil]); omega
                  case apK4 =>
                    intro v7 w7 h7 en7
                    replace en7 := (en5.alloc _).trans en7
                    replace h7 : St H2 (Row 9 1 v7 (strl (N ++ [x] ++ [y])) :: fr) w7 := by rw [strl_append]; exact h7
                    go_wp2_with fail
                    go_roundw
                    case rel => exact ⟨m + 1, true, N ++ [x] ++ [y], hm1.out, by go_num, rfl, h7, en7, hIp⟩
                    case measure => simp [intOf]; omega
          · obtain rfl : m = K.length := by omega
            cases d with
            | true =>
              have hKn := Lib.hid (hKg.out N hI.out.done)
              go_wp2_with fail
              go_roundw
              case rel => exact ⟨k + 1, N, H2, hk1.out, by go_num, l1, hst, hen, hKn⟩
              case measure => simp [intOf]; omega
            | false =>
              have hKn := Lib.hid (hKg.out _ hI.out.last)
              go_wp2_with (at_builtin; refine wpList_append rfl (.tmp 60) (.tmp 66) 34 34 rfl Try.underlying34 (.inl ⟨_, Try.underlying34⟩) (.string ByteArray.empty) 16 info_str rfl (by decide) (by decide) rfl rfl (hst.alloc _) (News.new wr _ 1 #[.string x] rfl (by simp [Value.oneCell'])) ?apB5 ?apK5)
              case apB5 => rw [strl_len]; show (_ + 1) * 16 ≤ 1 * 140737488355328; (try simp only [List.length_append, List.length_cons, List.length_nil]); omega
              case apK5 =>
                intro v5 w5 h5 en5
                replace en5 := (hen.alloc _).trans en5
                replace h5 : St H2 (Row 9 1 v5 (strl (N ++ [x])) :: fr) w5 := by rw [strl_append]; exact h5
                go_wp2_with fail
                go_roundw
                case rel => exact ⟨k + 1, N ++ [x], H2, hk1.out, by go_num, l1, h5, en5, hKn⟩
                case measure => simp [intOf]; omega
    · obtain rfl : k = l.length := by omega
      go_wp2_with fail
      exact hfin _ _ _ _ hK.out l1 hst hen
end Go.Proofs.Ytohgcghobidfpaa
