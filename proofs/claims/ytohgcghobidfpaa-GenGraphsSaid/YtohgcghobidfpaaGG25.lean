/- Joined texts: GraphP, GraphQ. -/
import Derived.Test.YtohgcghobidfpaaGG19
import Derived.Test.YtohgcghobidfpaaGG24
/- Records that are made out of a seed: plain laws. -/
set_option linter.unusedVariables false
set_option linter.unusedSimpArgs false
namespace Go.Proofs.Ytohgcghobidfpaa
open Go.RowKit Go.Cw Go.Fl
theorem idG_ok (i : Nat) (h : i < 1000) : idErr (idG i) = 0 := by
  unfold idErr idG
  simp only
  rw [if_pos (by omega), if_pos (by omega)]
theorem idG_inj {i j : Nat} (h : idG i = idG j) : i = j := by
  unfold idG at h
  have h1 := congrArg Prod.fst h
  have h2 := congrArg Prod.snd h
  simp only at h1 h2
  omega
theorem idsG_mem (n : Nat) (a : Id) : a ∈ idsG n ↔ ∃ i, i < n ∧ idG i = a := by simp [idsG]
theorem idsG_nodup (n : Nat) : (idsG n).Nodup := by
  unfold idsG
  unfold List.Nodup
  rw [List.pairwise_map]
  exact List.nodup_range.imp (fun h e => h (idG_inj e))
/-- A key's text. -/
def kTx (k : Int) : ByteArray := Utf8.encode (97 + k)
set_option maxRecDepth 100000 in
theorem kTx_ok (k : Int) (h0 : 0 ≤ k) (h9 : k < 9) : keyOk (kTx k) = true := by
  have : k = 0 ∨ k = 1 ∨ k = 2 ∨ k = 3 ∨ k = 4 ∨ k = 5 ∨ k = 6 ∨ k = 7 ∨ k = 8 := by omega
  rcases this with rfl | rfl | rfl | rfl | rfl | rfl | rfl | rfl | rfl <;> decide +kernel
set_option maxRecDepth 100000 in
theorem kTx_inj (j k : Int) (h0 : 0 ≤ j) (h9 : j < 9) (k0 : 0 ≤ k) (k9 : k < 9) (h : kTx j = kTx k) : j = k := by
  have : ∀ a b : Fin 9, kTx (a.val : Int) = kTx (b.val : Int) → a = b := by decide +kernel
  have := this ⟨j.toNat, by omega⟩ ⟨k.toNat, by omega⟩ (by simp only; rw [Int.toNat_of_nonneg h0, Int.toNat_of_nonneg k0]; exact h)
  have := congrArg Fin.val this
  simp only at this
  omega
set_option maxRecDepth 100000 in
theorem oneK_range (s : Int) : 1 ≤ oneK s ∧ oneK s ≤ 4 := by
  have h := rnd_range s 4 (by omega) (by omega)
  unfold oneK
  generalize rnd s 4 = q at *
  omega
set_option maxRecDepth 100000 in
theorem one_ok (s k : Int) (h0 : 0 ≤ k) (h9 : k < 9) : cmOk (oneK s, kTx k, oneF s) = true := by
  have hk := kTx_ok k h0 h9
  have hr := oneK_range s
  have h1 : oneB s = (decide (oneK s = 2) || decide (oneK s = 4)) := by unfold oneB; exact rfl
  have h2 : oneB s = false → oneF s = 0 := fun h => by unfold oneF; rewrite [h]; exact if_neg (by decide)
  generalize oneB s = B at *
  generalize oneK s = K at *
  generalize oneF s = F at *
  generalize kTx k = X at *
  unfold cmOk
  simp only [hk, Bool.true_and]
  cases B with
  | true => rw [← h1]; rfl
  | false =>
    rw [← h1, h2 rfl]
    have h3 := h1.symm
    simp only [Bool.or_eq_false_iff, decide_eq_false_iff_not] at h3
    have : K = 1 ∨ K = 3 := by omega
    rcases this with rfl | rfl <;> rfl
theorem depsJ_mem (n : Nat) (hn : 1 ≤ n) (hn2 : n ≤ 64) (a : Id) (s0 : Int) (j : Nat) : ∀ d ∈ (depsJ (n : Int) a s0 j).2, d ∈ idsG n ∧ d ≠ a := by
  induction j with
  | zero => intro d hd; cases hd
  | succ j ih =>
    intro d hd
    unfold depsJ at hd
    have hr := rnd_range (depsJ (n : Int) a s0 j).1 (n : Int) (by omega) (by omega)
    generalize rnd (depsJ (n : Int) a s0 j).1 (n : Int) = q at *
    split at hd
    · exact ih d hd
    · rename_i hne
      rcases List.mem_append.1 hd with h | h
      · exact ih d h
      · rw [List.mem_singleton] at h
        subst h
        exact ⟨(idsG_mem _ _).2 ⟨_, by omega, rfl⟩, hne⟩
theorem runs_len (D : List Id) : (runs (idSort D)).length ≤ D.length := by
  have := runsTo_len (idSort D) (idSort D).length
  rw [idSort_len] at this
  unfold runs
  rw [idSort_len]
  exact this
theorem depsJ_len2 (n : Int) (a : Id) (s0 : Int) (j : Nat) : (depsJ n a s0 j).2.length ≤ j := by
  induction j with
  | zero => simp [depsJ]
  | succ j ih =>
    unfold depsJ
    split
    · exact Nat.le_succ_of_le ih
    · simp; omega
/-- What is known of a record that is made. -/
structure GenR (N : Nat) (KN : Nat) (x : Rp) : Prop where
  fit : Fit x
  sub : ∀ d ∈ x.2.2.1, d ∈ idsG N
  two : x.2.2.1.length ≤ 2
  bat : x.2.2.2 = [] ∨ ∃ k K F, 0 ≤ k ∧ k < (KN : Int) ∧ x.2.2.2 = [(K, kTx k, F)]
theorem step_gen (N KN : Nat) (hN1 : 1 ≤ N) (hN2 : N ≤ 64) (hK1 : 1 ≤ KN) (hK2 : KN ≤ 9) (i : Nat) (hi : i < N) (s : Int) (T : List Int) : GenR N KN (stepM (N : Int) (KN : Int) i s T).1 ∧ (stepM (N : Int) (KN : Int) i s T).1.1 = idG i := by
  have hk := keyM_range (N : Int) (KN : Int) s i (by omega)
  have hs := rnd_range s (2 * (N : Int)) (by omega) (by omega)
  have hd := depsJ_mem N hN1 hN2 (idG i) (advI (advI s)) (cntM s)
  have hl := depsJ_len2 (N : Int) (idG i) (advI (advI s)) (cntM s)
  have hc := cntM_le s
  have hsub : ∀ d ∈ runs (idSort (depM (N : Int) s i).2), d ∈ idsG N ∧ d ≠ idG i := fun d h => hd d ((runs_sort_mem _ _).1 h)
  have hlen : (runs (idSort (depM (N : Int) s i).2)).length ≤ 2 := Nat.le_trans (runs_len _) (Nat.le_trans hl hc)
  have hq : 1 ≤ seqM (N : Int) s ∧ seqM (N : Int) s ≤ 1073741824 := by
    unfold seqM
    generalize rnd s (2 * (N : Int)) = q at *
    omega
  clear hs
  have hk9 : keyM (N : Int) (KN : Int) s i < 9 := Int.lt_of_lt_of_le hk.2 (by omega)
  have hde : ∀ d ∈ runs (idSort (depM (N : Int) s i).2), idErr d = 0 ∧ d ≠ idG i := fun d h => by
    obtain ⟨h1, h2⟩ := hsub d h
    obtain ⟨j, hj, rfl⟩ := (idsG_mem _ _).1 h1
    exact ⟨idG_ok j (by omega), h2⟩
  unfold stepM
  split
  · refine ⟨⟨⟨idG_ok i (by omega), hq, Nat.le_trans hlen (by omega), hde, runs_sort_rises _, ?_⟩, fun d h => (hsub d h).1, hlen, .inr ⟨keyM (N : Int) (KN : Int) s i, _, _, hk.1, hk.2, rfl⟩⟩, rfl⟩
    show batchErr [cmdM (N : Int) (KN : Int) s i] = 0
    have := one_ok (advI (depM (N : Int) s i).1) (keyM (N : Int) (KN : Int) s i) hk.1 hk9
    unfold batchErr
    rw [if_neg (by simp)]
    simp only [List.all_cons, List.all_nil, Bool.and_true]
    unfold cmdM
    unfold kTx at this
    rw [this]
    rfl
  · exact ⟨⟨⟨idG_ok i (by omega), hq, Nat.le_trans hlen (by omega), hde, runs_sort_rises _, rfl⟩, fun d h => (hsub d h).1, hlen, .inl rfl⟩, rfl⟩
theorem gen_all (N KN : Nat) (hN1 : 1 ≤ N) (hN2 : N ≤ 64) (hK1 : 1 ≤ KN) (hK2 : KN ≤ 9) (s0 : Int) (i : Nat) (hi : i ≤ N) : (∀ x ∈ (genM (N : Int) (KN : Int) s0 i).2.2, GenR N KN x) ∧ pids (genM (N : Int) (KN : Int) s0 i).2.2 = idsG i := by
  induction i with
  | zero => exact ⟨by simp [genM], by simp [genM, pids, idsG]⟩
  | succ i ih =>
    obtain ⟨h1, h2⟩ := ih (by omega)
    obtain ⟨h3, h4⟩ := step_gen N KN hN1 hN2 hK1 hK2 i (by omega) (genM (N : Int) (KN : Int) s0 i).1 (genM (N : Int) (KN : Int) s0 i).2.1
    refine ⟨fun x hx => ?_, ?_⟩
    · simp only [genM] at hx
      rcases List.mem_append.1 hx with hx | hx
      · exact h1 x hx
      · rw [List.mem_singleton] at hx; subst hx; exact h3
    · simp only [genM]
      unfold pids at *
      rw [List.map_append, h2, idsG_snoc]
      simp [h4]
theorem gen_fits (N KN : Nat) (hN1 : 1 ≤ N) (hN2 : N ≤ 64) (hK1 : 1 ≤ KN) (hK2 : KN ≤ 9) (s0 : Int) : Fits (genM (N : Int) (KN : Int) s0 N).2.2 := by
  obtain ⟨h1, h2⟩ := gen_all N KN hN1 hN2 hK1 hK2 s0 N (Nat.le_refl _)
  exact ⟨fun x hx => (h1 x hx).fit, by rw [h2]; exact idsG_nodup N⟩
theorem fineL_id (F : List Rp) (h : Fits F) : fineL F = F := by
  have : ∀ (todo done : List Rp), Fits (done ++ todo) → todo.foldl fineStep done = done ++ todo := by
    intro todo
    induction todo with
    | nil => intro done _; simp
    | cons x r ih =>
      intro done hA
      have hx : Fit x := hA.1 x (by simp)
      have hn : x.1 ∉ pids done := by
        have := hA.2
        simp only [pids, List.map_append, List.map_cons, List.nodup_append, List.nodup_cons, List.mem_cons] at this
        exact fun h => this.2.2 x.1 h x.1 (.inl rfl) rfl
      rw [List.foldl_cons]
      have e : fineStep done x = done ++ [x] := by unfold fineStep; rw [if_pos ⟨(fit_iff x).2 hx, hn⟩]
      rw [e, ih (done ++ [x]) (by simpa using hA)]
      simp
  exact this F [] (by simpa using h)
end Go.Proofs.Ytohgcghobidfpaa

/- Records that are made out of a seed: mended, none is full. -/
set_option linter.unusedVariables false
set_option linter.unusedSimpArgs false
namespace Go.Proofs.Ytohgcghobidfpaa
open Go.RowKit Go.Cw Go.Fl
/-- A batch has a key. -/
def hasB (k : Int) (B : List Cm) : Bool := B.any (fun c => decide (c.2.1 = kTx k))
def cntK (k : Int) (O : List Rp) : Nat := (O.map (fun x => x.2.2.2)).countP (hasB k)
theorem nth_set {T : List Int} {j : Nat} (hj : j < T.length) (v : Int) (k : Nat) : nth (T.set j v) (k : Int) = if k = j then v else nth T (k : Int) := by
  unfold nth
  rw [List.getD_eq_getElem?_getD, List.getD_eq_getElem?_getD, Int.toNat_natCast, List.getElem?_set]
  by_cases h : k = j
  · subst h; rw [if_pos rfl, if_pos hj, if_pos rfl]; rfl
  · rw [if_neg (fun e => h e.symm), if_neg h]
theorem cnt_T (N KN : Nat) (hK1 : 1 ≤ KN) (hK2 : KN ≤ 9) (s0 : Int) (i : Nat) : ∀ k : Nat, k < KN → ((cntK (k : Int) (genM (N : Int) (KN : Int) s0 i).2.2 : Nat) : Int) = nth (genM (N : Int) (KN : Int) s0 i).2.1 (k : Int) := by
  induction i with
  | zero =>
    intro k hk
    simp only [genM, cntK, List.map_nil, List.countP_nil]
    unfold nth
    rw [List.getD_eq_getElem?_getD, Int.toNat_natCast, Int.toNat_natCast, List.getElem?_replicate, if_pos hk]
    rfl
  | succ i ih =>
    intro k hk
    have hl := (genM_len (N : Int) (KN : Int) s0 i).1
    have h1 := ih k hk
    have hkr := keyM_range (N : Int) (KN : Int) (genM (N : Int) (KN : Int) s0 i).1 i (by omega)
    simp only [genM]
    generalize genM (N : Int) (KN : Int) s0 i = z at *
    obtain ⟨s, T, O⟩ := z
    simp only at hl h1 hkr ih ⊢
    rw [Int.toNat_natCast] at hl
    unfold stepM cntK at *
    have hc : cmdM (N : Int) (KN : Int) s i = (oneK (advI (depM (N : Int) s i).1), kTx (keyM (N : Int) (KN : Int) s i), oneF (advI (depM (N : Int) s i).1)) := rfl
    generalize keyM (N : Int) (KN : Int) s i = q at *
    obtain ⟨qn, rfl⟩ : ∃ qn : Nat, q = (qn : Int) := ⟨q.toNat, by omega⟩
    split
    · simp only [List.map_append, List.map_cons, List.map_nil, List.countP_append, Int.toNat_natCast]
      rw [nth_set (by omega)]
      rw [hc]
      generalize oneK (advI (depM (N : Int) s i).1) = a1
      generalize oneF (advI (depM (N : Int) s i).1) = a2
      by_cases hq : k = qn
      · subst hq
        rw [if_pos rfl, ← h1]
        have : hasB (k : Int) [(a1, kTx (k : Int), a2)] = true := by simp [hasB]
        simp [this]
      · rw [if_neg hq]
        have : hasB (k : Int) [(a1, kTx (qn : Int), a2)] = false := by
          simp only [hasB, List.any_cons, List.any_nil, Bool.or_false, decide_eq_false_iff_not]
          intro h
          have := kTx_inj _ _ (by omega) (by omega) (by omega) (by omega) h
          omega
        simp [this]
        rw [List.countP_map] at h1
        exact h1
    · simp only [List.map_append, List.map_cons, List.map_nil, List.countP_append]
      have : hasB (k : Int) [] = false := rfl
      simp [this]
      rw [List.countP_map] at h1
      exact h1
theorem conf_key {a1 : Int} {k : Int} {a2 : Nat} {B : List Cm} (h : batConf [(a1, kTx k, a2)] B = true) : hasB k B = true := by
  unfold batConf at h
  simp only [List.any_cons, List.any_nil, Bool.or_false, List.any_eq_true] at h
  obtain ⟨y, hy, hc⟩ := h
  unfold hasB
  rw [List.any_eq_true]
  refine ⟨y, hy, ?_⟩
  unfold cmConf cmCf at hc
  simp only [Bool.and_eq_true, decide_eq_true_eq] at hc
  exact decide_eq_true hc.2.2.1.symm
theorem mend1_one (r o : Rp) : (mend1 r o).2.2.1.length ≤ r.2.2.1.length + (if batConf r.2.2.2 o.2.2.2 = true then 1 else 0) ∧ ∀ d ∈ (mend1 r o).2.2.1, d ∈ r.2.2.1 ∨ d = o.1 := by
  unfold mend1
  split
  · rename_i h
    have hb : batConf r.2.2.2 o.2.2.2 = true := by
      have := h.2
      unfold lackR at this
      rw [Bool.and_eq_true] at this
      exact this.1
    rw [if_pos hb]
    exact ⟨putL_len _ _, fun d hd => ((putL_mem _ _ _).1 hd).symm⟩
  · exact ⟨by omega, fun d hd => .inl hd⟩
theorem mendOne_cnt (out : List Rp) : ∀ x : Rp, (mendOne out x).2.2.1.length ≤ x.2.2.1.length + out.countP (fun o => batConf x.2.2.2 o.2.2.2) ∧ (∀ d ∈ (mendOne out x).2.2.1, d ∈ x.2.2.1 ∨ d ∈ pids out) ∧ (mendOne out x).2.2.2 = x.2.2.2 := by
  unfold mendOne
  induction out with
  | nil => intro x; exact ⟨by simp, fun d hd => .inl hd, rfl⟩
  | cons o r ih =>
    intro x
    obtain ⟨a, b, c⟩ := ih (mend1 x o)
    obtain ⟨d, e⟩ := mend1_one x o
    obtain ⟨k1, k2, k3⟩ := mend1_keep x o
    rw [List.foldl_cons]
    refine ⟨?_, fun q hq => ?_, by rw [c, k3]⟩
    · rw [k3] at a
      rw [List.countP_cons]
      by_cases hb : batConf x.2.2.2 o.2.2.2 = true
      · rw [if_pos hb] at d ⊢; omega
      · rw [if_neg hb] at d ⊢; omega
    · rcases b q hq with h | h
      · rcases e q h with h | h
        · exact .inl h
        · exact .inr (by rw [h]; simp [pids])
      · exact .inr (by simp only [pids, List.map_cons, List.mem_cons]; exact .inr h)
theorem mendL_snoc (O : List Rp) (x : Rp) : mendL (O ++ [x]) = mendL O ++ [mendOne (mendL O) x] := by
  unfold mendL
  rw [List.foldl_append]
  rfl
/-- Mended, they are small, and lead to none that is not there. -/
theorem gen_mend (N KN : Nat) (hN1 : 1 ≤ N) (hN2 : N ≤ 64) (hK1 : 1 ≤ KN) (hK2 : KN ≤ 9) (s0 : Int) (i : Nat) (hi : i ≤ N) :
    (∀ y ∈ mendL (genM (N : Int) (KN : Int) s0 i).2.2, y.2.2.1.length < 16 ∧ (∀ d ∈ y.2.2.1, d ∈ idsG N)) ∧ (mendL (genM (N : Int) (KN : Int) s0 i).2.2).map (fun x => x.2.2.2) = (genM (N : Int) (KN : Int) s0 i).2.2.map (fun x => x.2.2.2) ∧ (∀ a ∈ pids (mendL (genM (N : Int) (KN : Int) s0 i).2.2), a ∈ idsG N) := by
  induction i with
  | zero => exact ⟨by simp [genM, mendL], by simp [genM, mendL], by simp [genM, mendL, pids]⟩
  | succ i ih =>
    obtain ⟨h1, h2, h3⟩ := ih (by omega)
    obtain ⟨hg, hid⟩ := step_gen N KN hN1 hN2 hK1 hK2 i (by omega) (genM (N : Int) (KN : Int) s0 i).1 (genM (N : Int) (KN : Int) s0 i).2.1
    have hcT := cnt_T N KN hK1 hK2 s0 i
    have hkr := keyM_range (N : Int) (KN : Int) (genM (N : Int) (KN : Int) s0 i).1 i (by omega)
    have hbt : ∀ (k K : Int) (F : Nat), (stepM (N : Int) (KN : Int) i (genM (N : Int) (KN : Int) s0 i).1 (genM (N : Int) (KN : Int) s0 i).2.1).1.2.2.2 = [(K, kTx k, F)] → 0 ≤ k → k < (KN : Int) → nth (genM (N : Int) (KN : Int) s0 i).2.1 k < 12 := by
      intro k K F he h0 h9
      unfold stepM at he
      split at he
      · rename_i hlt
        have hc : cmdM (N : Int) (KN : Int) (genM (N : Int) (KN : Int) s0 i).1 i = (oneK (advI (depM (N : Int) (genM (N : Int) (KN : Int) s0 i).1 i).1), kTx (keyM (N : Int) (KN : Int) (genM (N : Int) (KN : Int) s0 i).1 i), oneF (advI (depM (N : Int) (genM (N : Int) (KN : Int) s0 i).1 i).1)) := rfl
        rw [hc] at he
        simp only [List.cons.injEq, Prod.mk.injEq, and_true] at he
        have := kTx_inj _ _ hkr.1 (Int.lt_of_lt_of_le hkr.2 (by omega)) h0 (by omega) he.2.1
        rw [← this]
        exact hlt
      · cases he
    simp only [genM]
    rw [mendL_snoc]
    generalize (stepM (N : Int) (KN : Int) i (genM (N : Int) (KN : Int) s0 i).1 (genM (N : Int) (KN : Int) s0 i).2.1).1 = x at *
    generalize genM (N : Int) (KN : Int) s0 i = z at *
    obtain ⟨s, T, O⟩ := z
    simp only at h1 h2 h3 hcT hbt ⊢
    obtain ⟨c1, c2, c3⟩ := mendOne_cnt (mendL O) x
    refine ⟨fun y hy => ?_, ?_, ?_⟩
    · rcases List.mem_append.1 hy with hy | hy
      · exact h1 y hy
      · rw [List.mem_singleton] at hy
        subst hy
        refine ⟨?_, fun d hd => ?_⟩
        · have h2x := hg.two
          rcases hg.bat with hb | ⟨k, K, F, k0, k9, hb⟩
          · have e : (mendL O).countP (fun o => batConf x.2.2.2 o.2.2.2) = 0 := by
              rw [List.countP_eq_zero]
              intro o _
              rw [hb]
              simp [batConf]
            omega
          · obtain ⟨kn, rfl⟩ : ∃ kn : Nat, k = (kn : Int) := ⟨k.toNat, by omega⟩
            have hlt := hbt _ _ _ hb k0 k9
            have hcc := hcT kn (by omega)
            have e : (mendL O).countP (fun o => batConf x.2.2.2 o.2.2.2) ≤ cntK (kn : Int) O := by
              unfold cntK
              rw [← h2, List.countP_map]
              refine List.countP_mono_left (fun o _ ho => ?_)
              rw [hb] at ho
              exact conf_key ho
            omega
        · rcases c2 d hd with h | h
          · exact hg.sub d h
          · exact h3 d h
    · rw [List.map_append, List.map_append, h2]
      simp [c3]
    · intro a ha
      simp only [pids, List.map_append, List.mem_append] at ha
      rcases ha with ha | ha
      · exact h3 a ha
      · simp only [List.map_cons, List.map_nil, List.mem_singleton] at ha
        rw [ha]
        have := (mendOne_ok (mendL O) x hg.fit.len hg.fit.rise).1
        rw [this, hid]
        exact (idsG_mem _ _).2 ⟨i, by omega, rfl⟩
end Go.Proofs.Ytohgcghobidfpaa
