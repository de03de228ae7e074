/- Joined texts: PremLaw, Rch. -/
import Derived.Test.YtohgcghobidfpaaGG9
import Derived.Test.YtohgcghobidfpaaGG20
import Derived.Test.YtohgcghobidfpaaGG22
import Derived.Test.YtohgcghobidfpaaGG23
/- The premise: plain laws. -/
set_option linter.unusedVariables false
set_option linter.unusedSimpArgs false
namespace Go.Proofs.Ytohgcghobidfpaa
open Go.RowKit Go.Cw Go.Fl
/-- A record that may be, in parts. -/
structure Fit (x : Rp) : Prop where
  id : idErr x.1 = 0
  seq : 1 ≤ x.2.1 ∧ x.2.1 ≤ 1073741824
  len : x.2.2.1.length ≤ 16
  deps : ∀ d ∈ x.2.2.1, idErr d = 0 ∧ d ≠ x.1
  rise : Rises x.2.2.1
  bat : batchErr x.2.2.2 = 0
theorem depsErr_iff (own : Id) : ∀ (D : List Id) (p : Option Id), depsErr own p D = 0 ↔ ((∀ d ∈ D, idErr d = 0 ∧ d ≠ own) ∧ Rises D ∧ ∀ q, p = some q → ∀ d ∈ D, idLt q d = true)
  | [], p => by simp [depsErr, Rises]
  | d :: r, p => by
    unfold depsErr
    by_cases h1 : idErr d = 0
    · rw [if_neg (by simpa using h1)]
      by_cases h2 : d = own
      · rw [if_pos h2]
        constructor
        · intro h; omega
        · rintro ⟨h, _⟩; exact absurd h2 (h d (by simp)).2
      · rw [if_neg h2]
        by_cases h3 : aheadOf p d = true
        · rw [if_pos h3, depsErr_iff own r (some d)]
          constructor
          · rintro ⟨a, b, c⟩
            refine ⟨fun e he => ?_, List.Pairwise.cons (fun e he => c d rfl e he) b, fun q hq e he => ?_⟩
            · rcases List.mem_cons.1 he with rfl | he
              · exact ⟨h1, h2⟩
              · exact a e he
            · subst hq
              rcases List.mem_cons.1 he with rfl | he
              · exact h3
              · exact idLt_trans h3 (c d rfl e he)
          · rintro ⟨a, b, c⟩
            refine ⟨fun e he => a e (List.mem_cons_of_mem _ he), (List.pairwise_cons.1 b).2, fun q hq e he => ?_⟩
            cases hq
            exact (List.pairwise_cons.1 b).1 e he
        · rw [if_neg h3]
          constructor
          · intro h; omega
          · rintro ⟨_, _, c⟩
            exfalso
            apply h3
            cases p with
            | none => rfl
            | some q => exact c q rfl d (by simp)
    · rw [if_pos (by simpa using h1)]
      constructor
      · intro h; exact absurd h h1
      · rintro ⟨h, _⟩; exact absurd (h d (by simp)).1 h1
theorem fit_iff (x : Rp) : recErr x = 0 ↔ Fit x := by
  unfold recErr ownErr depErr
  by_cases h1 : idErr x.1 = 0
  · rw [if_neg (c := idErr x.1 ≠ 0) (by simpa using h1)]
    by_cases h2 : 1 ≤ x.2.1 ∧ x.2.1 ≤ 1073741824
    · rw [if_pos h2, if_neg (by omega)]
      by_cases h3 : 16 < x.2.2.1.length
      · rw [if_pos h3, if_pos (by omega)]
        exact ⟨fun h => by omega, fun h => absurd h.len (by omega)⟩
      · rw [if_neg h3]
        by_cases h4 : depsErr x.1 none x.2.2.1 = 0
        · rw [if_neg (by simpa using h4)]
          obtain ⟨a, b, _⟩ := (depsErr_iff _ _ _).1 h4
          exact ⟨fun h => ⟨h1, h2, by omega, a, b, h⟩, fun h => h.bat⟩
        · rw [if_pos (by simpa using h4)]
          exact ⟨fun h => absurd h h4, fun h => absurd ((depsErr_iff _ _ _).2 ⟨h.deps, h.rise, by simp⟩) h4⟩
    · rw [if_neg h2, if_pos (by omega)]
      exact ⟨fun h => by omega, fun h => absurd h.seq h2⟩
  · rw [if_pos (c := idErr x.1 ≠ 0) (by simpa using h1)]
    rw [if_pos (by simpa using h1)]
    exact ⟨fun h => absurd h h1, fun h => absurd h.id h1⟩
theorem mend1_fit (r o : Rp) (hr : Fit r) (ho : idErr o.1 = 0) (hne : o.1 ≠ r.1) : Fit (mend1 r o) := by
  unfold mend1
  split
  · rename_i hc
    refine ⟨hr.id, hr.seq, ?_, fun d hd => ?_, putL_rises _ _ hr.rise, hr.bat⟩
    · have := putL_len o.1 r.2.2.1
      show (putL o.1 r.2.2.1).length ≤ 16
      omega
    · rcases (putL_mem _ _ _).1 hd with rfl | hd
      · exact ⟨ho, hne⟩
      · exact hr.deps d hd
  · exact hr
theorem mendOne_fit (out : List Rp) : ∀ (x : Rp), Fit x → (∀ o ∈ out, idErr o.1 = 0 ∧ o.1 ≠ x.1) → Fit (mendOne out x) := by
  unfold mendOne
  induction out with
  | nil => exact fun x h _ => h
  | cons o r ih =>
    intro x h ho
    refine ih (mend1 x o) (mend1_fit x o h (ho o (by simp)).1 (ho o (by simp)).2) (fun p hp => ?_)
    rw [(mend1_keep x o).1]
    exact ho p (List.mem_cons_of_mem _ hp)
/-- Records that are a graph. -/
def Fits (M : List Rp) : Prop := (∀ x ∈ M, Fit x) ∧ (pids M).Nodup
theorem gErr_fits : ∀ (M : List Rp) (seen : List Id), gErr seen M = 0 ↔ ((∀ x ∈ M, Fit x) ∧ (pids M).Nodup ∧ ∀ x ∈ M, x.1 ∉ seen)
  | [], seen => by simp [gErr, pids]
  | x :: r, seen => by
    unfold gErr
    by_cases h1 : recErr x = 0
    · rw [if_neg (by simpa using h1)]
      by_cases h2 : x.1 ∈ seen
      · rw [if_pos h2]
        constructor
        · intro h; omega
        · rintro ⟨_, _, h⟩; exact absurd h2 (h x (by simp))
      · rw [if_neg h2, gErr_fits r]
        simp only [pids, List.map_cons, List.nodup_cons, List.mem_cons, List.mem_append, List.mem_singleton, not_or, List.mem_map, List.not_mem_nil, or_false]
        constructor
        · rintro ⟨a, b, c⟩
          exact ⟨fun y hy => hy.elim (fun e => e ▸ (fit_iff x).1 h1) (a y), ⟨fun ⟨y, hy, e⟩ => (c y hy).2 e, b⟩, fun y hy => hy.elim (fun e => e ▸ h2) (fun hy => (c y hy).1)⟩
        · rintro ⟨a, ⟨b1, b2⟩, c⟩
          exact ⟨fun y hy => a y (.inr hy), b2, fun y hy => ⟨c y (.inr hy), fun e => b1 ⟨y, hy, e⟩⟩⟩
    · rw [if_pos (by simpa using h1)]
      constructor
      · intro h; exact absurd h h1
      · rintro ⟨h, _⟩; exact absurd ((fit_iff x).2 (h x (by simp))) h1
theorem mendStep_fits (M : List Rp) (x : Rp) (h : Fits M) (hx : Fit x) (hn : x.1 ∉ pids M) : Fits (mendStep M x) := by
  have hk := mendOne_ok M x hx.len hx.rise
  refine ⟨fun y hy => ?_, ?_⟩
  · rcases List.mem_append.1 hy with hy | hy
    · exact h.1 y hy
    · obtain rfl := List.mem_singleton.1 hy
      exact mendOne_fit M x hx (fun o ho => ⟨(h.1 o ho).id, fun e => hn (e ▸ List.mem_map.2 ⟨o, ho, rfl⟩)⟩)
  · rw [pids_mendStep M x hx.len hx.rise, List.nodup_append]
    exact ⟨h.2, by simp, fun a ha b hb e => hn (by rw [List.mem_singleton.1 hb] at e; exact e ▸ ha)⟩
theorem fineL_fits (l : List Rp) : Fits (fineL l) := by
  unfold fineL
  have : ∀ acc, Fits acc → Fits (l.foldl fineStep acc) := by
    induction l with
    | nil => exact fun acc h => h
    | cons x r ih =>
      intro acc h
      refine ih _ ?_
      unfold fineStep
      split
      · rename_i hc
        refine ⟨fun y hy => ?_, ?_⟩
        · rcases List.mem_append.1 hy with hy | hy
          · exact h.1 y hy
          · obtain rfl := List.mem_singleton.1 hy
            exact (fit_iff _).1 hc.1
        · unfold pids
          rw [List.map_append, List.nodup_append]
          exact ⟨h.2, by simp, fun a ha b hb e => hc.2 (by simp at hb; rw [hb] at e; exact e ▸ ha)⟩
      · exact h
  exact this [] ⟨by simp, by simp [pids]⟩
/-- No two lack an edge, but where one is full. -/
def Mended (M : List Rp) : Prop := M.Pairwise (fun a b => b.2.2.1.length < 16 → lackR b a = false)
theorem linkR_mono (x o : Rp) (D : List Id) (h : ∀ d ∈ x.2.2.1, d ∈ D) (hl : linkR x o = true) : linkR (x.1, x.2.1, D, x.2.2.2) o = true := by
  unfold linkR at *
  simp only [Bool.or_eq_true, decide_eq_true_eq] at *
  exact hl.imp (h _) id
theorem mend1_sub (r o : Rp) : (∀ d ∈ r.2.2.1, d ∈ (mend1 r o).2.2.1) ∧ r.2.2.1.length ≤ (mend1 r o).2.2.1.length := by
  unfold mend1
  split
  · refine ⟨fun d hd => (putL_mem _ _ _).2 (.inr hd), ?_⟩
    show r.2.2.1.length ≤ (putL o.1 r.2.2.1).length
    unfold putL
    split
    · exact Nat.le_refl _
    · rw [ins_len]; omega
  · exact ⟨fun d hd => hd, Nat.le_refl _⟩
theorem lackR_less (r o p : Rp) (h : lackR r p = false) : lackR (mend1 r o) p = false := by
  obtain ⟨a, b, c⟩ := mend1_keep r o
  unfold lackR at *
  rw [c]
  cases hb : batConf r.2.2.2 p.2.2.2 with
  | false => rfl
  | true =>
    rw [hb, Bool.true_and] at h
    rw [Bool.true_and]
    have h2 : linkR r p = true := by simpa using h
    have h3 := linkR_mono r p (mend1 r o).2.2.1 (mend1_sub r o).1 h2
    have e : (r.1, r.2.1, (mend1 r o).2.2.1, r.2.2.2) = mend1 r o := by
      rw [← a, ← b, ← c]
    rw [e] at h3
    rw [h3]; rfl
theorem mendOne_less (out : List Rp) : ∀ (r p : Rp), lackR r p = false → lackR (mendOne out r) p = false := by
  unfold mendOne
  induction out with
  | nil => exact fun _ _ h => h
  | cons o s ih => exact fun r p h => ih _ p (lackR_less r o p h)
theorem mendOne_sub (out : List Rp) : ∀ r : Rp, r.2.2.1.length ≤ (mendOne out r).2.2.1.length := by
  unfold mendOne
  induction out with
  | nil => exact fun _ => Nat.le_refl _
  | cons o s ih => exact fun r => Nat.le_trans (mend1_sub r o).2 (ih _)
theorem mendOne_done (out : List Rp) : ∀ r : Rp, (mendOne out r).2.2.1.length < 16 → ∀ o ∈ out, lackR (mendOne out r) o = false := by
  induction out with
  | nil => exact fun _ _ o ho => by simp at ho
  | cons o s ih =>
    intro r hlen p hp
    have hlen' : (mendOne s (mend1 r o)).2.2.1.length < 16 := hlen
    show lackR (mendOne s (mend1 r o)) p = false
    rcases List.mem_cons.1 hp with rfl | hp
    · refine mendOne_less s _ _ ?_
      by_cases hl : lackR r p = true
      · have h16 : r.2.2.1.length < 16 := by
          have a := (mend1_sub r p).2
          have b := mendOne_sub s (mend1 r p)
          omega
        unfold mend1
        rw [if_pos ⟨h16, hl⟩]
        unfold lackR
        have : linkR (r.1, r.2.1, putL p.1 r.2.2.1, r.2.2.2) p = true := by
          unfold linkR
          simp [putL_mem]
        rw [this]
        simp
      · unfold mend1
        rw [if_neg (fun h => hl h.2)]
        simpa using hl
    · exact ih _ hlen' p hp
theorem mendStep_mended (M : List Rp) (x : Rp) (h : Mended M) : Mended (mendStep M x) := by
  unfold mendStep Mended
  rw [List.pairwise_append]
  exact ⟨h, List.pairwise_singleton _ _, fun a ha b hb hl => by
    obtain rfl := List.mem_singleton.1 hb
    exact mendOne_done M x hl a ha⟩
theorem mendL_ok (F : List Rp) (hF : Fits F) : Fits (mendL F) ∧ Mended (mendL F) ∧ pids (mendL F) = pids F := by
  have : ∀ (done todo : List Rp) (M : List Rp), Fits (done ++ todo) → Fits M → Mended M → pids M = pids done → Fits (todo.foldl mendStep M) ∧ Mended (todo.foldl mendStep M) ∧ pids (todo.foldl mendStep M) = pids (done ++ todo) := by
    intro done todo
    induction todo generalizing done with
    | nil => exact fun M _ a b c => ⟨a, b, by simpa using c⟩
    | cons x r ih =>
      intro M hA hM hm hp
      have hx : Fit x := hA.1 x (by simp)
      have hn : x.1 ∉ pids M := by
        rw [hp]
        have := hA.2
        simp only [pids, List.map_append, List.map_cons, List.nodup_append, List.nodup_cons, List.mem_cons] at this
        exact fun h => this.2.2 x.1 h x.1 (.inl rfl) rfl
      have := ih (done ++ [x]) (mendStep M x) (by simpa using hA) (mendStep_fits M x hM hx hn) (mendStep_mended M x hm) (by rw [pids_mendStep M x hx.len hx.rise, hp]; simp [pids])
      simpa using this
  have := this [] F [] (by simpa using hF) ⟨by simp, by simp [pids]⟩ List.Pairwise.nil rfl
  simpa [mendL] using this
theorem cmConf_symm (a b : Cm) : cmConf a b = cmConf b a := by
  unfold cmConf cmCf
  have e : decide (a.2.1 = b.2.1) = decide (b.2.1 = a.2.1) := by rw [decide_eq_decide]; exact eq_comm
  rw [e]
  cases cmOk a <;> cases cmOk b <;> simp [Bool.or_comm]
theorem batConf_symm (A B : List Cm) : batConf A B = batConf B A := by
  unfold batConf
  rw [Bool.eq_iff_iff]
  simp only [List.any_eq_true]
  constructor
  · rintro ⟨x, hx, y, hy, h⟩; exact ⟨y, hy, x, hx, by rw [cmConf_symm]; exact h⟩
  · rintro ⟨x, hx, y, hy, h⟩; exact ⟨y, hy, x, hx, by rw [cmConf_symm]; exact h⟩
theorem lackR_symm (x y : Rp) : lackR x y = lackR y x := by
  unfold lackR linkR
  rw [batConf_symm, Bool.or_comm]
theorem flk_none : ∀ S : List Rp, S.Pairwise (fun a b => lackR a b = false) → flk S = none
  | [], _ => rfl
  | x :: r, h => by
    obtain ⟨a, b⟩ := List.pairwise_cons.1 h
    unfold flk inn
    rw [List.find?_eq_none.2 (fun y hy => by rw [a y hy]; simp)]
    exact flk_none r b
theorem lookR_inj {l : List Rp} (hn : (pids l).Nodup) {x : Rp} (hx : x ∈ l) : lookR l x.1 = x := by
  have hm : x.1 ∈ pids l := List.mem_map.2 ⟨x, hx, rfl⟩
  obtain ⟨h1, h2⟩ := lookR_mem hm
  obtain ⟨i, hi, ei⟩ := List.getElem_of_mem h1
  obtain ⟨j, hj, ej⟩ := List.getElem_of_mem hx
  have : i = j := (List.getElem_inj (xs := pids l) (h₀ := by simpa [pids] using hi) (h₁ := by simpa [pids] using hj) hn).1 (by simp [pids, ei, ej, h2])
  subst this
  rw [← ei, ← ej]
/-- Whether the premise holds. -/
theorem holds_mended {L : List Rc} (hm : Mended (L.map rp)) (hn : (rids L).Nodup) (hf : ∀ x ∈ L.map rp, x.2.2.1.length < 16) : holdsR (grS L) = ((0, 0), (0, 0), true) := by
  unfold holdsR
  rw [flk_none]
  unfold grS
  have hsym : ∀ x ∈ L.map rp, ∀ y ∈ L.map rp, x ≠ y → lackR x y = false := by
    have : ∀ M : List Rp, Mended M → (∀ x ∈ M, x.2.2.1.length < 16) → ∀ x ∈ M, ∀ y ∈ M, x ≠ y → lackR x y = false := by
      intro M
      induction M with
      | nil => intro _ _ x hx; simp at hx
      | cons z r ih =>
        intro hm hf x hx y hy hne
        obtain ⟨a, b⟩ := List.pairwise_cons.1 hm
        rcases List.mem_cons.1 hx with h1 | h1
        · rcases List.mem_cons.1 hy with h2 | h2
          · exact absurd (h1.trans h2.symm) hne
          · rw [h1, lackR_symm]; exact a y h2 (hf y (List.mem_cons_of_mem _ h2))
        · rcases List.mem_cons.1 hy with h2 | h2
          · rw [h2]; exact a x h1 (hf x (List.mem_cons_of_mem _ h1))
          · exact ih b (fun w hw => hf w (List.mem_cons_of_mem _ hw)) x h1 y h2 hne
    exact this _ hm hf
  have hr := sortL_rises (rids L)
  rw [List.pairwise_map]
  refine hr.imp_of_mem (fun {a b} ha hb hab => ?_)
  have ha' : a ∈ pids (L.map rp) := by rw [pids_rp]; exact (sortL_mem _ _).1 ha
  have hb' : b ∈ pids (L.map rp) := by rw [pids_rp]; exact (sortL_mem _ _).1 hb
  obtain ⟨a1, a2⟩ := lookR_mem ha'
  obtain ⟨b1, b2⟩ := lookR_mem hb'
  refine hsym _ a1 _ b1 (fun e => ?_)
  have : a = b := by rw [← a2, ← b2, e]
  rw [this] at hab
  have := (idLt_iff b b).1 hab
  omega
end Go.Proofs.Ytohgcghobidfpaa

/- What is reached: plain. -/
set_option linter.unusedVariables false
set_option linter.unusedSimpArgs false
namespace Go.Proofs.Ytohgcghobidfpaa
open Go.RowKit Go.Cw Go.Fl
/-- What some ids reach. -/
inductive Rch (deps : Id → List Id) (l : List Id) : Id → Prop
  | base {a : Id} : a ∈ l → Rch deps l a
  | step {a b : Id} : Rch deps l a → b ∈ deps a → Rch deps l b
theorem Rch.closed {deps : Id → List Id} {l : List Id} {P : Id → Prop} (h0 : ∀ a ∈ l, P a) (h1 : ∀ a, P a → ∀ b ∈ deps a, P b) {a : Id} (h : Rch deps l a) : P a := by
  induction h with
  | base h => exact h0 _ h
  | step _ hb ih => exact h1 _ ih _ hb
theorem Rch.mono {deps : Id → List Id} {l m : List Id} (h : ∀ a ∈ l, a ∈ m) {a : Id} (hr : Rch deps l a) : Rch deps m a := hr.closed (fun a ha => .base (h a ha)) (fun _ ha _ hb => .step ha hb)
theorem Rch.trans {deps : Id → List Id} {l m : List Id} (h : ∀ a ∈ l, Rch deps m a) {a : Id} (hr : Rch deps l a) : Rch deps m a := hr.closed h (fun _ ha _ hb => .step ha hb)
theorem Rch.congr {deps deps' : Id → List Id} {l l' : List Id} (hd : ∀ a, deps a = deps' a) (hl : ∀ a, a ∈ l ↔ a ∈ l') {a : Id} : Rch deps l a ↔ Rch deps' l' a :=
  ⟨fun h => h.closed (fun a ha => .base ((hl a).1 ha)) (fun a ha b hb => .step ha (by rw [← hd]; exact hb)), fun h => h.closed (fun a ha => .base ((hl a).2 ha)) (fun a ha b hb => .step ha (by rw [hd]; exact hb))⟩
/-- A walk: what has come, what is left. -/
structure Dfs (deps : Id → List Id) (l : List Id) (pre left : List Id) : Prop where
  nd : pre.Nodup
  rp : ∀ a ∈ pre, Rch deps l a
  rl : ∀ a ∈ left, Rch deps l a
  st : ∀ a ∈ l, a ∈ pre ∨ a ∈ left
  cl : ∀ a ∈ pre, ∀ b ∈ deps a, b ∈ pre ∨ b ∈ left
theorem Dfs.start (deps : Id → List Id) (l : List Id) : Dfs deps l [] l := ⟨List.nodup_nil, by simp, fun a h => .base h, fun a h => .inr h, by simp⟩
theorem Dfs.skip {deps : Id → List Id} {l pre left : List Id} {x : Id} (h : Dfs deps l pre (left ++ [x])) (hx : x ∈ pre) : Dfs deps l pre left := by
  refine ⟨h.nd, h.rp, fun a ha => h.rl a (List.mem_append.2 (.inl ha)), fun a ha => ?_, fun a ha b hb => ?_⟩
  · rcases h.st a ha with h1 | h1
    · exact .inl h1
    · rcases List.mem_append.1 h1 with h1 | h1
      · exact .inr h1
      · rw [List.mem_singleton] at h1; subst h1; exact .inl hx
  · rcases h.cl a ha b hb with h1 | h1
    · exact .inl h1
    · rcases List.mem_append.1 h1 with h1 | h1
      · exact .inr h1
      · rw [List.mem_singleton] at h1; subst h1; exact .inl hx
theorem Dfs.go {deps : Id → List Id} {l pre left : List Id} {x : Id} (h : Dfs deps l pre (left ++ [x])) (hx : x ∉ pre) : Dfs deps l (pre ++ [x]) (left ++ deps x) := by
  have hrx : Rch deps l x := h.rl x (by simp)
  refine ⟨?_, fun a ha => ?_, fun a ha => ?_, fun a ha => ?_, fun a ha b hb => ?_⟩
  · rw [List.nodup_append]
    refine ⟨h.nd, by simp, fun a ha b hb e => ?_⟩
    rw [List.mem_singleton] at hb
    subst e hb
    exact hx ha
  · rcases List.mem_append.1 ha with h1 | h1
    · exact h.rp a h1
    · rw [List.mem_singleton] at h1; subst h1; exact hrx
  · rcases List.mem_append.1 ha with h1 | h1
    · exact h.rl a (List.mem_append.2 (.inl h1))
    · exact .step hrx h1
  · rcases h.st a ha with h1 | h1
    · exact .inl (List.mem_append.2 (.inl h1))
    · rcases List.mem_append.1 h1 with h1 | h1
      · exact .inr (List.mem_append.2 (.inl h1))
      · exact .inl (List.mem_append.2 (.inr h1))
  · rcases List.mem_append.1 ha with h1 | h1
    · rcases h.cl a h1 b hb with h2 | h2
      · exact .inl (List.mem_append.2 (.inl h2))
      · rcases List.mem_append.1 h2 with h2 | h2
        · exact .inr (List.mem_append.2 (.inl h2))
        · exact .inl (List.mem_append.2 (.inr h2))
    · rw [List.mem_singleton] at h1
      subst h1
      exact .inr (List.mem_append.2 (.inr hb))
theorem Dfs.all {deps : Id → List Id} {l pre : List Id} (h : Dfs deps l pre []) (a : Id) : a ∈ pre ↔ Rch deps l a :=
  ⟨h.rp a, fun hr => hr.closed (fun a ha => (h.st a ha).resolve_right (by simp)) (fun a ha b hb => (h.cl a ha b hb).resolve_right (by simp))⟩
theorem sub_len16 : ∀ (L M : List Id), L.Nodup → (∀ a, a ∈ L → a ∈ M) → L.length ≤ M.length
  | [], _, _, _ => Nat.zero_le _
  | x :: r, M, hn, hs => by
    obtain ⟨h1, h2⟩ := List.nodup_cons.1 hn
    have hx := hs x (List.mem_cons_self ..)
    have := sub_len16 r (M.erase x) h2 (fun a ha => by
      have hne : a ≠ x := fun e => h1 (e ▸ ha)
      exact (List.mem_erase_of_ne hne).2 (hs a (List.mem_cons_of_mem _ ha)))
    rw [List.length_erase_of_mem hx] at this
    have hpos := List.length_pos_of_mem hx
    simp only [List.length_cons]
    omega
theorem Dfs.len {deps : Id → List Id} {l pre left U : List Id} (h : Dfs deps l pre left) (hU : ∀ a, Rch deps l a → a ∈ U) : pre.length ≤ U.length := sub_len16 _ _ h.nd (fun a ha => hU a (h.rp a ha))
/-- Deps of an id. -/
def dpsR (l : List Rp) (a : Id) : List Id := (lookR l a).2.2.1
theorem dpsR_none {l : List Rp} {a : Id} (h : a ∉ pids l) : dpsR l a = [] := by unfold dpsR; rw [lookR_none h]
theorem dpsR_mem {l : List Rp} {a b : Id} (h : b ∈ dpsR l a) : b ∈ l.flatMap (fun x => x.2.2.1) := by
  by_cases hp : a ∈ pids l
  · exact List.mem_flatMap.2 ⟨_, (lookR_mem hp).1, h⟩
  · rw [dpsR_none hp] at h; cases h
/-- All that may be reached. -/
def allU (l : List Rp) (f : List Id) : List Id := f ++ l.flatMap (fun x => x.2.2.1)
theorem rch_allU {l : List Rp} {f : List Id} {a : Id} (h : Rch (dpsR l) f a) : a ∈ allU l f := by
  cases h with
  | base h => exact List.mem_append.2 (.inl h)
  | step _ hb => exact List.mem_append.2 (.inr (dpsR_mem hb))
theorem allU_len (l : List Rp) (f : List Id) (h : ∀ x ∈ l, x.2.2.1.length ≤ 16) : (allU l f).length ≤ f.length + 16 * l.length := by
  unfold allU
  rw [List.length_append]
  have : (l.flatMap (fun x => x.2.2.1)).length ≤ 16 * l.length := by
    induction l with
    | nil => simp
    | cons x r ih =>
      rw [List.flatMap_cons, List.length_append, List.length_cons]
      have h1 := h x (List.mem_cons_self ..)
      have h2 := ih (fun y hy => h y (List.mem_cons_of_mem _ hy))
      omega
  omega
end Go.Proofs.Ytohgcghobidfpaa
