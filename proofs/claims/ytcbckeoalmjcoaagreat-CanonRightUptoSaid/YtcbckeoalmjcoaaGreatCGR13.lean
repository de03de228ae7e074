/- Joined texts: CompsP, CompsQ, Yield. -/
import Derived.RangeFuncIn
import Derived.RangeFuncLeaves
import Derived.RangeFuncRecord
import Derived.RangeFuncSeq
import Derived.RangeFuncBound
import Derived.RangeFuncCalls
import Derived.OwnWalkIn
import Derived.TacticsInMore
import Derived.LoopIn
import Derived.Sort.LoopGhostIn
import Derived.Test.YtcbckeoalmjcoaaGreatCGR1
import Derived.Test.YtcbckeoalmjcoaaGreatCGR12
/- Components in order: plain laws: one list alone is right; how the code, and the reference, come to it. -/
set_option linter.unusedVariables false
set_option linter.unusedSimpArgs false
namespace Go.Proofs.YtcbckeoalmjcoaaGreat
open Go.RowKit Go.Cw Go.Fl
def hdI (c : List Id) : Id := c.headD (0, 0)
/-- Ids in the order of their keys. -/
def KR (kf : Id → Ky) (l : List Id) : Prop := KRises (l.map kf)
theorem kf_inj {kf : Id → Ky} (hk : ∀ a, (kf a).2 = a) {a b : Id} (h : kf a = kf b) : a = b := by rw [← hk a, ← hk b, h]
theorem map_eq_of {α β : Type} {f : α → β} : ∀ {l m : List α}, l.map f = m.map f → (∀ a ∈ l, ∀ b ∈ m, f a = f b → a = b) → l = m
  | [], [], _, _ => rfl
  | [], _ :: _, h, _ => by simp at h
  | _ :: _, [], h, _ => by simp at h
  | a :: l, b :: m, h, hi => by
    simp only [List.map_cons, List.cons.injEq] at h
    rw [hi a (by simp) b (by simp) h.1, map_eq_of h.2 (fun x hx y hy => hi x (by simp [hx]) y (by simp [hy]))]
theorem kr_eq {kf : Id → Ky} (hk : ∀ a, (kf a).2 = a) {l m : List Id} (hl : KR kf l) (hm : KR kf m) (h : ∀ a, a ∈ l ↔ a ∈ m) : l = m := by
  have hi : ∀ (q : List Id) (x : Ky), x ∈ q.map kf ↔ x = kf x.2 ∧ x.2 ∈ q := fun q x => by
    constructor
    · intro hx
      obtain ⟨a, ha, rfl⟩ := List.mem_map.1 hx
      rw [hk]
      exact ⟨rfl, ha⟩
    · rintro ⟨e, hx⟩
      rw [e]
      exact List.mem_map.2 ⟨_, hx, rfl⟩
  exact map_eq_of (krises_eq hl hm (fun x => by rw [hi, hi, h])) (fun a _ b _ e => kf_inj hk e)
theorem kr_nodup {kf : Id → Ky} {l : List Id} (h : KR kf l) : l.Nodup := by
  have := krises_nodup h
  unfold List.Nodup at *
  rw [List.pairwise_map] at this
  exact this.imp (fun h e => h (by rw [e]))
theorem kr_filter {kf : Id → Ky} {l : List Id} (h : KR kf l) (q : Id → Bool) : KR kf (l.filter q) := by
  unfold KR KRises at *
  rw [List.pairwise_map] at *
  exact h.filter q
theorem kr_drop {kf : Id → Ky} {l : List Id} (h : KR kf l) (k : Nat) : KR kf (l.drop k) := by
  unfold KR KRises at *
  rw [List.pairwise_map] at *
  exact h.drop
/-- The components of U, each in order, in the order of their first ones. -/
structure IsComps (mu : Id → Id → Prop) (kf : Id → Ky) (U : Id → Prop) (F : List (List Id)) : Prop where
  one : ∀ c ∈ F, c ≠ [] ∧ KR kf c ∧ U (hdI c) ∧ ∀ b, b ∈ c ↔ mu (hdI c) b
  hds : KR kf (F.map hdI)
  all : ∀ a, U a → ∃ c ∈ F, a ∈ c
theorem hdI_mem {c : List Id} (h : c ≠ []) : hdI c ∈ c := by cases c with
  | nil => exact absurd rfl h
  | cons a t => simp [hdI]
theorem IsComps.eq {mu : Id → Id → Prop} {kf : Id → Ky} {U : Id → Prop} (hk : ∀ a, (kf a).2 = a) (hs : ∀ a b, mu a b → mu b a) (ht : ∀ a b c, mu a b → mu b c → mu a c)
    {F G : List (List Id)} (hF : IsComps mu kf U F) (hG : IsComps mu kf U G) : F = G := by
  have sub : ∀ {F G : List (List Id)}, IsComps mu kf U F → IsComps mu kf U G → ∀ c ∈ F, c ∈ G := by
    intro F G hF hG c hc
    obtain ⟨h1, h2, h3, h4⟩ := hF.one c hc
    obtain ⟨d, hd, hm⟩ := hG.all _ h3
    obtain ⟨k1, k2, k3, k4⟩ := hG.one d hd
    have hmu := (k4 _).1 hm
    have : c = d := kr_eq hk h2 k2 (fun b => by
      rw [h4, k4]
      exact ⟨fun h => ht _ _ _ hmu h, fun h => ht _ _ _ (hs _ _ hmu) h⟩)
    rw [this]; exact hd
  have hh : F.map hdI = G.map hdI := kr_eq hk hF.hds hG.hds (fun a => by
    simp only [List.mem_map]
    exact ⟨fun ⟨c, hc, e⟩ => ⟨c, sub hF hG c hc, e⟩, fun ⟨c, hc, e⟩ => ⟨c, sub hG hF c hc, e⟩⟩)
  refine map_eq_of hh (fun c hc d hd e => ?_)
  obtain ⟨h1, h2, h3, h4⟩ := hF.one c hc
  obtain ⟨k1, k2, k3, k4⟩ := hG.one d hd
  exact kr_eq hk h2 k2 (fun b => by rw [h4, k4, e])
/-- Behind the second walks: what is left, the lists so far; B: what of the first walk's list is behind. -/
structure Cv (mu : Id → Id → Prop) (kf : Id → Ky) (U : Id → Prop) (B L : List Id) (F : List (List Id)) : Prop where
  lf : ∀ a, a ∈ L ↔ U a ∧ ∀ y ∈ B, ¬ mu a y
  one : ∀ c ∈ F, c ≠ [] ∧ KR kf c ∧ U (hdI c) ∧ ∀ b, b ∈ c ↔ mu (hdI c) b
  all : ∀ y ∈ B, ∃ c ∈ F, y ∈ c
  dis : F.Pairwise (fun c d => ¬ mu (hdI c) (hdI d))
  src : ∀ c ∈ F, ∃ y ∈ B, mu (hdI c) y
theorem Cv.none {mu : Id → Id → Prop} {kf : Id → Ky} {U : Id → Prop} {B L : List Id} {F : List (List Id)} {a : Id} (hs : ∀ a b, mu a b → mu b a) (ht : ∀ a b c, mu a b → mu b c → mu a c) (hr : ∀ a, mu a a)
    (h : Cv mu kf U B L F) (ha : a ∉ L) (hU : U a) : Cv mu kf U (a :: B) L F := by
  obtain ⟨y, hy, hm⟩ : ∃ y ∈ B, mu a y := by
    apply Classical.byContradiction
    intro hn
    exact ha ((h.lf a).2 ⟨hU, fun y hy hm => hn ⟨y, hy, hm⟩⟩)
  refine ⟨fun b => ?_, h.one, fun z hz => ?_, h.dis, fun c hc => ?_⟩
  · rw [h.lf]
    refine ⟨fun ⟨h1, h2⟩ => ⟨h1, fun z hz hm2 => ?_⟩, fun ⟨h1, h2⟩ => ⟨h1, fun z hz => h2 z (List.mem_cons_of_mem _ hz)⟩⟩
    rcases List.mem_cons.1 hz with rfl | hz
    · exact h2 y hy (ht _ _ _ hm2 hm)
    · exact h2 z hz hm2
  · rcases List.mem_cons.1 hz with rfl | hz
    · obtain ⟨c, hc, hyc⟩ := h.all y hy
      obtain ⟨k1, k2, k3, k4⟩ := h.one c hc
      exact ⟨c, hc, (k4 _).2 (ht _ _ _ ((k4 _).1 hyc) (hs _ _ hm))⟩
    · exact h.all z hz
  · obtain ⟨z, hz, hm2⟩ := h.src c hc
    exact ⟨z, List.mem_cons_of_mem _ hz, hm2⟩
theorem Cv.some {mu : Id → Id → Prop} {kf : Id → Ky} {U : Id → Prop} {B L L' C : List Id} {F : List (List Id)} {a : Id} (hs : ∀ a b, mu a b → mu b a) (ht : ∀ a b c, mu a b → mu b c → mu a c) (hr : ∀ a, mu a a)
    (hUm : ∀ a b, U a → mu a b → U b) (h : Cv mu kf U B L F) (ha : a ∈ L) (hC : ∀ b, b ∈ C ↔ mu a b) (hCk : KR kf C) (hL : ∀ b, b ∈ L' ↔ b ∈ L ∧ b ∉ C) : Cv mu kf U (a :: B) L' (F ++ [C]) := by
  have haC : a ∈ C := (hC a).2 (hr a)
  have hne : C ≠ [] := fun e => by rw [e] at haC; cases haC
  have hh : mu a (hdI C) := (hC _).1 (hdI_mem hne)
  have hU := ((h.lf a).1 ha)
  refine ⟨fun b => ?_, fun c hc => ?_, fun z hz => ?_, ?_, fun c hc => ?_⟩
  · rw [hL, h.lf, hC]
    constructor
    · rintro ⟨⟨h1, h2⟩, h3⟩
      refine ⟨h1, fun z hz hm => ?_⟩
      rcases List.mem_cons.1 hz with rfl | hz
      · exact h3 (hs _ _ hm)
      · exact h2 z hz hm
    · rintro ⟨h1, h2⟩
      exact ⟨⟨h1, fun z hz => h2 z (List.mem_cons_of_mem _ hz)⟩, fun hm => h2 a (List.mem_cons_self ..) (hs _ _ hm)⟩
  · rcases List.mem_append.1 hc with hc | hc
    · exact h.one c hc
    · rw [List.mem_singleton] at hc
      subst hc
      exact ⟨hne, hCk, hUm _ _ hU.1 hh, fun b => by rw [hC]; exact ⟨fun hm => ht _ _ _ (hs _ _ hh) hm, fun hm => ht _ _ _ hh hm⟩⟩
  · rcases List.mem_cons.1 hz with rfl | hz
    · exact ⟨C, by simp, haC⟩
    · obtain ⟨c, hc, hm⟩ := h.all z hz
      exact ⟨c, List.mem_append.2 (.inl hc), hm⟩
  · rw [List.pairwise_append]
    refine ⟨h.dis, by simp, fun c hc d hd hm => ?_⟩
    rw [List.mem_singleton] at hd
    subst hd
    obtain ⟨y, hy, hm2⟩ := h.src c hc
    exact hU.2 y hy (ht _ _ _ hh (ht _ _ _ (hs _ _ hm) hm2))
  · rcases List.mem_append.1 hc with hc | hc
    · obtain ⟨z, hz, hm2⟩ := h.src c hc
      exact ⟨z, List.mem_cons_of_mem _ hz, hm2⟩
    · rw [List.mem_singleton] at hc
      subst hc
      exact ⟨a, by simp, hs _ _ hh⟩
/-- A list by its first one. -/
def byHd (F : List (List Id)) (a : Id) : List Id := (F.find? (fun c => decide (hdI c = a))).getD []
theorem byHd_mem {F : List (List Id)} {a : Id} (h : a ∈ F.map hdI) : byHd F a ∈ F ∧ hdI (byHd F a) = a := by
  obtain ⟨c, hc, rfl⟩ := List.mem_map.1 h
  unfold byHd
  cases hf : F.find? (fun d => decide (hdI d = hdI c)) with
  | none =>
    have := List.find?_eq_none.1 hf c hc
    simp at this
  | some d =>
    have h1 := List.mem_of_find?_eq_some hf
    have h2 := List.find?_some hf
    exact ⟨h1, by simpa using h2⟩
theorem Cv.comps {mu : Id → Id → Prop} {kf : Id → Ky} {U : Id → Prop} {B L : List Id} {F : List (List Id)} (hs : ∀ a b, mu a b → mu b a) (ht : ∀ a b c, mu a b → mu b c → mu a c)
    (h : Cv mu kf U B L F) (hB : ∀ a, U a → a ∈ B) {R : List Id} (hR : KR kf R) (hm : ∀ a, a ∈ R ↔ a ∈ F.map hdI) : IsComps mu kf U (R.map (byHd F)) := by
  refine ⟨fun c hc => ?_, ?_, fun a ha => ?_⟩
  · obtain ⟨a, ha, rfl⟩ := List.mem_map.1 hc
    exact h.one _ (byHd_mem ((hm a).1 ha)).1
  · have : (R.map (byHd F)).map hdI = R := by
      rw [List.map_map]
      refine (List.map_congr_left (fun a ha => ?_)).trans (List.map_id R)
      exact (byHd_mem ((hm a).1 ha)).2
    rw [this]; exact hR
  · obtain ⟨c, hc, hac⟩ := h.all a (hB a ha)
    have hcR : hdI c ∈ R := (hm _).2 (List.mem_map.2 ⟨c, hc, rfl⟩)
    refine ⟨byHd F (hdI c), List.mem_map.2 ⟨_, hcR, rfl⟩, ?_⟩
    obtain ⟨h1, h2⟩ := byHd_mem ((hm _).1 hcR)
    obtain ⟨k1, k2, k3, k4⟩ := h.one c hc
    obtain ⟨j1, j2, j3, j4⟩ := h.one _ h1
    rw [j4, h2]
    exact (k4 a).1 hac
/-- How the reference comes to it: A: all closed ids in order; k of them are gone. -/
structure Rv (mu : Id → Id → Prop) (kf : Id → Ky) (U : Id → Prop) (A : List Id) (k : Nat) (F : List (List Id)) : Prop where
  one : ∀ c ∈ F, c ≠ [] ∧ KR kf c ∧ U (hdI c) ∧ ∀ b, b ∈ c ↔ mu (hdI c) b
  hds : KR kf (F.map hdI)
  src : ∀ c ∈ F, hdI c ∈ A.take k
  all : ∀ a ∈ A.take k, ∃ c ∈ F, a ∈ c
theorem Rv.start (mu : Id → Id → Prop) (kf : Id → Ky) (U : Id → Prop) (A : List Id) : Rv mu kf U A 0 [] := ⟨by simp, by simp [KR, KRises], by simp, by simp⟩
theorem mem_take_succ {A : List Id} {k : Nat} (hk : k < A.length) {a : Id} : a ∈ A.take (k + 1) ↔ a ∈ A.take k ∨ a = A[k] := by
  rw [List.take_add_one, List.getElem?_eq_getElem hk, List.mem_append, Option.toList_some, List.mem_singleton]
theorem Rv.had {mu : Id → Id → Prop} {kf : Id → Ky} {U : Id → Prop} {A : List Id} {k : Nat} {F : List (List Id)} (h : Rv mu kf U A k F) (hk : k < A.length) (hc : ∃ c ∈ F, A[k] ∈ c) : Rv mu kf U A (k + 1) F := by
  refine ⟨h.one, h.hds, fun c hc => (mem_take_succ hk).2 (.inl (h.src c hc)), fun a ha => ?_⟩
  rcases (mem_take_succ hk).1 ha with ha | rfl
  · exact h.all a ha
  · exact hc
open Classical in
theorem Rv.put {mu : Id → Id → Prop} {kf : Id → Ky} {U : Id → Prop} {A : List Id} {k : Nat} {F : List (List Id)} (hs : ∀ a b, mu a b → mu b a) (ht : ∀ a b c, mu a b → mu b c → mu a c) (hr : ∀ a, mu a a)
    (hUm : ∀ a b, U a → mu a b → U b) (hA : KR kf A) (hAm : ∀ a, a ∈ A ↔ U a) (h : Rv mu kf U A k F) (hk : k < A.length) (hc : ¬ ∃ c ∈ F, A[k] ∈ c) :
    Rv mu kf U A (k + 1) (F ++ [(A.drop k).filter (fun b => decide (mu A[k] b))]) := by
  have e0 : A.drop k = A[k] :: A.drop (k + 1) := List.drop_eq_getElem_cons hk
  have eh : hdI ((A.drop k).filter (fun b => decide (mu A[k] b))) = A[k] := by
    rw [e0, List.filter_cons, if_pos (by simpa using hr _)]
    rfl
  have hUk : U A[k] := (hAm _).1 (List.getElem_mem hk)
  have hm : ∀ b, b ∈ (A.drop k).filter (fun b => decide (mu A[k] b)) ↔ mu A[k] b := fun b => by
    rw [List.mem_filter, decide_eq_true_eq]
    refine ⟨fun h => h.2, fun hb => ⟨?_, hb⟩⟩
    have hbA := (hAm b).2 (hUm _ _ hUk hb)
    rw [← List.take_append_drop k A] at hbA
    rcases List.mem_append.1 hbA with hbA | hbA
    · obtain ⟨c, hcF, hbc⟩ := h.all b hbA
      obtain ⟨k1, k2, k3, k4⟩ := h.one c hcF
      exact absurd ⟨c, hcF, (k4 _).2 (ht _ _ _ ((k4 _).1 hbc) (hs _ _ hb))⟩ hc
    · exact hbA
  have htk : KR kf (A.take k ++ [A[k]]) := by
    have : A.take k ++ [A[k]] = A.take (k + 1) := by rw [List.take_add_one, List.getElem?_eq_getElem hk]; rfl
    rw [this]
    unfold KR KRises at *
    rw [List.pairwise_map] at *
    exact hA.take
  refine ⟨fun c hcF => ?_, ?_, fun c hcF => ?_, fun a ha => ?_⟩
  · rcases List.mem_append.1 hcF with hcF | hcF
    · exact h.one c hcF
    · rw [List.mem_singleton] at hcF
      subst hcF
      rw [eh]
      exact ⟨fun e => (by have := (hm A[k]).2 (hr _); rw [e] at this; cases this), kr_filter (kr_drop hA k) _, hUk, hm⟩
  · rw [List.map_append, List.map_cons, List.map_nil, eh]
    have h1 := h.hds
    unfold KR KRises at h1 htk ⊢
    rw [List.pairwise_map] at h1 htk ⊢
    rw [List.pairwise_append] at htk ⊢
    refine ⟨h1, by simp, fun a ha b hb => ?_⟩
    obtain ⟨c, hcF, rfl⟩ := List.mem_map.1 ha
    exact htk.2.2 _ (h.src c hcF) b hb
  · rcases List.mem_append.1 hcF with hcF | hcF
    · exact (mem_take_succ hk).2 (.inl (h.src c hcF))
    · rw [List.mem_singleton] at hcF
      subst hcF
      rw [eh]
      exact (mem_take_succ hk).2 (.inr rfl)
  · rcases (mem_take_succ hk).1 ha with ha | rfl
    · obtain ⟨c, hcF, hac⟩ := h.all a ha
      exact ⟨c, List.mem_append.2 (.inl hcF), hac⟩
    · exact ⟨_, List.mem_append.2 (.inr (List.mem_singleton.2 rfl)), (hm _).2 (hr _)⟩
theorem Rv.comps {mu : Id → Id → Prop} {kf : Id → Ky} {U : Id → Prop} {A : List Id} {F : List (List Id)} (hAm : ∀ a, a ∈ A ↔ U a) (h : Rv mu kf U A A.length F) : IsComps mu kf U F :=
  ⟨h.one, h.hds, fun a ha => h.all a (by rw [List.take_length]; exact (hAm a).2 ha)⟩
end Go.Proofs.YtcbckeoalmjcoaaGreat

/- Components: where an id is, how many there are: plain laws. -/
set_option linter.unusedVariables false
set_option linter.unusedSimpArgs false
namespace Go.Proofs.YtcbckeoalmjcoaaGreat
open Go.RowKit Go.Cw Go.Fl
/-- The place of the list that has an id; -1: none has. -/
def atFrom (a : Id) : List (List Id) → Int → Int
  | [], _ => -1
  | c :: r, k => if a ∈ c then k else atFrom a r (k + 1)
theorem atFrom_spec (a : Id) : ∀ (F : List (List Id)) (k : Int), (atFrom a F k = -1 ∧ ∀ c ∈ F, a ∉ c) ∨ ∃ (i : Nat) (h : i < F.length), atFrom a F k = k + (i : Int) ∧ a ∈ F[i]
  | [], k => .inl ⟨rfl, by simp⟩
  | c :: r, k => by
    unfold atFrom
    by_cases h : a ∈ c
    · rw [if_pos h]
      exact .inr ⟨0, by simp, by simp, h⟩
    · rw [if_neg h]
      rcases atFrom_spec a r (k + 1) with ⟨h1, h2⟩ | ⟨i, h1, h2, h3⟩
      · refine .inl ⟨h1, fun d hd => ?_⟩
        rcases List.mem_cons.1 hd with rfl | hd
        · exact h
        · exact h2 d hd
      · exact .inr ⟨i + 1, by simp; omega, by rw [h2]; push_cast; omega, by simpa using h3⟩
theorem atFrom_congr {a b : Id} : ∀ (F : List (List Id)) (k : Int), (∀ c ∈ F, a ∈ c ↔ b ∈ c) → atFrom a F k = atFrom b F k
  | [], _, _ => rfl
  | c :: r, k, h => by
    unfold atFrom
    have h1 := h c (by simp)
    have h2 := atFrom_congr r (k + 1) (fun d hd => h d (by simp [hd]))
    by_cases hc : a ∈ c
    · rw [if_pos hc, if_pos (h1.1 hc)]
    · rw [if_neg hc, if_neg (fun h => hc (h1.2 h)), h2]
theorem IsComps.at_mu {mu : Id → Id → Prop} {kf : Id → Ky} {U : Id → Prop} (hs : ∀ a b, mu a b → mu b a) (ht : ∀ a b c, mu a b → mu b c → mu a c) {F : List (List Id)} (h : IsComps mu kf U F) {a b : Id} (ha : U a) (hb : U b) :
    atFrom a F 0 = atFrom b F 0 ↔ mu a b := by
  constructor
  · intro e
    rcases atFrom_spec a F 0 with ⟨h1, h2⟩ | ⟨i, h1, h2, h3⟩
    · obtain ⟨c, hc, hac⟩ := h.all a ha
      exact absurd hac (h2 c hc)
    · rcases atFrom_spec b F 0 with ⟨k1, k2⟩ | ⟨j, k1, k2, k3⟩
      · obtain ⟨c, hc, hac⟩ := h.all b hb
        exact absurd hac (k2 c hc)
      · obtain rfl : i = j := by omega
        obtain ⟨_, _, _, h4⟩ := h.one _ (List.getElem_mem h1)
        exact ht _ _ _ (hs _ _ ((h4 a).1 h3)) ((h4 b).1 k3)
  · intro hm
    refine atFrom_congr F 0 (fun c hc => ?_)
    obtain ⟨_, _, _, h4⟩ := h.one _ hc
    rw [h4, h4]
    exact ⟨fun k => ht _ _ _ k hm, fun k => ht _ _ _ k (hs _ _ hm)⟩
theorem IsComps.nodup {mu : Id → Id → Prop} {kf : Id → Ky} {U : Id → Prop} (hk : ∀ a, (kf a).2 = a) (hs : ∀ a b, mu a b → mu b a) (ht : ∀ a b c, mu a b → mu b c → mu a c) {F : List (List Id)} (h : IsComps mu kf U F) : F.flatten.Nodup := by
  unfold List.Nodup
  rw [List.pairwise_flatten]
  refine ⟨fun c hc => kr_nodup (h.one c hc).2.1, ?_⟩
  have h1 := h.hds
  unfold KR KRises at h1
  rw [List.pairwise_map, List.pairwise_map] at h1
  refine List.Pairwise.imp_of_mem (fun {c d} hc hd hlt x hx y hy e => ?_) h1
  subst e
  obtain ⟨_, c2, _, c4⟩ := h.one c hc
  obtain ⟨_, d2, _, d4⟩ := h.one d hd
  have hm := ht _ _ _ ((c4 x).1 hx) (hs _ _ ((d4 x).1 hy))
  have : c = d := kr_eq hk c2 d2 (fun b => by
    rw [c4, d4]
    exact ⟨fun k => ht _ _ _ (hs _ _ hm) k, fun k => ht _ _ _ hm k⟩)
  subst this
  rw [kLt_iff] at hlt
  omega
theorem IsComps.mem {mu : Id → Id → Prop} {kf : Id → Ky} {U : Id → Prop} (hUm : ∀ a b, U a → mu a b → U b) {F : List (List Id)} (h : IsComps mu kf U F) (a : Id) : a ∈ F.flatten ↔ U a := by
  rw [List.mem_flatten]
  constructor
  · rintro ⟨c, hc, hac⟩
    obtain ⟨_, _, c3, c4⟩ := h.one c hc
    exact hUm _ _ c3 ((c4 a).1 hac)
  · intro ha
    exact h.all a ha
def lensI (F : List (List Id)) : Nat := (F.map List.length).sum
theorem lensI_snoc (F : List (List Id)) (k : Nat) (h : k < F.length) : lensI (F.take (k + 1)) = lensI (F.take k) + F[k].length := by
  unfold lensI
  rw [List.take_add_one, List.getElem?_eq_getElem h, List.map_append, List.sum_append, Option.toList_some, List.map_cons, List.map_nil, List.sum_cons, List.sum_nil, Nat.add_zero]
theorem lensI_flat (F : List (List Id)) : lensI F = F.flatten.length := by simp [lensI, List.length_flatten]
theorem IsComps.len {mu : Id → Id → Prop} {kf : Id → Ky} {U : Id → Prop} (hk : ∀ a, (kf a).2 = a) (hs : ∀ a b, mu a b → mu b a) (ht : ∀ a b c, mu a b → mu b c → mu a c) (hUm : ∀ a b, U a → mu a b → U b)
    {F : List (List Id)} (h : IsComps mu kf U F) {R : List Id} (hR : R.Nodup) (hm : ∀ a, a ∈ R ↔ U a) : lensI F = R.length := by
  rw [lensI_flat]
  have h1 := sub_len16 _ _ (h.nodup hk hs ht) (fun a ha => (hm a).2 ((h.mem hUm a).1 ha))
  have h2 := sub_len16 _ _ hR (fun a ha => (h.mem hUm a).2 ((hm a).1 ha))
  omega
end Go.Proofs.YtcbckeoalmjcoaaGreat

/- Ranges over a function, over the assertions of Own: no program. -/
set_option linter.unusedVariables false
set_option linter.unusedSimpArgs false
namespace Go.Cw
open Go.RowKit
/-- One block, whatever it is. -/
def Ob (g : Nat) (o : Obj) : HA where
  at_ := fun w S => w.heap[g]? = some o ∧ ∀ k, S k ↔ k = g
  move := fun h hm => ⟨(hm g ((h.2 g).2 rfl)).trans h.1, h.2⟩
  lt := fun h k hk => by
    have := (h.2 k).1 hk
    subst this
    exact (Array.getElem?_eq_some_iff.1 h.1).1
section
variable {H : Hp} {l : List HA} {w : World} {g : Nat} {o : Obj}
theorem St.ob (h : St H l w) (o : Obj) : St H (Ob w.heap.size o :: l) (w.alloc o) :=
  h.new (by simp) (fun k => k = w.heap.size) ⟨heap_alloc_new w o, fun _ => Iff.rfl⟩ (fun k hk => by omega) (fun k hk => Below.heap_alloc w o k hk)
theorem St.ob_heap (h : St H (Ob g o :: l) w) : w.heap[g]? = some o := h.get (fun _ hS => hS.1)
theorem St.ob_lt (h : St H (Ob g o :: l) w) : g < w.heap.size := (Array.getElem?_eq_some_iff.1 h.ob_heap).1
theorem St.ob_put (h : St H (Ob g o :: l) w) (o' : Obj) : St H (Ob g o' :: l) (w.putObj g o') :=
  h.turn (by simp) (fun S hS => ⟨S, ⟨World.putObj_heap_same h.ob_lt, hS.2⟩, fun k hk => .inl hk, fun k _ hk => World.putObj_heap_other (fun e => hk ((hS.2 k).2 e))⟩)
theorem Env.putObj {a w : World} (h : Env a w) (g : Nat) (o : Obj) : Env a (w.putObj g o) := ⟨h.os, h.tape, h.output, Nat.le_trans h.size (by simp)⟩
end
/-- append(v, x...) as an arm of a fenced walk. -/
theorem wpListIn_append {F : Fence} {n : Nat} {P : Program} {H : Hp} {l : List HA} {w : World} {e : TypeId} {sz : Nat} {v : Value} {cs : List Value} {ops : Array Oper} {rest : List Oper} {o : Oper} {a : Act} {Q : Exit → Act → World → Prop} (hg : o.guard = none) (s y : Operand) (t u : TypeId)
    (hop : o.op = Op.call { callee := Callee.builtin Builtin.append, args := #[s, y], argTypes := #[t, u] }) (ht : P.underlying t = some (.slice e)) (hu : (∃ d, P.underlying u = some (.slice d)) ∨ P.underlying u = some .string)
    (z : Value) (bytes : Nat) (hinfo : (P.info? e).map (fun i => (i.zero, i.size, i.bytes)) = some (some z, sz, bytes)) (hz : z.cells.size = sz) (hsz : 0 < sz) (hb0 : 0 < bytes)
    {x : Value} {m : Nat} {news : List Value} (hs : a.eval s = v) (hy : a.eval y = x)
    (h : St H (Row e sz v cs :: l) w) (hx : News P w sz x m news) (hb : (cs.length + news.length) * bytes ≤ sz * 140737488355328)
    (k : ∀ v' w', St H (Row e sz v' (cs ++ news) :: l) w' → Env w w' → wpListIn F n P ops Q rest (a.put o.dst v') w') : wpListIn F n P ops Q (o :: rest) a w := by
  refine wpListIn_plain hg fun K hK' => ?_
  obtain ⟨v', w', hrun, r1, r2⟩ := h.append_run t u o.type z bytes ht hu hinfo hz hsz hx hb hb0
  unfold Oper.wpIn
  refine ⟨?_, ?_⟩
  · simp [Oper.about, hop, resolve, Target.leads, Sem.run_pure]
  · rw [Oper.semAt_plain F _ _ (by rw [hop]; intro c hc'; cases hc')]
    simp [execOp, hop, resolve, invoke, builtin, hs, hy, hrun, Result.andThen]
    exact hK' _ _ (k v' w' r1 r2)
/-- A plain contract, in whatever round. -/
theorem calls_in {P : Program} {n : Nat} {f : FuncId} {args : Array Value} {w : World} {R : Ending → World → Prop} (l : Nat) (h : Calls P f args w R) : CallsIn (Fence.wide.inRound l) n P f args w R := CallsIn.inRound l (callsIn_wide.2 h)
end Go.Cw
