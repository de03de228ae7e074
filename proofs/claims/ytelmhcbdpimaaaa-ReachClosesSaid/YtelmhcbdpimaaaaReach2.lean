/- A range over what some ids reach: the statement's law; reach.each. -/
import Derived.Test.YtelmhcbdpimaaaaReach
set_option linter.unusedVariables false
set_option linter.unusedSimpArgs false
namespace Go.Proofs.Ytelmhcbdpimaaaa
open Go.RowKit Go.Cw Go.Fl
attribute [local go_sem ↓] eql_id neq_id
attribute [local go_sem] Oper.semAt_some
attribute [local go_sem] wide_fn wide_fnR wide_dp wide_dpR wide_rd wide_rdR
/-- How a round's body may be left. -/
def LeftR (G : HA) (E : List Id → HA) (Ec : Code → List Id → HA) (H : Hp) (fr : List HA) (xs : List Id) (W : World) (e : Exit) (_ : Act) (W' : World) : Prop :=
  match e with
  | .normal => ∃ H', Hp.le H H' ∧ Env W W' ∧ St H' (G :: E xs :: fr) W'
  | .ret => ∃ H', Hp.le H H' ∧ Env W W' ∧ St H' (G :: Ec .ret xs :: fr) W'
  | .exit id => ∃ H', Hp.le H H' ∧ Env W W' ∧ St H' (G :: Ec (.exit id) xs :: fr) W'
  | _ => False
theorem each_shut {H : Hp} {G E A B : HA} {fr : List HA} {w : World} (h : St H (G :: E :: A :: B :: fr) w) : St H (G :: Star A (Star B E) :: fr) w := by
  have h2 : St H (B :: E :: A :: G :: fr) w := h.perm (by
    refine (List.perm_append_comm (l₁ := [G, E, A]) (l₂ := [B]) |>.append_right fr).trans ?_
    refine List.Perm.cons _ ?_
    refine (List.perm_append_comm (l₁ := [G]) (l₂ := [E, A]) |>.append_right fr))
  exact h2.shutStar.swap.shutStar.swap
theorem each_open {H : Hp} {G E A B : HA} {fr : List HA} {w : World} (h : St H (G :: Star A (Star B E) :: fr) w) : St H (G :: E :: A :: B :: fr) w := by
  have h2 : St H (B :: E :: A :: G :: fr) w := h.swap.openStar.swap.openStar
  exact h2.perm (by
    refine (List.perm_append_comm (l₁ := [B, E, A]) (l₂ := [G]) |>.append_right fr).trans ?_
    refine List.Perm.cons _ ?_
    refine (List.perm_append_comm (l₁ := [B]) (l₂ := [E, A]) |>.append_right fr))
set_option maxHeartbeats 4000000 in
theorem wpIn_each {n : Nat} {g : Operand} {ps : Array Tmp} {assign body : Code} {Q : Exit → Act → World → Prop} {a : Act} {w : World}
    (gp : Value) (G : HA) (deps : Id → List Id) (src U : List Id) (cg cl : Nat) (sv : Value) (E : List Id → HA) (Ec : Code → List Id → HA) (H : Hp) (fr : List HA)
    (hU : ∀ a, Rch deps src a → a ∈ U) (hUl : U.length ≤ 100000) (hsl : src.length ≤ 100000) (hd16 : ∀ a, (deps a).length ≤ 16) (hR : RecOf gp G deps H)
    (hcl : H.cell cl 0 = some sv) (hsv : Rd H 2 sv (idl src)) (hcg : H.cell cg 0 = some gp) (hgp : ∃ a, gp = .pointer a) (h : St H (G :: E [] :: fr) w)
    (hg : a.eval g = .func (.func 111) #[] #[.pointer (some ⟨cl, 0, none⟩), .pointer (some ⟨cg, 0, none⟩)]) (hps : ps.size = 1)
    (hbody : ∀ (l : Nat) (pre : List Id) (x : Id) (H1 : Hp) (fr1 : List HA) (W : World), Hp.le H H1 → Rch deps src x → x ∉ pre → pre.Nodup → (∀ a ∈ pre, Rch deps src a) → St H1 (G :: E pre :: fr1) W →
      assign.wpIn (Fence.wide.inRound l) (n - 1 - 1) Try.prog (Exit.then (fun a₁ W1 => ∃ H2, Hp.le H1 H2 ∧ Env W W1 ∧ St H2 (G :: E pre :: fr1) W1 ∧ ∀ (fr2 : List HA) (W2 : World), St H2 (G :: E pre :: fr2) W2 →
        body.wpIn (Fence.wide.inRound l) (n - 1 - 1) Try.prog (LeftR G E Ec H2 fr2 (pre ++ [x]) W2) a₁ W2) (fun _ _ _ => False))
        { tmps := (ps.zip #[idV x]).foldl (fun t (p, v) => t.setIfInBounds p v) a.tmps, defers := [] } W)
    (hdone : ∀ (xs : List Id) (d : Nat) (H' : Hp) (fr' : List HA) (W : World), Hp.le H H' → xs.Nodup → (∀ a, a ∈ xs ↔ Rch deps src a) → St H' (Ob d (.deferred (some [])) :: G :: E xs :: fr) W → Env w W → Q .normal { a with defers := { target := .collected d, args := #[] } :: a.defers } W)
    (hstop : ∀ (xs : List Id) (c : Code) (d : Nat) (H' : Hp) (W : World), Hp.le H H' → (∀ a ∈ xs, Rch deps src a) → St H' (Ob d (.deferred (some [])) :: G :: Ec c xs :: fr) W → Env w W → c.wpIn Fence.wide n Try.prog Q { a with defers := { target := .collected d, args := #[] } :: a.defers } W) :
    (Code.rangeFunc g ps assign body).wpIn Fence.wide n Try.prog Q a w := by
  refine wpIn_rangeFunc ?_
  intro fn hfn
  rw [wide_rd]
  obtain ⟨rec, hrec⟩ : ∃ rec : LoopState → Option Code → Loop, rec = fun st pe => { state := st, pending := pe, fn, tmps := a.tmps, params := ps, assign, body, defers := w.heap.size } := ⟨_, rfl⟩
  obtain ⟨W1, hW1⟩ : ∃ W1, (w.alloc (.deferred (some []))).alloc (.loop (rec .ready none)) = W1 := ⟨_, rfl⟩
  have hs1 : St H (Ob (w.heap.size + 1) (.loop (rec .ready none)) :: Ob w.heap.size (.deferred (some [])) :: G :: E [] :: fr) W1 := by
    have := (h.ob (.deferred (some []))).ob (.loop (rec .ready none))
    rw [hW1] at this
    rwa [World.size_alloc] at this
  have en1 : Env w W1 := by rw [← hW1]; exact ((Env.refl w).alloc _).alloc _
  have hs2 : St H (G :: Star (Ob (w.heap.size + 1) (.loop (rec .ready none))) (Star (Ob w.heap.size (.deferred (some []))) (E [])) :: fr) W1 := by
    have h1 := hs1.perm (List.perm_append_comm (l₁ := [_, _]) (l₂ := [G, E []]) |>.append_right fr)
    have h2 : St H (Ob w.heap.size (.deferred (some [])) :: E [] :: Ob (w.heap.size + 1) (.loop (rec .ready none)) :: G :: fr) W1 := hs1.perm (by
      refine (List.perm_append_comm (l₁ := [Ob (w.heap.size + 1) (.loop (rec .ready none))]) (l₂ := [Ob w.heap.size (.deferred (some [])), G, E []]) |>.append_right fr).trans ?_
      refine List.Perm.cons _ ?_
      refine (List.perm_append_comm (l₁ := [G]) (l₂ := [E [], Ob (w.heap.size + 1) (.loop (rec .ready none))]) |>.append_right fr))
    exact h2.shutStar.swap.shutStar.swap
  refine ⟨w.heap.size + 1, [{ target := .collected w.heap.size, args := #[] }], W1, { target := .fn (.func 111) #[.pointer (some ⟨cl, 0, none⟩), .pointer (some ⟨cg, 0, none⟩)], args := #[.func (.yield (w.heap.size + 1)) #[] #[]] }, W1, 111,
    #[.func (.yield (w.heap.size + 1)) #[] #[]] ++ #[.pointer (some ⟨cl, 0, none⟩), .pointer (some ⟨cg, 0, none⟩)], W1, ?_, ?_, ?_, ?_, fun h => (by cases h), ?_⟩
  · rw [← hW1, hrec]; exact run_enterLoop_outer _ _ _ _ _
  · simp only [resolve, hg]
    simp [go_sem]
  · intro f' hf'; trivial
  · have eg := enters_of Try.func111 (by kernel_rfl) rfl
    simp [invoke, go_sem, eg]
  · refine (each1_any gp G deps src U (w.heap.size + 1) (n - 1) cg cl sv
      (fun pre => Star (Ob (w.heap.size + 1) (.loop (rec .ready none))) (Star (Ob w.heap.size (.deferred (some []))) (E pre)))
      (fun pre => Ex fun c : Code => Star (Ob (w.heap.size + 1) (.loop (rec .done (some c)))) (Star (Ob w.heap.size (.deferred (some []))) (Ec c pre)))
      H fr W1 hU hUl hsl hd16 hR ?_ hcl hsv hcg hgp hs2).mono ?_
    · intro pre x H1 fr1 W hl hrx hx hnd hpre hst
      have hst0 := each_open hst
      have hL : W.heap[w.heap.size + 1]? = some (.loop (rec .ready none)) := (hst0.pick 2 (by simp)).ob_heap
      have hy := run_yield (P := Try.prog) (args := #[idV x]) hL (by rw [hrec]; simp [hps])
      rw [hrec] at hy
      refine ⟨fn, _, assign, body, hy, roundIn_of_wpIn hfn (wpIn_mono (hbody _ pre x H1 _ W hl hrx hx hnd hpre hst0) ?_)⟩
      rintro e a1 W1 hq
      cases e with
      | normal =>
        obtain ⟨H2, l2, en1, hst1, hb⟩ := hq
        have hL1 : W1.heap[w.heap.size + 1]? = some (.loop (rec .ready none)) := (hst1.pick 2 (by simp)).ob_heap
        have hr1 := run_beginRound (P := Try.prog) hL1 (by rw [hrec])
        refine ⟨_, hr1, ?_⟩
        have hst2 : St H2 (G :: E pre :: Ob (w.heap.size + 1) (.loop { rec .ready none with state := .busy }) :: Ob w.heap.size (.deferred (some [])) :: fr1) (W1.putObj (w.heap.size + 1) (.loop { rec .ready none with state := .busy })) :=
          ((hst1.pick 2 (by simp)).ob_put (.loop { rec .ready none with state := .busy })).perm (List.perm_append_comm (l₁ := [Ob (w.heap.size + 1) (.loop { rec .ready none with state := .busy })]) (l₂ := [G, E pre]) |>.append_right (Ob w.heap.size (.deferred (some [])) :: fr1))
        have en2 := en1.putObj (w.heap.size + 1) (.loop { rec .ready none with state := .busy })
        refine wpIn_mono (hb _ _ hst2) ?_
        have fin : ∀ (jump : Option Code) (X : HA) (H3 : Hp) (W3 : World), St H3 (G :: X :: Ob (w.heap.size + 1) (.loop { rec .ready none with state := .busy }) :: Ob w.heap.size (.deferred (some [])) :: fr1) W3 →
            (Instr.endRound (w.heap.size + 1) jump).run Try.prog W3 = .ok (.bool jump.isNone) (W3.putObj (w.heap.size + 1) (.loop (rec (if jump.isNone then .ready else .done) jump))) ∧
            St H3 (G :: Star (Ob (w.heap.size + 1) (.loop (rec (if jump.isNone then .ready else .done) jump))) (Star (Ob w.heap.size (.deferred (some []))) X) :: fr1) (W3.putObj (w.heap.size + 1) (.loop (rec (if jump.isNone then .ready else .done) jump))) := fun jump X H3 W3 h3 => by
          have h4 := h3.pick 2 (by simp)
          have hr := run_endRound (P := Try.prog) jump h4.ob_heap
          rw [hrec] at hr ⊢
          exact ⟨hr, each_shut (((h4.ob_put _).perm (List.perm_append_comm (l₁ := [Ob (w.heap.size + 1) _]) (l₂ := [G, X]) |>.append_right (Ob w.heap.size (.deferred (some [])) :: fr1))))⟩
        rintro e a3 W3 hp
        cases e with
        | normal =>
          obtain ⟨H3, l3, en3, hst3⟩ := hp
          obtain ⟨hr, h4⟩ := fin none _ H3 W3 hst3
          exact ⟨_, _, hr, H3, Hp.le_trans l2 l3, (en2.trans en3).putObj _ _, .inl ⟨rfl, h4⟩⟩
        | ret =>
          obtain ⟨H3, l3, en3, hst3⟩ := hp
          obtain ⟨hr, h4⟩ := fin (some .ret) _ H3 W3 hst3
          exact ⟨_, _, hr, H3, Hp.le_trans l2 l3, (en2.trans en3).putObj _ _, .inr ⟨rfl, (St.shutEx Code.ret h4.swap).swap⟩⟩
        | exit id =>
          obtain ⟨H3, l3, en3, hst3⟩ := hp
          obtain ⟨hr, h4⟩ := fin (some (.exit id)) _ H3 W3 hst3
          exact ⟨_, _, hr, H3, Hp.le_trans l2 l3, (en2.trans en3).putObj _ _, .inr ⟨rfl, (St.shutEx (Code.exit id) h4.swap).swap⟩⟩
        | goto t => exact hp.elim
        | panic ch => exact hp.elim
        | outgrown => exact hp.elim
      | exit id => exact hq.elim
      | goto t => exact hq.elim
      | ret => exact hq.elim
      | panic ch => exact hq.elim
      | outgrown => exact hq.elim
    · rintro e W2 ⟨⟨v, rfl⟩, H', hl, en, (⟨xs, hnd, hall, hst⟩ | ⟨xs, hall, hst⟩)⟩
      · have h1 := hst.swap.openStar.swap.openStar
        have h2 : St H' (Ob (w.heap.size + 1) (.loop (rec .ready none)) :: Ob w.heap.size (.deferred (some [])) :: E xs :: G :: fr) W2 := h1.perm ((List.perm_append_comm (l₁ := [_, _]) (l₂ := [Ob (w.heap.size + 1) (.loop (rec .ready none))])) |>.append_right (G :: fr))
        have hr := run_endLoop (P := Try.prog) h2.ob_heap (by rw [hrec]; simp)
        rw [hrec] at hr
        refine ⟨none, _, hr, ?_⟩
        have h3 := (h2.ob_put (.loop { rec .ready none with state := .exhausted })).drop
        rw [hrec] at h3
        exact hdone xs _ H' fr _ hl hnd hall (h3.perm (List.Perm.cons _ (List.Perm.swap _ _ _))) ((en1.trans en).putObj _ _)
      · obtain ⟨c, hst⟩ := hst.swap.openEx
        have h1 := hst.openStar.swap.openStar
        have h2 : St H' (Ob (w.heap.size + 1) (.loop (rec .done (some c))) :: Ob w.heap.size (.deferred (some [])) :: Ec c xs :: G :: fr) W2 := h1.perm ((List.perm_append_comm (l₁ := [_, _]) (l₂ := [Ob (w.heap.size + 1) (.loop (rec .done (some c)))])) |>.append_right (G :: fr))
        have hr := run_endLoop (P := Try.prog) h2.ob_heap (by rw [hrec]; simp)
        rw [hrec] at hr
        refine ⟨some c, _, hr, ?_⟩
        have h3 := (h2.ob_put (.loop { rec .done (some c) with state := .exhausted })).drop
        rw [hrec] at h3
        exact hstop xs c _ H' _ hl hall (h3.perm (List.Perm.cons _ (List.Perm.swap _ _ _))) ((en1.trans en).putObj _ _)
end Go.Proofs.Ytelmhcbdpimaaaa
