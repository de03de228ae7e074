/- Slices that are made, copied into, and turned into strings: plain lemmas, of no program. -/
import Derived.Test.YtohgcghobidfpaaDoorOwn
import Derived.Laws.BytesArg
import Derived.Laws.MakeOwn
import Derived.Laws.IdiomCopy
set_option linter.unusedVariables false
set_option linter.unusedSimpArgs false
namespace Go.Cw
open Go.RowKit
def u8s (xs : List Int) : List Value := xs.map (Value.int .u8)
theorem u8s_len (xs : List Int) : (u8s xs).length = xs.length := by simp [u8s]
theorem u8s_one (xs : List Int) : ∀ u ∈ u8s xs, u.oneCell' = true := by
  intro u hu
  obtain ⟨x, _, rfl⟩ := List.mem_map.1 hu
  rfl
theorem u8s_get (xs : List Int) (k : Nat) (h : k < xs.length) : (u8s xs)[k]? = some (.int .u8 (xs.getD k 0)) := by simp [u8s, h]
theorem u8s_append (xs ys : List Int) : u8s (xs ++ ys) = u8s xs ++ u8s ys := by simp [u8s]
theorem u8s_take (xs : List Int) (k : Nat) : (u8s xs).take k = u8s (xs.take k) := by simp [u8s]
theorem u8s_drop (xs : List Int) (k : Nat) : (u8s xs).drop k = u8s (xs.drop k) := by simp [u8s]
theorem setCells_far (b : Nat) : ∀ (vs : List Value) (o : Nat) (w : World) (cur : Array Value) (e : TypeId), w.heap[b]? = some (.cells cur e (0, 0)) →
    ∀ cur' e', (w.setCells b o vs).heap[b]? = some (.cells cur' e' (0, 0)) → ∀ j, o + vs.length ≤ j → cur'[j]? = cur[j]?
  | [], o, w, cur, e, h, cur', e', h', j, hj => by
    have : (w.setCells b o []).heap[b]? = w.heap[b]? := rfl
    rw [this, h] at h'
    cases h'
    rfl
  | x :: r, o, w, cur, e, h, cur', e', h', j, hj => by
    have ih := setCells_far b r (o + 1) (w.setCell ⟨b, o, none⟩ x) (cur.setIfInBounds o x) e (heap_set w b o cur e x h) cur' e' h' j (by simp at hj; omega)
    rw [ih, Array.getElem?_setIfInBounds, if_neg (by simp at hj; omega)]
section
variable {P : Program} {H : Hp} {l : List HA} {w : World} {e : TypeId} {sz : Nat} {cs : List Value}
/-- copy into a row of one's own, from its element k on: m elements. -/
theorem St.copy_row {g off n c : Nat} (h : St H (Row e sz (.slice (some ⟨g, off, none⟩) n c) cs :: l) w) (t u ty : TypeId) (ht : P.underlying t = some (.slice e)) (hsz : (P.info? e).map (·.size) = some sz) (k m d c' M : Nat) (x : Value) (news : List Value) (o' : Nat)
    (ho : 0 < m → o' = off + k * sz) (hn : news.length = m * sz) (hk : (k + m) * sz ≤ cs.length) (hM : (Builtin.lenOf x).run P w = .ok M w) (hm : Nat.min M d = m) (hf : (Builtin.firstCells sz m x).run P w = .ok news.toArray w) (h1 : ∀ u ∈ news, u.oneCell' = true) :
    ∃ w', (Builtin.copy_ #[t, u] ty #[.slice (some ⟨g, o', none⟩) d c', x]).run P w = .ok (.int .i64 m) w' ∧ St H (Row e sz (.slice (some ⟨g, off, none⟩) n c) (cs.take (k * sz) ++ news ++ cs.drop ((k + m) * sz)) :: l) w' ∧ Env w w' := by
  rcases Nat.eq_zero_or_pos m with rfl | hm0
  · obtain rfl : news = [] := List.eq_nil_of_length_eq_zero (by simpa using hn)
    refine ⟨w, ?_, by simpa using h, Env.refl w⟩
    cases hq : P.info? e with
    | none => simp [hq] at hsz
    | some i =>
      have hi : i.size = sz := by simpa [hq] using hsz
      simp [Builtin.copy_, run_underlying ht, hM, hm, sizeOf, typeInfo, hq, hi, hf, storeCells, goInt]
  obtain rfl := ho hm0
  have hadd : (k + m) * sz = k * sz + m * sz := Nat.add_mul ..
  obtain ⟨S, ⟨S1, S2, hR, h2, hdj, hs⟩, hno⟩ := h.sep
  rcases hR with ⟨hv, _⟩ | ⟨g', off', n', cap, cur, hv, hl', hc', hM', hh, hs', hjj, hS⟩
  · cases hv
  · cases hv
    have hcl : cs.length ≤ c * sz := by rw [hl']; exact Nat.mul_le_mul_right _ hc'
    have hst := run_storeCells_cells (P := P) g (off + k * sz) news 0 w
      (fun j hj => by
        simp only [Nat.add_zero, World.cell?, hh]
        rw [if_neg (by simp)]
        simp
        omega)
      (fun j hj => by simp [World.frozen?, hh]) h1
    simp only [Nat.add_zero] at hst
    obtain ⟨cur', hh', hsz', hlow, hnew, hfar⟩ := setCells_heap g news (off + k * sz) w cur e hh (by omega)
    have hbey := setCells_far g news (off + k * sz) w cur e hh cur' e hh'
    refine ⟨w.setCells g (off + k * sz) news, ?_, ?_, setCells_env _ _ _ _⟩
    · cases hq : P.info? e with
      | none => simp [hq] at hsz
      | some i =>
        have hi : i.size = sz := by simpa [hq] using hsz
        simp [Builtin.copy_, run_underlying ht, hM, hm, sizeOf, typeInfo, hq, hi, hf, hst, goInt]
    · refine h.turn (setCells_env _ _ _ _).size (fun S hS => ?_)
      rcases hS with ⟨hv, _⟩ | ⟨g', off', n', cap', cur2, hv, _, _, _, hh2, _, _, hS⟩
      · cases hv
      · cases hv
        refine ⟨S, .inr ⟨g, off, n, c, cur', rfl, ?_, hc', hM', hh', by omega, fun j u hj => ?_, hS⟩, fun k hk => .inl hk, fun k _ hk => hfar k (fun e => hk ((hS k).2 e))⟩
        · simp only [List.length_append, List.length_take, List.length_drop]
          omega
        · have hlt : (cs.take (k * sz)).length = k * sz := by rw [List.length_take]; omega
          rw [List.append_assoc] at hj
          rcases Nat.lt_or_ge j (k * sz) with hj1 | hj1
          · rw [List.getElem?_append_left (by omega), List.getElem?_take_of_lt hj1] at hj
            rw [hlow (off + j) (by omega)]
            exact hjj j u hj
          · rw [List.getElem?_append_right (by omega), hlt] at hj
            rcases Nat.lt_or_ge (j - k * sz) news.length with hj2 | hj2
            · rw [List.getElem?_append_left hj2] at hj
              have := hnew _ u hj
              rwa [show off + k * sz + (j - k * sz) = off + j by omega] at this
            · rw [List.getElem?_append_right hj2, List.getElem?_drop, show (k + m) * sz + (j - k * sz - news.length) = j by omega] at hj
              rw [hbey (off + j) (by omega)]
              exact hjj j u hj
/-- string(b) of bytes that may be read. -/
theorem conv_rw {A : Option Addr} {n c : Nat} {xs : List Int} (h : Rw w 1 (.slice A n c) (u8s xs)) (src dst : TypeId) (hs : P.underlying src = some (.slice e)) (he : P.underlying e = some (.int .u8)) (hd : P.underlying dst = some .string) :
    (convert src dst (.slice A n c)).run P w = .ok (.string (strOfNums xs)) w := by
  obtain ⟨A', n', c', hv, hl, _, _, hc⟩ := h
  cases hv
  rw [u8s_len, Nat.mul_one] at hl
  rcases Nat.eq_zero_or_pos n with rfl | hn
  · obtain rfl : xs = [] := List.eq_nil_of_length_eq_zero hl
    rw [run_convert_bytes_string w src dst e _ 0 c hs he hd]
    cases A with
    | none => simp [Conv.bytesToString]; rfl
    | some a =>
      rw [run_bytesToString w a 0 c [] rfl]
      rfl
  · obtain ⟨b, off, rfl, hcc⟩ := hc hn
    exact run_convert_bytes_arg w src e hs he b off n c xs hl (fun i hi => hcc i _ (u8s_get xs i (by omega))) dst hd
end
end Go.Cw
