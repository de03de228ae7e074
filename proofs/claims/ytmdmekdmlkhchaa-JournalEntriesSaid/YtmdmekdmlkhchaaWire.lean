/- Numbers as digits of seven bits, eight bytes, texts, digests: what the packages wire and digest do, and the references. -/
import Derived.Test.YtmdmekdmlkhchaaBytes
import Derived.Test.YtmdmekdmlkhchaaFloat
import Derived.Test.YtmdmekdmlkhchaaJour
import Derived.Laws.BitsAllLaws
import Derived.Deep.RegionHeld3
set_option linter.unusedVariables false
set_option linter.unusedSimpArgs false
namespace Go.Cw
open Go.RowKit
section
variable {P : Program} {H : Hp} {l : List HA} {w : World} {e : TypeId} {sz : Nat} {cs : List Value}
/-- append(v, x...), v a slice that may be read, without room, and something to append: the new row is one's own. -/
theorem St.append_full {A : Option Addr} {n : Nat} (h : St H l w) (hr : Rw w sz (.slice A n n) cs) (t u ty : TypeId) (z : Value) (bytes : Nat) (ht : P.underlying t = some (.slice e)) (hu : (∃ d, P.underlying u = some (.slice d)) ∨ P.underlying u = some .string)
    (hinfo : (P.info? e).map (fun i => (i.zero, i.size, i.bytes)) = some (some z, sz, bytes)) (hz : z.cells.size = sz) (hsz : 0 < sz)
    {x : Value} {m : Nat} {news : List Value} (hx : News P w sz x m news) (hm0 : 0 < m) (hb : (cs.length + news.length) * bytes ≤ sz * 140737488355328) (hb0 : 0 < bytes) :
    ∃ v' w', (Builtin.append_ #[t, u] ty #[.slice A n n, x]).run P w = .ok v' w' ∧ St H (Row e sz v' (cs ++ news) :: l) w' ∧ Env w w' := by
  obtain ⟨i, hi, hz0, hz1, hz2⟩ := info_parts hinfo
  subst hz1
  subst hz2
  obtain ⟨A', n', c', hv, hl, hc, hM, hcc⟩ := hr
  cases hv
  have hnm : (n + m) * i.bytes ≤ 140737488355328 := by
    have h1 : (cs.length + news.length) = i.size * (n + m) := by rw [hl, hx.len, ← Nat.add_mul, Nat.mul_comm]
    rw [h1, Nat.mul_assoc] at hb
    exact Nat.le_of_mul_le_mul_left hb hsz
  have hsmall : n + m ≤ 140737488355328 := Nat.le_trans (Nat.le_mul_of_pos_right _ hb0) hnm
  have hlo := hx.lenOf w
  have hroom : ¬ (n + m ≤ n) := by omega
  have hge := grownCap_ge w (n + m) n e
  have hcm : grownCap w (n + m) n e ≤ maxLen := grownCap_le_maxLen w (n + m) n e (by simp only [maxLen]; omega)
  have hf := hx.first 1
  have hfit := growslice_fits (bytes := i.bytes) (show n < n + m by omega) hnm
  have h63' : ¬ (9223372036854775807 < ((n : Int) + (m : Int))) := by omega
  have h48' : ¬ (281474976710656 < Builtin.nextslicecap (n + m) n * i.bytes) := by omega
  have hfo : (Builtin.firstCells i.size n (.slice A n n)).run P w.drew = .ok cs.toArray w.drew := by
    rcases Nat.eq_zero_or_pos n with rfl | hn
    · obtain rfl : cs = [] := List.eq_nil_of_length_eq_zero (by simpa using hl)
      cases A with
      | none => simp [Builtin.firstCells]
      | some ad => exact run_firstCells_some (P := P) w.drew i.size 0 ad 0 0 [] (by simp) (by simp)
    · obtain ⟨b, off, rfl, hcell⟩ := hcc hn
      refine run_firstCells_some (P := P) w.drew i.size n _ n n cs hl (fun j u hj => ?_)
      rw [add_lit]
      simpa using hcell j u hj
  have hd1 : w.drewN 1 = w.drew := rfl
  rw [hd1] at hf
  refine ⟨.slice (some ⟨w.heap.size, 0, none⟩) (n + m) (grownCap w (n + m) n e), w.drew.alloc (.cells (cs.toArray ++ news.toArray ++ Builtin.zeroCells z.cells (grownCap w (n + m) n e - (n + m))) e), ?_, ?_, (Env.refl w).drew.alloc _⟩
  · rcases hu with ⟨d, hd⟩ | hd <;> simp [Builtin.append_, run_underlying ht, run_underlying hd, sizeOf, typeInfo, zeroValue, hi, hz0, hlo, hroom, h63', h48', Question.forced, hf, hfo, newRow, grownCap] <;> (congr 2; apply Array.ext'; simp)
  · refine (h.drew).new (by simp) (fun k => k = w.heap.size) (.inr ⟨w.heap.size, 0, n + m, grownCap w (n + m) n e, _, rfl, by rw [List.length_append, hl, hx.len, Nat.add_mul], hge, hcm, heap_alloc_new w.drew _, ?_, fun j u hj => ?_, fun _ => Iff.rfl⟩) (fun k hk => by simp; omega) (fun k hk => Below.heap_alloc _ _ k hk)
    · simp only [Array.size_append, List.size_toArray, size_zeroCells, hz, hl, hx.len, ← Nat.add_mul]
      rw [Nat.zero_add]
      exact Nat.mul_le_mul_right _ (by omega)
    · have hlt := (List.getElem?_eq_some_iff.1 hj).1
      rw [Nat.zero_add, Array.getElem?_append_left (by simpa using hlt)]
      simpa [List.getElem?_append] using hj
/-- .. as an arm of the walk. -/
theorem wpList_append_full {A : Option Addr} {n : Nat} {ops : Array Oper} {rest : List Oper} {o : Oper} {a : Act} {Q : Exit → Act → World → Prop} (hg : o.guard = none) (s y : Operand) (t u : TypeId)
    (hop : o.op = Op.call { callee := Callee.builtin Builtin.append, args := #[s, y], argTypes := #[t, u] }) (ht : P.underlying t = some (.slice e)) (hu : (∃ d, P.underlying u = some (.slice d)) ∨ P.underlying u = some .string)
    (z : Value) (bytes : Nat) (hinfo : (P.info? e).map (fun i => (i.zero, i.size, i.bytes)) = some (some z, sz, bytes)) (hz : z.cells.size = sz) (hsz : 0 < sz) (hb0 : 0 < bytes)
    {x : Value} {m : Nat} {news : List Value} (hs : a.eval s = .slice A n n) (hy : a.eval y = x)
    (h : St H l w) (hr : Rw w sz (.slice A n n) cs) (hx : News P w sz x m news) (hm0 : 0 < m) (hb : (cs.length + news.length) * bytes ≤ sz * 140737488355328)
    (k : ∀ v' w', St H (Row e sz v' (cs ++ news) :: l) w' → Env w w' → wpList P ops Q rest (a.put o.dst v') w') : wpList P ops Q (o :: rest) a w := by
  refine wpList_plain hg fun K hK' => ?_
  obtain ⟨v', w', hrun, r1, r2⟩ := h.append_full hr t u o.type z bytes ht hu hinfo hz hsz hx hm0 hb hb0
  unfold Oper.wp
  simp [execOp, hop, resolve, invoke, builtin, hs, hy, hrun, Result.andThen]
  exact hK' _ _ (k v' w' r1 r2)
end
end Go.Cw
namespace Go.Proofs.Ytmdmekdmlkhchaa
open Go.RowKit Go.Cw Go.Jn
theorem wU8 : (Try.prog.info? 5).map (fun i => (i.zero, i.size, i.bytes)) = some (some (.int .u8 0), 1, 1) := by kernel_rfl
theorem or_nat : ∀ m : Fin 256, m.val ||| 128 = m.val % 128 + 128 := by decide +kernel
theorem or7 (q : Nat) : bits .or .u8 ((q : Int) % 256) 128 = ((q % 128 + 128 : Nat) : Int) := by
  rw [u8_or _ _ (by omega) (by omega) (by omega) (by omega)]
  have := or_nat ⟨q % 256, by omega⟩
  simp only at this
  have h2 : ((q : Int) % 256).toNat = q % 256 := by omega
  rw [h2, show (128 : Int).toNat = 128 from rfl, this]
  omega
set_option maxRecDepth 100000 in
theorem room_any (A : Option Addr) (n c : Nat) (xs : List Int) (w : World) (h : Rw w 1 (.slice A n c) (u8s xs)) :
    Calls Try.prog 148 #[.slice A n c] w fun e w' => e = .returned (.slice A n n) ∧ w = w' := by
  obtain ⟨A', n', c', hv, hl, hc, hM, hcc⟩ := h
  cases hv
  have h1 : (n : Int) ≤ (c : Int) := by omega
  have h0 : (0 : Int) ≤ (n : Int) := by omega
  rcases Nat.eq_zero_or_pos n with rfl | hn
  · cases A with
    | none =>
      go_enter Try.func148, Try.ntmps148
      go_wp2_with fail
      go_ret
      exact ⟨rfl, rfl⟩
    | some a =>
      go_enter Try.func148, Try.ntmps148
      go_wp2_with fail
      go_ret
      exact ⟨rfl, rfl⟩
  · obtain ⟨b, off, rfl, _⟩ := hcc hn
    have hn0 : ¬ n = 0 := by omega
    go_enter Try.func148, Try.ntmps148
    go_wp2_with fail
    go_ret
    exact ⟨rfl, rfl⟩
set_option maxRecDepth 100000 in
set_option maxHeartbeats 1600000 in
theorem refBytes_any (n : Nat) (hn : n < 18446744073709551616) (w : World) :
    Calls Try.prog 99 #[.int .u64 (n : Int)] w (ResE (snap w) [] w (fun v => v) (fun v => [Row 5 1 v (u8s (enc n))])) := by
  have h1 := (St.start w).row_lit 5 1 0 #[] rfl (by decide)
  have en1 := (Env.refl w).alloc (.cells #[] 5)
  have h10 := enc_len10 hn
  go_enter Try.func99, Try.ntmps99
  go_wp2_with fail
  go_loopw [0, 3] (fun s0 s3 wr => ∃ (m : Nat) (pre : List Int), s0 = .int .u64 (m : Int) ∧ m ≤ n ∧ Hid (pre ++ enc m = enc n) ∧ St (snap w) [Row 5 1 s3 (u8s pre)] wr ∧ Env w wr) (fun s0 _ _ => (intOf s0).toNat)
  case atStart => exact ⟨n, [], rfl, Nat.le_refl _, Lib.hid rfl, h1, en1⟩
  case round =>
    clear h1 en1
    obtain ⟨m, pre, rfl, hm, hpre, hst, hen⟩ := hrel
    have hlen : pre.length ≤ 10 := by have := congrArg List.length hpre.out; rw [List.length_append] at this; omega
    by_cases h128 : 128 ≤ m
    · have hI : (128 : Int) ≤ (m : Int) := by omega
      go_wp2_with (at_builtin; refine wpList_append rfl (.tmp 7) (.tmp 12) 57 57 rfl Try.underlying57 (.inl ⟨_, Try.underlying57⟩) (.int .u8 0) 1 wU8 rfl (by decide) (by decide) rfl rfl (hst.alloc _) (News.newAt _ _ 1 _ _ (by simp) rfl (by simp [Value.oneCell'])) ?apB1 ?apK1)
      case apB1 => first | omega | (simp; omega) | (simp [u8s_len]; omega) | skip
      intro v' w4 h4 en4
      go_wp2_with fail
      go_roundw
      case rel => exact ⟨m / 128, pre ++ [((m % 128 + 128 : Nat) : Int)], by go_num, by omega, Lib.hid (by rw [← hpre.out, enc_ge h128, List.append_assoc]; rfl), by rw [u8s_append]; exact h4, (hen.alloc _).trans en4⟩
      case measure => simp [intOf]; omega
    · have hI : ¬ (128 : Int) ≤ (m : Int) := by omega
      have h256 : (m : Int) % 256 = (m : Int) := by omega
      go_wp2_with (at_builtin; refine wpList_append rfl (.tmp 16) (.tmp 19) 57 57 rfl Try.underlying57 (.inl ⟨_, Try.underlying57⟩) (.int .u8 0) 1 wU8 rfl (by decide) (by decide) rfl rfl (hst.alloc _) (News.newAt _ _ 1 _ _ (by simp) rfl (by simp [Value.oneCell'])) ?apB2 ?apK2)
      case apB2 => first | omega | (simp; omega) | (simp [u8s_len]; omega) | skip
      intro v' w4 h4 en4
      go_wp2_with fail
      go_ret
      have h5 : u8s (enc n) = u8s pre ++ [.int .u8 (m : Int)] := by rw [← hpre.out, u8s_append, enc_lt (by omega)]; rfl
      exact ⟨v', rfl, by rw [h5]; exact h4, (hen.alloc _).trans en4⟩
set_option maxRecDepth 100000 in
set_option maxHeartbeats 3200000 in
theorem put_any (n : Nat) (hn : n < 18446744073709551616) (A : Option Addr) (k c : Nat) (xs : List Int) (w : World) (hx : Rw w 1 (.slice A k c) (u8s xs)) (hxl : xs.length + 20 ≤ 140737488355328) :
    Calls Try.prog 130 #[.slice A k c, .int .u64 (n : Int)] w (ResE (snap w) [] w (fun v => v) (fun v => [Row 5 1 v (u8s (xs ++ enc n))])) := by
  have h10 := enc_len10 hn
  have hrw : ∀ {l : List HA} {wr : World}, St (snap w) l wr → Rw wr 1 (.slice A k k) (u8s xs) := fun h => by
    obtain ⟨A', n', c', hv, hl, hc, hM, hcc⟩ := hx.rd.rw h
    cases hv
    exact ⟨A, k, k, rfl, hl, Nat.le_refl _, by simp only [maxLen] at hM ⊢; omega, hcc⟩
  go_enter Try.func130, Try.ntmps130
  go_wp2_with fail
  go_step3
  go_wp2_with fail
  refine (room_any A k c xs w hx).mono ?_
  rintro e w1 ⟨rfl, rfl⟩
  go_wp2_with fail
  go_step3
  go_wp2_with fail
  go_loopg [0, 1] n (fun q s0 s1 wr => ∃ (pre : List Int), s1 = .int .u64 (q : Int) ∧ q < 18446744073709551616 ∧ Hid (pre ++ enc q = enc n) ∧ Env w wr ∧ ((s0 = .slice A k k ∧ pre = [] ∧ St (snap w) [] wr) ∨ St (snap w) [Row 5 1 s0 (u8s (xs ++ pre))] wr))
  case atStart => exact ⟨[], rfl, hn, Lib.hid rfl, Env.refl w, .inl ⟨rfl, rfl, St.start w⟩⟩
  case round =>
    obtain ⟨pre, rfl, hq, hpre, hen, hst⟩ := hrel
    have hlen : pre.length ≤ 10 := by have := congrArg List.length hpre.out; rw [List.length_append] at this; omega
    rcases hst with ⟨rfl, rfl, hst⟩ | hst
    · by_cases h128 : 128 ≤ gk
      · have hI : ¬ (gk : Int) < 128 := by omega
        have hor := or7 gk
        go_wp2_with (at_builtin; refine wpList_append_full rfl (.tmp 9) (.tmp 13) 57 57 rfl Try.underlying57 (.inl ⟨_, Try.underlying57⟩) (.int .u8 0) 1 wU8 rfl (by decide) (by decide) rfl rfl (hst.alloc _) ((hrw hst).alloc _) (News.newAt _ _ 1 _ _ (by simp) rfl (by simp [Value.oneCell'])) (by decide) ?apB3 ?apK3)
        case apB3 => first | omega | (simp [u8s_len]; omega) | skip
        intro v' w4 h4 en4
        clear hor
        go_wp2_with fail
        go_roundg (gk / 128)
        case measure => omega
        case rel => exact ⟨[((gk % 128 + 128 : Nat) : Int)], by go_num, by omega, Lib.hid (by rw [← hpre.out, enc_ge h128]; rfl), (hen.alloc _).trans en4, .inr (by rw [u8s_append]; exact h4)⟩
      · have hI : (gk : Int) < 128 := by omega
        have h256 : (gk : Int) % 256 = (gk : Int) := by omega
        go_wp2_with (at_builtin; refine wpList_append_full rfl (.tmp 17) (.tmp 20) 57 57 rfl Try.underlying57 (.inl ⟨_, Try.underlying57⟩) (.int .u8 0) 1 wU8 rfl (by decide) (by decide) rfl rfl (hst.alloc _) ((hrw hst).alloc _) (News.newAt _ _ 1 _ _ (by simp) rfl (by simp [Value.oneCell'])) (by decide) ?apB4 ?apK4)
        case apB4 => first | omega | (simp [u8s_len]; omega) | skip
        intro v' w4 h4 en4
        go_wp2_with fail
        go_ret
        have h5 : u8s (xs ++ enc n) = u8s xs ++ [.int .u8 (gk : Int)] := by rw [← hpre.out, u8s_append, enc_lt (by omega)]; rfl
        exact ⟨v', rfl, by rw [h5]; exact h4, (hen.alloc _).trans en4⟩
    · by_cases h128 : 128 ≤ gk
      · have hI : ¬ (gk : Int) < 128 := by omega
        have hor := or7 gk
        go_wp2_with (at_builtin; refine wpList_append rfl (.tmp 9) (.tmp 13) 57 57 rfl Try.underlying57 (.inl ⟨_, Try.underlying57⟩) (.int .u8 0) 1 wU8 rfl (by decide) (by decide) rfl rfl (hst.alloc _) (News.newAt _ _ 1 _ _ (by simp) rfl (by simp [Value.oneCell'])) ?apB5 ?apK5)
        case apB5 => first | omega | (simp; omega) | (simp [u8s_len]; omega) | skip
        intro v' w4 h4 en4
        clear hor
        go_wp2_with fail
        go_roundg (gk / 128)
        case measure => omega
        case rel => exact ⟨pre ++ [((gk % 128 + 128 : Nat) : Int)], by go_num, by omega, Lib.hid (by rw [← hpre.out, enc_ge h128, List.append_assoc]; rfl), (hen.alloc _).trans en4, .inr (by rw [← List.append_assoc, u8s_append (xs ++ pre)]; exact h4)⟩
      · have hI : (gk : Int) < 128 := by omega
        have h256 : (gk : Int) % 256 = (gk : Int) := by omega
        go_wp2_with (at_builtin; refine wpList_append rfl (.tmp 17) (.tmp 20) 57 57 rfl Try.underlying57 (.inl ⟨_, Try.underlying57⟩) (.int .u8 0) 1 wU8 rfl (by decide) (by decide) rfl rfl (hst.alloc _) (News.newAt _ _ 1 _ _ (by simp) rfl (by simp [Value.oneCell'])) ?apB6 ?apK6)
        case apB6 => first | omega | (simp; omega) | (simp [u8s_len]; omega) | skip
        intro v' w4 h4 en4
        go_wp2_with fail
        go_ret
        have h5 : u8s (xs ++ enc n) = u8s (xs ++ pre) ++ [.int .u8 (gk : Int)] := by rw [← hpre.out, ← List.append_assoc, u8s_append (xs ++ pre), enc_lt (by omega)]; rfl
        exact ⟨v', rfl, by rw [h5]; exact h4, (hen.alloc _).trans en4⟩
end Go.Proofs.Ytmdmekdmlkhchaa
