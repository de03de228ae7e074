/- A journal is told as bytes. -/
import Derived.Test.YtmdmekdmlkhchaaJournal2
set_option linter.unusedVariables false
set_option linter.unusedSimpArgs false
namespace Go.Proofs.Ytmdmekdmlkhchaa
open Go.RowKit Go.Cw Go.Jn
theorem ents_len (l : List JEnt) : (ents l).length = l.length := by simp [ents]
theorem flat_take_len {l : List Ent} (h : ∀ x ∈ l, Fit x) (k : Nat) : (flat (l.take k)).length ≤ l.length * 4107 := by
  have := (flatJ_len (l := l.take k) (fun x hx => h x (List.mem_of_mem_take hx))).2
  exact Nat.le_trans this (Nat.mul_le_mul_right _ (by rw [List.length_take]; omega))
set_option maxRecDepth 100000 in
theorem jBytes_nil (w : World) : Calls Try.prog 42 #[.pointer none] w fun e w' => e = .returned (.slice none 0 0) ∧ w = w' := by
  go_enter Try.func42, Try.ntmps42
  go_wp2_with fail
  go_ret
  exact ⟨rfl, rfl⟩
set_option maxRecDepth 100000 in
set_option maxHeartbeats 3200000 in
theorem jBytes (p : Nat) (l : List JEnt) (H : Hp) (hg : EGood H l) (hl : l.length ≤ 65536) (fr : List HA) (w : World) (h : St H (JA p l :: fr) w) :
    Calls Try.prog 42 #[jP p] w (ResE (snap w) [] w (fun v => v) (fun v => [Row 5 1 v (u8s (flat (ents l)))])) := by
  obtain ⟨A, c, h1, hn, hc⟩ := jOpen h
  have c0 := h1.blk_cell 0
  have cl := h1.blk_lt
  have hrow := (h1.swap.row_rw (by decide)).rd
  have hels : ∀ x ∈ l, Rd (snap w) 1 x.2.2.1 (u8s x.2.2.2) ∧ Fit (ent x) := fun x hx => ⟨((hg x hx).1.rw h).rd, (hg x hx).2⟩
  have hfit := hg.good
  have hst0 := (St.start w).row_nil 5 1
  clear h1 hg h
  go_enter Try.func42, Try.ntmps42
  go_wp2_with fail
  go_loopw [3, 13] (fun s3 s13 wr => ∃ k : Nat, k ≤ l.length ∧ s13 = .int .i64 (k : Int) ∧ St (snap w) [Row 5 1 s3 (u8s (flat ((ents l).take k)))] wr ∧ Env w wr) (fun _ s13 _ => l.length - (intOf s13).toNat)
  case atStart => exact ⟨0, by omega, rfl, hst0, Env.refl w⟩
  case round =>
    clear c0 cl hst0
    obtain ⟨k, hk, rfl, hst, hen⟩ := hrel
    by_cases hlt : k < l.length
    · have hmem := hels _ (List.getElem_mem hlt)
      obtain ⟨b, off, rfl, hcells⟩ := hrow.cells hst (by omega)
      have q0 := hcells _ _ (jecs_get l k hlt).1
      have q1 := hcells _ _ (jecs_get l k hlt).2.1
      have q2 := hcells _ _ (jecs_get l k hlt).2.2
      have hsn : Hid (flat ((ents l).take (k + 1)) = flat ((ents l).take k) ++ eb (ent l[k])) := Lib.hid (by
        rw [List.take_succ_eq_append_getElem (by rw [ents_len]; exact hlt), flat_app]
        simp [ents, flat])
      have hfl := flat_take_len hfit k
      rw [ents_len] at hfl
      rw [← Nat.add_assoc] at q1 q2
      clear hcells hels
      obtain ⟨⟨kk, n, bv, xs⟩, HX⟩ : ∃ x, Hid (x = l[k]) := ⟨_, Lib.hid rfl⟩
      rw [← HX.out] at q0 q1 q2 hmem hsn
      obtain ⟨hrd, hfe⟩ := hmem
      simp only at hrd q0 q1 q2
      replace hfe : Fit (kk, n, xs) := hfe
      obtain ⟨bA, bn, bc, rfl, _⟩ := hrd.form
      obtain ⟨sA, sn, sc, rfl, _⟩ := hst.row_form
      have hst1 := hst.alloc (.cells #[.int .i64 kk, .int .i64 n, .slice bA bn bc] 140)
      have en1 := hen.alloc (.cells #[.int .i64 kk, .int .i64 n, .slice bA bn bc] 140)
      go_wp2_with fail
      refine (ebytes_any kk n bA bn bc xs hfe _ (hrd.rw hst1)).mono ?_
      rintro e w2 hq
      obtain ⟨v2, rfl, k2, en2⟩ := ResE.lift hst1 hq
      replace en2 := en1.trans en2
      clear hq hst1 en1 q0 q1 q2
      obtain ⟨hb1, hb2, hb3⟩ := inb_good hfe
      obtain ⟨A2, n2, c2, rfl, _⟩ := k2.row_form
      go_wp2_with fail
      refine (seal_any A2 n2 c2 _ hb1 _ (k2.row_rw (by decide)) (by omega)).mono ?_
      rintro e w3 hq
      obtain ⟨v3, rfl, k3, en3⟩ := ResE.lift k2 hq
      replace en3 := en2.trans en3
      clear hq k2 en2
      obtain ⟨A3, n3, c3, rfl, _⟩ := k3.row_form
      have hcv := conv_rw (P := Try.prog) (k3.row_rw (by decide)) 57 9 Try.underlying57 Try.underlying5 Try.underlying9
      have hbs : Byt (sld (inb (kk, n, xs))) := hb1.app (big_byte _)
      have hsl := sld_len (inb (kk, n, xs))
      have k4 := k3.drop.drop
      go_wp2_with fail
      refine (putText_any sA sn sc _ _ hbs _ ((k3.pick 2 (by simp)).row_rw (by decide)) (by rw [hsl]; omega)).mono ?_
      rintro e w5 hq
      obtain ⟨v5, rfl, k5, en5⟩ := ResE.lift (k3.drop.drop.drop) hq
      replace en5 := en3.trans en5
      go_wp2_with fail
      go_roundw
      case rel => exact ⟨k + 1, by omega, by go_num, by rw [hsn.out]; exact k5, en5⟩
      case measure => simp [intOf]; omega
    · obtain rfl : k = l.length := by omega
      rw [List.take_of_length_le (by rw [ents_len]; omega)] at hst
      go_wp2_with fail
      go_ret
      exact ⟨_, rfl, hst, hen⟩
end Go.Proofs.Ytmdmekdmlkhchaa
