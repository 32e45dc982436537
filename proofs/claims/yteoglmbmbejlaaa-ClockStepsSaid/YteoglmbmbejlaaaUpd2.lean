/- The clock's Update, walked in each of its states. -/
import Derived.Test.YteoglmbmbejlaaaFns
namespace Go.Proofs.Yteoglmbmbejlaaa
open Go.RowKit
set_option linter.unusedVariables false
set_option linter.unusedSimpArgs false


set_option maxHeartbeats 4000000 in
theorem upd_2_0 (g : Nat) (c : CS) (off now : Int) (w : World) (h : c.at w g) (ht : isTime now = true) (hs : ¬ now < c.si) (o1 : -9223372036854775808 ≤ off) (o2 : off ≤ 9223372036854775807) (hp : ¬ 0 < c.pa) (s0 : 0 ≤ c.si) (so0 : 0 ≤ c.so) (hs' : c.s = 2) :
    Calls Try.prog 10 #[.pointer (some ⟨g, 0, none⟩), .int .i64 off, .int .i64 now] w fun e w' =>
      e = .returned (.tuple #[.int .i64 (c.upd off now).1, .int .i64 (c.upd off now).2.1]) ∧ (c.upd off now).2.2.at w' g ∧ Stp [g] w w' := by
  obtain ⟨c0, c1, c2, c3, c4, c5⟩ := cells_of h
  obtain ⟨a1, a2⟩ := abs_pos off o2 o1
  obtain ⟨t1, t2⟩ := isTime_true ht
  have H := Lib.hid h
  clear h
  have hp' := hp
  have hpd : decide (0 < c.pa) = false := decide_eq_false hp
  clear hp
  rw [hs'] at c3
  by_cases hg : c.st < absS off
  · by_cases hl : now - c.si < c.so
    · skip
      have e : c.upd off now = (0, 0, c) := by unfold CS.upd; simp [ht, hs, hp', hs', hg, hl]
      have hld : decide (c.so ≤ now - c.si) = false := decide_eq_false (by omega)
      rw [e]
      clear e hs' hp'
      go_enter Try.func10, Try.ntmps10
      go_wp2
      refine wp_scope_jumpTo 2 ?_
      generalize hQ : jumpTo _ _ _ 2 = QQ
      have HQ := Lib.hid hQ
      clear hQ
      go_wp2_with (first | (go_at_call 16; refine (none_ptr _ _ (by assumption)).mono ?_; rintro e w' ⟨rfl, rfl⟩) | (go_at_call 17; refine (time_any _ _).mono ?_; rintro e w' ⟨rfl, rfl⟩) | (go_quiet (first | (go_at_call 18; exact Calls.quiet_of_same (abs_any _ _ o1 o2)) | (go_at_call 18; exact quiet_add_same (abs_any _ _ o1 o2)))) | (go_at_call 19; refine (comes_any g c _ _ _ (by exact H.out)).mono ?_; rintro e w' ⟨rfl, hat, hst⟩))
      all_goals (try go_step3)
      all_goals (try simp only [Exit.then, Exit.inBlock])
      all_goals rw [← HQ.out]
      all_goals refine ⟨_, rfl, ?_⟩
      generalize hR : jumpTo _ _ _ 1 = RR
      have HR := Lib.hid hR
      clear hR
      go_wp2_with (first | (go_at_call 16; refine (none_ptr _ _ (by assumption)).mono ?_; rintro e w' ⟨rfl, rfl⟩) | (go_at_call 17; refine (time_any _ _).mono ?_; rintro e w' ⟨rfl, rfl⟩) | (go_quiet (first | (go_at_call 18; exact Calls.quiet_of_same (abs_any _ _ o1 o2)) | (go_at_call 18; exact quiet_add_same (abs_any _ _ o1 o2)))) | (go_at_call 19; refine (comes_any g c _ _ _ (by exact H.out)).mono ?_; rintro e w' ⟨rfl, hat, hst⟩))
      rw [← HR.out]
      all_goals simp only [jumpTo]
      all_goals go_ret2
      exact ⟨rfl, H.out, (Stp.refl _ _).drewN _⟩
    · skip
      have e : c.upd off now = (2, 0, c.comes 4 now) := by unfold CS.upd; simp [ht, hs, hp', hs', hg, hl]
      have hld : decide (c.so ≤ now - c.si) = true := decide_eq_true (by omega)
      rw [e]
      clear e hs' hp'
      go_enter Try.func10, Try.ntmps10
      go_wp2
      refine wp_scope_jumpTo 2 ?_
      generalize hQ : jumpTo _ _ _ 2 = QQ
      have HQ := Lib.hid hQ
      clear hQ
      go_wp2_with (first | (go_at_call 16; refine (none_ptr _ _ (by assumption)).mono ?_; rintro e w' ⟨rfl, rfl⟩) | (go_at_call 17; refine (time_any _ _).mono ?_; rintro e w' ⟨rfl, rfl⟩) | (go_quiet (first | (go_at_call 18; exact Calls.quiet_of_same (abs_any _ _ o1 o2)) | (go_at_call 18; exact quiet_add_same (abs_any _ _ o1 o2)))) | (go_at_call 19; refine (comes_any g c _ _ _ (by exact H.out)).mono ?_; rintro e w' ⟨rfl, hat, hst⟩))
      all_goals (try go_step3)
      all_goals (try simp only [Exit.then, Exit.inBlock])
      all_goals rw [← HQ.out]
      all_goals refine ⟨_, rfl, ?_⟩
      generalize hR : jumpTo _ _ _ 1 = RR
      have HR := Lib.hid hR
      clear hR
      go_wp2_with (first | (go_at_call 16; refine (none_ptr _ _ (by assumption)).mono ?_; rintro e w' ⟨rfl, rfl⟩) | (go_at_call 17; refine (time_any _ _).mono ?_; rintro e w' ⟨rfl, rfl⟩) | (go_quiet (first | (go_at_call 18; exact Calls.quiet_of_same (abs_any _ _ o1 o2)) | (go_at_call 18; exact quiet_add_same (abs_any _ _ o1 o2)))) | (go_at_call 19; refine (comes_any g c _ _ _ (by exact H.out)).mono ?_; rintro e w' ⟨rfl, hat, hst⟩))
      go_step3
      go_wp2_with (first | (go_at_call 16; refine (none_ptr _ _ (by assumption)).mono ?_; rintro e w' ⟨rfl, rfl⟩) | (go_at_call 17; refine (time_any _ _).mono ?_; rintro e w' ⟨rfl, rfl⟩) | (go_quiet (first | (go_at_call 18; exact Calls.quiet_of_same (abs_any _ _ o1 o2)) | (go_at_call 18; exact quiet_add_same (abs_any _ _ o1 o2)))) | (go_at_call 19; refine (comes_any g c _ _ _ (by exact H.out)).mono ?_; rintro e w' ⟨rfl, hat, hst⟩))
      rw [← HR.out]
      all_goals simp only [jumpTo]
      all_goals go_ret2
      exact ⟨rfl, hat, hst.of_drewN⟩
  · by_cases hl : now - c.si < c.so
    · skip
      have e : c.upd off now = (1, 0, c.comes 4 now) := by unfold CS.upd; simp [ht, hs, hp', hs', hg, hl]
      have hld : decide (c.so ≤ now - c.si) = false := decide_eq_false (by omega)
      rw [e]
      clear e hs' hp'
      go_enter Try.func10, Try.ntmps10
      go_wp2
      refine wp_scope_jumpTo 2 ?_
      generalize hQ : jumpTo _ _ _ 2 = QQ
      have HQ := Lib.hid hQ
      clear hQ
      go_wp2_with (first | (go_at_call 16; refine (none_ptr _ _ (by assumption)).mono ?_; rintro e w' ⟨rfl, rfl⟩) | (go_at_call 17; refine (time_any _ _).mono ?_; rintro e w' ⟨rfl, rfl⟩) | (go_quiet (first | (go_at_call 18; exact Calls.quiet_of_same (abs_any _ _ o1 o2)) | (go_at_call 18; exact quiet_add_same (abs_any _ _ o1 o2)))) | (go_at_call 19; refine (comes_any g c _ _ _ (by exact H.out)).mono ?_; rintro e w' ⟨rfl, hat, hst⟩))
      all_goals (try go_step3)
      all_goals (try simp only [Exit.then, Exit.inBlock])
      all_goals rw [← HQ.out]
      all_goals refine ⟨_, rfl, ?_⟩
      generalize hR : jumpTo _ _ _ 1 = RR
      have HR := Lib.hid hR
      clear hR
      go_wp2_with (first | (go_at_call 16; refine (none_ptr _ _ (by assumption)).mono ?_; rintro e w' ⟨rfl, rfl⟩) | (go_at_call 17; refine (time_any _ _).mono ?_; rintro e w' ⟨rfl, rfl⟩) | (go_quiet (first | (go_at_call 18; exact Calls.quiet_of_same (abs_any _ _ o1 o2)) | (go_at_call 18; exact quiet_add_same (abs_any _ _ o1 o2)))) | (go_at_call 19; refine (comes_any g c _ _ _ (by exact H.out)).mono ?_; rintro e w' ⟨rfl, hat, hst⟩))
      rw [← HR.out]
      all_goals simp only [jumpTo]
      all_goals go_ret2
      exact ⟨rfl, hat, hst.of_drewN⟩
    · skip
      have e : c.upd off now = (1, 0, c.comes 4 now) := by unfold CS.upd; simp [ht, hs, hp', hs', hg, hl]
      have hld : decide (c.so ≤ now - c.si) = true := decide_eq_true (by omega)
      rw [e]
      clear e hs' hp'
      go_enter Try.func10, Try.ntmps10
      go_wp2
      refine wp_scope_jumpTo 2 ?_
      generalize hQ : jumpTo _ _ _ 2 = QQ
      have HQ := Lib.hid hQ
      clear hQ
      go_wp2_with (first | (go_at_call 16; refine (none_ptr _ _ (by assumption)).mono ?_; rintro e w' ⟨rfl, rfl⟩) | (go_at_call 17; refine (time_any _ _).mono ?_; rintro e w' ⟨rfl, rfl⟩) | (go_quiet (first | (go_at_call 18; exact Calls.quiet_of_same (abs_any _ _ o1 o2)) | (go_at_call 18; exact quiet_add_same (abs_any _ _ o1 o2)))) | (go_at_call 19; refine (comes_any g c _ _ _ (by exact H.out)).mono ?_; rintro e w' ⟨rfl, hat, hst⟩))
      all_goals (try go_step3)
      all_goals (try simp only [Exit.then, Exit.inBlock])
      all_goals rw [← HQ.out]
      all_goals refine ⟨_, rfl, ?_⟩
      generalize hR : jumpTo _ _ _ 1 = RR
      have HR := Lib.hid hR
      clear hR
      go_wp2_with (first | (go_at_call 16; refine (none_ptr _ _ (by assumption)).mono ?_; rintro e w' ⟨rfl, rfl⟩) | (go_at_call 17; refine (time_any _ _).mono ?_; rintro e w' ⟨rfl, rfl⟩) | (go_quiet (first | (go_at_call 18; exact Calls.quiet_of_same (abs_any _ _ o1 o2)) | (go_at_call 18; exact quiet_add_same (abs_any _ _ o1 o2)))) | (go_at_call 19; refine (comes_any g c _ _ _ (by exact H.out)).mono ?_; rintro e w' ⟨rfl, hat, hst⟩))
      rw [← HR.out]
      all_goals simp only [jumpTo]
      all_goals go_ret2
      exact ⟨rfl, hat, hst.of_drewN⟩

set_option maxHeartbeats 4000000 in
theorem upd_2_1 (g : Nat) (c : CS) (off now : Int) (w : World) (h : c.at w g) (ht : isTime now = true) (hs : ¬ now < c.si) (o1 : -9223372036854775808 ≤ off) (o2 : off ≤ 9223372036854775807) (hp : 0 < c.pa ∧ ¬ c.pa < absS off) (s0 : 0 ≤ c.si) (so0 : 0 ≤ c.so) (hs' : c.s = 2) :
    Calls Try.prog 10 #[.pointer (some ⟨g, 0, none⟩), .int .i64 off, .int .i64 now] w fun e w' =>
      e = .returned (.tuple #[.int .i64 (c.upd off now).1, .int .i64 (c.upd off now).2.1]) ∧ (c.upd off now).2.2.at w' g ∧ Stp [g] w w' := by
  obtain ⟨c0, c1, c2, c3, c4, c5⟩ := cells_of h
  obtain ⟨a1, a2⟩ := abs_pos off o2 o1
  obtain ⟨t1, t2⟩ := isTime_true ht
  have H := Lib.hid h
  clear h
  have hp' : ¬ c.pa < absS off := hp.2
  obtain ⟨hp1, hp2⟩ := hp
  rw [hs'] at c3
  by_cases hg : c.st < absS off
  · by_cases hl : now - c.si < c.so
    · skip
      have e : c.upd off now = (0, 0, c) := by unfold CS.upd; simp [ht, hs, hp', hs', hg, hl]
      have hld : decide (c.so ≤ now - c.si) = false := decide_eq_false (by omega)
      rw [e]
      clear e hs' hp'
      go_enter Try.func10, Try.ntmps10
      go_wp2
      refine wp_scope_jumpTo 2 ?_
      generalize hQ : jumpTo _ _ _ 2 = QQ
      have HQ := Lib.hid hQ
      clear hQ
      go_wp2_with (first | (go_at_call 16; refine (none_ptr _ _ (by assumption)).mono ?_; rintro e w' ⟨rfl, rfl⟩) | (go_at_call 17; refine (time_any _ _).mono ?_; rintro e w' ⟨rfl, rfl⟩) | (go_quiet (first | (go_at_call 18; exact Calls.quiet_of_same (abs_any _ _ o1 o2)) | (go_at_call 18; exact quiet_add_same (abs_any _ _ o1 o2)))) | (go_at_call 19; refine (comes_any g c _ _ _ (by exact H.out)).mono ?_; rintro e w' ⟨rfl, hat, hst⟩))
      all_goals (try go_step3)
      all_goals (try simp only [Exit.then, Exit.inBlock])
      all_goals rw [← HQ.out]
      all_goals refine ⟨_, rfl, ?_⟩
      generalize hR : jumpTo _ _ _ 1 = RR
      have HR := Lib.hid hR
      clear hR
      go_wp2_with (first | (go_at_call 16; refine (none_ptr _ _ (by assumption)).mono ?_; rintro e w' ⟨rfl, rfl⟩) | (go_at_call 17; refine (time_any _ _).mono ?_; rintro e w' ⟨rfl, rfl⟩) | (go_quiet (first | (go_at_call 18; exact Calls.quiet_of_same (abs_any _ _ o1 o2)) | (go_at_call 18; exact quiet_add_same (abs_any _ _ o1 o2)))) | (go_at_call 19; refine (comes_any g c _ _ _ (by exact H.out)).mono ?_; rintro e w' ⟨rfl, hat, hst⟩))
      rw [← HR.out]
      all_goals simp only [jumpTo]
      all_goals go_ret2
      exact ⟨rfl, H.out, (Stp.refl _ _).drewN _⟩
    · skip
      have e : c.upd off now = (2, 0, c.comes 4 now) := by unfold CS.upd; simp [ht, hs, hp', hs', hg, hl]
      have hld : decide (c.so ≤ now - c.si) = true := decide_eq_true (by omega)
      rw [e]
      clear e hs' hp'
      go_enter Try.func10, Try.ntmps10
      go_wp2
      refine wp_scope_jumpTo 2 ?_
      generalize hQ : jumpTo _ _ _ 2 = QQ
      have HQ := Lib.hid hQ
      clear hQ
      go_wp2_with (first | (go_at_call 16; refine (none_ptr _ _ (by assumption)).mono ?_; rintro e w' ⟨rfl, rfl⟩) | (go_at_call 17; refine (time_any _ _).mono ?_; rintro e w' ⟨rfl, rfl⟩) | (go_quiet (first | (go_at_call 18; exact Calls.quiet_of_same (abs_any _ _ o1 o2)) | (go_at_call 18; exact quiet_add_same (abs_any _ _ o1 o2)))) | (go_at_call 19; refine (comes_any g c _ _ _ (by exact H.out)).mono ?_; rintro e w' ⟨rfl, hat, hst⟩))
      all_goals (try go_step3)
      all_goals (try simp only [Exit.then, Exit.inBlock])
      all_goals rw [← HQ.out]
      all_goals refine ⟨_, rfl, ?_⟩
      generalize hR : jumpTo _ _ _ 1 = RR
      have HR := Lib.hid hR
      clear hR
      go_wp2_with (first | (go_at_call 16; refine (none_ptr _ _ (by assumption)).mono ?_; rintro e w' ⟨rfl, rfl⟩) | (go_at_call 17; refine (time_any _ _).mono ?_; rintro e w' ⟨rfl, rfl⟩) | (go_quiet (first | (go_at_call 18; exact Calls.quiet_of_same (abs_any _ _ o1 o2)) | (go_at_call 18; exact quiet_add_same (abs_any _ _ o1 o2)))) | (go_at_call 19; refine (comes_any g c _ _ _ (by exact H.out)).mono ?_; rintro e w' ⟨rfl, hat, hst⟩))
      go_step3
      go_wp2_with (first | (go_at_call 16; refine (none_ptr _ _ (by assumption)).mono ?_; rintro e w' ⟨rfl, rfl⟩) | (go_at_call 17; refine (time_any _ _).mono ?_; rintro e w' ⟨rfl, rfl⟩) | (go_quiet (first | (go_at_call 18; exact Calls.quiet_of_same (abs_any _ _ o1 o2)) | (go_at_call 18; exact quiet_add_same (abs_any _ _ o1 o2)))) | (go_at_call 19; refine (comes_any g c _ _ _ (by exact H.out)).mono ?_; rintro e w' ⟨rfl, hat, hst⟩))
      rw [← HR.out]
      all_goals simp only [jumpTo]
      all_goals go_ret2
      exact ⟨rfl, hat, hst.of_drewN⟩
  · by_cases hl : now - c.si < c.so
    · skip
      have e : c.upd off now = (1, 0, c.comes 4 now) := by unfold CS.upd; simp [ht, hs, hp', hs', hg, hl]
      have hld : decide (c.so ≤ now - c.si) = false := decide_eq_false (by omega)
      rw [e]
      clear e hs' hp'
      go_enter Try.func10, Try.ntmps10
      go_wp2
      refine wp_scope_jumpTo 2 ?_
      generalize hQ : jumpTo _ _ _ 2 = QQ
      have HQ := Lib.hid hQ
      clear hQ
      go_wp2_with (first | (go_at_call 16; refine (none_ptr _ _ (by assumption)).mono ?_; rintro e w' ⟨rfl, rfl⟩) | (go_at_call 17; refine (time_any _ _).mono ?_; rintro e w' ⟨rfl, rfl⟩) | (go_quiet (first | (go_at_call 18; exact Calls.quiet_of_same (abs_any _ _ o1 o2)) | (go_at_call 18; exact quiet_add_same (abs_any _ _ o1 o2)))) | (go_at_call 19; refine (comes_any g c _ _ _ (by exact H.out)).mono ?_; rintro e w' ⟨rfl, hat, hst⟩))
      all_goals (try go_step3)
      all_goals (try simp only [Exit.then, Exit.inBlock])
      all_goals rw [← HQ.out]
      all_goals refine ⟨_, rfl, ?_⟩
      generalize hR : jumpTo _ _ _ 1 = RR
      have HR := Lib.hid hR
      clear hR
      go_wp2_with (first | (go_at_call 16; refine (none_ptr _ _ (by assumption)).mono ?_; rintro e w' ⟨rfl, rfl⟩) | (go_at_call 17; refine (time_any _ _).mono ?_; rintro e w' ⟨rfl, rfl⟩) | (go_quiet (first | (go_at_call 18; exact Calls.quiet_of_same (abs_any _ _ o1 o2)) | (go_at_call 18; exact quiet_add_same (abs_any _ _ o1 o2)))) | (go_at_call 19; refine (comes_any g c _ _ _ (by exact H.out)).mono ?_; rintro e w' ⟨rfl, hat, hst⟩))
      rw [← HR.out]
      all_goals simp only [jumpTo]
      all_goals go_ret2
      exact ⟨rfl, hat, hst.of_drewN⟩
    · skip
      have e : c.upd off now = (1, 0, c.comes 4 now) := by unfold CS.upd; simp [ht, hs, hp', hs', hg, hl]
      have hld : decide (c.so ≤ now - c.si) = true := decide_eq_true (by omega)
      rw [e]
      clear e hs' hp'
      go_enter Try.func10, Try.ntmps10
      go_wp2
      refine wp_scope_jumpTo 2 ?_
      generalize hQ : jumpTo _ _ _ 2 = QQ
      have HQ := Lib.hid hQ
      clear hQ
      go_wp2_with (first | (go_at_call 16; refine (none_ptr _ _ (by assumption)).mono ?_; rintro e w' ⟨rfl, rfl⟩) | (go_at_call 17; refine (time_any _ _).mono ?_; rintro e w' ⟨rfl, rfl⟩) | (go_quiet (first | (go_at_call 18; exact Calls.quiet_of_same (abs_any _ _ o1 o2)) | (go_at_call 18; exact quiet_add_same (abs_any _ _ o1 o2)))) | (go_at_call 19; refine (comes_any g c _ _ _ (by exact H.out)).mono ?_; rintro e w' ⟨rfl, hat, hst⟩))
      all_goals (try go_step3)
      all_goals (try simp only [Exit.then, Exit.inBlock])
      all_goals rw [← HQ.out]
      all_goals refine ⟨_, rfl, ?_⟩
      generalize hR : jumpTo _ _ _ 1 = RR
      have HR := Lib.hid hR
      clear hR
      go_wp2_with (first | (go_at_call 16; refine (none_ptr _ _ (by assumption)).mono ?_; rintro e w' ⟨rfl, rfl⟩) | (go_at_call 17; refine (time_any _ _).mono ?_; rintro e w' ⟨rfl, rfl⟩) | (go_quiet (first | (go_at_call 18; exact Calls.quiet_of_same (abs_any _ _ o1 o2)) | (go_at_call 18; exact quiet_add_same (abs_any _ _ o1 o2)))) | (go_at_call 19; refine (comes_any g c _ _ _ (by exact H.out)).mono ?_; rintro e w' ⟨rfl, hat, hst⟩))
      rw [← HR.out]
      all_goals simp only [jumpTo]
      all_goals go_ret2
      exact ⟨rfl, hat, hst.of_drewN⟩
end Go.Proofs.Yteoglmbmbejlaaa
