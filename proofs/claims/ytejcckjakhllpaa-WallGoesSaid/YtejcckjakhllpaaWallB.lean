/- wall: its methods. -/
import Derived.Test.YtejcckjakhllpaaWall
import Derived.Outline
namespace Go.Proofs.Ytejcckjakhllpaa
open Go.RowKit
set_option linter.unusedVariables false
set_option linter.unusedSimpArgs false

structure WS.ok (c : WS) : Prop where
  b0 : -4611686018427387904 ≤ c.base
  b1 : c.base ≤ 4611686018427387904
  s0 : 0 ≤ c.steps
  s1 : c.steps ≤ 1000000
def WS.tell (c : WS) (m : Int) : Int := timeS (timeS m + c.base)
theorem tell_bd (c : WS) (m : Int) : 0 ≤ c.tell m ∧ c.tell m ≤ 4611686018427387904 := timeS_bd _

theorem near_bd (n : Int) : -9223372036854775808 ≤ nearS n ∧ nearS n ≤ 9223372036854775807 := by unfold nearS; (repeat' split) <;> omega
theorem time_near (n : Int) : timeS (nearS n) = timeS n := by
  unfold timeS clampS nearS
  repeat' split
  all_goals omega
theorem at_any (g : Nat) (c : WS) (m : Int) (w : World) (h : c.at w g) (ok : c.ok) (hm : -9223372036854775808 ≤ m ∧ m ≤ 9223372036854775807) :
    Calls Try.prog 9 #[.pointer (some ⟨g, 0, none⟩), .int .i64 m] w fun e w' => e = .returned (.int .i64 (c.tell m)) ∧ ∃ n, w' = w.drewN n := by
  obtain ⟨c0, c1, c2⟩ := ws_cells h
  obtain ⟨b0, b1, _, _⟩ := ok
  clear h
  have t1 := fun w => time_any m w
  obtain ⟨t2, t3⟩ := timeS_bd m
  unfold WS.tell
  rw [← time_near]
  generalize timeS m = t at *
  have a1 := fun w => addsat_any t c.base w (by omega) (by omega)
  generalize nearS (t + c.base) = v at *
  have t4 := fun w => time_any v w
  have M := Lib.hid (And.intro t1 (And.intro a1 t4))
  clear t1 a1 t4
  go_enter Try.func9, Try.ntmps9
  go_wp2_with fail
  refine (none_ptr _ _ (by assumption)).mono ?_
  rintro e w1 ⟨rfl, rfl⟩
  go_wp2_with (go_quiet (first | (go_at_call 28; with_reducible exact Calls.quiet_of_same (M.out.1 _)) | (go_at_call 29; with_reducible exact Calls.quiet_of_same (M.out.2.1 _)) | (go_at_call 28; with_reducible exact Calls.quiet_of_same (M.out.2.2 _))))
  go_ret
  exact ⟨rfl, _, rfl⟩

theorem base_any (g : Nat) (c : WS) (w : World) (h : c.at w g) :
    Calls Try.prog 10 #[.pointer (some ⟨g, 0, none⟩)] w fun e w' => e = .returned (.int .i64 c.base) ∧ w' = w := by
  obtain ⟨c0, c1, c2⟩ := ws_cells h
  clear h
  go_enter Try.func10, Try.ntmps10
  go_wp2_with fail
  refine (none_ptr _ _ (by assumption)).mono ?_
  rintro e w1 ⟨rfl, rfl⟩
  go_wp2_with fail
  go_ret
  exact ⟨rfl, rfl⟩
theorem steps_any (g : Nat) (c : WS) (w : World) (h : c.at w g) :
    Calls Try.prog 11 #[.pointer (some ⟨g, 0, none⟩)] w fun e w' => e = .returned (.int .i64 c.steps) ∧ w' = w := by
  obtain ⟨c0, c1, c2⟩ := ws_cells h
  clear h
  go_enter Try.func11, Try.ntmps11
  go_wp2_with fail
  refine (none_ptr _ _ (by assumption)).mono ?_
  rintro e w1 ⟨rfl, rfl⟩
  go_wp2_with fail
  go_ret
  exact ⟨rfl, rfl⟩
def MadeWall (c : WS) (w : World) (e : Ending) (w' : World) : Prop :=
  ∃ g, e = .returned (.pointer (some ⟨g, 0, none⟩)) ∧ c.at w' g ∧ Stp [] w w' ∧ w.heap.size ≤ g
theorem copy_any (g : Nat) (c : WS) (w : World) (h : c.at w g) : Calls Try.prog 13 #[.pointer (some ⟨g, 0, none⟩)] w (MadeWall c w) := by
  obtain ⟨c0, c1, c2⟩ := ws_cells h
  clear h
  go_enter Try.func13, Try.ntmps13
  go_wp2_with fail
  refine (none_ptr _ _ (by assumption)).mono ?_
  rintro e w1 ⟨rfl, rfl⟩
  go_wp2_with fail
  go_ret
  exact ⟨_, rfl, by exact new_at _ _, (Stp.refl _ _).alloc _, Nat.le_refl _⟩
def MadeWall2 (c : WS) (w : World) (e : Ending) (w' : World) : Prop :=
  ∃ g, e = .returned (.tuple #[.pointer (some ⟨g, 0, none⟩), .int .i64 0]) ∧ c.at w' g ∧ Stp [] w w' ∧ w.heap.size ≤ g
theorem new_any (s : Int) (w : World) (h : 0 ≤ s ∧ s ≤ 4611686018427387904) : Calls Try.prog 14 #[.int .i64 s] w (MadeWall2 ⟨s, 0⟩ w) := by
  obtain ⟨h0, h1⟩ := h
  go_enter Try.func14, Try.ntmps14
  go_wp2_with fail
  go_ret2
  exact ⟨_, rfl, by exact new_at _ _, (Stp.refl _ _).alloc _, Nat.le_refl _⟩
theorem new_bad (s : Int) (w : World) (h : s < 0 ∨ 4611686018427387904 < s) : Calls Try.prog 14 #[.int .i64 s] w fun e w' => e = .returned (.tuple #[.pointer none, .int .i64 1]) ∧ w' = w := by
  by_cases h0 : s < 0
  · clear h
    go_enter Try.func14, Try.ntmps14
    go_wp2_with fail
    go_ret2
    exact ⟨rfl, rfl⟩
  · have h1 : 4611686018427387904 < s := by omega
    clear h
    go_enter Try.func14, Try.ntmps14
    go_wp2_with fail
    go_ret2
    exact ⟨rfl, rfl⟩

theorem step_good (g : Nat) (c : WS) (by' : Int) (w : World) (h : c.at w g) (ok : c.ok) (hb : -9223372036854775808 ≤ by' ∧ by' ≤ 9223372036854775807) (hr : -4611686018427387904 ≤ c.base + by' ∧ c.base + by' ≤ 4611686018427387904) :
    Calls Try.prog 12 #[.pointer (some ⟨g, 0, none⟩), .int .i64 by'] w fun e w' => e = .returned (.int .i64 0) ∧ (WS.mk (c.base + by') (c.steps + 1)).at w' g ∧ Stp [g] w w' := by
  have hh := Lib.hid h
  obtain ⟨c0, c1, c2⟩ := ws_cells h
  obtain ⟨z0, z1⟩ := ws_free h
  obtain ⟨b0, b1, s0, s1⟩ := ok
  obtain ⟨r0, r1⟩ := hr
  clear h
  have a1 := fun w => add_any c.base by' w (by omega) hb
  have e : fitS (c.base + by') = (c.base + by', 0) := by unfold fitS; rw [if_pos (by omega)]
  rw [e] at a1
  have M := Lib.hid a1
  clear a1 e
  go_enter Try.func12, Try.ntmps12
  go_wp2_with fail
  refine (none_ptr _ _ (by assumption)).mono ?_
  rintro e w1 ⟨rfl, rfl⟩
  go_wp2_with fail
  refine (M.out _).mono ?_
  rintro e w1 ⟨rfl, rfl⟩
  go_wp2_with fail
  go_ret
  exact ⟨rfl, set_at (set_at hh.out 0 _) 1 _, ((Stp.refl _ _).setCell (.inl (by simp)) _).setCell (.inl (by simp)) _⟩
theorem step_bad (g : Nat) (c : WS) (by' : Int) (w : World) (h : c.at w g) (ok : c.ok) (hb : -9223372036854775808 ≤ by' ∧ by' ≤ 9223372036854775807) (hr : ¬ (-4611686018427387904 ≤ c.base + by' ∧ c.base + by' ≤ 4611686018427387904)) :
    Calls Try.prog 12 #[.pointer (some ⟨g, 0, none⟩), .int .i64 by'] w fun e w' => e = .returned (.int .i64 20) ∧ w' = w := by
  obtain ⟨c0, c1, c2⟩ := ws_cells h
  obtain ⟨b0, b1, s0, s1⟩ := ok
  clear h
  have a1 := fun w => add_any c.base by' w (by omega) hb
  by_cases h1 : -9223372036854775808 ≤ c.base + by' ∧ c.base + by' ≤ 9223372036854775807
  · have e : fitS (c.base + by') = (c.base + by', 0) := by unfold fitS; rw [if_pos (by omega)]
    rw [e] at a1
    have M := Lib.hid a1
    clear a1 e
    have hr2 : c.base + by' < -4611686018427387904 ∨ (¬ c.base + by' < -4611686018427387904 ∧ 4611686018427387904 < c.base + by') := by omega
    clear hr h1
    rcases hr2 with h2 | ⟨h2, h3⟩
    all_goals
      go_enter Try.func12, Try.ntmps12
      go_wp2_with fail
      refine (none_ptr _ _ (by assumption)).mono ?_
      rintro e w1 ⟨rfl, rfl⟩
      go_wp2_with fail
      refine (M.out _).mono ?_
      rintro e w1 ⟨rfl, rfl⟩
      go_wp2_with fail
      go_ret
      exact ⟨rfl, rfl⟩
  · have e : fitS (c.base + by') = (0, 20) := by unfold fitS; rw [if_neg h1]
    rw [e] at a1
    have M := Lib.hid a1
    clear a1 e hr h1
    go_enter Try.func12, Try.ntmps12
    go_wp2_with fail
    refine (none_ptr _ _ (by assumption)).mono ?_
    rintro e w1 ⟨rfl, rfl⟩
    go_wp2_with fail
    refine (M.out _).mono ?_
    rintro e w1 ⟨rfl, rfl⟩
    go_wp2_with fail
    go_ret
    exact ⟨rfl, rfl⟩
end Go.Proofs.Ytejcckjakhllpaa
