/- ClockKnown's walk. -/
import Derived.Test.YteoglmbmbejlaaaPure3
namespace Go.Proofs.Yteoglmbmbejlaaa
open Go.RowKit
set_option linter.unusedVariables false
set_option linter.unusedSimpArgs false

theorem new_bad (st pa so : Int) (w : World) (h : isTime st = false ∨ (isTime st = true ∧ isTime pa = true ∧ isTime so = false) ∨ (isTime st = true ∧ isTime pa = true ∧ isTime so = true ∧ (pa != 0) = true ∧ pa ≤ st)) :
    Calls Try.prog 14 #[.int .i64 st, .int .i64 pa, .int .i64 so, .bool false] w fun e w' => e = .returned (.tuple #[.pointer none, .int .i64 1]) ∧ w' = w := by
  rcases h with h1 | ⟨h1, h2, h3⟩ | ⟨h1, h2, h3, h4, h5⟩
  all_goals
    go_enter Try.func14, Try.ntmps14
    go_wp2_with (first | (go_at_call 17; refine (time_any _ _).mono ?_; rintro e w' ⟨rfl, rfl⟩))
    go_ret2
    exact ⟨rfl, rfl⟩

theorem update_nil (a b : Int) (w : World) : Calls Try.prog 10 #[.pointer none, .int .i64 a, .int .i64 b] w fun e w' => e = .returned (.tuple #[.int .i64 0, .int .i64 2]) ∧ w' = w := by
  go_enter Try.func10, Try.ntmps10
  go_wp2
  refine wp_scope_jumpTo 2 ?_
  generalize hQ : jumpTo _ _ _ 2 = QQ
  have HQ := Lib.hid hQ
  clear hQ
  go_wp2_with (first | (go_at_call 16; refine (none_nil _).mono ?_; rintro e w' ⟨rfl, rfl⟩))
  rw [← HQ.out]
  simp only [jumpTo]
  go_ret2
  exact ⟨rfl, rfl⟩

theorem state_nil (w : World) : Calls Try.prog 11 #[.pointer none] w fun e w' => e = .returned (.int .i64 0) ∧ w' = w := by
  go_enter Try.func11, Try.ntmps11
  go_wp2_with fail
  refine (none_nil _).mono ?_
  rintro e w1 ⟨rfl, rfl⟩
  go_wp2_with fail
  go_ret
  exact ⟨rfl, rfl⟩

theorem since_nil (w : World) : Calls Try.prog 12 #[.pointer none] w fun e w' => e = .returned (.int .i64 0) ∧ w' = w := by
  go_enter Try.func12, Try.ntmps12
  go_wp2_with fail
  refine (none_nil _).mono ?_
  rintro e w1 ⟨rfl, rfl⟩
  go_wp2_with fail
  go_ret
  exact ⟨rfl, rfl⟩

theorem copy_nil (w : World) : Calls Try.prog 15 #[.pointer none] w fun e w' => e = .returned (.pointer none) ∧ w' = w := by
  go_enter Try.func15, Try.ntmps15
  go_wp2_with fail
  refine (none_nil _).mono ?_
  rintro e w1 ⟨rfl, rfl⟩
  go_wp2_with fail
  go_ret
  exact ⟨rfl, rfl⟩

set_option maxRecDepth 100000 in
set_option maxHeartbeats 4000000 in
theorem clockKnown_walk (w : World) : Calls Try.prog 7 #[] w fun e w' => e = .returned (.bool true) ∧ Stp [] w w' := by
  go_enter Try.func7, Try.ntmps7
  go_wp2_with fail
  refine (new_bad (-1) 0 0 _ (.inl (by decide))).mono ?_
  rintro e v ⟨rfl, rfl⟩
  go_wp2_with fail
  refine (new_bad 5 5 0 _ (.inr (.inr (by decide)))).mono ?_
  rintro e v ⟨rfl, rfl⟩
  go_wp2_with fail
  refine (new_bad 0 0 4611686018427387905 _ (.inr (.inl (by decide)))).mono ?_
  rintro e v ⟨rfl, rfl⟩
  go_wp2_with fail
  refine (new_known 5 0 10 _ (by decide) (by decide) (by decide) (.inl rfl)).mono ?_
  rintro e w1 ⟨g, rfl, a1, s1, hg⟩
  go_wp2_with fail
  refine (state_any g _ _ a1).mono ?_
  rintro e v ⟨rfl, rfl⟩
  go_wp2_with fail
  refine (upd_is 2 0 ⟨5, 0, 10, 4, 7⟩ a1 (by kernel_rfl) (by constructor <;> decide) (by decide) (by decide)).mono ?_
  rintro e w2 ⟨rfl, a2, s2⟩
  go_wp2_with fail
  refine (state_any g _ _ a2).mono ?_
  rintro e v ⟨rfl, rfl⟩
  go_wp2_with fail
  refine (upd_is 0 1 ⟨5, 0, 10, 4, 7⟩ a2 (by kernel_rfl) (by constructor <;> decide) (by decide) (by decide)).mono ?_
  rintro e w3 ⟨rfl, a3, s3⟩
  go_wp2_with fail
  refine (upd_is 0 1 ⟨5, 0, 10, 4, 7⟩ a3 (by kernel_rfl) (by constructor <;> decide) (by decide) (by decide)).mono ?_
  rintro e w4 ⟨rfl, a4, s4⟩
  go_wp2_with fail
  refine (upd_is 0 1 ⟨5, 0, 10, 4, 7⟩ a4 (by kernel_rfl) (by constructor <;> decide) (by decide) (by decide)).mono ?_
  rintro e w5 ⟨rfl, a5, s5⟩
  go_wp2_with fail
  refine (upd_is 0 0 ⟨5, 0, 10, 2, 8⟩ a5 (by kernel_rfl) (by constructor <;> decide) (by decide) (by decide)).mono ?_
  rintro e w6 ⟨rfl, a6, s6⟩
  go_wp2_with fail
  refine (upd_is 1 0 ⟨5, 0, 10, 4, 9⟩ a6 (by kernel_rfl) (by constructor <;> decide) (by decide) (by decide)).mono ?_
  rintro e w7 ⟨rfl, a7, s7⟩
  go_wp2_with fail
  refine (state_any g _ _ a7).mono ?_
  rintro e v ⟨rfl, rfl⟩
  go_wp2_with fail
  refine (update_nil 0 0 _).mono ?_
  rintro e v ⟨rfl, rfl⟩
  go_wp2_with fail
  refine (awake_any _).mono ?_
  rintro e w8 ⟨rfl, s8⟩
  have a8 := s8.at a7 (by simp)
  go_wp2_with fail
  refine (since_any g ⟨5, 0, 10, 4, 9⟩ _ a8).mono ?_
  rintro e v ⟨rfl, rfl⟩
  go_wp2_with fail
  refine (state_nil _).mono ?_
  rintro e v ⟨rfl, rfl⟩
  go_wp2_with fail
  refine (since_nil _).mono ?_
  rintro e v ⟨rfl, rfl⟩
  go_wp2_with fail
  refine (copy_nil _).mono ?_
  rintro e v ⟨rfl, rfl⟩
  go_wp2_with fail
  go_ret
  exact ⟨rfl, ((((((s1.far s2 (.inr hg)).far s3 (.inr hg)).far s4 (.inr hg)).far s5 (.inr hg)).far s6 (.inr hg)).far s7 (.inr hg)).trans s8⟩
end Go.Proofs.Yteoglmbmbejlaaa
