/- The clock's other functions: New, State, Since, Copy; the law's own size. -/
import Derived.Test.YteoglmbmbejlaaaFns
import Derived.Laws.ResultCell
namespace Go.Proofs.Yteoglmbmbejlaaa
open Go.RowKit
set_option linter.unusedVariables false
set_option linter.unusedSimpArgs false

/-- A clock that is made here: new memory holds it. -/
def Made (c : CS) (errs : Int) (w : World) (e : Ending) (w' : World) : Prop :=
  ∃ g, e = .returned (.tuple #[.pointer (some ⟨g, 0, none⟩), .int .i64 errs]) ∧ c.at w' g ∧ Stp [] w w' ∧ w.heap.size ≤ g
def MadeOne (c : CS) (w : World) (e : Ending) (w' : World) : Prop :=
  ∃ g, e = .returned (.pointer (some ⟨g, 0, none⟩)) ∧ c.at w' g ∧ Stp [] w w' ∧ w.heap.size ≤ g

theorem new_known (st pa so : Int) (w : World) (h1 : isTime st = true) (h2 : isTime pa = true) (h3 : isTime so = true) (h4 : pa = 0 ∨ pa ≠ 0 ∧ st < pa) :
    Calls Try.prog 14 #[.int .i64 st, .int .i64 pa, .int .i64 so, .bool true] w (Made ⟨st, pa, so, 1, 0⟩ 0 w) := by
  rcases h4 with h4 | ⟨h4, h5⟩
  · have e2 : (pa != 0) = false := by simp [h4]
    clear h4
    go_enter Try.func14, Try.ntmps14
    go_wp2_with (first | (go_at_call 17; refine (time_any _ _).mono ?_; rintro e w' ⟨rfl, rfl⟩))
    go_ret2
    exact ⟨_, rfl, by exact new_at _ _, (Stp.refl _ _).alloc _, Nat.le_refl _⟩
  · have e2 : (pa != 0) = true := by simp [h4]
    go_enter Try.func14, Try.ntmps14
    go_wp2_with (first | (go_at_call 17; refine (time_any _ _).mono ?_; rintro e w' ⟨rfl, rfl⟩))
    go_ret2
    exact ⟨_, rfl, by exact new_at _ _, (Stp.refl _ _).alloc _, Nat.le_refl _⟩
theorem new_unknown (st pa so : Int) (w : World) (h1 : isTime st = true) (h2 : isTime pa = true) (h3 : isTime so = true) (h4 : pa = 0 ∨ pa ≠ 0 ∧ st < pa) :
    Calls Try.prog 14 #[.int .i64 st, .int .i64 pa, .int .i64 so, .bool false] w (Made ⟨st, pa, so, 0, 0⟩ 0 w) := by
  rcases h4 with h4 | ⟨h4, h5⟩
  · have e2 : (pa != 0) = false := by simp [h4]
    clear h4
    go_enter Try.func14, Try.ntmps14
    go_wp2_with (first | (go_at_call 17; refine (time_any _ _).mono ?_; rintro e w' ⟨rfl, rfl⟩))
    go_ret2
    exact ⟨_, rfl, by exact new_at _ _, (Stp.refl _ _).alloc _, Nat.le_refl _⟩
  · have e2 : (pa != 0) = true := by simp [h4]
    go_enter Try.func14, Try.ntmps14
    go_wp2_with (first | (go_at_call 17; refine (time_any _ _).mono ?_; rintro e w' ⟨rfl, rfl⟩))
    go_ret2
    exact ⟨_, rfl, by exact new_at _ _, (Stp.refl _ _).alloc _, Nat.le_refl _⟩

theorem state_any (g : Nat) (c : CS) (w : World) (h : c.at w g) :
    Calls Try.prog 11 #[.pointer (some ⟨g, 0, none⟩)] w fun e w' => e = .returned (.int .i64 c.s) ∧ w' = w := by
  obtain ⟨c0, c1, c2, c3, c4, c5⟩ := cells_of h
  clear h
  go_enter Try.func11, Try.ntmps11
  go_wp2_with (first | (go_at_call 16; refine (none_ptr _ _ (by assumption)).mono ?_; rintro e w' ⟨rfl, rfl⟩))
  go_ret
  exact ⟨rfl, rfl⟩
theorem since_any (g : Nat) (c : CS) (w : World) (h : c.at w g) :
    Calls Try.prog 12 #[.pointer (some ⟨g, 0, none⟩)] w fun e w' => e = .returned (.int .i64 c.si) ∧ w' = w := by
  obtain ⟨c0, c1, c2, c3, c4, c5⟩ := cells_of h
  clear h
  go_enter Try.func12, Try.ntmps12
  go_wp2_with (first | (go_at_call 16; refine (none_ptr _ _ (by assumption)).mono ?_; rintro e w' ⟨rfl, rfl⟩))
  go_ret
  exact ⟨rfl, rfl⟩
theorem copy_any (g : Nat) (c : CS) (w : World) (h : c.at w g) :
    Calls Try.prog 15 #[.pointer (some ⟨g, 0, none⟩)] w (MadeOne c w) := by
  obtain ⟨c0, c1, c2, c3, c4, c5⟩ := cells_of h
  go_enter Try.func15, Try.ntmps15
  go_wp2_with (first | (go_at_call 16; refine (none_ptr _ _ (by assumption)).mono ?_; rintro e w' ⟨rfl, rfl⟩))
  go_ret
  exact ⟨_, rfl, by exact new_at _ _, (Stp.refl _ _).alloc _, Nat.le_refl _⟩

end Go.Proofs.Yteoglmbmbejlaaa
