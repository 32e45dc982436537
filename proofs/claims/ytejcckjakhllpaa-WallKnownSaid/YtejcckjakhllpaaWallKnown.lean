/- WallKnown's walk. -/
import Derived.Test.YtejcckjakhllpaaWallW
import Derived.Outline
namespace Go.Proofs.Ytejcckjakhllpaa
open Go.RowKit
set_option linter.unusedVariables false
set_option linter.unusedSimpArgs false

theorem when_nil (w : World) (d : Int) : Calls Try.prog 8 #[.pointer none, .int .i64 d] w fun e w' => e = .returned (.tuple #[.int .i64 0, .bool false]) ∧ Stp [] w w' := by
  go_enter Try.func8, Try.ntmps8
  go_wp2_with fail
  refine (none_nil _).mono ?_
  rintro e w1 ⟨rfl, rfl⟩
  go_wp2_with fail
  go_ret2
  exact ⟨rfl, by repeat (first | exact Stp.refl _ _ | (refine Stp.alloc ?_ _))⟩

theorem at_nil (w : World) (d : Int) : Calls Try.prog 9 #[.pointer none, .int .i64 d] w fun e w' => e = .returned (.int .i64 0) ∧ Stp [] w w' := by
  go_enter Try.func9, Try.ntmps9
  go_wp2_with fail
  refine (none_nil _).mono ?_
  rintro e w1 ⟨rfl, rfl⟩
  go_wp2_with fail
  go_ret
  exact ⟨rfl, by repeat (first | exact Stp.refl _ _ | (refine Stp.alloc ?_ _))⟩

theorem at_zero (w : World) (d : Int) (g : Nat) (hz : w.heap[g]? = some (.cells #[.int .i64 0, .int .i64 0, .bool false] 24 (0, 0))) : Calls Try.prog 9 #[.pointer (some ⟨g, 0, none⟩), .int .i64 d] w fun e w' => e = .returned (.int .i64 0) ∧ Stp [] w w' := by
  have c2 : w.cell? ⟨g, 2, none⟩ = some (.bool false) := cell_at hz 2
  go_enter Try.func9, Try.ntmps9
  go_wp2_with fail
  refine (none_zero _ _ (by assumption)).mono ?_
  rintro e w1 ⟨rfl, rfl⟩
  go_wp2_with fail
  go_ret
  exact ⟨rfl, by repeat (first | exact Stp.refl _ _ | (refine Stp.alloc ?_ _))⟩

theorem base_nil (w : World) : Calls Try.prog 10 #[.pointer none] w fun e w' => e = .returned (.int .i64 0) ∧ Stp [] w w' := by
  go_enter Try.func10, Try.ntmps10
  go_wp2_with fail
  refine (none_nil _).mono ?_
  rintro e w1 ⟨rfl, rfl⟩
  go_wp2_with fail
  go_ret
  exact ⟨rfl, by repeat (first | exact Stp.refl _ _ | (refine Stp.alloc ?_ _))⟩

theorem steps_zero (w : World) (g : Nat) (hz : w.heap[g]? = some (.cells #[.int .i64 0, .int .i64 0, .bool false] 24 (0, 0))) : Calls Try.prog 11 #[.pointer (some ⟨g, 0, none⟩)] w fun e w' => e = .returned (.int .i64 0) ∧ Stp [] w w' := by
  have c2 : w.cell? ⟨g, 2, none⟩ = some (.bool false) := cell_at hz 2
  go_enter Try.func11, Try.ntmps11
  go_wp2_with fail
  refine (none_zero _ _ (by assumption)).mono ?_
  rintro e w1 ⟨rfl, rfl⟩
  go_wp2_with fail
  go_ret
  exact ⟨rfl, by repeat (first | exact Stp.refl _ _ | (refine Stp.alloc ?_ _))⟩

theorem step_nil (w : World) (d : Int) : Calls Try.prog 12 #[.pointer none, .int .i64 d] w fun e w' => e = .returned (.int .i64 2) ∧ Stp [] w w' := by
  go_enter Try.func12, Try.ntmps12
  go_wp2_with fail
  refine (none_nil _).mono ?_
  rintro e w1 ⟨rfl, rfl⟩
  go_wp2_with fail
  go_ret
  exact ⟨rfl, by repeat (first | exact Stp.refl _ _ | (refine Stp.alloc ?_ _))⟩

theorem copy_zero (w : World) (g : Nat) (hz : w.heap[g]? = some (.cells #[.int .i64 0, .int .i64 0, .bool false] 24 (0, 0))) : Calls Try.prog 13 #[.pointer (some ⟨g, 0, none⟩)] w fun e w' => e = .returned (.pointer none) ∧ Stp [] w w' := by
  have c2 : w.cell? ⟨g, 2, none⟩ = some (.bool false) := cell_at hz 2
  go_enter Try.func13, Try.ntmps13
  go_wp2_with fail
  refine (none_zero _ _ (by assumption)).mono ?_
  rintro e w1 ⟨rfl, rfl⟩
  go_wp2_with fail
  go_ret
  exact ⟨rfl, by repeat (first | exact Stp.refl _ _ | (refine Stp.alloc ?_ _))⟩

set_option maxRecDepth 100000 in
set_option maxHeartbeats 4000000 in
theorem wallKnown_walk (w : World) : Calls Try.prog 3 #[] w fun e w' => e = .returned (.bool true) ∧ Stp [] w w' := by
  have e1 : WS.tell ⟨4611686018427387904, 0⟩ 9 = 4611686018427387904 := by decide
  have e2 : WS.tell ⟨-4611686018427387904, 1⟩ 4611686018427387904 = 0 := by decide
  have e3 : WS.whenS ⟨-4611686018427387904, 1⟩ 1 = (0, false) := by decide
  have e4 : WS.whenS ⟨-4611686018427387904, 1⟩ 0 = (0, true) := by decide
  have e5 : rateS 1 1 = 500000 := by decide
  have e6 : rateS (-1) 1 = -500000 := by decide
  have e7 : rateS (-9223372036854775808) 1 = -500000 := by decide
  have e8 : rateS 5 (-7) = 0 := by decide
  have e9 : slewedS 1099511627776 1000000000 = 500000 := by decide
  have e10 : slewedS (-1) 1 = -1 := by decide
  have e11 : slewedS 1 1 = 0 := by decide
  go_enter Try.func3, Try.ntmps3
  go_wp2_with fail
  refine (when_nil _ 0).mono ?_
  rintro e w1 ⟨rfl, s1⟩
  go_wp2_with fail
  have z1 := s1.at (new_at w _) (by simp)
  go_wp2_with fail
  refine (at_nil _ 5).mono ?_
  rintro e w2 ⟨rfl, s2⟩
  have z2 := s2.at z1 (by simp)
  go_wp2_with fail
  refine (at_zero _ 5 _ z2).mono ?_
  rintro e w3 ⟨rfl, s3⟩
  have z3 := s3.at z2 (by simp)
  go_wp2_with fail
  refine (base_nil _).mono ?_
  rintro e w4 ⟨rfl, s4⟩
  have z4 := s4.at z3 (by simp)
  go_wp2_with fail
  refine (steps_zero _ _ z4).mono ?_
  rintro e w5 ⟨rfl, s5⟩
  have z5 := s5.at z4 (by simp)
  go_wp2_with fail
  refine (step_nil _ 1).mono ?_
  rintro e w6 ⟨rfl, s6⟩
  have z6 := s6.at z5 (by simp)
  go_wp2_with fail
  refine (copy_zero _ _ z6).mono ?_
  rintro e w7 ⟨rfl, s7⟩
  go_wp2_with fail
  refine (new_bad (-1) _ (by decide)).mono ?_
  rintro e v ⟨rfl, rfl⟩
  go_wp2_with fail
  refine (new_bad 4611686018427387905 _ (by decide)).mono ?_
  rintro e v ⟨rfl, rfl⟩
  go_wp2_with fail
  refine (new_any 4611686018427387904 _ (by decide)).mono ?_
  rintro e u1 ⟨g, rfl, a1, t1, hg⟩
  go_wp2_with fail
  refine (step_bad g ⟨4611686018427387904, 0⟩ 1 _ a1 (by constructor <;> decide) (by decide) (by decide)).mono ?_
  rintro e v ⟨rfl, rfl⟩
  go_wp2_with fail
  refine (at_any g ⟨4611686018427387904, 0⟩ 9 _ a1 (by constructor <;> decide) (by decide)).mono ?_
  rw [e1]
  rintro e v ⟨rfl, n1, rfl⟩
  go_wp2_with fail
  refine (step_good g ⟨4611686018427387904, 0⟩ (-9223372036854775808) _ (by exact a1) (by constructor <;> decide) (by decide) (by decide)).mono ?_
  rintro e u2 ⟨rfl, a2', t2⟩
  have a2 : (WS.mk (-4611686018427387904) 1).at u2 g := a2'
  go_wp2_with fail
  refine (step_bad g ⟨-4611686018427387904, 1⟩ (-1) _ a2 (by constructor <;> decide) (by decide) (by decide)).mono ?_
  rintro e v ⟨rfl, rfl⟩
  go_wp2_with fail
  refine (at_any g ⟨-4611686018427387904, 1⟩ 4611686018427387904 _ a2 (by constructor <;> decide) (by decide)).mono ?_
  rw [e2]
  rintro e v ⟨rfl, n2, rfl⟩
  go_wp2_with fail
  refine (when_any g ⟨-4611686018427387904, 1⟩ 1 _ (by exact a2) (by constructor <;> decide) (by decide)).mono ?_
  rw [e3]
  rintro e u3 ⟨rfl, t3⟩
  have a3 := t3.at a2 (by simp)
  go_wp2_with fail
  refine (when_any g ⟨-4611686018427387904, 1⟩ 0 _ a3 (by constructor <;> decide) (by decide)).mono ?_
  rw [e4]
  rintro e u4 ⟨rfl, t4⟩
  have a4 := t4.at a3 (by simp)
  go_wp2_with fail
  refine (steps_any g ⟨-4611686018427387904, 1⟩ _ a4).mono ?_
  rintro e v ⟨rfl, rfl⟩
  go_wp2_with fail
  refine (rate_any 1 1 _ (by decide) (by decide)).mono ?_
  rw [e5]
  rintro e u5 ⟨rfl, t5⟩
  go_wp2_with fail
  refine (rate_any (-1) 1 _ (by decide) (by decide)).mono ?_
  rw [e6]
  rintro e u6 ⟨rfl, t6⟩
  go_wp2_with fail
  refine (rate_any (-9223372036854775808) 1 _ (by decide) (by decide)).mono ?_
  rw [e7]
  rintro e u7 ⟨rfl, t7⟩
  go_wp2_with fail
  refine (rate_any 5 (-7) _ (by decide) (by decide)).mono ?_
  rw [e8]
  rintro e u8 ⟨rfl, t8⟩
  go_wp2_with fail
  refine (slewed_any 1099511627776 1000000000 _).mono ?_
  rw [e9]
  rintro e u9 ⟨rfl, t9⟩
  go_wp2_with fail
  refine (slewed_any (-1) 1 _).mono ?_
  rw [e10]
  rintro e u10 ⟨rfl, t10⟩
  go_wp2_with fail
  refine (slewed_any 1 1 _).mono ?_
  rw [e11]
  rintro e u11 ⟨rfl, t11⟩
  go_wp2_with fail
  refine (alive_any _).mono ?_
  rintro e u12 ⟨rfl, t12⟩
  go_wp2_with fail
  go_ret
  have q1 : Stp [] w _ := ((Stp.refl [] w).alloc _).trans s1 |>.trans s2 |>.trans s3 |>.trans s4 |>.trans s5 |>.trans s6 |>.trans s7
  have hg' : w.heap.size ≤ g := Nat.le_trans q1.size hg
  have q2 := ((q1.trans t1).far (t2.of_drewN) (.inr hg')).trans t3.of_drewN
  exact ⟨rfl, (q2 |>.trans t4 |>.trans t5 |>.trans t6 |>.trans t7 |>.trans t8 |>.trans t9 |>.trans t10 |>.trans t11 |>.trans t12)⟩
end Go.Proofs.Ytejcckjakhllpaa
