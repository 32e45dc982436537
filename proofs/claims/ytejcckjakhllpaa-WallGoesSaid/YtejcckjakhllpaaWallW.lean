/- wall: the chapter's rows. -/
import Derived.Test.YtejcckjakhllpaaWallC
namespace Go.Proofs.Ytejcckjakhllpaa
open Go.RowKit
set_option linter.unusedVariables false
set_option linter.unusedSimpArgs false

set_option maxHeartbeats 1000000 in
theorem alive_any (w : World) : Calls Try.prog 17 #[] w fun e w' => e = .returned (.bool true) ∧ Stp [] w w' := by
  have e1 : WS.tell ⟨100, 0⟩ 5 = 105 := by decide
  have e2 : WS.tell ⟨50, 1⟩ 5 = 55 := by decide
  have e3 : WS.whenS ⟨50, 1⟩ 60 = (10, true) := by decide
  have e4 : rateS 1000 1000000000 = 1000 := by decide
  have e5 : rateS 1000000000 1000000000 = 500000 := by decide
  have e6 : rateS (-1) 3000000 = -334 := by decide
  go_enter Try.func17, Try.ntmps17
  go_wp2_with fail
  refine (new_any 100 _ (by decide)).mono ?_
  rintro e w1 ⟨g, rfl, a1, s1, hg⟩
  go_wp2_with fail
  refine (at_any g _ 5 _ a1 (by constructor <;> decide) (by decide)).mono ?_
  rw [e1]
  rintro e w2 ⟨rfl, n1, rfl⟩
  go_wp2_with fail
  refine (step_good g ⟨100, 0⟩ (-50) _ (by exact a1) (by constructor <;> decide) (by decide) (by decide)).mono ?_
  rintro e w3 ⟨rfl, a3, s3⟩
  have a3' : (WS.mk 50 1).at w3 g := a3
  go_wp2_with fail
  refine (at_any g _ 5 _ a3' (by constructor <;> decide) (by decide)).mono ?_
  rw [e2]
  rintro e w4 ⟨rfl, n2, rfl⟩
  go_wp2_with fail
  refine (when_any g _ 60 _ (by exact a3') (by constructor <;> decide) (by decide)).mono ?_
  rw [e3]
  rintro e w5 ⟨rfl, s5⟩
  go_wp2_with fail
  refine (rate_any 1000 1000000000 _ (by decide) (by decide)).mono ?_
  rw [e4]
  rintro e w6 ⟨rfl, s6⟩
  go_wp2_with fail
  refine (rate_any 1000000000 1000000000 _ (by decide) (by decide)).mono ?_
  rw [e5]
  rintro e w7 ⟨rfl, s7⟩
  go_wp2_with fail
  refine (rate_any (-1) 3000000 _ (by decide) (by decide)).mono ?_
  rw [e6]
  rintro e w8 ⟨rfl, s8⟩
  go_wp2_with fail
  go_ret
  have t3 := s1.far (s3.of_drewN) (.inr hg)
  exact ⟨rfl, ((((t3.trans s5.of_drewN).trans s6).trans s7).trans s8)⟩
end Go.Proofs.Ytejcckjakhllpaa
