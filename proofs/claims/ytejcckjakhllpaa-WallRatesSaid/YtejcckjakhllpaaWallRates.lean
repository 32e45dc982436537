/- WallRates: rates and what they slew are the document's; for any amount, stretch and rate. -/
import Derived.Test.YtejcckjakhllpaaWallX
import Derived.Test.YtejcckjakhllpaaWallW
namespace Go.Proofs.Ytejcckjakhllpaa
open Go.RowKit
set_option linter.unusedVariables false
set_option linter.unusedSimpArgs false

theorem wallRates_walk (a s r : Int) (w : World) (ha : -9223372036854775808 ≤ a ∧ a ≤ 9223372036854775807) (hs : -9223372036854775808 ≤ s ∧ s ≤ 9223372036854775807) (hr : -9223372036854775808 ≤ r ∧ r ≤ 9223372036854775807) :
    Calls Try.prog 4 #[.int .i64 a, .int .i64 s, .int .i64 r] w fun e w' => e = .returned (.bool true) ∧ Stp [] w w' := by
  have x1 := fun w => rate_any a s w ha hs
  have y1 := fun w => rrate_any a s w ha hs
  have x2 := fun w => slewed_any r s w
  have y2 := fun w => rslewed_any r s w hr hs
  generalize rateS a s = f1 at *
  generalize slewedS r s = f2 at *
  have X := Lib.hid (And.intro x1 (And.intro y1 (And.intro x2 y2)))
  clear x1 x2 y1 y2 ha hs hr
  go_enter Try.func4, Try.ntmps4
  go_wp2_with fail
  refine (X.out.1 _).mono ?_
  rintro e v1 ⟨rfl, s1⟩
  go_wp2_with fail
  refine (X.out.2.1 _).mono ?_
  rintro e v2 ⟨rfl, s2⟩
  go_wp2_with fail
  refine (X.out.2.2.1 _).mono ?_
  rintro e v3 ⟨rfl, s3⟩
  go_wp2_with fail
  refine (X.out.2.2.2 _).mono ?_
  rintro e v4 ⟨rfl, s4⟩
  go_wp2_with fail
  refine (alive_any _).mono ?_
  rintro e v5 ⟨rfl, s5⟩
  go_wp2_with fail
  go_ret
  exact ⟨rfl, (((s1.trans s2).trans s3).trans s4).trans s5⟩
end Go.Proofs.Ytejcckjakhllpaa
