/- The document's numbers beside package fix: the same answers. -/
import Derived.Test.YtkohpeonnoegpaaDigM
import Derived.Test.YtkohpeonnoegpaaFix
namespace Go.Proofs.Ytkohpeonnoegpaa
open Go.RowKit
set_option linter.unusedVariables false
set_option linter.unusedSimpArgs false

theorem divs_told (up : Bool) (a b c : Int) (hc : 0 < c) : toldS (divS up (a * b) c) = mulDivS up a b c := by
  unfold mulDivS
  rw [if_neg (by omega)]
  show toldS (divS up (a * b) c) = _
  unfold toldS divS fits
  cases up <;> simp
theorem dmd_any (up : Bool) (a b c : Int) (w : World) (ha : -9223372036854775808 ≤ a ∧ a ≤ 9223372036854775807) (hb : -9223372036854775808 ≤ b ∧ b ≤ 9223372036854775807) (hc : -9223372036854775808 ≤ c ∧ c ≤ 9223372036854775807) :
    Calls Try.prog 47 #[.int .i64 a, .int .i64 b, .int .i64 c, .bool up] w fun e w' => e = .returned (.tuple #[.int .i64 (mulDivS up a b c).1, .int .i64 (mulDivS up a b c).2]) ∧ Stp [] w w' := by
  by_cases h : 0 < c
  · have := dMulDiv_any a b c up w ha hb ⟨h, hc.2⟩
    rw [divs_told up a b c h] at this
    exact this
  · have := dMulDiv_bad a b c up w (by omega)
    have e : mulDivS up a b c = (0, 1) := by
      unfold mulDivS
      rw [if_pos (by omega)]
    rw [e]
    exact this
end Go.Proofs.Ytkohpeonnoegpaa
