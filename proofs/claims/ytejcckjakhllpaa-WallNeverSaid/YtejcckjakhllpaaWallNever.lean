/- WallNever's walk. -/
import Derived.Test.YtejcckjakhllpaaWallNev1
import Derived.Test.YtejcckjakhllpaaWallNev2
import Derived.Outline
namespace Go.Proofs.Ytejcckjakhllpaa
open Go.RowKit
set_option linter.unusedVariables false
set_option linter.unusedSimpArgs false

theorem wallNever_walk (s0 by' a0 b0 t : Int) (w : World) (hs : -9223372036854775808 ≤ s0 ∧ s0 ≤ 9223372036854775807) (hby : -9223372036854775808 ≤ by' ∧ by' ≤ 9223372036854775807) (ha : -9223372036854775808 ≤ a0 ∧ a0 ≤ 9223372036854775807) (hb : -9223372036854775808 ≤ b0 ∧ b0 ≤ 9223372036854775807) (ht : -9223372036854775808 ≤ t ∧ t ≤ 9223372036854775807) :
    Calls Try.prog 6 #[.int .i64 s0, .int .i64 by', .int .i64 a0, .int .i64 b0, .int .i64 t] w fun e w' => e = .returned (.bool true) ∧ Stp [] w w' := by
  by_cases h : b0 % 4611686018427387904 < a0 % 4611686018427387904
  · exact never_two (a0 % 4611686018427387904) (b0 % 4611686018427387904) s0 by' (b0 % 4611686018427387904) (a0 % 4611686018427387904) t (s0 % 4611686018427387904) a0 b0 w hby ht (by omega) (by omega) (by omega) (by omega) (i64_mask62 s0) (i64_mask62 a0) (i64_mask62 b0) ⟨rfl, rfl, h⟩
  · exact never_one (a0 % 4611686018427387904) (b0 % 4611686018427387904) s0 by' (a0 % 4611686018427387904) (b0 % 4611686018427387904) t (s0 % 4611686018427387904) a0 b0 w hby ht (by omega) (by omega) (by omega) (by omega) (i64_mask62 s0) (i64_mask62 a0) (i64_mask62 b0) ⟨rfl, rfl, h⟩
end Go.Proofs.Ytejcckjakhllpaa
