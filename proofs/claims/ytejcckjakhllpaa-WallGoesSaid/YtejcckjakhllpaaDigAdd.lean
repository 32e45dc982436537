/- The document's numbers: a sum, with an error. -/
import Derived.Test.YtejcckjakhllpaaDigE
import Derived.Test.YtejcckjakhllpaaDigW
import Derived.Test.YtejcckjakhllpaaDigP
namespace Go.Proofs.Ytejcckjakhllpaa
open Go.RowKit
set_option linter.unusedVariables false
set_option linter.unusedSimpArgs false

theorem dAdd_any (a b : Int) (w : World) (ha : -9223372036854775808 ≤ a ∧ a ≤ 9223372036854775807) (hb : -9223372036854775808 ≤ b ∧ b ≤ 9223372036854775807) :
    Calls Try.prog 38 #[.int .i64 a, .int .i64 b] w fun e w' => e = .returned (.tuple #[.int .i64 (toldS (a + b)).1, .int .i64 (toldS (a + b)).2]) ∧ Stp [] w w' := by
  have O1 := Lib.hid (fun w => dOf_any a w ha)
  have O2 := Lib.hid (fun w => dOf_any b w hb)
  have HB := Lib.hid (And.intro ha hb)
  clear ha hb
  go_enter Try.func38, Try.ntmps38
  go_wp2_with fail
  refine (O1.out _).mono ?_
  rintro e w1 ⟨m1, A1, n1, c1, rfl, d1, s1⟩
  go_wp2_with fail
  refine (O2.out _).mono ?_
  rintro e w2 ⟨m2, A2, n2, c2, rfl, d2, s2⟩
  have d1' := d1.stp s2
  go_wp2_with fail
  refine (dPlus_any _ _ _ _ _ _ _ _ _ _ _ d1' d2 (by have := d1'.small (by have := HB.out; omega); omega) (by have := d2.small (by have := HB.out; omega); omega)).mono ?_
  rintro e w3 ⟨m3, A3, n3, c3, rfl, d3, s3⟩
  go_wp2_with fail
  refine (dtold_any _ _ _ _ _ _ (d3.raw (by have := d3.wide (by have := HB.out; omega); omega))).mono ?_
  rintro e w4 ⟨rfl, s4⟩
  go_wp2_with fail
  go_ret2
  exact ⟨rfl, ((s1.trans s2).trans s3).trans s4⟩
end Go.Proofs.Ytejcckjakhllpaa
