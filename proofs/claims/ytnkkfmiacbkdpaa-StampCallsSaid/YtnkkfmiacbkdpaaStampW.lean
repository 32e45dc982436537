/- stamp: the chapter's rows. -/
import Derived.Test.YtnkkfmiacbkdpaaStampB
import Derived.Test.YtnkkfmiacbkdpaaStampC
namespace Go.Proofs.Ytnkkfmiacbkdpaa
open Go.RowKit
set_option linter.unusedVariables false
set_option linter.unusedSimpArgs false

set_option maxHeartbeats 1000000 in
theorem wakes_any (w : World) : Calls Try.prog 12 #[] w fun e w' => e = .returned (.bool true) ∧ Stp [] w w' := by
  have e1 : shortS 1 = 15259 := by decide
  have e2 : shortS 65536 = 1000000000 := by decide
  have e3 : nsShortS 1 = 1 := by decide
  have e4 : nsShortS 1000000000 = 65536 := by decide
  have e5 : nsStampS 1 = 5 := by decide
  have e6 : stampNsS 5 (pivotS 0) = 1 := by decide
  have e7 : stampNsS 0 (pivotS 4294967295999999999) = 4294967296000000000 := by decide
  have e8 : (dateS (-1)).val = .agg #[.int .i32 (-1), .int .u32 4294967295, .int .u64 18446744055262807543] := by
    have a1 : (-1 : Int) / 1000000000 / 4294967296 = -1 := by decide
    have a2 : (-1 : Int) / 1000000000 % 4294967296 = 4294967295 := by decide
    have a3 : ((-1 : Int) % 1000000000 * 18446744073709551616 + 999999999) / 1000000000 = 18446744055262807543 := by decide
    simp only [dateS, DateS.val, a1, a2, a3]
  go_enter Try.func12, Try.ntmps12
  go_wp2_with fail
  refine (short_any 1 _ (by decide)).mono ?_
  rw [e1]
  rintro e w1 ⟨rfl, rfl⟩
  go_wp2_with fail
  refine (short_any 65536 _ (by decide)).mono ?_
  rw [e2]
  rintro e w1 ⟨rfl, rfl⟩
  go_wp2_with fail
  refine (nsshort_any 1 _ (by decide)).mono ?_
  rw [e3]
  rintro e w1 ⟨rfl, k1, rfl⟩
  go_wp2_with fail
  refine (nsshort_any 1000000000 _ (by decide)).mono ?_
  rw [e4]
  rintro e w1 ⟨rfl, k2, rfl⟩
  go_wp2_with fail
  refine (nsstamp_any 1 _ (by decide)).mono ?_
  rw [e5]
  rintro e w1 ⟨rfl, rfl⟩
  go_wp2_with fail
  refine (stampns_case 5 0 _ (by decide) (by decide)).mono ?_
  rw [e6]
  rintro e w1 ⟨rfl, h1⟩
  go_wp2_with fail
  refine (stampns_case 0 4294967295999999999 _ (by decide) (by decide)).mono ?_
  rw [e7]
  rintro e w2 ⟨rfl, h2⟩
  go_wp2_with fail
  refine (nsdate_any (-1) _ (by decide)).mono ?_
  rw [e8]
  rintro e w3 ⟨rfl, h3⟩
  go_wp2_with fail
  go_ret
  exact ⟨rfl, (h1.of_drewN.trans h2).trans h3⟩
end Go.Proofs.Ytnkkfmiacbkdpaa
