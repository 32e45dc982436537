/- StampEras' walk. -/
import Derived.Test.YtnkkfmiacbkdpaaStampW
import Derived.Outline
namespace Go.Proofs.Ytnkkfmiacbkdpaa
open Go.RowKit
set_option linter.unusedVariables false
set_option linter.unusedSimpArgs false

/-- The facts on a stamp's time by two pivots. -/
theorem eras_facts (u p : Int) (hu : 0 ≤ u ∧ u ≤ 18446744073709551615) (hp : 0 ≤ p ∧ p < 288230376151711744) :
    stampNsS u (pivotS (p + 4294967296000000000)) = stampNsS u (pivotS p) + 4294967296000000000 ∧ -2147483648000000000 ≤ stampNsS u (pivotS p) - p ∧ stampNsS u (pivotS p) - p ≤ 2147483648000000000 := by
  have hf := firstS_bd u hu
  have e1 : pivotS p = p := by unfold pivotS; split <;> (try split) <;> omega
  have e2 : pivotS (p + 4294967296000000000) = p + 4294967296000000000 := by unfold pivotS; split <;> (try split) <;> omega
  rw [e1, e2]
  unfold stampNsS
  generalize firstS u = f at *
  refine ⟨?_, ?_, ?_⟩ <;> (repeat' split) <;> omega
theorem stamps_near (y : Int) : 0 ≤ nsStampS y - stampS (dateS y) ∧ nsStampS y - stampS (dateS y) < 2 := by
  unfold nsStampS stampS dateS
  simp only
  have h0 : 0 ≤ y % 1000000000 ∧ y % 1000000000 < 1000000000 := by omega
  generalize y % 1000000000 = r at *
  generalize y / 1000000000 % 4294967296 * 4294967296 = s at *
  have e : (r * 18446744073709551616 + 999999999) / 1000000000 / 4294967296 = (r * 18446744073709551616 + 999999999) / 4294967296000000000 := by
    rw [Int.ediv_ediv_of_nonneg (by decide)]
    rfl
  rw [e]
  omega

set_option maxHeartbeats 2000000 in
theorem stampEras_walk (u p : Int) (w : World) (hu : 0 ≤ u ∧ u ≤ 18446744073709551615) (hp : -9223372036854775808 ≤ p ∧ p ≤ 9223372036854775807) :
    Calls Try.prog 4 #[.int .u64 u, .int .i64 p] w fun e w' => e = .returned (.bool true) ∧ Stp [] w w' := by
  have hm := i64_mask58 p
  have q0 : 0 ≤ p % 288230376151711744 := by omega
  have q1 : p % 288230376151711744 < 288230376151711744 := by omega
  generalize p % 288230376151711744 = q at *
  obtain ⟨f1, f2, f3⟩ := eras_facts u q hu ⟨q0, q1⟩
  have c1 := fun w => stampns_case u q w hu (by omega)
  have c2 := fun w => stampns_case u (q + 4294967296000000000) w hu (by omega)
  rw [f1] at c2
  generalize stampNsS u (pivotS q) = x at *
  have c3 := fun w => nsdate_any (x + 4294967296000000000) w (by omega)
  have c4 := fun w => stamp_any (dateS (x + 4294967296000000000)) w (dateS_ok _ (by omega) (by omega))
  have c5 := fun w => nsstamp_any (x + 4294967296000000000) w (by omega)
  obtain ⟨g1, g2⟩ := stamps_near (x + 4294967296000000000)
  generalize nsStampS (x + 4294967296000000000) = b at *
  generalize stampS (dateS (x + 4294967296000000000)) = a at *
  generalize (dateS (x + 4294967296000000000)).val = D at *
  have hw : IntKind.u64.wrap (b - a) = b - a := by rw [wrap_u64]; omega
  have C := Lib.hid (And.intro c1 (And.intro c2 (And.intro c3 (And.intro c4 c5))))
  clear c1 c2 c3 c4 c5 f1 hu hp
  go_enter Try.func4, Try.ntmps4
  go_wp2_with fail
  refine (C.out.1 _).mono ?_
  rintro e w1 ⟨rfl, s1⟩
  go_wp2_with fail
  refine (C.out.2.1 _).mono ?_
  rintro e w2 ⟨rfl, s2⟩
  go_wp2_with fail
  refine (C.out.2.2.1 _).mono ?_
  rintro e w3 ⟨rfl, s3⟩
  go_wp2_with fail
  refine (C.out.2.2.2.1 _).mono ?_
  rintro e w4 ⟨rfl, s4⟩
  go_wp2_with fail
  refine (C.out.2.2.2.2 _).mono ?_
  rintro e w5 ⟨rfl, rfl⟩
  go_wp2_with fail
  refine (wakes_any _).mono ?_
  rintro e w7 ⟨rfl, s7⟩
  go_wp2_with fail
  go_ret
  exact ⟨rfl, (((s1.trans s2).trans s3).trans s4).trans s7⟩
end Go.Proofs.Ytnkkfmiacbkdpaa
