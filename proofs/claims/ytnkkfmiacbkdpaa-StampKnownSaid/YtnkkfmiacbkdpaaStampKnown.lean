/- StampKnown's walk. -/
import Derived.Test.YtnkkfmiacbkdpaaStampW
import Derived.Outline
namespace Go.Proofs.Ytnkkfmiacbkdpaa
open Go.RowKit
set_option linter.unusedVariables false
set_option linter.unusedSimpArgs false

set_option maxHeartbeats 4000000 in
set_option maxRecDepth 100000 in
theorem stampKnown_walk (w : World) :
    Calls Try.prog 6 #[] w fun e w' => e = .returned (.bool true) ∧ Stp [] w w' := by
  have k1 : dateNsS ⟨1048576, 0, 0⟩ = (0, 20) := by decide
  have k2 : dateNsS ⟨-1048576, 0, 0⟩ = (0, 20) := by decide
  have k3 : dateNsS ⟨1, 0, 0⟩ = (4294967296000000000, 0) := by decide
  have d4 : dateS (4611686018427387904) = ⟨1, 316718722, 7883915285287146770⟩ := by
    have a1 : (4611686018427387904 : Int) / 1000000000 / 4294967296 = 1 := by decide
    have a2 : (4611686018427387904 : Int) / 1000000000 % 4294967296 = 316718722 := by decide
    have a3 : ((4611686018427387904 : Int) % 1000000000 * 18446744073709551616 + 999999999) / 1000000000 = 7883915285287146770 := by decide
    simp only [dateS, a1, a2, a3]
  have k4 : dateNsS ⟨1, 316718722, 7883915285287146770⟩ = (4611686018427387904, 0) := by decide
  have d6 : dateS (4611686018427387905) = ⟨1, 316718722, 7883915303733890844⟩ := by
    have a1 : (4611686018427387905 : Int) / 1000000000 / 4294967296 = 1 := by decide
    have a2 : (4611686018427387905 : Int) / 1000000000 % 4294967296 = 316718722 := by decide
    have a3 : ((4611686018427387905 : Int) % 1000000000 * 18446744073709551616 + 999999999) / 1000000000 = 7883915303733890844 := by decide
    simp only [dateS, a1, a2, a3]
  have k5 : dateNsS ⟨1, 316718722, 7883915303733890844⟩ = (0, 20) := by decide
  have d8 : dateS ((-4611686018427387904)) = ⟨-2, 3978248573, 10562828788422404847⟩ := by
    have a1 : ((-4611686018427387904) : Int) / 1000000000 / 4294967296 = -2 := by decide
    have a2 : ((-4611686018427387904) : Int) / 1000000000 % 4294967296 = 3978248573 := by decide
    have a3 : (((-4611686018427387904) : Int) % 1000000000 * 18446744073709551616 + 999999999) / 1000000000 = 10562828788422404847 := by decide
    simp only [dateS, a1, a2, a3]
  have k6 : dateNsS ⟨-2, 3978248573, 10562828788422404847⟩ = (-4611686018427387904, 0) := by decide
  have d10 : dateS ((-4611686018427387905)) = ⟨-2, 3978248573, 10562828769975660773⟩ := by
    have a1 : ((-4611686018427387905) : Int) / 1000000000 / 4294967296 = -2 := by decide
    have a2 : ((-4611686018427387905) : Int) / 1000000000 % 4294967296 = 3978248573 := by decide
    have a3 : (((-4611686018427387905) : Int) % 1000000000 * 18446744073709551616 + 999999999) / 1000000000 = 10562828769975660773 := by decide
    simp only [dateS, a1, a2, a3]
  have k7 : dateNsS ⟨-2, 3978248573, 10562828769975660773⟩ = (0, 20) := by decide
  have k8 : nsShortS (-5) = 0 := by decide
  have k9 : nsShortS (4611686018427387904) = 4294967295 := by decide
  have k10 : nsShortS (65536000000000) = 4294967295 := by decide
  have k11 : shortS 4294967295 = 65535999984742 := by decide
  have k12 : nsStampS (-1) = 18446744073709551612 := by decide
  have k13 : stampNsS 9223372036854775808 (pivotS 0) = -2147483648000000000 := by decide
  go_enter Try.func6, Try.ntmps6
  go_wp2_with fail
  refine (datens_any ⟨1048576, 0, 0⟩ _ (by constructor <;> decide)).mono ?_
  rw [k1]
  rintro e w1 ⟨rfl, s1⟩
  go_wp2_with fail
  refine (datens_any ⟨-1048576, 0, 0⟩ _ (by constructor <;> decide)).mono ?_
  rw [k2]
  rintro e w2 ⟨rfl, s2⟩
  go_wp2_with fail
  refine (datens_any ⟨1, 0, 0⟩ _ (by constructor <;> decide)).mono ?_
  rw [k3]
  rintro e w3 ⟨rfl, s3⟩
  go_wp2_with fail
  refine (nsdate_any (4611686018427387904) _ (by decide)).mono ?_
  rw [d4]
  simp only [DateS.val]
  rintro e w4 ⟨rfl, s4⟩
  go_wp2_with fail
  refine (datens_any ⟨1, 316718722, 7883915285287146770⟩ _ (by constructor <;> decide)).mono ?_
  rw [k4]
  rintro e w5 ⟨rfl, s5⟩
  go_wp2_with fail
  refine (nsdate_any (4611686018427387905) _ (by decide)).mono ?_
  rw [d6]
  simp only [DateS.val]
  rintro e w6 ⟨rfl, s6⟩
  go_wp2_with fail
  refine (datens_any ⟨1, 316718722, 7883915303733890844⟩ _ (by constructor <;> decide)).mono ?_
  rw [k5]
  rintro e w7 ⟨rfl, s7⟩
  go_wp2_with fail
  refine (nsdate_any (-4611686018427387904) _ (by decide)).mono ?_
  rw [d8]
  simp only [DateS.val]
  rintro e w8 ⟨rfl, s8⟩
  go_wp2_with fail
  refine (datens_any ⟨-2, 3978248573, 10562828788422404847⟩ _ (by constructor <;> decide)).mono ?_
  rw [k6]
  rintro e w9 ⟨rfl, s9⟩
  go_wp2_with fail
  refine (nsdate_any (-4611686018427387905) _ (by decide)).mono ?_
  rw [d10]
  simp only [DateS.val]
  rintro e w10 ⟨rfl, s10⟩
  go_wp2_with fail
  refine (datens_any ⟨-2, 3978248573, 10562828769975660773⟩ _ (by constructor <;> decide)).mono ?_
  rw [k7]
  rintro e w11 ⟨rfl, s11⟩
  go_wp2_with fail
  refine (nsshort_any (-5) _ (by decide)).mono ?_
  rw [k8]
  rintro e w12 ⟨rfl, m12, rfl⟩
  go_wp2_with fail
  refine (nsshort_any (4611686018427387904) _ (by decide)).mono ?_
  rw [k9]
  rintro e w13 ⟨rfl, m13, rfl⟩
  go_wp2_with fail
  refine (nsshort_any (65536000000000) _ (by decide)).mono ?_
  rw [k10]
  rintro e w14 ⟨rfl, m14, rfl⟩
  go_wp2_with fail
  refine (short_any 4294967295 _ (by decide)).mono ?_
  rw [k11]
  rintro e w15 ⟨rfl, rfl⟩
  go_wp2_with fail
  refine (nsstamp_any (-1) _ (by decide)).mono ?_
  rw [k12]
  rintro e w16 ⟨rfl, rfl⟩
  go_wp2_with fail
  refine (stampns_case 9223372036854775808 0 _ (by decide) (by decide)).mono ?_
  rw [k13]
  rintro e w17 ⟨rfl, s17⟩
  go_wp2_with fail
  refine (wakes_any _).mono ?_
  rintro e w99 ⟨rfl, s99⟩
  go_wp2_with fail
  go_ret
  refine ⟨rfl, ?_⟩
  repeat (first | exact Stp.refl _ _ | assumption | (refine Stp.drewN ?_ _) | (refine Stp.alloc ?_ _) | (refine Stp.trans ?_ (by assumption)))
end Go.Proofs.Ytnkkfmiacbkdpaa
