/- FixSums: sums, differences and products are the document's; for any two int64s. -/
import Derived.Test.YtkiphpppkameoaaDigG
import Derived.Test.YtkiphpppkameoaaFixAwake
import Derived.Test.YtkiphpppkameoaaFixBack
namespace Go.Proofs.Ytkiphpppkameoaa
open Go.RowKit
set_option linter.unusedVariables false
set_option linter.unusedSimpArgs false

theorem told_fit (v : Int) : toldS v = fitS v := by
  unfold toldS fitS
  by_cases h : fits v
  · have h' : -9223372036854775808 ≤ v ∧ v ≤ 9223372036854775807 := h
    rw [if_pos h, if_pos h']
  · have h' : ¬ (-9223372036854775808 ≤ v ∧ v ≤ 9223372036854775807) := h
    rw [if_neg h, if_neg h']
theorem next_near (v : Int) : nextS v = nearS v := by
  unfold nextS nearS
  by_cases h : fits v
  · have h' : -9223372036854775808 ≤ v ∧ v ≤ 9223372036854775807 := h
    rw [if_pos h, if_neg (by omega), if_neg (by omega)]
  · have h' : ¬ (-9223372036854775808 ≤ v ∧ v ≤ 9223372036854775807) := h
    rw [if_neg h]
    by_cases h2 : v < 0
    · rw [if_pos h2, if_pos (by omega)]
    · rw [if_neg h2, if_neg (by omega), if_pos (by omega)]
theorem next_abs (a : Int) (h : -9223372036854775808 ≤ a ∧ a ≤ 9223372036854775807) : nextS (if a < 0 then -a else a) = absS a := by
  unfold absS
  by_cases h1 : a = -9223372036854775808
  · subst h1; decide
  · rw [if_neg h1]
    have hf : fits (if a < 0 then -a else a) := by
      unfold fits
      split <;> omega
    unfold nextS
    rw [if_pos hf]

set_option maxRecDepth 100000 in
set_option maxHeartbeats 4000000 in
theorem fixSums_walk (a b : Int) (w : World) (ha : -9223372036854775808 ≤ a ∧ a ≤ 9223372036854775807) (hb : -9223372036854775808 ≤ b ∧ b ≤ 9223372036854775807) :
    Calls Try.prog 8 #[.int .i64 a, .int .i64 b] w fun e w' => e = .returned (.bool true) ∧ Stp [] w w' := by
  have x1 := fun w => add_any a b w ha hb
  have y1 := fun w => dAdd_any a b w ha hb
  have x2 := fun w => sub_any a b w ha hb
  have y2 := fun w => dSub_any a b w ha hb
  have x3 := fun w => mul_any a b w ha hb
  have y3 := fun w => dMul_any a b w ha hb
  have x4 := fun w => addsat_any a b w ha hb
  have y4 := fun w => dAddSat_any a b w ha hb
  have x5 := fun w => subsat_any a b w ha hb
  have y5 := fun w => dSubSat_any a b w ha hb
  have x6 := fun w => abs_any a w ha
  have y6 := fun w => dAbs_any a w ha
  have e1 : a + -b = a - b := rfl
  rw [e1] at y2 y5
  rw [told_fit] at y1 y2 y3
  rw [next_near] at y4 y5
  rw [next_abs a ha] at y6
  generalize fitS (a + b) = f1 at *
  generalize fitS (a - b) = f2 at *
  generalize fitS (a * b) = f3 at *
  generalize nearS (a + b) = f4 at *
  generalize nearS (a - b) = f5 at *
  generalize absS a = f6 at *
  obtain ⟨f1, g1⟩ := f1
  obtain ⟨f2, g2⟩ := f2
  obtain ⟨f3, g3⟩ := f3
  have X := Lib.hid (And.intro x1 (And.intro x2 (And.intro x3 (And.intro x4 (And.intro x5 x6)))))
  have Y := Lib.hid (And.intro y1 (And.intro y2 (And.intro y3 (And.intro y4 (And.intro y5 y6)))))
  clear x1 x2 x3 x4 x5 x6 y1 y2 y3 y4 y5 y6 e1 ha hb
  go_enter Try.func8, Try.ntmps8
  go_wp2_with fail
  refine (X.out.1 _).mono ?_
  rintro e v1 ⟨rfl, rfl⟩
  go_wp2_with fail
  refine (Y.out.1 _).mono ?_
  rintro e v2 ⟨rfl, s2⟩
  go_wp2_with fail
  refine (X.out.2.1 _).mono ?_
  rintro e v3 ⟨rfl, rfl⟩
  go_wp2_with fail
  refine (Y.out.2.1 _).mono ?_
  rintro e v4 ⟨rfl, s4⟩
  go_wp2_with fail
  refine (X.out.2.2.1 _).mono ?_
  rintro e v5 ⟨rfl, rfl⟩
  go_wp2_with fail
  refine (Y.out.2.2.1 _).mono ?_
  rintro e v6 ⟨rfl, s6⟩
  go_wp2_with fail
  refine (awake_holds _).mono ?_
  rintro e v7 ⟨rfl, s7⟩
  go_wp2_with fail
  refine (X.out.2.2.2.1 _).mono ?_
  rintro e v8 ⟨rfl, rfl⟩
  go_wp2_with fail
  refine (Y.out.2.2.2.1 _).mono ?_
  rintro e v9 ⟨rfl, s9⟩
  go_wp2_with fail
  refine (X.out.2.2.2.2.1 _).mono ?_
  rintro e v10 ⟨rfl, rfl⟩
  go_wp2_with fail
  refine (Y.out.2.2.2.2.1 _).mono ?_
  rintro e v11 ⟨rfl, s11⟩
  go_wp2_with fail
  refine (X.out.2.2.2.2.2 _).mono ?_
  rintro e v12 ⟨rfl, rfl⟩
  go_wp2_with fail
  refine (Y.out.2.2.2.2.2 _).mono ?_
  rintro e v13 ⟨rfl, rfl⟩
  go_wp2_with fail
  go_ret
  exact ⟨rfl, ((((s2.trans s4).trans s6).trans s7).trans s9).trans s11⟩
end Go.Proofs.Ytkiphpppkameoaa
