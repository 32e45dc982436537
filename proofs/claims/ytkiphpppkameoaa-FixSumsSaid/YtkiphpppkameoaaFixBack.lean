/- fix: products; there and back; examples and ends. -/
import Derived.Test.YtkiphpppkameoaaFixAwake
namespace Go.Proofs.Ytkiphpppkameoaa
open Go.RowKit
set_option linter.unusedVariables false
set_option linter.unusedSimpArgs false

/-- What Mul makes of the product's size. -/
def prodS (minus : Bool) (P : Int) : Int × Int := if minus then (if P ≤ 9223372036854775808 then (-P, 0) else (0, 20)) else (if P < 9223372036854775808 then (P, 0) else (0, 20))
theorem fit_prod (a b : Int) : fitS (a * b) = prodS (decide (a < 0) != decide (b < 0)) (sizeS a * sizeS b) := by
  have hP := sizes_mul a b
  have hP0 : 0 ≤ sizeS a * sizeS b := Int.mul_nonneg (sizeS_nonneg a) (sizeS_nonneg b)
  generalize sizeS a * sizeS b = P at *
  generalize (decide (a < 0) != decide (b < 0)) = m at *
  have hab : a * b = if m = true then -P else P := by cases m <;> simp at hP ⊢ <;> omega
  unfold fitS prodS
  rw [hab]
  cases m <;> simp
  all_goals
    split <;> split <;> first | rfl | (exfalso; omega)

set_option maxHeartbeats 1000000 in
theorem mul_any (a b : Int) (w : World) (ha : -9223372036854775808 ≤ a ∧ a ≤ 9223372036854775807) (hb : -9223372036854775808 ≤ b ∧ b ≤ 9223372036854775807) :
    Calls Try.prog 26 #[.int .i64 a, .int .i64 b] w fun e w' => e = .returned (.tuple #[.int .i64 (fitS (a * b)).1, .int .i64 (fitS (a * b)).2]) ∧ w' = w := by
  rw [fit_prod]
  obtain ⟨m, hm⟩ : ∃ m, (!(decide (a < 0) == decide (b < 0))) = m := ⟨_, rfl⟩
  have hm' : (decide (a < 0) != decide (b < 0)) = m := hm
  rw [hm']
  clear hm'
  have hx1 : sizeS a ≤ 9223372036854775808 := by unfold sizeS; split <;> omega
  have hy1 : sizeS b ≤ 9223372036854775808 := by unfold sizeS; split <;> omega
  have hx0 := sizeS_nonneg a
  have hy0 := sizeS_nonneg b
  have sa := fun w => size_any a w ha
  have sb := fun w => size_any b w hb
  generalize sizeS a = x at *
  generalize sizeS b = y at *
  have cm := fun w => mul64_any x y (by omega) (by omega) w
  have hp0 : 0 ≤ x * y := Int.mul_nonneg hx0 hy0
  generalize x * y = p at *
  by_cases hbig : p / 18446744073709551616 = 0
  · have hmod : p % 18446744073709551616 = p := by omega
    rw [hbig, hmod] at cm
    have cs := fun w => signed_any p m w (by omega)
    by_cases hs : (signedS p m).2 = true
    · have e : prodS m p = ((signedS p m).1, 0) := by
        unfold prodS
        unfold signedS at hs ⊢
        cases m
        · simp at hs ⊢; rw [if_pos hs, wrap64_id (by omega) (by omega)]
        · simp at hs ⊢; rw [if_pos hs, wrap64_id (by omega) (by omega)]
      rw [e]
      rw [hs] at cs
      clear e hs hbig hmod
      go_enter Try.func26, Try.ntmps26
      go_wp2_with fail
      refine (sa _).mono ?_
      rintro e w1 ⟨rfl, rfl⟩
      go_wp2_with fail
      refine (sb _).mono ?_
      rintro e w1 ⟨rfl, rfl⟩
      go_wp2_with fail
      refine (cm _).mono ?_
      rintro e w1 ⟨rfl, rfl⟩
      go_wp2_with fail
      refine (cs _).mono ?_
      rintro e w1 ⟨rfl, rfl⟩
      go_wp2_with fail
      go_ret2
      exact ⟨rfl, rfl⟩
    · have e : prodS m p = (0, 20) := by
        unfold prodS
        unfold signedS at hs
        cases m
        · simp at hs ⊢; omega
        · simp at hs ⊢; omega
      rw [e]
      have hs := eq_false_of_ne_true hs
      rw [hs] at cs
      clear e hs hbig hmod
      go_enter Try.func26, Try.ntmps26
      go_wp2_with fail
      refine (sa _).mono ?_
      rintro e w1 ⟨rfl, rfl⟩
      go_wp2_with fail
      refine (sb _).mono ?_
      rintro e w1 ⟨rfl, rfl⟩
      go_wp2_with fail
      refine (cm _).mono ?_
      rintro e w1 ⟨rfl, rfl⟩
      go_wp2_with fail
      refine (cs _).mono ?_
      rintro e w1 ⟨rfl, rfl⟩
      go_wp2_with fail
      go_ret2
      exact ⟨rfl, rfl⟩
  · have e : prodS m p = (0, 20) := by
      unfold prodS
      cases m
      · simp only [Bool.false_eq_true, if_false]; rw [if_neg (by omega)]
      · simp only [if_true]; rw [if_neg (by omega)]
    rw [e]
    have hb2 : (p / 18446744073709551616 == 0) = false := by simp; omega
    have cs := fun w => signed_any (p % 18446744073709551616) m w (by omega)
    clear e
    go_enter Try.func26, Try.ntmps26
    go_wp2_with fail
    refine (sa _).mono ?_
    rintro e w1 ⟨rfl, rfl⟩
    go_wp2_with fail
    refine (sb _).mono ?_
    rintro e w1 ⟨rfl, rfl⟩
    go_wp2_with fail
    refine (cm _).mono ?_
    rintro e w1 ⟨rfl, rfl⟩
    go_wp2_with fail
    refine (cs _).mono ?_
    rintro e w1 ⟨rfl, rfl⟩
    go_wp2_with fail
    go_ret2
    exact ⟨rfl, rfl⟩

set_option maxRecDepth 100000 in
set_option maxHeartbeats 2000000 in
theorem fixKnown_walk (w : World) : Calls Try.prog 9 #[] w fun e w' => e = .returned (.bool true) ∧ Stp [] w w' := by
  have m0 : mulDivS false 1 1 0 = (0, 1) := by decide
  have m1 : mulDivS false 1 1 (-5) = (0, 1) := by decide
  have m2 : mulDivS false (-9223372036854775808) (-9223372036854775808) 9223372036854775807 = (0, 20) := by decide
  have m3 : mulDivS false (-9223372036854775808) 1 1 = (-9223372036854775808, 0) := by decide
  have m4 : mulDivS true 9223372036854775807 9223372036854775807 9223372036854775806 = (0, 20) := by decide
  have a0 : fitS (9223372036854775807 + 1) = (0, 20) := by decide
  have a1 : fitS (-9223372036854775808 - 1) = (0, 20) := by decide
  have a2 : fitS (0 - -9223372036854775808) = (0, 20) := by decide
  have a3 : fitS (-1 - -9223372036854775808) = (9223372036854775807, 0) := by decide
  have a4 : fitS (-9223372036854775808 * -1) = (0, 20) := by decide
  have a5 : fitS (-4611686018427387904 * 2) = (-9223372036854775808, 0) := by decide
  have n0 : nearS (-5 - 9223372036854775807) = -9223372036854775808 := by decide
  have n1 : nearS (5 - -9223372036854775808) = 9223372036854775807 := by decide
  have b0 : absS (-9223372036854775808) = 9223372036854775807 := by decide
  have b1 : clampS 5 9 3 = 9 := by decide
  go_enter Try.func9, Try.ntmps9
  go_wp2_with fail
  refine (add_any 9223372036854775807 1 _ (by decide) (by decide)).mono ?_
  rw [a0]
  rintro e w1 ⟨rfl, rfl⟩
  go_wp2_with fail
  refine (sub_any (-9223372036854775808) 1 _ (by decide) (by decide)).mono ?_
  rw [a1]
  rintro e w1 ⟨rfl, rfl⟩
  go_wp2_with fail
  refine (sub_any 0 (-9223372036854775808) _ (by decide) (by decide)).mono ?_
  rw [a2]
  rintro e w1 ⟨rfl, rfl⟩
  go_wp2_with fail
  refine (sub_any (-1) (-9223372036854775808) _ (by decide) (by decide)).mono ?_
  rw [a3]
  rintro e w1 ⟨rfl, rfl⟩
  go_wp2_with fail
  refine (mul_any (-9223372036854775808) (-1) _ (by decide) (by decide)).mono ?_
  rw [a4]
  rintro e w1 ⟨rfl, rfl⟩
  go_wp2_with fail
  refine (mul_any (-4611686018427387904) 2 _ (by decide) (by decide)).mono ?_
  rw [a5]
  rintro e w1 ⟨rfl, rfl⟩
  go_wp2_with fail
  refine (muldiv_any 1 1 0 _ (by decide) (by decide) (by decide)).mono ?_
  rw [m0]
  rintro e w2 ⟨rfl, h2⟩
  go_wp2_with fail
  refine (muldiv_any 1 1 (-5) _ (by decide) (by decide) (by decide)).mono ?_
  rw [m1]
  rintro e w3 ⟨rfl, h3⟩
  go_wp2_with fail
  refine (muldiv_any (-9223372036854775808) (-9223372036854775808) 9223372036854775807 _ (by decide) (by decide) (by decide)).mono ?_
  rw [m2]
  rintro e w4 ⟨rfl, h4⟩
  go_wp2_with fail
  refine (muldiv_any (-9223372036854775808) 1 1 _ (by decide) (by decide) (by decide)).mono ?_
  rw [m3]
  rintro e w5 ⟨rfl, h5⟩
  go_wp2_with fail
  refine (muldivup_any 9223372036854775807 9223372036854775807 9223372036854775806 _ (by decide) (by decide) (by decide)).mono ?_
  rw [m4]
  rintro e w6 ⟨rfl, h6⟩
  go_wp2_with fail
  refine (awake_holds _).mono ?_
  rintro e w7 ⟨rfl, h7⟩
  go_wp2_with fail
  refine (subsat_any (-5) 9223372036854775807 _ (by decide) (by decide)).mono ?_
  rw [n0]
  rintro e w8 ⟨rfl, rfl⟩
  go_wp2_with fail
  refine (subsat_any 5 (-9223372036854775808) _ (by decide) (by decide)).mono ?_
  rw [n1]
  rintro e w8 ⟨rfl, rfl⟩
  go_wp2_with fail
  refine (sqrt_int 18446744073709551615 4294967295 _ (by decide) (by decide) (by decide) (by decide)).mono ?_
  rintro e w8 ⟨rfl, rfl⟩
  go_wp2_with fail
  refine (sqrt_int 0 0 _ (by decide) (by decide) (by decide) (by decide)).mono ?_
  rintro e w8 ⟨rfl, rfl⟩
  go_wp2_with fail
  refine (abs_any (-9223372036854775808) _ (by decide)).mono ?_
  rw [b0]
  rintro e w8 ⟨rfl, rfl⟩
  go_wp2_with fail
  refine (clamp_any 5 9 3 _).mono ?_
  rw [b1]
  rintro e w8 ⟨rfl, rfl⟩
  go_wp2_with fail
  go_ret
  exact ⟨rfl, ((((h2.trans h3).trans h4).trans h5).trans h6).trans h7⟩

theorem mulDiv_same (up : Bool) (a b : Int) (hb : 0 < b) (ha : -9223372036854775808 ≤ a ∧ a ≤ 9223372036854775807) : mulDivS up a b b = (a, 0) := by
  have h1 : a * b / b = a := Int.mul_ediv_cancel a (by omega)
  have h2 : -(-(a * b) / b) = a := by rw [← Int.neg_mul, Int.mul_ediv_cancel _ (by omega)]; omega
  unfold mulDivS
  rw [if_neg (by omega)]
  cases up
  · simp only [Bool.false_eq_true, if_false, h1]; rw [if_pos ha]
  · simp only [if_true, h2]; rw [if_pos ha]
theorem absS_nonneg (a : Int) (ha : -9223372036854775808 ≤ a ∧ a ≤ 9223372036854775807) : 0 ≤ absS a := by unfold absS; (repeat' split) <;> omega
set_option maxRecDepth 100000 in
set_option maxHeartbeats 2000000 in
theorem back_fits_pos (a b : Int) (w : World) (ha : -9223372036854775808 ≤ a ∧ a ≤ 9223372036854775807) (hb : -9223372036854775808 ≤ b ∧ b ≤ 9223372036854775807) (k : (-9223372036854775808 ≤ a + b ∧ a + b ≤ 9223372036854775807) ∧ 0 < b) :
    Calls Try.prog 7 #[.int .i64 a, .int .i64 b] w fun e w' => e = .returned (.bool true) ∧ Stp [] w w' := by
  have c1 := fun w => add_any a b w ha hb
  have c2 := fun w => addsat_any a b w ha hb
  have c5 := fun w => abs_any a w ha
  have hab := absS_nonneg a ha
  have f1 : fitS (a + b) = (a + b, 0) := by rw [fitS, if_pos (by omega)]
  have f2 : nearS (a + b) = a + b := by unfold nearS; rw [if_neg (by omega), if_neg (by omega)]
  have c3 := fun w => sub_any (a + b) b w (by omega) hb
  have f3 : fitS (a + b - b) = (a, 0) := by rw [show a + b - b = a by omega, fitS, if_pos ha]
  have c4 := fun w => add_any b a w hb ha
  have f4 : fitS (b + a) = (a + b, 0) := by rw [Int.add_comm, f1]
  rw [f1] at c1
  rw [f2] at c2
  rw [f3] at c3
  rw [f4] at c4
  clear f1 f2 f3 f4
  have c6 := fun w => muldiv_any a b b w ha hb hb
  have c7 := fun w => muldivup_any a b b w ha hb hb
  rw [mulDiv_same false a b (by omega) ha] at c6
  rw [mulDiv_same true a b (by omega) ha] at c7
  generalize absS a = z at *
  obtain ⟨a0, a1⟩ := ha
  obtain ⟨b0, b1⟩ := hb
  go_enter Try.func7, Try.ntmps7
  go_wp2_with fail
  refine (c1 _).mono ?_
  rintro e w1 ⟨rfl, rfl⟩
  go_wp2_with fail
  refine (c3 _).mono ?_
  rintro e w1 ⟨rfl, rfl⟩
  go_wp2_with fail
  refine (c4 _).mono ?_
  rintro e w1 ⟨rfl, rfl⟩
  go_wp2_with fail
  refine (c2 _).mono ?_
  rintro e w1 ⟨rfl, rfl⟩
  go_wp2_with fail
  refine (c6 _).mono ?_
  rintro e w1 ⟨rfl, h6⟩
  go_wp2_with fail
  refine (c7 _).mono ?_
  rintro e w1 ⟨rfl, h7⟩
  go_wp2_with fail
  refine (awake_holds _).mono ?_
  rintro e w1 ⟨rfl, h8⟩
  go_wp2_with fail
  refine (c5 _).mono ?_
  rintro e w1 ⟨rfl, rfl⟩
  go_wp2_with fail
  go_ret
  exact ⟨ret_bool (by first | rfl | (simp; omega)), ((h6).trans h7).trans h8⟩
set_option maxRecDepth 100000 in
set_option maxHeartbeats 2000000 in
theorem back_fits_neg (a b : Int) (w : World) (ha : -9223372036854775808 ≤ a ∧ a ≤ 9223372036854775807) (hb : -9223372036854775808 ≤ b ∧ b ≤ 9223372036854775807) (k : (-9223372036854775808 ≤ a + b ∧ a + b ≤ 9223372036854775807) ∧ ¬ 0 < b) :
    Calls Try.prog 7 #[.int .i64 a, .int .i64 b] w fun e w' => e = .returned (.bool true) ∧ Stp [] w w' := by
  have c1 := fun w => add_any a b w ha hb
  have c2 := fun w => addsat_any a b w ha hb
  have c5 := fun w => abs_any a w ha
  have hab := absS_nonneg a ha
  have f1 : fitS (a + b) = (a + b, 0) := by rw [fitS, if_pos (by omega)]
  have f2 : nearS (a + b) = a + b := by unfold nearS; rw [if_neg (by omega), if_neg (by omega)]
  have c3 := fun w => sub_any (a + b) b w (by omega) hb
  have f3 : fitS (a + b - b) = (a, 0) := by rw [show a + b - b = a by omega, fitS, if_pos ha]
  have c4 := fun w => add_any b a w hb ha
  have f4 : fitS (b + a) = (a + b, 0) := by rw [Int.add_comm, f1]
  rw [f1] at c1
  rw [f2] at c2
  rw [f3] at c3
  rw [f4] at c4
  clear f1 f2 f3 f4
  generalize absS a = z at *
  obtain ⟨a0, a1⟩ := ha
  obtain ⟨b0, b1⟩ := hb
  go_enter Try.func7, Try.ntmps7
  go_wp2_with fail
  refine (c1 _).mono ?_
  rintro e w1 ⟨rfl, rfl⟩
  go_wp2_with fail
  refine (c3 _).mono ?_
  rintro e w1 ⟨rfl, rfl⟩
  go_wp2_with fail
  refine (c4 _).mono ?_
  rintro e w1 ⟨rfl, rfl⟩
  go_wp2_with fail
  refine (c2 _).mono ?_
  rintro e w1 ⟨rfl, rfl⟩
  go_wp2_with fail
  refine (awake_holds _).mono ?_
  rintro e w1 ⟨rfl, h8⟩
  go_wp2_with fail
  refine (c5 _).mono ?_
  rintro e w1 ⟨rfl, rfl⟩
  go_wp2_with fail
  go_ret
  exact ⟨ret_bool (by first | rfl | (simp; omega)), h8⟩
set_option maxRecDepth 100000 in
set_option maxHeartbeats 2000000 in
theorem back_over (a b : Int) (w : World) (ha : -9223372036854775808 ≤ a ∧ a ≤ 9223372036854775807) (hb : -9223372036854775808 ≤ b ∧ b ≤ 9223372036854775807) (k : 9223372036854775807 < a + b) :
    Calls Try.prog 7 #[.int .i64 a, .int .i64 b] w fun e w' => e = .returned (.bool true) ∧ Stp [] w w' := by
  have c1 := fun w => add_any a b w ha hb
  have c2 := fun w => addsat_any a b w ha hb
  have c5 := fun w => abs_any a w ha
  have hab := absS_nonneg a ha
  have f1 : fitS (a + b) = (0, 20) := by rw [fitS, if_neg (by omega)]
  have f2 : nearS (a + b) = 9223372036854775807 := by unfold nearS; (repeat' split) <;> omega
  rw [f1] at c1
  rw [f2] at c2
  clear f1 f2
  have c6 := fun w => muldiv_any a b b w ha hb hb
  have c7 := fun w => muldivup_any a b b w ha hb hb
  rw [mulDiv_same false a b (by omega) ha] at c6
  rw [mulDiv_same true a b (by omega) ha] at c7
  generalize absS a = z at *
  obtain ⟨a0, a1⟩ := ha
  obtain ⟨b0, b1⟩ := hb
  go_enter Try.func7, Try.ntmps7
  go_wp2_with fail
  refine (c1 _).mono ?_
  rintro e w1 ⟨rfl, rfl⟩
  go_wp2_with fail
  refine (c2 _).mono ?_
  rintro e w1 ⟨rfl, rfl⟩
  go_wp2_with fail
  refine (c6 _).mono ?_
  rintro e w1 ⟨rfl, h6⟩
  go_wp2_with fail
  refine (c7 _).mono ?_
  rintro e w1 ⟨rfl, h7⟩
  go_wp2_with fail
  refine (awake_holds _).mono ?_
  rintro e w1 ⟨rfl, h8⟩
  go_wp2_with fail
  refine (c5 _).mono ?_
  rintro e w1 ⟨rfl, rfl⟩
  go_wp2_with fail
  go_ret
  exact ⟨ret_bool (by first | rfl | (simp; omega)), ((h6).trans h7).trans h8⟩
set_option maxRecDepth 100000 in
set_option maxHeartbeats 2000000 in
theorem back_under (a b : Int) (w : World) (ha : -9223372036854775808 ≤ a ∧ a ≤ 9223372036854775807) (hb : -9223372036854775808 ≤ b ∧ b ≤ 9223372036854775807) (k : a + b < -9223372036854775808) :
    Calls Try.prog 7 #[.int .i64 a, .int .i64 b] w fun e w' => e = .returned (.bool true) ∧ Stp [] w w' := by
  have c1 := fun w => add_any a b w ha hb
  have c2 := fun w => addsat_any a b w ha hb
  have c5 := fun w => abs_any a w ha
  have hab := absS_nonneg a ha
  have f1 : fitS (a + b) = (0, 20) := by rw [fitS, if_neg (by omega)]
  have f2 : nearS (a + b) = -9223372036854775808 := by unfold nearS; (repeat' split) <;> omega
  rw [f1] at c1
  rw [f2] at c2
  clear f1 f2
  generalize absS a = z at *
  obtain ⟨a0, a1⟩ := ha
  obtain ⟨b0, b1⟩ := hb
  have ka : a < 0 := by omega
  have kb : b < 0 := by omega
  have ka' : decide (a < 0) = true := decide_eq_true ka
  have kb' : decide (b < 0) = true := decide_eq_true kb
  go_enter Try.func7, Try.ntmps7
  go_wp2_with fail
  refine (c1 _).mono ?_
  rintro e w1 ⟨rfl, rfl⟩
  go_wp2_with fail
  refine (c2 _).mono ?_
  rintro e w1 ⟨rfl, rfl⟩
  go_wp2_with fail
  refine (awake_holds _).mono ?_
  rintro e w1 ⟨rfl, h8⟩
  go_wp2_with fail
  refine (c5 _).mono ?_
  rintro e w1 ⟨rfl, rfl⟩
  go_wp2_with fail
  go_ret
  exact ⟨ret_bool (by first | rfl | (simp; omega)), h8⟩
theorem fixBack_walk (a b : Int) (w : World) (ha : -9223372036854775808 ≤ a ∧ a ≤ 9223372036854775807) (hb : -9223372036854775808 ≤ b ∧ b ≤ 9223372036854775807) :
    Calls Try.prog 7 #[.int .i64 a, .int .i64 b] w fun e w' => e = .returned (.bool true) ∧ Stp [] w w' := by
  by_cases h : 9223372036854775807 < a + b
  · exact back_over a b w ha hb h
  · by_cases h2 : a + b < -9223372036854775808
    · exact back_under a b w ha hb h2
    · by_cases h3 : 0 < b
      · exact back_fits_pos a b w ha hb ⟨⟨by omega, by omega⟩, h3⟩
      · exact back_fits_neg a b w ha hb ⟨⟨by omega, by omega⟩, h3⟩

end Go.Proofs.Ytkiphpppkameoaa
