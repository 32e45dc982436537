/- WallSlews' plain facts. -/
import Derived.Test.YtejcckjakhllpaaWallW
import Derived.Outline
namespace Go.Proofs.Ytejcckjakhllpaa
open Go.RowKit
set_option linter.unusedVariables false
set_option linter.unusedSimpArgs false

theorem ableS_mm (n : Int) : ableS n = max (-500000) (min n 500000) := by unfold ableS clampS; (repeat' split) <;> omega
theorem timeS_id {s : Int} (h : 0 ≤ s ∧ s ≤ 4611686018427387904) : timeS s = s := by unfold timeS clampS; (repeat' split) <;> omega
theorem div_nonpos {x s : Int} (hx : x ≤ 0) (hs : 0 < s) : x / s ≤ 0 := by
  apply Int.not_lt.1
  intro h
  have h1 := Int.mul_ediv_add_emod x s
  have h2 := Int.emod_nonneg x (show s ≠ 0 by omega)
  have h3 := Int.mul_le_mul_of_nonneg_left (show 1 ≤ x / s from h) (show 0 ≤ s by omega)
  rw [Int.mul_one] at h3
  omega
theorem rateS_pos (a s : Int) (ha : 0 ≤ a) (hs : 0 < s ∧ s ≤ 4611686018427387904) : rateS a s = min (-((-(a * 1000000000)) / s)) 500000 := by
  have h0 : 0 ≤ -((-(a * 1000000000)) / s) := by
    have := div_nonpos (x := -(a * 1000000000)) (s := s) (by omega) (by omega)
    omega
  unfold rateS
  rw [timeS_id (by omega), if_neg (by omega), if_neg (by omega)]
  unfold mulDivS
  rw [if_neg (show ¬ s ≤ 0 by omega)]
  simp only [if_true]
  rw [ableS_mm]
  generalize -((-(a * 1000000000)) / s) = q at *
  split
  · simp only [if_true]; omega
  · simp only [Int.reduceEq, if_false]; omega
theorem rateS_neg (a s : Int) (ha : a < 0) (hs : 0 < s ∧ s ≤ 4611686018427387904) : rateS a s = max (a * 1000000000 / s) (-500000) := by
  have h0 : a * 1000000000 / s ≤ 0 := div_nonpos (by omega) (by omega)
  unfold rateS
  rw [timeS_id (by omega), if_neg (by omega), if_pos ha]
  unfold mulDivS
  rw [if_neg (show ¬ s ≤ 0 by omega)]
  simp only [Bool.false_eq_true, if_false]
  rw [ableS_mm]
  generalize a * 1000000000 / s = q at *
  split
  · simp only [if_true]; omega
  · simp only [Int.reduceEq, if_false]; omega
theorem slewedS_id (r s : Int) (hr : -500000 ≤ r ∧ r ≤ 500000) (hs : 0 ≤ s ∧ s ≤ 4611686018427387904) : slewedS r s = s * r / 1000000000 := by
  unfold slewedS
  rw [timeS_id hs, ableS_mm]
  have : max (-500000) (min r 500000) = r := by omega
  rw [this]

/-- A rate's facts. -/
theorem rate_facts (a s : Int) (hs : 0 < s ∧ s ≤ 1125899906842624) (ha : -1125899906842624 < a ∧ a < 1125899906842624) : ∃ r d, rateS a s = r ∧ slewedS r s = d ∧ d = s * r / 1000000000 ∧ -500000 ≤ r ∧ r ≤ 500000 ∧
    ((0 < a ∧ 0 < r ∧ r < 500000 ∧ a ≤ d ∧ d - a ≤ s / 1000000000 + 1) ∨ (0 < a ∧ r = 500000) ∨ (a < 0 ∧ r < 0 ∧ -500000 < r ∧ d ≤ a ∧ a - d ≤ s / 1000000000 + 1) ∨ (a < 0 ∧ r = -500000) ∨ (a = 0 ∧ r = 0 ∧ d = 0)) := by
  rcases Int.lt_trichotomy a 0 with h | h | h
  · have hr := rateS_neg a s h (by omega)
    have h1 := Int.mul_ediv_add_emod (a * 1000000000) s
    have h2 := Int.emod_nonneg (a * 1000000000) (show s ≠ 0 by omega)
    have h3 := Int.emod_lt_of_pos (a * 1000000000) (show 0 < s by omega)
    generalize (a * 1000000000) % s = x at *
    generalize a * 1000000000 / s = q at *
    have hq : q < 0 := by
      apply Int.not_le.1
      intro h4
      have := Int.mul_nonneg (show 0 ≤ s by omega) h4
      omega
    refine ⟨_, _, hr, slewedS_id _ s (by omega) (by omega), rfl, by omega, by omega, ?_⟩
    by_cases hb : q ≤ -500000
    · exact .inr (.inr (.inr (.inl ⟨h, by omega⟩)))
    · have e : max q (-500000) = q := by omega
      rw [e]
      refine .inr (.inr (.inl ⟨h, hq, by omega, ?_, ?_⟩))
      · generalize s * q = y at *; omega
      · generalize s * q = y at *; omega
  · subst h
    have hr := rateS_pos 0 s (by omega) (by omega)
    have e : min (-((-((0 : Int) * 1000000000)) / s)) 500000 = 0 := by
      rw [show (0 : Int) * 1000000000 = 0 by decide, Int.neg_zero, Int.zero_ediv, Int.neg_zero]
      rfl
    rw [e] at hr
    refine ⟨_, _, hr, slewedS_id _ s (by omega) (by omega), rfl, by omega, by omega, .inr (.inr (.inr (.inr ⟨rfl, rfl, by simp⟩)))⟩
  · have hr := rateS_pos a s (by omega) (by omega)
    have h1 := Int.mul_ediv_add_emod (-(a * 1000000000)) s
    have h2 := Int.emod_nonneg (-(a * 1000000000)) (show s ≠ 0 by omega)
    have h3 := Int.emod_lt_of_pos (-(a * 1000000000)) (show 0 < s by omega)
    generalize (-(a * 1000000000)) % s = x at *
    generalize -(a * 1000000000) / s = q at *
    have hq : q < 0 := by
      apply Int.not_le.1
      intro h4
      have := Int.mul_nonneg (show 0 ≤ s by omega) h4
      omega
    refine ⟨_, _, hr, slewedS_id _ s (by omega) (by omega), rfl, by omega, by omega, ?_⟩
    by_cases hb : q ≤ -500000
    · exact .inr (.inl ⟨h, by omega⟩)
    · have e : min (-q) 500000 = -q := by omega
      rw [e, Int.mul_neg]
      refine .inl ⟨h, by omega, by omega, ?_, ?_⟩
      · generalize s * q = y at *; omega
      · generalize s * q = y at *; omega
theorem both_facts (r s m : Int) : (s + m) * r / 1000000000 = s * r / 1000000000 + m * r / 1000000000 ∨ (s + m) * r / 1000000000 = s * r / 1000000000 + m * r / 1000000000 + 1 := by
  rw [Int.add_mul]
  generalize s * r = x
  generalize m * r = y
  omega
theorem slew_bd (r m : Int) (hr : -500000 ≤ r ∧ r ≤ 500000) (hm : 0 ≤ m ∧ m ≤ 2251799813685248) : -1125899906843 ≤ m * r / 1000000000 ∧ m * r / 1000000000 ≤ 1125899906843 := by
  have h1 : m * r ≤ m * 500000 := Int.mul_le_mul_of_nonneg_left hr.2 hm.1
  have h2 : m * (-500000) ≤ m * r := Int.mul_le_mul_of_nonneg_left hr.1 hm.1
  generalize m * r = x at *
  omega

end Go.Proofs.Ytejcckjakhllpaa
