/- fix: what each of its functions answers. -/
import Derived.Test.YtkohpeonnoegpaaQuo
namespace Go.Proofs.Ytkohpeonnoegpaa
open Go.RowKit
set_option linter.unusedVariables false
set_option linter.unusedSimpArgs false

/-- A whole number that fits, or none and the error's number. -/
def fitS (n : Int) : Int × Int := if -9223372036854775808 ≤ n ∧ n ≤ 9223372036854775807 then (n, 0) else (0, 20)
def nearS (n : Int) : Int := if n < -9223372036854775808 then -9223372036854775808 else if n > 9223372036854775807 then 9223372036854775807 else n

theorem add_any (a b : Int) (w : World) (ha : -9223372036854775808 ≤ a ∧ a ≤ 9223372036854775807) (hb : -9223372036854775808 ≤ b ∧ b ≤ 9223372036854775807) :
    Calls Try.prog 44 #[.int .i64 a, .int .i64 b] w fun e w' => e = .returned (.tuple #[.int .i64 (fitS (a + b)).1, .int .i64 (fitS (a + b)).2]) ∧ w' = w := by
  obtain ⟨a0, a1⟩ := ha
  obtain ⟨b0, b1⟩ := hb
  by_cases h : -9223372036854775808 ≤ a + b ∧ a + b ≤ 9223372036854775807
  · obtain ⟨h0, h1⟩ := h
    have e : fitS (a + b) = (a + b, 0) := by rw [fitS, if_pos ⟨h0, h1⟩]
    rw [e]
    clear e
    have hw : wrap64 (a + b) = a + b := wrap64_id h0 h1
    rcases Int.lt_trichotomy b 0 with hb | hb | hb
    · have h2 : (!(b == 0)) = true := by simp; omega
      have h3 : decide (a < a + b) = false := by simp; omega
      have h4 : decide (0 < b) = false := by simp; omega
      go_enter Try.func44, Try.ntmps44
      go_wp2
      go_ret2
      exact ⟨rfl, rfl⟩
    · subst hb
      rw [Int.add_zero]
      go_enter Try.func44, Try.ntmps44
      go_wp2
      go_ret2
      exact ⟨rfl, rfl⟩
    · have h2 : (!(b == 0)) = true := by simp; omega
      have h3 : decide (a < a + b) = true := by simp; omega
      have h4 : decide (0 < b) = true := by simp; omega
      go_enter Try.func44, Try.ntmps44
      go_wp2
      go_ret2
      exact ⟨rfl, rfl⟩
  · have e : fitS (a + b) = (0, 20) := by rw [fitS, if_neg h]
    rw [e]
    clear e
    rcases Int.lt_trichotomy b 0 with hb | hb | hb
    · have hw : wrap64 (a + b) = a + b + 18446744073709551616 := by unfold wrap64; omega
      have h2 : (!(b == 0)) = true := by simp; omega
      have h3 : decide (a < a + b + 18446744073709551616) = true := by simp; omega
      have h4 : decide (0 < b) = false := by simp; omega
      go_enter Try.func44, Try.ntmps44
      go_wp2
      go_ret2
      exact ⟨rfl, rfl⟩
    · omega
    · have hw : wrap64 (a + b) = a + b - 18446744073709551616 := by unfold wrap64; omega
      have h2 : (!(b == 0)) = true := by simp; omega
      have h3 : decide (a < a + b - 18446744073709551616) = false := by simp; omega
      have h4 : decide (0 < b) = true := by simp; omega
      go_enter Try.func44, Try.ntmps44
      go_wp2
      go_ret2
      exact ⟨rfl, rfl⟩
theorem nearest_any (n e : Int) (below : Bool) (w : World) :
    Calls Try.prog 45 #[.int .i64 n, .int .i64 e, .bool below] w fun x w' => x = .returned (.int .i64 (if e = 0 then n else if below then -9223372036854775808 else 9223372036854775807)) ∧ w' = w := by
  by_cases h : e = 0
  · subst h
    go_enter Try.func45, Try.ntmps45
    go_wp2
    go_ret
    exact ⟨rfl, rfl⟩
  · rw [if_neg h]
    have h2 : (e == 0) = false := by simp; omega
    cases below
    · go_enter Try.func45, Try.ntmps45
      go_wp2
      go_ret
      exact ⟨rfl, rfl⟩
    · go_enter Try.func45, Try.ntmps45
      go_wp2
      go_ret
      exact ⟨rfl, rfl⟩
theorem addsat_any (a b : Int) (w : World) (ha : -9223372036854775808 ≤ a ∧ a ≤ 9223372036854775807) (hb : -9223372036854775808 ≤ b ∧ b ≤ 9223372036854775807) :
    Calls Try.prog 28 #[.int .i64 a, .int .i64 b] w fun e w' => e = .returned (.int .i64 (nearS (a + b))) ∧ w' = w := by
  have key : (if (fitS (a + b)).2 = 0 then (fitS (a + b)).1 else if decide (a < 0) = true then -9223372036854775808 else 9223372036854775807) = nearS (a + b) := by
    unfold fitS nearS
    split <;> simp <;> (repeat' split) <;> omega
  have K := Lib.hid key
  clear key
  go_enter Try.func28, Try.ntmps28
  go_wp2_with fail
  refine (add_any a b _ ha hb).mono ?_
  rintro e w1 ⟨rfl, rfl⟩
  go_wp2_with fail
  refine (nearest_any _ _ _ _).mono ?_
  rw [K.out]
  rintro e w2 ⟨rfl, rfl⟩
  go_wp2_with fail
  go_ret
  exact ⟨rfl, rfl⟩
def absS (a : Int) : Int := if a = -9223372036854775808 then 9223372036854775807 else if a < 0 then -a else a
theorem abs_any (a : Int) (w : World) (h : -9223372036854775808 ≤ a ∧ a ≤ 9223372036854775807) :
    Calls Try.prog 24 #[.int .i64 a] w fun e w' => e = .returned (.int .i64 (absS a)) ∧ w' = w := by
  unfold absS
  by_cases h1 : a = -9223372036854775808
  · subst h1
    go_enter Try.func24, Try.ntmps24
    go_wp2
    go_ret
    exact ⟨rfl, rfl⟩
  · rw [if_neg h1]
    by_cases h2 : a < 0
    · rw [if_pos h2]
      go_enter Try.func24, Try.ntmps24
      go_wp2
      go_ret
      exact ⟨rfl, rfl⟩
    · rw [if_neg h2]
      go_enter Try.func24, Try.ntmps24
      go_wp2
      go_ret
      exact ⟨rfl, rfl⟩
def clampS (a lo hi : Int) : Int := if a < lo then lo else if a > hi then hi else a
theorem clamp_any (a lo hi : Int) (w : World) :
    Calls Try.prog 43 #[.int .i64 a, .int .i64 lo, .int .i64 hi] w fun e w' => e = .returned (.int .i64 (clampS a lo hi)) ∧ w' = w := by
  unfold clampS
  by_cases h1 : a < lo
  · rw [if_pos h1]
    go_enter Try.func43, Try.ntmps43
    go_wp2
    go_ret
    exact ⟨rfl, rfl⟩
  · rw [if_neg h1]
    by_cases h2 : a > hi
    · rw [if_pos h2]
      go_enter Try.func43, Try.ntmps43
      go_wp2
      go_ret
      exact ⟨rfl, rfl⟩
    · rw [if_neg h2]
      go_enter Try.func43, Try.ntmps43
      go_wp2
      go_ret
      exact ⟨rfl, rfl⟩

theorem muldiv_any (a b c : Int) (w : World) (ha : -9223372036854775808 ≤ a ∧ a ≤ 9223372036854775807) (hb : -9223372036854775808 ≤ b ∧ b ≤ 9223372036854775807) (hc : -9223372036854775808 ≤ c ∧ c ≤ 9223372036854775807) :
    Calls Try.prog 26 #[.int .i64 a, .int .i64 b, .int .i64 c] w fun e w' => e = .returned (.tuple #[.int .i64 (mulDivS false a b c).1, .int .i64 (mulDivS false a b c).2]) ∧ Stp [] w w' := by
  go_enter Try.func26, Try.ntmps26
  go_wp2_with fail
  refine (quotient_down a b c _ ha hb hc).mono ?_
  rintro e w1 ⟨rfl, h1⟩
  go_wp2_with fail
  go_ret2
  exact ⟨rfl, h1⟩
theorem muldivup_any (a b c : Int) (w : World) (ha : -9223372036854775808 ≤ a ∧ a ≤ 9223372036854775807) (hb : -9223372036854775808 ≤ b ∧ b ≤ 9223372036854775807) (hc : -9223372036854775808 ≤ c ∧ c ≤ 9223372036854775807) :
    Calls Try.prog 46 #[.int .i64 a, .int .i64 b, .int .i64 c] w fun e w' => e = .returned (.tuple #[.int .i64 (mulDivS true a b c).1, .int .i64 (mulDivS true a b c).2]) ∧ Stp [] w w' := by
  go_enter Try.func46, Try.ntmps46
  go_wp2_with fail
  refine (quotient_up a b c _ ha hb hc).mono ?_
  rintro e w1 ⟨rfl, h1⟩
  go_wp2_with fail
  go_ret2
  exact ⟨rfl, h1⟩

/-- The whole root of a number. -/
theorem root_exists (n : Nat) : ∃ r : Nat, r * r ≤ n ∧ n < (r + 1) * (r + 1) := by
  induction n with
  | zero => exact ⟨0, by decide, by decide⟩
  | succ n ih =>
    obtain ⟨r, h0, h1⟩ := ih
    by_cases h : n + 1 < (r + 1) * (r + 1)
    · exact ⟨r, by omega, h⟩
    · exact ⟨r + 1, by omega, by have : (r + 1 + 1) * (r + 1 + 1) = (r + 1) * (r + 1) + 2 * r + 3 := (by grind); omega⟩
theorem root_le {r n y : Nat} (h0 : r * r ≤ n) (h1 : n < (r + 1) * (r + 1)) : y * y ≤ n ↔ y ≤ r := by
  constructor
  · intro h
    apply Nat.le_of_not_lt
    intro hl
    have := Nat.mul_le_mul (show r + 1 ≤ y from hl) (show r + 1 ≤ y from hl)
    omega
  · intro h
    have := Nat.mul_le_mul h h
    omega
theorem root_or (q k : Nat) : (2 ^ (k + 1) * q) ||| 2 ^ k = 2 ^ (k + 1) * q + 2 ^ k := by
  rw [← Nat.two_pow_add_eq_or_of_lt (Nat.pow_lt_pow_right (by decide) (by omega))]

end Go.Proofs.Ytkohpeonnoegpaa
