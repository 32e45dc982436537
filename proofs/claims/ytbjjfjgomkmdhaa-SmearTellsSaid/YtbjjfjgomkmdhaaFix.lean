/- fix: what each of its functions answers. -/
import Derived.Test.YtbjjfjgomkmdhaaQuo
namespace Go.Proofs.Ytbjjfjgomkmdhaa
open Go.RowKit
set_option linter.unusedVariables false
set_option linter.unusedSimpArgs false

/-- A whole number that fits, or none and the error's number. -/
def fitS (n : Int) : Int × Int := if -9223372036854775808 ≤ n ∧ n ≤ 9223372036854775807 then (n, 0) else (0, 20)
def nearS (n : Int) : Int := if n < -9223372036854775808 then -9223372036854775808 else if n > 9223372036854775807 then 9223372036854775807 else n

def absS (a : Int) : Int := if a = -9223372036854775808 then 9223372036854775807 else if a < 0 then -a else a
def clampS (a lo hi : Int) : Int := if a < lo then lo else if a > hi then hi else a
theorem clamp_any (a lo hi : Int) (w : World) :
    Calls Try.prog 30 #[.int .i64 a, .int .i64 lo, .int .i64 hi] w fun e w' => e = .returned (.int .i64 (clampS a lo hi)) ∧ w' = w := by
  unfold clampS
  by_cases h1 : a < lo
  · rw [if_pos h1]
    go_enter Try.func30, Try.ntmps30
    go_wp2
    go_ret
    exact ⟨rfl, rfl⟩
  · rw [if_neg h1]
    by_cases h2 : a > hi
    · rw [if_pos h2]
      go_enter Try.func30, Try.ntmps30
      go_wp2
      go_ret
      exact ⟨rfl, rfl⟩
    · rw [if_neg h2]
      go_enter Try.func30, Try.ntmps30
      go_wp2
      go_ret
      exact ⟨rfl, rfl⟩

theorem muldiv_any (a b c : Int) (w : World) (ha : -9223372036854775808 ≤ a ∧ a ≤ 9223372036854775807) (hb : -9223372036854775808 ≤ b ∧ b ≤ 9223372036854775807) (hc : -9223372036854775808 ≤ c ∧ c ≤ 9223372036854775807) :
    Calls Try.prog 31 #[.int .i64 a, .int .i64 b, .int .i64 c] w fun e w' => e = .returned (.tuple #[.int .i64 (mulDivS false a b c).1, .int .i64 (mulDivS false a b c).2]) ∧ Stp [] w w' := by
  go_enter Try.func31, Try.ntmps31
  go_wp2_with fail
  refine (quotient_down a b c _ ha hb hc).mono ?_
  rintro e w1 ⟨rfl, h1⟩
  go_wp2_with fail
  go_ret2
  exact ⟨rfl, h1⟩
/-- The whole root of a number. -/
theorem root_exists (n : Nat) : ∃ r : Nat, r * r ≤ n ∧ n < (r + 1) * (r + 1) := by
  induction n with
  | zero => exact ⟨0, by decide, by decide⟩
  | succ n ih =>
    obtain ⟨r, h0, h1⟩ := ih
    by_cases h : n + 1 < (r + 1) * (r + 1)
    · exact ⟨r, by omega, h⟩
    · exact ⟨r + 1, by omega, by have : (r + 1 + 1) * (r + 1 + 1) = (r + 1) * (r + 1) + 2 * r + 3 := (by grind); omega⟩
theorem root_le {r n y : Nat} (h0 : r * r ≤ n) (h1 : n < (r + 1) * (r + 1)) : y * y ≤ n ↔ y ≤ r := by
  constructor
  · intro h
    apply Nat.le_of_not_lt
    intro hl
    have := Nat.mul_le_mul (show r + 1 ≤ y from hl) (show r + 1 ≤ y from hl)
    omega
  · intro h
    have := Nat.mul_le_mul h h
    omega
theorem root_or (q k : Nat) : (2 ^ (k + 1) * q) ||| 2 ^ k = 2 ^ (k + 1) * q + 2 ^ k := by
  rw [← Nat.two_pow_add_eq_or_of_lt (Nat.pow_lt_pow_right (by decide) (by omega))]

end Go.Proofs.Ytbjjfjgomkmdhaa
