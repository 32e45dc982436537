/- fix: the document's examples; between two; roots. -/
import Derived.Test.YtkiphpppkameoaaFix
namespace Go.Proofs.Ytkiphpppkameoaa
open Go.RowKit
set_option linter.unusedVariables false
set_option linter.unusedSimpArgs false

theorem awake_holds (w : World) : Calls Try.prog 13 #[] w fun e w' => e = .returned (.bool true) ∧ Stp [] w w' := by
  have m1 : mulDivS false (-7) 1 2 = (-4, 0) := by decide
  have m2 : mulDivS true (-7) 1 2 = (-3, 0) := by decide
  have m3 : mulDivS false 4611686018427387904 4 8 = (2305843009213693952, 0) := by decide
  have m4 : mulDivS false 4611686018427387904 4 2 = (0, 20) := by decide
  have m5 : nearS (9223372036854775807 + 1) = 9223372036854775807 := by decide
  go_enter Try.func13, Try.ntmps13
  go_wp2_with fail
  refine (muldiv_any (-7) 1 2 _ (by decide) (by decide) (by decide)).mono ?_
  rw [m1]
  rintro e w1 ⟨rfl, h1⟩
  go_wp2_with fail
  refine (muldivup_any (-7) 1 2 _ (by decide) (by decide) (by decide)).mono ?_
  rw [m2]
  rintro e w2 ⟨rfl, h2⟩
  go_wp2_with fail
  refine (muldiv_any 4611686018427387904 4 8 _ (by decide) (by decide) (by decide)).mono ?_
  rw [m3]
  rintro e w3 ⟨rfl, h3⟩
  go_wp2_with fail
  refine (muldiv_any 4611686018427387904 4 2 _ (by decide) (by decide) (by decide)).mono ?_
  rw [m4]
  rintro e w4 ⟨rfl, h4⟩
  go_wp2_with fail
  refine (sqrt_any 15 3 _ (by decide) (by decide) (by decide)).mono ?_
  rintro e w5 ⟨rfl, rfl⟩
  go_wp2_with fail
  refine (sqrt_any 16 4 _ (by decide) (by decide) (by decide)).mono ?_
  rintro e w5 ⟨rfl, rfl⟩
  go_wp2_with fail
  refine (addsat_any 9223372036854775807 1 _ (by decide) (by decide)).mono ?_
  rw [m5]
  rintro e w5 ⟨rfl, rfl⟩
  go_wp2_with fail
  go_ret
  exact ⟨rfl, ((h1.trans h2).trans h3).trans h4⟩

theorem clamps_below (a lo hi : Int) (w : World) (k : a < lo) :
    Calls Try.prog 6 #[.int .i64 a, .int .i64 lo, .int .i64 hi] w fun e w' => e = .returned (.bool true) ∧ Stp [] w w' := by
  have c1 := fun w => clamp_any a lo hi w
  have e1 : clampS a lo hi = lo := by unfold clampS; (repeat' split) <;> omega
  rw [e1] at c1
  clear e1
  by_cases k1 : hi < lo
  · go_enter Try.func6, Try.ntmps6
    go_wp2_with fail
    refine (c1 _).mono ?_
    rintro e w1 ⟨rfl, rfl⟩
    go_wp2_with fail
    refine (awake_holds _).mono ?_
    rintro e w2 ⟨rfl, h2⟩
    go_wp2_with fail
    go_ret
    exact ⟨rfl, h2⟩
  · have c2 := fun w => clamp_any (lo) lo hi w
    have e2 : clampS (lo) lo hi = lo := by unfold clampS; (repeat' split) <;> omega
    rw [e2] at c2
    clear e2
    go_enter Try.func6, Try.ntmps6
    go_wp2_with fail
    refine (c1 _).mono ?_
    rintro e w1 ⟨rfl, rfl⟩
    go_wp2_with fail
    refine (awake_holds _).mono ?_
    rintro e w2 ⟨rfl, h2⟩
    go_wp2_with fail
    refine (c2 _).mono ?_
    rintro e w3 ⟨rfl, rfl⟩
    go_wp2_with fail
    go_ret
    exact ⟨rfl, h2⟩
theorem clamps_above (a lo hi : Int) (w : World) (k : ¬ a < lo ∧ hi < a) :
    Calls Try.prog 6 #[.int .i64 a, .int .i64 lo, .int .i64 hi] w fun e w' => e = .returned (.bool true) ∧ Stp [] w w' := by
  have c1 := fun w => clamp_any a lo hi w
  have e1 : clampS a lo hi = hi := by unfold clampS; (repeat' split) <;> omega
  rw [e1] at c1
  clear e1
  by_cases k1 : hi < lo
  · go_enter Try.func6, Try.ntmps6
    go_wp2_with fail
    refine (c1 _).mono ?_
    rintro e w1 ⟨rfl, rfl⟩
    go_wp2_with fail
    refine (awake_holds _).mono ?_
    rintro e w2 ⟨rfl, h2⟩
    go_wp2_with fail
    go_ret
    exact ⟨rfl, h2⟩
  · have c2 := fun w => clamp_any (hi) lo hi w
    have e2 : clampS (hi) lo hi = hi := by unfold clampS; (repeat' split) <;> omega
    rw [e2] at c2
    clear e2
    go_enter Try.func6, Try.ntmps6
    go_wp2_with fail
    refine (c1 _).mono ?_
    rintro e w1 ⟨rfl, rfl⟩
    go_wp2_with fail
    refine (awake_holds _).mono ?_
    rintro e w2 ⟨rfl, h2⟩
    go_wp2_with fail
    refine (c2 _).mono ?_
    rintro e w3 ⟨rfl, rfl⟩
    go_wp2_with fail
    go_ret
    exact ⟨rfl, h2⟩
theorem clamps_between (a lo hi : Int) (w : World) (k : ¬ a < lo ∧ ¬ hi < a) :
    Calls Try.prog 6 #[.int .i64 a, .int .i64 lo, .int .i64 hi] w fun e w' => e = .returned (.bool true) ∧ Stp [] w w' := by
  have c1 := fun w => clamp_any a lo hi w
  have e1 : clampS a lo hi = a := by unfold clampS; (repeat' split) <;> omega
  rw [e1] at c1
  clear e1
  by_cases k1 : hi < lo
  · omega
  · have c2 := fun w => clamp_any (a) lo hi w
    have e2 : clampS (a) lo hi = a := by unfold clampS; (repeat' split) <;> omega
    rw [e2] at c2
    clear e2
    go_enter Try.func6, Try.ntmps6
    go_wp2_with fail
    refine (c1 _).mono ?_
    rintro e w1 ⟨rfl, rfl⟩
    go_wp2_with fail
    refine (awake_holds _).mono ?_
    rintro e w2 ⟨rfl, h2⟩
    go_wp2_with fail
    refine (c2 _).mono ?_
    rintro e w3 ⟨rfl, rfl⟩
    go_wp2_with fail
    go_ret
    exact ⟨rfl, h2⟩
theorem fixClamps_walk (a lo hi : Int) (w : World) (ha : -9223372036854775808 ≤ a ∧ a ≤ 9223372036854775807) (hl : -9223372036854775808 ≤ lo ∧ lo ≤ 9223372036854775807) (hh : -9223372036854775808 ≤ hi ∧ hi ≤ 9223372036854775807) :
    Calls Try.prog 6 #[.int .i64 a, .int .i64 lo, .int .i64 hi] w fun e w' => e = .returned (.bool true) ∧ Stp [] w w' := by
  by_cases k1 : a < lo
  · exact clamps_below a lo hi w k1
  · by_cases k2 : hi < a
    · exact clamps_above a lo hi w ⟨k1, k2⟩
    · exact clamps_between a lo hi w ⟨k1, k2⟩

theorem mul64_any (x y : Int) (hx : 0 ≤ x ∧ x ≤ 18446744073709551615) (hy : 0 ≤ y ∧ y ≤ 18446744073709551615) (w : World) :
    Calls Try.prog 16 #[.int .u64 x, .int .u64 y] w fun e w' => e = .returned (.tuple #[.int .u64 (x * y / 18446744073709551616), .int .u64 (x * y % 18446744073709551616)]) ∧ w' = w := by
  obtain ⟨a, rfl⟩ := Int.eq_ofNat_of_zero_le hx.1
  obtain ⟨b, rfl⟩ := Int.eq_ofNat_of_zero_le hy.1
  have h := Try.bits_Mul64 a b (by omega) (by omega) w
  rw [show ((a * b / 18446744073709551616 : Nat) : Int) = (a : Int) * b / 18446744073709551616 by rw [Int.natCast_ediv, Int.natCast_mul]; rfl, show ((a * b % 18446744073709551616 : Nat) : Int) = (a : Int) * b % 18446744073709551616 by rw [Int.natCast_emod, Int.natCast_mul]; rfl] at h
  exact h
theorem sqrt_int (n r : Int) (w : World) (hn : n ≤ 18446744073709551615) (r0 : 0 ≤ r) (h0 : r * r ≤ n) (h1 : n < (r + 1) * (r + 1)) :
    Calls Try.prog 14 #[.int .u64 n] w fun e w' => e = .returned (.int .u64 r) ∧ w' = w := by
  obtain ⟨b, rfl⟩ := Int.eq_ofNat_of_zero_le r0
  obtain ⟨a, rfl⟩ := Int.eq_ofNat_of_zero_le (show 0 ≤ n by have := Int.mul_nonneg r0 r0; omega)
  exact sqrt_any a b w (by omega) (by exact_mod_cast h0) (by exact_mod_cast h1)
theorem root_int (n : Int) (h0 : 0 ≤ n) (h1 : n ≤ 18446744073709551615) : ∃ r : Int, 0 ≤ r ∧ r ≤ 4294967295 ∧ r * r ≤ n ∧ n < (r + 1) * (r + 1) := by
  obtain ⟨a, rfl⟩ := Int.eq_ofNat_of_zero_le h0
  obtain ⟨r, h2, h3⟩ := root_exists a
  refine ⟨r, by omega, ?_, by exact_mod_cast h2, by exact_mod_cast h3⟩
  have hr : r < 4294967296 := by
    apply Nat.lt_of_not_le
    intro h
    have := Nat.mul_le_mul h h
    omega
  omega
theorem root_mono {n m r q : Int} (hnm : n ≤ m) (r0 : 0 ≤ r) (q0 : 0 ≤ q) (h0 : r * r ≤ n) (h1 : m < (q + 1) * (q + 1)) : r ≤ q := by
  apply Int.not_lt.1
  intro h
  have := Int.mul_le_mul (show q + 1 ≤ r from h) (show q + 1 ≤ r from h) (by omega) r0
  omega

set_option maxHeartbeats 1000000 in
theorem fixRoots_walk (n m : Int) (w : World) (hn : 0 ≤ n ∧ n ≤ 18446744073709551615) (hm : 0 ≤ m ∧ m ≤ 18446744073709551615) :
    Calls Try.prog 4 #[.int .u64 n, .int .u64 m] w fun e w' => e = .returned (.bool true) ∧ Stp [] w w' := by
  obtain ⟨n0, n1⟩ := hn
  obtain ⟨m0, m1⟩ := hm
  obtain ⟨r, r0, r1, hr0, hr1⟩ := root_int n n0 n1
  obtain ⟨q, q0, q1, hq0, hq1⟩ := root_int m m0 m1
  obtain ⟨k, hk⟩ : ∃ k, m % 4294967296 = k := ⟨_, rfl⟩
  have k0 : 0 ≤ k ∧ k ≤ 4294967295 := by omega
  have kk0 : 0 ≤ k * k := Int.mul_nonneg k0.1 k0.1
  have kk1 : k * k ≤ 4294967295 * 4294967295 := Int.mul_le_mul k0.2 k0.2 k0.1 (by decide)
  have cn := fun w => sqrt_int n r w n1 r0 hr0 hr1
  have cm := fun w => sqrt_int m q w m1 q0 hq0 hq1
  have ck := fun w => sqrt_int (k * k) k w (by omega) k0.1 (by omega) (by grind)
  have hkk : IntKind.u64.wrap (k * k) = k * k := by rw [wrap_u64]; omega
  have hrr0 : 0 ≤ r * r := Int.mul_nonneg r0 r0
  have hrr : IntKind.u64.wrap (r * r) = r * r := by rw [wrap_u64]; omega
  have hrn : r * r ≤ n := hr0
  have hmono : n ≤ m → r ≤ q := fun h => root_mono h r0 q0 hr0 hq1
  have c64 := fun w => mul64_any (r + 1) (r + 1) (by omega) (by omega) w
  obtain ⟨hi, hhi⟩ : ∃ hi, (r + 1) * (r + 1) / 18446744073709551616 = hi := ⟨_, rfl⟩
  obtain ⟨lo, hlo⟩ : ∃ lo, (r + 1) * (r + 1) % 18446744073709551616 = lo := ⟨_, rfl⟩
  rw [hhi, hlo] at c64
  have key : (hi = 0 ∧ ¬ lo ≤ n) ∨ (hi == 0) = false := by
    have := Int.mul_nonneg (show 0 ≤ r + 1 by omega) (show 0 ≤ r + 1 by omega)
    simp only [beq_eq_false_iff_ne]
    omega
  have three : (n ≤ m ∧ r ≤ q) ∨ (¬ n ≤ m ∧ r ≤ q) ∨ (¬ n ≤ m ∧ ¬ r ≤ q) := by
    by_cases h : n ≤ m
    · exact .inl ⟨h, hmono h⟩
    · omega
  clear hr0 hr1 hq0 hq1 kk0 hhi hlo hmono
  rcases key with ⟨rfl, hlo⟩ | hhi <;> rcases three with ⟨hnm, hrq⟩ | ⟨hnm, hrq⟩ | ⟨hnm, hrq⟩
  all_goals
    go_enter Try.func4, Try.ntmps4
    go_wp2_with fail
    refine (cn _).mono ?_
    rintro e w1 ⟨rfl, rfl⟩
    go_wp2_with fail
    refine (c64 _).mono ?_
    rintro e w2 ⟨rfl, rfl⟩
    go_wp2_with fail
    refine (awake_holds _).mono ?_
    rintro e w3 ⟨rfl, h3⟩
    go_wp2_with fail
    refine (ck _).mono ?_
    rintro e w4 ⟨rfl, rfl⟩
    go_wp2_with fail
    refine (cn _).mono ?_
    rintro e w5 ⟨rfl, rfl⟩
    go_wp2_with fail
    refine (cm _).mono ?_
    rintro e w6 ⟨rfl, rfl⟩
    go_wp2_with fail
    go_ret
    exact ⟨ret_bool (by first | rfl | (simp; omega)), h3⟩

end Go.Proofs.Ytkiphpppkameoaa
