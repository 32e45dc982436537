/- stamp: dates. -/
import Derived.Test.YtnkkfmiacbkdpaaStamp
import Derived.Outline
namespace Go.Proofs.Ytnkkfmiacbkdpaa
open Go.RowKit
set_option linter.unusedVariables false
set_option linter.unusedSimpArgs false

theorem up_div (x : Int) : (x + 999999999) / 1000000000 = if x % 1000000000 ≤ 0 then x / 1000000000 else x / 1000000000 + 1 := by
  split <;> omega
theorem frac_facts (r : Int) (r0 : 0 ≤ r) (r1 : r ≤ 999999999) : ∃ q s, r * 18446744073709551616 / 1000000000 = q ∧ r * 18446744073709551616 % 1000000000 = s ∧ 0 ≤ q ∧ q ≤ 18446744073709551614 ∧ 0 ≤ s ∧ (r * 18446744073709551616 + 999999999) / 1000000000 = if s ≤ 0 then q else q + 1 := by
  have h0 : 0 ≤ r * 18446744073709551616 := by omega
  have h1 : r * 18446744073709551616 ≤ 18446744055262807542290448384 := by omega
  generalize r * 18446744073709551616 = x at *
  exact ⟨_, _, rfl, rfl, by omega, by omega, by omega, up_div x⟩

theorem nsdate_any (n : Int) (w : World) (h : -9223372036854775808 ≤ n ∧ n ≤ 9223372036854775807) :
    Calls Try.prog 8 #[.int .i64 n] w fun e w' => e = .returned (dateS n).val ∧ Stp [] w w' := by
  have p1 := fun w => parts_any n w h
  have hera : -2147483648 ≤ n / 1000000000 / 4294967296 ∧ n / 1000000000 / 4294967296 ≤ 2147483647 := by omega
  show Calls Try.prog 8 #[.int .i64 n] w fun e w' => e = .returned (.agg #[.int .i32 (n / 1000000000 / 4294967296), .int .u32 (n / 1000000000 % 4294967296), .int .u64 ((n % 1000000000 * 18446744073709551616 + 999999999) / 1000000000)]) ∧ Stp [] w w'
  obtain ⟨a, ha⟩ : ∃ a, n / 1000000000 % 4294967296 = a := ⟨_, rfl⟩
  obtain ⟨r, hr⟩ : ∃ r, n % 1000000000 = r := ⟨_, rfl⟩
  obtain ⟨c, hc⟩ : ∃ c, n / 1000000000 / 4294967296 = c := ⟨_, rfl⟩
  have a0 : 0 ≤ a := by omega
  have a1 : a ≤ 4294967295 := by omega
  have r0 : 0 ≤ r := by omega
  have r1 : r ≤ 999999999 := by omega
  rw [ha, hr, hc]
  rw [ha, hr, hc] at p1
  rw [hc] at hera
  obtain ⟨c0, c1⟩ := hera
  have P1 := Lib.hid p1
  clear ha hr hc h p1
  have d1 := fun w => div64_any r 0 1000000000 w (by omega) (by omega) (by omega)
  have e2 : two64 r 0 = r * 18446744073709551616 := by unfold two64; omega
  rw [e2] at d1
  obtain ⟨q, s, hq, hs, q0, q1, s0, hf⟩ := frac_facts r r0 r1
  rw [hq, hs] at d1
  rw [hf]
  have D1 := Lib.hid d1
  clear hf hq hs e2 d1
  by_cases hz : s ≤ 0
  · rw [if_pos hz]
    have hzd : decide (s ≤ 0) = true := decide_eq_true hz
    go_enter Try.func8, Try.ntmps8
    go_wp2_with fail
    refine (P1.out _).mono ?_
    rintro e w1 ⟨rfl, rfl⟩
    go_wp2_with fail
    refine (D1.out _).mono ?_
    rintro e w1 ⟨rfl, k, rfl⟩
    go_wp2_with fail
    exact bodyPost_ret (v := .agg #[.int .i32 c, .int .u32 a, .int .u64 q]) (by simp [results, Try.results8, go_sem]) rfl ⟨rfl, ((((((Stp.refl [] w).alloc _).drewN _).setCell (.inr (by simp)) _).setCell (.inr (by simp)) _).setCell (.inr (by simp)) _)⟩
  · rw [if_neg hz]
    have hzd : decide (s ≤ 0) = false := decide_eq_false hz
    go_enter Try.func8, Try.ntmps8
    go_wp2_with fail
    refine (P1.out _).mono ?_
    rintro e w1 ⟨rfl, rfl⟩
    go_wp2_with fail
    refine (D1.out _).mono ?_
    rintro e w1 ⟨rfl, k, rfl⟩
    go_wp2_with fail
    exact bodyPost_ret (v := .agg #[.int .i32 c, .int .u32 a, .int .u64 (q + 1)]) (by simp [results, Try.results8, go_sem]) rfl ⟨rfl, ((((((Stp.refl [] w).alloc _).drewN _).setCell (.inr (by simp)) _).setCell (.inr (by simp)) _).setCell (.inr (by simp)) _)⟩

theorem i64_or32 (x y : Int) (hx : -2147483648 ≤ x ∧ x ≤ 2147483647) (hy : 0 ≤ y ∧ y ≤ 4294967295) : bits .or .i64 (x * 4294967296) y = x * 4294967296 + y := by
  obtain ⟨b, rfl⟩ := Int.eq_ofNat_of_zero_le hy.1
  obtain ⟨m, hm⟩ := Int.eq_ofNat_of_zero_le (show 0 ≤ x % 4294967296 by omega)
  have hm1 : m < 4294967296 := by omega
  have e32 : (2 : Nat) ^ 32 = 4294967296 := by decide
  have h2 := Nat.two_pow_add_eq_or_of_lt (i := 32) (b := b) (by rw [e32]; omega) m
  have t1 : (BitVec.ofInt 64 (x * 4294967296)).toNat = 2 ^ 32 * m := by
    rw [BitVec.toNat_ofInt, e32]
    have : ((2 ^ 64 : Nat) : Int) = 18446744073709551616 := by decide
    rw [this]
    omega
  have t2 : (BitVec.ofInt 64 (b : Int)).toNat = b := by
    rw [BitVec.toNat_ofInt]
    have : ((2 ^ 64 : Nat) : Int) = 18446744073709551616 := by decide
    rw [this]
    omega
  have key : (BitVec.ofInt 64 (x * 4294967296) ||| BitVec.ofInt 64 (b : Int)).toNat = 2 ^ 32 * m + b := by
    rw [BitVec.toNat_or, t1, t2, h2]
  show IntKind.i64.wrap ((BitVec.ofInt 64 (x * 4294967296) ||| BitVec.ofInt 64 (b : Int)).toNat : Nat) = x * 4294967296 + b
  rw [key, IntKind.wrap_i64, e32]
  omega

def dateNsS (d : DateS) : Int × Int :=
  if d.era * 4294967296 + d.off < -4611686019 ∨ 4611686018 < d.era * 4294967296 + d.off then (0, 20)
  else if (d.era * 4294967296 + d.off) * 1000000000 + d.frac * 1000000000 / 18446744073709551616 < -4611686018427387904 ∨ 4611686018427387904 < (d.era * 4294967296 + d.off) * 1000000000 + d.frac * 1000000000 / 18446744073709551616 then (0, 20)
  else ((d.era * 4294967296 + d.off) * 1000000000 + d.frac * 1000000000 / 18446744073709551616, 0)
theorem datens_any (d : DateS) (w : World) (ok : d.ok) :
    Calls Try.prog 15 #[d.val] w fun e w' => e = .returned (.tuple #[.int .i64 (dateNsS d).1, .int .i64 (dateNsS d).2]) ∧ Stp [] w w' := by
  obtain ⟨c, a, q⟩ := d
  obtain ⟨c0, c1, a0, a1, q0, q1⟩ := ok
  simp only at c0 c1 a0 a1 q0 q1
  have hor := i64_or32 c a ⟨c0, c1⟩ ⟨a0, a1⟩
  have m1 := fun w => mul64_any q 1000000000 ⟨q0, q1⟩ (by decide) w
  obtain ⟨s, hs⟩ : ∃ s, c * 4294967296 + a = s := ⟨_, rfl⟩
  obtain ⟨r, hr⟩ : ∃ r, q * 1000000000 / 18446744073709551616 = r := ⟨_, rfl⟩
  have hS : dateNsS ⟨c, a, q⟩ = if s < -4611686019 ∨ 4611686018 < s then (0, 20) else if s * 1000000000 + r < -4611686018427387904 ∨ 4611686018427387904 < s * 1000000000 + r then (0, 20) else (s * 1000000000 + r, 0) := by
    unfold dateNsS
    simp only [hs, hr]
  rw [hS]
  rw [hs] at hor
  rw [hr] at m1
  have r0 : 0 ≤ r := by omega
  have r1 : r ≤ 999999999 := by omega
  have s0 : -9223372036854775808 ≤ s := by omega
  have s1 : s ≤ 9223372036854775807 := by omega
  clear hs hr hS
  show Calls Try.prog 15 #[.agg #[.int .i32 c, .int .u32 a, .int .u64 q]] w _
  have M1 := Lib.hid m1
  clear m1
  by_cases h1 : s < -4611686019 ∨ 4611686018 < s
  · rw [if_pos h1]
    rcases h1 with h1 | h1
    all_goals
      go_enter Try.func15, Try.ntmps15
      go_wp2_with fail
      refine (M1.out _).mono ?_
      rintro e w1 ⟨rfl, rfl⟩
      go_wp2_with fail
      go_ret2
      exact ⟨rfl, (Stp.refl _ _).alloc _⟩
  · rw [if_neg h1]
    have h2 : ¬ s < -4611686019 := by omega
    have h3 : ¬ 4611686018 < s := by omega
    clear h1
    by_cases h4 : s * 1000000000 + r < -4611686018427387904 ∨ 4611686018427387904 < s * 1000000000 + r
    · rw [if_pos h4]
      rcases h4 with h4 | h4
      all_goals
        go_enter Try.func15, Try.ntmps15
        go_wp2_with fail
        refine (M1.out _).mono ?_
        rintro e w1 ⟨rfl, rfl⟩
        go_wp2_with fail
        go_ret2
        exact ⟨rfl, (Stp.refl _ _).alloc _⟩
    · rw [if_neg h4]
      have h5 : ¬ s * 1000000000 + r < -4611686018427387904 := by omega
      have h6 : ¬ 4611686018427387904 < s * 1000000000 + r := by omega
      clear h4
      go_enter Try.func15, Try.ntmps15
      go_wp2_with fail
      refine (M1.out _).mono ?_
      rintro e w1 ⟨rfl, rfl⟩
      go_wp2_with fail
      go_ret2
      exact ⟨rfl, (Stp.refl _ _).alloc _⟩

def stampS (d : DateS) : Int := d.off * 4294967296 + d.frac / 4294967296
theorem stamp_any (d : DateS) (w : World) (ok : d.ok) :
    Calls Try.prog 14 #[d.val] w fun e w' => e = .returned (.int .u64 (stampS d)) ∧ Stp [] w w' := by
  obtain ⟨c, a, q⟩ := d
  obtain ⟨c0, c1, a0, a1, q0, q1⟩ := ok
  simp only at c0 c1 a0 a1 q0 q1
  have hor := u64_or32 a (q / 4294967296) ⟨a0, a1⟩ ⟨by omega, by omega⟩
  have w4 : IntKind.u64.wrap (a * 4294967296) = a * 4294967296 := by rw [wrap_u64]; omega
  show Calls Try.prog 14 #[.agg #[.int .i32 c, .int .u32 a, .int .u64 q]] w fun e w' => e = .returned (.int .u64 (a * 4294967296 + q / 4294967296)) ∧ Stp [] w w'
  go_enter Try.func14, Try.ntmps14
  go_wp2_with fail
  go_ret
  exact ⟨rfl, (Stp.refl _ _).alloc _⟩
end Go.Proofs.Ytnkkfmiacbkdpaa
