/- StampBack's walk. -/
import Derived.Test.YtnkkfmiacbkdpaaStampW
import Derived.Outline
namespace Go.Proofs.Ytnkkfmiacbkdpaa
open Go.RowKit
set_option linter.unusedVariables false
set_option linter.unusedSimpArgs false

theorem frac_down (r : Int) (h : 0 ≤ r ∧ r < 1000000000) : 0 ≤ (r * 4294967296 + 999999999) / 1000000000 ∧ (r * 4294967296 + 999999999) / 1000000000 < 4294967296 ∧ (r * 4294967296 + 999999999) / 1000000000 * 1000000000 / 4294967296 = r := by
  refine ⟨by omega, by omega, by omega⟩
theorem first_stamp (n : Int) : firstS (nsStampS n) = n % 4294967296000000000 := by
  obtain ⟨h0, h1, h2⟩ := frac_down (n % 1000000000) (by omega)
  unfold firstS nsStampS
  have hr : n = n / 1000000000 * 1000000000 + n % 1000000000 := by omega
  have hr0 : 0 ≤ n % 1000000000 ∧ n % 1000000000 < 1000000000 := by omega
  generalize (n % 1000000000 * 4294967296 + 999999999) / 1000000000 = F at *
  generalize n % 1000000000 = r at *
  generalize n / 1000000000 = s at *
  have e1 : (s % 4294967296 * 4294967296 + F) / 4294967296 = s % 4294967296 := by omega
  have e2 : (s % 4294967296 * 4294967296 + F) % 4294967296 = F := by omega
  rw [e1, e2, h2, hr]
  omega
theorem back_stamp (n p : Int) (hn : 0 ≤ n ∧ n < 4611686018427387904) (hp : 0 ≤ p ∧ p ≤ 4611686018427387904) (h : -2147483648000000000 < p - n ∧ p - n < 2147483648000000000) : stampNsS (nsStampS n) (pivotS p) = n := by
  have e1 : pivotS p = p := by unfold pivotS; split <;> (try split) <;> omega
  rw [e1]
  unfold stampNsS
  rw [first_stamp]
  split
  · omega
  · split <;> omega
theorem nsStampS_bd (n : Int) : 0 ≤ nsStampS n ∧ nsStampS n ≤ 18446744073709551615 := by
  obtain ⟨h0, h1, h2⟩ := frac_down (n % 1000000000) (by omega)
  unfold nsStampS
  generalize (n % 1000000000 * 4294967296 + 999999999) / 1000000000 = F at *
  omega
theorem frac_date (r : Int) (h : 0 ≤ r ∧ r < 1000000000) : (r * 18446744073709551616 + 999999999) / 1000000000 * 1000000000 / 18446744073709551616 = r := by
  have h1 : r * 18446744073709551616 ≤ (r * 18446744073709551616 + 999999999) / 1000000000 * 1000000000 := by
    generalize r * 18446744073709551616 = x
    omega
  have h2 : (r * 18446744073709551616 + 999999999) / 1000000000 * 1000000000 ≤ r * 18446744073709551616 + 999999999 := by
    generalize r * 18446744073709551616 = x
    omega
  generalize (r * 18446744073709551616 + 999999999) / 1000000000 * 1000000000 = y at *
  omega
theorem back_date (n : Int) (h : -4611686018427387904 ≤ n ∧ n ≤ 4611686018427387904) : dateNsS (dateS n) = (n, 0) := by
  have hf := frac_date (n % 1000000000) (by omega)
  unfold dateNsS dateS
  simp only
  rw [hf]
  have hr : n = n / 1000000000 * 1000000000 + n % 1000000000 := by omega
  have hr0 : 0 ≤ n % 1000000000 ∧ n % 1000000000 < 1000000000 := by omega
  generalize n % 1000000000 = r at *
  generalize n / 1000000000 = s at *
  have e : s / 4294967296 * 4294967296 + s % 4294967296 = s := by omega
  rw [e, ← hr, if_neg (by omega), if_neg (by omega)]
theorem stamp_time (u k : Int) (hu : 0 ≤ u ∧ u ≤ 18446744073709551615) : 0 ≤ u - nsStampS (firstS u + k * 4294967296000000000) ∧ u - nsStampS (firstS u + k * 4294967296000000000) < 5 := by
  unfold nsStampS firstS
  have hl : 0 ≤ u % 4294967296 ∧ u % 4294967296 < 4294967296 := by omega
  have hh : 0 ≤ u / 4294967296 ∧ u / 4294967296 < 4294967296 := by omega
  have hu2 : u = u / 4294967296 * 4294967296 + u % 4294967296 := by omega
  generalize u / 4294967296 = a at *
  generalize u % 4294967296 = l at *
  have hr : 0 ≤ l * 1000000000 / 4294967296 ∧ l * 1000000000 / 4294967296 < 1000000000 := by omega
  have hF : (l * 1000000000 / 4294967296 * 4294967296 + 999999999) / 1000000000 ≤ l ∧ l - 4 ≤ (l * 1000000000 / 4294967296 * 4294967296 + 999999999) / 1000000000 := by omega
  generalize l * 1000000000 / 4294967296 = r at *
  have e1 : (a * 1000000000 + r + k * 4294967296000000000) % 1000000000 = r := by omega
  have e2 : (a * 1000000000 + r + k * 4294967296000000000) / 1000000000 = a + k * 4294967296 := by omega
  rw [e1, e2]
  have e3 : (a + k * 4294967296) % 4294967296 = a := by omega
  rw [e3]
  generalize (r * 4294967296 + 999999999) / 1000000000 = F at *
  omega
theorem stampNs_facts (u n : Int) (hu : 0 ≤ u ∧ u ≤ 18446744073709551615) (hn : 0 ≤ n ∧ n < 4611686018427387904) :
    ∃ x, stampNsS u (pivotS n) = x ∧ -2147483648000000000 ≤ x - n ∧ x - n ≤ 2147483648000000000 ∧ 0 ≤ u - nsStampS x ∧ u - nsStampS x < 5 := by
  have e1 : pivotS n = n := by unfold pivotS; split <;> (try split) <;> omega
  have hf := firstS_bd u hu
  rw [e1]
  unfold stampNsS
  have s0 := stamp_time u 0 hu
  have s1 := stamp_time u 1 hu
  have s2 := stamp_time u (-1) hu
  simp only [Int.zero_mul, Int.add_zero, Int.one_mul] at s0 s1
  rw [show firstS u + -1 * 4294967296000000000 = firstS u - 4294967296000000000 by omega] at s2
  generalize firstS u = f at *
  by_cases h1 : 4294967296000000000 ≤ 2 * (f - n)
  · rw [if_pos h1]
    exact ⟨_, rfl, by omega, by omega, s2⟩
  · rw [if_neg h1]
    by_cases h2 : 4294967296000000000 < 2 * (n - f)
    · rw [if_pos h2]
      exact ⟨_, rfl, by omega, by omega, s1⟩
    · rw [if_neg h2]
      exact ⟨_, rfl, by omega, by omega, s0⟩

set_option maxHeartbeats 4000000 in
theorem stampBack_walk (n0 off u : Int) (w : World) (hn0 : -9223372036854775808 ≤ n0 ∧ n0 ≤ 9223372036854775807) (ho : -9223372036854775808 ≤ off ∧ off ≤ 9223372036854775807) (hu : 0 ≤ u ∧ u ≤ 18446744073709551615) :
    Calls Try.prog 5 #[.int .i64 n0, .int .i64 off, .int .u64 u] w fun e w' => e = .returned (.bool true) ∧ Stp [] w w' := by
  have hm := i64_mask62 n0
  have n1 : 0 ≤ n0 % 4611686018427387904 := by omega
  have n2 : n0 % 4611686018427387904 < 4611686018427387904 := by omega
  generalize n0 % 4611686018427387904 = n at *
  obtain ⟨t, ht⟩ : ∃ t, off.tmod 2147483648000000000 = t := ⟨_, rfl⟩
  have t1 : -2147483648000000000 < t := by rw [← ht]; exact Int.lt_tmod_of_pos off (by decide)
  have t2 : t < 2147483648000000000 := by rw [← ht]; exact Int.tmod_lt_of_pos off (by decide)
  have ns := nsStampS_bd n
  have c1 := fun w => nsstamp_any n w (by omega)
  have c2 := fun (p : Int) (h : 0 ≤ p ∧ p ≤ 4611686018427387904) (h2 : -2147483648000000000 < p - n ∧ p - n < 2147483648000000000) w => back_stamp n p ⟨n1, n2⟩ h h2 ▸ stampns_case (nsStampS n) p w ns (by omega)
  generalize nsStampS n = z at *
  have c3 := fun w => nsdate_any n w (by omega)
  have c4 := fun w => datens_any (dateS n) w (dateS_ok _ (by omega) (by omega))
  rw [back_date n (by omega)] at c4
  generalize dateS n = X at *
  obtain ⟨e1, o1, f1⟩ := X
  simp only [DateS.val] at c3 c4
  have c5 := fun w => nsdate_any (-n) w (by omega)
  have c6 := fun w => datens_any (dateS (-n)) w (dateS_ok _ (by omega) (by omega))
  rw [back_date (-n) (by omega)] at c6
  generalize dateS (-n) = Y at *
  obtain ⟨e2, o2, f2⟩ := Y
  simp only [DateS.val] at c5 c6
  obtain ⟨x, hx, x1, x2, x3, x4⟩ := stampNs_facts u n hu ⟨n1, n2⟩
  have c7 := fun w => stampns_case u n w hu (by omega)
  rw [hx] at c7
  have c8 := fun w => nsstamp_any x w (by omega)
  have y0 := nsStampS_bd x
  generalize nsStampS x = y at *
  have hw : IntKind.u64.wrap (u - y) = u - y := by rw [wrap_u64]; omega
  have C := Lib.hid (And.intro c1 (And.intro c3 (And.intro c4 (And.intro c5 (And.intro c6 (And.intro c7 c8))))))
  have C2 := Lib.hid c2
  obtain ⟨y00, y01⟩ := y0
  clear c1 c2 c3 c4 c5 c6 c7 c8 hx ns hn0 ho hu
  have hc : (n + t < 0) ∨ (¬ n + t < 0 ∧ 4611686018427387904 < n + t) ∨ (¬ n + t < 0 ∧ ¬ 4611686018427387904 < n + t) := by omega
  rcases hc with h | ⟨h, h2⟩ | ⟨h, h2⟩
  · have c2 := C2.out n (by omega) (by omega)
    have C3 := Lib.hid c2
    clear c2 C2
    go_enter Try.func5, Try.ntmps5
    go_wp2_with fail
    refine (C.out.1 _).mono ?_
    rintro e w1 ⟨rfl, rfl⟩
    go_wp2_with fail
    refine (C3.out _).mono ?_
    rintro e w2 ⟨rfl, s2⟩
    go_wp2_with fail
    refine (C.out.2.1 _).mono ?_
    rintro e w3 ⟨rfl, s3⟩
    go_wp2_with fail
    refine (C.out.2.2.1 _).mono ?_
    rintro e w4 ⟨rfl, s4⟩
    go_wp2_with fail
    refine (C.out.2.2.2.1 _).mono ?_
    rintro e w5 ⟨rfl, s5⟩
    go_wp2_with fail
    refine (C.out.2.2.2.2.1 _).mono ?_
    rintro e w6 ⟨rfl, s6⟩
    go_wp2_with fail
    refine (C.out.2.2.2.2.2.1 _).mono ?_
    rintro e w7 ⟨rfl, s7⟩
    go_wp2_with fail
    refine (C.out.2.2.2.2.2.2 _).mono ?_
    rintro e w8 ⟨rfl, rfl⟩
    go_wp2_with fail
    refine (wakes_any _).mono ?_
    rintro e w9 ⟨rfl, s9⟩
    go_wp2_with fail
    go_ret
    exact ⟨rfl, ((((((s2.trans s3).alloc _).trans s4).trans s5).trans s6).trans s7).trans s9⟩
  · have c2 := C2.out n (by omega) (by omega)
    have C3 := Lib.hid c2
    clear c2 C2
    go_enter Try.func5, Try.ntmps5
    go_wp2_with fail
    refine (C.out.1 _).mono ?_
    rintro e w1 ⟨rfl, rfl⟩
    go_wp2_with fail
    refine (C3.out _).mono ?_
    rintro e w2 ⟨rfl, s2⟩
    go_wp2_with fail
    refine (C.out.2.1 _).mono ?_
    rintro e w3 ⟨rfl, s3⟩
    go_wp2_with fail
    refine (C.out.2.2.1 _).mono ?_
    rintro e w4 ⟨rfl, s4⟩
    go_wp2_with fail
    refine (C.out.2.2.2.1 _).mono ?_
    rintro e w5 ⟨rfl, s5⟩
    go_wp2_with fail
    refine (C.out.2.2.2.2.1 _).mono ?_
    rintro e w6 ⟨rfl, s6⟩
    go_wp2_with fail
    refine (C.out.2.2.2.2.2.1 _).mono ?_
    rintro e w7 ⟨rfl, s7⟩
    go_wp2_with fail
    refine (C.out.2.2.2.2.2.2 _).mono ?_
    rintro e w8 ⟨rfl, rfl⟩
    go_wp2_with fail
    refine (wakes_any _).mono ?_
    rintro e w9 ⟨rfl, s9⟩
    go_wp2_with fail
    go_ret
    exact ⟨rfl, ((((((s2.trans s3).alloc _).trans s4).trans s5).trans s6).trans s7).trans s9⟩
  · have c2 := C2.out (n + t) (by omega) (by omega)
    have C3 := Lib.hid c2
    clear c2 C2
    go_enter Try.func5, Try.ntmps5
    go_wp2_with fail
    refine (C.out.1 _).mono ?_
    rintro e w1 ⟨rfl, rfl⟩
    go_wp2_with fail
    refine (C3.out _).mono ?_
    rintro e w2 ⟨rfl, s2⟩
    go_wp2_with fail
    refine (C.out.2.1 _).mono ?_
    rintro e w3 ⟨rfl, s3⟩
    go_wp2_with fail
    refine (C.out.2.2.1 _).mono ?_
    rintro e w4 ⟨rfl, s4⟩
    go_wp2_with fail
    refine (C.out.2.2.2.1 _).mono ?_
    rintro e w5 ⟨rfl, s5⟩
    go_wp2_with fail
    refine (C.out.2.2.2.2.1 _).mono ?_
    rintro e w6 ⟨rfl, s6⟩
    go_wp2_with fail
    refine (C.out.2.2.2.2.2.1 _).mono ?_
    rintro e w7 ⟨rfl, s7⟩
    go_wp2_with fail
    refine (C.out.2.2.2.2.2.2 _).mono ?_
    rintro e w8 ⟨rfl, rfl⟩
    go_wp2_with fail
    refine (wakes_any _).mono ?_
    rintro e w9 ⟨rfl, s9⟩
    go_wp2_with fail
    go_ret
    exact ⟨rfl, ((((((s2.trans s3).alloc _).trans s4).trans s5).trans s6).trans s7).trans s9⟩
end Go.Proofs.Ytnkkfmiacbkdpaa
