/- stamp: what the document's own functions answer (the first ones). -/
import Derived.Test.YtnkkfmiacbkdpaaStampB
import Derived.Test.YtnkkfmiacbkdpaaStampC
import Derived.Outline
namespace Go.Proofs.Ytnkkfmiacbkdpaa
open Go.RowKit
set_option linter.unusedVariables false
set_option linter.unusedSimpArgs false

theorem rparts_any (n : Int) (w : World) (h : -9223372036854775808 ≤ n ∧ n ≤ 9223372036854775807) :
    Calls Try.prog 27 #[.int .i64 n] w fun e w' => e = .returned (.tuple #[.int .i64 (n / 1000000000), .int .u64 (n % 1000000000)]) ∧ w' = w := by
  obtain ⟨h0, h1⟩ := h
  by_cases hn : 0 ≤ n
  · have hr : ¬ n % 1000000000 < 0 := by omega
    go_enter Try.func27, Try.ntmps27
    go_wp2
    go_ret2
    exact ⟨rfl, rfl⟩
  · obtain ⟨q, hq⟩ : ∃ q, n.tdiv 1000000000 = q := ⟨_, rfl⟩
    obtain ⟨r, hr⟩ : ∃ r, n.tmod 1000000000 = r := ⟨_, rfl⟩
    have hqr : n = q * 1000000000 + r ∧ -1000000000 < r ∧ r ≤ 0 := by
      have h1 := Int.tdiv_mul_add_tmod n 1000000000
      have h2 := Int.lt_tmod_of_pos n (show (0 : Int) < 1000000000 by decide)
      have h3 : n.tmod 1000000000 ≤ 0 := by
        have e : n.tmod 1000000000 = -((-n).tmod 1000000000) := by rw [Int.neg_tmod]; omega
        rw [e, Int.tmod_eq_emod_of_nonneg (by omega)]
        omega
      omega
    obtain ⟨hqr, r0, r1⟩ := hqr
    have q0 : -9223372037 ≤ q := by omega
    have q1 : q ≤ 0 := by omega
    have HQR := Lib.hid hqr
    clear hqr
    by_cases hz : r < 0
    · have e1 : n / 1000000000 = q - 1 := by have := HQR.out; omega
      have e2 : n % 1000000000 = r + 1000000000 := by have := HQR.out; omega
      rw [e1, e2]
      have hu : IntKind.u64.wrap (r + 1000000000) = r + 1000000000 := by rw [wrap_u64]; omega
      clear e1 e2
      go_enter Try.func27, Try.ntmps27
      go_wp2
      go_ret2
      exact ⟨rfl, rfl⟩
    · have e1 : n / 1000000000 = q := by have := HQR.out; omega
      have e2 : n % 1000000000 = r := by have := HQR.out; omega
      rw [e1, e2]
      have hu : IntKind.u64.wrap r = r := by rw [wrap_u64]; omega
      clear e1 e2
      go_enter Try.func27, Try.ntmps27
      go_wp2
      go_ret2
      exact ⟨rfl, rfl⟩

theorem rera_any (n : Int) (w : World) (h : -9223372037 ≤ n ∧ n ≤ 9223372037) :
    Calls Try.prog 28 #[.int .i64 n] w fun e w' => e = .returned (.tuple #[.int .i64 (n / 4294967296), .int .u64 (n % 4294967296)]) ∧ w' = w := by
  obtain ⟨h0, h1⟩ := h
  by_cases hn : 0 ≤ n
  · have hr : ¬ n % 4294967296 < 0 := by omega
    go_enter Try.func28, Try.ntmps28
    go_wp2
    go_ret2
    exact ⟨rfl, rfl⟩
  · obtain ⟨q, hq⟩ : ∃ q, n.tdiv 4294967296 = q := ⟨_, rfl⟩
    obtain ⟨r, hr⟩ : ∃ r, n.tmod 4294967296 = r := ⟨_, rfl⟩
    have hqr : n = q * 4294967296 + r ∧ -4294967296 < r ∧ r ≤ 0 := by
      have h1 := Int.tdiv_mul_add_tmod n 4294967296
      have h2 := Int.lt_tmod_of_pos n (show (0 : Int) < 4294967296 by decide)
      have h3 : n.tmod 4294967296 ≤ 0 := by
        have e : n.tmod 4294967296 = -((-n).tmod 4294967296) := by rw [Int.neg_tmod]; omega
        rw [e, Int.tmod_eq_emod_of_nonneg (by omega)]
        omega
      omega
    obtain ⟨hqr, r0, r1⟩ := hqr
    have q0 : -9223372037 ≤ q := by omega
    have q1 : q ≤ 0 := by omega
    have HQR := Lib.hid hqr
    clear hqr
    by_cases hz : r < 0
    · have e1 : n / 4294967296 = q - 1 := by have := HQR.out; omega
      have e2 : n % 4294967296 = r + 4294967296 := by have := HQR.out; omega
      rw [e1, e2]
      have hu : IntKind.u64.wrap (r + 4294967296) = r + 4294967296 := by rw [wrap_u64]; omega
      clear e1 e2
      go_enter Try.func28, Try.ntmps28
      go_wp2
      go_ret2
      exact ⟨rfl, rfl⟩
    · have e1 : n / 4294967296 = q := by have := HQR.out; omega
      have e2 : n % 4294967296 = r := by have := HQR.out; omega
      rw [e1, e2]
      have hu : IntKind.u64.wrap r = r := by rw [wrap_u64]; omega
      clear e1 e2
      go_enter Try.func28, Try.ntmps28
      go_wp2
      go_ret2
      exact ⟨rfl, rfl⟩

theorem rshort_any (u : Int) (w : World) (h : 0 ≤ u ∧ u ≤ 4294967295) :
    Calls Try.prog 17 #[.int .u32 u] w fun e w' => e = .returned (.int .i64 (shortS u)) ∧ w' = w := by
  obtain ⟨h0, h1⟩ := h
  by_cases hz : 0 < u * 1000000000 % 65536
  all_goals
    go_enter Try.func17, Try.ntmps17
    go_wp2
    go_ret
    exact ⟨ret_int (by unfold shortS; omega), rfl⟩

theorem raway_any (a b : Int) (w : World) (ha : -9223372036854775808 ≤ a ∧ a ≤ 9223372036854775807) (hb : 0 ≤ b ∧ b ≤ 4611686018427387904) :
    Calls Try.prog 26 #[.int .i64 a, .int .i64 b] w fun e w' => e = .returned (.int .u64 (awayS b a)) ∧ w' = w := by
  obtain ⟨a0, a1⟩ := ha
  obtain ⟨b0, b1⟩ := hb
  by_cases hz : a < b
  · have e : awayS b a = IntKind.u64.wrap (b - IntKind.u64.wrap a) := by unfold awayS; rw [if_pos hz, wrap_u64, wrap_u64]; omega
    rw [e]
    clear e
    go_enter Try.func26, Try.ntmps26
    go_wp2
    go_ret
    exact ⟨rfl, rfl⟩
  · have e : awayS b a = a - b := by unfold awayS; rw [if_neg hz]
    rw [e]
    clear e
    go_enter Try.func26, Try.ntmps26
    go_wp2
    go_ret
    exact ⟨rfl, rfl⟩

theorem up_lem (o m : Int) : (0 < m % 1000000000 → o * 4294967296 + (m + 999999999) / 1000000000 = o * 4294967296 + (m / 1000000000 + 1)) ∧ (¬ 0 < m % 1000000000 → o * 4294967296 + (m + 999999999) / 1000000000 = o * 4294967296 + m / 1000000000) := by omega
set_option maxHeartbeats 1000000 in
theorem rnsstamp_any (n : Int) (w : World) (h : -9223372036854775808 ≤ n ∧ n ≤ 9223372036854775807) :
    Calls Try.prog 20 #[.int .i64 n] w fun e w' => e = .returned (.int .u64 (nsStampS n)) ∧ w' = w := by
  obtain ⟨h0, h1⟩ := h
  have p1 := fun w => rparts_any n w ⟨h0, h1⟩
  have p2 := fun w => rera_any (n / 1000000000) w (by omega)
  have hS : nsStampS n = n / 1000000000 % 4294967296 * 4294967296 + (n % 1000000000 * 4294967296 + 999999999) / 1000000000 := rfl
  rw [hS]
  obtain ⟨r, hr⟩ : ∃ r, n % 1000000000 = r := ⟨_, rfl⟩
  obtain ⟨o, ho⟩ : ∃ o, n / 1000000000 % 4294967296 = o := ⟨_, rfl⟩
  have r0 : 0 ≤ r := by omega
  have r1 : r ≤ 999999999 := by omega
  have o0 : 0 ≤ o := by omega
  have o1 : o ≤ 4294967295 := by omega
  rw [ho, hr]
  rw [hr] at p1
  rw [ho] at p2
  have P := Lib.hid (And.intro p1 p2)
  obtain ⟨m, hm⟩ : ∃ m, r * 4294967296 = m := ⟨_, rfl⟩
  have m0 : 0 ≤ m := by omega
  have m1 : m ≤ 4294967291705032704 := by omega
  rw [hm]
  have HM := Lib.hid hm
  clear p1 p2 hS hr ho h0 h1
  have hmw : IntKind.u64.wrap (r * 4294967296) = m := by rw [wrap_u64, hm]; omega
  clear hm r0 r1
  have q0 : 0 ≤ m / 1000000000 := by omega
  have q1 : m / 1000000000 ≤ 4294967291 := by omega
  by_cases hz : 0 < m % 1000000000
  · have e : o * 4294967296 + (m + 999999999) / 1000000000 = o * 4294967296 + (m / 1000000000 + 1) := (up_lem o m).1 hz
    rw [e]
    clear e
    go_enter Try.func20, Try.ntmps20
    go_wp2_with fail
    refine (P.out.1 _).mono ?_
    rintro e w1 ⟨rfl, rfl⟩
    go_wp2_with fail
    refine (P.out.2 _).mono ?_
    rintro e w1 ⟨rfl, rfl⟩
    go_wp2_with fail
    go_ret
    exact ⟨rfl, rfl⟩
  · have e : o * 4294967296 + (m + 999999999) / 1000000000 = o * 4294967296 + m / 1000000000 := (up_lem o m).2 hz
    rw [e]
    clear e
    go_enter Try.func20, Try.ntmps20
    go_wp2_with fail
    refine (P.out.1 _).mono ?_
    rintro e w1 ⟨rfl, rfl⟩
    go_wp2_with fail
    refine (P.out.2 _).mono ?_
    rintro e w1 ⟨rfl, rfl⟩
    go_wp2_with fail
    go_ret
    exact ⟨rfl, rfl⟩

set_option maxHeartbeats 1000000 in
theorem rdatens_any (d : DateS) (w : World) (ok : d.ok) :
    Calls Try.prog 16 #[d.val] w fun e w' => e = .returned (.tuple #[.int .i64 (dateNsS d).1, .int .i64 (dateNsS d).2]) ∧ Stp [] w w' := by
  obtain ⟨c, a, q⟩ := d
  obtain ⟨c0, c1, a0, a1, q0, q1⟩ := ok
  simp only at c0 c1 a0 a1 q0 q1
  obtain ⟨s, hs⟩ : ∃ s, c * 4294967296 + a = s := ⟨_, rfl⟩
  obtain ⟨r, hr⟩ : ∃ r, q * 1000000000 / 18446744073709551616 = r := ⟨_, rfl⟩
  have hS : dateNsS ⟨c, a, q⟩ = if s < -4611686019 ∨ 4611686018 < s then (0, 20) else if s * 1000000000 + r < -4611686018427387904 ∨ 4611686018427387904 < s * 1000000000 + r then (0, 20) else (s * 1000000000 + r, 0) := by
    unfold dateNsS
    simp only [hs, hr]
  rw [hS]
  have r0 : 0 ≤ r := by omega
  have r1 : r ≤ 999999999 := by omega
  have s0 : -9223372036854775808 ≤ s := by omega
  have s1 : s ≤ 9223372036854775807 := by omega
  have hq : (q / 4294967296 * 1000000000 + q % 4294967296 * 1000000000 / 4294967296) / 4294967296 = r := by omega
  clear hr hS
  show Calls Try.prog 16 #[.agg #[.int .i32 c, .int .u32 a, .int .u64 q]] w _
  by_cases h1 : s < -4611686019 ∨ 4611686018 < s
  · rw [if_pos h1]
    rcases h1 with h1 | h1
    all_goals
      go_enter Try.func16, Try.ntmps16
      go_wp2_with fail
      go_ret2
      exact ⟨rfl, (Stp.refl _ _).alloc _⟩
  · rw [if_neg h1]
    have h2 : ¬ s < -4611686019 := by omega
    have h3 : ¬ 4611686018 < s := by omega
    clear h1
    by_cases h4 : s * 1000000000 + r < -4611686018427387904 ∨ 4611686018427387904 < s * 1000000000 + r
    · rw [if_pos h4]
      rcases h4 with h4 | h4
      all_goals
        go_enter Try.func16, Try.ntmps16
        go_wp2_with fail
        go_ret2
        exact ⟨rfl, (Stp.refl _ _).alloc _⟩
    · rw [if_neg h4]
      have h5 : ¬ s * 1000000000 + r < -4611686018427387904 := by omega
      have h6 : ¬ 4611686018427387904 < s * 1000000000 + r := by omega
      clear h4
      go_enter Try.func16, Try.ntmps16
      go_wp2_with fail
      go_ret2
      exact ⟨rfl, (Stp.refl _ _).alloc _⟩
end Go.Proofs.Ytnkkfmiacbkdpaa
