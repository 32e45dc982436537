/- math/bits.Div64: the quotient and the rest of a number of two words. -/
import Derived.Test.YtbjjfjgomkmdhaaShelf
import Derived.Test.YtbjjfjgomkmdhaaWords
import Derived.Test.YtbjjfjgomkmdhaaDivMath
namespace Go.Proofs.Ytbjjfjgomkmdhaa
open Go.RowKit
set_option linter.unusedVariables false
set_option linter.unusedSimpArgs false

theorem bitLen_bd : ∀ (k x : Nat), x < 2 ^ k → k ≤ 64 → x ≠ 0 → Lib.bitLen x ≤ k ∧ x < 2 ^ Lib.bitLen x ∧ 2 ^ Lib.bitLen x ≤ 2 * x := by
  intro k
  induction k with
  | zero => intro x h _ h0; simp at h; omega
  | succ k ih =>
    intro x h hk h0
    have h64 : x < 2 ^ 64 := Nat.lt_of_lt_of_le h (Nat.pow_le_pow_right (by decide) hk)
    rw [Lib.bitLen_half x h0 h64]
    by_cases h1 : x / 2 = 0
    · have : x = 1 := by omega
      subst this
      have e : Lib.bitLen (1 / 2) = 0 := by decide
      rw [e]
      omega
    · obtain ⟨a1, a2, a3⟩ := ih (x / 2) (by rw [Nat.pow_succ] at h; omega) (by omega) h1
      rw [Nat.add_comm, Nat.pow_succ]
      omega

/-- Two words as one number. -/
def two64 (hi lo : Int) : Int := hi * 18446744073709551616 + lo

theorem div64_low (lo y : Int) (w : World) (hl : 0 ≤ lo ∧ lo ≤ 18446744073709551615) (hy : 0 < y ∧ y ≤ 18446744073709551615) :
    Calls Try.prog 39 #[.int .u64 0, .int .u64 lo, .int .u64 y] w fun e w' => e = .returned (.tuple #[.int .u64 (lo / y), .int .u64 (lo % y)]) ∧ ∃ n, w' = w.drewN n := by
  obtain ⟨l0, l1⟩ := hl
  obtain ⟨y0, y1⟩ := hy
  have hb : (y == 0) = false := by simp; omega
  have hn : ¬ (y = 0) := by omega
  go_enter Try.func39, Try.ntmps39
  go_wp2_with (go_quiet (fail))
  go_ret2
  exact ⟨rfl, _, rfl⟩

/-- How far a divisor is shifted. -/
theorem lz_any (y : Int) (hy : 0 < y ∧ y ≤ 18446744073709551615) : ∃ s : Nat, s ≤ 63 ∧ 9223372036854775808 ≤ y * (2 ^ s : Nat) ∧ y * (2 ^ s : Nat) < 18446744073709551616 ∧
    ∀ w, Calls Try.prog 41 #[.int .u64 y] w fun e w' => e = .returned (.int .i64 (s : Int)) ∧ w' = w := by
  obtain ⟨x, rfl⟩ := Int.eq_ofNat_of_zero_le (show 0 ≤ y by omega)
  obtain ⟨h1, h2, h3⟩ := bitLen_bd 64 x (by omega) (Nat.le_refl _) (by omega)
  have h0 : 1 ≤ Lib.bitLen x := by
    rcases Nat.eq_zero_or_pos (Lib.bitLen x) with h | h
    · rw [h] at h2; simp at h2; omega
    · exact h
  refine ⟨64 - Lib.bitLen x, by omega, ?_, ?_, fun w => ?_⟩
  · have e : (2 ^ Lib.bitLen x) * 2 ^ (64 - Lib.bitLen x) = 18446744073709551616 := by rw [← Nat.pow_add, show Lib.bitLen x + (64 - Lib.bitLen x) = 64 by omega]
    have h4 : (2 ^ Lib.bitLen x) * 2 ^ (64 - Lib.bitLen x) ≤ (2 * x) * 2 ^ (64 - Lib.bitLen x) := Nat.mul_le_mul_right _ h3
    rw [e, Nat.mul_assoc] at h4
    have h5 : ((x * 2 ^ (64 - Lib.bitLen x) : Nat) : Int) = (x : Int) * ((2 ^ (64 - Lib.bitLen x) : Nat) : Int) := by push_cast; rfl
    rw [← h5]
    omega
  · have e : (2 ^ Lib.bitLen x) * 2 ^ (64 - Lib.bitLen x) = 18446744073709551616 := by rw [← Nat.pow_add, show Lib.bitLen x + (64 - Lib.bitLen x) = 64 by omega]
    have h4 : x * 2 ^ (64 - Lib.bitLen x) < (2 ^ Lib.bitLen x) * 2 ^ (64 - Lib.bitLen x) := Nat.mul_lt_mul_of_pos_right h2 (Nat.two_pow_pos _)
    rw [e] at h4
    have h5 : ((x * 2 ^ (64 - Lib.bitLen x) : Nat) : Int) = (x : Int) * ((2 ^ (64 - Lib.bitLen x) : Nat) : Int) := by push_cast; rfl
    rw [← h5]
    omega
  · have := Try.bits_LeadingZeros64 (x : Int) w (by omega) (by omega)
    have e : (64 - (Lib.bitLen (Int.toNat (x : Int)) : Int)) = ((64 - Lib.bitLen x : Nat) : Int) := by simp; omega
    rw [e] at this
    exact this

theorem wrap_u64 (n : Int) : IntKind.u64.wrap n = n % 18446744073709551616 := by simp [IntKind.wrap, IntKind.bits, IntKind.signed]
theorem wraps_u64 (n : Int) (h0 : 0 ≤ n) (h1 : n < 2 ^ 64) : IntKind.u64.wrap n = n := by rw [wrap_u64]; omega
theorem wrap_sub3 (x y d : Int) : IntKind.u64.wrap (IntKind.u64.wrap (IntKind.u64.wrap x + d) - IntKind.u64.wrap y) = (x + d - y) % 18446744073709551616 := by
  simp only [wrap_u64]; omega

set_option maxRecDepth 100000 in
set_option maxHeartbeats 2000000 in
theorem div64_high (hi lo y : Int) (w : World) (hh : 0 < hi) (hl : 0 ≤ lo ∧ lo ≤ 18446744073709551615) (hy : hi < y ∧ y ≤ 18446744073709551615) :
    Calls Try.prog 39 #[.int .u64 hi, .int .u64 lo, .int .u64 y] w fun e w' => e = .returned (.tuple #[.int .u64 (two64 hi lo / y), .int .u64 (two64 hi lo % y)]) ∧ ∃ n, w' = w.drewN n := by
  obtain ⟨s, s63, n0, n1, hlz⟩ := lz_any y (by omega)
  obtain ⟨l0, l1⟩ := hl
  obtain ⟨y0, y1⟩ := hy
  have hb : (y == 0) = false := by simp; omega
  have hb2 : (hi == 0) = false := by simp; omega
  have hn : ¬ (y = 0) := by omega
  have eP : ((2 ^ s : Nat) : Int) = (2 : Int) ^ s := by push_cast; rfl
  rw [eP] at n0 n1
  have hP : (0 : Int) < 2 ^ s := Int.pow_pos (by decide)
  have hR : (0 : Int) < 2 ^ (64 - s) := Int.pow_pos (by decide)
  have hPR : (2 : Int) ^ s * 2 ^ (64 - s) = 18446744073709551616 := by rw [← Int.pow_add, show s + (64 - s) = 64 by omega]; rfl
  obtain ⟨m1, m2, m3, m4, m5, m6, m7⟩ := DivMath.shifted hP hR hPR (by omega) y0 l0 (show lo < 18446744073709551616 by omega) n1
  have v0 := n0
  have v1 := n1
  obtain ⟨v, hv⟩ : ∃ v, y * 2 ^ s = v := ⟨_, rfl⟩
  have hv' : IntKind.u64.wrap (y * 2 ^ s) = v := by rw [wrap_u64, hv]; rw [hv] at n0 n1; omega
  obtain ⟨u, hu⟩ : ∃ u, hi * 2 ^ s + lo / 2 ^ (64 - s) = u := ⟨_, rfl⟩
  have hu' : bits .or .u64 (IntKind.u64.wrap (hi * 2 ^ s)) (lo / 2 ^ (64 - s)) = u := by
    rw [wrap_u64, Int.emod_eq_of_lt m1 m2, bits_join .u64 64 (by decide) wraps_u64 s _ _ m1 (Int.mul_emod_left _ _) (by omega) m3 m4 (by omega), hu]
  obtain ⟨z, hz⟩ : ∃ z, (lo * 2 ^ s) % 18446744073709551616 = z := ⟨_, rfl⟩
  have hz' : IntKind.u64.wrap (lo * 2 ^ s) = z := by rw [wrap_u64, hz]
  have z0 : 0 ≤ z ∧ z < 18446744073709551616 := by omega
  rw [hu, hz] at m7
  rw [hu, hv] at m5
  rw [hv] at v0 v1
  have u0 : 0 ≤ u := by omega
  obtain ⟨a, ha⟩ : ∃ a, v / 4294967296 = a := ⟨_, rfl⟩
  obtain ⟨b, hb'⟩ : ∃ b, bits .and .u64 v 4294967295 = b := ⟨_, rfl⟩
  have hbv : b = v % 4294967296 := by rw [← hb']; exact bits_mask .u64 64 (by decide) wraps_u64 32 (by decide) v (by omega) (by omega)
  obtain ⟨d1, hd1⟩ : ∃ d1, z / 4294967296 = d1 := ⟨_, rfl⟩
  obtain ⟨d0, hd0⟩ : ∃ d0, bits .and .u64 z 4294967295 = d0 := ⟨_, rfl⟩
  have hdz : d0 = z % 4294967296 := by rw [← hd0]; exact bits_mask .u64 64 (by decide) wraps_u64 32 (by decide) z z0.1 (by omega)
  have hvab : v = a * 4294967296 + b := by omega
  have hzd : z = d1 * 4294967296 + d0 := by omega
  have a0 : 2147483648 ≤ a ∧ a < 4294967296 := by omega
  have b0 : 0 ≤ b ∧ b < 4294967296 := by omega
  have e1 : 0 ≤ d1 ∧ d1 < 4294967296 := by omega
  have e0 : 0 ≤ d0 ∧ d0 < 4294967296 := by omega
  have hT : u * (4294967296 * 4294967296) + (d1 * 4294967296 + d0) = (hi * 18446744073709551616 + lo) * 2 ^ s := by rw [← m7, ← hzd]; rfl
  have HT := Lib.hid hT
  have HV := Lib.hid hv
  have HVAB := Lib.hid hvab
  have na : ¬ (a = 0) := by omega
  clear hT hv hvab hzd hbv hdz m1 m2 m3 m4 m6 m7 n0 n1 hu hz
  obtain ⟨q, hq⟩ : ∃ q, u / a = q := ⟨_, rfl⟩
  have hq0 := DivMath.first_q (b := b) (d := d1) (show 0 < a by omega) b0.1 (show (0 : Int) < 4294967296 by omega) u0 e1.1 e1.2
  have hq1 := DivMath.first_le (b := b) (u := u) (B := 4294967296) (show 0 < a by omega) (by omega) (by rw [← HVAB.out]; exact m5)
  have hqd := Int.mul_ediv_add_emod u a
  have hr0 := Int.emod_nonneg u na
  have hr1 := Int.emod_lt_of_pos u (show 0 < a by omega)
  have hqn : 0 ≤ u / a := Int.ediv_nonneg u0 (by omega)
  rw [hq] at hq0 hq1 hqd hqn
  have hq' : IntKind.u64.wrap (u / a) = q := by rw [hq, wrap_u64]; omega
  have hqa : IntKind.u64.wrap (u - IntKind.u64.wrap (q * a)) = u % a := by
    have : q * a = u - u % a := by rw [Int.mul_comm]; omega
    rw [this, wrap_u64, wrap_u64]
    omega
  obtain ⟨r, hr⟩ : ∃ r, u % a = r := ⟨_, rfl⟩
  rw [hr] at hqa hr0 hr1 hqd
  have hvp : 0 < a * 4294967296 + b := by omega
  have hub1 : u < a * 4294967296 + b := by rw [← HVAB.out]; exact m5
  obtain ⟨Q1, hQ1⟩ : ∃ Q1, (u * 4294967296 + d1) / (a * 4294967296 + b) = Q1 := ⟨_, rfl⟩
  rw [hQ1] at hq0
  have HQ1 := Lib.hid hQ1
  have hst1 : IntKind.u64.wrap (u - IntKind.u64.wrap (u / a * a)) = u % a := by rw [hq, hr]; exact hqa
  have hqd1 : u / a * a + u % a = u := by rw [hq, hr, Int.mul_comm]; exact hqd
  have hq01 : Q1 ≤ u / a := by rw [hq]; exact hq0
  have hq11 : u / a ≤ 4294967297 := by rw [hq]; omega
  have hr01 : 0 ≤ u % a := by rw [hr]; omega
  have hr11 : u % a < 4294967296 := by rw [hr]; omega
  have hQ1n := DivMath.q_nonneg (d := d1) (show (0 : Int) < 4294967296 by omega) hvp u0 e1.1
  have hQ1l := DivMath.q_lt (show (0 : Int) < 4294967296 by omega) hvp hub1 e1.2
  rw [hQ1] at hQ1n hQ1l
  have d1b := e1
  have d0b := e0
  clear hq0 hq1 hqd hr0 hr1 hqn hq' hqa hr hq e1 e0
  have hx1 := DivMath.div_rest (x := u * 4294967296 + d1) (v := a * 4294967296 + b) hvp hQ1.symm
  rw [← HVAB.out] at hx1
  have hx2 := wrap_sub3 (u * 4294967296) (Q1 * v) d1
  obtain ⟨x, hx⟩ : ∃ x, u * 4294967296 + d1 - Q1 * v = x := ⟨_, rfl⟩
  rw [hx] at hx1 hx2
  have hx' : IntKind.u64.wrap (IntKind.u64.wrap (IntKind.u64.wrap (u * 4294967296) + d1) - IntKind.u64.wrap (Q1 * v)) = x := by rw [hx2]; omega
  have HX := Lib.hid hx
  have hub2 : x < a * 4294967296 + b := by rw [← HVAB.out]; exact hx1.2
  obtain ⟨Q0, hQ0⟩ : ∃ Q0, (x * 4294967296 + d0) / (a * 4294967296 + b) = Q0 := ⟨_, rfl⟩
  have HQ2 := Lib.hid hQ0
  have x0 := hx1.1
  have hq02 := DivMath.first_q (b := b) (d := d0) (show 0 < a by omega) b0.1 (show (0 : Int) < 4294967296 by omega) x0 d0b.1 d0b.2
  have hq12 := DivMath.first_le (b := b) (u := x) (B := 4294967296) (show 0 < a by omega) (by omega) hub2
  rw [hQ0] at hq02
  have hr02 := Int.emod_nonneg x na
  have hr12 := Int.emod_lt_of_pos x (show 0 < a by omega)
  have hqn2 : 0 ≤ x / a := Int.ediv_nonneg x0 (by omega)
  have hqd2 : x / a * a + x % a = x := by rw [Int.mul_comm]; exact Int.mul_ediv_add_emod x a
  have hst2 : IntKind.u64.wrap (x - IntKind.u64.wrap (x / a * a)) = x % a := by
    have e : x / a * a = x - x % a := by omega
    rw [e, wrap_u64, wrap_u64]
    omega
  have hQ0n := DivMath.q_nonneg (d := d0) (show (0 : Int) < 4294967296 by omega) hvp x0 d0b.1
  have hQ0l := DivMath.q_lt (show (0 : Int) < 4294967296 by omega) hvp hub2 d0b.2
  rw [hQ0] at hQ0n hQ0l
  have hy1 := DivMath.div_rest (x := x * 4294967296 + d0) (v := a * 4294967296 + b) hvp hQ0.symm
  rw [← HVAB.out] at hy1
  have hy2 := wrap_sub3 (x * 4294967296) (Q0 * v) d0
  obtain ⟨t, ht⟩ : ∃ t, x * 4294967296 + d0 - Q0 * v = t := ⟨_, rfl⟩
  rw [ht] at hy1 hy2
  have ht' : IntKind.u64.wrap (IntKind.u64.wrap (IntKind.u64.wrap (x * 4294967296) + d0) - IntKind.u64.wrap (Q0 * v)) = t := by rw [hy2]; omega
  have htw := DivMath.two_digits (T := hi * 18446744073709551616 + lo) (y := y) (B := 4294967296) (q1 := Q1) (q0 := Q0) (by omega) (by omega) hP HV.out.symm HT.out (by rw [HVAB.out]; exact hQ1.symm) (by rw [hx, HVAB.out]; exact hQ0.symm)
  rw [hx, ht] at htw
  have FQ : Hid (Q1 * 4294967296 + Q0 = two64 hi lo / y) := htw.1
  have FR : Hid (t / 2 ^ s = two64 hi lo % y) := htw.2
  have HQD1 := Lib.hid hqd1
  have HQD2 := Lib.hid hqd2
  clear hQ1 hQ0 hx hx2 hy2 ht htw hqd1 hqd2 hx1 hy1
  go_enter Try.func39, Try.ntmps39
  go_wp2_with (first | (go_at_call 41; refine (hlz _).mono ?_; rintro e w' ⟨rfl, rfl⟩))
  clear hv' hu' hz' ha hb' hd1 hd0 hst1
  go_loop [15, 16] (fun vx vy => ∃ q r : Int, vx = .int .u64 q ∧ vy = .int .u64 r ∧ q * a + r = u ∧ Q1 ≤ q ∧ q ≤ 4294967297 ∧ 0 ≤ r ∧ r < 4294967296) (fun vx _ => (intOf vx).toNat)
  case atStart => exact ⟨u / a, u % a, rfl, rfl, HQD1.out, hq01, hq11, hr01, by omega⟩
  case round =>
    skip
    obtain ⟨q, r, rfl, rfl, he, hQ, hq2, hr2, hr3⟩ := hrel
    have HE := Lib.hid he
    clear he
    have hqn : 0 ≤ q := by omega
    by_cases hbig : 4294967296 ≤ q
    · have hQ2 : Q1 ≤ q - 1 := by omega
      have he2 : (q - 1) * a + (r + a) = u := by rw [← HE.out, Int.sub_mul]; omega
      have HE2 := Lib.hid he2
      clear he2
      by_cases hbr : 4294967296 ≤ r + a
      · have hqe : q - 1 = Q1 := by
          have h1 := DivMath.q_small (show 0 < a by omega) (show b ≤ 4294967296 by omega) hub1 HE2.out hbr
          have h2 := DivMath.le_q (b := b) (d := d1) (B := 4294967296) hvp HE2.out (DivMath.mul_le_BB b0.1 b0.2 (by omega) h1 hbr d1b.1)
          rw [HQ1.out] at h2
          omega
        go_wp2_with fail
        clear hqe
        clear hx'
        go_loop [18, 16] (fun vx vy => ∃ qz rz : Int, vx = .int .u64 qz ∧ vy = .int .u64 rz ∧ qz * a + rz = x ∧ Q0 ≤ qz ∧ qz ≤ 4294967297 ∧ 0 ≤ rz ∧ rz < 4294967296) (fun vx _ => (intOf vx).toNat)
        case atStart => exact ⟨x / a, x % a, rfl, rfl, HQD2.out, hq02, hq12, hr02, by omega⟩
        case round =>
          clear hst2
          obtain ⟨qz, rz, rfl, rfl, hez, hQz, hq2z, hr2z, hr3z⟩ := hrel
          have HEz := Lib.hid hez
          clear hez
          have hqnz : 0 ≤ qz := by omega
          by_cases hbigz : 4294967296 ≤ qz
          · have hQ2z : Q0 ≤ qz - 1 := by omega
            have he2z : (qz - 1) * a + (rz + a) = x := by rw [← HEz.out, Int.sub_mul]; omega
            have HE2z := Lib.hid he2z
            clear he2z
            by_cases hbrz : 4294967296 ≤ rz + a
            · have hqez : qz - 1 = Q0 := by
                have h1z := DivMath.q_small (show 0 < a by omega) (show b ≤ 4294967296 by omega) hub2 HE2z.out hbrz
                have h2z := DivMath.le_q (b := b) (d := d0) (B := 4294967296) hvp HE2z.out (DivMath.mul_le_BB b0.1 b0.2 (by omega) h1z hbrz d0b.1)
                rw [HQ2.out] at h2z
                omega
              go_wp2_with fail
              clear hqez
              go_wp2
              go_ret2
              exact ⟨ret_int2 FQ.out FR.out, 0, rfl⟩
            · go_wp2
              go_round
              case rel => exact ⟨qz - 1, rz + a, rfl, rfl, HE2z.out, hQ2z, by omega, by omega, by omega⟩
              case measure => simp [intOf]; omega
          · have hpz := DivMath.prod_bd b0.1 b0.2 hqnz (show qz < 4294967296 by omega)
            obtain ⟨mz, hmz⟩ : ∃ mz, qz * b = mz := ⟨_, rfl⟩
            rw [hmz] at hpz
            have HMz := Lib.hid hmz
            have hp2z : mz ≤ 18446744073709551615 := by omega
            have hp1z := hpz.1
            clear hpz
            by_cases hpayz : 4294967296 * rz + d0 < mz
            · have hQ2z : Q0 ≤ qz - 1 := by
                have := DivMath.lt_q hvp HEz.out (show 4294967296 * rz + d0 < qz * b by rw [HMz.out]; exact hpayz)
                rw [HQ2.out] at this
                omega
              have he2z : (qz - 1) * a + (rz + a) = x := by rw [← HEz.out, Int.sub_mul]; omega
              have HE2z := Lib.hid he2z
              clear he2z
              by_cases hbrz : 4294967296 ≤ rz + a
              · have hqez : qz - 1 = Q0 := by
                  have h1z := DivMath.q_small (show 0 < a by omega) (show b ≤ 4294967296 by omega) hub2 HE2z.out hbrz
                  have h2z := DivMath.le_q (b := b) (d := d0) (B := 4294967296) hvp HE2z.out (DivMath.mul_le_BB b0.1 b0.2 (by omega) h1z hbrz d0b.1)
                  rw [HQ2.out] at h2z
                  omega
                go_wp2_with fail
                clear hqez
                go_wp2
                go_ret2
                exact ⟨ret_int2 FQ.out FR.out, 0, rfl⟩
              · go_wp2
                go_round
                case rel => exact ⟨qz - 1, rz + a, rfl, rfl, HE2z.out, hQ2z, by omega, by omega, by omega⟩
                case measure => simp [intOf]; omega
            · obtain rfl : qz = Q0 := by
                have h2z := DivMath.le_q (b := b) (d := d0) (B := 4294967296) hvp HEz.out (by rw [HMz.out]; omega)
                rw [HQ2.out] at h2z
                omega
              go_wp2_with fail
              go_wp2
              go_ret2
              exact ⟨ret_int2 FQ.out FR.out, 0, rfl⟩
      · go_wp2
        go_round
        case rel => exact ⟨q - 1, r + a, rfl, rfl, HE2.out, hQ2, by omega, by omega, by omega⟩
        case measure => simp [intOf]; omega
    · have hp := DivMath.prod_bd b0.1 b0.2 hqn (show q < 4294967296 by omega)
      obtain ⟨m, hm⟩ : ∃ m, q * b = m := ⟨_, rfl⟩
      rw [hm] at hp
      have HM := Lib.hid hm
      have hp2 : m ≤ 18446744073709551615 := by omega
      have hp1 := hp.1
      clear hp
      by_cases hpay : 4294967296 * r + d1 < m
      · have hQ2 : Q1 ≤ q - 1 := by
          have := DivMath.lt_q hvp HE.out (show 4294967296 * r + d1 < q * b by rw [HM.out]; exact hpay)
          rw [HQ1.out] at this
          omega
        have he2 : (q - 1) * a + (r + a) = u := by rw [← HE.out, Int.sub_mul]; omega
        have HE2 := Lib.hid he2
        clear he2
        by_cases hbr : 4294967296 ≤ r + a
        · have hqe : q - 1 = Q1 := by
            have h1 := DivMath.q_small (show 0 < a by omega) (show b ≤ 4294967296 by omega) hub1 HE2.out hbr
            have h2 := DivMath.le_q (b := b) (d := d1) (B := 4294967296) hvp HE2.out (DivMath.mul_le_BB b0.1 b0.2 (by omega) h1 hbr d1b.1)
            rw [HQ1.out] at h2
            omega
          go_wp2_with fail
          clear hqe
          clear hx'
          go_loop [18, 16] (fun vx vy => ∃ qz rz : Int, vx = .int .u64 qz ∧ vy = .int .u64 rz ∧ qz * a + rz = x ∧ Q0 ≤ qz ∧ qz ≤ 4294967297 ∧ 0 ≤ rz ∧ rz < 4294967296) (fun vx _ => (intOf vx).toNat)
          case atStart => exact ⟨x / a, x % a, rfl, rfl, HQD2.out, hq02, hq12, hr02, by omega⟩
          case round =>
            clear hst2
            obtain ⟨qz, rz, rfl, rfl, hez, hQz, hq2z, hr2z, hr3z⟩ := hrel
            have HEz := Lib.hid hez
            clear hez
            have hqnz : 0 ≤ qz := by omega
            by_cases hbigz : 4294967296 ≤ qz
            · have hQ2z : Q0 ≤ qz - 1 := by omega
              have he2z : (qz - 1) * a + (rz + a) = x := by rw [← HEz.out, Int.sub_mul]; omega
              have HE2z := Lib.hid he2z
              clear he2z
              by_cases hbrz : 4294967296 ≤ rz + a
              · have hqez : qz - 1 = Q0 := by
                  have h1z := DivMath.q_small (show 0 < a by omega) (show b ≤ 4294967296 by omega) hub2 HE2z.out hbrz
                  have h2z := DivMath.le_q (b := b) (d := d0) (B := 4294967296) hvp HE2z.out (DivMath.mul_le_BB b0.1 b0.2 (by omega) h1z hbrz d0b.1)
                  rw [HQ2.out] at h2z
                  omega
                go_wp2_with fail
                clear hqez
                go_wp2
                go_ret2
                exact ⟨ret_int2 FQ.out FR.out, 0, rfl⟩
              · go_wp2
                go_round
                case rel => exact ⟨qz - 1, rz + a, rfl, rfl, HE2z.out, hQ2z, by omega, by omega, by omega⟩
                case measure => simp [intOf]; omega
            · have hpz := DivMath.prod_bd b0.1 b0.2 hqnz (show qz < 4294967296 by omega)
              obtain ⟨mz, hmz⟩ : ∃ mz, qz * b = mz := ⟨_, rfl⟩
              rw [hmz] at hpz
              have HMz := Lib.hid hmz
              have hp2z : mz ≤ 18446744073709551615 := by omega
              have hp1z := hpz.1
              clear hpz
              by_cases hpayz : 4294967296 * rz + d0 < mz
              · have hQ2z : Q0 ≤ qz - 1 := by
                  have := DivMath.lt_q hvp HEz.out (show 4294967296 * rz + d0 < qz * b by rw [HMz.out]; exact hpayz)
                  rw [HQ2.out] at this
                  omega
                have he2z : (qz - 1) * a + (rz + a) = x := by rw [← HEz.out, Int.sub_mul]; omega
                have HE2z := Lib.hid he2z
                clear he2z
                by_cases hbrz : 4294967296 ≤ rz + a
                · have hqez : qz - 1 = Q0 := by
                    have h1z := DivMath.q_small (show 0 < a by omega) (show b ≤ 4294967296 by omega) hub2 HE2z.out hbrz
                    have h2z := DivMath.le_q (b := b) (d := d0) (B := 4294967296) hvp HE2z.out (DivMath.mul_le_BB b0.1 b0.2 (by omega) h1z hbrz d0b.1)
                    rw [HQ2.out] at h2z
                    omega
                  go_wp2_with fail
                  clear hqez
                  go_wp2
                  go_ret2
                  exact ⟨ret_int2 FQ.out FR.out, 0, rfl⟩
                · go_wp2
                  go_round
                  case rel => exact ⟨qz - 1, rz + a, rfl, rfl, HE2z.out, hQ2z, by omega, by omega, by omega⟩
                  case measure => simp [intOf]; omega
              · obtain rfl : qz = Q0 := by
                  have h2z := DivMath.le_q (b := b) (d := d0) (B := 4294967296) hvp HEz.out (by rw [HMz.out]; omega)
                  rw [HQ2.out] at h2z
                  omega
                go_wp2_with fail
                go_wp2
                go_ret2
                exact ⟨ret_int2 FQ.out FR.out, 0, rfl⟩
        · go_wp2
          go_round
          case rel => exact ⟨q - 1, r + a, rfl, rfl, HE2.out, hQ2, by omega, by omega, by omega⟩
          case measure => simp [intOf]; omega
      · obtain rfl : q = Q1 := by
          have h2 := DivMath.le_q (b := b) (d := d1) (B := 4294967296) hvp HE.out (by rw [HM.out]; omega)
          rw [HQ1.out] at h2
          omega
        go_wp2_with fail
        clear hx'
        go_loop [18, 16] (fun vx vy => ∃ qz rz : Int, vx = .int .u64 qz ∧ vy = .int .u64 rz ∧ qz * a + rz = x ∧ Q0 ≤ qz ∧ qz ≤ 4294967297 ∧ 0 ≤ rz ∧ rz < 4294967296) (fun vx _ => (intOf vx).toNat)
        case atStart => exact ⟨x / a, x % a, rfl, rfl, HQD2.out, hq02, hq12, hr02, by omega⟩
        case round =>
          clear hst2
          obtain ⟨qz, rz, rfl, rfl, hez, hQz, hq2z, hr2z, hr3z⟩ := hrel
          have HEz := Lib.hid hez
          clear hez
          have hqnz : 0 ≤ qz := by omega
          by_cases hbigz : 4294967296 ≤ qz
          · have hQ2z : Q0 ≤ qz - 1 := by omega
            have he2z : (qz - 1) * a + (rz + a) = x := by rw [← HEz.out, Int.sub_mul]; omega
            have HE2z := Lib.hid he2z
            clear he2z
            by_cases hbrz : 4294967296 ≤ rz + a
            · have hqez : qz - 1 = Q0 := by
                have h1z := DivMath.q_small (show 0 < a by omega) (show b ≤ 4294967296 by omega) hub2 HE2z.out hbrz
                have h2z := DivMath.le_q (b := b) (d := d0) (B := 4294967296) hvp HE2z.out (DivMath.mul_le_BB b0.1 b0.2 (by omega) h1z hbrz d0b.1)
                rw [HQ2.out] at h2z
                omega
              go_wp2_with fail
              clear hqez
              go_wp2
              go_ret2
              exact ⟨ret_int2 FQ.out FR.out, 0, rfl⟩
            · go_wp2
              go_round
              case rel => exact ⟨qz - 1, rz + a, rfl, rfl, HE2z.out, hQ2z, by omega, by omega, by omega⟩
              case measure => simp [intOf]; omega
          · have hpz := DivMath.prod_bd b0.1 b0.2 hqnz (show qz < 4294967296 by omega)
            obtain ⟨mz, hmz⟩ : ∃ mz, qz * b = mz := ⟨_, rfl⟩
            rw [hmz] at hpz
            have HMz := Lib.hid hmz
            have hp2z : mz ≤ 18446744073709551615 := by omega
            have hp1z := hpz.1
            clear hpz
            by_cases hpayz : 4294967296 * rz + d0 < mz
            · have hQ2z : Q0 ≤ qz - 1 := by
                have := DivMath.lt_q hvp HEz.out (show 4294967296 * rz + d0 < qz * b by rw [HMz.out]; exact hpayz)
                rw [HQ2.out] at this
                omega
              have he2z : (qz - 1) * a + (rz + a) = x := by rw [← HEz.out, Int.sub_mul]; omega
              have HE2z := Lib.hid he2z
              clear he2z
              by_cases hbrz : 4294967296 ≤ rz + a
              · have hqez : qz - 1 = Q0 := by
                  have h1z := DivMath.q_small (show 0 < a by omega) (show b ≤ 4294967296 by omega) hub2 HE2z.out hbrz
                  have h2z := DivMath.le_q (b := b) (d := d0) (B := 4294967296) hvp HE2z.out (DivMath.mul_le_BB b0.1 b0.2 (by omega) h1z hbrz d0b.1)
                  rw [HQ2.out] at h2z
                  omega
                go_wp2_with fail
                clear hqez
                go_wp2
                go_ret2
                exact ⟨ret_int2 FQ.out FR.out, 0, rfl⟩
              · go_wp2
                go_round
                case rel => exact ⟨qz - 1, rz + a, rfl, rfl, HE2z.out, hQ2z, by omega, by omega, by omega⟩
                case measure => simp [intOf]; omega
            · obtain rfl : qz = Q0 := by
                have h2z := DivMath.le_q (b := b) (d := d0) (B := 4294967296) hvp HEz.out (by rw [HMz.out]; omega)
                rw [HQ2.out] at h2z
                omega
              go_wp2_with fail
              go_wp2
              go_ret2
              exact ⟨ret_int2 FQ.out FR.out, 0, rfl⟩

theorem div64_any (hi lo y : Int) (w : World) (hh : 0 ≤ hi) (hl : 0 ≤ lo ∧ lo ≤ 18446744073709551615) (hy : hi < y ∧ y ≤ 18446744073709551615) :
    Calls Try.prog 39 #[.int .u64 hi, .int .u64 lo, .int .u64 y] w fun e w' => e = .returned (.tuple #[.int .u64 (two64 hi lo / y), .int .u64 (two64 hi lo % y)]) ∧ ∃ n, w' = w.drewN n := by
  by_cases h : hi = 0
  · subst h
    have e : two64 0 lo = lo := by unfold two64; omega
    rw [e]
    exact div64_low lo y w hl (by omega)
  · exact div64_high hi lo y w (by omega) hl hy

end Go.Proofs.Ytbjjfjgomkmdhaa
