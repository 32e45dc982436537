/- stamp: what each of its functions answers. -/
import Derived.Test.YtnkkfmiacbkdpaaDiv
namespace Go.Proofs.Ytnkkfmiacbkdpaa
open Go.RowKit
set_option linter.unusedVariables false
set_option linter.unusedSimpArgs false

def shortS (u : Int) : Int := (u * 1000000000 + 65535) / 65536
theorem short_any (u : Int) (w : World) (h : 0 ≤ u ∧ u ≤ 4294967295) :
    Calls Try.prog 10 #[.int .u32 u] w fun e w' => e = .returned (.int .i64 (shortS u)) ∧ w' = w := by
  obtain ⟨h0, h1⟩ := h
  go_enter Try.func10, Try.ntmps10
  go_wp2
  go_ret
  exact ⟨ret_int (by unfold shortS; omega), rfl⟩

def nsShortS (n : Int) : Int := if n ≤ 0 then 0 else if (n - 1) * 65536 / 1000000000 + 1 ≤ 4294967295 then (n - 1) * 65536 / 1000000000 + 1 else 4294967295
theorem mul64_any (x y : Int) (hx : 0 ≤ x ∧ x ≤ 18446744073709551615) (hy : 0 ≤ y ∧ y ≤ 18446744073709551615) (w : World) :
    Calls Try.prog 24 #[.int .u64 x, .int .u64 y] w fun e w' => e = .returned (.tuple #[.int .u64 (x * y / 18446744073709551616), .int .u64 (x * y % 18446744073709551616)]) ∧ w' = w := by
  obtain ⟨a, rfl⟩ := Int.eq_ofNat_of_zero_le hx.1
  obtain ⟨b, rfl⟩ := Int.eq_ofNat_of_zero_le hy.1
  have h := Try.bits_Mul64 a b (by omega) (by omega) w
  rw [show ((a * b / 18446744073709551616 : Nat) : Int) = (a : Int) * b / 18446744073709551616 by rw [Int.natCast_ediv, Int.natCast_mul]; rfl, show ((a * b % 18446744073709551616 : Nat) : Int) = (a : Int) * b % 18446744073709551616 by rw [Int.natCast_emod, Int.natCast_mul]; rfl] at h
  exact h

/-- A product, divided: of two words, by a number above the first one. -/
theorem div64_of (x y c : Int) (w : World) (hx : 0 ≤ x ∧ x ≤ 18446744073709551615) (hy : 0 ≤ y ∧ y ≤ 18446744073709551615) (hc : x * y / 18446744073709551616 < c ∧ c ≤ 18446744073709551615) :
    Calls Try.prog 23 #[.int .u64 (x * y / 18446744073709551616), .int .u64 (x * y % 18446744073709551616), .int .u64 c] w fun e w' => e = .returned (.tuple #[.int .u64 (x * y / c), .int .u64 (x * y % c)]) ∧ ∃ n, w' = w.drewN n := by
  have h0 : 0 ≤ x * y := Int.mul_nonneg hx.1 hy.1
  have h := div64_any (x * y / 18446744073709551616) (x * y % 18446744073709551616) c w (by omega) (by omega) (by omega)
  have e2 : two64 (x * y / 18446744073709551616) (x * y % 18446744073709551616) = x * y := by unfold two64; omega
  rw [e2] at h
  exact h

theorem nsshort_any (n : Int) (w : World) (h : -9223372036854775808 ≤ n ∧ n ≤ 9223372036854775807) :
    Calls Try.prog 11 #[.int .i64 n] w fun e w' => e = .returned (.int .u32 (nsShortS n)) ∧ ∃ k, w' = w.drewN k := by
  obtain ⟨h0, h1⟩ := h
  by_cases hn : n ≤ 0
  · have e : nsShortS n = 0 := by rw [nsShortS, if_pos hn]
    rw [e]
    clear e
    go_enter Try.func11, Try.ntmps11
    go_wp2
    go_ret
    exact ⟨rfl, 0, rfl⟩
  · have hu : IntKind.u64.wrap (n - 1) = n - 1 := by rw [wrap_u64]; omega
    have m1 := fun w => mul64_any (n - 1) 65536 (by omega) (by omega) w
    have d1 := fun w => div64_of (n - 1) 65536 1000000000 w (by omega) (by omega) (by omega)
    go_enter Try.func11, Try.ntmps11
    go_wp2_with fail
    refine (m1 _).mono ?_
    rintro e w1 ⟨rfl, rfl⟩
    go_wp2_with fail
    refine (d1 _).mono ?_
    rintro e w2 ⟨rfl, k, rfl⟩
    go_wp2_with fail
    go_ret
    exact ⟨ret_int (by rw [nsShortS, if_neg (by omega)]; split <;> omega), k, rfl⟩

theorem parts_any (n : Int) (w : World) (h : -9223372036854775808 ≤ n ∧ n ≤ 9223372036854775807) :
    Calls Try.prog 22 #[.int .i64 n] w fun e w' => e = .returned (.tuple #[.int .i64 (n / 1000000000 / 4294967296), .int .u32 (n / 1000000000 % 4294967296), .int .u64 (n % 1000000000)]) ∧ w' = w := by
  obtain ⟨h0, h1⟩ := h
  by_cases hn : 0 ≤ n
  · have hr : ¬ n % 1000000000 < 0 := by omega
    go_enter Try.func22, Try.ntmps22
    go_wp2
    go_ret3
    exact ⟨rfl, rfl⟩
  · obtain ⟨q, hq⟩ : ∃ q, n.tdiv 1000000000 = q := ⟨_, rfl⟩
    obtain ⟨r, hr⟩ : ∃ r, n.tmod 1000000000 = r := ⟨_, rfl⟩
    have hqr : n = q * 1000000000 + r ∧ -1000000000 < r ∧ r ≤ 0 := by
      have h1 := Int.tdiv_mul_add_tmod n 1000000000
      have h2 := Int.lt_tmod_of_pos n (show (0 : Int) < 1000000000 by decide)
      have h3 : n.tmod 1000000000 ≤ 0 := by
        have e : n.tmod 1000000000 = -((-n).tmod 1000000000) := by rw [Int.neg_tmod]; omega
        rw [e, Int.tmod_eq_emod_of_nonneg (by omega)]
        omega
      omega
    obtain ⟨hqr, r0, r1⟩ := hqr
    have q0 : -9223372037 ≤ q := by omega
    have q1 : q ≤ 0 := by omega
    have HQR := Lib.hid hqr
    clear hqr
    by_cases hz : r < 0
    · have e1 : n / 1000000000 = q - 1 := by have := HQR.out; omega
      have e2 : n % 1000000000 = r + 1000000000 := by have := HQR.out; omega
      rw [e1, e2]
      have hu : IntKind.u64.wrap (r + 1000000000) = r + 1000000000 := by rw [wrap_u64]; omega
      clear e1 e2
      go_enter Try.func22, Try.ntmps22
      go_wp2
      go_ret3
      exact ⟨rfl, rfl⟩
    · have e1 : n / 1000000000 = q := by have := HQR.out; omega
      have e2 : n % 1000000000 = r := by have := HQR.out; omega
      rw [e1, e2]
      have hu : IntKind.u64.wrap r = r := by rw [wrap_u64]; omega
      clear e1 e2
      go_enter Try.func22, Try.ntmps22
      go_wp2
      go_ret3
      exact ⟨rfl, rfl⟩

theorem u64_mask32 (n : Int) : bits .and .u64 n 4294967295 = n % 4294967296 := by
  have hm : (BitVec.ofInt 64 4294967295).toNat = 2 ^ 32 - 1 := by decide
  have key : (BitVec.ofInt 64 n &&& BitVec.ofInt 64 4294967295).toNat = (n % ((2 ^ 64 : Nat) : Int)).toNat % 2 ^ 32 := by
    rw [BitVec.toNat_and, BitVec.toNat_ofInt, hm, Nat.and_two_pow_sub_one_eq_mod]
  show IntKind.u64.wrap ((BitVec.ofInt 64 n &&& BitVec.ofInt 64 4294967295).toNat : Nat) = n % 4294967296
  rw [key, wrap_u64]
  omega
/-- Two words of 32 bits laid together. -/
theorem u64_or32 (x y : Int) (hx : 0 ≤ x ∧ x ≤ 4294967295) (hy : 0 ≤ y ∧ y ≤ 4294967295) : bits .or .u64 (x * 4294967296) y = x * 4294967296 + y := by
  obtain ⟨a, rfl⟩ := Int.eq_ofNat_of_zero_le hx.1
  obtain ⟨b, rfl⟩ := Int.eq_ofNat_of_zero_le hy.1
  have h := (bits_nat .u64 64 (by decide) (fun n h0 h1 => by rw [wrap_u64]; omega) (a * 4294967296) b (by omega) (by omega)).2
  have e : (a * 4294967296) ||| b = a * 4294967296 + b := by
    have e32 : (2 : Nat) ^ 32 = 4294967296 := by decide
    have h2 := Nat.two_pow_add_eq_or_of_lt (i := 32) (b := b) (by rw [e32]; omega) a
    rw [e32, Nat.mul_comm] at h2
    exact h2.symm
  rw [e] at h
  rw [Int.natCast_add, Int.natCast_mul] at h
  exact h

/-- A fraction of a second, as so many parts, up. -/
theorem frac_up (r M : Int) (hr : 0 ≤ r ∧ r < 1000000000) : (r * M + 999999999) / 1000000000 = r * M / 1000000000 + (if r * M % 1000000000 = 0 then 0 else 1) := by
  generalize r * M = x
  split <;> omega

structure DateS where
  (era off frac : Int)
def dateS (n : Int) : DateS := ⟨n / 1000000000 / 4294967296, n / 1000000000 % 4294967296, (n % 1000000000 * 18446744073709551616 + 999999999) / 1000000000⟩
def DateS.val (d : DateS) : Value := .agg #[.int .i32 d.era, .int .u32 d.off, .int .u64 d.frac]
structure DateS.ok (d : DateS) : Prop where
  e0 : -2147483648 ≤ d.era
  e1 : d.era ≤ 2147483647
  o0 : 0 ≤ d.off
  o1 : d.off ≤ 4294967295
  f0 : 0 ≤ d.frac
  f1 : d.frac ≤ 18446744073709551615
theorem dateS_ok (n : Int) (h0 : -9223372036854775808 ≤ n) (h1 : n ≤ 9223372036854775807) : (dateS n).ok := by
  constructor <;> simp only [dateS] <;> omega

def awayS (p n : Int) : Int := if n < p then p - n else n - p
theorem away_any (b : Nat) (n p : Int) (w : World) (hc : w.cell? ⟨b, 0, none⟩ = some (.int .i64 p)) (hp : 0 ≤ p ∧ p ≤ 4611686018427387904) (hn : -4294967296000000000 ≤ n ∧ n ≤ 8589934592000000000) :
    Calls Try.prog 25 #[.int .i64 n, .pointer (some ⟨b, 0, none⟩)] w fun e w' => e = .returned (.int .u64 (awayS p n)) ∧ w' = w := by
  obtain ⟨p0, p1⟩ := hp
  obtain ⟨n0, n1⟩ := hn
  by_cases h : n < p
  · have e : awayS p n = p - n := by rw [awayS, if_pos h]
    rw [e]
    clear e
    have hu : IntKind.u64.wrap (p - n) = p - n := by rw [wrap_u64]; omega
    go_enter Try.func25, Try.ntmps25
    go_wp2
    go_ret
    exact ⟨rfl, rfl⟩
  · have e : awayS p n = n - p := by rw [awayS, if_neg h]
    rw [e]
    clear e
    have hu : IntKind.u64.wrap (n - p) = n - p := by rw [wrap_u64]; omega
    go_enter Try.func25, Try.ntmps25
    go_wp2
    go_ret
    exact ⟨rfl, rfl⟩

/-- The time of a stamp's seconds in era 0. -/
def firstS (u : Int) : Int := u / 4294967296 * 1000000000 + u % 4294967296 * 1000000000 / 4294967296
def stampNsS (u p : Int) : Int :=
  if 4294967296000000000 ≤ 2 * (firstS u - p) then firstS u - 4294967296000000000
  else if 4294967296000000000 < 2 * (p - firstS u) then firstS u + 4294967296000000000 else firstS u
def pivotS (p : Int) : Int := if p < 0 then 0 else if 4611686018427387904 < p then 4611686018427387904 else p
theorem pivotS_bd (p : Int) : 0 ≤ pivotS p ∧ pivotS p ≤ 4611686018427387904 := by unfold pivotS; split <;> (try split) <;> omega
theorem firstS_bd (u : Int) (h : 0 ≤ u ∧ u ≤ 18446744073709551615) : 0 ≤ firstS u ∧ firstS u < 4294967296000000000 := by unfold firstS; omega

/-- Seconds in their place, and parts of one below. -/
def nsStampS (n : Int) : Int := n / 1000000000 % 4294967296 * 4294967296 + (n % 1000000000 * 4294967296 + 999999999) / 1000000000
theorem nsstamp_any (n : Int) (w : World) (h : -9223372036854775808 ≤ n ∧ n ≤ 9223372036854775807) :
    Calls Try.prog 9 #[.int .i64 n] w fun e w' => e = .returned (.int .u64 (nsStampS n)) ∧ w' = w := by
  have p1 := fun w => parts_any n w h
  obtain ⟨a, ha⟩ : ∃ a, n / 1000000000 % 4294967296 = a := ⟨_, rfl⟩
  obtain ⟨r, hr⟩ : ∃ r, n % 1000000000 = r := ⟨_, rfl⟩
  have a0 : 0 ≤ a := by omega
  have a1 : a ≤ 4294967295 := by omega
  have r0 : 0 ≤ r := by omega
  have r1 : r ≤ 999999999 := by omega
  unfold nsStampS
  rw [ha, hr]
  rw [ha, hr] at p1
  clear ha hr h
  have hor := u64_or32 a ((r * 4294967296 + 999999999) / 1000000000) ⟨a0, a1⟩ ⟨by omega, by omega⟩
  have w1 : IntKind.u64.wrap (r * 4294967296) = r * 4294967296 := by rw [wrap_u64]; omega
  have w2 : IntKind.u64.wrap (r * 4294967296 + 1000000000) = r * 4294967296 + 1000000000 := by rw [wrap_u64]; omega
  have w3 : IntKind.u64.wrap (r * 4294967296 + 1000000000 - 1) = r * 4294967296 + 999999999 := by rw [wrap_u64]; omega
  have w4 : IntKind.u64.wrap (a * 4294967296) = a * 4294967296 := by rw [wrap_u64]; omega
  have P1 := Lib.hid p1
  clear p1
  go_enter Try.func9, Try.ntmps9
  go_wp2_with fail
  refine (P1.out _).mono ?_
  rintro e w1 ⟨rfl, rfl⟩
  go_wp2_with fail
  go_ret
  exact ⟨rfl, rfl⟩

end Go.Proofs.Ytnkkfmiacbkdpaa
