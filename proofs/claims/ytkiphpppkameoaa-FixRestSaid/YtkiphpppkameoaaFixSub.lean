/- math/bits.Sub64 at this program; the law's own wide. -/
import Derived.Test.YtkiphpppkameoaaFixAwake
import Derived.Shelf.Spec.BitsCarry
import Derived.Outline
namespace Go.Proofs.Ytkiphpppkameoaa
open Go.RowKit
set_option linter.unusedVariables false
set_option linter.unusedSimpArgs false

theorem sub64_nat (x y b : Nat) (hb : b ≤ 1) (w : World) :
    (callFunc 18 #[.int .u64 x, .int .u64 y, .int .u64 b]).run Try.prog w =
      .ok (.value (.tuple #[.int .u64 (((x + 18446744073709551616 - y - b) % 18446744073709551616 : Nat) : Int), .int .u64 ((if x < y + b then 1 else 0 : Nat) : Int)])) w := by
  rw [run_callFunc_extern Try.func18 (by kernel_rfl) (by kernel_rfl) (by kernel_rfl) (e := sub64Entry) (by kernel_rfl), run_sub64 x y b hb]
  rfl
def borS (x y b : Int) : Int := if x < y + b then 1 else 0
theorem sub64_int (x y b : Int) (hx : 0 ≤ x ∧ x ≤ 18446744073709551615) (hy : 0 ≤ y ∧ y ≤ 18446744073709551615) (hb : b = 0 ∨ b = 1) (w : World) :
    (callFunc 18 #[.int .u64 x, .int .u64 y, .int .u64 b]).run Try.prog w =
      .ok (.value (.tuple #[.int .u64 ((x - y - b) % 18446744073709551616), .int .u64 (borS x y b)])) w := by
  obtain ⟨a, rfl⟩ := Int.eq_ofNat_of_zero_le hx.1
  obtain ⟨c, rfl⟩ := Int.eq_ofNat_of_zero_le hy.1
  obtain ⟨d, rfl⟩ := Int.eq_ofNat_of_zero_le (show 0 ≤ b by omega)
  rw [sub64_nat a c d (by omega) w]
  have e1 : (((a + 18446744073709551616 - c - d) % 18446744073709551616 : Nat) : Int) = ((a : Int) - c - d) % 18446744073709551616 := by omega
  have e2 : ((if a < c + d then 1 else 0 : Nat) : Int) = borS a c d := by unfold borS; split <;> split <;> omega
  rw [e1, e2]

theorem wide_any (x y : Int) (w : World) (hx : -9223372036854775808 ≤ x ∧ x ≤ 9223372036854775807) (hy : -9223372036854775808 ≤ y ∧ y ≤ 9223372036854775807) :
    Calls Try.prog 17 #[.int .i64 x, .int .i64 y] w fun e w' => e = .returned (.tuple #[.int .u64 (x * y / 18446744073709551616 % 18446744073709551616), .int .u64 (x * y % 18446744073709551616)]) ∧ w' = w := by
  obtain ⟨x0, x1⟩ := hx
  obtain ⟨y0, y1⟩ := hy
  obtain ⟨u, hu⟩ : ∃ u, IntKind.u64.wrap x = u := ⟨_, rfl⟩
  obtain ⟨v, hv⟩ : ∃ v, IntKind.u64.wrap y = v := ⟨_, rfl⟩
  have hu2 : (x < 0 ∧ u = x + 18446744073709551616) ∨ (¬ x < 0 ∧ u = x) := by rw [wrap_u64] at hu; omega
  have hv2 : (y < 0 ∧ v = y + 18446744073709551616) ∨ (¬ y < 0 ∧ v = y) := by rw [wrap_u64] at hv; omega
  have m1 := fun w => mul64_any u v (by omega) (by omega) w
  have hb : 0 ≤ u * v := Int.mul_nonneg (by omega) (by omega)
  have hb2 : u * v ≤ 18446744073709551615 * 18446744073709551615 := Int.mul_le_mul (by omega) (by omega) (by omega) (by decide)
  obtain ⟨h, hh⟩ : ∃ h, u * v / 18446744073709551616 = h := ⟨_, rfl⟩
  obtain ⟨l, hl⟩ : ∃ l, u * v % 18446744073709551616 = l := ⟨_, rfl⟩
  rw [hh, hl] at m1
  have h0 : 0 ≤ h := by omega
  have h1 : h ≤ 18446744073709551615 := by omega
  have key : ∀ H, H = x * y / 18446744073709551616 % 18446744073709551616 → l = x * y % 18446744073709551616 → Calls Try.prog 17 #[.int .i64 x, .int .i64 y] w (fun e w' => e = .returned (.tuple #[.int .u64 H, .int .u64 l]) ∧ w' = w) → Calls Try.prog 17 #[.int .i64 x, .int .i64 y] w fun e w' => e = .returned (.tuple #[.int .u64 (x * y / 18446744073709551616 % 18446744073709551616), .int .u64 (x * y % 18446744073709551616)]) ∧ w' = w := fun H e1 e2 hc => by rw [← e1, ← e2]; exact hc
  have M := Lib.hid m1
  clear m1 hb hb2
  rcases hu2 with ⟨hx, hux⟩ | ⟨hx, hux⟩ <;> rcases hv2 with ⟨hy, hvy⟩ | ⟨hy, hvy⟩
  · have e : u * v = x * y + 18446744073709551616 * (x + y) + 18446744073709551616 * 18446744073709551616 := by rw [hux, hvy]; grind
    generalize x * y = P at *
    rw [e] at hh hl
    refine key ((h - v - u) % 18446744073709551616) (by omega) (by omega) ?_
    have w1 : IntKind.u64.wrap (h - v) = (h - v) % 18446744073709551616 := wrap_u64 _
    have w2 : IntKind.u64.wrap ((h - v) % 18446744073709551616 - u) = (h - v - u) % 18446744073709551616 := by rw [wrap_u64]; omega
    clear key e hh hl hux hvy
    go_enter Try.func17, Try.ntmps17
    go_wp2_with fail
    refine (M.out _).mono ?_
    rintro e w1 ⟨rfl, rfl⟩
    go_wp2_with fail
    go_ret2
    exact ⟨rfl, rfl⟩
  · have e : u * v = x * y + 18446744073709551616 * y := by rw [hux, hvy]; grind
    generalize x * y = P at *
    rw [e] at hh hl
    refine key ((h - v) % 18446744073709551616) (by omega) (by omega) ?_
    have w1 : IntKind.u64.wrap (h - v) = (h - v) % 18446744073709551616 := wrap_u64 _
    clear key e hh hl hux hvy
    go_enter Try.func17, Try.ntmps17
    go_wp2_with fail
    refine (M.out _).mono ?_
    rintro e w1 ⟨rfl, rfl⟩
    go_wp2_with fail
    go_ret2
    exact ⟨rfl, rfl⟩
  · have e : u * v = x * y + 18446744073709551616 * x := by rw [hux, hvy]; grind
    generalize x * y = P at *
    rw [e] at hh hl
    refine key ((h - u) % 18446744073709551616) (by omega) (by omega) ?_
    have w1 : IntKind.u64.wrap (h - u) = (h - u) % 18446744073709551616 := wrap_u64 _
    clear key e hh hl hux hvy
    go_enter Try.func17, Try.ntmps17
    go_wp2_with fail
    refine (M.out _).mono ?_
    rintro e w1 ⟨rfl, rfl⟩
    go_wp2_with fail
    go_ret2
    exact ⟨rfl, rfl⟩
  · have e : u * v = x * y := by rw [hux, hvy]
    generalize x * y = P at *
    rw [e] at hh hl
    refine key h (by omega) (by omega) ?_
    clear key e hh hl hux hvy
    go_enter Try.func17, Try.ntmps17
    go_wp2_with fail
    refine (M.out _).mono ?_
    rintro e w1 ⟨rfl, rfl⟩
    go_wp2_with fail
    go_ret2
    exact ⟨rfl, rfl⟩
end Go.Proofs.Ytkiphpppkameoaa
