/- FixQuotients: products that are divided, down and up, and roots are the document's; for any three int64s. -/
import Derived.Test.YtkiphpppkameoaaDigG
import Derived.Test.YtkiphpppkameoaaFixAwake
namespace Go.Proofs.Ytkiphpppkameoaa
open Go.RowKit
set_option linter.unusedVariables false
set_option linter.unusedSimpArgs false

theorem divs_told (up : Bool) (a b c : Int) (hc : 0 < c) : toldS (divS up (a * b) c) = mulDivS up a b c := by
  unfold mulDivS
  rw [if_neg (by omega)]
  show toldS (divS up (a * b) c) = _
  unfold toldS divS fits
  cases up <;> simp
theorem dmd_any (up : Bool) (a b c : Int) (w : World) (ha : -9223372036854775808 ≤ a ∧ a ≤ 9223372036854775807) (hb : -9223372036854775808 ≤ b ∧ b ≤ 9223372036854775807) (hc : -9223372036854775808 ≤ c ∧ c ≤ 9223372036854775807) :
    Calls Try.prog 11 #[.int .i64 a, .int .i64 b, .int .i64 c, .bool up] w fun e w' => e = .returned (.tuple #[.int .i64 (mulDivS up a b c).1, .int .i64 (mulDivS up a b c).2]) ∧ Stp [] w w' := by
  by_cases h : 0 < c
  · have := dMulDiv_any a b c up w ha hb ⟨h, hc.2⟩
    rw [divs_told up a b c h] at this
    exact this
  · have := dMulDiv_bad a b c up w (by omega)
    have e : mulDivS up a b c = (0, 1) := by
      unfold mulDivS
      rw [if_pos (by omega)]
    rw [e]
    exact this

set_option maxRecDepth 100000 in
set_option maxHeartbeats 4000000 in
theorem fixQuotients_walk (a b c : Int) (w : World) (ha : -9223372036854775808 ≤ a ∧ a ≤ 9223372036854775807) (hb : -9223372036854775808 ≤ b ∧ b ≤ 9223372036854775807) (hc : -9223372036854775808 ≤ c ∧ c ≤ 9223372036854775807) :
    Calls Try.prog 3 #[.int .i64 a, .int .i64 b, .int .i64 c] w fun e w' => e = .returned (.bool true) ∧ Stp [] w w' := by
  have x1 := fun w => muldiv_any a b c w ha hb hc
  have y1 := fun w => dmd_any false a b c w ha hb hc
  have x2 := fun w => muldivup_any a b c w ha hb hc
  have y2 := fun w => dmd_any true a b c w ha hb hc
  obtain ⟨n, hn⟩ : ∃ n : Nat, IntKind.u64.wrap a = (n : Int) := ⟨(IntKind.u64.wrap a).toNat, by rw [IntKind.wrap_u64]; omega⟩
  have hn2 : n ≤ 18446744073709551615 := by
    have := hn
    rw [IntKind.wrap_u64] at this
    omega
  obtain ⟨r, r0, r1⟩ := root_exists n
  have x3 := fun w => sqrt_any n r w hn2 r0 r1
  have y3 := fun w => dSqrt_any n r w hn2 r0 r1
  generalize mulDivS false a b c = f1 at *
  generalize mulDivS true a b c = f2 at *
  obtain ⟨f1, g1⟩ := f1
  obtain ⟨f2, g2⟩ := f2
  have X := Lib.hid (And.intro x1 (And.intro x2 x3))
  have Y := Lib.hid (And.intro y1 (And.intro y2 y3))
  clear x1 x2 x3 y1 y2 y3 ha hb hc hn2 r0 r1
  go_enter Try.func3, Try.ntmps3
  go_wp2_with fail
  refine (X.out.1 _).mono ?_
  rintro e v1 ⟨rfl, s1⟩
  go_wp2_with fail
  refine (Y.out.1 _).mono ?_
  rintro e v2 ⟨rfl, s2⟩
  go_wp2_with fail
  refine (X.out.2.1 _).mono ?_
  rintro e v3 ⟨rfl, s3⟩
  go_wp2_with fail
  refine (Y.out.2.1 _).mono ?_
  rintro e v4 ⟨rfl, s4⟩
  go_wp2_with fail
  refine (awake_holds _).mono ?_
  rintro e v5 ⟨rfl, s5⟩
  go_wp2_with fail
  refine (X.out.2.2 _).mono ?_
  rintro e v6 ⟨rfl, rfl⟩
  go_wp2_with fail
  refine (Y.out.2.2 _).mono ?_
  rintro e v7 ⟨rfl, rfl⟩
  go_wp2_with fail
  go_ret
  exact ⟨rfl, (((s1.trans s2).trans s3).trans s4).trans s5⟩
end Go.Proofs.Ytkiphpppkameoaa
