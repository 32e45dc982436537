/- loop: Update. -/
import Derived.Test.YtkohpeonnoegpaaLoopB
import Derived.BigRegion
import Derived.Deep.RegionWith
import Derived.Deep.DeepCutAuto
import Derived.StillTailTactics
namespace Go.Proofs.Ytkohpeonnoegpaa
open Go.RowKit
set_option linter.unusedVariables false
set_option linter.unusedSimpArgs false

theorem ableS_mm (n : Int) : ableS n = max (-500000) (min n 500000) := by unfold ableS clampS; (repeat' split) <;> omega
theorem clampS_mm (n m : Int) (h : 0 ≤ m) : clampS n (-m) m = max (-m) (min n m) := by unfold clampS; (repeat' split) <;> omega
theorem timeS_id {s : Int} (h : 0 ≤ s ∧ s ≤ 4611686018427387904) : timeS s = s := by unfold timeS clampS; (repeat' split) <;> omega

structure LS.ok (c : LS) : Prop where
  f0 : -250000 ≤ c.freq
  f1 : c.freq ≤ 250000
  r0 : -500000 ≤ c.rate
  r1 : c.rate ≤ 500000
  l0 : -1125899906842624 ≤ c.left
  l1 : c.left ≤ 1125899906842624
  u0 : 0 ≤ c.ups
  u1 : c.ups ≤ 4611686018427387904
/-- What is left behind a time. -/
def LS.rest (c : LS) (el : Int) : Int := c.left - slewedS (c.rate - c.freq) el
def LS.learn (c : LS) (o el : Int) : Int := if 0 < c.ups ∧ 1000000000 ≤ el then clampS (c.freq + (o - c.rest el) * 1000000000 / (2 * el)) (-250000) 250000 else c.freq
def LS.next (c : LS) (o el st : Int) : LS := ⟨c.learn o el, clampS (c.learn o el + rateS o (max st 16000000000)) (-500000) 500000, o, c.ups + 1⟩

theorem slewed_bd (r s : Int) (h0 : 0 ≤ s) (h1 : s ≤ 1125899906842624) : -562949953422 ≤ slewedS r s ∧ slewedS r s ≤ 562949953422 := by
  unfold slewedS
  rw [timeS_id (by omega)]
  have a := ableS_bd r
  have h1 : s * ableS r ≤ s * 500000 := Int.mul_le_mul_of_nonneg_left a.2 h0
  have h2 : s * (-500000) ≤ s * ableS r := Int.mul_le_mul_of_nonneg_left a.1 h0
  generalize s * ableS r = x at *
  omega
theorem rateS_bd (a s : Int) : -500000 ≤ rateS a s ∧ rateS a s ≤ 500000 := by
  unfold rateS
  have h1 := ableS_bd (mulDivS false a 1000000000 (timeS s)).1
  have h2 := ableS_bd (mulDivS true a 1000000000 (timeS s)).1
  repeat' split
  all_goals omega
/-- A quotient by a number that is not small. -/
theorem learn_bd (n el : Int) (hn : -2252900000000000 ≤ n ∧ n ≤ 2252900000000000) (h : 1000000000 ≤ el) : -1126450000000001 ≤ n * 1000000000 / (2 * el) ∧ n * 1000000000 / (2 * el) ≤ 1126450000000001 := by
  have h1 := Int.mul_ediv_add_emod (n * 1000000000) (2 * el)
  have h2 := Int.emod_nonneg (n * 1000000000) (show 2 * el ≠ 0 by omega)
  have h3 := Int.emod_lt_of_pos (n * 1000000000) (show 0 < 2 * el by omega)
  generalize n * 1000000000 / (2 * el) = q at *
  generalize (n * 1000000000) % (2 * el) = x at *
  constructor
  · apply Int.not_lt.1
    intro hq
    have h4 : 2 * el * q ≤ 2 * el * (-1126450000000002) := Int.mul_le_mul_of_nonneg_left (by omega) (by omega)
    omega
  · apply Int.not_lt.1
    intro hq
    have h4 : 2 * el * 1126450000000002 ≤ 2 * el * q := Int.mul_le_mul_of_nonneg_left (by omega) (by omega)
    omega

theorem clamp_bd (n m : Int) (h : 0 ≤ m) : -m ≤ clampS n (-m) m ∧ clampS n (-m) m ≤ m := by rw [clampS_mm n m h]; omega
theorem learn_ok {c : LS} (ok : c.ok) (o el : Int) : -250000 ≤ c.learn o el ∧ c.learn o el ≤ 250000 := by
  have := ok.f0
  have := ok.f1
  unfold LS.learn
  split
  · exact clamp_bd _ 250000 (by decide)
  · omega
theorem next_ok {c : LS} (ok : c.ok) {o el st : Int} (ho : -1125899906842624 ≤ o ∧ o ≤ 1125899906842624) (hu : c.ups < 4611686018427387904) : (c.next o el st).ok := by
  have h1 := learn_ok ok o el
  have h2 := clamp_bd (c.learn o el + rateS o (max st 16000000000)) 500000 (by decide)
  exact ⟨h1.1, h1.2, h2.1, h2.2, ho.1, ho.2, by have := ok.u0; simp only [LS.next]; omega, by simp only [LS.next]; omega⟩

set_option maxHeartbeats 1000000 in
theorem update_bad (g : Nat) (c : LS) (o el st : Int) (w : World) (h : c.at w g) (ho : -9223372036854775808 ≤ o ∧ o ≤ 9223372036854775807) (hb : spanB (absS o) = false ∨ spanB el = false ∨ spanB st = false) :
    Calls Try.prog 9 #[.pointer (some ⟨g, 0, none⟩), .int .i64 o, .int .i64 el, .int .i64 st] w fun e w' => e = .returned (.tuple #[.int .i64 0, .int .i64 1]) ∧ w' = w := by
  have H := Lib.hid h
  have a1 := fun w => abs_any o w ho
  have s1 := fun w => span_any (absS o) w
  have s2 := fun w => span_any el w
  have s3 := fun w => span_any st w
  generalize absS o = ao at *
  have hb2 : spanB ao = false ∨ (spanB ao = true ∧ spanB el = false) ∨ (spanB ao = true ∧ spanB el = true ∧ spanB st = false) := by
    cases h1 : spanB ao <;> cases h2 : spanB el <;> cases h3 : spanB st <;> simp_all
  generalize spanB ao = b1 at *
  generalize spanB el = b2 at *
  generalize spanB st = b3 at *
  have C := Lib.hid (And.intro a1 (And.intro s1 (And.intro s2 s3)))
  clear h a1 s1 s2 s3 hb
  rcases hb2 with rfl | ⟨rfl, rfl⟩ | ⟨rfl, rfl, rfl⟩
  · go_enter Try.func9, Try.ntmps9
    go_wp2_with fail
    refine (none_ptr _ _ _ H.out).mono ?_
    rintro e w1 ⟨rfl, rfl⟩
    go_wp2_with fail
    refine (C.out.1 _).mono ?_
    rintro e w1 ⟨rfl, rfl⟩
    go_wp2_with fail
    refine (C.out.2.1 _).mono ?_
    rintro e w1 ⟨rfl, rfl⟩
    go_wp2_with fail
    go_ret2
    exact ⟨rfl, rfl⟩
  · go_enter Try.func9, Try.ntmps9
    go_wp2_with fail
    refine (none_ptr _ _ _ H.out).mono ?_
    rintro e w1 ⟨rfl, rfl⟩
    go_wp2_with fail
    refine (C.out.1 _).mono ?_
    rintro e w1 ⟨rfl, rfl⟩
    go_wp2_with fail
    refine (C.out.2.1 _).mono ?_
    rintro e w1 ⟨rfl, rfl⟩
    go_wp2_with fail
    refine (C.out.2.2.1 _).mono ?_
    rintro e w1 ⟨rfl, rfl⟩
    go_wp2_with fail
    go_ret2
    exact ⟨rfl, rfl⟩
  · go_enter Try.func9, Try.ntmps9
    go_wp2_with fail
    refine (none_ptr _ _ _ H.out).mono ?_
    rintro e w1 ⟨rfl, rfl⟩
    go_wp2_with fail
    refine (C.out.1 _).mono ?_
    rintro e w1 ⟨rfl, rfl⟩
    go_wp2_with fail
    refine (C.out.2.1 _).mono ?_
    rintro e w1 ⟨rfl, rfl⟩
    go_wp2_with fail
    refine (C.out.2.2.1 _).mono ?_
    rintro e w1 ⟨rfl, rfl⟩
    go_wp2_with fail
    refine (C.out.2.2.2 _).mono ?_
    rintro e w1 ⟨rfl, rfl⟩
    go_wp2_with fail
    go_ret2
    exact ⟨rfl, rfl⟩

end Go.Proofs.Ytkohpeonnoegpaa
