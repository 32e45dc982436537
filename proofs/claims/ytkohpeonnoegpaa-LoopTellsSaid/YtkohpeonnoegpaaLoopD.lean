/- loop: Update whole; the law's own part; the chapter's rows. -/
import Derived.Test.YtkohpeonnoegpaaLoopC1
import Derived.Test.YtkohpeonnoegpaaLoopC2
import Derived.Test.YtkohpeonnoegpaaLoopC3
namespace Go.Proofs.Ytkohpeonnoegpaa
open Go.RowKit
set_option linter.unusedVariables false
set_option linter.unusedSimpArgs false

theorem update_any (g : Nat) (c : LS) (o el st : Int) (w : World) (h : c.at w g) (ok : c.ok) (ho : -1125899906842624 ≤ o ∧ o ≤ 1125899906842624) (he : 0 ≤ el ∧ el ≤ 1125899906842624) (hs : 0 ≤ st ∧ st ≤ 1125899906842624) (hu : c.ups < 4611686018427387904) :
    Calls Try.prog 9 #[.pointer (some ⟨g, 0, none⟩), .int .i64 o, .int .i64 el, .int .i64 st] w fun e w' => e = .returned (.tuple #[.int .i64 (c.next o el st).rate, .int .i64 0]) ∧ (c.next o el st).at w' g ∧ Stp [g] w w' := by
  by_cases h1 : 0 < c.ups
  · by_cases h2 : 1000000000 ≤ el
    · exact update_learn g c o el st w h ok ho he hs hu ⟨h1, h2⟩
    · exact update_short g c o el st w h ok ho he hs hu h1 (by omega)
  · exact update_first g c o el st w h ok ho he hs hu h1
theorem update_is {w : World} {g : Nat} {c : LS} {o el st : Int} (c' : LS) (h : c.at w g) (hn : c.next o el st = c') (ok : c.ok) (ho : -1125899906842624 ≤ o ∧ o ≤ 1125899906842624) (he : 0 ≤ el ∧ el ≤ 1125899906842624) (hs : 0 ≤ st ∧ st ≤ 1125899906842624) (hu : c.ups < 4611686018427387904) :
    Calls Try.prog 9 #[.pointer (some ⟨g, 0, none⟩), .int .i64 o, .int .i64 el, .int .i64 st] w fun e w' => e = .returned (.tuple #[.int .i64 c'.rate, .int .i64 0]) ∧ c'.at w' g ∧ Stp [g] w w' := by
  have := update_any g c o el st w h ok ho he hs hu
  rw [hn] at this
  exact this

/-- n by a part, down. -/
theorem part_any (n r x : Int) (w : World) (hx : n * r = x) (hb : -9000000000000000000 ≤ x ∧ x ≤ 9000000000000000000) :
    Calls Try.prog 11 #[.int .i64 n, .int .i64 r] w fun e w' => e = .returned (.int .i64 (x / 1000000000)) ∧ w' = w := by
  obtain ⟨b0, b1⟩ := hb
  have hw : IntKind.i64.wrap (n * r) = x := by rw [hx]; exact IntWalk.i64_in _ (by omega)
  have hw2 : wrap64 (n * r) = x := by rw [hx]; exact wrap64_id (by omega) (by omega)
  by_cases h0 : 0 ≤ x
  · go_enter Try.func11, Try.ntmps11
    go_wp2
    go_ret
    exact ⟨rfl, rfl⟩
  · obtain ⟨q, hq⟩ : ∃ q, x.tdiv 1000000000 = q := ⟨_, rfl⟩
    obtain ⟨s, hs⟩ : ∃ s, x.tmod 1000000000 = s := ⟨_, rfl⟩
    have hqr : x = q * 1000000000 + s ∧ -1000000000 < s ∧ s ≤ 0 := by
      have h1 := Int.tdiv_mul_add_tmod x 1000000000
      have h2 := Int.lt_tmod_of_pos x (show (0 : Int) < 1000000000 by decide)
      have h3 : x.tmod 1000000000 ≤ 0 := by
        have e : x.tmod 1000000000 = -((-x).tmod 1000000000) := by rw [Int.neg_tmod]; omega
        rw [e, Int.tmod_eq_emod_of_nonneg (by omega)]
        omega
      omega
    obtain ⟨hqr, r0, r1⟩ := hqr
    have q0 : -9000000001 ≤ q := by omega
    have q1 : q ≤ 0 := by omega
    have HQR := Lib.hid hqr
    clear hqr
    by_cases hz : s < 0
    · have e1 : x / 1000000000 = q - 1 := by have := HQR.out; omega
      rw [e1]
      clear e1
      go_enter Try.func11, Try.ntmps11
      go_wp2
      go_ret
      exact ⟨rfl, rfl⟩
    · have e1 : x / 1000000000 = q := by have := HQR.out; omega
      rw [e1]
      clear e1
      go_enter Try.func11, Try.ntmps11
      go_wp2
      go_ret
      exact ⟨rfl, rfl⟩

theorem alive_any (w : World) : Calls Try.prog 12 #[] w fun e w' => e = .returned (.bool true) ∧ Stp [] w w' := by
  have n1 : LS.next ⟨0, 0, 0, 0⟩ 1600 0 16000000000 = ⟨0, 100, 1600, 1⟩ := by kernel_rfl
  have n2 : LS.next ⟨0, 100, 1600, 1⟩ 1600 16000000000 16000000000 = ⟨50, 150, 1600, 2⟩ := by kernel_rfl
  have N := Lib.hid (And.intro n1 n2)
  clear n1 n2
  go_enter Try.func12, Try.ntmps12
  go_wp2_with fail
  refine (new_any _).mono ?_
  rintro e w1 ⟨g, rfl, a1, s1, hg⟩
  go_wp2_with fail
  refine (update_is _ a1 N.out.1 (by constructor <;> decide) (by decide) (by decide) (by decide) (by decide)).mono ?_
  rintro e w2 ⟨rfl, a2, s2⟩
  go_wp2_with fail
  refine (update_is _ a2 N.out.2 (by constructor <;> decide) (by decide) (by decide) (by decide) (by decide)).mono ?_
  rintro e w3 ⟨rfl, a3, s3⟩
  go_wp2_with fail
  refine (lfreq_any g _ _ a3).mono ?_
  rintro e w4 ⟨rfl, rfl⟩
  go_wp2_with fail
  go_ret
  exact ⟨rfl, (s1.far s2 (.inr hg)).far s3 (.inr hg)⟩
end Go.Proofs.Ytkohpeonnoegpaa
