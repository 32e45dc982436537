/- stamp: what the document's own functions answer (those with loops). -/
import Derived.Test.YtnkkfmiacbkdpaaStampR0
import Derived.Outline
namespace Go.Proofs.Ytnkkfmiacbkdpaa
open Go.RowKit
set_option linter.unusedVariables false
set_option linter.unusedSimpArgs false

theorem short_ge {n mid : Int} (hn : 1 ≤ n) (hm : 0 ≤ mid ∧ mid < 4294967295) : n ≤ shortS mid ↔ nsShortS n ≤ mid := by
  unfold shortS nsShortS
  rw [if_neg (by omega)]
  split <;> omega
theorem nsShortS_bd (n : Int) : 0 ≤ nsShortS n ∧ nsShortS n ≤ 4294967295 := by
  unfold nsShortS
  split
  · omega
  · split <;> omega

theorem rnsshort_any (n : Int) (w : World) (h : -9223372036854775808 ≤ n ∧ n ≤ 9223372036854775807) :
    Calls Try.prog 18 #[.int .i64 n] w fun e w' => e = .returned (.int .u32 (nsShortS n)) ∧ w' = w := by
  obtain ⟨h0, h1⟩ := h
  by_cases hn : n < 1
  · have e : nsShortS n = 0 := by unfold nsShortS; rw [if_pos (by omega)]
    rw [e]
    clear e
    go_enter Try.func18, Try.ntmps18
    go_wp2
    go_ret
    exact ⟨rfl, rfl⟩
  · have hb := nsShortS_bd n
    have hg : ∀ mid : Int, 0 ≤ mid ∧ mid < 4294967295 → (n ≤ shortS mid ↔ nsShortS n ≤ mid) := fun mid hm => short_ge (by omega) hm
    generalize nsShortS n = T at *
    obtain ⟨T0, T1⟩ := hb
    have G := Lib.hid hg
    clear hg
    go_enter Try.func18, Try.ntmps18
    go_wp2_with fail
    go_loop [3, 4] (fun lo hi => ∃ x y : Int, lo = .int .i64 x ∧ hi = .int .i64 y ∧ 0 ≤ x ∧ x ≤ T ∧ T ≤ y ∧ y ≤ 4294967295) (fun lo hi => (intOf hi - intOf lo).toNat)
    case atStart => exact ⟨0, 4294967295, rfl, rfl, by omega, T0, T1, by omega⟩
    case round =>
      obtain ⟨x, y, rfl, rfl, x0, x1, y0, y1⟩ := hrel
      by_cases hlt : x < y
      · have g := G.out ((x + y) / 2) (by omega)
        have s1 := fun w => rshort_any ((x + y) / 2) w (by omega)
        have m0 : 0 ≤ (x + y) / 2 := by omega
        have m1 : (x + y) / 2 ≤ 4294967295 := by omega
        have m2 : x ≤ (x + y) / 2 := by omega
        have m3 : (x + y) / 2 < y := by omega
        have S := Lib.hid s1
        clear s1
        by_cases hs : n ≤ shortS ((x + y) / 2)
        · have g2 := g.1 hs
          clear g
          go_wp2_with fail
          refine (S.out _).mono ?_
          rintro e w1 ⟨rfl, rfl⟩
          go_wp2_with fail
          go_round
          case rel => exact ⟨x, _, rfl, rfl, x0, x1, g2, by omega⟩
          case measure => simp [intOf]; omega
        · have g2 : ¬ T ≤ (x + y) / 2 := fun h => hs (g.2 h)
          clear g
          go_wp2_with fail
          refine (S.out _).mono ?_
          rintro e w1 ⟨rfl, rfl⟩
          go_wp2_with fail
          go_round
          case rel => exact ⟨_, y, rfl, rfl, by omega, by omega, y0, y1⟩
          case measure => simp [intOf]; omega
      · obtain rfl : x = T := by omega
        go_wp2
        go_ret
        exact ⟨rfl, rfl⟩
end Go.Proofs.Ytnkkfmiacbkdpaa
