/- StampOrder's plain facts. -/
import Derived.Test.YtnkkfmiacbkdpaaStampW
import Derived.Outline
namespace Go.Proofs.Ytnkkfmiacbkdpaa
open Go.RowKit
set_option linter.unusedVariables false
set_option linter.unusedSimpArgs false

/-- Of two times the lesser one has the lesser date. -/
theorem date_lt {a b : Int} (h : a < b) : (dateS a).era < (dateS b).era ∨ (dateS a).era = (dateS b).era ∧ (dateS a).off < (dateS b).off ∨ (dateS a).era = (dateS b).era ∧ (dateS a).off = (dateS b).off ∧ (dateS a).frac < (dateS b).frac := by
  simp only [dateS]
  have hs : a / 1000000000 ≤ b / 1000000000 := by omega
  have hr : a / 1000000000 = b / 1000000000 → a % 1000000000 < b % 1000000000 := by omega
  have a0 : 0 ≤ a % 1000000000 := by omega
  have b1 : b % 1000000000 < 1000000000 := by omega
  generalize a / 1000000000 = s at *
  generalize b / 1000000000 = t at *
  generalize a % 1000000000 = p at *
  generalize b % 1000000000 = q at *
  clear h
  rcases Int.lt_trichotomy s t with h | h | h
  · clear hr
    omega
  · have := hr h
    subst h
    clear hr hs
    refine .inr (.inr ⟨rfl, rfl, ?_⟩)
    omega
  · omega
theorem stamp_lt {a b : Int} (h : a < b) (he : (dateS a).era = (dateS b).era) : nsStampS a < nsStampS b := by
  simp only [dateS] at he
  unfold nsStampS
  have hs : a / 1000000000 ≤ b / 1000000000 := by omega
  have hr : a / 1000000000 = b / 1000000000 → a % 1000000000 < b % 1000000000 := by omega
  have a0 : 0 ≤ a % 1000000000 := by omega
  have b1 : b % 1000000000 < 1000000000 := by omega
  have b0 : 0 ≤ b % 1000000000 := by omega
  have a1 : a % 1000000000 < 1000000000 := by omega
  generalize a / 1000000000 = s at *
  generalize b / 1000000000 = t at *
  generalize a % 1000000000 = p at *
  generalize b % 1000000000 = q at *
  clear h
  rcases Int.lt_trichotomy s t with h | h | h
  · clear hr
    have : s % 4294967296 < t % 4294967296 := by omega
    generalize s % 4294967296 = s' at *
    generalize t % 4294967296 = t' at *
    omega
  · have := hr h
    subst h
    clear hr hs
    omega
  · omega

theorem short_facts (u : Int) (h : 0 ≤ u ∧ u ≤ 4294967295) : 0 ≤ shortS u ∧ shortS u ≤ 65536000000000 ∧ nsShortS (shortS u) = u ∧ u ≤ nsShortS (shortS u + 1) ∧ (u = 0 → shortS u = 0) ∧ (0 < u → 0 < shortS u) := by
  unfold shortS nsShortS
  refine ⟨by omega, by omega, ?_, ?_, by omega, by omega⟩
  · split
    · omega
    · split <;> omega
  · split
    · omega
    · split <;> omega
theorem short_lt {u v : Int} (hu : 0 ≤ u ∧ u ≤ 4294967295) (hv : 0 ≤ v ∧ v ≤ 4294967295) : shortS u < shortS v ↔ u < v := by
  unfold shortS
  omega

end Go.Proofs.Ytnkkfmiacbkdpaa
