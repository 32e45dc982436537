/- WallNever's plain facts. -/
import Derived.Test.YtejcckjakhllpaaWallW
import Derived.Outline
namespace Go.Proofs.Ytejcckjakhllpaa
open Go.RowKit
set_option linter.unusedVariables false
set_option linter.unusedSimpArgs false

theorem timeS_mm (n : Int) : timeS n = max 0 (min n 4611686018427387904) := by unfold timeS clampS; (repeat' split) <;> omega
theorem nearS_mm (n : Int) : nearS n = max (-9223372036854775808) (min n 9223372036854775807) := by unfold nearS; (repeat' split) <;> omega
theorem tell_mm (c : WS) (m : Int) : c.tell m = max 0 (min (max 0 (min m 4611686018427387904) + c.base) 4611686018427387904) := by
  unfold WS.tell
  rw [timeS_mm, timeS_mm]
theorem tell_le (c : WS) {a b : Int} (h : a ≤ b) : c.tell a ≤ c.tell b ∧ c.tell b - c.tell a ≤ b - a := by
  rw [tell_mm, tell_mm]
  omega
/-- What When tells. -/
theorem when_facts (c : WS) (ok : c.ok) (t : Int) : ∃ m r, c.whenS t = (m, r) ∧
    ((r = true ∧ m = 0 ∧ t ≤ c.tell m) ∨ (r = true ∧ 0 < m ∧ m ≤ 4611686018427387904 ∧ c.tell m = t ∧ c.tell (m - 1) < t) ∨ (r = false ∧ m = 0 ∧ c.tell 4611686018427387904 < t)) := by
  obtain ⟨b0, b1, _, _⟩ := ok
  unfold WS.whenS WS.first
  by_cases h0 : c.may t 0 = true
  · rw [if_pos h0]
    refine ⟨_, _, rfl, .inl ⟨rfl, rfl, ?_⟩⟩
    unfold WS.may at h0
    have := of_decide_eq_true h0
    exact this.2.2
  · rw [if_neg h0]
    have h0' : c.tell 0 < t := by
      unfold WS.may at h0
      have := of_decide_eq_false (Bool.eq_false_iff.2 h0)
      omega
    rw [tell_mm] at h0'
    by_cases h1 : c.may t (nearS (t - c.base)) = true
    · rw [if_pos h1]
      refine ⟨_, _, rfl, .inr (.inl ?_)⟩
      unfold WS.may at h1
      have h2 := of_decide_eq_true h1
      rw [tell_mm] at h2
      rw [tell_mm, tell_mm]
      rw [nearS_mm] at *
      generalize c.base = b at *
      clear h0 h1
      refine ⟨rfl, ?_, ?_, ?_, ?_⟩ <;> omega
    · rw [if_neg h1]
      refine ⟨_, _, rfl, .inr (.inr ⟨rfl, rfl, ?_⟩)⟩
      unfold WS.may at h1
      have h2 := of_decide_eq_false (Bool.eq_false_iff.2 h1)
      rw [tell_mm, nearS_mm] at h2
      rw [tell_mm]
      generalize c.base = b at *
      clear h0 h1
      omega

end Go.Proofs.Ytejcckjakhllpaa
