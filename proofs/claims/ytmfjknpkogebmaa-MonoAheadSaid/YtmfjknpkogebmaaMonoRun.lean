/- mono: a clock that went so far at one rate. -/
import Derived.Test.YtmfjknpkogebmaaMonoW
namespace Go.Proofs.Ytmfjknpkogebmaa
open Go.RowKit
set_option linter.unusedVariables false
set_option linter.unusedSimpArgs false

theorem new_at0 (w : World) : Calls Try.prog 10 #[] w (MadeMono ⟨0, 0, 0, 0, false⟩ w) := new_any w
/-- A clock that went so far at one rate. -/
def MS.run (r S : Int) : MS := ⟨S, S + S * r / 1000000000, r, S * r % 1000000000, false⟩
theorem run_zero (r : Int) : MS.run r 0 = ⟨0, 0, r, 0, false⟩ := by unfold MS.run; simp
theorem run_go (r S n : Int) (hr : -500000 ≤ r ∧ r ≤ 500000) (hS : 0 ≤ S ∧ S ≤ 703687441776640) (hn : 0 ≤ n ∧ n ≤ 703687441776640) :
    (MS.run r S).ok ∧ ∃ k, (MS.run r S).go n = (k, 0, MS.run r (S + n)) := by
  have b1 := mul_bd (p := S) (P := 703687441776640) (R := 500000) hS.1 hS.2 hr.1 hr.2
  have b2 := mul_bd (p := n) (P := 703687441776640) (R := 500000) hn.1 (by omega) hr.1 hr.2
  simp only [Int.reduceMul, Int.reduceNeg] at b1 b2
  have hm : 0 ≤ S + S * r / 1000000000 := by
    have h2 : S * (-500000) ≤ S * r := Int.mul_le_mul_of_nonneg_left hr.1 hS.1
    generalize S * r = x at *
    omega
  have hadd : (S + n) * r = S * r + n * r := Int.add_mul ..
  refine ⟨?_, ?_⟩
  · constructor <;> simp only [MS.run] <;> omega
  · refine ⟨(MS.run r S).gain n, ?_⟩
    have e1 : (MS.run r S).gain n = n + (n * r + S * r % 1000000000) / 1000000000 := rfl
    have e2 : (MS.run r S).left n = (n * r + S * r % 1000000000) % 1000000000 := rfl
    unfold MS.go
    rw [if_neg (by omega), if_neg (by simp [MS.run]), if_neg (show ¬ ((MS.run r S).gain n > 4611686018427387904 - (MS.run r S).mono ∨ n > 4611686018427387904 - (MS.run r S).raw) by rw [e1]; simp only [MS.run]; omega), e1, e2]
    simp only [MS.run, hadd]
    have e3 : S + S * r / 1000000000 + (n + (n * r + S * r % 1000000000) / 1000000000) = S + n + (S * r + n * r) / 1000000000 := by omega
    have e4 : (n * r + S * r % 1000000000) % 1000000000 = (S * r + n * r) % 1000000000 := by omega
    rw [e3, e4]

theorem run_at {w : World} {g : Nat} {r S : Int} (h : (MS.run r S).at w g) : ∃ m x, (MS.mk S m r x false).at w g ∧ m = S + S * r / 1000000000 := ⟨_, _, h, rfl⟩
end Go.Proofs.Ytmfjknpkogebmaa
