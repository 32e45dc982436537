/- The document's numbers: how many digits a number has. -/
import Derived.Test.YtkohpeonnoegpaaDigI
import Derived.Test.YtkohpeonnoegpaaDigO
namespace Go.Proofs.Ytkohpeonnoegpaa
open Go.RowKit
set_option linter.unusedVariables false
set_option linter.unusedSimpArgs false

theorem Num.small {w : World} {mi : Bool} {A : Option Addr} {n c : Nat} {v : Int} (h : Num w mi A n c v) (hv : -18446744073709551616 < v ∧ v < 18446744073709551616) : n ≤ 4 :=
  h.len 4 (by rw [p65_4]; exact hv)
theorem Num.wide {w : World} {mi : Bool} {A : Option Addr} {n c : Nat} {v : Int} (h : Num w mi A n c v) (hv : -1461501637330902918203684832716283019655932542976 < v ∧ v < 1461501637330902918203684832716283019655932542976) : n ≤ 10 :=
  h.len 10 (by rw [p65_10]; exact hv)

theorem num_pos {w : World} {m : Bool} {A : Option Addr} {n c : Nat} {v : Int} (h : Num w m A n c v) (hv : 0 < v) : ∃ l, CRow w A n c l ∧ dval l = v := by
  obtain ⟨l, h1, h2, h3, h4, h5, h6, h7, _, _⟩ := h.facts
  refine ⟨l, ⟨h1, h2, h3, h4⟩, ?_⟩
  cases m with
  | true => have := h6 rfl; omega
  | false => exact (h7 rfl).symm
theorem prod_bd {a b : Int} (ha : -9223372036854775808 ≤ a ∧ a ≤ 9223372036854775807) (hb : -9223372036854775808 ≤ b ∧ b ≤ 9223372036854775807) : -85070591730234615865843651857942052864 ≤ a * b ∧ a * b ≤ 85070591730234615865843651857942052864 := by
  have h1 : (a * b).natAbs ≤ 9223372036854775808 * 9223372036854775808 := by
    rw [Int.natAbs_mul]
    exact Nat.mul_le_mul (by omega) (by omega)
  omega
end Go.Proofs.Ytkohpeonnoegpaa
