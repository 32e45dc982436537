/- The document's numbers: an int64 out of a number, or an error. -/
import Derived.Test.YtkohpeonnoegpaaDigI
namespace Go.Proofs.Ytkohpeonnoegpaa
open Go.RowKit
set_option linter.unusedVariables false
set_option linter.unusedSimpArgs false

def toldS (v : Int) : Int × Int := if fits v then (v, 0) else (0, 20)
theorem dtold_any (mi : Bool) (A : Option Addr) (n c : Nat) (v : Int) (w : World) (h : Raw w mi A n c v) :
    Calls Try.prog 62 #[.agg #[.bool mi, .slice A n c]] w fun e w' => e = .returned (.tuple #[.int .i64 (toldS v).1, .int .i64 (toldS v).2]) ∧ Stp [] w w' := by
  have I := Lib.hid (fun (w' : World) (hs : Stp [] w w') => dInt_any mi A n c v w' (h.stp hs))
  clear h
  unfold toldS
  by_cases hf : fits v
  · rw [if_pos hf]
    have HF := Lib.hid hf
    clear hf
    go_enter Try.func62, Try.ntmps62
    go_wp2_with fail
    refine (I.out _ ((Stp.refl [] w).alloc _)).mono ?_
    rintro e w1 ⟨x, b, rfl, h1, h2, s1⟩
    obtain ⟨rfl, rfl⟩ := h1 HF.out
    clear h1 h2
    go_wp2_with fail
    go_ret2
    exact ⟨rfl, ((Stp.refl [] w).alloc _).trans s1⟩
  · rw [if_neg hf]
    have HF := Lib.hid hf
    clear hf
    go_enter Try.func62, Try.ntmps62
    go_wp2_with fail
    refine (I.out _ ((Stp.refl [] w).alloc _)).mono ?_
    rintro e w1 ⟨x, b, rfl, h1, h2, s1⟩
    obtain rfl := h2 HF.out
    clear h1 h2
    go_wp2_with fail
    go_ret2
    exact ⟨rfl, ((Stp.refl [] w).alloc _).trans s1⟩
end Go.Proofs.Ytkohpeonnoegpaa
