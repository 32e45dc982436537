/- loop: what each of its functions answers. -/
import Derived.Test.YtkohpeonnoegpaaWallR
import Derived.Deep.RegionHeld3
import Derived.Outline
namespace Go.Proofs.Ytkohpeonnoegpaa
open Go.RowKit
set_option linter.unusedVariables false
set_option linter.unusedSimpArgs false

structure LS where
  (freq rate left ups : Int)
def LS.at (c : LS) (w : World) (g : Nat) : Prop := w.heap[g]? = some (.cells #[.int .i64 c.freq, .int .i64 c.rate, .int .i64 c.left, .int .i64 c.ups, .bool true] 47 (0, 0))
theorem ls_cells {w : World} {g : Nat} {c : LS} (h : c.at w g) : w.cell? ⟨g, 0, none⟩ = some (.int .i64 c.freq) ∧ w.cell? ⟨g, 1, none⟩ = some (.int .i64 c.rate) ∧ w.cell? ⟨g, 2, none⟩ = some (.int .i64 c.left) ∧ w.cell? ⟨g, 3, none⟩ = some (.int .i64 c.ups) ∧ w.cell? ⟨g, 4, none⟩ = some (.bool true) := by
  have h' : w.heap[g]? = some (.cells #[.int .i64 c.freq, .int .i64 c.rate, .int .i64 c.left, .int .i64 c.ups, .bool true] 47 (0, 0)) := h
  exact ⟨cell_at h' 0, cell_at h' 1, cell_at h' 2, cell_at h' 3, cell_at h' 4⟩
theorem ls_free {w : World} {g : Nat} {c : LS} (h : c.at w g) : w.frozen? ⟨g, 0, none⟩ = false ∧ w.frozen? ⟨g, 1, none⟩ = false ∧ w.frozen? ⟨g, 2, none⟩ = false ∧ w.frozen? ⟨g, 3, none⟩ = false := by
  have h' : w.heap[g]? = some (.cells #[.int .i64 c.freq, .int .i64 c.rate, .int .i64 c.left, .int .i64 c.ups, .bool true] 47 (0, 0)) := h
  exact ⟨free_at h' 0, free_at h' 1, free_at h' 2, free_at h' 3⟩
theorem LS.at_alloc {c : LS} {w : World} {g : Nat} (h : c.at w g) (o : Obj) : c.at (w.alloc o) g := Blk.alloc (t := 47) (show Blk w g 47 _ from h) o
theorem none_nil (w : World) :
    Calls Try.prog 23 #[.pointer none] w fun e w' => e = .returned (.bool true) ∧ w' = w := by
  go_enter Try.func23, Try.ntmps23
  go_wp2
  go_ret
  exact ⟨rfl, rfl⟩
theorem none_ptr (g : Nat) (c : LS) (w : World) (h : c.at w g) :
    Calls Try.prog 23 #[.pointer (some ⟨g, 0, none⟩)] w fun e w' => e = .returned (.bool false) ∧ w' = w := by
  obtain ⟨c0, c1, c2, c3, c4⟩ := ls_cells h
  go_enter Try.func23, Try.ntmps23
  go_wp2
  go_ret
  exact ⟨ret_bool (by simp), rfl⟩
end Go.Proofs.Ytkohpeonnoegpaa
