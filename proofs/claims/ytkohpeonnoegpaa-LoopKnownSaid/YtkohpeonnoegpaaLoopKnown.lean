/- LoopKnown's walk. -/
import Derived.Test.YtkohpeonnoegpaaLoopD
namespace Go.Proofs.Ytkohpeonnoegpaa
open Go.RowKit
set_option linter.unusedVariables false
set_option linter.unusedSimpArgs false

def ZeroAt (w : World) (g : Nat) : Prop := w.heap[g]? = some (.cells #[.int .i64 0, .int .i64 0, .int .i64 0, .int .i64 0, .bool false] 47 (0, 0))
theorem none_zero (g : Nat) (w : World) (h : ZeroAt w g) :
    Calls Try.prog 23 #[.pointer (some ⟨g, 0, none⟩)] w fun e w' => e = .returned (.bool true) ∧ w' = w := by
  have h' : w.heap[g]? = some (.cells #[.int .i64 0, .int .i64 0, .int .i64 0, .int .i64 0, .bool false] 47 (0, 0)) := h
  have c0 : w.cell? ⟨g, 0, none⟩ = some (.int .i64 0) := cell_at h' 0
  have c1 : w.cell? ⟨g, 1, none⟩ = some (.int .i64 0) := cell_at h' 1
  have c2 : w.cell? ⟨g, 2, none⟩ = some (.int .i64 0) := cell_at h' 2
  have c3 : w.cell? ⟨g, 3, none⟩ = some (.int .i64 0) := cell_at h' 3
  have c4 : w.cell? ⟨g, 4, none⟩ = some (.bool false) := cell_at h' 4
  clear h h'
  go_enter Try.func23, Try.ntmps23
  go_wp2
  go_ret
  exact ⟨ret_bool (by simp), rfl⟩

theorem update_nil (w : World) (a b c : Int) : Calls Try.prog 9 #[.pointer none, .int .i64 a, .int .i64 b, .int .i64 c] w fun e w' => e = .returned (.tuple #[.int .i64 0, .int .i64 2]) ∧ w' = w := by
  go_enter Try.func9, Try.ntmps9
  go_wp2_with fail
  refine (none_nil _).mono ?_
  rintro e w1 ⟨rfl, rfl⟩
  go_wp2_with fail
  go_ret2
  exact ⟨rfl, rfl⟩

theorem stepped_nil (w : World) : Calls Try.prog 16 #[.pointer none] w fun e w' => e = .returned (.int .i64 2) ∧ w' = w := by
  go_enter Try.func16, Try.ntmps16
  go_wp2_with fail
  refine (none_nil _).mono ?_
  rintro e w1 ⟨rfl, rfl⟩
  go_wp2_with fail
  go_ret
  exact ⟨rfl, rfl⟩

theorem set_zero (w : World) (a : Int) (g : Nat) (hz : ZeroAt w g) : Calls Try.prog 17 #[.pointer (some ⟨g, 0, none⟩), .int .i64 a] w fun e w' => e = .returned (.int .i64 2) ∧ w' = w := by
  go_enter Try.func17, Try.ntmps17
  go_wp2_with fail
  refine (none_zero _ _ hz).mono ?_
  rintro e w1 ⟨rfl, rfl⟩
  go_wp2_with fail
  go_ret
  exact ⟨rfl, rfl⟩

theorem copy_nil (w : World) : Calls Try.prog 21 #[.pointer none] w fun e w' => e = .returned (.pointer none) ∧ w' = w := by
  go_enter Try.func21, Try.ntmps21
  go_wp2_with fail
  refine (none_nil _).mono ?_
  rintro e w1 ⟨rfl, rfl⟩
  go_wp2_with fail
  go_ret
  exact ⟨rfl, rfl⟩

theorem lfreq_see_nil (w : World) : Calls Try.prog 30 #[.pointer none, .func (.func 31) #[] #[]] w fun e w' => e = .returned (.int .i64 0) ∧ w' = w := by
  go_enter Try.func30, Try.ntmps30
  go_wp2_with fail
  refine (none_nil _).mono ?_
  rintro e w1 ⟨rfl, rfl⟩
  go_wp2_with fail
  go_ret
  exact ⟨rfl, rfl⟩
theorem lfreq_nil (w : World) : Calls Try.prog 10 #[.pointer none] w fun e w' => e = .returned (.int .i64 0) ∧ w' = w := by
  go_enter Try.func10, Try.ntmps10
  go_wp2_with fail
  refine (lfreq_see_nil _).mono ?_
  rintro e w1 ⟨rfl, rfl⟩
  go_wp2_with fail
  go_ret
  exact ⟨rfl, rfl⟩

theorem lrate_see_zero (w : World) (g : Nat) (hz : ZeroAt w g) : Calls Try.prog 30 #[.pointer (some ⟨g, 0, none⟩), .func (.func 32) #[] #[]] w fun e w' => e = .returned (.int .i64 0) ∧ w' = w := by
  go_enter Try.func30, Try.ntmps30
  go_wp2_with fail
  refine (none_zero _ _ hz).mono ?_
  rintro e w1 ⟨rfl, rfl⟩
  go_wp2_with fail
  go_ret
  exact ⟨rfl, rfl⟩
theorem lrate_zero (w : World) (g : Nat) (hz : ZeroAt w g) : Calls Try.prog 13 #[.pointer (some ⟨g, 0, none⟩)] w fun e w' => e = .returned (.int .i64 0) ∧ w' = w := by
  go_enter Try.func13, Try.ntmps13
  go_wp2_with fail
  refine (lrate_see_zero _ _ hz).mono ?_
  rintro e w1 ⟨rfl, rfl⟩
  go_wp2_with fail
  go_ret
  exact ⟨rfl, rfl⟩

theorem lleft_see_nil (w : World) : Calls Try.prog 30 #[.pointer none, .func (.func 33) #[] #[]] w fun e w' => e = .returned (.int .i64 0) ∧ w' = w := by
  go_enter Try.func30, Try.ntmps30
  go_wp2_with fail
  refine (none_nil _).mono ?_
  rintro e w1 ⟨rfl, rfl⟩
  go_wp2_with fail
  go_ret
  exact ⟨rfl, rfl⟩
theorem lleft_nil (w : World) : Calls Try.prog 14 #[.pointer none] w fun e w' => e = .returned (.int .i64 0) ∧ w' = w := by
  go_enter Try.func14, Try.ntmps14
  go_wp2_with fail
  refine (lleft_see_nil _).mono ?_
  rintro e w1 ⟨rfl, rfl⟩
  go_wp2_with fail
  go_ret
  exact ⟨rfl, rfl⟩

theorem lups_see_zero (w : World) (g : Nat) (hz : ZeroAt w g) : Calls Try.prog 30 #[.pointer (some ⟨g, 0, none⟩), .func (.func 34) #[] #[]] w fun e w' => e = .returned (.int .i64 0) ∧ w' = w := by
  go_enter Try.func30, Try.ntmps30
  go_wp2_with fail
  refine (none_zero _ _ hz).mono ?_
  rintro e w1 ⟨rfl, rfl⟩
  go_wp2_with fail
  go_ret
  exact ⟨rfl, rfl⟩
theorem lups_zero (w : World) (g : Nat) (hz : ZeroAt w g) : Calls Try.prog 15 #[.pointer (some ⟨g, 0, none⟩)] w fun e w' => e = .returned (.int .i64 0) ∧ w' = w := by
  go_enter Try.func15, Try.ntmps15
  go_wp2_with fail
  refine (lups_see_zero _ _ hz).mono ?_
  rintro e w1 ⟨rfl, rfl⟩
  go_wp2_with fail
  go_ret
  exact ⟨rfl, rfl⟩

set_option maxRecDepth 100000 in
set_option maxHeartbeats 4000000 in
theorem loopKnown_walk (w : World) : Calls Try.prog 7 #[] w fun e w' => e = .returned (.bool true) ∧ Stp [] w w' := by
  have n1 : LS.next ⟨0, 0, 0, 0⟩ 1125899906842624 1125899906842624 0 = ⟨0, 500000, 1125899906842624, 1⟩ := by kernel_rfl
  have n2 : LS.next ⟨0, 500000, 1125899906842624, 1⟩ (-1125899906842624) 1000000000 0 = ⟨-250000, -500000, -1125899906842624, 2⟩ := by kernel_rfl
  have n3 : LS.next ⟨-250000, -500000, -1125899906842624, 2⟩ 0 999999999 0 = ⟨-250000, -250000, 0, 3⟩ := by kernel_rfl
  have N := Lib.hid (And.intro n1 (And.intro n2 n3))
  clear n1 n2 n3
  have hz : ZeroAt (w.alloc (.cells #[.int .i64 0, .int .i64 0, .int .i64 0, .int .i64 0, .bool false] 47)) w.heap.size := new_at w _
  have HZ := Lib.hid hz
  clear hz
  go_enter Try.func7, Try.ntmps7
  go_wp2_with fail
  refine (update_nil _ 0 0 0).mono ?_
  rintro e v ⟨rfl, rfl⟩
  go_wp2_with fail
  refine (stepped_nil _).mono ?_
  rintro e v ⟨rfl, rfl⟩
  go_wp2_with fail
  refine (set_zero _ 0 _ (by exact HZ.out)).mono ?_
  rintro e v ⟨rfl, rfl⟩
  go_wp2_with fail
  refine (lfreq_nil _).mono ?_
  rintro e v ⟨rfl, rfl⟩
  go_wp2_with fail
  refine (lrate_zero _ _ (by exact HZ.out)).mono ?_
  rintro e v ⟨rfl, rfl⟩
  go_wp2_with fail
  refine (lleft_nil _).mono ?_
  rintro e v ⟨rfl, rfl⟩
  go_wp2_with fail
  refine (lups_zero _ _ (by exact HZ.out)).mono ?_
  rintro e v ⟨rfl, rfl⟩
  go_wp2_with fail
  refine (copy_nil _).mono ?_
  rintro e v ⟨rfl, rfl⟩
  go_wp2_with fail
  refine (new_any _).mono ?_
  rintro e u1 ⟨g, rfl, a1, s1, hg⟩
  go_wp2_with fail
  refine (update_bad g _ 1125899906842625 0 0 _ a1 (by decide) (.inl (by decide))).mono ?_
  rintro e v ⟨rfl, rfl⟩
  go_wp2_with fail
  refine (update_bad g _ (-9223372036854775808) 0 0 _ a1 (by decide) (.inl (by decide))).mono ?_
  rintro e v ⟨rfl, rfl⟩
  go_wp2_with fail
  refine (update_bad g _ 0 (-1) 0 _ a1 (by decide) (.inr (.inl (by decide)))).mono ?_
  rintro e v ⟨rfl, rfl⟩
  go_wp2_with fail
  refine (update_bad g _ 0 0 1125899906842625 _ a1 (by decide) (.inr (.inr (by decide)))).mono ?_
  rintro e v ⟨rfl, rfl⟩
  go_wp2_with fail
  refine (update_is _ a1 N.out.1 (by constructor <;> decide) (by decide) (by decide) (by decide) (by decide)).mono ?_
  rintro e u2 ⟨rfl, a2, s2⟩
  go_wp2_with fail
  refine (update_is _ a2 N.out.2.1 (by constructor <;> decide) (by decide) (by decide) (by decide) (by decide)).mono ?_
  rintro e u3 ⟨rfl, a3, s3⟩
  go_wp2_with fail
  refine (update_is _ a3 N.out.2.2 (by constructor <;> decide) (by decide) (by decide) (by decide) (by decide)).mono ?_
  rintro e u4 ⟨rfl, a4, s4⟩
  go_wp2_with fail
  refine (lfreq_any g _ _ a4).mono ?_
  rintro e v ⟨rfl, rfl⟩
  go_wp2_with fail
  refine (set_bad g _ 250001 _ a4 (by decide)).mono ?_
  rintro e v ⟨rfl, rfl⟩
  go_wp2_with fail
  refine (set_good g _ 250000 _ a4 (by decide)).mono ?_
  rintro e u5 ⟨rfl, a5, s5⟩
  go_wp2_with fail
  refine (lrate_any g _ _ a5).mono ?_
  rintro e v ⟨rfl, rfl⟩
  go_wp2_with fail
  refine (alive_any _).mono ?_
  rintro e u6 ⟨rfl, s6⟩
  go_wp2_with fail
  go_ret
  have q1 := ((Stp.refl [] w).alloc (.cells #[.int .i64 0, .int .i64 0, .int .i64 0, .int .i64 0, .bool false] 47)).trans s1
  have hg' : w.heap.size ≤ g := by have := hg; simp at this; omega
  exact ⟨rfl, ((((q1.far s2 (.inr hg')).far s3 (.inr hg')).far s4 (.inr hg')).far s5 (.inr hg')).trans s6⟩
end Go.Proofs.Ytkohpeonnoegpaa
