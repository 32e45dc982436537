/- loop: its methods. -/
import Derived.Test.YtkohpeonnoegpaaLoop
import Derived.RegionTactic
namespace Go.Proofs.Ytkohpeonnoegpaa
open Go.RowKit
set_option linter.unusedVariables false
set_option linter.unusedSimpArgs false

def MadeLoop (c : LS) (w : World) (e : Ending) (w' : World) : Prop :=
  ∃ g, e = .returned (.pointer (some ⟨g, 0, none⟩)) ∧ c.at w' g ∧ Stp [] w w' ∧ w.heap.size ≤ g
theorem new_any (w : World) : Calls Try.prog 8 #[] w (MadeLoop ⟨0, 0, 0, 0⟩ w) := by
  go_enter Try.func8, Try.ntmps8
  go_wp2
  go_ret
  exact ⟨_, rfl, by exact new_at _ _, (Stp.refl _ _).alloc _, Nat.le_refl _⟩
theorem copy_any (g : Nat) (c : LS) (w : World) (h : c.at w g) : Calls Try.prog 21 #[.pointer (some ⟨g, 0, none⟩)] w (MadeLoop c w) := by
  obtain ⟨c0, c1, c2, c3, c4⟩ := ls_cells h
  have H := Lib.hid h
  clear h
  go_enter Try.func21, Try.ntmps21
  go_wp2_with fail
  refine (none_ptr _ _ _ H.out).mono ?_
  rintro e w1 ⟨rfl, rfl⟩
  go_wp2_with fail
  go_ret
  exact ⟨_, rfl, by exact new_at _ _, (Stp.refl _ _).alloc _, Nat.le_refl _⟩

theorem lfreq_what (g : Nat) (c : LS) (w : World) (h : c.at w g) :
    Calls Try.prog 31 #[.pointer (some ⟨g, 0, none⟩)] w fun e w' => e = .returned (.int .i64 c.freq) ∧ w' = w := by
  obtain ⟨c0, c1, c2, c3, c4⟩ := ls_cells h
  clear h
  go_enter Try.func31, Try.ntmps31
  go_wp2
  go_ret
  exact ⟨rfl, rfl⟩
theorem lfreq_see (g : Nat) (c : LS) (w : World) (h : c.at w g) :
    Calls Try.prog 30 #[.pointer (some ⟨g, 0, none⟩), .func (.func 31) #[] #[]] w fun e w' => e = .returned (.int .i64 c.freq) ∧ w' = w := by
  have H := Lib.hid h
  clear h
  go_enter Try.func30, Try.ntmps30
  go_wp2_with fail
  refine (none_ptr _ _ _ H.out).mono ?_
  rintro e w1 ⟨rfl, rfl⟩
  go_wp2_with fail
  refine (lfreq_what _ _ _ H.out).mono ?_
  rintro e w1 ⟨rfl, rfl⟩
  go_wp2_with fail
  go_ret
  exact ⟨rfl, rfl⟩
theorem lfreq_any (g : Nat) (c : LS) (w : World) (h : c.at w g) :
    Calls Try.prog 10 #[.pointer (some ⟨g, 0, none⟩)] w fun e w' => e = .returned (.int .i64 c.freq) ∧ w' = w := by
  have H := Lib.hid h
  clear h
  go_enter Try.func10, Try.ntmps10
  go_wp2_with fail
  refine (lfreq_see _ _ _ H.out).mono ?_
  rintro e w1 ⟨rfl, rfl⟩
  go_wp2_with fail
  go_ret
  exact ⟨rfl, rfl⟩

theorem lrate_what (g : Nat) (c : LS) (w : World) (h : c.at w g) :
    Calls Try.prog 32 #[.pointer (some ⟨g, 0, none⟩)] w fun e w' => e = .returned (.int .i64 c.rate) ∧ w' = w := by
  obtain ⟨c0, c1, c2, c3, c4⟩ := ls_cells h
  clear h
  go_enter Try.func32, Try.ntmps32
  go_wp2
  go_ret
  exact ⟨rfl, rfl⟩
theorem lrate_see (g : Nat) (c : LS) (w : World) (h : c.at w g) :
    Calls Try.prog 30 #[.pointer (some ⟨g, 0, none⟩), .func (.func 32) #[] #[]] w fun e w' => e = .returned (.int .i64 c.rate) ∧ w' = w := by
  have H := Lib.hid h
  clear h
  go_enter Try.func30, Try.ntmps30
  go_wp2_with fail
  refine (none_ptr _ _ _ H.out).mono ?_
  rintro e w1 ⟨rfl, rfl⟩
  go_wp2_with fail
  refine (lrate_what _ _ _ H.out).mono ?_
  rintro e w1 ⟨rfl, rfl⟩
  go_wp2_with fail
  go_ret
  exact ⟨rfl, rfl⟩
theorem lrate_any (g : Nat) (c : LS) (w : World) (h : c.at w g) :
    Calls Try.prog 13 #[.pointer (some ⟨g, 0, none⟩)] w fun e w' => e = .returned (.int .i64 c.rate) ∧ w' = w := by
  have H := Lib.hid h
  clear h
  go_enter Try.func13, Try.ntmps13
  go_wp2_with fail
  refine (lrate_see _ _ _ H.out).mono ?_
  rintro e w1 ⟨rfl, rfl⟩
  go_wp2_with fail
  go_ret
  exact ⟨rfl, rfl⟩

theorem lleft_what (g : Nat) (c : LS) (w : World) (h : c.at w g) :
    Calls Try.prog 33 #[.pointer (some ⟨g, 0, none⟩)] w fun e w' => e = .returned (.int .i64 c.left) ∧ w' = w := by
  obtain ⟨c0, c1, c2, c3, c4⟩ := ls_cells h
  clear h
  go_enter Try.func33, Try.ntmps33
  go_wp2
  go_ret
  exact ⟨rfl, rfl⟩
theorem lleft_see (g : Nat) (c : LS) (w : World) (h : c.at w g) :
    Calls Try.prog 30 #[.pointer (some ⟨g, 0, none⟩), .func (.func 33) #[] #[]] w fun e w' => e = .returned (.int .i64 c.left) ∧ w' = w := by
  have H := Lib.hid h
  clear h
  go_enter Try.func30, Try.ntmps30
  go_wp2_with fail
  refine (none_ptr _ _ _ H.out).mono ?_
  rintro e w1 ⟨rfl, rfl⟩
  go_wp2_with fail
  refine (lleft_what _ _ _ H.out).mono ?_
  rintro e w1 ⟨rfl, rfl⟩
  go_wp2_with fail
  go_ret
  exact ⟨rfl, rfl⟩
theorem lleft_any (g : Nat) (c : LS) (w : World) (h : c.at w g) :
    Calls Try.prog 14 #[.pointer (some ⟨g, 0, none⟩)] w fun e w' => e = .returned (.int .i64 c.left) ∧ w' = w := by
  have H := Lib.hid h
  clear h
  go_enter Try.func14, Try.ntmps14
  go_wp2_with fail
  refine (lleft_see _ _ _ H.out).mono ?_
  rintro e w1 ⟨rfl, rfl⟩
  go_wp2_with fail
  go_ret
  exact ⟨rfl, rfl⟩

theorem lups_what (g : Nat) (c : LS) (w : World) (h : c.at w g) :
    Calls Try.prog 34 #[.pointer (some ⟨g, 0, none⟩)] w fun e w' => e = .returned (.int .i64 c.ups) ∧ w' = w := by
  obtain ⟨c0, c1, c2, c3, c4⟩ := ls_cells h
  clear h
  go_enter Try.func34, Try.ntmps34
  go_wp2
  go_ret
  exact ⟨rfl, rfl⟩
theorem lups_see (g : Nat) (c : LS) (w : World) (h : c.at w g) :
    Calls Try.prog 30 #[.pointer (some ⟨g, 0, none⟩), .func (.func 34) #[] #[]] w fun e w' => e = .returned (.int .i64 c.ups) ∧ w' = w := by
  have H := Lib.hid h
  clear h
  go_enter Try.func30, Try.ntmps30
  go_wp2_with fail
  refine (none_ptr _ _ _ H.out).mono ?_
  rintro e w1 ⟨rfl, rfl⟩
  go_wp2_with fail
  refine (lups_what _ _ _ H.out).mono ?_
  rintro e w1 ⟨rfl, rfl⟩
  go_wp2_with fail
  go_ret
  exact ⟨rfl, rfl⟩
theorem lups_any (g : Nat) (c : LS) (w : World) (h : c.at w g) :
    Calls Try.prog 15 #[.pointer (some ⟨g, 0, none⟩)] w fun e w' => e = .returned (.int .i64 c.ups) ∧ w' = w := by
  have H := Lib.hid h
  clear h
  go_enter Try.func15, Try.ntmps15
  go_wp2_with fail
  refine (lups_see _ _ _ H.out).mono ?_
  rintro e w1 ⟨rfl, rfl⟩
  go_wp2_with fail
  go_ret
  exact ⟨rfl, rfl⟩

theorem stepped_any (g : Nat) (c : LS) (w : World) (h : c.at w g) :
    Calls Try.prog 16 #[.pointer (some ⟨g, 0, none⟩)] w fun e w' => e = .returned (.int .i64 0) ∧ (LS.mk c.freq c.freq 0 c.ups).at w' g ∧ Stp [g] w w' := by
  obtain ⟨c0, c1, c2, c3, c4⟩ := ls_cells h
  obtain ⟨z0, z1, z2, z3⟩ := ls_free h
  have H := Lib.hid h
  clear h
  go_enter Try.func16, Try.ntmps16
  go_wp2_with fail
  refine (none_ptr _ _ _ H.out).mono ?_
  rintro e w1 ⟨rfl, rfl⟩
  go_wp2_with fail
  first | go_region | skip
  all_goals go_wp2_with fail
  all_goals go_ret
  exact ⟨rfl, set_at (set_at H.out 2 _) 1 _, (((Stp.refl _ _).setCell (p := ⟨g, 2, none⟩) (.inl (by simp)) _).setCell (p := ⟨g, 1, none⟩) (.inl (by simp)) _)⟩
theorem set_good (g : Nat) (c : LS) (f : Int) (w : World) (h : c.at w g) (hf : -250000 ≤ f ∧ f ≤ 250000) :
    Calls Try.prog 17 #[.pointer (some ⟨g, 0, none⟩), .int .i64 f] w fun e w' => e = .returned (.int .i64 0) ∧ (LS.mk f f 0 c.ups).at w' g ∧ Stp [g] w w' := by
  obtain ⟨f0, f1⟩ := hf
  obtain ⟨c0, c1, c2, c3, c4⟩ := ls_cells h
  obtain ⟨z0, z1, z2, z3⟩ := ls_free h
  have H := Lib.hid h
  clear h
  go_enter Try.func17, Try.ntmps17
  go_wp2_with fail
  refine (none_ptr _ _ _ H.out).mono ?_
  rintro e w1 ⟨rfl, rfl⟩
  go_wp2_with fail
  refine (stepped_any g ⟨f, c.rate, c.left, c.ups⟩ _ (by exact set_at H.out 0 _)).mono ?_
  rintro e w2 ⟨rfl, h2, s2⟩
  go_wp2_with fail
  go_ret
  exact ⟨rfl, h2, ((Stp.refl [g] _).setCell (p := ⟨g, 0, none⟩) (.inl (by simp)) _).trans s2⟩
theorem set_bad (g : Nat) (c : LS) (f : Int) (w : World) (h : c.at w g) (hf : f < -250000 ∨ 250000 < f) :
    Calls Try.prog 17 #[.pointer (some ⟨g, 0, none⟩), .int .i64 f] w fun e w' => e = .returned (.int .i64 1) ∧ w' = w := by
  obtain ⟨c0, c1, c2, c3, c4⟩ := ls_cells h
  have H := Lib.hid h
  clear h
  have hf2 : f < -250000 ∨ (¬ f < -250000 ∧ 250000 < f) := by omega
  clear hf
  rcases hf2 with h | ⟨h, h2⟩
  all_goals
    go_enter Try.func17, Try.ntmps17
    go_wp2_with fail
    refine (none_ptr _ _ _ H.out).mono ?_
    rintro e w1 ⟨rfl, rfl⟩
    go_wp2_with fail
    go_ret
    exact ⟨rfl, rfl⟩
theorem within_any (r m : Int) (w : World) (hm : 0 ≤ m ∧ m ≤ 1000000) :
    Calls Try.prog 27 #[.int .i64 r, .int .i64 m] w fun e w' => e = .returned (.int .i64 (clampS r (-m) m)) ∧ w' = w := by
  obtain ⟨m0, m1⟩ := hm
  have c1 := fun w => clamp_any r (-m) m w
  have C := Lib.hid c1
  clear c1
  go_enter Try.func27, Try.ntmps27
  go_wp2_with fail
  refine (C.out _).mono ?_
  rintro e w1 ⟨rfl, rfl⟩
  go_wp2_with fail
  go_ret
  exact ⟨rfl, rfl⟩
def spanB (n : Int) : Bool := decide (0 ≤ n ∧ n ≤ 1125899906842624)
theorem span_any (n : Int) (w : World) : Calls Try.prog 22 #[.int .i64 n] w fun e w' => e = .returned (.bool (spanB n)) ∧ w' = w := by
  by_cases h0 : 0 ≤ n
  · by_cases h1 : n ≤ 1125899906842624
    all_goals
      have e : spanB n = decide (n ≤ 1125899906842624) := by simp [spanB, h0]
      rw [e]
      clear e
      go_enter Try.func22, Try.ntmps22
      go_wp2
      go_ret
      exact ⟨ret_bool (by simp [h1]), rfl⟩
  · have e : spanB n = false := by simp [spanB, h0]
    rw [e]
    clear e
    go_enter Try.func22, Try.ntmps22
    go_wp2
    go_ret
    exact ⟨rfl, rfl⟩
end Go.Proofs.Ytkohpeonnoegpaa
