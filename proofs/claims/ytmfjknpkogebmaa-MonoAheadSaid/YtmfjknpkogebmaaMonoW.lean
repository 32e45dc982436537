/- mono: the document's examples. -/
import Derived.Test.YtmfjknpkogebmaaMono
namespace Go.Proofs.Ytmfjknpkogebmaa
open Go.RowKit
set_option linter.unusedVariables false
set_option linter.unusedSimpArgs false

theorem go_is {w : World} {g : Nat} {c : MS} {d : Int} (n e : Int) (c' : MS) (h : c.at w g) (hg : c.go d = (n, e, c')) (ok : c.ok) (hd : -9223372036854775808 ≤ d ∧ d ≤ 9223372036854775807) :
    Calls Try.prog 13 #[.pointer (some ⟨g, 0, none⟩), .int .i64 d] w fun x w' => x = .returned (.tuple #[.int .i64 n, .int .i64 e]) ∧ c'.at w' g ∧ Stp [g] w w' := by
  have := go_any g c d w h ok hd
  rw [hg] at this
  exact this
theorem setrate_is {w : World} {g : Nat} {c : MS} {r : Int} (c' : MS) (h : c.at w g) (hg : MS.mk c.raw c.mono r c.rest c.full = c') (ha : -500000 ≤ r ∧ r ≤ 500000) :
    Calls Try.prog 12 #[.pointer (some ⟨g, 0, none⟩), .int .i64 r] w fun x w' => x = .returned (.int .i64 0) ∧ c'.at w' g ∧ Stp [g] w w' := by
  have := setrate_any g c r w h (by omega) ha
  rw [hg] at this
  exact this

set_option maxHeartbeats 1000000 in
theorem awake_any (w : World) : Calls Try.prog 11 #[] w fun e w' => e = .returned (.bool true) ∧ Stp [] w w' := by
  go_enter Try.func11, Try.ntmps11
  go_wp2_with fail
  refine (new_any _).mono ?_
  rintro e w1 ⟨g, rfl, a1, s1, hg⟩
  go_wp2_with fail
  refine (setrate_is ⟨0, 0, 500000, 0, false⟩ a1 rfl (by decide)).mono ?_
  rintro e w2 ⟨rfl, a2, s2⟩
  go_wp2_with fail
  refine (go_is 1000 0 ⟨1000, 1000, 500000, 500000000, false⟩ a2 (by kernel_rfl) (by constructor <;> decide) (by decide)).mono ?_
  rintro e w3 ⟨rfl, a3, s3⟩
  go_wp2_with fail
  refine (go_is 1001 0 ⟨2000, 2001, 500000, 0, false⟩ a3 (by kernel_rfl) (by constructor <;> decide) (by decide)).mono ?_
  rintro e w4 ⟨rfl, a4, s4⟩
  go_wp2_with fail
  refine (new_any _).mono ?_
  rintro e w5 ⟨g2, rfl, b1, s5, hg2⟩
  have hne : g ∉ [g2] := by have := lt_of_at a4; simp; omega
  have a5 : (MS.mk 2000 2001 500000 0 false).at w5 g := s5.at a4 (by simp)
  go_wp2_with fail
  refine (setrate_is ⟨0, 0, -500000, 0, false⟩ b1 rfl (by decide)).mono ?_
  rintro e w6 ⟨rfl, b2, s6⟩
  have a6 : (MS.mk 2000 2001 500000 0 false).at w6 g := s6.at a5 hne
  go_wp2_with fail
  refine (go_is 1999 0 ⟨2000, 1999, -500000, 0, false⟩ b2 (by kernel_rfl) (by constructor <;> decide) (by decide)).mono ?_
  rintro e w7 ⟨rfl, b3, s7⟩
  have a7 : (MS.mk 2000 2001 500000 0 false).at w7 g := s7.at a6 hne
  go_wp2_with fail
  refine (mono_any g _ _ a7).mono ?_
  rintro e w8 ⟨rfl, rfl⟩
  go_wp2_with fail
  refine (raw_any g _ _ a7).mono ?_
  rintro e w8 ⟨rfl, rfl⟩
  go_wp2_with fail
  refine (setrate_bad g _ 500001 _ a7 (by decide) (by decide)).mono ?_
  rintro e w8 ⟨rfl, rfl⟩
  go_wp2_with fail
  go_ret
  refine ⟨rfl, ?_⟩
  have t4 := ((s1.far s2 (.inr hg)).far s3 (.inr hg)).far s4 (.inr hg)
  have hg3 : w.heap.size ≤ g2 := Nat.le_trans t4.size hg2
  exact ((t4.trans s5).far s6 (.inr hg3)).far s7 (.inr hg3)
end Go.Proofs.Ytmfjknpkogebmaa
