/- MonoKnown's walk. -/
import Derived.Test.YtmfjknpkogebmaaMonoUntil
import Derived.Outline
namespace Go.Proofs.Ytmfjknpkogebmaa
open Go.RowKit
set_option linter.unusedVariables false
set_option linter.unusedSimpArgs false

theorem go_nil (d : Int) (w : World) : Calls Try.prog 13 #[.pointer none, .int .i64 d] w fun e w' => e = .returned (.tuple #[.int .i64 0, .int .i64 2]) ∧ Stp [] w w' := by
  go_enter Try.func13, Try.ntmps13
  go_wp2_with fail
  refine (none_nil _).mono ?_
  rintro e w1 ⟨rfl, rfl⟩
  go_wp2_with fail
  go_ret2
  exact ⟨rfl, by repeat (first | exact Stp.refl _ _ | (refine Stp.alloc ?_ _))⟩

theorem until_nil (d : Int) (w : World) : Calls Try.prog 21 #[.pointer none, .int .i64 d] w fun e w' => e = .returned (.tuple #[.int .i64 0, .bool false]) ∧ Stp [] w w' := by
  go_enter Try.func21, Try.ntmps21
  go_wp2_with fail
  refine (none_nil _).mono ?_
  rintro e w1 ⟨rfl, rfl⟩
  go_wp2_with fail
  go_ret2
  exact ⟨rfl, by repeat (first | exact Stp.refl _ _ | (refine Stp.alloc ?_ _))⟩

theorem setrate_nil (d : Int) (w : World) : Calls Try.prog 12 #[.pointer none, .int .i64 d] w fun e w' => e = .returned (.int .i64 2) ∧ Stp [] w w' := by
  go_enter Try.func12, Try.ntmps12
  go_wp2_with fail
  refine (none_nil _).mono ?_
  rintro e w1 ⟨rfl, rfl⟩
  go_wp2_with fail
  go_ret
  exact ⟨rfl, by repeat (first | exact Stp.refl _ _ | (refine Stp.alloc ?_ _))⟩

theorem mono_nil (w : World) : Calls Try.prog 14 #[.pointer none] w fun e w' => e = .returned (.int .i64 0) ∧ Stp [] w w' := by
  go_enter Try.func14, Try.ntmps14
  go_wp2_with fail
  refine (none_nil _).mono ?_
  rintro e w1 ⟨rfl, rfl⟩
  go_wp2_with fail
  go_ret
  exact ⟨rfl, by repeat (first | exact Stp.refl _ _ | (refine Stp.alloc ?_ _))⟩

theorem raw_nil (w : World) : Calls Try.prog 15 #[.pointer none] w fun e w' => e = .returned (.int .i64 0) ∧ Stp [] w w' := by
  go_enter Try.func15, Try.ntmps15
  go_wp2_with fail
  refine (none_nil _).mono ?_
  rintro e w1 ⟨rfl, rfl⟩
  go_wp2_with fail
  go_ret
  exact ⟨rfl, by repeat (first | exact Stp.refl _ _ | (refine Stp.alloc ?_ _))⟩

theorem rate_nil (w : World) : Calls Try.prog 17 #[.pointer none] w fun e w' => e = .returned (.int .i64 0) ∧ Stp [] w w' := by
  go_enter Try.func17, Try.ntmps17
  go_wp2_with fail
  refine (none_nil _).mono ?_
  rintro e w1 ⟨rfl, rfl⟩
  go_wp2_with fail
  go_ret
  exact ⟨rfl, by repeat (first | exact Stp.refl _ _ | (refine Stp.alloc ?_ _))⟩

theorem full_nil (w : World) : Calls Try.prog 16 #[.pointer none] w fun e w' => e = .returned (.bool false) ∧ Stp [] w w' := by
  go_enter Try.func16, Try.ntmps16
  go_wp2_with fail
  refine (none_nil _).mono ?_
  rintro e w1 ⟨rfl, rfl⟩
  go_wp2_with fail
  go_ret
  exact ⟨rfl, by repeat (first | exact Stp.refl _ _ | (refine Stp.alloc ?_ _))⟩

theorem copy_nil (w : World) : Calls Try.prog 18 #[.pointer none] w fun e w' => e = .returned (.pointer none) ∧ Stp [] w w' := by
  go_enter Try.func18, Try.ntmps18
  go_wp2_with fail
  refine (none_nil _).mono ?_
  rintro e w1 ⟨rfl, rfl⟩
  go_wp2_with fail
  go_ret
  exact ⟨rfl, by repeat (first | exact Stp.refl _ _ | (refine Stp.alloc ?_ _))⟩

/-- The clock behind so many of the loop's calls. -/
def stK (k : Nat) : MS := if k ≤ 4095 then ⟨(k + 1) * 1125899906842624, (k + 1) * 1125899906842624, 0, 0, false⟩ else ⟨4611686018427387904, 4611686018427387904, 0, 0, true⟩
theorem stK_ok (k : Nat) : (stK k).ok := by
  unfold stK
  split
  · constructor <;> simp only <;> omega
  · constructor <;> simp only <;> omega
theorem stK_go (k : Nat) : ∃ n e, (stK k).go 1125899906842624 = (n, e, stK (k + 1)) := by
  unfold MS.go
  rw [if_neg (by decide)]
  by_cases h : k ≤ 4095
  · have e1 : stK k = ⟨(k + 1) * 1125899906842624, (k + 1) * 1125899906842624, 0, 0, false⟩ := by unfold stK; rw [if_pos h]
    rw [e1]
    rw [if_neg (by simp)]
    have e2 : MS.gain ⟨(k + 1) * 1125899906842624, (k + 1) * 1125899906842624, 0, 0, false⟩ 1125899906842624 = 1125899906842624 := by unfold MS.gain; simp
    have e3 : MS.left ⟨(k + 1) * 1125899906842624, (k + 1) * 1125899906842624, 0, 0, false⟩ 1125899906842624 = 0 := by unfold MS.left; simp
    rw [e2, e3]
    simp only
    by_cases h2 : k ≤ 4094
    · rw [if_neg (by omega)]
      refine ⟨1125899906842624, 0, ?_⟩
      unfold stK
      rw [if_pos (by omega)]
      have : ((k : Int) + 1) * 1125899906842624 + 1125899906842624 = ((k + 1 : Nat) + 1) * 1125899906842624 := by omega
      rw [this]
    · rw [if_pos (by omega)]
      refine ⟨0, 7, ?_⟩
      unfold stK
      rw [if_neg (by omega)]
      have : min (((k : Int) + 1) * 1125899906842624 + 1125899906842624) 4611686018427387904 = 4611686018427387904 := by omega
      rw [this]
  · have e1 : stK k = ⟨4611686018427387904, 4611686018427387904, 0, 0, true⟩ := by unfold stK; rw [if_neg h]
    have e2 : stK (k + 1) = ⟨4611686018427387904, 4611686018427387904, 0, 0, true⟩ := by unfold stK; rw [if_neg (by omega)]
    rw [e1, e2]
    exact ⟨0, 7, by rw [if_pos rfl]⟩

set_option maxRecDepth 100000 in
set_option maxHeartbeats 4000000 in
theorem monoKnown_walk (w : World) : Calls Try.prog 9 #[] w fun e w' => e = .returned (.bool true) ∧ Stp [] w w' := by
  go_enter Try.func9, Try.ntmps9
  go_wp2_with fail
  refine (new_any _).mono ?_
  rintro e w1 ⟨ga, rfl, b1, s1, hga⟩
  go_wp2_with fail
  refine (go_is 0 1 MS.new b1 (by kernel_rfl) MS.new_ok (by decide)).mono ?_
  rintro e w2 ⟨rfl, b2, s2⟩
  go_wp2_with fail
  refine (go_is 0 1 MS.new b2 (by kernel_rfl) MS.new_ok (by decide)).mono ?_
  rintro e w3 ⟨rfl, b3, s3⟩
  go_wp2_with fail
  refine (go_is 1125899906842624 0 (stK 0) b3 (by kernel_rfl) MS.new_ok (by decide)).mono ?_
  rintro e w4 ⟨rfl, b4, s4⟩
  go_wp2_with fail
  refine (setrate_bad ga _ (-500001) _ b4 (by decide) (by decide)).mono ?_
  rintro e w5 ⟨rfl, rfl⟩
  go_wp2_with fail
  refine (until_past ga _ 5 _ b4 rfl (by decide)).mono ?_
  rintro e w6 ⟨rfl, s6⟩
  have b6 := s6.at b4 (by simp)
  have t6 := (((s1.far s2 (.inr hga)).far s3 (.inr hga)).far s4 (.inr hga)).trans s6
  go_wp2_with fail
  clear b1 b2 b3 b4 s1 s2 s3 s4 s6
  go_loopw [43] (fun i wr => ∃ k : Nat, k ≤ 5000 ∧ i = .int .i64 k ∧ (stK k).at wr ga ∧ Stp [] w wr) (fun i _ => 5000 - (intOf i).toNat)
  case atStart => exact ⟨0, by omega, rfl, b6, t6⟩
  case round =>
    obtain ⟨k, hk, rfl, b, t⟩ := hrel
    by_cases hlt : k < 5000
    · obtain ⟨n, er, hgo⟩ := stK_go k
      have GO := Lib.hid hgo
      clear hgo
      go_wp2_with fail
      refine (go_is _ _ _ b GO.out (stK_ok k) (by decide)).mono ?_
      rintro e v1 ⟨rfl, b1, s1⟩
      go_wp2_with fail
      go_roundw
      case rel => exact ⟨k + 1, by omega, by go_num, b1, t.far s1 (.inr hga)⟩
      case measure => simp [intOf]; omega
    · obtain rfl : k = 5000 := by omega
      have e0 : (stK 5000).go 0 = (0, 7, ⟨4611686018427387904, 4611686018427387904, 0, 0, true⟩) := by
        have : stK 5000 = ⟨4611686018427387904, 4611686018427387904, 0, 0, true⟩ := by unfold stK; rw [if_neg (by decide)]
        rw [this]
        unfold MS.go
        rw [if_neg (by decide), if_pos rfl]
      have E0 := Lib.hid e0
      clear e0
      go_wp2_with fail
      refine (go_is 0 7 _ b E0.out (stK_ok 5000) (by decide)).mono ?_
      rintro e v1 ⟨rfl, b1, s1⟩
      go_wp2_with fail
      refine (until_full ga _ 5 _ b1 rfl).mono ?_
      rintro e v2 ⟨rfl, s2⟩
      go_wp2_with fail
      refine (go_nil 0 _).mono ?_
      rintro e v3 ⟨rfl, s3⟩
      go_wp2_with fail
      refine (until_nil 0 _).mono ?_
      rintro e v4 ⟨rfl, s4⟩
      go_wp2_with fail
      refine (awake_any _).mono ?_
      rintro e v5 ⟨rfl, s5⟩
      have b5 := s5.at (s4.at (s3.at (s2.at b1 (by simp)) (by simp)) (by simp)) (by simp)
      go_wp2_with fail
      refine (full_any ga _ _ b5).mono ?_
      rintro e v6 ⟨rfl, rfl⟩
      go_wp2_with fail
      refine (mono_any ga _ _ b5).mono ?_
      rintro e v6 ⟨rfl, rfl⟩
      go_wp2_with fail
      refine (setrate_nil 0 _).mono ?_
      rintro e v6 ⟨rfl, s6⟩
      go_wp2_with fail
      refine (mono_nil _).mono ?_
      rintro e v7 ⟨rfl, s7⟩
      go_wp2_with fail
      refine (raw_nil _).mono ?_
      rintro e v8 ⟨rfl, s8⟩
      go_wp2_with fail
      refine (rate_nil _).mono ?_
      rintro e v9 ⟨rfl, s9⟩
      go_wp2_with fail
      refine (full_nil _).mono ?_
      rintro e v10 ⟨rfl, s10⟩
      go_wp2_with fail
      refine (copy_nil _).mono ?_
      rintro e v11 ⟨rfl, s11⟩
      go_wp2_with fail
      go_ret
      have u1 := (t.far s1 (.inr hga)).trans s2
      exact ⟨rfl, ((((((((u1.trans s3).trans s4).trans s5).trans s6).trans s7).trans s8).trans s9).trans s10).trans s11⟩
end Go.Proofs.Ytmfjknpkogebmaa
