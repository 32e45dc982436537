/- stamp: StampNs. -/
import Derived.Test.YtnkkfmiacbkdpaaStamp
namespace Go.Proofs.Ytnkkfmiacbkdpaa
open Go.RowKit
set_option linter.unusedVariables false
set_option linter.unusedSimpArgs false

set_option maxHeartbeats 4000000 in
theorem stampns_case (u p : Int) (w : World) (h : 0 ≤ u ∧ u ≤ 18446744073709551615) (hp : -9223372036854775808 ≤ p ∧ p ≤ 9223372036854775807) :
    Calls Try.prog 13 #[.int .u64 u, .int .i64 p] w fun e w' => e = .returned (.int .i64 (stampNsS u (pivotS p))) ∧ Stp [] w w' := by
  obtain ⟨h0, h1⟩ := h
  obtain ⟨p0, p1⟩ := hp
  obtain ⟨q0, q1⟩ := pivotS_bd p
  obtain ⟨f0, f1⟩ := firstS_bd u ⟨h0, h1⟩
  have hq : min (max p 0) 4611686018427387904 = pivotS p := by unfold pivotS; split <;> (try split) <;> omega
  have hand := u64_mask32 u
  have hs : stampNsS u (pivotS p) = if awayS (pivotS p) (firstS u) < awayS (pivotS p) (firstS u - 4294967296000000000) then (if awayS (pivotS p) (firstS u + 4294967296000000000) < awayS (pivotS p) (firstS u) then firstS u + 4294967296000000000 else firstS u)
      else (if awayS (pivotS p) (firstS u + 4294967296000000000) < awayS (pivotS p) (firstS u - 4294967296000000000) then firstS u + 4294967296000000000 else firstS u - 4294967296000000000) := by
    unfold stampNsS awayS
    generalize firstS u = f at *
    generalize pivotS p = q at *
    repeat' split
    all_goals omega
  have hf : u / 4294967296 * 1000000000 + u % 4294967296 * 1000000000 / 4294967296 = firstS u := rfl
  generalize hQ : pivotS p = q at *
  generalize hF : firstS u = f at *
  have i0 : ∀ w, (Instr.index 50 (.agg #[.int .i64 f, .int .i64 (f + 4294967296000000000)]) (.int .i64 0)).run Try.prog w = .ok (.int .i64 f) w := fun _ => by kernel_rfl
  have i1 : ∀ w, (Instr.index 50 (.agg #[.int .i64 f, .int .i64 (f + 4294967296000000000)]) (.int .i64 1)).run Try.prog w = .ok (.int .i64 (f + 4294967296000000000)) w := fun _ => by kernel_rfl
  have a1 := fun (b : Nat) (w : World) hc => away_any b f q w hc ⟨q0, q1⟩ ⟨by omega, by omega⟩
  have a2 := fun (b : Nat) (w : World) hc => away_any b (f - 4294967296000000000) q w hc ⟨q0, q1⟩ ⟨by omega, by omega⟩
  have a3 := fun (b : Nat) (w : World) hc => away_any b (f + 4294967296000000000) q w hc ⟨q0, q1⟩ ⟨by omega, by omega⟩
  clear hQ hF
  rw [hs]
  have A1 := Lib.hid a1
  have A2 := Lib.hid a2
  have A3 := Lib.hid a3
  clear hs a1 a2 a3
  by_cases b1 : awayS q f < awayS q (f - 4294967296000000000)
  · rw [if_pos b1]
    by_cases b2 : awayS q (f + 4294967296000000000) < awayS q f
    all_goals
      first | rw [if_pos b2] | rw [if_neg b2]
      go_enter Try.func13, Try.ntmps13
      go_wp2_with fail
      refine wp_loop_rounds 3 ?_
      rw [rounds_succ]
      go_wp2_with fail
      refine (A1.out _ _ (by simp)).mono ?_
      rintro e w1 ⟨rfl, rfl⟩
      go_wp2_with fail
      refine (A2.out _ _ (by simp)).mono ?_
      rintro e w1 ⟨rfl, rfl⟩
      go_wp2_with fail
      rw [rounds_succ]
      go_wp2_with fail
      refine (A3.out _ _ (by simp)).mono ?_
      rintro e w1 ⟨rfl, rfl⟩
      go_wp2_with fail
      refine (A1.out _ _ (by simp)).mono ?_
      rintro e w1 ⟨rfl, rfl⟩
      go_wp2_with fail
      rw [rounds_succ]
      go_wp2_with fail
      go_ret
      exact ⟨rfl, (Stp.refl _ _).alloc _⟩
  · rw [if_neg b1]
    by_cases b2 : awayS q (f + 4294967296000000000) < awayS q (f - 4294967296000000000)
    all_goals
      first | rw [if_pos b2] | rw [if_neg b2]
      go_enter Try.func13, Try.ntmps13
      go_wp2_with fail
      refine wp_loop_rounds 3 ?_
      rw [rounds_succ]
      go_wp2_with fail
      refine (A1.out _ _ (by simp)).mono ?_
      rintro e w1 ⟨rfl, rfl⟩
      go_wp2_with fail
      refine (A2.out _ _ (by simp)).mono ?_
      rintro e w1 ⟨rfl, rfl⟩
      go_wp2_with fail
      rw [rounds_succ]
      go_wp2_with fail
      refine (A3.out _ _ (by simp)).mono ?_
      rintro e w1 ⟨rfl, rfl⟩
      go_wp2_with fail
      refine (A2.out _ _ (by simp)).mono ?_
      rintro e w1 ⟨rfl, rfl⟩
      go_wp2_with fail
      rw [rounds_succ]
      go_wp2_with fail
      go_ret
      exact ⟨rfl, (Stp.refl _ _).alloc _⟩

end Go.Proofs.Ytnkkfmiacbkdpaa
