/- MonoUntil's walk. -/
import Derived.Test.YtmfjknpkogebmaaMonoUntil
import Derived.Outline
namespace Go.Proofs.Ytmfjknpkogebmaa
open Go.RowKit
set_option linter.unusedVariables false
set_option linter.unusedSimpArgs false

theorem go_plain {c : MS} {d : Int} (ok : c.ok) (hf : c.full = false) (hd : 0 ≤ d ∧ d ≤ 1125899906842624) (h1 : c.mono + c.gain d ≤ 4611686018427387904) (h2 : c.raw + d ≤ 4611686018427387904) :
    c.go d = (c.gain d, 0, ⟨c.raw + d, c.mono + c.gain d, c.rate, c.left d, false⟩) := by
  unfold MS.go
  rw [if_neg (by omega), if_neg (by simp [hf]), if_neg (by omega)]

set_option maxRecDepth 100000 in
set_option maxHeartbeats 4000000 in
theorem monoUntil_walk (r go0 ah : Int) (w : World) (hr : -9223372036854775808 ≤ r ∧ r ≤ 9223372036854775807) (hgo : -9223372036854775808 ≤ go0 ∧ go0 ≤ 9223372036854775807) (hah : -9223372036854775808 ≤ ah ∧ ah ≤ 9223372036854775807) :
    Calls Try.prog 8 #[.int .i64 r, .int .i64 go0, .int .i64 ah] w fun e w' => e = .returned (.bool true) ∧ Stp [] w w' := by
  obtain ⟨q, hq⟩ : ∃ q, r.tmod 500001 = q := ⟨_, rfl⟩
  have q0 : -500001 < q := by rw [← hq]; exact Int.lt_tmod_of_pos r (by decide)
  have q1 : q < 500001 := by rw [← hq]; exact Int.tmod_lt_of_pos r (by decide)
  have hm1 := i64_mask44 go0
  have hm2 := i64_mask48 ah
  obtain ⟨d, hd⟩ : ∃ d, go0 % 17592186044416 = d := ⟨_, rfl⟩
  obtain ⟨a, ha⟩ : ∃ a, ah % 281474976710656 = a := ⟨_, rfl⟩
  have d0 : 0 ≤ d := by omega
  have d1 : d < 17592186044416 := by omega
  have a0 : 0 ≤ a := by omega
  have a1 : a < 281474976710656 := by omega
  rw [hd] at hm1
  rw [ha] at hm2
  obtain ⟨ok1, k1, e1⟩ := run_go q 0 d (by omega) (by omega) ⟨d0, by omega⟩
  have ok2 := (run_go q d 0 (by omega) ⟨d0, by omega⟩ (by omega)).1
  rw [Int.zero_add] at e1
  obtain ⟨m, y, hmy⟩ : ∃ m y, MS.run q d = ⟨d, m, q, y, false⟩ := ⟨_, _, rfl⟩
  rw [hmy] at e1 ok2
  have m0 := ok2.mono0
  have m2 : m ≤ 35201562456064 := by
    have := congrArg MS.mono hmy
    have b1 := mul_bd (p := d) (P := 17592186044416) (R := 500000) d0 (by omega) (show -500000 ≤ q by omega) (by omega)
    simp only [Int.reduceMul, Int.reduceNeg] at b1
    simp only [MS.run] at this
    omega
  simp only at m0
  have E := Lib.hid (And.intro e1 ok2)
  have OK1 := Lib.hid ok1
  clear hd ha e1 ok1 ok2 hmy hr hgo hah
  go_enter Try.func8, Try.ntmps8
  go_wp2_with fail
  refine (new_at0 _).mono ?_
  rintro e w1 ⟨ga, rfl, b1, s1, hga⟩
  go_wp2_with fail
  refine (awake_any _).mono ?_
  rintro e w2 ⟨rfl, s2⟩
  have b2 := s2.at b1 (by simp)
  go_wp2_with fail
  refine (setrate_is (MS.run q 0) b2 (run_zero q).symm (by omega)).mono ?_
  rintro e w3 ⟨rfl, b3, s3⟩
  go_wp2_with fail
  refine (go_is k1 0 _ b3 E.out.1 OK1.out (by omega)).mono ?_
  rintro e w4 ⟨rfl, b4, s4⟩
  have t4 := ((s1.trans s2).far s3 (.inr hga)).far s4 (.inr hga)
  clear b1 s1 s2 b3 s3 s4
  go_wp2_with fail
  refine (mono_any ga _ _ b4).mono ?_
  rintro e w5 ⟨rfl, rfl⟩
  go_wp2_with fail
  rcases Int.lt_or_le 0 a with hpos | hz
  · have hlt := lt_of_at b4
    have hreach : (MS.mk d m q y false).gain 1125899906842624 ≥ m + a - m := by
      have := (gain_bd E.out.2 (d := 1125899906842624) (by decide) (by decide)).2.2.2.2.1
      omega
    refine (until_yes ga _ (m + a) _ b4 E.out.2 rfl ⟨by simp only; omega, by omega⟩ hreach).mono ?_
    rintro e w6 ⟨x, rfl, x0, x1, x2, x3, s6⟩
    simp only at x2 x3
    have x3' : m + a ≤ m + (MS.mk d m q y false).gain x := by omega
    have x2' : m + (MS.mk d m q y false).gain (x - 1) < m + a := by omega
    have g1 := gain_bd E.out.2 (d := x) (by omega) (by omega)
    have g2 := gain_bd E.out.2 (d := x - 1) (by omega) (by omega)
    have e1 := go_plain E.out.2 rfl ⟨by omega, x1⟩ (d := x) (by simp only; omega) (by simp only; omega)
    have e2 := go_plain E.out.2 rfl ⟨by omega, by omega⟩ (d := x - 1) (by simp only; omega) (by simp only; omega)
    have b6 := s6.at b4 (by simp)
    generalize (MS.mk d m q y false).gain x = u at *
    generalize (MS.mk d m q y false).gain (x - 1) = v at *
    generalize (MS.mk d m q y false).left x = lu at *
    generalize (MS.mk d m q y false).left (x - 1) = lv at *
    simp only at e1 e2
    have E2 := Lib.hid (And.intro e1 e2)
    clear e1 e2 hreach x2 x3
    have hx0 : (x == 0) = false := by simp; omega
    have hm0 : (m + a == m) = false := by simp; omega
    go_wp2_with fail
    refine (mono_any ga _ _ b6).mono ?_
    rintro e w7 ⟨rfl, rfl⟩
    go_wp2_with fail
    refine (copy_any ga _ _ b6).mono ?_
    rintro e w8 ⟨gx, rfl, cx8, s8, hgx⟩
    have b8 := s8.at b6 (by simp)
    go_wp2_with fail
    refine (copy_any ga _ _ b8).mono ?_
    rintro e w9 ⟨gy, rfl, cy9, s9, hgy⟩
    have cx9 := s9.at cx8 (by simp)
    have nxy : gx ∉ [gy] ∧ gy ∉ [gx] := by
      have := lt_of_at cx8
      simp
      omega
    go_wp2_with fail
    refine (go_is _ _ _ cx9 E2.out.1 E.out.2 (by omega)).mono ?_
    rintro e w10 ⟨rfl, cx10, s10⟩
    have cy10 := s10.at cy9 nxy.2
    go_wp2_with fail
    refine (mono_any gx _ _ cx10).mono ?_
    rintro e w11 ⟨rfl, rfl⟩
    go_wp2_with fail
    refine (go_is _ _ _ cy10 E2.out.2 E.out.2 (by omega)).mono ?_
    rintro e w12 ⟨rfl, cy12, s12⟩
    go_wp2_with fail
    refine (mono_any gy _ _ cy12).mono ?_
    rintro e w13 ⟨rfl, rfl⟩
    go_wp2_with fail
    go_ret
    have t8 := (t4.trans s6).trans s8
    have t9 := t8.trans s9
    refine ⟨rfl, (t9.far s10 (.inr ?_)).far s12 (.inr ?_)⟩
    · exact Nat.le_trans (t4.trans s6).size hgx
    · exact Nat.le_trans t8.size hgy
  · obtain rfl : a = 0 := by omega
    have hlt := lt_of_at b4
    have hg0 : (MS.mk d m q y false).gain 0 = 0 := by
      have := E.out.2.rest0
      have := E.out.2.rest1
      simp only at *
      unfold MS.gain
      simp only
      omega
    have e1 := go_plain E.out.2 rfl ⟨by omega, by omega⟩ (d := 0) (by rw [hg0]; simp only; omega) (by simp only; omega)
    rw [hg0] at e1
    generalize (MS.mk d m q y false).left 0 = lu at *
    simp only [Int.add_zero] at e1
    rw [Int.add_zero]
    have E2 := Lib.hid e1
    clear e1 hg0
    refine (until_past ga _ m _ b4 rfl (by simp only; omega)).mono ?_
    rintro e w6 ⟨rfl, s6⟩
    have b6 := s6.at b4 (by simp)
    go_wp2_with fail
    refine (mono_any ga _ _ b6).mono ?_
    rintro e w7 ⟨rfl, rfl⟩
    go_wp2_with fail
    refine (copy_any ga _ _ b6).mono ?_
    rintro e w8 ⟨gx, rfl, cx8, s8, hgx⟩
    have b8 := s8.at b6 (by simp)
    go_wp2_with fail
    refine (copy_any ga _ _ b8).mono ?_
    rintro e w9 ⟨gy, rfl, cy9, s9, hgy⟩
    have cx9 := s9.at cx8 (by simp)
    go_wp2_with fail
    refine (go_is _ _ _ cx9 E2.out E.out.2 (by omega)).mono ?_
    rintro e w10 ⟨rfl, cx10, s10⟩
    go_wp2_with fail
    refine (mono_any gx _ _ cx10).mono ?_
    rintro e w11 ⟨rfl, rfl⟩
    go_wp2_with fail
    go_ret
    have t8 := (t4.trans s6).trans s8
    have t9 := t8.trans s9
    refine ⟨rfl, (t9.far s10 (.inr ?_))⟩
    exact Nat.le_trans (t4.trans s6).size hgx
end Go.Proofs.Ytmfjknpkogebmaa
