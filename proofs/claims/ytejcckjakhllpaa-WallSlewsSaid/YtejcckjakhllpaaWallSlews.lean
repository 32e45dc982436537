/- WallSlews' walk. -/
import Derived.Test.YtejcckjakhllpaaWallSlw0
import Derived.Outline
namespace Go.Proofs.Ytejcckjakhllpaa
open Go.RowKit
set_option linter.unusedVariables false
set_option linter.unusedSimpArgs false

set_option maxRecDepth 100000 in
set_option maxHeartbeats 4000000 in
theorem wallSlews_walk (a0 s0 m0 : Int) (w : World) (ha : -9223372036854775808 ≤ a0 ∧ a0 ≤ 9223372036854775807) (hs : -9223372036854775808 ≤ s0 ∧ s0 ≤ 9223372036854775807) (hm : -9223372036854775808 ≤ m0 ∧ m0 ≤ 9223372036854775807) :
    Calls Try.prog 5 #[.int .i64 a0, .int .i64 s0, .int .i64 m0] w fun e w' => e = .returned (.bool true) ∧ Stp [] w w' := by
  obtain ⟨a, hat⟩ : ∃ a, a0.tmod 1125899906842624 = a := ⟨_, rfl⟩
  have a1 : -1125899906842624 < a := by rw [← hat]; exact Int.lt_tmod_of_pos a0 (by decide)
  have a2 : a < 1125899906842624 := by rw [← hat]; exact Int.tmod_lt_of_pos a0 (by decide)
  have k1 := i64_mask50 s0
  have k2 := i64_mask50 m0
  have p1 : 0 ≤ s0 % 1125899906842624 ∧ s0 % 1125899906842624 < 1125899906842624 := by omega
  have p2 : 0 ≤ m0 % 1125899906842624 ∧ m0 % 1125899906842624 < 1125899906842624 := by omega
  generalize s0 % 1125899906842624 = s' at *
  generalize m0 % 1125899906842624 = m at *
  obtain ⟨p3, p4⟩ := p1
  obtain ⟨p5, p6⟩ := p2
  obtain ⟨r, d, hr, hd, hd2, r0, r1, hcase⟩ := rate_facts a (1 + s') (by omega) ⟨a1, a2⟩
  have c1 := fun w => rate_any a (1 + s') w (by omega) (by omega)
  rw [hr] at c1
  have c2 := fun w => slewed_any r (1 + s') w
  rw [hd] at c2
  have c3 := fun w => slewed_any r (1 + s' + m) w
  rw [slewedS_id r (1 + s' + m) ⟨r0, r1⟩ (by omega)] at c3
  have c4 := fun w => slewed_any r m w
  rw [slewedS_id r m ⟨r0, r1⟩ (by omega)] at c4
  have hb := both_facts r (1 + s') m
  rw [← hd2] at hb
  have b1 := slew_bd r (1 + s' + m) ⟨r0, r1⟩ (by omega)
  have b2 := slew_bd r m ⟨r0, r1⟩ (by omega)
  have b3 := slew_bd r (1 + s') ⟨r0, r1⟩ (by omega)
  rw [← hd2] at b3
  generalize (1 + s' + m) * r / 1000000000 = x at *
  generalize m * r / 1000000000 = y at *
  have c5 := fun w => slewed_any 0 (1 + s') w
  rw [slewedS_id 0 (1 + s') (by decide) (by omega), Int.mul_zero] at c5
  have c6 := fun w => slewed_any r 0 w
  rw [slewedS_id r 0 ⟨r0, r1⟩ (by decide), Int.zero_mul] at c6
  have c7 := fun w => rate_any a 0 w (by omega) (by decide)
  have e7 : rateS a 0 = 0 := by unfold rateS; rw [if_pos (by decide)]
  rw [e7] at c7
  have C := Lib.hid (And.intro c1 (And.intro c2 (And.intro c3 (And.intro c4 (And.intro c5 (And.intro c6 c7))))))
  clear c1 c2 c3 c4 c5 c6 c7 hr hd hd2 e7
  obtain ⟨b11, b12⟩ := b1
  obtain ⟨b21, b22⟩ := b2
  obtain ⟨b31, b32⟩ := b3
  have hb2 : x = d + y ∨ ((x == d + y) = false ∧ x = d + y + 1) := by
    rcases hb with h | h
    · exact .inl h
    · exact .inr ⟨by simp; omega, h⟩
  clear hb
  rcases hcase with ⟨h1, h2, h3, h4, h5⟩ | ⟨h1, rfl⟩ | ⟨h1, h2, h3, h4, h5⟩ | ⟨h1, rfl⟩ | ⟨rfl, rfl, rfl⟩
  all_goals
    rcases hb2 with hb2 | ⟨hb2, hb3⟩
    all_goals
      go_enter Try.func5, Try.ntmps5
      go_wp2_with fail
      refine (C.out.1 _).mono ?_
      rintro e w1 ⟨rfl, s1⟩
      go_wp2_with fail
      refine (C.out.2.1 _).mono ?_
      rintro e w2 ⟨rfl, s2⟩
      go_wp2_with fail
      refine (C.out.2.2.1 _).mono ?_
      rintro e w3 ⟨rfl, s3⟩
      go_wp2_with fail
      refine (C.out.2.2.2.1 _).mono ?_
      rintro e w4 ⟨rfl, s4⟩
      go_wp2_with fail
      refine (C.out.2.2.2.2.1 _).mono ?_
      rintro e w5 ⟨rfl, s5⟩
      go_wp2_with fail
      refine (C.out.2.2.2.2.2.1 _).mono ?_
      rintro e w6 ⟨rfl, s6⟩
      go_wp2_with fail
      refine (C.out.2.2.2.2.2.2 _).mono ?_
      rintro e w7 ⟨rfl, s7⟩
      go_wp2_with fail
      refine (alive_any _).mono ?_
      rintro e w8 ⟨rfl, s8⟩
      go_wp2_with fail
      go_ret
      exact ⟨rfl, ((((((s1.trans s2).trans s3).trans s4).trans s5).trans s6).trans s7).trans s8⟩
end Go.Proofs.Ytejcckjakhllpaa
