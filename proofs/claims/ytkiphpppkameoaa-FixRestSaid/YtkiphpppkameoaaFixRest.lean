/- FixRest's walk. -/
import Derived.Test.YtkiphpppkameoaaFixSub
import Derived.Outline
namespace Go.Proofs.Ytkiphpppkameoaa
open Go.RowKit
set_option linter.unusedVariables false
set_option linter.unusedSimpArgs false

theorem rest_neg (a b c : Int) (w : World) (ha : -9223372036854775808 ≤ a ∧ a ≤ 9223372036854775807) (hb : -9223372036854775808 ≤ b ∧ b ≤ 9223372036854775807) (hc : -9223372036854775808 ≤ c ∧ c ≤ 9223372036854775807) (h : c ≤ 0) :
    Calls Try.prog 5 #[.int .i64 a, .int .i64 b, .int .i64 c] w fun e w' => e = .returned (.bool true) ∧ Stp [] w w' := by
  have m1 := fun w => muldiv_any a b c w ha hb hc
  have m2 := fun w => muldivup_any a b c w ha hb hc
  have e1 : ∀ u, mulDivS u a b c = (0, 1) := fun u => by unfold mulDivS; rw [if_pos h]
  rw [e1] at m1 m2
  have M := Lib.hid (And.intro m1 m2)
  clear m1 m2 e1
  go_enter Try.func5, Try.ntmps5
  go_wp2_with fail
  refine (M.out.1 _).mono ?_
  rintro e w1 ⟨rfl, s1⟩
  go_wp2_with fail
  refine (M.out.2 _).mono ?_
  rintro e w2 ⟨rfl, s2⟩
  go_wp2_with fail
  refine (awake_holds _).mono ?_
  rintro e w3 ⟨rfl, s3⟩
  go_wp2_with fail
  go_ret
  exact ⟨rfl, (s1.trans s2).trans s3⟩
/-- The quotients of a product, down, up, and of its opposite. -/
theorem rest_facts (a b c : Int) (h : 0 < c) : ∃ F R U, a * b = F * c + R ∧ 0 ≤ R ∧ R < c ∧ (R = 0 ∧ U = F ∨ 0 < R ∧ U = F + 1) ∧
    mulDivS false a b c = (if -9223372036854775808 ≤ F ∧ F ≤ 9223372036854775807 then (F, 0) else (0, 20)) ∧
    mulDivS true a b c = (if -9223372036854775808 ≤ U ∧ U ≤ 9223372036854775807 then (U, 0) else (0, 20)) ∧
    mulDivS false (-a) b c = (if -9223372036854775808 ≤ -U ∧ -U ≤ 9223372036854775807 then (-U, 0) else (0, 20)) := by
  have hc := ceil_eq (a * b) c h
  have h1 := Int.mul_ediv_add_emod (a * b) c
  have h2 := Int.emod_nonneg (a * b) (show c ≠ 0 by omega)
  have h3 := Int.emod_lt_of_pos (a * b) h
  refine ⟨a * b / c, a * b % c, a * b / c + (if a * b % c > 0 then 1 else 0), by rw [Int.mul_comm (a * b / c) c]; omega, h2, h3, ?_, ?_, ?_, ?_⟩
  · split <;> omega
  · unfold mulDivS; rw [if_neg (by omega)]; simp only [Bool.false_eq_true, if_false]
  · unfold mulDivS; rw [if_neg (by omega)]; simp only [if_true]; rw [hc, Int.neg_neg]
  · unfold mulDivS; rw [if_neg (by omega)]; simp only [Bool.false_eq_true, if_false]; rw [Int.neg_mul, hc]
/-- The difference of two products, in two words each. -/
theorem rest_words (P Q R : Int) (h : P = Q + R) (h0 : 0 ≤ R) (h1 : R < 9223372036854775808) :
    (P % 18446744073709551616 - Q % 18446744073709551616 - 0) % 18446744073709551616 = R ∧ (P / 18446744073709551616 % 18446744073709551616 - Q / 18446744073709551616 % 18446744073709551616 - borS (P % 18446744073709551616) (Q % 18446744073709551616) 0) % 18446744073709551616 = 0 := by
  unfold borS
  subst h
  constructor
  · omega
  · split <;> omega

set_option maxRecDepth 100000 in
set_option maxHeartbeats 4000000 in
theorem rest_pos (a b c : Int) (w : World) (ha : -9223372036854775808 ≤ a ∧ a ≤ 9223372036854775807) (hb : -9223372036854775808 ≤ b ∧ b ≤ 9223372036854775807) (hc : -9223372036854775808 ≤ c ∧ c ≤ 9223372036854775807) (h : 0 < c) :
    Calls Try.prog 5 #[.int .i64 a, .int .i64 b, .int .i64 c] w fun e w' => e = .returned (.bool true) ∧ Stp [] w w' := by
  obtain ⟨F, R, U, hP, hR0, hR1, hU, e1, e2, e3⟩ := rest_facts a b c h
  have m1 := fun w => muldiv_any a b c w ha hb hc
  have m2 := fun w => muldivup_any a b c w ha hb hc
  have m3 := fun w (h : a ≠ -9223372036854775808) => muldiv_any (-a) b c w (by omega) hb hc
  rw [e1] at m1
  rw [e2] at m2
  rw [e3] at m3
  by_cases hF : -9223372036854775808 ≤ F ∧ F ≤ 9223372036854775807
  · have w1 := fun w => wide_any a b w ha hb
    have w2 := fun w => wide_any F c w hF hc
    obtain ⟨d1, d2⟩ := rest_words (a * b) (F * c) R hP hR0 (by omega)
    rw [if_pos hF] at m1
    have pl0 : 0 ≤ a * b % 18446744073709551616 ∧ a * b % 18446744073709551616 ≤ 18446744073709551615 := by omega
    have ql0 : 0 ≤ F * c % 18446744073709551616 ∧ F * c % 18446744073709551616 ≤ 18446744073709551615 := by omega
    have ph0 : 0 ≤ a * b / 18446744073709551616 % 18446744073709551616 ∧ a * b / 18446744073709551616 % 18446744073709551616 ≤ 18446744073709551615 := by omega
    have qh0 : 0 ≤ F * c / 18446744073709551616 % 18446744073709551616 ∧ F * c / 18446744073709551616 % 18446744073709551616 ≤ 18446744073709551615 := by omega
    clear hP e1 e2 e3
    generalize a * b / 18446744073709551616 % 18446744073709551616 = ph at *
    generalize F * c / 18446744073709551616 % 18446744073709551616 = qh at *
    generalize a * b % 18446744073709551616 = pl at *
    generalize F * c % 18446744073709551616 = ql at *
    have k1 := fun w => sub64_int pl ql 0 pl0 ql0 (.inl rfl) w
    have k2 := fun w => sub64_int ph qh (borS pl ql 0) ph0 qh0 (by unfold borS; split <;> simp) w
    rw [d1] at k1
    rw [d2] at k2
    generalize borS pl ql 0 = bo at *
    have W1 := Lib.hid w1
    have W2 := Lib.hid w2
    clear w1 w2 d1 d2 pl0 ql0 ph0 qh0
    have hcu : IntKind.u64.wrap c = c := by rw [wrap_u64]; omega
    obtain ⟨hF0, hF1⟩ := hF
    rcases hU with ⟨rfl, rfl⟩ | ⟨hRp, rfl⟩
    · rw [if_pos (by omega)] at m2
      by_cases hn : U = -9223372036854775808
      · rw [if_neg (by omega)] at m3
        subst hn
        have m1 := Lib.hid m1
        have m2 := Lib.hid m2
        have m3 := Lib.hid m3
        by_cases ha0 : a = -9223372036854775808
        · subst ha0
          go_enter Try.func5, Try.ntmps5
          go_wp2_with fail
          refine (m1.out _).mono ?_
          rintro e w1 ⟨rfl, s1⟩
          go_wp2_with fail
          refine (m2.out _).mono ?_
          rintro e w2 ⟨rfl, s2⟩
          go_wp2_with fail
          refine (W1.out _).mono ?_
          rintro e w3 ⟨rfl, rfl⟩
          go_wp2_with fail
          refine (W2.out _).mono ?_
          rintro e w3 ⟨rfl, rfl⟩
          go_wp2_with fail
          refine (awake_holds _).mono ?_
          rintro e w5 ⟨rfl, s5⟩
          go_wp2_with fail
          go_ret
          exact ⟨rfl, (s1.trans s2).trans s5⟩
        · have ha1 : (a != -9223372036854775808) = true := by simpa using ha0
          have ha2 : -9223372036854775807 ≤ a := by omega
          have HA := Lib.hid ha0
          clear ha0
          go_enter Try.func5, Try.ntmps5
          go_wp2_with fail
          refine (m1.out _).mono ?_
          rintro e w1 ⟨rfl, s1⟩
          go_wp2_with fail
          refine (m2.out _).mono ?_
          rintro e w2 ⟨rfl, s2⟩
          go_wp2_with fail
          refine (W1.out _).mono ?_
          rintro e w3 ⟨rfl, rfl⟩
          go_wp2_with fail
          refine (W2.out _).mono ?_
          rintro e w3 ⟨rfl, rfl⟩
          go_wp2_with fail
          refine (m3.out _ HA.out).mono ?_
          rintro e w4 ⟨rfl, s4⟩
          go_wp2_with fail
          refine (awake_holds _).mono ?_
          rintro e w5 ⟨rfl, s5⟩
          go_wp2_with fail
          go_ret
          exact ⟨rfl, ((s1.trans s2).trans s4).trans s5⟩
      · rw [if_pos (by omega)] at m3
        have hn1 : (-U == -9223372036854775808) = false := by simp; omega
        have hn2 : (-U != -9223372036854775808) = true := by simp; omega
        clear hn
        have m1 := Lib.hid m1
        have m2 := Lib.hid m2
        have m3 := Lib.hid m3
        by_cases ha0 : a = -9223372036854775808
        · subst ha0
          go_enter Try.func5, Try.ntmps5
          go_wp2_with fail
          refine (m1.out _).mono ?_
          rintro e w1 ⟨rfl, s1⟩
          go_wp2_with fail
          refine (m2.out _).mono ?_
          rintro e w2 ⟨rfl, s2⟩
          go_wp2_with fail
          refine (W1.out _).mono ?_
          rintro e w3 ⟨rfl, rfl⟩
          go_wp2_with fail
          refine (W2.out _).mono ?_
          rintro e w3 ⟨rfl, rfl⟩
          go_wp2_with fail
          refine (awake_holds _).mono ?_
          rintro e w5 ⟨rfl, s5⟩
          go_wp2_with fail
          go_ret
          exact ⟨rfl, (s1.trans s2).trans s5⟩
        · have ha1 : (a != -9223372036854775808) = true := by simpa using ha0
          have ha2 : -9223372036854775807 ≤ a := by omega
          have HA := Lib.hid ha0
          clear ha0
          go_enter Try.func5, Try.ntmps5
          go_wp2_with fail
          refine (m1.out _).mono ?_
          rintro e w1 ⟨rfl, s1⟩
          go_wp2_with fail
          refine (m2.out _).mono ?_
          rintro e w2 ⟨rfl, s2⟩
          go_wp2_with fail
          refine (W1.out _).mono ?_
          rintro e w3 ⟨rfl, rfl⟩
          go_wp2_with fail
          refine (W2.out _).mono ?_
          rintro e w3 ⟨rfl, rfl⟩
          go_wp2_with fail
          refine (m3.out _ HA.out).mono ?_
          rintro e w4 ⟨rfl, s4⟩
          go_wp2_with fail
          refine (awake_holds _).mono ?_
          rintro e w5 ⟨rfl, s5⟩
          go_wp2_with fail
          go_ret
          exact ⟨rfl, ((s1.trans s2).trans s4).trans s5⟩
    · have hR1' : (R == 0) = false := by simp; omega
      by_cases hmax : F = 9223372036854775807
      · rw [if_neg (by omega)] at m2
        rw [if_pos (by omega)] at m3
        subst hmax
        have m1 := Lib.hid m1
        have m2 := Lib.hid m2
        have m3 := Lib.hid m3
        by_cases ha0 : a = -9223372036854775808
        · subst ha0
          go_enter Try.func5, Try.ntmps5
          go_wp2_with fail
          refine (m1.out _).mono ?_
          rintro e w1 ⟨rfl, s1⟩
          go_wp2_with fail
          refine (m2.out _).mono ?_
          rintro e w2 ⟨rfl, s2⟩
          go_wp2_with fail
          refine (W1.out _).mono ?_
          rintro e w3 ⟨rfl, rfl⟩
          go_wp2_with fail
          refine (W2.out _).mono ?_
          rintro e w3 ⟨rfl, rfl⟩
          go_wp2_with fail
          refine (awake_holds _).mono ?_
          rintro e w5 ⟨rfl, s5⟩
          go_wp2_with fail
          go_ret
          exact ⟨rfl, (s1.trans s2).trans s5⟩
        · have ha1 : (a != -9223372036854775808) = true := by simpa using ha0
          have ha2 : -9223372036854775807 ≤ a := by omega
          have HA := Lib.hid ha0
          clear ha0
          go_enter Try.func5, Try.ntmps5
          go_wp2_with fail
          refine (m1.out _).mono ?_
          rintro e w1 ⟨rfl, s1⟩
          go_wp2_with fail
          refine (m2.out _).mono ?_
          rintro e w2 ⟨rfl, s2⟩
          go_wp2_with fail
          refine (W1.out _).mono ?_
          rintro e w3 ⟨rfl, rfl⟩
          go_wp2_with fail
          refine (W2.out _).mono ?_
          rintro e w3 ⟨rfl, rfl⟩
          go_wp2_with fail
          refine (m3.out _ HA.out).mono ?_
          rintro e w4 ⟨rfl, s4⟩
          go_wp2_with fail
          refine (awake_holds _).mono ?_
          rintro e w5 ⟨rfl, s5⟩
          go_wp2_with fail
          go_ret
          exact ⟨rfl, ((s1.trans s2).trans s4).trans s5⟩
      · rw [if_pos (by omega)] at m2
        have hq1 : (F + 1 == F) = false := by simp; omega
        have hmax' : F < 9223372036854775807 := by omega
        clear hmax
        by_cases hn : F + 1 = -9223372036854775808
        · omega
        · rw [if_pos (by omega)] at m3
          have hn1 : (-(F + 1) == -9223372036854775808) = false := by simp; omega
          have hn2 : (-(F + 1) != -9223372036854775808) = true := by simp; omega
          clear hn
          have m1 := Lib.hid m1
          have m2 := Lib.hid m2
          have m3 := Lib.hid m3
          by_cases ha0 : a = -9223372036854775808
          · subst ha0
            go_enter Try.func5, Try.ntmps5
            go_wp2_with fail
            refine (m1.out _).mono ?_
            rintro e w1 ⟨rfl, s1⟩
            go_wp2_with fail
            refine (m2.out _).mono ?_
            rintro e w2 ⟨rfl, s2⟩
            go_wp2_with fail
            refine (W1.out _).mono ?_
            rintro e w3 ⟨rfl, rfl⟩
            go_wp2_with fail
            refine (W2.out _).mono ?_
            rintro e w3 ⟨rfl, rfl⟩
            go_wp2_with fail
            refine (awake_holds _).mono ?_
            rintro e w5 ⟨rfl, s5⟩
            go_wp2_with fail
            go_ret
            exact ⟨rfl, (s1.trans s2).trans s5⟩
          · have ha1 : (a != -9223372036854775808) = true := by simpa using ha0
            have ha2 : -9223372036854775807 ≤ a := by omega
            have HA := Lib.hid ha0
            clear ha0
            go_enter Try.func5, Try.ntmps5
            go_wp2_with fail
            refine (m1.out _).mono ?_
            rintro e w1 ⟨rfl, s1⟩
            go_wp2_with fail
            refine (m2.out _).mono ?_
            rintro e w2 ⟨rfl, s2⟩
            go_wp2_with fail
            refine (W1.out _).mono ?_
            rintro e w3 ⟨rfl, rfl⟩
            go_wp2_with fail
            refine (W2.out _).mono ?_
            rintro e w3 ⟨rfl, rfl⟩
            go_wp2_with fail
            refine (m3.out _ HA.out).mono ?_
            rintro e w4 ⟨rfl, s4⟩
            go_wp2_with fail
            refine (awake_holds _).mono ?_
            rintro e w5 ⟨rfl, s5⟩
            go_wp2_with fail
            go_ret
            exact ⟨rfl, ((s1.trans s2).trans s4).trans s5⟩
  · rw [if_neg hF] at m1
    have W1 := Lib.hid (fun w => wide_any a b w ha hb)
    clear hP e1 e2 e3
    by_cases hU2 : U = -9223372036854775808
    · rw [if_pos (by omega)] at m2
      rw [if_neg (by omega)] at m3
      clear hF hU
      have m1 := Lib.hid m1
      have m2 := Lib.hid m2
      have m3 := Lib.hid m3
      by_cases ha0 : a = -9223372036854775808
      · subst ha0
        go_enter Try.func5, Try.ntmps5
        go_wp2_with fail
        refine (m1.out _).mono ?_
        rintro e w1 ⟨rfl, s1⟩
        go_wp2_with fail
        refine (m2.out _).mono ?_
        rintro e w2 ⟨rfl, s2⟩
        go_wp2_with fail
        refine (W1.out _).mono ?_
        rintro e w3 ⟨rfl, rfl⟩
        go_wp2_with fail
        refine (awake_holds _).mono ?_
        rintro e w5 ⟨rfl, s5⟩
        go_wp2_with fail
        go_ret
        exact ⟨rfl, (s1.trans s2).trans s5⟩
      · have ha1 : (a != -9223372036854775808) = true := by simpa using ha0
        have ha2 : -9223372036854775807 ≤ a := by omega
        have HA := Lib.hid ha0
        clear ha0
        go_enter Try.func5, Try.ntmps5
        go_wp2_with fail
        refine (m1.out _).mono ?_
        rintro e w1 ⟨rfl, s1⟩
        go_wp2_with fail
        refine (m2.out _).mono ?_
        rintro e w2 ⟨rfl, s2⟩
        go_wp2_with fail
        refine (W1.out _).mono ?_
        rintro e w3 ⟨rfl, rfl⟩
        go_wp2_with fail
        refine (m3.out _ HA.out).mono ?_
        rintro e w4 ⟨rfl, s4⟩
        go_wp2_with fail
        refine (awake_holds _).mono ?_
        rintro e w5 ⟨rfl, s5⟩
        go_wp2_with fail
        go_ret
        exact ⟨rfl, ((s1.trans s2).trans s4).trans s5⟩
    · rw [if_neg (by omega)] at m2
      by_cases hU3 : U = 9223372036854775808
      · rw [if_pos (by omega)] at m3
        subst hU3
        clear hF hU hU2
        have m1 := Lib.hid m1
        have m2 := Lib.hid m2
        have m3 := Lib.hid m3
        by_cases ha0 : a = -9223372036854775808
        · subst ha0
          go_enter Try.func5, Try.ntmps5
          go_wp2_with fail
          refine (m1.out _).mono ?_
          rintro e w1 ⟨rfl, s1⟩
          go_wp2_with fail
          refine (m2.out _).mono ?_
          rintro e w2 ⟨rfl, s2⟩
          go_wp2_with fail
          refine (W1.out _).mono ?_
          rintro e w3 ⟨rfl, rfl⟩
          go_wp2_with fail
          refine (awake_holds _).mono ?_
          rintro e w5 ⟨rfl, s5⟩
          go_wp2_with fail
          go_ret
          exact ⟨rfl, (s1.trans s2).trans s5⟩
        · have ha1 : (a != -9223372036854775808) = true := by simpa using ha0
          have ha2 : -9223372036854775807 ≤ a := by omega
          have HA := Lib.hid ha0
          clear ha0
          go_enter Try.func5, Try.ntmps5
          go_wp2_with fail
          refine (m1.out _).mono ?_
          rintro e w1 ⟨rfl, s1⟩
          go_wp2_with fail
          refine (m2.out _).mono ?_
          rintro e w2 ⟨rfl, s2⟩
          go_wp2_with fail
          refine (W1.out _).mono ?_
          rintro e w3 ⟨rfl, rfl⟩
          go_wp2_with fail
          refine (m3.out _ HA.out).mono ?_
          rintro e w4 ⟨rfl, s4⟩
          go_wp2_with fail
          refine (awake_holds _).mono ?_
          rintro e w5 ⟨rfl, s5⟩
          go_wp2_with fail
          go_ret
          exact ⟨rfl, ((s1.trans s2).trans s4).trans s5⟩
      · rw [if_neg (by omega)] at m3
        clear hF hU hU2 hU3
        have m1 := Lib.hid m1
        have m2 := Lib.hid m2
        have m3 := Lib.hid m3
        by_cases ha0 : a = -9223372036854775808
        · subst ha0
          go_enter Try.func5, Try.ntmps5
          go_wp2_with fail
          refine (m1.out _).mono ?_
          rintro e w1 ⟨rfl, s1⟩
          go_wp2_with fail
          refine (m2.out _).mono ?_
          rintro e w2 ⟨rfl, s2⟩
          go_wp2_with fail
          refine (W1.out _).mono ?_
          rintro e w3 ⟨rfl, rfl⟩
          go_wp2_with fail
          refine (awake_holds _).mono ?_
          rintro e w5 ⟨rfl, s5⟩
          go_wp2_with fail
          go_ret
          exact ⟨rfl, (s1.trans s2).trans s5⟩
        · have ha1 : (a != -9223372036854775808) = true := by simpa using ha0
          have ha2 : -9223372036854775807 ≤ a := by omega
          have HA := Lib.hid ha0
          clear ha0
          go_enter Try.func5, Try.ntmps5
          go_wp2_with fail
          refine (m1.out _).mono ?_
          rintro e w1 ⟨rfl, s1⟩
          go_wp2_with fail
          refine (m2.out _).mono ?_
          rintro e w2 ⟨rfl, s2⟩
          go_wp2_with fail
          refine (W1.out _).mono ?_
          rintro e w3 ⟨rfl, rfl⟩
          go_wp2_with fail
          refine (m3.out _ HA.out).mono ?_
          rintro e w4 ⟨rfl, s4⟩
          go_wp2_with fail
          refine (awake_holds _).mono ?_
          rintro e w5 ⟨rfl, s5⟩
          go_wp2_with fail
          go_ret
          exact ⟨rfl, ((s1.trans s2).trans s4).trans s5⟩

theorem fixRest_walk (a b c : Int) (w : World) (ha : -9223372036854775808 ≤ a ∧ a ≤ 9223372036854775807) (hb : -9223372036854775808 ≤ b ∧ b ≤ 9223372036854775807) (hc : -9223372036854775808 ≤ c ∧ c ≤ 9223372036854775807) :
    Calls Try.prog 5 #[.int .i64 a, .int .i64 b, .int .i64 c] w fun e w' => e = .returned (.bool true) ∧ Stp [] w w' := by
  by_cases h : 0 < c
  · exact rest_pos a b c w ha hb hc h
  · exact rest_neg a b c w ha hb hc (by omega)
end Go.Proofs.Ytkiphpppkameoaa
