/- wall: Rate and Slewed. -/
import Derived.Test.YtkohpeonnoegpaaFix
import Derived.Laws.ResultCell
import Derived.Outline
namespace Go.Proofs.Ytkohpeonnoegpaa
open Go.RowKit
set_option linter.unusedVariables false
set_option linter.unusedSimpArgs false

def timeS (n : Int) : Int := clampS n 0 4611686018427387904
theorem timeS_bd (n : Int) : 0 ≤ timeS n ∧ timeS n ≤ 4611686018427387904 := by unfold timeS clampS; (repeat' split) <;> omega
theorem time_any (n : Int) (w : World) : Calls Try.prog 39 #[.int .i64 n] w fun e w' => e = .returned (.int .i64 (timeS n)) ∧ w' = w := by
  go_enter Try.func39, Try.ntmps39
  go_wp2_with fail
  refine (clamp_any n 0 4611686018427387904 _).mono ?_
  rintro e w1 ⟨rfl, rfl⟩
  go_wp2_with fail
  go_ret
  exact ⟨rfl, rfl⟩
def ableS (n : Int) : Int := clampS n (-500000) 500000
theorem ableS_bd (n : Int) : -500000 ≤ ableS n ∧ ableS n ≤ 500000 := by unfold ableS clampS; (repeat' split) <;> omega
theorem able_any (n : Int) (w : World) : Calls Try.prog 40 #[.int .i64 n] w fun e w' => e = .returned (.int .i64 (ableS n)) ∧ w' = w := by
  go_enter Try.func40, Try.ntmps40
  go_wp2_with fail
  refine (clamp_any n (-500000) 500000 _).mono ?_
  rintro e w1 ⟨rfl, rfl⟩
  go_wp2_with fail
  go_ret
  exact ⟨rfl, rfl⟩

def rateS (a s : Int) : Int :=
  if timeS s = 0 then 0
  else if a < 0 then (if (mulDivS false a 1000000000 (timeS s)).2 = 0 then ableS (mulDivS false a 1000000000 (timeS s)).1 else -500000)
  else (if (mulDivS true a 1000000000 (timeS s)).2 = 0 then ableS (mulDivS true a 1000000000 (timeS s)).1 else 500000)
theorem rate_any (a s : Int) (w : World) (ha : -9223372036854775808 ≤ a ∧ a ≤ 9223372036854775807) (hs : -9223372036854775808 ≤ s ∧ s ≤ 9223372036854775807) :
    Calls Try.prog 29 #[.int .i64 a, .int .i64 s] w fun e w' => e = .returned (.int .i64 (rateS a s)) ∧ Stp [] w w' := by
  have t1 := fun w => time_any s w
  obtain ⟨t2, t3⟩ := timeS_bd s
  unfold rateS
  generalize timeS s = t at *
  by_cases h0 : t = 0
  · subst h0
    rw [if_pos rfl]
    go_enter Try.func29, Try.ntmps29
    go_wp2_with fail
    refine (t1 _).mono ?_
    rintro e w1 ⟨rfl, rfl⟩
    go_wp2_with fail
    go_ret
    exact ⟨rfl, Stp.refl _ _⟩
  · rw [if_neg h0]
    have h0b : (t == 0) = false := by simpa using h0
    clear h0
    by_cases hn : a < 0
    · rw [if_pos hn]
      have m1 := fun w => muldiv_any a 1000000000 t w ha (by decide) (by omega)
      generalize mulDivS false a 1000000000 t = q at *
      obtain ⟨q, er⟩ := q
      simp only at m1
      have a1 := fun w => able_any q w
      have M := Lib.hid (And.intro t1 (And.intro m1 a1))
      clear t1 m1 a1
      by_cases he : er = 0
      · subst he
        rw [if_pos rfl]
        go_enter Try.func29, Try.ntmps29
        go_wp2_with fail
        refine (M.out.1 _).mono ?_
        rintro e w1 ⟨rfl, rfl⟩
        go_wp2_with fail
        refine (M.out.2.1 _).mono ?_
        rintro e w2 ⟨rfl, s2⟩
        go_wp2_with fail
        refine (M.out.2.2 _).mono ?_
        rintro e w3 ⟨rfl, rfl⟩
        go_wp2_with fail
        go_ret
        exact ⟨rfl, s2⟩
      · rw [if_neg he]
        have heb : (er == 0) = false := by simpa using he
        clear he
        go_enter Try.func29, Try.ntmps29
        go_wp2_with fail
        refine (M.out.1 _).mono ?_
        rintro e w1 ⟨rfl, rfl⟩
        go_wp2_with fail
        refine (M.out.2.1 _).mono ?_
        rintro e w2 ⟨rfl, s2⟩
        go_wp2_with fail
        go_ret
        exact ⟨rfl, s2⟩
    · rw [if_neg hn]
      have m1 := fun w => muldivup_any a 1000000000 t w ha (by decide) (by omega)
      generalize mulDivS true a 1000000000 t = q at *
      obtain ⟨q, er⟩ := q
      simp only at m1
      have a1 := fun w => able_any q w
      have M := Lib.hid (And.intro t1 (And.intro m1 a1))
      clear t1 m1 a1
      by_cases he : er = 0
      · subst he
        rw [if_pos rfl]
        go_enter Try.func29, Try.ntmps29
        go_wp2_with fail
        refine (M.out.1 _).mono ?_
        rintro e w1 ⟨rfl, rfl⟩
        go_wp2_with fail
        refine (M.out.2.1 _).mono ?_
        rintro e w2 ⟨rfl, s2⟩
        go_wp2_with fail
        refine (M.out.2.2 _).mono ?_
        rintro e w3 ⟨rfl, rfl⟩
        go_wp2_with fail
        go_ret
        exact ⟨rfl, s2⟩
      · rw [if_neg he]
        have heb : (er == 0) = false := by simpa using he
        clear he
        go_enter Try.func29, Try.ntmps29
        go_wp2_with fail
        refine (M.out.1 _).mono ?_
        rintro e w1 ⟨rfl, rfl⟩
        go_wp2_with fail
        refine (M.out.2.1 _).mono ?_
        rintro e w2 ⟨rfl, s2⟩
        go_wp2_with fail
        go_ret
        exact ⟨rfl, s2⟩

def slewedS (r s : Int) : Int := timeS s * ableS r / 1000000000
theorem slewed_any (r s : Int) (w : World) :
    Calls Try.prog 25 #[.int .i64 r, .int .i64 s] w fun e w' => e = .returned (.int .i64 (slewedS r s)) ∧ Stp [] w w' := by
  have t1 := fun w => time_any s w
  have t4 := fun w => able_any r w
  obtain ⟨t2, t3⟩ := timeS_bd s
  obtain ⟨t5, t6⟩ := ableS_bd r
  unfold slewedS
  generalize timeS s = t at *
  generalize ableS r = q at *
  have m1 := fun w => muldiv_any t q 1000000000 w (by omega) (by omega) (by decide)
  have h1 : t * q ≤ t * 500000 := Int.mul_le_mul_of_nonneg_left t6 t2
  have h2 : t * (-500000) ≤ t * q := Int.mul_le_mul_of_nonneg_left t5 t2
  have e : mulDivS false t q 1000000000 = (t * q / 1000000000, 0) := by
    unfold mulDivS
    rw [if_neg (by decide)]
    simp only [Bool.false_eq_true, if_false]
    rw [if_pos (by omega)]
  rw [e] at m1
  have M := Lib.hid (And.intro t1 (And.intro t4 m1))
  clear t1 m1 t4 e h1 h2
  go_enter Try.func25, Try.ntmps25
  go_wp2_with fail
  refine (M.out.1 _).mono ?_
  rintro e w1 ⟨rfl, rfl⟩
  go_wp2_with fail
  refine (M.out.2.1 _).mono ?_
  rintro e w2 ⟨rfl, rfl⟩
  go_wp2_with fail
  refine (M.out.2.2 _).mono ?_
  rintro e w3 ⟨rfl, s3⟩
  go_wp2_with fail
  go_ret
  exact ⟨rfl, s3⟩

end Go.Proofs.Ytkohpeonnoegpaa
