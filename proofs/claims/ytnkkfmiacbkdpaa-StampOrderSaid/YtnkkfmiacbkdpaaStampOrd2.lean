/- StampOrder's walk, turned. -/
import Derived.Test.YtnkkfmiacbkdpaaStampOrd0
namespace Go.Proofs.Ytnkkfmiacbkdpaa
open Go.RowKit
set_option linter.unusedVariables false
set_option linter.unusedSimpArgs false

set_option maxHeartbeats 4000000 in
theorem order_20 (a b u v : Int) (w : World) (ha : -9223372036854775808 ≤ a ∧ a ≤ 9223372036854775807) (hb : -9223372036854775808 ≤ b ∧ b ≤ 9223372036854775807) (hu : 0 ≤ u ∧ u ≤ 4294967295) (hv : 0 ≤ v ∧ v ≤ 4294967295) (hab : a < b) (hd : (dateS a).era < (dateS b).era) :
    Calls Try.prog 3 #[.int .i64 b, .int .i64 a, .int .u32 u, .int .u32 v] w fun e w' => e = .returned (.bool true) ∧ Stp [] w w' := by
  have dl := hd
  clear hd
  have sl := stamp_lt hab
  have c1 := fun w => nsdate_any a w ha
  have c2 := fun w => nsdate_any b w hb
  have c3 := fun w => nsstamp_any a w ha
  have c4 := fun w => nsstamp_any b w hb
  have c5 := fun w => short_any u w hu
  have c6 := fun w => short_any v w hv
  obtain ⟨p0, p1, p2, p3, p4, p5⟩ := short_facts u hu
  obtain ⟨q0, q1, q2, q3, q4, q5⟩ := short_facts v hv
  have pq := short_lt hu hv
  generalize shortS u = p at *
  generalize shortS v = q at *
  generalize nsStampS a = sa at *
  generalize nsStampS b = sb at *
  generalize dateS a = X at *
  generalize dateS b = Y at *
  obtain ⟨e1, o1, f1⟩ := X
  obtain ⟨e2, o2, f2⟩ := Y
  simp only [DateS.val, DateS.mk.injEq] at dl sl c1 c2
  have c7 := fun w => nsshort_any p w (by omega)
  have c8 := fun w => nsshort_any q w (by omega)
  have c9 := fun w => nsshort_any (p + 1) w (by omega)
  rw [p2] at c7
  rw [q2] at c8
  generalize nsShortS (p + 1) = r at *
  have C := Lib.hid (And.intro c1 (And.intro c2 (And.intro c3 (And.intro c4 (And.intro c5 (And.intro c6 (And.intro c7 (And.intro c8 c9))))))))
  clear c1 c2 c3 c4 c5 c6 c7 c8 c9 p2 q2 q3 q4 q5
  have SL := Lib.hid sl
  obtain ⟨hu0, hu1⟩ := hu
  have hpq : (u < v ∧ p < q) ∨ (¬ u < v ∧ ¬ p < q) := by omega
  have hz : (u = 0 ∧ p = 0) ∨ ((u == 0) = false ∧ (p == 0) = false) := by
    rcases Int.lt_or_le 0 u with h | h
    · right
      have := p5 h
      simp
      omega
    · left
      have : u = 0 := by omega
      exact ⟨this, p4 this⟩
  clear sl pq p4 p5 q0 q1 ha hb hv
  skip
  rcases hpq with ⟨h1, h2⟩ | ⟨h1, h2⟩ <;> rcases hz with ⟨rfl, rfl⟩ | ⟨h3, h4⟩
  all_goals
    go_enter Try.func3, Try.ntmps3
    go_wp2_with fail
    refine (C.out.1 _).mono ?_
    rintro e w1 ⟨rfl, s1⟩
    go_wp2_with fail
    refine (C.out.2.1 _).mono ?_
    rintro e w2 ⟨rfl, s2⟩
    go_wp2_with fail
    refine (C.out.2.2.2.2.1 _).mono ?_
    rintro e w3 ⟨rfl, rfl⟩
    go_wp2_with fail
    refine (C.out.2.2.2.2.2.1 _).mono ?_
    rintro e w3 ⟨rfl, rfl⟩
    go_wp2_with fail
    refine (C.out.2.2.2.2.2.2.1 _).mono ?_
    rintro e w4 ⟨rfl, k1, rfl⟩
    go_wp2_with fail
    refine (C.out.2.2.2.2.2.2.2.1 _).mono ?_
    rintro e w5 ⟨rfl, k2, rfl⟩
    go_wp2_with fail
    refine (C.out.2.2.2.2.2.2.2.2 _).mono ?_
    rintro e w6 ⟨rfl, k3, rfl⟩
    go_wp2_with fail
    refine (wakes_any _).mono ?_
    rintro e w7 ⟨rfl, s7⟩
    go_wp2_with fail
    go_ret
    exact ⟨rfl, (((s1.trans s2).alloc _).alloc _).trans s7.of_drewN⟩

set_option maxHeartbeats 4000000 in
theorem order_21 (a b u v : Int) (w : World) (ha : -9223372036854775808 ≤ a ∧ a ≤ 9223372036854775807) (hb : -9223372036854775808 ≤ b ∧ b ≤ 9223372036854775807) (hu : 0 ≤ u ∧ u ≤ 4294967295) (hv : 0 ≤ v ∧ v ≤ 4294967295) (hab : a < b) (hd : (dateS a).era = (dateS b).era ∧ (dateS a).off < (dateS b).off) :
    Calls Try.prog 3 #[.int .i64 b, .int .i64 a, .int .u32 u, .int .u32 v] w fun e w' => e = .returned (.bool true) ∧ Stp [] w w' := by
  have dl := hd
  clear hd
  have sl := stamp_lt hab
  have c1 := fun w => nsdate_any a w ha
  have c2 := fun w => nsdate_any b w hb
  have c3 := fun w => nsstamp_any a w ha
  have c4 := fun w => nsstamp_any b w hb
  have c5 := fun w => short_any u w hu
  have c6 := fun w => short_any v w hv
  obtain ⟨p0, p1, p2, p3, p4, p5⟩ := short_facts u hu
  obtain ⟨q0, q1, q2, q3, q4, q5⟩ := short_facts v hv
  have pq := short_lt hu hv
  generalize shortS u = p at *
  generalize shortS v = q at *
  generalize nsStampS a = sa at *
  generalize nsStampS b = sb at *
  generalize dateS a = X at *
  generalize dateS b = Y at *
  obtain ⟨e1, o1, f1⟩ := X
  obtain ⟨e2, o2, f2⟩ := Y
  simp only [DateS.val, DateS.mk.injEq] at dl sl c1 c2
  have c7 := fun w => nsshort_any p w (by omega)
  have c8 := fun w => nsshort_any q w (by omega)
  have c9 := fun w => nsshort_any (p + 1) w (by omega)
  rw [p2] at c7
  rw [q2] at c8
  generalize nsShortS (p + 1) = r at *
  have C := Lib.hid (And.intro c1 (And.intro c2 (And.intro c3 (And.intro c4 (And.intro c5 (And.intro c6 (And.intro c7 (And.intro c8 c9))))))))
  clear c1 c2 c3 c4 c5 c6 c7 c8 c9 p2 q2 q3 q4 q5
  have SL := Lib.hid sl
  obtain ⟨hu0, hu1⟩ := hu
  have hpq : (u < v ∧ p < q) ∨ (¬ u < v ∧ ¬ p < q) := by omega
  have hz : (u = 0 ∧ p = 0) ∨ ((u == 0) = false ∧ (p == 0) = false) := by
    rcases Int.lt_or_le 0 u with h | h
    · right
      have := p5 h
      simp
      omega
    · left
      have : u = 0 := by omega
      exact ⟨this, p4 this⟩
  clear sl pq p4 p5 q0 q1 ha hb hv
  skip
  obtain ⟨rfl, ho⟩ := dl
  have hs := SL.out rfl
  have hsd : decide (sb ≤ sa) = false := decide_eq_false (by omega)
  have ho2 : (o1 == o2) = false := by simp; omega
  rcases hpq with ⟨h1, h2⟩ | ⟨h1, h2⟩ <;> rcases hz with ⟨rfl, rfl⟩ | ⟨h3, h4⟩
  all_goals
    go_enter Try.func3, Try.ntmps3
    go_wp2_with fail
    refine (C.out.1 _).mono ?_
    rintro e w1 ⟨rfl, s1⟩
    go_wp2_with fail
    refine (C.out.2.1 _).mono ?_
    rintro e w2 ⟨rfl, s2⟩
    go_wp2_with fail
    refine (C.out.2.2.1 _).mono ?_
    rintro e w3 ⟨rfl, rfl⟩
    go_wp2_with fail
    refine (C.out.2.2.2.1 _).mono ?_
    rintro e w3 ⟨rfl, rfl⟩
    go_wp2_with fail
    refine (C.out.2.2.2.2.1 _).mono ?_
    rintro e w3 ⟨rfl, rfl⟩
    go_wp2_with fail
    refine (C.out.2.2.2.2.2.1 _).mono ?_
    rintro e w3 ⟨rfl, rfl⟩
    go_wp2_with fail
    refine (C.out.2.2.2.2.2.2.1 _).mono ?_
    rintro e w4 ⟨rfl, k1, rfl⟩
    go_wp2_with fail
    refine (C.out.2.2.2.2.2.2.2.1 _).mono ?_
    rintro e w5 ⟨rfl, k2, rfl⟩
    go_wp2_with fail
    refine (C.out.2.2.2.2.2.2.2.2 _).mono ?_
    rintro e w6 ⟨rfl, k3, rfl⟩
    go_wp2_with fail
    refine (wakes_any _).mono ?_
    rintro e w7 ⟨rfl, s7⟩
    go_wp2_with fail
    go_ret
    exact ⟨rfl, (((s1.trans s2).alloc _).alloc _).trans s7.of_drewN⟩

set_option maxHeartbeats 4000000 in
theorem order_22 (a b u v : Int) (w : World) (ha : -9223372036854775808 ≤ a ∧ a ≤ 9223372036854775807) (hb : -9223372036854775808 ≤ b ∧ b ≤ 9223372036854775807) (hu : 0 ≤ u ∧ u ≤ 4294967295) (hv : 0 ≤ v ∧ v ≤ 4294967295) (hab : a < b) (hd : (dateS a).era = (dateS b).era ∧ (dateS a).off = (dateS b).off ∧ (dateS a).frac < (dateS b).frac) :
    Calls Try.prog 3 #[.int .i64 b, .int .i64 a, .int .u32 u, .int .u32 v] w fun e w' => e = .returned (.bool true) ∧ Stp [] w w' := by
  have dl := hd
  clear hd
  have sl := stamp_lt hab
  have c1 := fun w => nsdate_any a w ha
  have c2 := fun w => nsdate_any b w hb
  have c3 := fun w => nsstamp_any a w ha
  have c4 := fun w => nsstamp_any b w hb
  have c5 := fun w => short_any u w hu
  have c6 := fun w => short_any v w hv
  obtain ⟨p0, p1, p2, p3, p4, p5⟩ := short_facts u hu
  obtain ⟨q0, q1, q2, q3, q4, q5⟩ := short_facts v hv
  have pq := short_lt hu hv
  generalize shortS u = p at *
  generalize shortS v = q at *
  generalize nsStampS a = sa at *
  generalize nsStampS b = sb at *
  generalize dateS a = X at *
  generalize dateS b = Y at *
  obtain ⟨e1, o1, f1⟩ := X
  obtain ⟨e2, o2, f2⟩ := Y
  simp only [DateS.val, DateS.mk.injEq] at dl sl c1 c2
  have c7 := fun w => nsshort_any p w (by omega)
  have c8 := fun w => nsshort_any q w (by omega)
  have c9 := fun w => nsshort_any (p + 1) w (by omega)
  rw [p2] at c7
  rw [q2] at c8
  generalize nsShortS (p + 1) = r at *
  have C := Lib.hid (And.intro c1 (And.intro c2 (And.intro c3 (And.intro c4 (And.intro c5 (And.intro c6 (And.intro c7 (And.intro c8 c9))))))))
  clear c1 c2 c3 c4 c5 c6 c7 c8 c9 p2 q2 q3 q4 q5
  have SL := Lib.hid sl
  obtain ⟨hu0, hu1⟩ := hu
  have hpq : (u < v ∧ p < q) ∨ (¬ u < v ∧ ¬ p < q) := by omega
  have hz : (u = 0 ∧ p = 0) ∨ ((u == 0) = false ∧ (p == 0) = false) := by
    rcases Int.lt_or_le 0 u with h | h
    · right
      have := p5 h
      simp
      omega
    · left
      have : u = 0 := by omega
      exact ⟨this, p4 this⟩
  clear sl pq p4 p5 q0 q1 ha hb hv
  skip
  obtain ⟨rfl, rfl, hf⟩ := dl
  have hs := SL.out rfl
  have hsd : decide (sb ≤ sa) = false := decide_eq_false (by omega)
  have hf2 : (f1 == f2) = false := by simp; omega
  rcases hpq with ⟨h1, h2⟩ | ⟨h1, h2⟩ <;> rcases hz with ⟨rfl, rfl⟩ | ⟨h3, h4⟩
  all_goals
    go_enter Try.func3, Try.ntmps3
    go_wp2_with fail
    refine (C.out.1 _).mono ?_
    rintro e w1 ⟨rfl, s1⟩
    go_wp2_with fail
    refine (C.out.2.1 _).mono ?_
    rintro e w2 ⟨rfl, s2⟩
    go_wp2_with fail
    refine (C.out.2.2.1 _).mono ?_
    rintro e w3 ⟨rfl, rfl⟩
    go_wp2_with fail
    refine (C.out.2.2.2.1 _).mono ?_
    rintro e w3 ⟨rfl, rfl⟩
    go_wp2_with fail
    refine (C.out.2.2.2.2.1 _).mono ?_
    rintro e w3 ⟨rfl, rfl⟩
    go_wp2_with fail
    refine (C.out.2.2.2.2.2.1 _).mono ?_
    rintro e w3 ⟨rfl, rfl⟩
    go_wp2_with fail
    refine (C.out.2.2.2.2.2.2.1 _).mono ?_
    rintro e w4 ⟨rfl, k1, rfl⟩
    go_wp2_with fail
    refine (C.out.2.2.2.2.2.2.2.1 _).mono ?_
    rintro e w5 ⟨rfl, k2, rfl⟩
    go_wp2_with fail
    refine (C.out.2.2.2.2.2.2.2.2 _).mono ?_
    rintro e w6 ⟨rfl, k3, rfl⟩
    go_wp2_with fail
    refine (wakes_any _).mono ?_
    rintro e w7 ⟨rfl, s7⟩
    go_wp2_with fail
    go_ret
    exact ⟨rfl, (((s1.trans s2).alloc _).alloc _).trans s7.of_drewN⟩

end Go.Proofs.Ytnkkfmiacbkdpaa
