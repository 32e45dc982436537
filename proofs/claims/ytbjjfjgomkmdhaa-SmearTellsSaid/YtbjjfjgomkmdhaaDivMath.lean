/- Plain facts on whole numbers: a long division by two digits. No program in sight. -/
import Derived.Below
namespace Go.Proofs.Ytbjjfjgomkmdhaa.DivMath
set_option linter.unusedVariables false

/-- A two digits' divisor v = a B + b, a rest u below it, a digit d: the quotient of u B + d is below B. -/
theorem q_lt {a b u d B : Int} (hB : 0 < B) (hv : 0 < a * B + b) (hu : u < a * B + b) (hd : d < B) : (u * B + d) / (a * B + b) < B := by
  apply Int.ediv_lt_of_lt_mul hv
  have h1 : (u + 1) * B ≤ (a * B + b) * B := Int.mul_le_mul_of_nonneg_right (by omega) (by omega)
  rw [Int.add_mul] at h1
  rw [Int.mul_comm B]
  omega
theorem q_nonneg {a b u d B : Int} (hB : 0 < B) (hv : 0 < a * B + b) (hu : 0 ≤ u) (hd : 0 ≤ d) : 0 ≤ (u * B + d) / (a * B + b) :=
  Int.ediv_nonneg (by have := Int.mul_nonneg hu (Int.le_of_lt hB); omega) (Int.le_of_lt hv)
/-- q is not above the quotient, just if its lower digit's part is paid. -/
theorem le_q {a b u d B q r : Int} (hv : 0 < a * B + b) (he : q * a + r = u) (h : q * b ≤ B * r + d) : q ≤ (u * B + d) / (a * B + b) := by
  apply (Int.le_ediv_iff_mul_le hv).2
  have e : q * (a * B + b) = (q * a) * B + q * b := by rw [Int.mul_add, Int.mul_assoc]
  have e2 : u * B = (q * a) * B + B * r := by rw [← he, Int.add_mul, Int.mul_comm r]
  rw [e, e2]
  omega
/-- q is above the quotient, if its lower digit's part is not paid. -/
theorem lt_q {a b u d B q r : Int} (hv : 0 < a * B + b) (he : q * a + r = u) (h : B * r + d < q * b) : (u * B + d) / (a * B + b) < q := by
  apply Int.ediv_lt_of_lt_mul hv
  have e : q * (a * B + b) = (q * a) * B + q * b := by rw [Int.mul_add, Int.mul_assoc]
  have e2 : u * B = (q * a) * B + B * r := by rw [← he, Int.add_mul, Int.mul_comm r]
  rw [e, e2]
  omega
/-- The first guess is not below the quotient. -/
theorem first_q {a b u d B : Int} (ha : 0 < a) (hb : 0 ≤ b) (hB : 0 < B) (hu : 0 ≤ u) (hd0 : 0 ≤ d) (hd : d < B) : (u * B + d) / (a * B + b) ≤ u / a := by
  have hv : 0 < a * B + b := by have := Int.mul_pos ha hB; omega
  have hq0 := q_nonneg (d := d) hB hv hu hd0
  generalize hQ : (u * B + d) / (a * B + b) = Q at *
  apply (Int.le_ediv_iff_mul_le ha).2
  have h1 : Q * (a * B + b) ≤ u * B + d := by rw [← hQ]; exact Int.ediv_mul_le _ (by omega)
  rw [Int.mul_add, ← Int.mul_assoc] at h1
  have h2 : 0 ≤ Q * b := Int.mul_nonneg hq0 hb
  have h3 : (Q * a) * B < (u + 1) * B := by rw [Int.add_mul]; omega
  have h4 : Q * a < u + 1 := Int.lt_of_mul_lt_mul_right h3 (Int.le_of_lt hB)
  omega
/-- The first guess is B + 1 at most. -/
theorem first_le {a b u B : Int} (ha : 0 < a) (hab : b < 2 * a) (hu : u < a * B + b) : u / a ≤ B + 1 := by
  have : u / a < B + 2 := by
    apply Int.ediv_lt_of_lt_mul ha
    have e : (B + 2) * a = a * B + 2 * a := by rw [Int.add_mul, Int.mul_comm B]
    rw [e]
    omega
  omega
/-- Where the rest has come to B, q is below B. -/
theorem q_small {a b u B q r : Int} (ha : 0 < a) (hb : b ≤ B) (hu : u < a * B + b) (he : q * a + r = u) (hr : B ≤ r) : q < B := by
  have h : q * a < B * a := by rw [Int.mul_comm B]; omega
  exact Int.lt_of_mul_lt_mul_right h (Int.le_of_lt ha)
theorem mul_le_BB {b q B r d : Int} (hb0 : 0 ≤ b) (hb : b < B) (hq0 : 0 ≤ q) (hq : q < B) (hr : B ≤ r) (hd : 0 ≤ d) : q * b ≤ B * r + d := by
  have hB : 0 < B := by omega
  have h1 : q * b ≤ q * B := Int.mul_le_mul_of_nonneg_left (by omega) hq0
  have h2 : q * B ≤ B * B := Int.mul_le_mul_of_nonneg_right (by omega) (by omega)
  have h3 : B * B ≤ B * r := Int.mul_le_mul_of_nonneg_left hr (by omega)
  omega
/-- Bounds of the products that are computed. -/
theorem prod_bd {b q B : Int} (hb0 : 0 ≤ b) (hb : b < B) (hq0 : 0 ≤ q) (hq : q < B) : 0 ≤ q * b ∧ q * b < B * B := by
  refine ⟨Int.mul_nonneg hq0 hb0, ?_⟩
  have h1 : q * b ≤ q * B := Int.mul_le_mul_of_nonneg_left (by omega) hq0
  have h2 : q * B < B * B := Int.mul_lt_mul_of_pos_right hq (by omega)
  omega
/-- What a number of two words is, shifted by P (P R = M), above and below a word. -/
theorem shifted {hi lo y P R M : Int} (hP : 0 < P) (hR : 0 < R) (hPR : P * R = M) (h0 : 0 ≤ hi) (hy : hi < y) (l0 : 0 ≤ lo) (l1 : lo < M) (hv : y * P < M) :
    0 ≤ hi * P ∧ hi * P < M ∧ 0 ≤ lo / R ∧ lo / R < P ∧ hi * P + lo / R < y * P ∧ (lo * P) % M = (lo % R) * P ∧ (hi * P + lo / R) * M + (lo * P) % M = (hi * M + lo) * P := by
  have a1 : 0 ≤ hi * P := Int.mul_nonneg h0 (by omega)
  have a2 : (hi + 1) * P ≤ y * P := Int.mul_le_mul_of_nonneg_right (by omega) (by omega)
  rw [Int.add_mul] at a2
  have b1 : 0 ≤ lo / R := Int.ediv_nonneg l0 (by omega)
  have b2 : lo / R < P := Int.ediv_lt_of_lt_mul hR (by omega)
  have c0 : lo = R * (lo / R) + lo % R := (Int.mul_ediv_add_emod lo R).symm
  have c1 : 0 ≤ lo % R := Int.emod_nonneg _ (by omega)
  have c2 : lo % R < R := Int.emod_lt_of_pos _ hR
  have c3 : 0 ≤ (lo % R) * P := Int.mul_nonneg c1 (by omega)
  have c4 : (lo % R) * P < M := by
    have := Int.mul_lt_mul_of_pos_right c2 hP
    rw [Int.mul_comm R P, hPR] at this
    exact this
  have c5 : lo * P = (lo / R) * M + (lo % R) * P := by
    calc lo * P = (R * (lo / R) + lo % R) * P := by rw [← c0]
      _ = (lo / R) * M + (lo % R) * P := by
        rw [Int.add_mul, Int.mul_comm R, Int.mul_assoc, Int.mul_comm R P, hPR]
  have c6 : (lo * P) % M = (lo % R) * P := by
    rw [c5, Int.add_comm, Int.add_mul_emod_self_right]
    exact Int.emod_eq_of_lt c3 c4
  refine ⟨a1, by omega, b1, b2, by omega, c6, ?_⟩
  rw [c6, Int.add_mul, Int.add_assoc, ← c5, Int.add_mul, Int.mul_assoc, Int.mul_assoc, Int.mul_comm P M]

/-- A division by the rest. -/
theorem div_rest {x v q : Int} (hv : 0 < v) (hq : q = x / v) : 0 ≤ x - q * v ∧ x - q * v < v := by
  subst hq
  have h1 := Int.mul_ediv_add_emod x v
  have h2 := Int.emod_nonneg x (show v ≠ 0 by omega)
  have h3 := Int.emod_lt_of_pos x hv
  rw [Int.mul_comm] at h1
  omega

/-- Two digits of the quotient. -/
theorem two_digits {T y P B u d1 d0 v q1 q0 : Int} (hB : 0 < B) (hy : 0 < y) (hP : 0 < P) (hv : v = y * P) (hT : u * (B * B) + (d1 * B + d0) = T * P) (h1 : q1 = (u * B + d1) / v) (h0 : q0 = ((u * B + d1 - q1 * v) * B + d0) / v) :
    q1 * B + q0 = T / y ∧ (((u * B + d1 - q1 * v) * B + d0) - q0 * v) / P = T % y := by
  have hv0 : 0 < v := by rw [hv]; exact Int.mul_pos hy hP
  obtain ⟨r1, r2⟩ := div_rest hv0 h1
  obtain ⟨s1, s2⟩ := div_rest hv0 h0
  have e1 : T * P = (q1 * B + q0) * v + (((u * B + d1 - q1 * v) * B + d0) - q0 * v) := by
    rw [← hT]
    grind
  have e2 : (T * P) / v = q1 * B + q0 := by
    rw [e1, Int.add_comm, Int.add_mul_ediv_right _ _ (by omega), Int.ediv_eq_zero_of_lt s1 s2]
    omega
  have e3 : (T * P) % v = (((u * B + d1 - q1 * v) * B + d0) - q0 * v) := by
    rw [e1, Int.add_comm, Int.add_mul_emod_self_right]
    exact Int.emod_eq_of_lt s1 s2
  rw [hv, Int.mul_ediv_mul_of_pos_left _ _ hP] at e2
  have e4 : (T * P) % (y * P) = (T % y) * P := by rw [Int.mul_comm T, Int.mul_comm y, Int.mul_emod_mul_of_pos _ _ hP, Int.mul_comm]
  refine ⟨e2.symm, ?_⟩
  rw [← e3, hv, e4]
  exact Int.mul_ediv_cancel _ (by omega)

end Go.Proofs.Ytbjjfjgomkmdhaa.DivMath
