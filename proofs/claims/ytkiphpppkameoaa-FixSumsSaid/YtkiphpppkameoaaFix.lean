/- fix: what each of its functions answers. -/
import Derived.Test.YtkiphpppkameoaaQuo
namespace Go.Proofs.Ytkiphpppkameoaa
open Go.RowKit
set_option linter.unusedVariables false
set_option linter.unusedSimpArgs false

/-- A whole number that fits, or none and the error's number. -/
def fitS (n : Int) : Int × Int := if -9223372036854775808 ≤ n ∧ n ≤ 9223372036854775807 then (n, 0) else (0, 20)
def nearS (n : Int) : Int := if n < -9223372036854775808 then -9223372036854775808 else if n > 9223372036854775807 then 9223372036854775807 else n

theorem add_any (a b : Int) (w : World) (ha : -9223372036854775808 ≤ a ∧ a ≤ 9223372036854775807) (hb : -9223372036854775808 ≤ b ∧ b ≤ 9223372036854775807) :
    Calls Try.prog 20 #[.int .i64 a, .int .i64 b] w fun e w' => e = .returned (.tuple #[.int .i64 (fitS (a + b)).1, .int .i64 (fitS (a + b)).2]) ∧ w' = w := by
  obtain ⟨a0, a1⟩ := ha
  obtain ⟨b0, b1⟩ := hb
  by_cases h : -9223372036854775808 ≤ a + b ∧ a + b ≤ 9223372036854775807
  · obtain ⟨h0, h1⟩ := h
    have e : fitS (a + b) = (a + b, 0) := by rw [fitS, if_pos ⟨h0, h1⟩]
    rw [e]
    clear e
    have hw : wrap64 (a + b) = a + b := wrap64_id h0 h1
    rcases Int.lt_trichotomy b 0 with hb | hb | hb
    · have h2 : (!(b == 0)) = true := by simp; omega
      have h3 : decide (a < a + b) = false := by simp; omega
      have h4 : decide (0 < b) = false := by simp; omega
      go_enter Try.func20, Try.ntmps20
      go_wp2
      go_ret2
      exact ⟨rfl, rfl⟩
    · subst hb
      rw [Int.add_zero]
      go_enter Try.func20, Try.ntmps20
      go_wp2
      go_ret2
      exact ⟨rfl, rfl⟩
    · have h2 : (!(b == 0)) = true := by simp; omega
      have h3 : decide (a < a + b) = true := by simp; omega
      have h4 : decide (0 < b) = true := by simp; omega
      go_enter Try.func20, Try.ntmps20
      go_wp2
      go_ret2
      exact ⟨rfl, rfl⟩
  · have e : fitS (a + b) = (0, 20) := by rw [fitS, if_neg h]
    rw [e]
    clear e
    rcases Int.lt_trichotomy b 0 with hb | hb | hb
    · have hw : wrap64 (a + b) = a + b + 18446744073709551616 := by unfold wrap64; omega
      have h2 : (!(b == 0)) = true := by simp; omega
      have h3 : decide (a < a + b + 18446744073709551616) = true := by simp; omega
      have h4 : decide (0 < b) = false := by simp; omega
      go_enter Try.func20, Try.ntmps20
      go_wp2
      go_ret2
      exact ⟨rfl, rfl⟩
    · omega
    · have hw : wrap64 (a + b) = a + b - 18446744073709551616 := by unfold wrap64; omega
      have h2 : (!(b == 0)) = true := by simp; omega
      have h3 : decide (a < a + b - 18446744073709551616) = false := by simp; omega
      have h4 : decide (0 < b) = true := by simp; omega
      go_enter Try.func20, Try.ntmps20
      go_wp2
      go_ret2
      exact ⟨rfl, rfl⟩
theorem sub_any (a b : Int) (w : World) (ha : -9223372036854775808 ≤ a ∧ a ≤ 9223372036854775807) (hb : -9223372036854775808 ≤ b ∧ b ≤ 9223372036854775807) :
    Calls Try.prog 21 #[.int .i64 a, .int .i64 b] w fun e w' => e = .returned (.tuple #[.int .i64 (fitS (a - b)).1, .int .i64 (fitS (a - b)).2]) ∧ w' = w := by
  obtain ⟨a0, a1⟩ := ha
  obtain ⟨b0, b1⟩ := hb
  by_cases h : -9223372036854775808 ≤ a - b ∧ a - b ≤ 9223372036854775807
  · obtain ⟨h0, h1⟩ := h
    have e : fitS (a - b) = (a - b, 0) := by rw [fitS, if_pos ⟨h0, h1⟩]
    rw [e]
    clear e
    have hw : wrap64 (a - b) = a - b := wrap64_id h0 h1
    rcases Int.lt_trichotomy b 0 with hb | hb | hb
    · have h2 : (!(b == 0)) = true := by simp; omega
      have h3 : decide (a - b < a) = false := by simp; omega
      have h4 : decide (0 < b) = false := by simp; omega
      go_enter Try.func21, Try.ntmps21
      go_wp2
      go_ret2
      exact ⟨rfl, rfl⟩
    · subst hb
      rw [Int.sub_zero]
      go_enter Try.func21, Try.ntmps21
      go_wp2
      go_ret2
      exact ⟨rfl, rfl⟩
    · have h2 : (!(b == 0)) = true := by simp; omega
      have h3 : decide (a - b < a) = true := by simp; omega
      have h4 : decide (0 < b) = true := by simp; omega
      go_enter Try.func21, Try.ntmps21
      go_wp2
      go_ret2
      exact ⟨rfl, rfl⟩
  · have e : fitS (a - b) = (0, 20) := by rw [fitS, if_neg h]
    rw [e]
    clear e
    rcases Int.lt_trichotomy b 0 with hb | hb | hb
    · have hw : wrap64 (a - b) = a - b - 18446744073709551616 := by unfold wrap64; omega
      have h2 : (!(b == 0)) = true := by simp; omega
      have h3 : decide (a - b - 18446744073709551616 < a) = true := by simp; omega
      have h4 : decide (0 < b) = false := by simp; omega
      go_enter Try.func21, Try.ntmps21
      go_wp2
      go_ret2
      exact ⟨rfl, rfl⟩
    · omega
    · have hw : wrap64 (a - b) = a - b + 18446744073709551616 := by unfold wrap64; omega
      have h2 : (!(b == 0)) = true := by simp; omega
      have h3 : decide (a - b + 18446744073709551616 < a) = false := by simp; omega
      have h4 : decide (0 < b) = true := by simp; omega
      go_enter Try.func21, Try.ntmps21
      go_wp2
      go_ret2
      exact ⟨rfl, rfl⟩

theorem nearest_any (n e : Int) (below : Bool) (w : World) :
    Calls Try.prog 40 #[.int .i64 n, .int .i64 e, .bool below] w fun x w' => x = .returned (.int .i64 (if e = 0 then n else if below then -9223372036854775808 else 9223372036854775807)) ∧ w' = w := by
  by_cases h : e = 0
  · subst h
    go_enter Try.func40, Try.ntmps40
    go_wp2
    go_ret
    exact ⟨rfl, rfl⟩
  · rw [if_neg h]
    have h2 : (e == 0) = false := by simp; omega
    cases below
    · go_enter Try.func40, Try.ntmps40
      go_wp2
      go_ret
      exact ⟨rfl, rfl⟩
    · go_enter Try.func40, Try.ntmps40
      go_wp2
      go_ret
      exact ⟨rfl, rfl⟩
theorem addsat_any (a b : Int) (w : World) (ha : -9223372036854775808 ≤ a ∧ a ≤ 9223372036854775807) (hb : -9223372036854775808 ≤ b ∧ b ≤ 9223372036854775807) :
    Calls Try.prog 22 #[.int .i64 a, .int .i64 b] w fun e w' => e = .returned (.int .i64 (nearS (a + b))) ∧ w' = w := by
  have key : (if (fitS (a + b)).2 = 0 then (fitS (a + b)).1 else if decide (a < 0) = true then -9223372036854775808 else 9223372036854775807) = nearS (a + b) := by
    unfold fitS nearS
    split <;> simp <;> (repeat' split) <;> omega
  have K := Lib.hid key
  clear key
  go_enter Try.func22, Try.ntmps22
  go_wp2_with fail
  refine (add_any a b _ ha hb).mono ?_
  rintro e w1 ⟨rfl, rfl⟩
  go_wp2_with fail
  refine (nearest_any _ _ _ _).mono ?_
  rw [K.out]
  rintro e w2 ⟨rfl, rfl⟩
  go_wp2_with fail
  go_ret
  exact ⟨rfl, rfl⟩
theorem subsat_any (a b : Int) (w : World) (ha : -9223372036854775808 ≤ a ∧ a ≤ 9223372036854775807) (hb : -9223372036854775808 ≤ b ∧ b ≤ 9223372036854775807) :
    Calls Try.prog 29 #[.int .i64 a, .int .i64 b] w fun e w' => e = .returned (.int .i64 (nearS (a - b))) ∧ w' = w := by
  have key : (if (fitS (a - b)).2 = 0 then (fitS (a - b)).1 else if decide (a < 0) = true then -9223372036854775808 else 9223372036854775807) = nearS (a - b) := by
    unfold fitS nearS
    split <;> simp <;> (repeat' split) <;> omega
  have K := Lib.hid key
  clear key
  go_enter Try.func29, Try.ntmps29
  go_wp2_with fail
  refine (sub_any a b _ ha hb).mono ?_
  rintro e w1 ⟨rfl, rfl⟩
  go_wp2_with fail
  refine (nearest_any _ _ _ _).mono ?_
  rw [K.out]
  rintro e w2 ⟨rfl, rfl⟩
  go_wp2_with fail
  go_ret
  exact ⟨rfl, rfl⟩

def absS (a : Int) : Int := if a = -9223372036854775808 then 9223372036854775807 else if a < 0 then -a else a
theorem abs_any (a : Int) (w : World) (h : -9223372036854775808 ≤ a ∧ a ≤ 9223372036854775807) :
    Calls Try.prog 23 #[.int .i64 a] w fun e w' => e = .returned (.int .i64 (absS a)) ∧ w' = w := by
  unfold absS
  by_cases h1 : a = -9223372036854775808
  · subst h1
    go_enter Try.func23, Try.ntmps23
    go_wp2
    go_ret
    exact ⟨rfl, rfl⟩
  · rw [if_neg h1]
    by_cases h2 : a < 0
    · rw [if_pos h2]
      go_enter Try.func23, Try.ntmps23
      go_wp2
      go_ret
      exact ⟨rfl, rfl⟩
    · rw [if_neg h2]
      go_enter Try.func23, Try.ntmps23
      go_wp2
      go_ret
      exact ⟨rfl, rfl⟩
def clampS (a lo hi : Int) : Int := if a < lo then lo else if a > hi then hi else a
theorem clamp_any (a lo hi : Int) (w : World) :
    Calls Try.prog 19 #[.int .i64 a, .int .i64 lo, .int .i64 hi] w fun e w' => e = .returned (.int .i64 (clampS a lo hi)) ∧ w' = w := by
  unfold clampS
  by_cases h1 : a < lo
  · rw [if_pos h1]
    go_enter Try.func19, Try.ntmps19
    go_wp2
    go_ret
    exact ⟨rfl, rfl⟩
  · rw [if_neg h1]
    by_cases h2 : a > hi
    · rw [if_pos h2]
      go_enter Try.func19, Try.ntmps19
      go_wp2
      go_ret
      exact ⟨rfl, rfl⟩
    · rw [if_neg h2]
      go_enter Try.func19, Try.ntmps19
      go_wp2
      go_ret
      exact ⟨rfl, rfl⟩

theorem muldiv_any (a b c : Int) (w : World) (ha : -9223372036854775808 ≤ a ∧ a ≤ 9223372036854775807) (hb : -9223372036854775808 ≤ b ∧ b ≤ 9223372036854775807) (hc : -9223372036854775808 ≤ c ∧ c ≤ 9223372036854775807) :
    Calls Try.prog 10 #[.int .i64 a, .int .i64 b, .int .i64 c] w fun e w' => e = .returned (.tuple #[.int .i64 (mulDivS false a b c).1, .int .i64 (mulDivS false a b c).2]) ∧ Stp [] w w' := by
  go_enter Try.func10, Try.ntmps10
  go_wp2_with fail
  refine (quotient_down a b c _ ha hb hc).mono ?_
  rintro e w1 ⟨rfl, h1⟩
  go_wp2_with fail
  go_ret2
  exact ⟨rfl, h1⟩
theorem muldivup_any (a b c : Int) (w : World) (ha : -9223372036854775808 ≤ a ∧ a ≤ 9223372036854775807) (hb : -9223372036854775808 ≤ b ∧ b ≤ 9223372036854775807) (hc : -9223372036854775808 ≤ c ∧ c ≤ 9223372036854775807) :
    Calls Try.prog 12 #[.int .i64 a, .int .i64 b, .int .i64 c] w fun e w' => e = .returned (.tuple #[.int .i64 (mulDivS true a b c).1, .int .i64 (mulDivS true a b c).2]) ∧ Stp [] w w' := by
  go_enter Try.func12, Try.ntmps12
  go_wp2_with fail
  refine (quotient_up a b c _ ha hb hc).mono ?_
  rintro e w1 ⟨rfl, h1⟩
  go_wp2_with fail
  go_ret2
  exact ⟨rfl, h1⟩

/-- The whole root of a number. -/
theorem root_exists (n : Nat) : ∃ r : Nat, r * r ≤ n ∧ n < (r + 1) * (r + 1) := by
  induction n with
  | zero => exact ⟨0, by decide, by decide⟩
  | succ n ih =>
    obtain ⟨r, h0, h1⟩ := ih
    by_cases h : n + 1 < (r + 1) * (r + 1)
    · exact ⟨r, by omega, h⟩
    · exact ⟨r + 1, by omega, by have : (r + 1 + 1) * (r + 1 + 1) = (r + 1) * (r + 1) + 2 * r + 3 := (by grind); omega⟩
theorem root_le {r n y : Nat} (h0 : r * r ≤ n) (h1 : n < (r + 1) * (r + 1)) : y * y ≤ n ↔ y ≤ r := by
  constructor
  · intro h
    apply Nat.le_of_not_lt
    intro hl
    have := Nat.mul_le_mul (show r + 1 ≤ y from hl) (show r + 1 ≤ y from hl)
    omega
  · intro h
    have := Nat.mul_le_mul h h
    omega
theorem root_or (q k : Nat) : (2 ^ (k + 1) * q) ||| 2 ^ k = 2 ^ (k + 1) * q + 2 ^ k := by
  rw [← Nat.two_pow_add_eq_or_of_lt (Nat.pow_lt_pow_right (by decide) (by omega))]

theorem sqrt_any (n r : Nat) (w : World) (hn : n ≤ 18446744073709551615) (h0 : r * r ≤ n) (h1 : n < (r + 1) * (r + 1)) :
    Calls Try.prog 14 #[.int .u64 n] w fun e w' => e = .returned (.int .u64 r) ∧ w' = w := by
  have hr : r < 4294967296 := by
    apply Nat.lt_of_not_le
    intro h
    have := Nat.mul_le_mul h h
    omega
  have h32 : r / 4294967296 = 0 := by omega
  have H0 := Lib.hid h0
  have H1 := Lib.hid h1
  clear h0 h1
  go_enter Try.func14, Try.ntmps14
  go_wp2
  go_loopw [3, 4] (fun x i wr => ∃ k : Int, -1 ≤ k ∧ k ≤ 31 ∧ i = .int .i64 k ∧ x = .int .u64 ((r / 2 ^ (k + 1).toNat * 2 ^ (k + 1).toNat : Nat) : Int) ∧ wr = w) (fun _ i _ => (intOf i + 1).toNat)
  case atStart =>
    exact ⟨31, by omega, by omega, rfl, by simp [h32], rfl⟩
  case round =>
    obtain ⟨k, hk0, hk1, rfl, rfl, rfl⟩ := hrel
    by_cases hk : k < 0
    · have : k = -1 := by omega
      subst this
      go_wp2
      go_ret
      exact ⟨ret_int (by simp), rfl⟩
    · obtain ⟨j, rfl⟩ := Int.eq_ofNat_of_zero_le (show 0 ≤ k by omega)
      have e1 : ((j : Int) + 1).toNat = j + 1 := by omega
      rw [e1]
      have hj : j ≤ 31 := by omega
      have hx : r / 2 ^ (j + 1) * 2 ^ (j + 1) ≤ r := Nat.div_mul_le_self _ _
      have hp : 2 ^ j ≤ 2147483648 := Nat.pow_le_pow_right (n := 2) (by decide) hj
      have hpi : (2 : Int) ^ j = ((2 ^ j : Nat) : Int) := by push_cast; rfl
      have hw : IntKind.u64.wrap (2 ^ j) = 2 ^ j := by
        have hz : ∀ z : Nat, z ≤ 2147483648 → IntKind.u64.wrap (z : Int) = z := fun z h => by rw [wrap_u64]; omega
        rw [hpi]
        exact hz _ hp
      have hor : bits .or .u64 ((r / 2 ^ (j + 1) * 2 ^ (j + 1) : Nat) : Int) (2 ^ j) = ((r / 2 ^ (j + 1) * 2 ^ (j + 1) + 2 ^ j : Nat) : Int) := by
        rw [hpi, (bits_nat .u64 64 (by decide) (fun n h0 h1 => by rw [wrap_u64]; omega) _ _ (by omega) (by omega)).2, Nat.mul_comm, root_or]
      clear hpi
      have htop : r / 2 ^ (j + 1) * 2 ^ (j + 1) + 2 ^ j ≤ 4294967295 := by
        have e : (4294967296 : Nat) = 2 ^ (31 - j) * 2 ^ (j + 1) := by rw [← Nat.pow_add, show 31 - j + (j + 1) = 32 by omega]
        have e2 : r / 2 ^ (j + 1) < 2 ^ (31 - j) := Nat.div_lt_of_lt_mul (by rw [Nat.mul_comm, ← e]; exact hr)
        have e3 := Nat.mul_le_mul_right (2 ^ (j + 1)) (show r / 2 ^ (j + 1) + 1 ≤ 2 ^ (31 - j) from e2)
        rw [← e, Nat.add_mul, Nat.one_mul] at e3
        have e4 : 2 ^ (j + 1) = 2 ^ j * 2 := Nat.pow_succ ..
        have e5 : 0 < 2 ^ j := Nat.pow_pos (by decide)
        omega
      have hq : r / 2 ^ j * 2 ^ j = r / 2 ^ (j + 1) * 2 ^ (j + 1) + (if r / 2 ^ (j + 1) * 2 ^ (j + 1) + 2 ^ j ≤ r then 2 ^ j else 0) := by
        have e : r / 2 ^ (j + 1) = r / 2 ^ j / 2 := by rw [Nat.div_div_eq_div_mul, Nat.pow_succ]
        rw [e, Nat.pow_succ]
        have d1 := Nat.div_add_mod r (2 ^ j)
        have d2 := Nat.mod_lt r (show 0 < 2 ^ j from Nat.pow_pos (by decide))
        have d3 := Nat.div_add_mod (r / 2 ^ j) 2
        generalize r / 2 ^ j = d at *
        generalize 2 ^ j = p at *
        generalize r % p = m at *
        have hm : d / 2 * (p * 2) = p * (2 * (d / 2)) := by grind
        rcases (show d % 2 = 0 ∨ d % 2 = 1 by omega) with h | h
        · have : 2 * (d / 2) = d := by omega
          rw [hm, this, if_neg (by omega), Nat.mul_comm]; rfl
        · have : 2 * (d / 2) + 1 = d := by omega
          have h2 : p * d = p * (2 * (d / 2)) + p := by
            have := congrArg (p * ·) this
            simp only [Nat.mul_add, Nat.mul_one] at this
            omega
          rw [hm, if_pos (by omega), Nat.mul_comm d, h2]
      have hxs : ∀ q, r / 2 ^ j * 2 ^ j = q → ((r / 2 ^ j * 2 ^ j : Nat) : Int) = q := fun q h => by rw [h]
      generalize r / 2 ^ (j + 1) * 2 ^ (j + 1) = x at *
      generalize hy : x + 2 ^ j = y at *
      have hyy : y * y ≤ 4294967295 * 4294967295 := Nat.mul_le_mul htop htop
      have hmm : IntKind.u64.wrap ((y : Int) * (y : Int)) = ((y * y : Nat) : Int) := by
        have hc : (y : Int) * (y : Int) = ((y * y : Nat) : Int) := by push_cast; rfl
        rw [hc, wrap_u64]; omega
      by_cases hle : y * y ≤ n
      · have hle' : ((y * y : Nat) : Int) ≤ (n : Int) := by exact_mod_cast hle
        go_wp2
        have hy2 := (root_le H0.out H1.out).1 hle
        rw [if_pos hy2] at hq
        exact ⟨⟨(j : Int) - 1, by omega, by omega, rfl, by rw [show ((j : Int) - 1 + 1).toNat = j by omega, hq, hy], trivial⟩, by simp [intOf]⟩
      · have hle' : ¬ ((y * y : Nat) : Int) ≤ (n : Int) := by exact_mod_cast hle
        go_wp2
        have hy2 := mt (root_le H0.out H1.out).2 hle
        rw [if_neg hy2] at hq
        exact ⟨⟨(j : Int) - 1, by omega, by omega, rfl, by rw [show ((j : Int) - 1 + 1).toNat = j by omega, hq]; rfl, trivial⟩, by simp [intOf]⟩

end Go.Proofs.Ytkiphpppkameoaa
