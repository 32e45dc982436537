/- fix: sizes, signs, products that are divided. -/
import Derived.Test.YtbjjfjgomkmdhaaDiv
namespace Go.Proofs.Ytbjjfjgomkmdhaa
open Go.RowKit
set_option linter.unusedVariables false
set_option linter.unusedSimpArgs false

def sizeS (a : Int) : Int := if a < 0 then -a else a
theorem size_any (a : Int) (w : World) (h : -9223372036854775808 ≤ a ∧ a ≤ 9223372036854775807) :
    Calls Try.prog 38 #[.int .i64 a] w fun e w' => e = .returned (.int .u64 (sizeS a)) ∧ w' = w := by
  obtain ⟨h0, h1⟩ := h
  by_cases hn : a < 0
  · have e : sizeS a = -a := by rw [sizeS, if_pos hn]
    have E := Lib.hid e
    clear e
    go_enter Try.func38, Try.ntmps38
    go_wp2
    go_ret
    exact ⟨ret_int (by rw [E.out]; simp only [wrap_u64]; omega), rfl⟩
  · have e : sizeS a = a := by rw [sizeS, if_neg hn]
    have E := Lib.hid e
    clear e
    go_enter Try.func38, Try.ntmps38
    go_wp2
    go_ret
    exact ⟨ret_int E.out.symm, rfl⟩
/-- A size with a sign, and whether it is a number. -/
def signedS (n : Int) (minus : Bool) : Int × Bool := if minus then (wrap64 (-n), decide (n ≤ 9223372036854775808)) else (wrap64 n, decide (n < 9223372036854775808))
theorem signed_any (n : Int) (minus : Bool) (w : World) (h : 0 ≤ n ∧ n ≤ 18446744073709551615) :
    Calls Try.prog 40 #[.int .u64 n, .bool minus] w fun e w' => e = .returned (.tuple #[.int .i64 (signedS n minus).1, .bool (signedS n minus).2]) ∧ w' = w := by
  obtain ⟨h0, h1⟩ := h
  cases minus
  · go_enter Try.func40, Try.ntmps40
    go_wp2
    go_ret2
    exact ⟨rfl, rfl⟩
  · have e : wrap64 (IntKind.u64.wrap (-n)) = wrap64 (-n) := by simp only [wrap_u64, wrap64]; omega
    go_enter Try.func40, Try.ntmps40
    go_wp2
    go_ret2
    exact ⟨ret_int_bool e rfl, rfl⟩
theorem down_any (m : Bool) (w : World) : Calls Try.prog 36 #[.bool m] w fun e w' => e = .returned (.bool m) ∧ w' = w := by
  go_enter Try.func36, Try.ntmps36
  go_wp2
  go_ret
  exact ⟨rfl, rfl⟩
/-- A product divided by c, down or up: the answer, and the error's number. -/
def mulDivS (up : Bool) (a b c : Int) : Int × Int :=
  if c ≤ 0 then (0, 1) else
  let q := if up then -((-(a * b)) / c) else (a * b) / c
  if -9223372036854775808 ≤ q ∧ q ≤ 9223372036854775807 then (q, 0) else (0, 20)

/-- What quotient makes of the product's size. -/
def quoS (up minus : Bool) (P c : Int) : Int × Int :=
  let q := P / c + (if P % c > 0 ∧ (minus != up) = true then 1 else 0)
  if minus then (if q ≤ 9223372036854775808 then (-q, 0) else (0, 20)) else (if q < 9223372036854775808 then (q, 0) else (0, 20))

theorem ediv_unique {x c q : Int} (hc : 0 < c) (h1 : q * c ≤ x) (h2 : x < (q + 1) * c) : x / c = q := by
  have a := (Int.le_ediv_iff_mul_le hc).2 h1
  have b := Int.ediv_lt_of_lt_mul hc h2
  omega
theorem ceil_eq (x c : Int) (hc : 0 < c) : (-x) / c = -(x / c + (if x % c > 0 then 1 else 0)) := by
  have h1 := Int.mul_ediv_add_emod x c
  have h2 := Int.emod_nonneg x (show c ≠ 0 by omega)
  have h3 := Int.emod_lt_of_pos x hc
  split
  · apply ediv_unique hc <;> grind
  · apply ediv_unique hc <;> grind
theorem sizes_mul (a b : Int) : sizeS a * sizeS b = if (decide (a < 0) != decide (b < 0)) = true then -(a * b) else a * b := by
  unfold sizeS
  by_cases ha : a < 0 <;> by_cases hb : b < 0 <;> simp [ha, hb, Int.neg_mul_neg, Int.neg_mul, Int.mul_neg]
theorem sizeS_nonneg (a : Int) : 0 ≤ sizeS a := by unfold sizeS; split <;> omega

theorem mulDiv_quo (up : Bool) (a b c : Int) (hc : 0 < c) : mulDivS up a b c = quoS up ((decide (a < 0) != decide (b < 0))) (sizeS a * sizeS b) c := by
  have hP := sizes_mul a b
  have hP0 : 0 ≤ sizeS a * sizeS b := Int.mul_nonneg (sizeS_nonneg a) (sizeS_nonneg b)
  generalize sizeS a * sizeS b = P at *
  generalize (decide (a < 0) != decide (b < 0)) = m at *
  have hq0 : 0 ≤ P / c := Int.ediv_nonneg hP0 (by omega)
  have hce := ceil_eq P c hc
  have hab : a * b = if m = true then -P else P := by cases m <;> simp at hP ⊢ <;> omega
  unfold mulDivS quoS
  rw [if_neg (by omega), hab]
  generalize hF : P / c = F at *
  generalize hG : (if P % c > 0 then (1 : Int) else 0) = g at *
  have hg : g = 0 ∨ g = 1 := by rw [← hG]; split <;> simp
  cases m <;> cases up <;> simp [hce, hG, hF]
  all_goals
    split <;> split <;> first | rfl | (exfalso; omega)


theorem quo_signed (up m : Bool) (P c q : Int) (hq0 : 0 ≤ q) (hq : P / c + (if P % c > 0 ∧ (m != up) = true then 1 else 0) = q) :
    quoS up m P c = if (signedS q m).2 = true then ((signedS q m).1, 0) else (0, 20) := by
  unfold quoS signedS
  rw [hq]
  cases m
  · simp only [Bool.false_eq_true, if_false, decide_eq_true_eq]
    split
    · rw [wrap64_id (by omega) (by omega)]
    · rfl
  · simp only [if_true, decide_eq_true_eq]
    split
    · rw [wrap64_id (by omega) (by omega)]
    · rfl
theorem quo_over (up m : Bool) (P c q : Int) (hq0 : 9223372036854775808 < q) (hq : P / c + (if P % c > 0 ∧ (m != up) = true then 1 else 0) = q) :
    quoS up m P c = (0, 20) := by
  unfold quoS
  rw [hq]
  cases m
  · simp only [Bool.false_eq_true, if_false]; rw [if_neg (by omega)]
  · simp only [if_true]; rw [if_neg (by omega)]

set_option maxHeartbeats 2000000 in
theorem quotient_down (a b c : Int) (w : World) (ha : -9223372036854775808 ≤ a ∧ a ≤ 9223372036854775807) (hb : -9223372036854775808 ≤ b ∧ b ≤ 9223372036854775807) (hc : -9223372036854775808 ≤ c ∧ c ≤ 9223372036854775807) :
    Calls Try.prog 35 #[.int .i64 a, .int .i64 b, .int .i64 c, .func (.func 36) #[] #[]] w fun e w' => e = .returned (.tuple #[.int .i64 (mulDivS false a b c).1, .int .i64 (mulDivS false a b c).2]) ∧ Stp [] w w' := by
  by_cases hc0 : c ≤ 0
  · have e : mulDivS false a b c = (0, 1) := by rw [mulDivS, if_pos hc0]
    rw [e]
    clear e
    go_enter Try.func35, Try.ntmps35
    go_wp2
    go_ret2
    exact ⟨rfl, Stp.refl _ _⟩
  · rw [mulDiv_quo false a b c (by omega)]
    obtain ⟨c0, c1⟩ := hc
    have hpos : 0 < c := by omega
    obtain ⟨m, hm⟩ : ∃ m, (!(decide (a < 0) == decide (b < 0))) = m := ⟨_, rfl⟩
    have hm' : (decide (a < 0) != decide (b < 0)) = m := hm
    obtain ⟨x, hx⟩ := Int.eq_ofNat_of_zero_le (sizeS_nonneg a)
    obtain ⟨y, hy⟩ := Int.eq_ofNat_of_zero_le (sizeS_nonneg b)
    have hx1 : x ≤ 9223372036854775808 := by have h : sizeS a ≤ 9223372036854775808 := (by unfold sizeS; split <;> omega); omega
    have hy1 : y ≤ 9223372036854775808 := by have h : sizeS b ≤ 9223372036854775808 := (by unfold sizeS; split <;> omega); omega
    rw [hm', hx, hy]
    clear hm'
    have hxy : x * y ≤ 85070591730234615865843651857942052864 := by
      have := Nat.mul_le_mul hx1 hy1
      simpa using this
    have HP : ((x : Int) * (y : Int)) = ((x * y : Nat) : Int) := by push_cast; rfl
    rw [HP]
    have hu : IntKind.u64.wrap c = c := by rw [wrap_u64]; omega
    generalize hp : x * y = p at *
    have hd := DivMath.div_rest (x := (p : Int)) (v := c) hpos rfl
    obtain ⟨F, hF⟩ : ∃ F, (p : Int) / c = F := ⟨_, rfl⟩
    obtain ⟨r, hr⟩ : ∃ r, (p : Int) % c = r := ⟨_, rfl⟩
    have hr0 : 0 ≤ r ∧ r < c := by rw [← hr]; exact ⟨Int.emod_nonneg _ (by omega), Int.emod_lt_of_pos _ hpos⟩
    have hF0 : 0 ≤ F := by rw [← hF]; exact Int.ediv_nonneg (by omega) (by omega)
    have HX := Lib.hid hx
    have HY := Lib.hid hy
    have HP2 := Lib.hid hp
    by_cases hbig : c ≤ ((p / 18446744073709551616 : Nat) : Int)
    · have e : quoS false m (p : Int) c = (0, 20) := by
        have : 18446744073709551616 ≤ F := by
          rw [← hF]
          apply (Int.le_ediv_iff_mul_le hpos).2
          have h2 : (p : Int) / 18446744073709551616 * 18446744073709551616 ≤ p := Int.ediv_mul_le _ (by decide)
          have h3 : 18446744073709551616 * c ≤ 18446744073709551616 * ((p : Int) / 18446744073709551616) := Int.mul_le_mul_of_nonneg_left (by simpa using hbig) (by decide)
          omega
        exact quo_over _ _ _ _ _ (by rw [hF]; split <;> omega) rfl
      rw [e]
      have hbig' : decide (c ≤ ((p / 18446744073709551616 : Nat) : Int)) = true := decide_eq_true hbig
      clear e hx hy hp HP hF hr hd hxy
      go_enter Try.func35, Try.ntmps35
      go_wp2_with fail
      refine (size_any a _ ha).mono ?_
      rw [HX.out]
      rintro e w1 ⟨rfl, rfl⟩
      go_wp2_with fail
      refine (size_any b _ hb).mono ?_
      rw [HY.out]
      rintro e w2 ⟨rfl, rfl⟩
      go_wp2_with fail
      refine (Try.bits_Mul64 x y (by omega) (by omega) _).mono ?_
      rw [HP2.out]
      rintro e w3 ⟨rfl, rfl⟩
      go_wp2_with fail
      go_ret2
      exact ⟨rfl, (Stp.refl _ _).alloc _⟩
    · have hd64 := fun w => div64_any ((p / 18446744073709551616 : Nat) : Int) ((p % 18446744073709551616 : Nat) : Int) c w (by omega) (by omega) (by omega)
      have e2 : two64 ((p / 18446744073709551616 : Nat) : Int) ((p % 18446744073709551616 : Nat) : Int) = p := by unfold two64; omega
      rw [e2, hF, hr] at hd64
      have hF1 : F ≤ 18446744073709551615 := by
        rw [← hF]
        have : (p : Int) / c < 18446744073709551616 := by
          apply Int.ediv_lt_of_lt_mul hpos
          have h3 : 18446744073709551616 * (((p / 18446744073709551616 : Nat) : Int) + 1) ≤ 18446744073709551616 * c := Int.mul_le_mul_of_nonneg_left (by omega) (by decide)
          omega
        omega
      have hbig' : decide (c ≤ ((p / 18446744073709551616 : Nat) : Int)) = false := decide_eq_false hbig
      have hq1 : ∀ q, F + (if r > 0 ∧ (m != false) = true then 1 else 0) = q → 0 ≤ q → quoS false m (p : Int) c = if (signedS q m).2 = true then ((signedS q m).1, 0) else (0, 20) := fun q h h0 => quo_signed false m p c q h0 (by rw [hF, hr]; exact h)
      have hq2 : ∀ q, F + (if r > 0 ∧ (m != false) = true then 1 else 0) = q → 9223372036854775808 < q → quoS false m (p : Int) c = (0, 20) := fun q h h0 => quo_over false m p c q h0 (by rw [hF, hr]; exact h)
      generalize quoS false m (p : Int) c = Z at *
      clear e2 hx hy hp HP hF hr hd hxy
      by_cases hrr : r > 0
      · have hrr' : decide (r ≤ 0) = false := by simp; omega
        by_cases hmu : (m != false) = true
        · by_cases hF2 : F = 18446744073709551615
          · have hZ := hq2 (F + 1) (by rw [if_pos ⟨hrr, hmu⟩]) (by omega)
            subst hZ hF2
            clear hq1 hq2 hF0 hF1
            have HMU := fun w => (down_any m w).mono (fun e w' (h : _ ∧ _) => (⟨h.1.trans (ret_bool (show m = true by simpa using hmu)), h.2⟩ : e = .returned (.bool true) ∧ w' = w))
            clear hmu
            go_enter Try.func35, Try.ntmps35
            go_wp2_with fail
            refine (size_any a _ ha).mono ?_
            rw [HX.out]
            rintro e w1 ⟨rfl, rfl⟩
            go_wp2_with fail
            refine (size_any b _ hb).mono ?_
            rw [HY.out]
            rintro e w2 ⟨rfl, rfl⟩
            go_wp2_with fail
            refine (Try.bits_Mul64 x y (by omega) (by omega) _).mono ?_
            rw [HP2.out]
            rintro e w3 ⟨rfl, rfl⟩
            go_wp2_with fail
            refine (hd64 _).mono ?_
            rintro e w4 ⟨rfl, n, rfl⟩
            go_wp2_with fail
            refine (HMU _).mono ?_
            rintro e w5 ⟨rfl, rfl⟩
            go_wp2_with fail
            go_ret2
            exact ⟨rfl, ((Stp.refl _ _).alloc _).drewN _⟩
          · have HMU := fun w => (down_any m w).mono (fun e w' (h : _ ∧ _) => (⟨h.1.trans (ret_bool (show m = true by simpa using hmu)), h.2⟩ : e = .returned (.bool true) ∧ w' = w))
            have hw1 : IntKind.u64.wrap (F + 1) = F + 1 := by rw [wrap_u64]; omega
            have hw2 : (F + 1 == 0) = false := by simp; omega
            have hZ := hq1 (F + 1) (by rw [if_pos ⟨hrr, hmu⟩]) (by omega)
            by_cases hs : (signedS (F + 1) m).2 = true
            · rw [if_pos hs] at hZ
              subst hZ
              have HS := Lib.hid hs
              clear hs hq1 hq2
              go_enter Try.func35, Try.ntmps35
              go_wp2_with fail
              refine (size_any a _ ha).mono ?_
              rw [HX.out]
              rintro e w1 ⟨rfl, rfl⟩
              go_wp2_with fail
              refine (size_any b _ hb).mono ?_
              rw [HY.out]
              rintro e w2 ⟨rfl, rfl⟩
              go_wp2_with fail
              refine (Try.bits_Mul64 x y (by omega) (by omega) _).mono ?_
              rw [HP2.out]
              rintro e w3 ⟨rfl, rfl⟩
              go_wp2_with fail
              refine (hd64 _).mono ?_
              rintro e w4 ⟨rfl, n, rfl⟩
              go_wp2_with fail
              refine (HMU _).mono ?_
              rintro e w5 ⟨rfl, rfl⟩
              go_wp2_with fail
              refine (signed_any (F + 1) m _ (by omega)).mono ?_
              rw [HS.out]
              rintro e w6 ⟨rfl, rfl⟩
              go_wp2_with fail
              go_ret2
              exact ⟨rfl, ((Stp.refl _ _).alloc _).drewN _⟩
            · rw [if_neg hs] at hZ
              subst hZ
              have hs := eq_false_of_ne_true hs
              have HS := Lib.hid hs
              clear hs hq1 hq2
              go_enter Try.func35, Try.ntmps35
              go_wp2_with fail
              refine (size_any a _ ha).mono ?_
              rw [HX.out]
              rintro e w1 ⟨rfl, rfl⟩
              go_wp2_with fail
              refine (size_any b _ hb).mono ?_
              rw [HY.out]
              rintro e w2 ⟨rfl, rfl⟩
              go_wp2_with fail
              refine (Try.bits_Mul64 x y (by omega) (by omega) _).mono ?_
              rw [HP2.out]
              rintro e w3 ⟨rfl, rfl⟩
              go_wp2_with fail
              refine (hd64 _).mono ?_
              rintro e w4 ⟨rfl, n, rfl⟩
              go_wp2_with fail
              refine (HMU _).mono ?_
              rintro e w5 ⟨rfl, rfl⟩
              go_wp2_with fail
              refine (signed_any (F + 1) m _ (by omega)).mono ?_
              rw [HS.out]
              rintro e w6 ⟨rfl, rfl⟩
              go_wp2_with fail
              go_ret2
              exact ⟨rfl, ((Stp.refl _ _).alloc _).drewN _⟩
        · have HMU := fun w => (down_any m w).mono (fun e w' (h : _ ∧ _) => (⟨h.1.trans (ret_bool (show m = false by simpa using hmu)), h.2⟩ : e = .returned (.bool false) ∧ w' = w))
          have hZ := hq1 (F) (by rw [if_neg (fun h => hmu h.2)]; omega) (by omega)
          by_cases hs : (signedS (F) m).2 = true
          · rw [if_pos hs] at hZ
            subst hZ
            have HS := Lib.hid hs
            clear hs hq1 hq2
            go_enter Try.func35, Try.ntmps35
            go_wp2_with fail
            refine (size_any a _ ha).mono ?_
            rw [HX.out]
            rintro e w1 ⟨rfl, rfl⟩
            go_wp2_with fail
            refine (size_any b _ hb).mono ?_
            rw [HY.out]
            rintro e w2 ⟨rfl, rfl⟩
            go_wp2_with fail
            refine (Try.bits_Mul64 x y (by omega) (by omega) _).mono ?_
            rw [HP2.out]
            rintro e w3 ⟨rfl, rfl⟩
            go_wp2_with fail
            refine (hd64 _).mono ?_
            rintro e w4 ⟨rfl, n, rfl⟩
            go_wp2_with fail
            refine (HMU _).mono ?_
            rintro e w5 ⟨rfl, rfl⟩
            go_wp2_with fail
            refine (signed_any (F) m _ (by omega)).mono ?_
            rw [HS.out]
            rintro e w6 ⟨rfl, rfl⟩
            go_wp2_with fail
            go_ret2
            exact ⟨rfl, ((Stp.refl _ _).alloc _).drewN _⟩
          · rw [if_neg hs] at hZ
            subst hZ
            have hs := eq_false_of_ne_true hs
            have HS := Lib.hid hs
            clear hs hq1 hq2
            go_enter Try.func35, Try.ntmps35
            go_wp2_with fail
            refine (size_any a _ ha).mono ?_
            rw [HX.out]
            rintro e w1 ⟨rfl, rfl⟩
            go_wp2_with fail
            refine (size_any b _ hb).mono ?_
            rw [HY.out]
            rintro e w2 ⟨rfl, rfl⟩
            go_wp2_with fail
            refine (Try.bits_Mul64 x y (by omega) (by omega) _).mono ?_
            rw [HP2.out]
            rintro e w3 ⟨rfl, rfl⟩
            go_wp2_with fail
            refine (hd64 _).mono ?_
            rintro e w4 ⟨rfl, n, rfl⟩
            go_wp2_with fail
            refine (HMU _).mono ?_
            rintro e w5 ⟨rfl, rfl⟩
            go_wp2_with fail
            refine (signed_any (F) m _ (by omega)).mono ?_
            rw [HS.out]
            rintro e w6 ⟨rfl, rfl⟩
            go_wp2_with fail
            go_ret2
            exact ⟨rfl, ((Stp.refl _ _).alloc _).drewN _⟩
      · have hrr' : decide (r ≤ 0) = true := by simp; omega
        have hZ := hq1 (F) (by rw [if_neg (fun h => hrr h.1)]; omega) (by omega)
        by_cases hs : (signedS (F) m).2 = true
        · rw [if_pos hs] at hZ
          subst hZ
          have HS := Lib.hid hs
          clear hs hq1 hq2
          go_enter Try.func35, Try.ntmps35
          go_wp2_with fail
          refine (size_any a _ ha).mono ?_
          rw [HX.out]
          rintro e w1 ⟨rfl, rfl⟩
          go_wp2_with fail
          refine (size_any b _ hb).mono ?_
          rw [HY.out]
          rintro e w2 ⟨rfl, rfl⟩
          go_wp2_with fail
          refine (Try.bits_Mul64 x y (by omega) (by omega) _).mono ?_
          rw [HP2.out]
          rintro e w3 ⟨rfl, rfl⟩
          go_wp2_with fail
          refine (hd64 _).mono ?_
          rintro e w4 ⟨rfl, n, rfl⟩
          go_wp2_with fail
          refine (signed_any (F) m _ (by omega)).mono ?_
          rw [HS.out]
          rintro e w6 ⟨rfl, rfl⟩
          go_wp2_with fail
          go_ret2
          exact ⟨rfl, ((Stp.refl _ _).alloc _).drewN _⟩
        · rw [if_neg hs] at hZ
          subst hZ
          have hs := eq_false_of_ne_true hs
          have HS := Lib.hid hs
          clear hs hq1 hq2
          go_enter Try.func35, Try.ntmps35
          go_wp2_with fail
          refine (size_any a _ ha).mono ?_
          rw [HX.out]
          rintro e w1 ⟨rfl, rfl⟩
          go_wp2_with fail
          refine (size_any b _ hb).mono ?_
          rw [HY.out]
          rintro e w2 ⟨rfl, rfl⟩
          go_wp2_with fail
          refine (Try.bits_Mul64 x y (by omega) (by omega) _).mono ?_
          rw [HP2.out]
          rintro e w3 ⟨rfl, rfl⟩
          go_wp2_with fail
          refine (hd64 _).mono ?_
          rintro e w4 ⟨rfl, n, rfl⟩
          go_wp2_with fail
          refine (signed_any (F) m _ (by omega)).mono ?_
          rw [HS.out]
          rintro e w6 ⟨rfl, rfl⟩
          go_wp2_with fail
          go_ret2
          exact ⟨rfl, ((Stp.refl _ _).alloc _).drewN _⟩

end Go.Proofs.Ytbjjfjgomkmdhaa
