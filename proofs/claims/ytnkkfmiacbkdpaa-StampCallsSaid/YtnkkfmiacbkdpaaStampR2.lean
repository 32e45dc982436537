/- stamp: what the document's own functions answer: the fraction bit by bit, and the nearest era. -/
import Derived.Test.YtnkkfmiacbkdpaaStampR1
import Derived.Outline
namespace Go.Proofs.Ytnkkfmiacbkdpaa
open Go.RowKit
set_option linter.unusedVariables false
set_option linter.unusedSimpArgs false

/-- One bit more. -/
theorem bit_more {f r P k : Int} (h : f * 1000000000 + r = k * P) (r0 : 0 ≤ r) (r1 : r < 1000000000) :
    (2 * r < 1000000000 → f * 2 * 1000000000 + r * 2 = k * (2 * P)) ∧ (1000000000 ≤ 2 * r → (f * 2 + 1) * 1000000000 + (r * 2 - 1000000000) = k * (2 * P)) := by
  have e : k * (2 * P) = 2 * (k * P) := by rw [← Int.mul_assoc, Int.mul_comm k 2, Int.mul_assoc]
  rw [e, ← h]
  omega
theorem bit_lt {f r P k : Int} (h : f * 1000000000 + r = k * P) (r0 : 0 ≤ r) (k1 : k ≤ 999999999) (P0 : 0 < P) (k0 : 0 ≤ k) : f < P := by
  have h1 : k * P ≤ 999999999 * P := Int.mul_le_mul_of_nonneg_right k1 (by omega)
  omega
def pow2 (i : Nat) : Int := ((2 ^ i : Nat) : Int)
theorem pow2_succ (i : Nat) : pow2 (i + 1) = 2 * pow2 i := by unfold pow2; rw [Nat.pow_succ]; omega
theorem pow2_pos (i : Nat) : 0 < pow2 i := by unfold pow2; have := Nat.two_pow_pos i; omega
theorem pow2_le {i : Nat} (h : i ≤ 63) : pow2 i ≤ 9223372036854775808 := by
  unfold pow2
  have := Nat.pow_le_pow_right (show 0 < 2 by decide) h
  have e : (2 : Nat) ^ 63 = 9223372036854775808 := by decide
  omega
theorem pow2_64 : pow2 64 = 18446744073709551616 := by decide

theorem frac_end {M x y : Int} (h : y * 1000000000 + x = M) (x0 : 0 ≤ x) (x1 : x ≤ 999999999) : (M + 999999999) / 1000000000 = if 0 < x then y + 1 else y := by
  subst h
  split <;> omega
theorem frac_top {k x y : Int} (h : y * 1000000000 + x = k * 18446744073709551616) (x0 : 0 ≤ x) (k1 : k ≤ 999999999) : y ≤ 18446744073709551614 := by omega

set_option maxHeartbeats 1000000 in
theorem rnsdate_any (n : Int) (w : World) (h : -9223372036854775808 ≤ n ∧ n ≤ 9223372036854775807) :
    Calls Try.prog 21 #[.int .i64 n] w fun e w' => e = .returned (dateS n).val ∧ Stp [] w w' := by
  obtain ⟨h0, h1⟩ := h
  have p1 := fun w => rparts_any n w ⟨h0, h1⟩
  have p2 := fun w => rera_any (n / 1000000000) w (by omega)
  obtain ⟨k, hk⟩ : ∃ k, n % 1000000000 = k := ⟨_, rfl⟩
  obtain ⟨o, ho⟩ : ∃ o, n / 1000000000 % 4294967296 = o := ⟨_, rfl⟩
  obtain ⟨c, hc⟩ : ∃ c, n / 1000000000 / 4294967296 = c := ⟨_, rfl⟩
  have k0 : 0 ≤ k := by omega
  have k1 : k ≤ 999999999 := by omega
  have o0 : 0 ≤ o := by omega
  have o1 : o ≤ 4294967295 := by omega
  have c0 : -3 ≤ c := by omega
  have c1 : c ≤ 3 := by omega
  have hS : (dateS n).val = .agg #[.int .i32 c, .int .u32 o, .int .u64 ((k * 18446744073709551616 + 999999999) / 1000000000)] := by
    unfold DateS.val dateS
    simp only [hk, ho, hc]
  rw [hS]
  rw [hk] at p1
  rw [ho, hc] at p2
  have P := Lib.hid (And.intro p1 p2)
  clear p1 p2 hS hk ho hc h0 h1
  go_enter Try.func21, Try.ntmps21
  go_wp2_with fail
  refine (P.out.1 _).mono ?_
  rintro e w1 ⟨rfl, rfl⟩
  go_wp2_with fail
  refine (P.out.2 _).mono ?_
  rintro e w1 ⟨rfl, rfl⟩
  go_wp2_with fail
  go_loop [4, 7, 8] (fun r f i => ∃ (j : Nat) (x y : Int), j ≤ 64 ∧ i = .int .i64 j ∧ r = .int .u64 x ∧ f = .int .u64 y ∧ (0 ≤ x ∧ x ≤ 999999999) ∧ 0 ≤ y ∧ Hid (y * 1000000000 + x = k * pow2 j)) (fun _ _ i => 64 - (intOf i).toNat)
  case atStart => exact ⟨0, k, 0, by omega, rfl, rfl, rfl, ⟨k0, k1⟩, by omega, by show (0 : Int) * 1000000000 + k = k * pow2 0; rw [show pow2 0 = 1 from rfl]; omega⟩
  case round =>
    obtain ⟨j, x, y, hj, rfl, rfl, rfl, ⟨x0, x1⟩, y0, HE⟩ := hrel
    by_cases hlt : j < 64
    · have hy : y ≤ 9223372036854775807 := by
        have h1 := bit_lt HE.out x0 k1 (pow2_pos j) k0
        have h2 := pow2_le (show j ≤ 63 by omega)
        omega
      have hb := bit_more HE.out x0 (by omega)
      rw [← pow2_succ] at hb
      have HB := Lib.hid hb
      clear hb HE
      by_cases hx : 1000000000 ≤ x * 2
      · have H2 : Hid ((y * 2 + 1) * 1000000000 + (x * 2 - 1000000000) = k * pow2 (j + 1)) := HB.out.2 (by omega)
        go_wp2_with fail
        go_round
        case rel => exact ⟨j + 1, _, _, by omega, by go_num, rfl, rfl, by omega, by omega, H2⟩
        case measure => simp [intOf]; omega
      · have H2 : Hid (y * 2 * 1000000000 + x * 2 = k * pow2 (j + 1)) := HB.out.1 (by omega)
        go_wp2_with fail
        go_round
        case rel => exact ⟨j + 1, _, _, by omega, by go_num, rfl, rfl, by omega, by omega, H2⟩
        case measure => simp [intOf]; omega
    · obtain rfl : j = 64 := by omega
      have hE : y * 1000000000 + x = k * 18446744073709551616 := by rw [← pow2_64]; exact HE.out
      have hy : y ≤ 18446744073709551614 := frac_top hE x0 k1
      have hv : (k * 18446744073709551616 + 999999999) / 1000000000 = if 0 < x then y + 1 else y := frac_end hE x0 x1
      have HV := Lib.hid hv
      clear hE hv HE hlt
      by_cases hx : 0 < x
      · go_wp2_with fail
        exact bodyPost_ret (v := .agg #[.int .i32 c, .int .u32 o, .int .u64 (y + 1)]) (by simp [results, Try.results21, go_sem]) rfl ⟨by rw [HV.out, if_pos (by omega)], (Stp.refl _ _).alloc _⟩
      · go_wp2_with fail
        exact bodyPost_ret (v := .agg #[.int .i32 c, .int .u32 o, .int .u64 y]) (by simp [results, Try.results21, go_sem]) rfl ⟨by rw [HV.out, if_neg (by omega)], (Stp.refl _ _).alloc _⟩

/-- Which of the three is nearest. -/
theorem near_era {f p : Int} (f0 : 0 ≤ f) (f1 : f < 4294967296000000000) (p0 : 0 ≤ p) (p1 : p ≤ 4611686018427387904) :
    awayS p (f - 4294967296000000000) < awayS p (f - 8589934592000000000) ∧
    (awayS p f < awayS p (f - 4294967296000000000) ↔ 2 * (f - p) < 4294967296000000000) ∧
    (2 * (f - p) < 4294967296000000000 → (awayS p (f + 4294967296000000000) < awayS p f ↔ 4294967296000000000 < 2 * (p - f))) ∧
    (¬ 2 * (f - p) < 4294967296000000000 → ¬ awayS p (f + 4294967296000000000) < awayS p (f - 4294967296000000000)) := by
  unfold awayS
  refine ⟨?_, ?_, ?_, ?_⟩ <;> (repeat' split) <;> omega
theorem awayS_bd {p n : Int} (p0 : 0 ≤ p) (p1 : p ≤ 4611686018427387904) (n0 : -9223372036854775808 ≤ n) (n1 : n ≤ 9223372036854775807) : 0 ≤ awayS p n ∧ awayS p n ≤ 13835058055282163712 := by unfold awayS; split <;> omega

set_option maxHeartbeats 2000000 in
theorem rstampns_any (u p : Int) (w : World) (h : 0 ≤ u ∧ u ≤ 18446744073709551615) (hp : -9223372036854775808 ≤ p ∧ p ≤ 9223372036854775807) :
    Calls Try.prog 19 #[.int .u64 u, .int .i64 p] w fun e w' => e = .returned (.int .i64 (stampNsS u (pivotS p))) ∧ w' = w := by
  have fb := firstS_bd u h
  have eF : firstS u = u / 4294967296 * 1000000000 + u % 4294967296 * 1000000000 / 4294967296 := rfl
  have hS : ∀ q, stampNsS u q = if 4294967296000000000 ≤ 2 * (firstS u - q) then firstS u - 4294967296000000000
    else if 4294967296000000000 < 2 * (q - firstS u) then firstS u + 4294967296000000000 else firstS u := fun _ => rfl
  have pb := pivotS_bd p
  have hP : pivotS p = if p < 0 then 0 else if 4611686018427387904 < p then 4611686018427387904 else p := rfl
  rw [hS]
  clear hS
  generalize firstS u = f at *
  generalize pivotS p = q at *
  obtain ⟨f0, f1⟩ := fb
  obtain ⟨q0, q1⟩ := pb
  have ne := near_era f0 f1 q0 q1
  have a0 := fun w => raway_any (f - 8589934592000000000) q w (by omega) ⟨q0, q1⟩
  have a1 := fun w => raway_any (f - 4294967296000000000) q w (by omega) ⟨q0, q1⟩
  have a2 := fun w => raway_any f q w (by omega) ⟨q0, q1⟩
  have a3 := fun w => raway_any (f + 4294967296000000000) q w (by omega) ⟨q0, q1⟩
  have b0 := awayS_bd (n := f - 8589934592000000000) q0 q1 (by omega) (by omega)
  have b1 := awayS_bd (n := f - 4294967296000000000) q0 q1 (by omega) (by omega)
  have b2 := awayS_bd (n := f) q0 q1 (by omega) (by omega)
  have b3 := awayS_bd (n := f + 4294967296000000000) q0 q1 (by omega) (by omega)
  generalize awayS q (f - 8589934592000000000) = d0 at *
  generalize awayS q (f - 4294967296000000000) = d1 at *
  generalize awayS q f = d2 at *
  generalize awayS q (f + 4294967296000000000) = d3 at *
  have A := Lib.hid (And.intro a0 (And.intro a1 (And.intro a2 a3)))
  have e0 : u / 4294967296 * 1000000000 + u % 4294967296 * 1000000000 / 4294967296 = f := eF.symm
  have u0 := h.1
  have u1 := h.2
  have hd : d1 < d0 := ne.1
  have NE := Lib.hid ne
  have HP := Lib.hid hP
  clear a0 a1 a2 a3 eF h ne b0 b1 b2 b3 hP
  have e1 : IntKind.i64.wrap (f - 8589934592000000000) = f - 8589934592000000000 := IntWalk.i64_in _ (by omega)
  have e2 : IntKind.i64.wrap (f - 8589934592000000000 + 4294967296000000000) = f - 4294967296000000000 := by rw [show f - 8589934592000000000 + 4294967296000000000 = f - 4294967296000000000 by omega]; exact IntWalk.i64_in _ (by omega)
  have e3 : IntKind.i64.wrap (f - 4294967296000000000 + 4294967296000000000) = f := by rw [show f - 4294967296000000000 + 4294967296000000000 = f by omega]; exact IntWalk.i64_in _ (by omega)
  have e4 : IntKind.i64.wrap (f + 4294967296000000000) = f + 4294967296000000000 := IntWalk.i64_in _ (by omega)
  have hq : (p < 0 ∧ q = 0) ∨ (¬ p < 0 ∧ 4611686018427387904 < p ∧ q = 4611686018427387904) ∨ (¬ p < 0 ∧ ¬ 4611686018427387904 < p ∧ q = p) := by
    have := HP.out
    split at this
    · exact .inl ⟨‹_›, this⟩
    · split at this
      · exact .inr (.inl ⟨‹_›, ‹_›, this⟩)
      · exact .inr (.inr ⟨‹_›, ‹_›, this⟩)
  clear HP
  by_cases g2 : 2 * (f - q) < 4294967296000000000
  · have hd2 : d2 < d1 := NE.out.2.1.2 g2
    rw [if_neg (by omega)]
    by_cases g3 : 4294967296000000000 < 2 * (q - f)
    · have hd3 : d3 < d2 := (NE.out.2.2.1 g2).2 g3
      rw [if_pos g3]
      clear NE g2 g3
      rcases hq with ⟨h1, rfl⟩ | ⟨h1, h2, rfl⟩ | ⟨h1, h2, rfl⟩
      all_goals
        go_enter Try.func19, Try.ntmps19
        go_wp2_with fail
        refine wp_loop_rounds 4 ?_
        rw [rounds_succ]
        go_wp2_with fail
        refine (A.out.2.1 _).mono ?_
        rintro e w1 ⟨rfl, rfl⟩
        go_wp2_with fail
        refine (A.out.1 _).mono ?_
        rintro e w1 ⟨rfl, rfl⟩
        go_wp2_with fail
        rw [rounds_succ]
        go_wp2_with fail
        refine (A.out.2.2.1 _).mono ?_
        rintro e w1 ⟨rfl, rfl⟩
        go_wp2_with fail
        refine (A.out.2.1 _).mono ?_
        rintro e w1 ⟨rfl, rfl⟩
        go_wp2_with fail
        rw [rounds_succ]
        go_wp2_with fail
        refine (A.out.2.2.2 _).mono ?_
        rintro e w1 ⟨rfl, rfl⟩
        go_wp2_with fail
        refine (A.out.2.2.1 _).mono ?_
        rintro e w1 ⟨rfl, rfl⟩
        go_wp2_with fail
        rw [rounds_succ]
        go_wp2_with fail
        go_ret
        exact ⟨rfl, rfl⟩
    · have hd3 : ¬ d3 < d2 := fun h => g3 ((NE.out.2.2.1 g2).1 h)
      rw [if_neg g3]
      clear NE g2 g3
      rcases hq with ⟨h1, rfl⟩ | ⟨h1, h2, rfl⟩ | ⟨h1, h2, rfl⟩
      all_goals
        go_enter Try.func19, Try.ntmps19
        go_wp2_with fail
        refine wp_loop_rounds 4 ?_
        rw [rounds_succ]
        go_wp2_with fail
        refine (A.out.2.1 _).mono ?_
        rintro e w1 ⟨rfl, rfl⟩
        go_wp2_with fail
        refine (A.out.1 _).mono ?_
        rintro e w1 ⟨rfl, rfl⟩
        go_wp2_with fail
        rw [rounds_succ]
        go_wp2_with fail
        refine (A.out.2.2.1 _).mono ?_
        rintro e w1 ⟨rfl, rfl⟩
        go_wp2_with fail
        refine (A.out.2.1 _).mono ?_
        rintro e w1 ⟨rfl, rfl⟩
        go_wp2_with fail
        rw [rounds_succ]
        go_wp2_with fail
        refine (A.out.2.2.2 _).mono ?_
        rintro e w1 ⟨rfl, rfl⟩
        go_wp2_with fail
        refine (A.out.2.2.1 _).mono ?_
        rintro e w1 ⟨rfl, rfl⟩
        go_wp2_with fail
        rw [rounds_succ]
        go_wp2_with fail
        go_ret
        exact ⟨rfl, rfl⟩
  · have hd2 : ¬ d2 < d1 := fun h => g2 (NE.out.2.1.1 h)
    have hd3 : ¬ d3 < d1 := NE.out.2.2.2 g2
    rw [if_pos (by omega)]
    clear NE g2
    rcases hq with ⟨h1, rfl⟩ | ⟨h1, h2, rfl⟩ | ⟨h1, h2, rfl⟩
    all_goals
      go_enter Try.func19, Try.ntmps19
      go_wp2_with fail
      refine wp_loop_rounds 4 ?_
      rw [rounds_succ]
      go_wp2_with fail
      refine (A.out.2.1 _).mono ?_
      rintro e w1 ⟨rfl, rfl⟩
      go_wp2_with fail
      refine (A.out.1 _).mono ?_
      rintro e w1 ⟨rfl, rfl⟩
      go_wp2_with fail
      rw [rounds_succ]
      go_wp2_with fail
      refine (A.out.2.2.1 _).mono ?_
      rintro e w1 ⟨rfl, rfl⟩
      go_wp2_with fail
      refine (A.out.2.1 _).mono ?_
      rintro e w1 ⟨rfl, rfl⟩
      go_wp2_with fail
      rw [rounds_succ]
      go_wp2_with fail
      refine (A.out.2.2.2 _).mono ?_
      rintro e w1 ⟨rfl, rfl⟩
      go_wp2_with fail
      refine (A.out.2.1 _).mono ?_
      rintro e w1 ⟨rfl, rfl⟩
      go_wp2_with fail
      rw [rounds_succ]
      go_wp2_with fail
      go_ret
      exact ⟨rfl, rfl⟩
end Go.Proofs.Ytnkkfmiacbkdpaa
