/- wall: the document's answers: within, time, Rate, Slewed. -/
import Derived.Test.YtkohpeonnoegpaaDigFix
import Derived.Test.YtkohpeonnoegpaaWallR
namespace Go.Proofs.Ytkohpeonnoegpaa
open Go.RowKit
set_option linter.unusedVariables false
set_option linter.unusedSimpArgs false

theorem rwithin_any (mi : Bool) (A : Option Addr) (n c : Nat) (v lo hi : Int) (w : World) (h : Num w mi A n c v) (hn : n ≤ 1000) (hlo : -9223372036854775808 ≤ lo) (hhi : hi ≤ 9223372036854775807) (hlh : lo ≤ hi) :
    Calls Try.prog 49 #[.agg #[.bool mi, .slice A n c], .int .i64 lo, .int .i64 hi] w fun e w' => e = .returned (.int .i64 (clampS v lo hi)) ∧ Stp [] w w' := by
  have I := Lib.hid (fun (w' : World) (hs : Stp [] w w') => dInt_any mi A n c v w' ((h.raw hn).stp hs))
  have hm := h.minus
  clear h
  have q1 := Blk.new w 61 #[.bool mi, .slice A n c]
  have Q := Lib.hid q1
  have S := Lib.hid ((Stp.refl [] w).alloc (.cells #[.bool mi, .slice A n c] 61))
  clear q1
  unfold clampS
  by_cases hf : fits v
  · have hf' : -9223372036854775808 ≤ v ∧ v ≤ 9223372036854775807 := hf
    have HF := Lib.hid hf
    clear hf hm
    by_cases h1 : v < lo
    · rw [if_pos h1]
      go_enter Try.func49, Try.ntmps49
      go_wp2_with fail
      refine (I.out _ S.out).mono ?_
      rintro e w1 ⟨x, b, rfl, g1, g2, s1⟩
      obtain ⟨rfl, rfl⟩ := g1 HF.out
      obtain ⟨z0, _, _, _⟩ := big_cells (Q.out.stp s1)
      clear g1 g2
      go_wp2_with fail
      go_ret
      exact ⟨rfl, S.out.trans s1⟩
    · rw [if_neg h1]
      by_cases h2 : v > hi
      · rw [if_pos h2]
        have h2' : hi < v := h2
        go_enter Try.func49, Try.ntmps49
        go_wp2_with fail
        refine (I.out _ S.out).mono ?_
        rintro e w1 ⟨x, b, rfl, g1, g2, s1⟩
        obtain ⟨rfl, rfl⟩ := g1 HF.out
        obtain ⟨z0, _, _, _⟩ := big_cells (Q.out.stp s1)
        clear g1 g2
        go_wp2_with fail
        go_ret
        exact ⟨rfl, S.out.trans s1⟩
      · rw [if_neg h2]
        have h2' : ¬ hi < v := h2
        go_enter Try.func49, Try.ntmps49
        go_wp2_with fail
        refine (I.out _ S.out).mono ?_
        rintro e w1 ⟨x, b, rfl, g1, g2, s1⟩
        obtain ⟨rfl, rfl⟩ := g1 HF.out
        obtain ⟨z0, _, _, _⟩ := big_cells (Q.out.stp s1)
        clear g1 g2
        go_wp2_with fail
        go_ret
        exact ⟨rfl, S.out.trans s1⟩
  · have hf' : ¬ (-9223372036854775808 ≤ v ∧ v ≤ 9223372036854775807) := hf
    have HF := Lib.hid hf
    clear hf
    by_cases hv : v < 0
    · rw [if_pos (by omega)]
      obtain rfl : mi = true := by rw [hm]; simp [hv]
      clear hm hv hf'
      go_enter Try.func49, Try.ntmps49
      go_wp2_with fail
      refine (I.out _ S.out).mono ?_
      rintro e w1 ⟨x, b, rfl, g1, g2, s1⟩
      obtain rfl := g2 HF.out
      obtain ⟨z0, _, _, _⟩ := big_cells (Q.out.stp s1)
      clear g1 g2
      go_wp2_with fail
      go_ret
      exact ⟨rfl, S.out.trans s1⟩
    · rw [if_neg (by omega), if_pos (by omega)]
      obtain rfl : mi = false := by rw [hm]; simp; omega
      clear hm hv hf'
      go_enter Try.func49, Try.ntmps49
      go_wp2_with fail
      refine (I.out _ S.out).mono ?_
      rintro e w1 ⟨x, b, rfl, g1, g2, s1⟩
      obtain rfl := g2 HF.out
      obtain ⟨z0, _, _, _⟩ := big_cells (Q.out.stp s1)
      clear g1 g2
      go_wp2_with fail
      go_ret
      exact ⟨rfl, S.out.trans s1⟩

/-- An int64 brought between two others. -/
theorem rof_within (a lo hi : Int) (w : World) (ha : -9223372036854775808 ≤ a ∧ a ≤ 9223372036854775807) {mi : Bool} {A : Option Addr} {n c : Nat} (h : Num w mi A n c a) (hlo : -9223372036854775808 ≤ lo) (hhi : hi ≤ 9223372036854775807) (hlh : lo ≤ hi) :
    Calls Try.prog 49 #[.agg #[.bool mi, .slice A n c], .int .i64 lo, .int .i64 hi] w fun e w' => e = .returned (.int .i64 (clampS a lo hi)) ∧ Stp [] w w' :=
  rwithin_any mi A n c a lo hi w h (by have := h.small (by omega); omega) hlo hhi hlh
theorem rtime_any (a : Int) (w : World) (ha : -9223372036854775808 ≤ a ∧ a ≤ 9223372036854775807) :
    Calls Try.prog 48 #[.int .i64 a] w fun e w' => e = .returned (.int .i64 (timeS a)) ∧ Stp [] w w' := by
  have O1 := Lib.hid (fun w => dOf_any a w ha)
  have W1 := Lib.hid (fun (w : World) (mi : Bool) (A : Option Addr) (n c : Nat) (h : Num w mi A n c a) => rof_within a 0 4611686018427387904 w ha h (by decide) (by decide) (by decide))
  have e : clampS a 0 4611686018427387904 = timeS a := rfl
  rw [e] at W1
  clear ha e
  go_enter Try.func48, Try.ntmps48
  go_wp2_with fail
  refine (O1.out _).mono ?_
  rintro e w1 ⟨m1, A1, n1, c1, rfl, d1, s1⟩
  go_wp2_with fail
  refine (W1.out _ _ _ _ _ d1).mono ?_
  rintro e w2 ⟨rfl, s2⟩
  go_wp2_with fail
  go_ret
  exact ⟨rfl, s1.trans s2⟩

theorem mulDivS_zero (up : Bool) (s : Int) (hs : 0 < s) : mulDivS up 0 1000000000 s = (0, 0) := by
  unfold mulDivS
  rw [if_neg (by omega)]
  cases up <;> simp
theorem mulDivS_bd (up : Bool) (a b c : Int) : -9223372036854775808 ≤ (mulDivS up a b c).1 ∧ (mulDivS up a b c).1 ≤ 9223372036854775807 := by
  have key : ∀ q : Int, -9223372036854775808 ≤ (if -9223372036854775808 ≤ q ∧ q ≤ 9223372036854775807 then (q, (0 : Int)) else (0, 20)).1 ∧ (if -9223372036854775808 ≤ q ∧ q ≤ 9223372036854775807 then (q, (0 : Int)) else (0, 20)).1 ≤ 9223372036854775807 := fun q => by
    by_cases h : -9223372036854775808 ≤ q ∧ q ≤ 9223372036854775807
    · rw [if_pos h]; exact h
    · rw [if_neg h]; decide
  unfold mulDivS
  by_cases h : c ≤ 0
  · rw [if_pos h]; decide
  · rw [if_neg h]
    exact key _
set_option maxHeartbeats 1000000 in
theorem rrate_any (a s : Int) (w : World) (ha : -9223372036854775808 ≤ a ∧ a ≤ 9223372036854775807) (hs : -9223372036854775808 ≤ s ∧ s ≤ 9223372036854775807) :
    Calls Try.prog 38 #[.int .i64 a, .int .i64 s] w fun e w' => e = .returned (.int .i64 (rateS a s)) ∧ Stp [] w w' := by
  have T := Lib.hid (fun w => rtime_any s w hs)
  have tb := timeS_bd s
  unfold rateS
  clear hs
  generalize timeS s = t at *
  obtain ⟨t0, t1⟩ := tb
  by_cases h0 : t = 0
  · subst h0
    rw [if_pos rfl]
    go_enter Try.func38, Try.ntmps38
    go_wp2_with fail
    refine (T.out _).mono ?_
    rintro e w1 ⟨rfl, s1⟩
    go_wp2_with fail
    go_ret
    exact ⟨rfl, s1⟩
  · rw [if_neg h0]
    have hne : (t == 0) = false := by simp [h0]
    have M := Lib.hid (fun (up : Bool) w => dmd_any up a 1000000000 t w ha (by decide) (by omega))
    have W1 := Lib.hid (fun (x : Int) (hx : -9223372036854775808 ≤ x ∧ x ≤ 9223372036854775807) (w : World) (mi : Bool) (A : Option Addr) (n c : Nat) (h : Num w mi A n c x) => (show Calls Try.prog 49 #[.agg #[.bool mi, .slice A n c], .int .i64 (-500000), .int .i64 500000] w fun e w' => e = .returned (.int .i64 (ableS x)) ∧ Stp [] w w' from rof_within x (-500000) 500000 w hx h (by decide) (by decide) (by decide)))
    have O1 := Lib.hid (fun (x : Int) (hx : -9223372036854775808 ≤ x ∧ x ≤ 9223372036854775807) w => dOf_any x w hx)
    by_cases h1 : a < 0
    · rw [if_pos h1]
      have hd : decide (0 < a) = false := decide_eq_false (by omega)
      have hx := mulDivS_bd false a 1000000000 t
      have M1 := Lib.hid (fun w => M.out false w)
      generalize mulDivS false a 1000000000 t = r at *
      obtain ⟨r1, r2⟩ := r
      simp only at hx M1 ⊢
      have HX := Lib.hid hx
      clear hx M ha
      by_cases h2 : r2 = 0
      · subst h2
        rw [if_pos rfl]
        go_enter Try.func38, Try.ntmps38
        go_wp2_with fail
        refine (T.out _).mono ?_
        rintro e w1 ⟨rfl, s1⟩
        go_wp2_with fail
        refine (M1.out _).mono ?_
        rintro e w2 ⟨rfl, s2⟩
        go_wp2_with fail
        refine (O1.out _ HX.out _).mono ?_
        rintro e w3 ⟨m3, A3, n3, c3, rfl, d3, s3⟩
        go_wp2_with fail
        refine (W1.out _ HX.out _ _ _ _ _ d3).mono ?_
        rintro e w4 ⟨rfl, s4⟩
        go_wp2_with fail
        go_ret
        exact ⟨rfl, ((s1.trans s2).trans s3).trans s4⟩
      · rw [if_neg h2]
        have hne2 : (r2 == 0) = false := by simp [h2]
        have hne3 : (r2 != 0) = true := by simp [h2]
        go_enter Try.func38, Try.ntmps38
        go_wp2_with fail
        refine (T.out _).mono ?_
        rintro e w1 ⟨rfl, s1⟩
        go_wp2_with fail
        refine (M1.out _).mono ?_
        rintro e w2 ⟨rfl, s2⟩
        go_wp2_with fail
        go_ret
        exact ⟨rfl, s1.trans s2⟩
    · rw [if_neg h1]
      have M1 : Hid (∀ w, Calls Try.prog 47 #[.int .i64 a, .int .i64 1000000000, .int .i64 t, .bool (decide (0 < a))] w fun e w' => e = .returned (.tuple #[.int .i64 (mulDivS true a 1000000000 t).1, .int .i64 (mulDivS true a 1000000000 t).2]) ∧ Stp [] w w') := fun w => by
        by_cases ha0 : a = 0
        · subst ha0
          have := M.out false w
          rw [mulDivS_zero false t (by omega)] at this
          rw [mulDivS_zero true t (by omega)]
          exact this
        · have := M.out true w
          rw [show decide (0 < a) = true from decide_eq_true (by omega)]
          exact this
      have hx := mulDivS_bd true a 1000000000 t
      generalize mulDivS true a 1000000000 t = r at *
      obtain ⟨r1, r2⟩ := r
      simp only at hx M1 ⊢
      have HX := Lib.hid hx
      clear hx M ha
      by_cases h2 : r2 = 0
      · subst h2
        rw [if_pos rfl]
        go_enter Try.func38, Try.ntmps38
        go_wp2_with fail
        refine (T.out _).mono ?_
        rintro e w1 ⟨rfl, s1⟩
        go_wp2_with fail
        refine (M1.out _).mono ?_
        rintro e w2 ⟨rfl, s2⟩
        go_wp2_with fail
        refine (O1.out _ HX.out _).mono ?_
        rintro e w3 ⟨m3, A3, n3, c3, rfl, d3, s3⟩
        go_wp2_with fail
        refine (W1.out _ HX.out _ _ _ _ _ d3).mono ?_
        rintro e w4 ⟨rfl, s4⟩
        go_wp2_with fail
        go_ret
        exact ⟨rfl, ((s1.trans s2).trans s3).trans s4⟩
      · rw [if_neg h2]
        have hne2 : (r2 == 0) = false := by simp [h2]
        have hne3 : (r2 != 0) = true := by simp [h2]
        go_enter Try.func38, Try.ntmps38
        go_wp2_with fail
        refine (T.out _).mono ?_
        rintro e w1 ⟨rfl, s1⟩
        go_wp2_with fail
        refine (M1.out _).mono ?_
        rintro e w2 ⟨rfl, s2⟩
        go_wp2_with fail
        go_ret
        exact ⟨rfl, s1.trans s2⟩

set_option maxHeartbeats 1000000 in
theorem rslewed_any (r s : Int) (w : World) (hr : -9223372036854775808 ≤ r ∧ r ≤ 9223372036854775807) (hs : -9223372036854775808 ≤ s ∧ s ≤ 9223372036854775807) :
    Calls Try.prog 35 #[.int .i64 r, .int .i64 s] w fun e w' => e = .returned (.int .i64 (slewedS r s)) ∧ Stp [] w w' := by
  have T := Lib.hid (fun w => rtime_any s w hs)
  have O1 := Lib.hid (fun w => dOf_any r w hr)
  have W1 := Lib.hid (fun (w : World) (mi : Bool) (A : Option Addr) (n c : Nat) (h : Num w mi A n c r) => (show Calls Try.prog 49 #[.agg #[.bool mi, .slice A n c], .int .i64 (-500000), .int .i64 500000] w fun e w' => e = .returned (.int .i64 (ableS r)) ∧ Stp [] w w' from rof_within r (-500000) 500000 w hr h (by decide) (by decide) (by decide)))
  have tb := timeS_bd s
  have ab := ableS_bd r
  unfold slewedS
  clear hs hr
  generalize timeS s = t at *
  generalize ableS r = q at *
  have hb : -(4611686018427387904 * 500000) ≤ t * q ∧ t * q ≤ 4611686018427387904 * 500000 := by
    have h1 : (t * q).natAbs ≤ 4611686018427387904 * 500000 := by
      rw [Int.natAbs_mul]
      exact Nat.mul_le_mul (by omega) (by omega)
    omega
  have M := Lib.hid (fun w => dmd_any false t q 1000000000 w (by omega) (by omega) (by decide))
  have e : (mulDivS false t q 1000000000).1 = t * q / 1000000000 := by
    unfold mulDivS
    rw [if_neg (by decide)]
    simp only
    rw [if_pos (by simp; omega)]
    rfl
  rw [e] at M
  generalize (mulDivS false t q 1000000000).2 = er at *
  generalize t * q / 1000000000 = z at *
  clear e hb tb ab
  go_enter Try.func35, Try.ntmps35
  go_wp2_with fail
  refine (T.out _).mono ?_
  rintro e w1 ⟨rfl, s1⟩
  go_wp2_with fail
  refine (O1.out _).mono ?_
  rintro e w2 ⟨m2, A2, n2, c2, rfl, d2, s2⟩
  go_wp2_with fail
  refine (W1.out _ _ _ _ _ d2).mono ?_
  rintro e w3 ⟨rfl, s3⟩
  go_wp2_with fail
  refine (M.out _).mono ?_
  rintro e w4 ⟨rfl, s4⟩
  go_wp2_with fail
  go_ret
  exact ⟨rfl, ((s1.trans s2).trans s3).trans s4⟩
end Go.Proofs.Ytkohpeonnoegpaa
