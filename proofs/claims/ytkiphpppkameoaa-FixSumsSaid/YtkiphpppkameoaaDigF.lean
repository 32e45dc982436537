/- The document's numbers: sums and differences of int64s, with an error or the number next to it; sizes; roots. -/
import Derived.Test.YtkiphpppkameoaaDigE
import Derived.Test.YtkiphpppkameoaaDigP
namespace Go.Proofs.Ytkiphpppkameoaa
open Go.RowKit
set_option linter.unusedVariables false
set_option linter.unusedSimpArgs false

def nextS (v : Int) : Int := if fits v then v else if v < 0 then -9223372036854775808 else 9223372036854775807
theorem dnear_any (mi : Bool) (A : Option Addr) (n c : Nat) (v : Int) (w : World) (h : Num w mi A n c v) (hn : n ≤ 1000) :
    Calls Try.prog 45 #[.agg #[.bool mi, .slice A n c]] w fun e w' => e = .returned (.int .i64 (nextS v)) ∧ Stp [] w w' := by
  have I := Lib.hid (fun (w' : World) (hs : Stp [] w w') => dInt_any mi A n c v w' ((h.raw hn).stp hs))
  have hm := h.minus
  clear h
  have q1 := Blk.new w 46 #[.bool mi, .slice A n c]
  have Q := Lib.hid q1
  have S := Lib.hid ((Stp.refl [] w).alloc (.cells #[.bool mi, .slice A n c] 46))
  clear q1
  unfold nextS
  by_cases hf : fits v
  · rw [if_pos hf]
    have HF := Lib.hid hf
    clear hf hm
    go_enter Try.func45, Try.ntmps45
    go_wp2_with fail
    refine (I.out _ S.out).mono ?_
    rintro e w1 ⟨x, b, rfl, h1, h2, s1⟩
    obtain ⟨rfl, rfl⟩ := h1 HF.out
    clear h1 h2
    go_wp2_with fail
    go_ret
    exact ⟨rfl, S.out.trans s1⟩
  · rw [if_neg hf]
    have HF := Lib.hid hf
    clear hf
    by_cases hv : v < 0
    · rw [if_pos hv]
      obtain rfl : mi = true := by rw [hm]; simp [hv]
      clear hm hv
      go_enter Try.func45, Try.ntmps45
      go_wp2_with fail
      refine (I.out _ S.out).mono ?_
      rintro e w1 ⟨x, b, rfl, h1, h2, s1⟩
      obtain rfl := h2 HF.out
      obtain ⟨z0, _, _, _⟩ := big_cells (Q.out.stp s1)
      clear h1 h2
      go_wp2_with fail
      go_ret
      exact ⟨rfl, S.out.trans s1⟩
    · rw [if_neg hv]
      obtain rfl : mi = false := by rw [hm]; simp; omega
      clear hm hv
      go_enter Try.func45, Try.ntmps45
      go_wp2_with fail
      refine (I.out _ S.out).mono ?_
      rintro e w1 ⟨x, b, rfl, h1, h2, s1⟩
      obtain rfl := h2 HF.out
      obtain ⟨z0, _, _, _⟩ := big_cells (Q.out.stp s1)
      clear h1 h2
      go_wp2_with fail
      go_ret
      exact ⟨rfl, S.out.trans s1⟩

theorem Num.small {w : World} {mi : Bool} {A : Option Addr} {n c : Nat} {v : Int} (h : Num w mi A n c v) (hv : -18446744073709551616 < v ∧ v < 18446744073709551616) : n ≤ 4 :=
  h.len 4 (by rw [p65_4]; exact hv)
theorem Num.wide {w : World} {mi : Bool} {A : Option Addr} {n c : Nat} {v : Int} (h : Num w mi A n c v) (hv : -1461501637330902918203684832716283019655932542976 < v ∧ v < 1461501637330902918203684832716283019655932542976) : n ≤ 10 :=
  h.len 10 (by rw [p65_10]; exact hv)

theorem dAdd_any (a b : Int) (w : World) (ha : -9223372036854775808 ≤ a ∧ a ≤ 9223372036854775807) (hb : -9223372036854775808 ≤ b ∧ b ≤ 9223372036854775807) :
    Calls Try.prog 24 #[.int .i64 a, .int .i64 b] w fun e w' => e = .returned (.tuple #[.int .i64 (toldS (a + b)).1, .int .i64 (toldS (a + b)).2]) ∧ Stp [] w w' := by
  have O1 := Lib.hid (fun w => dOf_any a w ha)
  have O2 := Lib.hid (fun w => dOf_any b w hb)
  have HB := Lib.hid (And.intro ha hb)
  clear ha hb
  go_enter Try.func24, Try.ntmps24
  go_wp2_with fail
  refine (O1.out _).mono ?_
  rintro e w1 ⟨m1, A1, n1, c1, rfl, d1, s1⟩
  go_wp2_with fail
  refine (O2.out _).mono ?_
  rintro e w2 ⟨m2, A2, n2, c2, rfl, d2, s2⟩
  have d1' := d1.stp s2
  go_wp2_with fail
  refine (dPlus_any _ _ _ _ _ _ _ _ _ _ _ d1' d2 (by have := d1'.small (by have := HB.out; omega); omega) (by have := d2.small (by have := HB.out; omega); omega)).mono ?_
  rintro e w3 ⟨m3, A3, n3, c3, rfl, d3, s3⟩
  go_wp2_with fail
  refine (dtold_any _ _ _ _ _ _ (d3.raw (by have := d3.wide (by have := HB.out; omega); omega))).mono ?_
  rintro e w4 ⟨rfl, s4⟩
  go_wp2_with fail
  go_ret2
  exact ⟨rfl, ((s1.trans s2).trans s3).trans s4⟩
theorem dSub_any (a b : Int) (w : World) (ha : -9223372036854775808 ≤ a ∧ a ≤ 9223372036854775807) (hb : -9223372036854775808 ≤ b ∧ b ≤ 9223372036854775807) :
    Calls Try.prog 25 #[.int .i64 a, .int .i64 b] w fun e w' => e = .returned (.tuple #[.int .i64 (toldS (a + -b)).1, .int .i64 (toldS (a + -b)).2]) ∧ Stp [] w w' := by
  have O1 := Lib.hid (fun w => dOf_any a w ha)
  have O2 := Lib.hid (fun w => dOf_any b w hb)
  have HB := Lib.hid (And.intro ha hb)
  clear ha hb
  go_enter Try.func25, Try.ntmps25
  go_wp2_with fail
  refine (O1.out _).mono ?_
  rintro e w1 ⟨m1, A1, n1, c1, rfl, d1, s1⟩
  go_wp2_with fail
  refine (O2.out _).mono ?_
  rintro e w2 ⟨m2, A2, n2, c2, rfl, d2, s2⟩
  go_wp2_with fail
  refine (dMinus_any _ _ _ _ _ _ d2 (by have := d2.small (by have := HB.out; omega); omega)).mono ?_
  rintro e w3 ⟨m3, A3, n3, c3, rfl, d3, s3⟩
  have d1' := d1.stp (s2.trans s3)
  go_wp2_with fail
  refine (dPlus_any _ _ _ _ _ _ _ _ _ _ _ d1' d3 (by have := d1'.small (by have := HB.out; omega); omega) (by have := d3.small (by have := HB.out; omega); omega)).mono ?_
  rintro e w4 ⟨m4, A4, n4, c4, rfl, d4, s4⟩
  go_wp2_with fail
  refine (dtold_any _ _ _ _ _ _ (d4.raw (by have := d4.wide (by have := HB.out; omega); omega))).mono ?_
  rintro e w5 ⟨rfl, s5⟩
  go_wp2_with fail
  go_ret2
  exact ⟨rfl, (((s1.trans s2).trans s3).trans s4).trans s5⟩
theorem dAddSat_any (a b : Int) (w : World) (ha : -9223372036854775808 ≤ a ∧ a ≤ 9223372036854775807) (hb : -9223372036854775808 ≤ b ∧ b ≤ 9223372036854775807) :
    Calls Try.prog 28 #[.int .i64 a, .int .i64 b] w fun e w' => e = .returned (.int .i64 (nextS (a + b))) ∧ Stp [] w w' := by
  have O1 := Lib.hid (fun w => dOf_any a w ha)
  have O2 := Lib.hid (fun w => dOf_any b w hb)
  have HB := Lib.hid (And.intro ha hb)
  clear ha hb
  go_enter Try.func28, Try.ntmps28
  go_wp2_with fail
  refine (O1.out _).mono ?_
  rintro e w1 ⟨m1, A1, n1, c1, rfl, d1, s1⟩
  go_wp2_with fail
  refine (O2.out _).mono ?_
  rintro e w2 ⟨m2, A2, n2, c2, rfl, d2, s2⟩
  have d1' := d1.stp s2
  go_wp2_with fail
  refine (dPlus_any _ _ _ _ _ _ _ _ _ _ _ d1' d2 (by have := d1'.small (by have := HB.out; omega); omega) (by have := d2.small (by have := HB.out; omega); omega)).mono ?_
  rintro e w3 ⟨m3, A3, n3, c3, rfl, d3, s3⟩
  go_wp2_with fail
  refine (dnear_any _ _ _ _ _ _ d3 (by have := d3.wide (by have := HB.out; omega); omega)).mono ?_
  rintro e w4 ⟨rfl, s4⟩
  go_wp2_with fail
  go_ret
  exact ⟨rfl, ((s1.trans s2).trans s3).trans s4⟩
theorem dSubSat_any (a b : Int) (w : World) (ha : -9223372036854775808 ≤ a ∧ a ≤ 9223372036854775807) (hb : -9223372036854775808 ≤ b ∧ b ≤ 9223372036854775807) :
    Calls Try.prog 30 #[.int .i64 a, .int .i64 b] w fun e w' => e = .returned (.int .i64 (nextS (a + -b))) ∧ Stp [] w w' := by
  have O1 := Lib.hid (fun w => dOf_any a w ha)
  have O2 := Lib.hid (fun w => dOf_any b w hb)
  have HB := Lib.hid (And.intro ha hb)
  clear ha hb
  go_enter Try.func30, Try.ntmps30
  go_wp2_with fail
  refine (O1.out _).mono ?_
  rintro e w1 ⟨m1, A1, n1, c1, rfl, d1, s1⟩
  go_wp2_with fail
  refine (O2.out _).mono ?_
  rintro e w2 ⟨m2, A2, n2, c2, rfl, d2, s2⟩
  go_wp2_with fail
  refine (dMinus_any _ _ _ _ _ _ d2 (by have := d2.small (by have := HB.out; omega); omega)).mono ?_
  rintro e w3 ⟨m3, A3, n3, c3, rfl, d3, s3⟩
  have d1' := d1.stp (s2.trans s3)
  go_wp2_with fail
  refine (dPlus_any _ _ _ _ _ _ _ _ _ _ _ d1' d3 (by have := d1'.small (by have := HB.out; omega); omega) (by have := d3.small (by have := HB.out; omega); omega)).mono ?_
  rintro e w4 ⟨m4, A4, n4, c4, rfl, d4, s4⟩
  go_wp2_with fail
  refine (dnear_any _ _ _ _ _ _ d4 (by have := d4.wide (by have := HB.out; omega); omega)).mono ?_
  rintro e w5 ⟨rfl, s5⟩
  go_wp2_with fail
  go_ret
  exact ⟨rfl, (((s1.trans s2).trans s3).trans s4).trans s5⟩
theorem dAbs_any (a : Int) (w : World) (ha : -9223372036854775808 ≤ a ∧ a ≤ 9223372036854775807) :
    Calls Try.prog 31 #[.int .i64 a] w fun e w' => e = .returned (.int .i64 (nextS (if a < 0 then -a else a))) ∧ w' = w := by
  obtain ⟨a0, a1⟩ := ha
  by_cases h1 : a = -9223372036854775808
  · subst h1
    have e : nextS (if (-9223372036854775808 : Int) < 0 then - (-9223372036854775808) else -9223372036854775808) = 9223372036854775807 := by decide
    rw [e]
    go_enter Try.func31, Try.ntmps31
    go_wp2_with fail
    go_ret
    exact ⟨rfl, rfl⟩
  · have hne : (a == -9223372036854775808) = false := by simp [h1]
    by_cases h2 : a < 0
    · have e : nextS (if a < 0 then -a else a) = -a := by
        rw [if_pos h2]
        unfold nextS
        rw [if_pos (by unfold fits; omega)]
      rw [e]
      clear e
      go_enter Try.func31, Try.ntmps31
      go_wp2_with fail
      go_ret
      exact ⟨rfl, rfl⟩
    · have e : nextS (if a < 0 then -a else a) = a := by
        rw [if_neg h2]
        unfold nextS
        rw [if_pos (by unfold fits; omega)]
      rw [e]
      clear e
      go_enter Try.func31, Try.ntmps31
      go_wp2_with fail
      go_ret
      exact ⟨rfl, rfl⟩
end Go.Proofs.Ytkiphpppkameoaa
