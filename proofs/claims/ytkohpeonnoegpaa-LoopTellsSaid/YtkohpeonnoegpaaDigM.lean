/- The document's numbers: products that are divided. -/
import Derived.Test.YtkohpeonnoegpaaDigE
import Derived.Test.YtkohpeonnoegpaaDigW
import Derived.Test.YtkohpeonnoegpaaDigO
import Derived.Test.YtkohpeonnoegpaaDigT
namespace Go.Proofs.Ytkohpeonnoegpaa
open Go.RowKit
set_option linter.unusedVariables false
set_option linter.unusedSimpArgs false

/-- A quotient, down or up. -/
def divS (up : Bool) (x c : Int) : Int := if up then -((-x) / c) else x / c
theorem ceil_div (x c : Int) (hc : 0 < c) : (-x) / c = -(x / c + (if x % c > 0 then 1 else 0)) := by
  have h1 := Int.mul_ediv_add_emod x c
  have h2 := Int.emod_nonneg x (show c ≠ 0 by omega)
  have h3 := Int.emod_lt_of_pos x hc
  generalize x / c = q at *
  generalize x % c = r at *
  split
  · refine ((Int.ediv_emod_unique (r := c - r) hc).2 ⟨?_, by omega, by omega⟩).1
    grind
  · have : r = 0 := by omega
    refine ((Int.ediv_emod_unique (r := 0) hc).2 ⟨?_, by omega, by omega⟩).1
    grind
theorem div_told (up m : Bool) (x c q r : Int) (hc : 0 < c) (hm : m = decide (x < 0)) (he : (if m then -x else x) = q * c + r) (h0 : 0 ≤ r) (h1 : r < c) :
    (if m then -(if 0 < r ∧ m ≠ up then q + 1 else q) else (if 0 < r ∧ m ≠ up then q + 1 else q)) = divS up x c := by
  have hq : ∀ y : Int, y = q * c + r → y / c = q ∧ y % c = r := fun y hy => (Int.ediv_emod_unique hc).2 ⟨by rw [hy, Int.mul_comm]; omega, h0, h1⟩
  unfold divS
  cases m with
  | true =>
    have hx := hq (-x) (by simpa using he)
    cases up with
    | true => simp [hx.1]
    | false =>
      have e := ceil_div (-x) c hc
      rw [Int.neg_neg, hx.1, hx.2] at e
      simp [e]
      split <;> omega
  | false =>
    have hx := hq x (by simpa using he)
    cases up with
    | true =>
      have e := ceil_div x c hc
      rw [hx.1, hx.2] at e
      simp [e]
      split <;> omega
    | false => simp [hx.1]

set_option maxHeartbeats 4000000 in
theorem dMulDiv_any (a b c : Int) (up : Bool) (w : World) (ha : -9223372036854775808 ≤ a ∧ a ≤ 9223372036854775807) (hb : -9223372036854775808 ≤ b ∧ b ≤ 9223372036854775807) (hc : 0 < c ∧ c ≤ 9223372036854775807) :
    Calls Try.prog 47 #[.int .i64 a, .int .i64 b, .int .i64 c, .bool up] w fun e w' => e = .returned (.tuple #[.int .i64 (toldS (divS up (a * b) c)).1, .int .i64 (toldS (divS up (a * b) c)).2]) ∧ Stp [] w w' := by
  have O1 := Lib.hid (fun w => dOf_any a w ha)
  have O2 := Lib.hid (fun w => dOf_any b w hb)
  have O3 := Lib.hid (fun w => dOf_any c w (by omega))
  have HB := Lib.hid (And.intro (And.intro ha hb) (prod_bd ha hb))
  have hfd := field_big
  clear ha hb
  obtain ⟨hc0, hc1⟩ := hc
  obtain ⟨x, hx⟩ : ∃ x, a * b = x := ⟨_, rfl⟩
  rw [hx] at HB ⊢
  go_enter Try.func47, Try.ntmps47
  go_wp2_with fail
  refine (O1.out _).mono ?_
  rintro e w1 ⟨m1, A1, n1, c1, rfl, d1, s1⟩
  go_wp2_with fail
  refine (O2.out _).mono ?_
  rintro e w2 ⟨m2, A2, n2, c2, rfl, d2, s2⟩
  have d1' := d1.stp s2
  go_wp2_with fail
  refine (dTimes_any _ _ _ _ _ _ _ _ _ _ _ d1' d2 (by have := d1'.small (by have := HB.out; omega); omega) (by have := d2.small (by have := HB.out; omega); omega)).mono ?_
  rintro e w3 ⟨m3, A3, n3, c3, rfl, d3, s3⟩
  rw [hx] at d3
  have n3b := d3.wide (by have := HB.out.2; omega)
  have s03 := (s1.trans s2).trans s3
  go_wp2_with fail
  have bw := Blk.new w3 61 #[.bool m3, .slice A3 n3 c3]
  have sw := (Stp.refl [] w3).alloc (.cells #[.bool m3, .slice A3 n3 c3] 61)
  have dW := d3.stp sw
  have S0 := Lib.hid (s03.trans sw)
  generalize hW : w3.alloc (.cells #[.bool m3, .slice A3 n3 c3] 61) = W at *
  have HM := Lib.hid dW.minus
  obtain ⟨la, h1, h2, h3, h4, h5, h6, h7, _, _⟩ := dW.facts
  have OV := Lib.hid (fun (A9 : Option Addr) (n9 c9 : Nat) (lb : List Int) (w' : World) (hs : Stp [] W w') (hcr : CRow w' A9 n9 c9 lb) (hv : dval lb = c) => (show Calls Try.prog 52 #[.slice A3 n3 c3, .slice A9 n9 c9] w' (OverAns la lb w') from dOver_any A3 A9 n3 c3 n9 c9 la lb w' (h1.stp hs) hcr (by omega) (by omega) (by
    have h8 := hcr.2.2.2.len_le (n := 4) (by rw [hv, p65_4]; omega)
    have := hcr.1.2.1
    omega)))
  have LA := Lib.hid (show (if m3 then -x else x) = dval la from by
    cases m3 with
    | true => have := h6 rfl; simp; omega
    | false => have := h7 rfl; simp; omega)
  have K : ∀ w', Stp [] W w' → w'.cell? ⟨w3.heap.size, 0, none⟩ = some (.bool m3) ∧ w'.cell? ⟨w3.heap.size, 1, none⟩ = some (.slice A3 n3 c3) ∧ Stp [] W w' := fun w' st => ⟨(bw.stp st).cell 0, (bw.stp st).cell 1, st⟩
  have x0 := (K W (Stp.refl _ _)).1
  have x1 := (K W (Stp.refl _ _)).2.1
  clear bw sw dW d3 h1 h2 h3 h4 h5 h6 h7 d1 d1' d2 s1 s2 s3 s03 hW O1 O2
  go_region_held3 (fun w' => w'.cell? ⟨w3.heap.size, 0, none⟩ = some (.bool m3) ∧ w'.cell? ⟨w3.heap.size, 1, none⟩ = some (.slice A3 n3 c3) ∧ Stp [] W w')
    (first | (go_split_ands; refine K _ ?_; first | assumption | exact (Stp.refl _ _).drew | exact Stp.refl _ _ | exact Stp.trans (by assumption) s9 | exact Stp.trans (by assumption) s10))
    (first
      | (go_at_call 50; (with_reducible refine (O3.out _).mono ?_); rintro e w9 ⟨m9, A9, n9, c9, rfl, d9, s9⟩; obtain ⟨lb, cr9, v9⟩ := num_pos d9 hc0)
      | (go_at_call 52; (with_reducible refine (OV.out _ _ _ lb _ (by first | assumption | (go_split_ands; assumption)) cr9 v9).mono ?_); rintro e w10 ⟨Q, nq, cq, lq, R, nr, cr, lr, rfl, cq10, cr10, e10, l10, s10⟩))
  all_goals
    have sW : Stp [] W w10 := by first | assumption | (go_split_ands; assumption)
    obtain ⟨y0, y1, _⟩ := K w10 sW
    have hlr := dval_nonneg cr10.2.2.2.1
    have hlq := dval_nonneg cq10.2.2.2.1
    have hla := LA.out
    rw [v9] at e10 l10
    have nqb : nq ≤ 10 := by
      rw [← cq10.1.2.1]
      refine cq10.2.2.2.len_le ?_
      rw [p65_10]
      have h1 : dval lq * 1 ≤ dval lq * c := Int.mul_le_mul_of_nonneg_left (by omega) hlq
      have := HB.out.2
      cases m3 <;> simp at hla <;> omega
    have dv := div_told up m3 x c (dval lq) (dval lr) hc0 HM.out (by rw [hla]; exact e10) hlr l10
    have hnr : 0 < nr ↔ 0 < dval lr := by
      rw [← cr10.1.2.1]
      constructor
      · intro h
        exact cr10.2.2.2.pos (by intro e; rw [e] at h; simp at h)
      · intro h
        rcases Nat.eq_zero_or_pos lr.length with h0 | h0
        · have : lr = [] := List.eq_nil_of_length_eq_zero h0
          rw [this] at h
          exact absurd h (by decide)
        · exact h0
    simp only [← hnr] at dv
    have SS := Lib.hid (S0.out.trans sW)
    obtain ⟨z, hz⟩ : ∃ z, divS up x c = z := ⟨_, rfl⟩
    rw [hz] at dv
    have HZ := Lib.hid hz
    have CQ := Lib.hid cq10
    clear hz hlr hlq hla e10 l10 cq10 cr10 hnr K OV LA HM v9 cr9 s10
    by_cases hr : 0 < nr ∧ m3 ≠ up
    · rw [if_pos hr] at dv
      obtain ⟨hr1, hr2⟩ := hr
      have hne : (!(m3 == up)) = true := by simp [hr2]
      have PL := Lib.hid (dplus_any Q (some ⟨w10.heap.size, 0, none⟩) nq 1 cq 1 lq [1] (w10.alloc (.cells #[.int .u32 1] 77)) (CQ.out.1.stp ((Stp.refl [] w10).alloc _)) (lit_row w10 1 (by decide) (by decide)) (by omega) (by omega))
      have DV := Lib.hid dv
      clear dv
      go_wp2_with fail
      refine PL.out.mono ?_
      rintro e w11 ⟨A5, n5, c5, l5, rfl, f5, i1, i2, ⟨i3, i4⟩, s11⟩
      have s11' := ((Stp.refl [] w10).alloc _).trans s11
      have y0' := s11'.cell y0 (by simp)
      have TL := Lib.hid (dtold_any m3 A5 n5 c5 z w11 ⟨l5, f5, by have := f5.2.1; omega, i1, i2, by unfold sval; rw [i3, dval_one]; exact DV.out⟩)
      clear PL DV f5 i1 i2 i3 i4
      go_wp2_with fail
      refine TL.out.mono ?_
      rintro e w12 ⟨rfl, s12⟩
      go_wp2_with fail
      go_ret2
      exact ⟨by rw [HZ.out]; rfl, (SS.out.trans s11').trans s12⟩
    · rw [if_neg hr] at dv
      have TL := Lib.hid (dtold_any m3 Q nq cq z w10 ⟨lq, CQ.out.1, by omega, CQ.out.2.1, CQ.out.2.2.1, by unfold sval; exact dv⟩)
      clear dv
      by_cases hr1 : 0 < nr
      · have hr2 : m3 = up := by
          rcases Decidable.em (m3 = up) with h | h
          · exact h
          · exact absurd ⟨hr1, h⟩ hr
        have hne : (!(m3 == up)) = false := by simp [hr2]
        clear hr hr2
        go_wp2_with fail
        refine TL.out.mono ?_
        rintro e w12 ⟨rfl, s12⟩
        go_wp2_with fail
        go_ret2
        exact ⟨by rw [HZ.out]; rfl, SS.out.trans s12⟩
      · clear hr
        go_wp2_with fail
        refine TL.out.mono ?_
        rintro e w12 ⟨rfl, s12⟩
        go_wp2_with fail
        go_ret2
        exact ⟨by rw [HZ.out]; rfl, SS.out.trans s12⟩
theorem dMulDiv_bad (a b c : Int) (up : Bool) (w : World) (hc : c ≤ 0) :
    Calls Try.prog 47 #[.int .i64 a, .int .i64 b, .int .i64 c, .bool up] w fun e w' => e = .returned (.tuple #[.int .i64 0, .int .i64 1]) ∧ Stp [] w w' := by
  go_enter Try.func47, Try.ntmps47
  go_wp2_with fail
  go_ret2
  exact ⟨rfl, by first | exact Stp.refl _ _ | exact (Stp.refl _ _).alloc _⟩

end Go.Proofs.Ytkohpeonnoegpaa
