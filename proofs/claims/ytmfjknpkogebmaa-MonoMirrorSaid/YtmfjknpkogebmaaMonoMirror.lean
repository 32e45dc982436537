/- MonoMirror's walk. -/
import Derived.Test.YtmfjknpkogebmaaMonoRun
import Derived.Outline
namespace Go.Proofs.Ytmfjknpkogebmaa
open Go.RowKit
set_option linter.unusedVariables false
set_option linter.unusedSimpArgs false

theorem mirror_facts (S q p ma mb mc : Int) (hS : 0 ≤ S ∧ S ≤ 703687441776640) (hq : -500000 ≤ q ∧ q ≤ 500000) (hp : -500000 ≤ p ∧ p ≤ 500000) (h1 : ma = S + S * q / 1000000000) (h2 : mb = S + S * (-q) / 1000000000) (h3 : mc = S + S * p / 1000000000) :
    (ma + mb - 2 * S ≤ 0 ∧ -1 ≤ ma + mb - 2 * S) ∧ (p ≤ q → mc ≤ ma) ∧ (q ≤ p → ma ≤ mc) ∧ (0 ≤ ma ∧ ma ≤ 1407374883553281) ∧ (0 ≤ mb ∧ mb ≤ 1407374883553281) ∧ (0 ≤ mc ∧ mc ≤ 1407374883553281) := by
  have k1 : p ≤ q → S * p ≤ S * q := fun h => Int.mul_le_mul_of_nonneg_left h hS.1
  have k2 : q ≤ p → S * q ≤ S * p := fun h => Int.mul_le_mul_of_nonneg_left h hS.1
  have b1 : S * q ≤ S * 500000 := Int.mul_le_mul_of_nonneg_left hq.2 hS.1
  have b2 : S * (-500000) ≤ S * q := Int.mul_le_mul_of_nonneg_left hq.1 hS.1
  have b3 : S * p ≤ S * 500000 := Int.mul_le_mul_of_nonneg_left hp.2 hS.1
  have b4 : S * (-500000) ≤ S * p := Int.mul_le_mul_of_nonneg_left hp.1 hS.1
  rw [Int.mul_neg] at h2
  subst h1 h2 h3
  generalize S * q = x at *
  generalize S * p = y at *
  refine ⟨by omega, fun h => ?_, fun h => ?_, by omega, by omega, by omega⟩
  · have := k1 h; omega
  · have := k2 h; omega

set_option maxRecDepth 100000 in
set_option maxHeartbeats 4000000 in
theorem monoMirror_walk (r o : Int) (A : Option Addr) (n c : Nat) (l : List Int) (w : World) (hr : -9223372036854775808 ≤ r ∧ r ≤ 9223372036854775807) (ho : -9223372036854775808 ≤ o ∧ o ≤ 9223372036854775807)
    (hrd : Reads w w.heap.size 1 A n (l.map (Value.int .i64))) (hl : l.length = n) (hn : n * 8 ≤ 140737488351232) (hw : ∀ t ∈ l, -9223372036854775808 ≤ t ∧ t ≤ 9223372036854775807) :
    Calls Try.prog 3 #[.int .i64 r, .int .i64 o, .slice A n c] w fun e w' => e = .returned (.bool true) ∧ Stp [] w w' := by
  obtain ⟨q, hq⟩ : ∃ q, r.tmod 500001 = q := ⟨_, rfl⟩
  obtain ⟨p, hp⟩ : ∃ p, o.tmod 500001 = p := ⟨_, rfl⟩
  have q0 : -500001 < q := by rw [← hq]; exact Int.lt_tmod_of_pos r (by decide)
  have q1 : q < 500001 := by rw [← hq]; exact Int.tmod_lt_of_pos r (by decide)
  have p0 : -500001 < p := by rw [← hp]; exact Int.lt_tmod_of_pos o (by decide)
  have p1 : p < 500001 := by rw [← hp]; exact Int.tmod_lt_of_pos o (by decide)
  go_enter Try.func3, Try.ntmps3
  go_wp2_with fail
  refine (new_at0 _).mono ?_
  rintro e w1 ⟨ga, rfl, a1, s1, hga⟩
  go_wp2_with fail
  refine (new_at0 _).mono ?_
  rintro e w2 ⟨gb, rfl, b2, s2, hgb⟩
  go_wp2_with fail
  refine (new_at0 _).mono ?_
  rintro e w3 ⟨gc, rfl, c3, s3, hgc⟩
  go_wp2_with fail
  refine (awake_any _).mono ?_
  rintro e w4 ⟨rfl, s4⟩
  have n1 : ga ∉ [gb] ∧ ga ∉ [gc] ∧ gb ∉ [gc] ∧ gb ∉ [ga] ∧ gc ∉ [ga] ∧ gc ∉ [gb] := by
    have := lt_of_at a1
    have := lt_of_at b2
    have := s2.size
    have := s3.size
    simp
    omega
  have a4 := s4.at (s3.at (s2.at a1 (by simp)) (by simp)) (by simp)
  have b4 := s4.at (s3.at b2 (by simp)) (by simp)
  have c4 := s4.at c3 (by simp)
  go_wp2_with fail
  refine (setrate_is (MS.run q 0) a4 (run_zero q).symm (by omega)).mono ?_
  rintro e w5 ⟨rfl, a5, s5⟩
  go_wp2_with fail
  refine (setrate_is (MS.run (-q) 0) (s5.at b4 n1.2.2.2.1) (run_zero (-q)).symm (by omega)).mono ?_
  rintro e w6 ⟨rfl, b6, s6⟩
  go_wp2_with fail
  refine (setrate_is (MS.run p 0) (s6.at (s5.at c4 n1.2.2.2.2.1) n1.2.2.2.2.2) (run_zero p).symm (by omega)).mono ?_
  rintro e w7 ⟨rfl, c7, s7⟩
  have a7 := s7.at (s6.at a5 n1.1) n1.2.1
  have b7 := s7.at b6 n1.2.2.1
  go_wp2_with fail
  have t7 : Stp [] w w7 := by
    have u3 := (s1.trans s2).trans s3
    have hb : w.heap.size ≤ gb := Nat.le_trans s1.size hgb
    have hc : w.heap.size ≤ gc := Nat.le_trans (s1.trans s2).size hgc
    exact (((u3.trans s4).far s5 (.inr hga)).far s6 (.inr hb)).far s7 (.inr hc)
  have hb : w.heap.size ≤ gb := Nat.le_trans s1.size hgb
  have hc : w.heap.size ≤ gc := Nat.le_trans (s1.trans s2).size hgc
  obtain ⟨m1, m2, m3, m4, m5, m6⟩ := n1
  clear a1 b2 c3 s1 s2 s3 s4 s5 s6 s7 a4 b4 c4 a5 b6 hq hp hgb hgc
  go_loopw [49] (fun i wr => ∃ (k : Nat) (S : Int), k ≤ n ∧ k ≤ 40 ∧ i = .int .i64 k ∧ 0 ≤ S ∧ S ≤ k * 17592186044416 ∧ (MS.run q S).at wr ga ∧ (MS.run (-q) S).at wr gb ∧ (MS.run p S).at wr gc ∧ Stp [] w wr) (fun i _ => n - (intOf i).toNat)
  case atStart => exact ⟨0, 0, by omega, by omega, rfl, by omega, by omega, a7, b7, c7, t7⟩
  case round =>
    obtain ⟨k, S, hk, hk40, rfl, S0, S1, ha, hb', hc', ht⟩ := hrel
    by_cases hlt : k < n
    · by_cases h40 : k = 40
      · subst h40
        obtain ⟨b, off, rfl, hbb, hcell⟩ := hrd.form (by omega) (by omega)
        have hx : wr.cell? ⟨b, off + 40, none⟩ = some (.int .i64 (l[40]'(by omega))) := ht.cell (hcell 40 _ (by rw [List.getElem?_map, List.getElem?_eq_getElem (by omega)]; rfl)) (by simp)
        go_wp2
        go_ret
        exact ⟨rfl, ht⟩
      · have h40' : ((k : Int) == 40) = false := by simp; omega
        have hk39 : k < 40 := by omega
        obtain ⟨b, off, rfl, hbb, hcell⟩ := hrd.form (by omega) (by omega)
        have hx : wr.cell? ⟨b, off + k, none⟩ = some (.int .i64 (l[k]'(by omega))) := ht.cell (hcell k _ (by rw [List.getElem?_map, List.getElem?_eq_getElem (by omega)]; rfl)) (by simp)
        clear hcell
        have hm := i64_mask44 l[k]
        obtain ⟨d, hd⟩ : ∃ d, l[k] % 17592186044416 = d := ⟨_, rfl⟩
        have d0 : 0 ≤ d := by omega
        have d1 : d < 17592186044416 := by omega
        rw [hd] at hm
        generalize l[k] = x at *
        obtain ⟨ok1, k1, e1⟩ := run_go q S d (by omega) (by omega) ⟨d0, by omega⟩
        obtain ⟨ok2, k2, e2⟩ := run_go (-q) S d (by omega) (by omega) ⟨d0, by omega⟩
        obtain ⟨ok3, k3, e3⟩ := run_go p S d (by omega) (by omega) ⟨d0, by omega⟩
        have E := Lib.hid (And.intro e1 (And.intro e2 e3))
        clear e1 e2 e3 hd h40
        go_wp2_with fail
        refine (go_is k1 0 _ ha E.out.1 ok1 (by omega)).mono ?_
        rintro e v1 ⟨rfl, a1, s1⟩
        go_wp2_with fail
        refine (go_is k2 0 _ (s1.at hb' m4) E.out.2.1 ok2 (by omega)).mono ?_
        rintro e v2 ⟨rfl, b2, s2⟩
        go_wp2_with fail
        refine (go_is k3 0 _ (s2.at (s1.at hc' m5) m6) E.out.2.2 ok3 (by omega)).mono ?_
        rintro e v3 ⟨rfl, c3, s3⟩
        have a3 := s3.at (s2.at a1 m1) m2
        have b3 := s3.at b2 m3
        have t3 := ((ht.far s1 (.inr hga)).far s2 (.inr hb)).far s3 (.inr hc)
        obtain ⟨ma, xa, a4, ha4⟩ := run_at a3
        obtain ⟨mb, xb, b4, hb4⟩ := run_at b3
        obtain ⟨mc, xc, c4, hc4⟩ := run_at c3
        obtain ⟨⟨f1, f2⟩, f3, f4, ⟨f5, f6⟩, ⟨f7, f8⟩, ⟨f9, f10⟩⟩ := mirror_facts (S + d) q p ma mb mc (by omega) (by omega) (by omega) ha4 hb4 hc4
        clear ha4 hb4 hc4 a1 b2 s1 s2 s3 E ok1 ok2 ok3 ha hb' hc'
        have R := Lib.hid (And.intro a3 (And.intro b3 (And.intro c3 t3)))
        clear a3 b3 c3 t3
        go_wp2_with fail
        refine (mono_any ga _ _ a4).mono ?_
        rintro e v4 ⟨rfl, rfl⟩
        go_wp2_with fail
        refine (mono_any gb _ _ b4).mono ?_
        rintro e v4 ⟨rfl, rfl⟩
        go_wp2_with fail
        refine (raw_any ga _ _ a4).mono ?_
        rintro e v4 ⟨rfl, rfl⟩
        have hcase : (q < p ∧ ma ≤ mc) ∨ (p < q ∧ mc ≤ ma) ∨ (q = p ∧ ma ≤ mc ∧ mc ≤ ma) := by
          rcases Int.lt_trichotomy q p with h | h | h
          · exact .inl ⟨h, f4 (by omega)⟩
          · exact .inr (.inr ⟨h, f4 (by omega), f3 (by omega)⟩)
          · exact .inr (.inl ⟨h, f3 (by omega)⟩)
        clear f3 f4
        rcases hcase with ⟨h, h2⟩ | ⟨h, h2⟩ | ⟨rfl, h2, h3⟩
        all_goals
          go_wp2_with (first | (go_at_call 14; first | ((with_reducible refine (mono_any ga _ _ a4).mono ?_); rintro e v5 ⟨rfl, rfl⟩) | ((with_reducible refine (mono_any gc _ _ c4).mono ?_); rintro e v5 ⟨rfl, rfl⟩)))
          go_roundw
          case rel => exact ⟨k + 1, S + d, by omega, by omega, by go_num, by omega, by omega, R.out.1, R.out.2.1, R.out.2.2.1, R.out.2.2.2⟩
          case measure => simp [intOf]; omega
    · obtain rfl : k = n := by omega
      go_wp2
      go_ret
      exact ⟨rfl, ht⟩
end Go.Proofs.Ytmfjknpkogebmaa
