/- MonoParts' walk. -/
import Derived.Test.YtmfjknpkogebmaaMonoRun
import Derived.Outline
namespace Go.Proofs.Ytmfjknpkogebmaa
open Go.RowKit
set_option linter.unusedVariables false
set_option linter.unusedSimpArgs false

set_option maxRecDepth 100000 in
set_option maxHeartbeats 4000000 in
theorem monoParts_walk (r : Int) (A : Option Addr) (n c : Nat) (l : List Int) (w : World) (hr : -9223372036854775808 ≤ r ∧ r ≤ 9223372036854775807)
    (hrd : Reads w w.heap.size 1 A n (l.map (Value.int .i64))) (hl : l.length = n) (hn : n * 8 ≤ 140737488351232) (hw : ∀ t ∈ l, -9223372036854775808 ≤ t ∧ t ≤ 9223372036854775807) :
    Calls Try.prog 5 #[.int .i64 r, .slice A n c] w fun e w' => e = .returned (.bool true) ∧ Stp [] w w' := by
  obtain ⟨q, hq⟩ : ∃ q, r.tmod 500001 = q := ⟨_, rfl⟩
  have q0 : -500001 < q := by rw [← hq]; exact Int.lt_tmod_of_pos r (by decide)
  have q1 : q < 500001 := by rw [← hq]; exact Int.tmod_lt_of_pos r (by decide)
  go_enter Try.func5, Try.ntmps5
  go_wp2_with fail
  refine (new_at0 _).mono ?_
  rintro e w1 ⟨ga, rfl, a1, s1, hga⟩
  go_wp2_with fail
  refine (new_at0 _).mono ?_
  rintro e w2 ⟨gb, rfl, b2, s2, hgb⟩
  go_wp2_with fail
  refine (awake_any _).mono ?_
  rintro e w4 ⟨rfl, s4⟩
  have n1 : ga ∉ [gb] ∧ gb ∉ [ga] := by
    have := lt_of_at a1
    have := s2.size
    simp
    omega
  have a4 := s4.at (s2.at a1 (by simp)) (by simp)
  have b4 := s4.at b2 (by simp)
  go_wp2_with fail
  refine (setrate_is (MS.run q 0) a4 (run_zero q).symm (by omega)).mono ?_
  rintro e w5 ⟨rfl, a5, s5⟩
  go_wp2_with fail
  refine (setrate_is (MS.run q 0) (s5.at b4 n1.2) (run_zero q).symm (by omega)).mono ?_
  rintro e w6 ⟨rfl, b6, s6⟩
  have a6 := s6.at a5 n1.1
  have hb : w.heap.size ≤ gb := Nat.le_trans s1.size hgb
  have t6 : Stp [] w w6 := ((((s1.trans s2).trans s4).far s5 (.inr hga)).far s6 (.inr hb))
  obtain ⟨m1, m2⟩ := n1
  clear a1 b2 s1 s2 s4 s5 s6 a4 b4 a5 hq hgb
  go_wp2_with fail
  go_loopw [7, 35] (fun sm i wr => ∃ (k : Nat) (S : Int), k ≤ n ∧ k ≤ 40 ∧ i = .int .i64 k ∧ sm = .int .i64 S ∧ 0 ≤ S ∧ S ≤ k * 17592186044416 ∧ (MS.run q S).at wr ga ∧ (MS.run q 0).at wr gb ∧ Stp [] w wr) (fun _ i _ => n - (intOf i).toNat)
  case atStart => exact ⟨0, 0, by omega, by omega, rfl, rfl, by omega, by omega, a6, b6, t6⟩
  case round =>
    obtain ⟨k, S, hk, hk40, rfl, rfl, S0, S1, ha, hb', ht⟩ := hrel
    by_cases hlt : k < n
    · by_cases h40 : k = 40
      · subst h40
        obtain ⟨b, off, rfl, hbb, hcell⟩ := hrd.form (by omega) (by omega)
        have hx : wr.cell? ⟨b, off + 40, none⟩ = some (.int .i64 (l[40]'(by omega))) := ht.cell (hcell 40 _ (by rw [List.getElem?_map, List.getElem?_eq_getElem (by omega)]; rfl)) (by simp)
        go_wp2
        go_ret
        exact ⟨rfl, ht⟩
      · have h40' : ((k : Int) == 40) = false := by simp; omega
        have hk39 : k < 40 := by omega
        obtain ⟨b, off, rfl, hbb, hcell⟩ := hrd.form (by omega) (by omega)
        have hx : wr.cell? ⟨b, off + k, none⟩ = some (.int .i64 (l[k]'(by omega))) := ht.cell (hcell k _ (by rw [List.getElem?_map, List.getElem?_eq_getElem (by omega)]; rfl)) (by simp)
        clear hcell
        have hm := i64_mask44 l[k]
        obtain ⟨d, hd⟩ : ∃ d, l[k] % 17592186044416 = d := ⟨_, rfl⟩
        have d0 : 0 ≤ d := by omega
        have d1 : d < 17592186044416 := by omega
        rw [hd] at hm
        generalize l[k] = x at *
        obtain ⟨ok1, k1, e1⟩ := run_go q S d (by omega) (by omega) ⟨d0, by omega⟩
        obtain ⟨ok2, k2, e2⟩ := run_go q 0 (S + d) (by omega) (by omega) ⟨by omega, by omega⟩
        rw [Int.zero_add] at e2
        obtain ⟨m, y, hmy⟩ : ∃ m y, MS.run q (S + d) = ⟨S + d, m, q, y, false⟩ := ⟨_, _, rfl⟩
        have hm0 : q = 0 → m = S + d := by
          intro h
          subst h
          have := congrArg MS.mono hmy
          simp [MS.run] at this
          omega
        have E := Lib.hid (And.intro e1 (And.intro e2 (And.intro hm0 hmy)))
        clear e1 e2 hd h40 hm0 hmy
        go_wp2_with fail
        refine (go_is k1 0 _ ha E.out.1 ok1 (by omega)).mono ?_
        rintro e v1 ⟨rfl, a1, s1⟩
        go_wp2_with fail
        refine (copy_any gb _ _ (s1.at hb' m2)).mono ?_
        rintro e v2 ⟨go, rfl, o2, s2, hgo⟩
        go_wp2_with fail
        refine (go_is k2 0 _ o2 E.out.2.1 ok2 (by omega)).mono ?_
        rintro e v3 ⟨rfl, o3, s3⟩
        have a2 := s2.at a1 (by simp)
        have nga : ga ∉ [go] ∧ gb ∉ [go] := by
          have := lt_of_at a1
          have := lt_of_at (s1.at hb' m2)
          simp
          omega
        have a3 := s3.at a2 nga.1
        have b3 := s3.at (s2.at (s1.at hb' m2) (by simp)) nga.2
        have t1 := ht.far s1 (.inr hga)
        have t3 := (t1.trans s2).far s3 (.inr (Nat.le_trans t1.size hgo))
        have R := Lib.hid (And.intro a3 (And.intro b3 t3))
        rw [E.out.2.2.2] at a3 o3
        have hm0 := E.out.2.2.1
        clear a1 o2 s1 s2 s3 a2 nga b3 t1 t3 ha hb' ht E ok1 ok2
        have hcase : (q = 0 ∧ m = S + d) ∨ (q == 0) = false := by
          by_cases h : q = 0
          · exact .inl ⟨h, hm0 h⟩
          · exact .inr (by simpa using h)
        clear hm0
        rcases hcase with ⟨h0, rfl⟩ | h0
        · have h0' : (q == 0) = true := by simpa using h0
          clear h0
          go_wp2_with fail
          refine (mono_any go _ _ o3).mono ?_
          rintro e v9 ⟨rfl, rfl⟩
          go_wp2_with fail
          refine (mono_any ga _ _ a3).mono ?_
          rintro e v9 ⟨rfl, rfl⟩
          go_wp2_with fail
          refine (raw_any go _ _ o3).mono ?_
          rintro e v9 ⟨rfl, rfl⟩
          go_wp2_with fail
          refine (raw_any ga _ _ a3).mono ?_
          rintro e v9 ⟨rfl, rfl⟩
          go_wp2_with fail
          refine (mono_any ga _ _ a3).mono ?_
          rintro e v9 ⟨rfl, rfl⟩
          go_wp2_with fail
          refine (raw_any ga _ _ a3).mono ?_
          rintro e v9 ⟨rfl, rfl⟩
          go_wp2_with fail
          go_roundw
          case rel => exact ⟨k + 1, S + d, by omega, by omega, by go_num, rfl, by omega, by omega, R.out.1, R.out.2.1, R.out.2.2⟩
          case measure => simp [intOf]; omega
        · skip
          go_wp2_with fail
          refine (mono_any go _ _ o3).mono ?_
          rintro e v9 ⟨rfl, rfl⟩
          go_wp2_with fail
          refine (mono_any ga _ _ a3).mono ?_
          rintro e v9 ⟨rfl, rfl⟩
          go_wp2_with fail
          refine (raw_any go _ _ o3).mono ?_
          rintro e v9 ⟨rfl, rfl⟩
          go_wp2_with fail
          refine (raw_any ga _ _ a3).mono ?_
          rintro e v9 ⟨rfl, rfl⟩
          go_wp2_with fail
          go_roundw
          case rel => exact ⟨k + 1, S + d, by omega, by omega, by go_num, rfl, by omega, by omega, R.out.1, R.out.2.1, R.out.2.2⟩
          case measure => simp [intOf]; omega
    · obtain rfl : k = n := by omega
      go_wp2
      go_ret
      exact ⟨rfl, ht⟩
end Go.Proofs.Ytmfjknpkogebmaa
