/- WallNever's walk. -/
import Derived.Test.YtejcckjakhllpaaWallNev0
import Derived.Outline
namespace Go.Proofs.Ytejcckjakhllpaa
open Go.RowKit
set_option linter.unusedVariables false
set_option linter.unusedSimpArgs false

set_option maxRecDepth 100000 in
set_option maxHeartbeats 4000000 in
theorem never_one (x0 x1 s0 by' a b t s a0 b0 : Int) (w : World) (hby : -9223372036854775808 ≤ by' ∧ by' ≤ 9223372036854775807) (ht : -9223372036854775808 ≤ t ∧ t ≤ 9223372036854775807)
    (p1 : 0 ≤ s ∧ s < 4611686018427387904) (p2 : 0 ≤ a ∧ a < 4611686018427387904) (p3 : 0 ≤ b ∧ b < 4611686018427387904) (hab : a ≤ b)
    (m1 : bits .and .i64 s0 4611686018427387903 = s) (m2 : bits .and .i64 a0 4611686018427387903 = x0) (m3 : bits .and .i64 b0 4611686018427387903 = x1) (hx : a = x0 ∧ b = x1 ∧ ¬ x1 < x0) :
    Calls Try.prog 6 #[.int .i64 s0, .int .i64 by', .int .i64 a0, .int .i64 b0, .int .i64 t] w fun e w' => e = .returned (.bool true) ∧ Stp [] w w' := by
  obtain ⟨rfl, rfl, hlt⟩ := hx
  all_goals
    go_enter Try.func6, Try.ntmps6
    go_wp2_with fail
    refine (new_any s _ (by omega)).mono ?_
    rintro e w1 ⟨g, rfl, a1, s1, hg⟩
    go_wp2_with fail
    go_loopw [11, 13] (fun p i wr => ∃ (k : Nat) (g : Nat), k ≤ 3 ∧ p = .pointer (some ⟨g, 0, none⟩) ∧ i = .int .i64 k ∧ (WS.mk (s + k * by') k).at wr g ∧ -4611686018427387904 ≤ s + k * by' ∧ s + k * by' ≤ 4611686018427387904 ∧ w.heap.size ≤ g ∧ Stp [] w wr) (fun _ i _ => 3 - (intOf i).toNat)
    case atStart => exact ⟨0, g, by omega, rfl, rfl, by simpa using a1, by omega, by omega, hg, s1⟩
    case round =>
      clear a1 s1 hg
      obtain ⟨k, g, hk, rfl, rfl, hat, r0, r1, hg, st⟩ := hrel
      by_cases hk3 : k < 3
      · have ok : (WS.mk (s + k * by') k).ok := ⟨r0, r1, by simp only; omega, by simp only; omega⟩
        obtain ⟨m, r, hw, hm⟩ := when_facts _ ok t
        have tl := tell_le (WS.mk (s + k * by') k) hab
        have tb1 := tell_bd (WS.mk (s + k * by') k) a
        have tb2 := tell_bd (WS.mk (s + k * by') k) b
        obtain ⟨B, hB⟩ : ∃ B, s + k * by' = B := ⟨_, rfl⟩
        rw [hB] at hat ok hw hm tl tb1 tb2 r0 r1
        obtain ⟨c, hc⟩ : ∃ c, WS.mk B k = c := ⟨_, rfl⟩
        have cb : c.base = B := by rw [← hc]
        have cs : c.steps = k := by rw [← hc]
        rw [hc] at hat ok hw hm tl tb1 tb2
        obtain ⟨tl1, tl2⟩ := tl
        obtain ⟨tb3, tb4⟩ := tb1
        obtain ⟨tb5, tb6⟩ := tb2
        have HC := Lib.hid (And.intro hB (And.intro hc (And.intro cb (And.intro cs hw))))
        clear hB hc cb cs hw
        have HAT := Lib.hid hat
        clear hat
        rcases hm with ⟨rfl, rfl, h1⟩ | ⟨rfl, h1, h2, h3, h4⟩ | ⟨rfl, rfl, h1⟩
        · go_wp2_with fail
          refine (at_any g _ _ _ (by exact HAT.out) ok (by omega)).mono ?_
          rintro e v ⟨rfl, nn, rfl⟩
          go_wp2_with fail
          refine (at_any g _ _ _ (by exact HAT.out) ok (by omega)).mono ?_
          rintro e v ⟨rfl, nn, rfl⟩
          go_wp2_with fail
          refine (when_any g _ t _ (by exact HAT.out) ok ht).mono ?_
          rw [HC.out.2.2.2.2]
          rintro e v1 ⟨rfl, sw⟩
          have H1 := Lib.hid (show WS.at c v1 g from sw.at HAT.out (by simp))
          have S1 := Lib.hid (st.trans sw.of_drewN)
          clear sw
          go_wp2_with fail
          refine (at_any g _ _ _ (by exact H1.out) ok (by omega)).mono ?_
          rintro e v ⟨rfl, nn, rfl⟩
          go_wp2_with fail
          refine (base_any g _ _ (by exact H1.out)).mono ?_
          rw [HC.out.2.2.1]
          rintro e v ⟨rfl, rfl⟩
          by_cases hstep : -4611686018427387904 ≤ B + by' ∧ B + by' ≤ 4611686018427387904
          · obtain ⟨g0, g1⟩ := hstep
            go_wp2_with fail
            refine (step_good g _ by' _ (by exact H1.out) ok hby (by rw [HC.out.2.2.1]; exact ⟨g0, g1⟩)).mono ?_
            rw [HC.out.2.2.1, HC.out.2.2.2.1]
            rintro e v2 ⟨rfl, h2', s2⟩
            have H2 := Lib.hid h2'
            have S2 := Lib.hid (S1.out.far s2.of_drewN (.inr hg))
            clear h2' s2
            go_wp2_with fail
            refine (base_any g _ _ (by exact H2.out)).mono ?_
            rintro e v ⟨rfl, rfl⟩
            go_wp2_with fail
            refine (steps_any g _ _ (by exact H2.out)).mono ?_
            rintro e v ⟨rfl, rfl⟩
            by_cases hk0 : k = 0
            · have hkb : ((k : Int) == 0) = true := by simp; omega
              have HK := Lib.hid hk0
              have hBs : B = s := by have := HC.out.1; rw [hk0] at this; simp at this; omega
              have HBS := Lib.hid hBs
              have ok2 : (WS.mk (B + by') (k + 1)).ok := ⟨g0, g1, by simp only; omega, by simp only; omega⟩
              have hs3 : -4611686018427387904 ≤ B + by' + -by' ∧ B + by' + -by' ≤ 4611686018427387904 := by omega
              have nb : -9223372036854775808 ≤ -by' ∧ -by' ≤ 9223372036854775807 := by omega
              have e3 : WS.mk (B + by' + -by') (k + 1 + 1) = WS.mk B 2 := by
                have h1 : B + by' + -by' = B := by omega
                have h2 : (k : Int) + 1 + 1 = 2 := by omega
                rw [h1, h2]
              have E3 := Lib.hid e3
              have ok3 : (WS.mk B 2).ok := ⟨by simp only; omega, by simp only; omega, by simp only; omega, by simp only; omega⟩
              have et : ∀ m, WS.tell ⟨B, 2⟩ m = c.tell m := fun m => by unfold WS.tell; rw [HC.out.2.2.1]
              have ET := Lib.hid et
              clear hk0 hBs e3 et
              go_wp2_with fail
              refine (step_good g ⟨B + by', k + 1⟩ (-by') _ (by exact H2.out) ok2 nb hs3).mono ?_
              rintro e v3 ⟨rfl, h3', s3⟩
              have h3 : (WS.mk B 2).at v3 g := E3.out ▸ h3'
              have H3 := Lib.hid h3
              have S3 := Lib.hid (S2.out.far s3 (.inr hg))
              clear h3' h3 s3 hs3
              go_wp2_with fail
              refine (at_any g ⟨B, 2⟩ a _ (by exact H3.out) ok3 (by omega)).mono ?_
              rw [ET.out]
              rintro e v4 ⟨rfl, n4, rfl⟩
              go_wp2_with fail
              refine (at_any g ⟨B, 2⟩ b _ (by exact H3.out) ok3 (by omega)).mono ?_
              rw [ET.out]
              rintro e v4 ⟨rfl, n5, rfl⟩
              go_wp2_with fail
              refine (base_any g ⟨B, 2⟩ _ (by exact H3.out)).mono ?_
              rintro e v5 ⟨rfl, rfl⟩
              go_wp2_with fail
              refine (base_any g ⟨B, 2⟩ _ (by exact H3.out)).mono ?_
              rintro e v5 ⟨rfl, rfl⟩
              go_wp2_with fail
              refine (steps_any g ⟨B, 2⟩ _ (by exact H3.out)).mono ?_
              rintro e v5 ⟨rfl, rfl⟩
              go_wp2_with fail
              refine (new_any s _ (by omega)).mono ?_
              rintro e v6 ⟨g2, rfl, a6, s6, hg2⟩
              have t6 := S3.out.trans s6.of_drewN
              have hg3 : w.heap.size ≤ g2 := Nat.le_trans S3.out.size hg2
              go_wp2_with fail
              refine (step_good g2 ⟨s, 0⟩ by' _ a6 ⟨by simp only; omega, by simp only; omega, by simp only; omega, by simp only; omega⟩ hby (by simp only; have := HBS.out; omega)).mono ?_
              rintro e v7 ⟨rfl, a7, s7⟩
              have t7 := t6.far s7 (.inr hg3)
              have e7 : s + ((k + 1 : Nat) : Int) * by' = s + by' := by have := HK.out; subst this; simp
              have e8 : ((k + 1 : Nat) : Int) = 0 + 1 := by have := HK.out; omega
              have g0' : -4611686018427387904 ≤ s + by' := by have := HBS.out; omega
              have g1' : s + by' ≤ 4611686018427387904 := by have := HBS.out; omega
              have R := Lib.hid (And.intro a7 (And.intro t7 (And.intro e7 e8)))
              clear a7 t7 e7 e8 a6 s6 s7 t6
              go_wp2_with fail
              go_roundw
              case rel => exact ⟨k + 1, g2, by omega, rfl, by go_num, by rw [R.out.2.2.1, R.out.2.2.2]; exact R.out.1, by rw [R.out.2.2.1]; exact g0', by rw [R.out.2.2.1]; exact g1', hg3, R.out.2.1⟩
              case measure => simp [intOf]; omega
            · have hkb : ((k : Int) == 0) = false := by simp; omega
              go_wp2_with fail
              go_roundw
              case rel => exact ⟨k + 1, g, by omega, rfl, by go_num, by have e1 : s + ((k + 1 : Nat) : Int) * by' = B + by' := (by rw [← HC.out.1]; rw [Int.natCast_add, Int.add_mul]; simp; omega); have e2 : ((k + 1 : Nat) : Int) = (k : Int) + 1 := (by omega); rw [e1, e2]; exact H2.out, by have e1 : s + ((k + 1 : Nat) : Int) * by' = B + by' := (by rw [← HC.out.1]; rw [Int.natCast_add, Int.add_mul]; simp; omega); rw [e1]; exact g0, by have e1 : s + ((k + 1 : Nat) : Int) * by' = B + by' := (by rw [← HC.out.1]; rw [Int.natCast_add, Int.add_mul]; simp; omega); rw [e1]; exact g1, hg, S2.out⟩
              case measure => simp [intOf]; omega
          · have hstep' := hstep
            go_wp2_with fail
            refine (step_bad g _ by' _ (by exact H1.out) ok hby (by rw [HC.out.2.2.1]; exact hstep)).mono ?_
            rintro e v ⟨rfl, rfl⟩
            clear hstep hstep'
            go_wp2_with fail
            refine (base_any g _ _ (by exact H1.out)).mono ?_
            rw [HC.out.2.2.1]
            rintro e v ⟨rfl, rfl⟩
            go_wp2_with fail
            refine (steps_any g _ _ (by exact H1.out)).mono ?_
            rw [HC.out.2.2.2.1]
            rintro e v ⟨rfl, rfl⟩
            go_wp2_with fail
            refine (alive_any _).mono ?_
            rintro e w2 ⟨rfl, s2⟩
            go_wp2_with fail
            go_ret
            exact ⟨rfl, S1.out.trans s2.of_drewN⟩
        · go_wp2_with fail
          refine (at_any g _ _ _ (by exact HAT.out) ok (by omega)).mono ?_
          rintro e v ⟨rfl, nn, rfl⟩
          go_wp2_with fail
          refine (at_any g _ _ _ (by exact HAT.out) ok (by omega)).mono ?_
          rintro e v ⟨rfl, nn, rfl⟩
          go_wp2_with fail
          refine (when_any g _ t _ (by exact HAT.out) ok ht).mono ?_
          rw [HC.out.2.2.2.2]
          rintro e v1 ⟨rfl, sw⟩
          have H1 := Lib.hid (show WS.at c v1 g from sw.at HAT.out (by simp))
          have S1 := Lib.hid (st.trans sw.of_drewN)
          clear sw
          go_wp2_with fail
          refine (at_any g _ _ _ (by exact H1.out) ok (by omega)).mono ?_
          rintro e v ⟨rfl, nn, rfl⟩
          go_wp2_with fail
          refine (at_any g _ _ _ (by exact H1.out) ok (by omega)).mono ?_
          rintro e v ⟨rfl, nn, rfl⟩
          go_wp2_with fail
          refine (at_any g _ _ _ (by exact H1.out) ok (by omega)).mono ?_
          rintro e v ⟨rfl, nn, rfl⟩
          go_wp2_with fail
          refine (base_any g _ _ (by exact H1.out)).mono ?_
          rw [HC.out.2.2.1]
          rintro e v ⟨rfl, rfl⟩
          by_cases hstep : -4611686018427387904 ≤ B + by' ∧ B + by' ≤ 4611686018427387904
          · obtain ⟨g0, g1⟩ := hstep
            go_wp2_with fail
            refine (step_good g _ by' _ (by exact H1.out) ok hby (by rw [HC.out.2.2.1]; exact ⟨g0, g1⟩)).mono ?_
            rw [HC.out.2.2.1, HC.out.2.2.2.1]
            rintro e v2 ⟨rfl, h2', s2⟩
            have H2 := Lib.hid h2'
            have S2 := Lib.hid (S1.out.far s2.of_drewN (.inr hg))
            clear h2' s2
            go_wp2_with fail
            refine (base_any g _ _ (by exact H2.out)).mono ?_
            rintro e v ⟨rfl, rfl⟩
            go_wp2_with fail
            refine (steps_any g _ _ (by exact H2.out)).mono ?_
            rintro e v ⟨rfl, rfl⟩
            by_cases hk0 : k = 0
            · have hkb : ((k : Int) == 0) = true := by simp; omega
              have HK := Lib.hid hk0
              have hBs : B = s := by have := HC.out.1; rw [hk0] at this; simp at this; omega
              have HBS := Lib.hid hBs
              have ok2 : (WS.mk (B + by') (k + 1)).ok := ⟨g0, g1, by simp only; omega, by simp only; omega⟩
              have hs3 : -4611686018427387904 ≤ B + by' + -by' ∧ B + by' + -by' ≤ 4611686018427387904 := by omega
              have nb : -9223372036854775808 ≤ -by' ∧ -by' ≤ 9223372036854775807 := by omega
              have e3 : WS.mk (B + by' + -by') (k + 1 + 1) = WS.mk B 2 := by
                have h1 : B + by' + -by' = B := by omega
                have h2 : (k : Int) + 1 + 1 = 2 := by omega
                rw [h1, h2]
              have E3 := Lib.hid e3
              have ok3 : (WS.mk B 2).ok := ⟨by simp only; omega, by simp only; omega, by simp only; omega, by simp only; omega⟩
              have et : ∀ m, WS.tell ⟨B, 2⟩ m = c.tell m := fun m => by unfold WS.tell; rw [HC.out.2.2.1]
              have ET := Lib.hid et
              clear hk0 hBs e3 et
              go_wp2_with fail
              refine (step_good g ⟨B + by', k + 1⟩ (-by') _ (by exact H2.out) ok2 nb hs3).mono ?_
              rintro e v3 ⟨rfl, h3', s3⟩
              have h3 : (WS.mk B 2).at v3 g := E3.out ▸ h3'
              have H3 := Lib.hid h3
              have S3 := Lib.hid (S2.out.far s3 (.inr hg))
              clear h3' h3 s3 hs3
              go_wp2_with fail
              refine (at_any g ⟨B, 2⟩ a _ (by exact H3.out) ok3 (by omega)).mono ?_
              rw [ET.out]
              rintro e v4 ⟨rfl, n4, rfl⟩
              go_wp2_with fail
              refine (at_any g ⟨B, 2⟩ b _ (by exact H3.out) ok3 (by omega)).mono ?_
              rw [ET.out]
              rintro e v4 ⟨rfl, n5, rfl⟩
              go_wp2_with fail
              refine (base_any g ⟨B, 2⟩ _ (by exact H3.out)).mono ?_
              rintro e v5 ⟨rfl, rfl⟩
              go_wp2_with fail
              refine (base_any g ⟨B, 2⟩ _ (by exact H3.out)).mono ?_
              rintro e v5 ⟨rfl, rfl⟩
              go_wp2_with fail
              refine (steps_any g ⟨B, 2⟩ _ (by exact H3.out)).mono ?_
              rintro e v5 ⟨rfl, rfl⟩
              go_wp2_with fail
              refine (new_any s _ (by omega)).mono ?_
              rintro e v6 ⟨g2, rfl, a6, s6, hg2⟩
              have t6 := S3.out.trans s6.of_drewN
              have hg3 : w.heap.size ≤ g2 := Nat.le_trans S3.out.size hg2
              go_wp2_with fail
              refine (step_good g2 ⟨s, 0⟩ by' _ a6 ⟨by simp only; omega, by simp only; omega, by simp only; omega, by simp only; omega⟩ hby (by simp only; have := HBS.out; omega)).mono ?_
              rintro e v7 ⟨rfl, a7, s7⟩
              have t7 := t6.far s7 (.inr hg3)
              have e7 : s + ((k + 1 : Nat) : Int) * by' = s + by' := by have := HK.out; subst this; simp
              have e8 : ((k + 1 : Nat) : Int) = 0 + 1 := by have := HK.out; omega
              have g0' : -4611686018427387904 ≤ s + by' := by have := HBS.out; omega
              have g1' : s + by' ≤ 4611686018427387904 := by have := HBS.out; omega
              have R := Lib.hid (And.intro a7 (And.intro t7 (And.intro e7 e8)))
              clear a7 t7 e7 e8 a6 s6 s7 t6
              go_wp2_with fail
              go_roundw
              case rel => exact ⟨k + 1, g2, by omega, rfl, by go_num, by rw [R.out.2.2.1, R.out.2.2.2]; exact R.out.1, by rw [R.out.2.2.1]; exact g0', by rw [R.out.2.2.1]; exact g1', hg3, R.out.2.1⟩
              case measure => simp [intOf]; omega
            · have hkb : ((k : Int) == 0) = false := by simp; omega
              go_wp2_with fail
              go_roundw
              case rel => exact ⟨k + 1, g, by omega, rfl, by go_num, by have e1 : s + ((k + 1 : Nat) : Int) * by' = B + by' := (by rw [← HC.out.1]; rw [Int.natCast_add, Int.add_mul]; simp; omega); have e2 : ((k + 1 : Nat) : Int) = (k : Int) + 1 := (by omega); rw [e1, e2]; exact H2.out, by have e1 : s + ((k + 1 : Nat) : Int) * by' = B + by' := (by rw [← HC.out.1]; rw [Int.natCast_add, Int.add_mul]; simp; omega); rw [e1]; exact g0, by have e1 : s + ((k + 1 : Nat) : Int) * by' = B + by' := (by rw [← HC.out.1]; rw [Int.natCast_add, Int.add_mul]; simp; omega); rw [e1]; exact g1, hg, S2.out⟩
              case measure => simp [intOf]; omega
          · have hstep' := hstep
            go_wp2_with fail
            refine (step_bad g _ by' _ (by exact H1.out) ok hby (by rw [HC.out.2.2.1]; exact hstep)).mono ?_
            rintro e v ⟨rfl, rfl⟩
            clear hstep hstep'
            go_wp2_with fail
            refine (base_any g _ _ (by exact H1.out)).mono ?_
            rw [HC.out.2.2.1]
            rintro e v ⟨rfl, rfl⟩
            go_wp2_with fail
            refine (steps_any g _ _ (by exact H1.out)).mono ?_
            rw [HC.out.2.2.2.1]
            rintro e v ⟨rfl, rfl⟩
            go_wp2_with fail
            refine (alive_any _).mono ?_
            rintro e w2 ⟨rfl, s2⟩
            go_wp2_with fail
            go_ret
            exact ⟨rfl, S1.out.trans s2.of_drewN⟩
        · go_wp2_with fail
          refine (at_any g _ _ _ (by exact HAT.out) ok (by omega)).mono ?_
          rintro e v ⟨rfl, nn, rfl⟩
          go_wp2_with fail
          refine (at_any g _ _ _ (by exact HAT.out) ok (by omega)).mono ?_
          rintro e v ⟨rfl, nn, rfl⟩
          go_wp2_with fail
          refine (when_any g _ t _ (by exact HAT.out) ok ht).mono ?_
          rw [HC.out.2.2.2.2]
          rintro e v1 ⟨rfl, sw⟩
          have H1 := Lib.hid (show WS.at c v1 g from sw.at HAT.out (by simp))
          have S1 := Lib.hid (st.trans sw.of_drewN)
          clear sw
          go_wp2_with fail
          refine (at_any g _ _ _ (by exact H1.out) ok (by omega)).mono ?_
          rintro e v ⟨rfl, nn, rfl⟩
          go_wp2_with fail
          refine (base_any g _ _ (by exact H1.out)).mono ?_
          rw [HC.out.2.2.1]
          rintro e v ⟨rfl, rfl⟩
          by_cases hstep : -4611686018427387904 ≤ B + by' ∧ B + by' ≤ 4611686018427387904
          · obtain ⟨g0, g1⟩ := hstep
            go_wp2_with fail
            refine (step_good g _ by' _ (by exact H1.out) ok hby (by rw [HC.out.2.2.1]; exact ⟨g0, g1⟩)).mono ?_
            rw [HC.out.2.2.1, HC.out.2.2.2.1]
            rintro e v2 ⟨rfl, h2', s2⟩
            have H2 := Lib.hid h2'
            have S2 := Lib.hid (S1.out.far s2.of_drewN (.inr hg))
            clear h2' s2
            go_wp2_with fail
            refine (base_any g _ _ (by exact H2.out)).mono ?_
            rintro e v ⟨rfl, rfl⟩
            go_wp2_with fail
            refine (steps_any g _ _ (by exact H2.out)).mono ?_
            rintro e v ⟨rfl, rfl⟩
            by_cases hk0 : k = 0
            · have hkb : ((k : Int) == 0) = true := by simp; omega
              have HK := Lib.hid hk0
              have hBs : B = s := by have := HC.out.1; rw [hk0] at this; simp at this; omega
              have HBS := Lib.hid hBs
              have ok2 : (WS.mk (B + by') (k + 1)).ok := ⟨g0, g1, by simp only; omega, by simp only; omega⟩
              have hs3 : -4611686018427387904 ≤ B + by' + -by' ∧ B + by' + -by' ≤ 4611686018427387904 := by omega
              have nb : -9223372036854775808 ≤ -by' ∧ -by' ≤ 9223372036854775807 := by omega
              have e3 : WS.mk (B + by' + -by') (k + 1 + 1) = WS.mk B 2 := by
                have h1 : B + by' + -by' = B := by omega
                have h2 : (k : Int) + 1 + 1 = 2 := by omega
                rw [h1, h2]
              have E3 := Lib.hid e3
              have ok3 : (WS.mk B 2).ok := ⟨by simp only; omega, by simp only; omega, by simp only; omega, by simp only; omega⟩
              have et : ∀ m, WS.tell ⟨B, 2⟩ m = c.tell m := fun m => by unfold WS.tell; rw [HC.out.2.2.1]
              have ET := Lib.hid et
              clear hk0 hBs e3 et
              go_wp2_with fail
              refine (step_good g ⟨B + by', k + 1⟩ (-by') _ (by exact H2.out) ok2 nb hs3).mono ?_
              rintro e v3 ⟨rfl, h3', s3⟩
              have h3 : (WS.mk B 2).at v3 g := E3.out ▸ h3'
              have H3 := Lib.hid h3
              have S3 := Lib.hid (S2.out.far s3 (.inr hg))
              clear h3' h3 s3 hs3
              go_wp2_with fail
              refine (at_any g ⟨B, 2⟩ a _ (by exact H3.out) ok3 (by omega)).mono ?_
              rw [ET.out]
              rintro e v4 ⟨rfl, n4, rfl⟩
              go_wp2_with fail
              refine (at_any g ⟨B, 2⟩ b _ (by exact H3.out) ok3 (by omega)).mono ?_
              rw [ET.out]
              rintro e v4 ⟨rfl, n5, rfl⟩
              go_wp2_with fail
              refine (base_any g ⟨B, 2⟩ _ (by exact H3.out)).mono ?_
              rintro e v5 ⟨rfl, rfl⟩
              go_wp2_with fail
              refine (base_any g ⟨B, 2⟩ _ (by exact H3.out)).mono ?_
              rintro e v5 ⟨rfl, rfl⟩
              go_wp2_with fail
              refine (steps_any g ⟨B, 2⟩ _ (by exact H3.out)).mono ?_
              rintro e v5 ⟨rfl, rfl⟩
              go_wp2_with fail
              refine (new_any s _ (by omega)).mono ?_
              rintro e v6 ⟨g2, rfl, a6, s6, hg2⟩
              have t6 := S3.out.trans s6.of_drewN
              have hg3 : w.heap.size ≤ g2 := Nat.le_trans S3.out.size hg2
              go_wp2_with fail
              refine (step_good g2 ⟨s, 0⟩ by' _ a6 ⟨by simp only; omega, by simp only; omega, by simp only; omega, by simp only; omega⟩ hby (by simp only; have := HBS.out; omega)).mono ?_
              rintro e v7 ⟨rfl, a7, s7⟩
              have t7 := t6.far s7 (.inr hg3)
              have e7 : s + ((k + 1 : Nat) : Int) * by' = s + by' := by have := HK.out; subst this; simp
              have e8 : ((k + 1 : Nat) : Int) = 0 + 1 := by have := HK.out; omega
              have g0' : -4611686018427387904 ≤ s + by' := by have := HBS.out; omega
              have g1' : s + by' ≤ 4611686018427387904 := by have := HBS.out; omega
              have R := Lib.hid (And.intro a7 (And.intro t7 (And.intro e7 e8)))
              clear a7 t7 e7 e8 a6 s6 s7 t6
              go_wp2_with fail
              go_roundw
              case rel => exact ⟨k + 1, g2, by omega, rfl, by go_num, by rw [R.out.2.2.1, R.out.2.2.2]; exact R.out.1, by rw [R.out.2.2.1]; exact g0', by rw [R.out.2.2.1]; exact g1', hg3, R.out.2.1⟩
              case measure => simp [intOf]; omega
            · have hkb : ((k : Int) == 0) = false := by simp; omega
              go_wp2_with fail
              go_roundw
              case rel => exact ⟨k + 1, g, by omega, rfl, by go_num, by have e1 : s + ((k + 1 : Nat) : Int) * by' = B + by' := (by rw [← HC.out.1]; rw [Int.natCast_add, Int.add_mul]; simp; omega); have e2 : ((k + 1 : Nat) : Int) = (k : Int) + 1 := (by omega); rw [e1, e2]; exact H2.out, by have e1 : s + ((k + 1 : Nat) : Int) * by' = B + by' := (by rw [← HC.out.1]; rw [Int.natCast_add, Int.add_mul]; simp; omega); rw [e1]; exact g0, by have e1 : s + ((k + 1 : Nat) : Int) * by' = B + by' := (by rw [← HC.out.1]; rw [Int.natCast_add, Int.add_mul]; simp; omega); rw [e1]; exact g1, hg, S2.out⟩
              case measure => simp [intOf]; omega
          · have hstep' := hstep
            go_wp2_with fail
            refine (step_bad g _ by' _ (by exact H1.out) ok hby (by rw [HC.out.2.2.1]; exact hstep)).mono ?_
            rintro e v ⟨rfl, rfl⟩
            clear hstep hstep'
            go_wp2_with fail
            refine (base_any g _ _ (by exact H1.out)).mono ?_
            rw [HC.out.2.2.1]
            rintro e v ⟨rfl, rfl⟩
            go_wp2_with fail
            refine (steps_any g _ _ (by exact H1.out)).mono ?_
            rw [HC.out.2.2.2.1]
            rintro e v ⟨rfl, rfl⟩
            go_wp2_with fail
            refine (alive_any _).mono ?_
            rintro e w2 ⟨rfl, s2⟩
            go_wp2_with fail
            go_ret
            exact ⟨rfl, S1.out.trans s2.of_drewN⟩
      · obtain rfl : k = 3 := by omega
        go_wp2_with fail
        refine (alive_any _).mono ?_
        rintro e w2 ⟨rfl, s2⟩
        go_wp2_with fail
        go_ret
        exact ⟨rfl, st.trans s2⟩
end Go.Proofs.Ytejcckjakhllpaa
