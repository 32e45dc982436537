/- mono: the document's clock: Go, SetRate, Reached. -/
import Derived.Test.YtmfjknpkogebmaaMonoX
namespace Go.Proofs.Ytmfjknpkogebmaa
open Go.RowKit
set_option linter.unusedVariables false
set_option linter.unusedSimpArgs false

theorem rsetrate_any (g : Nat) (c : MS) (r : Int) (w : World) (h : c.rat w g) (ha : -500000 ≤ r ∧ r ≤ 500000) :
    Calls Try.prog 20 #[.pointer (some ⟨g, 0, none⟩), .int .i64 r] w fun e w' => e = .returned (.int .i64 0) ∧ (MS.mk c.raw c.mono r c.rest c.full).rat w' g ∧ Stp [g] w w' := by
  have hh := Lib.hid h
  obtain ⟨c0, c1, c2, c3, c4⟩ := rs_cells h
  obtain ⟨z0, z1, z2, z3, z4⟩ := rs_free h
  obtain ⟨a0, a1⟩ := ha
  clear h
  go_enter Try.func20, Try.ntmps20
  go_wp2_with fail
  go_ret
  exact ⟨rfl, set_at hh.out 2 _, (Stp.refl _ _).setCell (.inl (by simp)) _⟩
theorem rsetrate_bad (g : Nat) (c : MS) (r : Int) (w : World) (h : c.rat w g) (ha : ¬ (-500000 ≤ r ∧ r ≤ 500000)) :
    Calls Try.prog 20 #[.pointer (some ⟨g, 0, none⟩), .int .i64 r] w fun e w' => e = .returned (.int .i64 1) ∧ w' = w := by
  have hc : r < -500000 ∨ ¬ r < -500000 ∧ 500000 < r := by omega
  clear h ha
  rcases hc with h1 | ⟨h1, h2⟩
  all_goals
    go_enter Try.func20, Try.ntmps20
    go_wp2_with fail
    go_ret
    exact ⟨rfl, rfl⟩

set_option maxHeartbeats 1000000 in
theorem rgo_any (g : Nat) (c : MS) (d : Int) (w : World) (h : c.rat w g) (ok : c.ok) (hd : -9223372036854775808 ≤ d ∧ d ≤ 9223372036854775807) :
    Calls Try.prog 19 #[.pointer (some ⟨g, 0, none⟩), .int .i64 d] w fun e w' => e = .returned (.tuple #[.int .i64 (c.go d).1, .int .i64 (c.go d).2.1]) ∧ (c.go d).2.2.rat w' g ∧ Stp [g] w w' := by
  have hh := Lib.hid h
  obtain ⟨c0, c1, c2, c3, c4⟩ := rs_cells h
  clear h
  obtain ⟨d0, d1⟩ := hd
  by_cases h1 : d < 0 ∨ d > 1125899906842624
  · have e : c.go d = (0, 1, c) := by unfold MS.go; rw [if_pos h1]
    rw [e]
    clear e
    have hc : d < 0 ∨ ¬ d < 0 ∧ 1125899906842624 < d := by omega
    clear h1
    rcases hc with h2 | ⟨h2, h3⟩
    all_goals
      go_enter Try.func19, Try.ntmps19
      go_wp2_with fail
      go_ret2
      exact ⟨rfl, hh.out, Stp.refl _ _⟩
  · have h3 : ¬ d < 0 := by omega
    have h4 : ¬ 1125899906842624 < d := by omega
    by_cases h2 : c.full = true
    · have e : c.go d = (0, 7, c) := by unfold MS.go; rw [if_neg h1, if_pos h2]
      rw [e]
      rw [h2] at c4
      clear e h2 h1
      go_enter Try.func19, Try.ntmps19
      go_wp2_with fail
      go_ret2
      exact ⟨rfl, hh.out, Stp.refl _ _⟩
    · have b := gain_bd ok (d := d) (by omega) (by omega)
      have e := show c.go d = if c.gain d > 4611686018427387904 - c.mono ∨ d > 4611686018427387904 - c.raw then
        (0, 7, { c with mono := min (c.mono + c.gain d) 4611686018427387904, raw := min (c.raw + d) 4611686018427387904, full := true })
        else (c.gain d, 0, { c with mono := c.mono + c.gain d, raw := c.raw + d, rest := c.left d, full := false }) by unfold MS.go; rw [if_neg h1, if_neg h2]
      have h2' : c.full = false := by simpa using h2
      rw [h2'] at c4
      have F1 := Lib.hid (rfurther_any g c d w hh.out ok ⟨by omega, by omega⟩)
      obtain ⟨a1, a2, a3, a4, _, _, _, _⟩ := ok
      obtain ⟨b1, b2, b3, b4, b5, b6⟩ := b
      have E := Lib.hid e
      have H2 := Lib.hid h2'
      clear h1 h2 h2' e
      obtain ⟨n, hn⟩ : ∃ n, c.gain d = n := ⟨_, rfl⟩
      obtain ⟨x, hx⟩ : ∃ x, c.left d = x := ⟨_, rfl⟩
      rw [hn] at E b1 b2 b5 b6 F1
      rw [hx] at E b3 b4 F1
      by_cases h5 : 4611686018427387904 < c.mono + n ∨ 4611686018427387904 < c.raw + d
      · have e2 := E.out
        rw [if_pos (by omega)] at e2
        rw [e2]
        have hc : (4611686018427387904 < c.mono + n ∧ 4611686018427387904 < c.raw + d) ∨ (4611686018427387904 < c.mono + n ∧ ¬ 4611686018427387904 < c.raw + d) ∨ (¬ 4611686018427387904 < c.mono + n ∧ 4611686018427387904 < c.raw + d) := by omega
        clear e2 E h5
        rcases hc with ⟨h6, h7⟩ | ⟨h6, h7⟩ | ⟨h6, h7⟩
        · have e3 : min (c.mono + n) 4611686018427387904 = 4611686018427387904 := by omega
          have e4 : min (c.raw + d) 4611686018427387904 = 4611686018427387904 := by omega
          simp only [e3, e4]
          clear e3 e4
          go_enter Try.func19, Try.ntmps19
          go_wp2_with fail
          refine F1.out.mono ?_
          rintro e w2 ⟨rfl, s2⟩
          have h9 := MS.rat_stp hh.out s2
          have H9 := Lib.hid (show w2.heap[g]? = some (.cells #[.int .i64 c.raw, .int .i64 c.mono, .int .i64 c.rate, .int .i64 c.rest, .bool c.full] 39 (0, 0)) from h9)
          obtain ⟨x0, x1, x2, x3, x4⟩ := rs_cells h9
          obtain ⟨z0, z1, z2, z3, z4⟩ := rs_free h9
          rw [H2.out] at x4
          clear h9
          have fin := (set_at (set_at (set_at (set_at (set_at H9.out 4 (.bool true)) 1 (.int .i64 (c.mono + n))) 0 (.int .i64 (c.raw + d))) 1 (.int .i64 4611686018427387904)) 0 (.int .i64 4611686018427387904))
          simp only [List.setIfInBounds_toArray, List.set_cons_zero, List.set_cons_succ] at fin
          have FIN := Lib.hid fin
          have ST := Lib.hid (show Stp [g] w (((((w2.setCell ⟨g, 4, none⟩ (.bool true)).setCell ⟨g, 1, none⟩ (.int .i64 (c.mono + n))).setCell ⟨g, 0, none⟩ (.int .i64 (c.raw + d))).setCell ⟨g, 1, none⟩ (.int .i64 4611686018427387904)).setCell ⟨g, 0, none⟩ (.int .i64 4611686018427387904)) from (Stp.setCell (p := ⟨g, 0, none⟩) (Stp.setCell (p := ⟨g, 1, none⟩) (Stp.setCell (p := ⟨g, 0, none⟩) (Stp.setCell (p := ⟨g, 1, none⟩) (Stp.setCell (p := ⟨g, 4, none⟩) s2.of_nil (.inl (by simp)) (.bool true)) (.inl (by simp)) (.int .i64 (c.mono + n))) (.inl (by simp)) (.int .i64 (c.raw + d))) (.inl (by simp)) (.int .i64 4611686018427387904)) (.inl (by simp)) (.int .i64 4611686018427387904)))
          clear fin
          go_wp2_with fail
          go_ret2
          exact ⟨rfl, FIN.out, ST.out⟩
        · have e3 : min (c.mono + n) 4611686018427387904 = 4611686018427387904 := by omega
          have e4 : min (c.raw + d) 4611686018427387904 = (c.raw + d) := by omega
          simp only [e3, e4]
          clear e3 e4
          go_enter Try.func19, Try.ntmps19
          go_wp2_with fail
          refine F1.out.mono ?_
          rintro e w2 ⟨rfl, s2⟩
          have h9 := MS.rat_stp hh.out s2
          have H9 := Lib.hid (show w2.heap[g]? = some (.cells #[.int .i64 c.raw, .int .i64 c.mono, .int .i64 c.rate, .int .i64 c.rest, .bool c.full] 39 (0, 0)) from h9)
          obtain ⟨x0, x1, x2, x3, x4⟩ := rs_cells h9
          obtain ⟨z0, z1, z2, z3, z4⟩ := rs_free h9
          rw [H2.out] at x4
          clear h9
          have fin := (set_at (set_at (set_at (set_at H9.out 4 (.bool true)) 1 (.int .i64 (c.mono + n))) 0 (.int .i64 (c.raw + d))) 1 (.int .i64 4611686018427387904))
          simp only [List.setIfInBounds_toArray, List.set_cons_zero, List.set_cons_succ] at fin
          have FIN := Lib.hid fin
          have ST := Lib.hid (show Stp [g] w ((((w2.setCell ⟨g, 4, none⟩ (.bool true)).setCell ⟨g, 1, none⟩ (.int .i64 (c.mono + n))).setCell ⟨g, 0, none⟩ (.int .i64 (c.raw + d))).setCell ⟨g, 1, none⟩ (.int .i64 4611686018427387904)) from (Stp.setCell (p := ⟨g, 1, none⟩) (Stp.setCell (p := ⟨g, 0, none⟩) (Stp.setCell (p := ⟨g, 1, none⟩) (Stp.setCell (p := ⟨g, 4, none⟩) s2.of_nil (.inl (by simp)) (.bool true)) (.inl (by simp)) (.int .i64 (c.mono + n))) (.inl (by simp)) (.int .i64 (c.raw + d))) (.inl (by simp)) (.int .i64 4611686018427387904)))
          clear fin
          go_wp2_with fail
          go_ret2
          exact ⟨rfl, FIN.out, ST.out⟩
        · have e3 : min (c.mono + n) 4611686018427387904 = (c.mono + n) := by omega
          have e4 : min (c.raw + d) 4611686018427387904 = 4611686018427387904 := by omega
          simp only [e3, e4]
          clear e3 e4
          go_enter Try.func19, Try.ntmps19
          go_wp2_with fail
          refine F1.out.mono ?_
          rintro e w2 ⟨rfl, s2⟩
          have h9 := MS.rat_stp hh.out s2
          have H9 := Lib.hid (show w2.heap[g]? = some (.cells #[.int .i64 c.raw, .int .i64 c.mono, .int .i64 c.rate, .int .i64 c.rest, .bool c.full] 39 (0, 0)) from h9)
          obtain ⟨x0, x1, x2, x3, x4⟩ := rs_cells h9
          obtain ⟨z0, z1, z2, z3, z4⟩ := rs_free h9
          rw [H2.out] at x4
          clear h9
          have fin := (set_at (set_at (set_at (set_at H9.out 4 (.bool true)) 1 (.int .i64 (c.mono + n))) 0 (.int .i64 (c.raw + d))) 0 (.int .i64 4611686018427387904))
          simp only [List.setIfInBounds_toArray, List.set_cons_zero, List.set_cons_succ] at fin
          have FIN := Lib.hid fin
          have ST := Lib.hid (show Stp [g] w ((((w2.setCell ⟨g, 4, none⟩ (.bool true)).setCell ⟨g, 1, none⟩ (.int .i64 (c.mono + n))).setCell ⟨g, 0, none⟩ (.int .i64 (c.raw + d))).setCell ⟨g, 0, none⟩ (.int .i64 4611686018427387904)) from (Stp.setCell (p := ⟨g, 0, none⟩) (Stp.setCell (p := ⟨g, 0, none⟩) (Stp.setCell (p := ⟨g, 1, none⟩) (Stp.setCell (p := ⟨g, 4, none⟩) s2.of_nil (.inl (by simp)) (.bool true)) (.inl (by simp)) (.int .i64 (c.mono + n))) (.inl (by simp)) (.int .i64 (c.raw + d))) (.inl (by simp)) (.int .i64 4611686018427387904)))
          clear fin
          go_wp2_with fail
          go_ret2
          exact ⟨rfl, FIN.out, ST.out⟩
      · have e2 := E.out
        rw [if_neg (by omega)] at e2
        rw [e2]
        have h6 : ¬ 4611686018427387904 < c.mono + n := by omega
        have h7 : ¬ 4611686018427387904 < c.raw + d := by omega
        clear e2 E h5
        go_enter Try.func19, Try.ntmps19
        go_wp2_with fail
        refine F1.out.mono ?_
        rintro e w2 ⟨rfl, s2⟩
        have h9 := MS.rat_stp hh.out s2
        have H9 := Lib.hid (show (MS.mk c.raw c.mono c.rate c.rest false).rat w2 g by have h := h9; unfold MS.rat at h ⊢; rw [H2.out] at h; exact h)
        obtain ⟨x0, x1, x2, x3, x4⟩ := rs_cells h9
        obtain ⟨z0, z1, z2, z3, z4⟩ := rs_free h9
        rw [H2.out] at x4
        clear h9
        go_wp2_with fail
        go_ret2
        refine ⟨rfl, ?_, by repeat (first | exact s2.of_nil | refine Stp.setCell ?_ (.inl (by simp)) _)⟩
        exact set_at (set_at (set_at H9.out 1 _) 0 _) 3 _

theorem rreached_any (g : Nat) (c : MS) (m d : Int) (w : World) (h : c.rat w g) (ok : c.ok) (hd : 0 ≤ d ∧ d ≤ 1125899906842624) :
    Calls Try.prog 22 #[.pointer (some ⟨g, 0, none⟩), .int .i64 m, .int .i64 d] w fun e w' => e = .returned (.bool (decide (m ≤ c.mono + c.gain d))) ∧ Stp [] w w' := by
  have F1 := Lib.hid (rfurther_any g c d w h ok hd)
  have hb := gain_bd ok hd.1 hd.2
  have HH := Lib.hid h
  have m0 := ok.mono0
  have m1 := ok.mono1
  generalize c.gain d = n at *
  obtain ⟨b1, b2, _, _, _, _⟩ := hb
  have hw : wrap64 (c.mono + n) = c.mono + n := wrap64_id (by omega) (by omega)
  clear h ok hd
  go_enter Try.func22, Try.ntmps22
  go_wp2_with fail
  refine F1.out.mono ?_
  rintro e w2 ⟨rfl, s2⟩
  obtain ⟨x0, x1, x2, x3, x4⟩ := rs_cells (MS.rat_stp HH.out s2)
  go_wp2_with fail
  go_ret
  exact ⟨rfl, s2⟩
end Go.Proofs.Ytmfjknpkogebmaa
