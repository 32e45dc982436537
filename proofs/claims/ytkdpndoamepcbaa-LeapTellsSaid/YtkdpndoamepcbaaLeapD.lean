/- leap: Bits, Even. -/
import Derived.Test.YtkdpndoamepcbaaLeapC
namespace Go.Proofs.Ytkdpndoamepcbaa
open Go.RowKit
set_option linter.unusedVariables false
set_option linter.unusedSimpArgs false

def bitsS (c : LT) (t : Int) : Int := if c.ex ≤ t then 3 else if (nextS t c.L).2.2 = false ∨ 86400000000000 < (nextS t c.L).1 - t then 0 else if 0 < (nextS t c.L).2.1 then 1 else 2
theorem nextS_facts {c : LT} (ok : c.ok) (t : Int) : 0 ≤ (nextS t c.L).1 ∧ (nextS t c.L).1 ≤ 4611686018427387904 ∧ -1 ≤ (nextS t c.L).2.1 ∧ (nextS t c.L).2.1 ≤ 1 := by
  unfold nextS
  split
  · have := ok.leaps.each c.L[cntS t c.L] (List.getElem_mem _)
    simp only
    omega
  · decide
set_option maxHeartbeats 2000000 in
theorem bits_any (g : Nat) (c : LT) (t : Int) (w : World) (h : c.at w g) (ok : c.ok) (ht : -4611686018427387903 ≤ t ∧ t ≤ 4611686018427387904) :
    Calls Try.prog 28 #[.pointer (some ⟨g, 0, none⟩), .int .i64 t] w fun e w' => e = .returned (.int .u8 (bitsS c t)) ∧ Stp [] w w' := by
  obtain ⟨A, cp, h0, h1, h2, h3, h4, h5, h6⟩ := h.cells
  have n1 := next_any g c t w h ok
  have nf := nextS_facts ok t
  unfold bitsS
  obtain ⟨t0, t1⟩ := ht
  generalize nextS t c.L = r at *
  obtain ⟨r1, r2, r3⟩ := r
  simp only at n1 nf ⊢
  obtain ⟨f0, f1, f2, f3⟩ := nf
  have P := Lib.hid n1
  clear n1 h h0 h2 h6 ok
  generalize c.ex = ex at *
  by_cases c1 : ex ≤ t
  · rw [if_pos c1]
    go_enter Try.func28, Try.ntmps28
    go_wp2_with fail
    refine (lnone_ptr _ _ (by assumption)).mono ?_
    rintro e w1 ⟨rfl, rfl⟩
    go_wp2_with fail
    go_ret
    exact ⟨rfl, Stp.refl _ _⟩
  · rw [if_neg c1]
    cases r3 with
    | false =>
      rw [if_pos (.inl rfl)]
      go_enter Try.func28, Try.ntmps28
      go_wp2_with fail
      refine (lnone_ptr _ _ (by assumption)).mono ?_
      rintro e w1 ⟨rfl, rfl⟩
      go_wp2_with fail
      refine P.out.mono ?_
      rintro e w2 ⟨rfl, s2⟩
      go_wp2_with fail
      go_ret
      exact ⟨rfl, s2.alloc _⟩
    | true =>
      by_cases c2 : 86400000000000 < r1 - t
      · rw [if_pos (.inr c2)]
        have e1 : IntKind.i64.wrap (r1 - t) = r1 - t := IntWalk.i64_in _ (by omega)
        obtain ⟨x, hx⟩ : ∃ x, r1 - t = x := ⟨_, rfl⟩
        rw [hx] at c2
        have x0 : -4611686018427387904 ≤ x := by omega
        have x1 : x ≤ 9223372036854775807 := by omega
        go_enter Try.func28, Try.ntmps28
        go_wp2_with fail
        refine (lnone_ptr _ _ (by assumption)).mono ?_
        rintro e w1 ⟨rfl, rfl⟩
        go_wp2_with fail
        refine P.out.mono ?_
        rintro e w2 ⟨rfl, s2⟩
        go_wp2_with fail
        go_ret
        exact ⟨rfl, s2.alloc _⟩
      · rw [if_neg (by simp; omega)]
        obtain ⟨x, hx⟩ : ∃ x, r1 - t = x := ⟨_, rfl⟩
        rw [hx] at c2
        have x0 : -4611686018427387904 ≤ x := by omega
        have x1 : x ≤ 9223372036854775807 := by omega
        by_cases c3 : 0 < r2
        all_goals
          first | rw [if_pos c3] | rw [if_neg c3]
          go_enter Try.func28, Try.ntmps28
          go_wp2_with fail
          refine (lnone_ptr _ _ (by assumption)).mono ?_
          rintro e w1 ⟨rfl, rfl⟩
          go_wp2_with fail
          refine P.out.mono ?_
          rintro e w2 ⟨rfl, s2⟩
          go_wp2_with fail
          go_ret
          exact ⟨rfl, s2.alloc _⟩

/-- May an instant be the one of a label? -/
def hasS (c : LT) (label : Int) (ins : Bool) (u : Int) : Prop := 0 ≤ u ∧ u ≤ 4611686018427387904 ∧ labelS c.base c.L u = label ∧ insS u c.L = ins
def hasB (c : LT) (label : Int) (ins : Bool) (u : Int) : Bool := decide (0 ≤ u ∧ u ≤ 4611686018427387904) && (labelS c.base c.L u == label) && (insS u c.L == ins)
theorem hasB_iff {c : LT} {label u : Int} {ins : Bool} : hasB c label ins u = true ↔ hasS c label ins u := by
  unfold hasB hasS
  simp [and_assoc]
theorem has_any (g b1 b2 b3 : Nat) (c : LT) (label u : Int) (ins : Bool) (w : World) (h : c.at w g) (ok : c.ok) (hu : -4611700000000000000 ≤ u ∧ u ≤ 4611700000000000000)
    (q1 : w.cell? ⟨b1, 0, none⟩ = some (.pointer (some ⟨g, 0, none⟩))) (q2 : w.cell? ⟨b2, 0, none⟩ = some (.int .i64 label)) (q3 : w.cell? ⟨b3, 0, none⟩ = some (.bool ins)) :
    Calls Try.prog 32 #[.int .i64 u, .pointer (some ⟨b1, 0, none⟩), .pointer (some ⟨b2, 0, none⟩), .pointer (some ⟨b3, 0, none⟩)] w fun e w' => e = .returned (.bool (hasB c label ins u)) ∧ Stp [] w w' := by
  have l1 := label_any g c u w h ok hu
  unfold hasB
  generalize labelS c.base c.L u = lb at *
  generalize insS u c.L = ib at *
  have P := Lib.hid l1
  clear l1 h ok
  by_cases c1 : 0 ≤ u
  · by_cases c2 : u ≤ 4611686018427387904
    · by_cases c3 : lb = label
      · subst c3
        have hd : (decide (0 ≤ u ∧ u ≤ 4611686018427387904) && (lb == lb) && (ib == ins)) = (ib == ins) := by simp [c1, c2]
        rw [hd]
        clear hd
        cases ib <;> cases ins
        all_goals
          go_enter Try.func32, Try.ntmps32
          go_wp2_with fail
          refine P.out.mono ?_
          rintro e w1 ⟨rfl, s1⟩
          have z2 := s1.cell q2 (by simp)
          have z3 := s1.cell q3 (by simp)
          go_wp2_with fail
          go_ret
          exact ⟨rfl, s1⟩
      · have hd : (decide (0 ≤ u ∧ u ≤ 4611686018427387904) && (lb == label) && (ib == ins)) = false := by simp [c3]
        rw [hd]
        have c3' : (lb == label) = false := by simpa using c3
        clear hd c3
        go_enter Try.func32, Try.ntmps32
        go_wp2_with fail
        refine P.out.mono ?_
        rintro e w1 ⟨rfl, s1⟩
        have z2 := s1.cell q2 (by simp)
        have z3 := s1.cell q3 (by simp)
        go_wp2_with fail
        go_ret
        exact ⟨rfl, s1⟩
    · have hd : (decide (0 ≤ u ∧ u ≤ 4611686018427387904) && (lb == label) && (ib == ins)) = false := by simp [c2]
      rw [hd]
      clear hd
      go_enter Try.func32, Try.ntmps32
      go_wp2_with fail
      refine P.out.mono ?_
      rintro e w1 ⟨rfl, s1⟩
      go_wp2_with fail
      go_ret
      exact ⟨rfl, s1⟩
  · have hd : (decide (0 ≤ u ∧ u ≤ 4611686018427387904) && (lb == label) && (ib == ins)) = false := by simp [c1]
    rw [hd]
    clear hd
    go_enter Try.func32, Try.ntmps32
    go_wp2_with fail
    refine P.out.mono ?_
    rintro e w1 ⟨rfl, s1⟩
    go_wp2_with fail
    go_ret
    exact ⟨rfl, s1⟩
end Go.Proofs.Ytkdpndoamepcbaa
