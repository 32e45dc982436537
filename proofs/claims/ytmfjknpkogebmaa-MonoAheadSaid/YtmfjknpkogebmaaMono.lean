/- mono: what each of its functions answers. -/
import Derived.Test.YtmfjknpkogebmaaFix
import Derived.Laws.ResultCell
import Derived.Outline
import Derived.RegionTactic
import Derived.BigRegion
namespace Go.Proofs.Ytmfjknpkogebmaa
open Go.RowKit
set_option linter.unusedVariables false
set_option linter.unusedSimpArgs false

structure MS where
  (raw mono rate rest : Int)
  full : Bool
def MS.cells (c : MS) : Obj := .cells #[.int .i64 c.raw, .int .i64 c.mono, .int .i64 c.rate, .int .i64 c.rest, .bool c.full, .bool true] 49 (0, 0)
def MS.at (c : MS) (w : World) (g : Nat) : Prop := w.heap[g]? = some c.cells
theorem ms_cells {w : World} {g : Nat} {c : MS} (h : c.at w g) : w.cell? ⟨g, 0, none⟩ = some (.int .i64 c.raw) ∧ w.cell? ⟨g, 1, none⟩ = some (.int .i64 c.mono) ∧ w.cell? ⟨g, 2, none⟩ = some (.int .i64 c.rate) ∧ w.cell? ⟨g, 3, none⟩ = some (.int .i64 c.rest) ∧ w.cell? ⟨g, 4, none⟩ = some (.bool c.full) ∧ w.cell? ⟨g, 5, none⟩ = some (.bool true) := by
  have h' : w.heap[g]? = some (.cells #[.int .i64 c.raw, .int .i64 c.mono, .int .i64 c.rate, .int .i64 c.rest, .bool c.full, .bool true] 49 (0, 0)) := h
  exact ⟨cell_at h' 0, cell_at h' 1, cell_at h' 2, cell_at h' 3, cell_at h' 4, cell_at h' 5⟩

theorem ms_free {w : World} {g : Nat} {c : MS} (h : c.at w g) : w.frozen? ⟨g, 0, none⟩ = false ∧ w.frozen? ⟨g, 1, none⟩ = false ∧ w.frozen? ⟨g, 2, none⟩ = false ∧ w.frozen? ⟨g, 3, none⟩ = false ∧ w.frozen? ⟨g, 4, none⟩ = false := by
  have h' : w.heap[g]? = some (.cells #[.int .i64 c.raw, .int .i64 c.mono, .int .i64 c.rate, .int .i64 c.rest, .bool c.full, .bool true] 49 (0, 0)) := h
  exact ⟨free_at h' 0, free_at h' 1, free_at h' 2, free_at h' 3, free_at h' 4⟩

theorem none_ptr (g : Nat) (w : World) (h5 : w.cell? ⟨g, 5, none⟩ = some (.bool true)) :
    Calls Try.prog 23 #[.pointer (some ⟨g, 0, none⟩)] w fun e w' => e = .returned (.bool false) ∧ w' = w := by
  go_enter Try.func23, Try.ntmps23
  go_wp2
  go_ret
  exact ⟨rfl, rfl⟩
theorem none_nil (w : World) :
    Calls Try.prog 23 #[.pointer none] w fun e w' => e = .returned (.bool true) ∧ w' = w := by
  go_enter Try.func23, Try.ntmps23
  go_wp2
  go_ret
  exact ⟨rfl, rfl⟩

def MadeMono (c : MS) (w : World) (e : Ending) (w' : World) : Prop :=
  ∃ g, e = .returned (.pointer (some ⟨g, 0, none⟩)) ∧ c.at w' g ∧ Stp [] w w' ∧ w.heap.size ≤ g
def MS.new : MS := ⟨0, 0, 0, 0, false⟩
theorem new_any (w : World) : Calls Try.prog 10 #[] w (MadeMono MS.new w) := by
  go_enter Try.func10, Try.ntmps10
  go_wp2
  go_ret
  exact ⟨_, rfl, by exact new_at _ _, (Stp.refl _ _).alloc _, Nat.le_refl _⟩

structure MS.ok (c : MS) : Prop where
  raw0 : 0 ≤ c.raw
  raw1 : c.raw ≤ 4611686018427387904
  mono0 : 0 ≤ c.mono
  mono1 : c.mono ≤ 4611686018427387904
  rate0 : -500000 ≤ c.rate
  rate1 : c.rate ≤ 500000
  rest0 : 0 ≤ c.rest
  rest1 : c.rest < 1000000000
theorem MS.new_ok : MS.new.ok := by constructor <;> decide

def MS.gain (c : MS) (d : Int) : Int := d + (d * c.rate + c.rest) / 1000000000
def MS.left (c : MS) (d : Int) : Int := (d * c.rate + c.rest) % 1000000000

theorem mul_bd {p r P R : Int} (p0 : 0 ≤ p) (p1 : p ≤ P) (r0 : -R ≤ r) (r1 : r ≤ R) : -(P * R) ≤ p * r ∧ p * r ≤ P * R := by
  have hR : 0 ≤ R := by omega
  have h1 : p * r ≤ p * R := Int.mul_le_mul_of_nonneg_left r1 p0
  have h2 : p * R ≤ P * R := Int.mul_le_mul_of_nonneg_right p1 hR
  have h3 : p * (-R) ≤ p * r := Int.mul_le_mul_of_nonneg_left r0 p0
  rw [Int.mul_neg] at h3
  omega

/-- What a delta makes, in parts. -/
theorem gain_parts (c : MS) (d : Int) : c.gain d = d + d / 1000000000 * c.rate + (d % 1000000000 * c.rate + c.rest) / 1000000000 ∧ c.left d = d % 1000000000 * c.rate + c.rest - (d % 1000000000 * c.rate + c.rest) / 1000000000 * 1000000000 := by
  have e : d * c.rate + c.rest = (d % 1000000000 * c.rate + c.rest) + 1000000000 * (d / 1000000000 * c.rate) := by
    have h := Int.mul_ediv_add_emod d 1000000000
    have h2 : d * c.rate = (1000000000 * (d / 1000000000) + d % 1000000000) * c.rate := by rw [h]
    rw [h2]
    generalize d / 1000000000 = q
    generalize d % 1000000000 = p
    grind
  unfold MS.gain MS.left
  rw [e]
  generalize d % 1000000000 * c.rate + c.rest = x
  generalize d / 1000000000 * c.rate = y
  omega

theorem further_any (g : Nat) (c : MS) (d : Int) (w : World) (h : c.at w g) (ok : c.ok) (hd : 0 ≤ d ∧ d ≤ 1125899906842624) :
    Calls Try.prog 25 #[.pointer (some ⟨g, 0, none⟩), .int .i64 d] w fun e w' => e = .returned (.tuple #[.int .i64 (c.gain d), .int .i64 (c.left d)]) ∧ Stp [] w w' := by
  obtain ⟨c0, c1, c2, c3, c4, c5⟩ := ms_cells h
  clear h
  obtain ⟨d0, d1⟩ := hd
  obtain ⟨_, _, _, _, r0, r1, s0, s1⟩ := ok
  obtain ⟨e1, e2⟩ := gain_parts c d
  rw [e1, e2]
  clear e1 e2
  have b1 := mul_bd (p := d % 1000000000) (P := 999999999) (R := 500000) (by omega) (by omega) r0 r1
  have b2 := mul_bd (p := d / 1000000000) (P := 1125899) (R := 500000) (by omega) (by omega) r0 r1
  obtain ⟨b10, b11⟩ := b1
  obtain ⟨b20, b21⟩ := b2
  simp only [Int.reduceMul, Int.reduceNeg] at b10 b11 b20 b21
  generalize c.rate = rate at *
  generalize c.rest = rest at *
  generalize hx : d % 1000000000 * rate = x at *
  generalize hy : d / 1000000000 * rate = y at *
  have m1 := fun w => muldiv_any (x + rest) 1 1000000000 w (by omega) (by decide) (by decide)
  have e3 : mulDivS false (x + rest) 1 1000000000 = ((x + rest) / 1000000000, 0) := by
    unfold mulDivS
    rw [if_neg (by decide), Int.mul_one]
    simp only [Bool.false_eq_true, if_false]
    rw [if_pos (by omega)]
  rw [e3] at m1
  clear e3
  have HX := Lib.hid hx
  have HY := Lib.hid hy
  have hx' : IntKind.i64.wrap (d % 1000000000 * rate) = x := by rw [HX.out]; exact IntWalk.i64_in _ (by omega)
  have hy' : IntKind.i64.wrap (d / 1000000000 * rate) = y := by rw [HY.out]; exact IntWalk.i64_in _ (by omega)
  have hs : IntKind.i64.wrap (x + rest) = x + rest := IntWalk.i64_in _ (by omega)
  have ht : IntKind.i64.wrap (d + y) = d + y := IntWalk.i64_in _ (by omega)
  have hu : IntKind.i64.wrap (d + y + (x + rest) / 1000000000) = d + y + (x + rest) / 1000000000 := IntWalk.i64_in _ (by omega)
  have hv : IntKind.i64.wrap ((x + rest) / 1000000000 * 1000000000) = (x + rest) / 1000000000 * 1000000000 := IntWalk.i64_in _ (by omega)
  have hz : IntKind.i64.wrap (x + rest - (x + rest) / 1000000000 * 1000000000) = x + rest - (x + rest) / 1000000000 * 1000000000 := IntWalk.i64_in _ (by omega)
  go_enter Try.func25, Try.ntmps25
  go_wp2_with (go_quiet (fail))
  refine (m1 _).mono ?_
  rintro e w1 ⟨rfl, h1⟩
  have c2' : w1.cell? ⟨g, 2, none⟩ = some (.int .i64 rate) := h1.cell c2 (by simp)
  clear m1
  go_wp2_with (go_quiet (fail))
  go_ret2
  exact ⟨rfl, Stp.of_drewN h1⟩

/-- What Go does: by how much, the error's number, the clock then. -/
def MS.go (c : MS) (d : Int) : Int × Int × MS :=
  if d < 0 ∨ d > 1125899906842624 then (0, 1, c)
  else if c.full = true then (0, 7, c)
  else if c.gain d > 4611686018427387904 - c.mono ∨ d > 4611686018427387904 - c.raw then
    (0, 7, { c with mono := min (c.mono + c.gain d) 4611686018427387904, raw := min (c.raw + d) 4611686018427387904, full := true })
  else (c.gain d, 0, { c with mono := c.mono + c.gain d, raw := c.raw + d, rest := c.left d, full := false })

theorem gain_bd {c : MS} (ok : c.ok) {d : Int} (d0 : 0 ≤ d) (d1 : d ≤ 1125899906842624) : 0 ≤ c.gain d ∧ c.gain d ≤ 2 * d + 1 ∧ 0 ≤ c.left d ∧ c.left d < 1000000000 ∧ d - d / 2000 - 1 ≤ c.gain d ∧ c.gain d ≤ d + d / 2000 + 1 := by
  obtain ⟨_, _, _, _, r0, r1, s0, s1⟩ := ok
  have h1 : d * c.rate ≤ d * 500000 := Int.mul_le_mul_of_nonneg_left r1 d0
  have h2 : d * (-500000) ≤ d * c.rate := Int.mul_le_mul_of_nonneg_left r0 d0
  unfold MS.gain MS.left
  generalize d * c.rate = x at *
  omega
theorem MS.go_ok {c : MS} (ok : c.ok) (d : Int) : (c.go d).2.2.ok := by
  unfold MS.go
  by_cases h1 : d < 0 ∨ d > 1125899906842624
  · rw [if_pos h1]; exact ok
  · rw [if_neg h1]
    by_cases h2 : c.full = true
    · rw [if_pos h2]; exact ok
    · rw [if_neg h2]
      have b := gain_bd ok (d := d) (by omega) (by omega)
      obtain ⟨a1, a2, a3, a4, r0, r1, s0, s1⟩ := ok
      by_cases h3 : c.gain d > 4611686018427387904 - c.mono ∨ d > 4611686018427387904 - c.raw
      · rw [if_pos h3]
        refine ⟨?_, ?_, ?_, ?_, r0, r1, s0, s1⟩ <;> simp only <;> omega
      · rw [if_neg h3]
        refine ⟨?_, ?_, ?_, ?_, r0, r1, ?_, ?_⟩ <;> simp only <;> omega

set_option maxHeartbeats 1000000 in
theorem go_any (g : Nat) (c : MS) (d : Int) (w : World) (h : c.at w g) (ok : c.ok) (hd : -9223372036854775808 ≤ d ∧ d ≤ 9223372036854775807) :
    Calls Try.prog 13 #[.pointer (some ⟨g, 0, none⟩), .int .i64 d] w fun e w' => e = .returned (.tuple #[.int .i64 (c.go d).1, .int .i64 (c.go d).2.1]) ∧ (c.go d).2.2.at w' g ∧ Stp [g] w w' := by
  have hh := Lib.hid h
  obtain ⟨c0, c1, c2, c3, c4, c5⟩ := ms_cells h
  clear h
  obtain ⟨d0, d1⟩ := hd
  by_cases h1 : d < 0 ∨ d > 1125899906842624
  · have e : c.go d = (0, 1, c) := by unfold MS.go; rw [if_pos h1]
    rw [e]
    clear e
    by_cases h2 : d < 0
    · clear h1
      go_enter Try.func13, Try.ntmps13
      go_wp2_with fail
      refine (none_ptr _ _ (by assumption)).mono ?_
      rintro e w1 ⟨rfl, rfl⟩
      go_wp2_with fail
      go_ret2
      exact ⟨rfl, hh.out, Stp.refl _ _⟩
    · have h3 : 1125899906842624 < d := by omega
      clear h1
      go_enter Try.func13, Try.ntmps13
      go_wp2_with fail
      refine (none_ptr _ _ (by assumption)).mono ?_
      rintro e w1 ⟨rfl, rfl⟩
      go_wp2_with fail
      go_ret2
      exact ⟨rfl, hh.out, Stp.refl _ _⟩
  · by_cases h2 : c.full = true
    · have e : c.go d = (0, 7, c) := by unfold MS.go; rw [if_neg h1, if_pos h2]
      rw [e]
      rw [h2] at c4
      clear e h2
      have h3 : ¬ d < 0 := by omega
      have h4 : ¬ 1125899906842624 < d := by omega
      clear h1
      go_enter Try.func13, Try.ntmps13
      go_wp2_with fail
      refine (none_ptr _ _ (by assumption)).mono ?_
      rintro e w1 ⟨rfl, rfl⟩
      go_wp2_with fail
      go_ret2
      exact ⟨rfl, hh.out, Stp.refl _ _⟩
    · have b := gain_bd ok (d := d) (by omega) (by omega)
      have e := show c.go d = if c.gain d > 4611686018427387904 - c.mono ∨ d > 4611686018427387904 - c.raw then
        (0, 7, { c with mono := min (c.mono + c.gain d) 4611686018427387904, raw := min (c.raw + d) 4611686018427387904, full := true })
        else (c.gain d, 0, { c with mono := c.mono + c.gain d, raw := c.raw + d, rest := c.left d, full := false }) by unfold MS.go; rw [if_neg h1, if_neg h2]
      have h2' : c.full = false := by simpa using h2
      have hmk : MS.mk c.raw c.mono c.rate c.rest c.full = MS.mk c.raw c.mono c.rate c.rest false := by rw [h2']
      have H2 := Lib.hid hmk
      clear hmk
      rw [h2'] at c4
      have f1 := fun w (h : c.at w g) => further_any g c d w h ok ⟨by omega, by omega⟩
      have F1 := Lib.hid f1
      obtain ⟨a1, a2, a3, a4, _, _, _, _⟩ := ok
      have h3 : ¬ d < 0 := by omega
      have h4 : ¬ 1125899906842624 < d := by omega
      obtain ⟨b1, b2, b3, b4, b5, b6⟩ := b
      clear h1 h2 h2' f1
      have E := Lib.hid e
      clear e
      have hat : ∀ w2, Stp [] w w2 → (MS.mk c.raw c.mono c.rate c.rest false).at w2 g := fun w2 h => by
        have := h.at hh.out (by simp)
        rw [← H2.out]
        exact this
      have HAT := Lib.hid hat
      clear hat
      by_cases h5 : 4611686018427387904 - c.mono < c.gain d ∨ 4611686018427387904 - c.raw < d
      · rw [E.out, if_pos h5]
        have h6 : 4611686018427387904 - c.mono < c.gain d ∨ (¬ 4611686018427387904 - c.mono < c.gain d ∧ 4611686018427387904 - c.raw < d) := by omega
        clear h5
        rcases h6 with h6 | ⟨h6, h7⟩
        all_goals
          go_enter Try.func13, Try.ntmps13
          go_wp2_with fail
          refine (none_ptr _ _ (by assumption)).mono ?_
          rintro e w1 ⟨rfl, rfl⟩
          go_wp2_with fail
          refine (F1.out _ (by exact hh.out)).mono ?_
          rintro e w2 ⟨rfl, s2⟩
          have h9 := HAT.out _ s2
          have H9 := Lib.hid h9
          obtain ⟨x0, x1, x2, x3, x4, x5⟩ := ms_cells h9
          obtain ⟨z0, z1, z2, z3, z4⟩ := ms_free h9
          clear h9
          go_wp2_with (go_quiet (fail))
          go_region
          go_wp2_with (go_quiet (fail))
          go_ret2
          refine ⟨rfl, ?_, ((((s2.of_nil.setCell (p := ⟨g, 1, none⟩) (.inl (by simp)) _).setCell (p := ⟨g, 0, none⟩) (.inl (by simp)) _).setCell (p := ⟨g, 4, none⟩) (.inl (by simp)) _).drew)⟩
          exact set_at (set_at (set_at H9.out 1 _) 0 _) 4 _
      · rw [E.out, if_neg h5]
        have h6 : ¬ 4611686018427387904 - c.mono < c.gain d := by omega
        have h7 : ¬ 4611686018427387904 - c.raw < d := by omega
        clear h5
        go_enter Try.func13, Try.ntmps13
        go_wp2_with fail
        refine (none_ptr _ _ (by assumption)).mono ?_
        rintro e w1 ⟨rfl, rfl⟩
        go_wp2_with fail
        refine (F1.out _ (by exact hh.out)).mono ?_
        rintro e w2 ⟨rfl, s2⟩
        have h9 := HAT.out _ s2
        have H9 := Lib.hid h9
        obtain ⟨x0, x1, x2, x3, x4, x5⟩ := ms_cells h9
        obtain ⟨z0, z1, z2, z3, z4⟩ := ms_free h9
        clear h9
        go_wp2_with (go_quiet (fail))
        go_region
        go_wp2_with (go_quiet (fail))
        go_ret2
        refine ⟨rfl, ?_, ((((s2.of_nil.setCell (p := ⟨g, 1, none⟩) (.inl (by simp)) _).setCell (p := ⟨g, 0, none⟩) (.inl (by simp)) _).setCell (p := ⟨g, 3, none⟩) (.inl (by simp)) _).drew)⟩
        exact set_at (set_at (set_at H9.out 1 _) 0 _) 3 _

theorem setrate_any (g : Nat) (c : MS) (r : Int) (w : World) (h : c.at w g) (hr : -9223372036854775808 ≤ r ∧ r ≤ 9223372036854775807) (ha : -500000 ≤ r ∧ r ≤ 500000) :
    Calls Try.prog 12 #[.pointer (some ⟨g, 0, none⟩), .int .i64 r] w fun e w' => e = .returned (.int .i64 0) ∧ (MS.mk c.raw c.mono r c.rest c.full).at w' g ∧ Stp [g] w w' := by
  have hh := Lib.hid h
  obtain ⟨c0, c1, c2, c3, c4, c5⟩ := ms_cells h
  obtain ⟨z0, z1, z2, z3, z4⟩ := ms_free h
  clear h
  have a1 := fun w => abs_any r w hr
  have a2 : absS r ≤ 500000 := by unfold absS; (repeat' split) <;> omega
  go_enter Try.func12, Try.ntmps12
  go_wp2_with fail
  refine (none_ptr _ _ (by assumption)).mono ?_
  rintro e w1 ⟨rfl, rfl⟩
  go_wp2_with fail
  refine (a1 _).mono ?_
  rintro e w1 ⟨rfl, rfl⟩
  go_wp2_with fail
  go_ret
  exact ⟨rfl, set_at hh.out 2 _, (Stp.refl _ _).setCell (.inl (by simp)) _⟩
theorem setrate_bad (g : Nat) (c : MS) (r : Int) (w : World) (h : c.at w g) (hr : -9223372036854775808 ≤ r ∧ r ≤ 9223372036854775807) (ha : ¬ (-500000 ≤ r ∧ r ≤ 500000)) :
    Calls Try.prog 12 #[.pointer (some ⟨g, 0, none⟩), .int .i64 r] w fun e w' => e = .returned (.int .i64 1) ∧ w' = w := by
  obtain ⟨c0, c1, c2, c3, c4, c5⟩ := ms_cells h
  clear h
  have a1 := fun w => abs_any r w hr
  have a2 : 500000 < absS r := by unfold absS; (repeat' split) <;> omega
  clear ha
  go_enter Try.func12, Try.ntmps12
  go_wp2_with fail
  refine (none_ptr _ _ (by assumption)).mono ?_
  rintro e w1 ⟨rfl, rfl⟩
  go_wp2_with fail
  refine (a1 _).mono ?_
  rintro e w1 ⟨rfl, rfl⟩
  go_wp2_with fail
  go_ret
  exact ⟨rfl, rfl⟩

theorem mono_any (g : Nat) (c : MS) (w : World) (h : c.at w g) :
    Calls Try.prog 14 #[.pointer (some ⟨g, 0, none⟩)] w fun e w' => e = .returned (.int .i64 c.mono) ∧ w' = w := by
  obtain ⟨c0, c1, c2, c3, c4, c5⟩ := ms_cells h
  clear h
  go_enter Try.func14, Try.ntmps14
  go_wp2_with fail
  refine (none_ptr _ _ (by assumption)).mono ?_
  rintro e w1 ⟨rfl, rfl⟩
  go_wp2_with fail
  go_ret
  exact ⟨rfl, rfl⟩

theorem raw_any (g : Nat) (c : MS) (w : World) (h : c.at w g) :
    Calls Try.prog 15 #[.pointer (some ⟨g, 0, none⟩)] w fun e w' => e = .returned (.int .i64 c.raw) ∧ w' = w := by
  obtain ⟨c0, c1, c2, c3, c4, c5⟩ := ms_cells h
  clear h
  go_enter Try.func15, Try.ntmps15
  go_wp2_with fail
  refine (none_ptr _ _ (by assumption)).mono ?_
  rintro e w1 ⟨rfl, rfl⟩
  go_wp2_with fail
  go_ret
  exact ⟨rfl, rfl⟩

theorem rate_any (g : Nat) (c : MS) (w : World) (h : c.at w g) :
    Calls Try.prog 17 #[.pointer (some ⟨g, 0, none⟩)] w fun e w' => e = .returned (.int .i64 c.rate) ∧ w' = w := by
  obtain ⟨c0, c1, c2, c3, c4, c5⟩ := ms_cells h
  clear h
  go_enter Try.func17, Try.ntmps17
  go_wp2_with fail
  refine (none_ptr _ _ (by assumption)).mono ?_
  rintro e w1 ⟨rfl, rfl⟩
  go_wp2_with fail
  go_ret
  exact ⟨rfl, rfl⟩

theorem full_any (g : Nat) (c : MS) (w : World) (h : c.at w g) :
    Calls Try.prog 16 #[.pointer (some ⟨g, 0, none⟩)] w fun e w' => e = .returned (.bool c.full) ∧ w' = w := by
  obtain ⟨c0, c1, c2, c3, c4, c5⟩ := ms_cells h
  clear h
  go_enter Try.func16, Try.ntmps16
  go_wp2_with fail
  refine (none_ptr _ _ (by assumption)).mono ?_
  rintro e w1 ⟨rfl, rfl⟩
  go_wp2_with fail
  go_ret
  exact ⟨rfl, rfl⟩

theorem copy_any (g : Nat) (c : MS) (w : World) (h : c.at w g) : Calls Try.prog 18 #[.pointer (some ⟨g, 0, none⟩)] w (MadeMono c w) := by
  obtain ⟨c0, c1, c2, c3, c4, c5⟩ := ms_cells h
  clear h
  go_enter Try.func18, Try.ntmps18
  go_wp2_with fail
  refine (none_ptr _ _ (by assumption)).mono ?_
  rintro e w1 ⟨rfl, rfl⟩
  go_wp2_with fail
  go_ret
  exact ⟨_, rfl, by exact new_at _ _, (Stp.refl _ _).alloc _, Nat.le_refl _⟩
end Go.Proofs.Ytmfjknpkogebmaa
