/- wall: what each of its functions answers. -/
import Derived.Test.YtejcckjakhllpaaFix
import Derived.Laws.ResultCell
import Derived.Outline
namespace Go.Proofs.Ytejcckjakhllpaa
open Go.RowKit
set_option linter.unusedVariables false
set_option linter.unusedSimpArgs false

structure WS where
  (base steps : Int)
def WS.at (c : WS) (w : World) (g : Nat) : Prop := w.heap[g]? = some (.cells #[.int .i64 c.base, .int .i64 c.steps, .bool true] 24 (0, 0))
theorem ws_cells {w : World} {g : Nat} {c : WS} (h : c.at w g) : w.cell? ⟨g, 0, none⟩ = some (.int .i64 c.base) ∧ w.cell? ⟨g, 1, none⟩ = some (.int .i64 c.steps) ∧ w.cell? ⟨g, 2, none⟩ = some (.bool true) := by
  have h' : w.heap[g]? = some (.cells #[.int .i64 c.base, .int .i64 c.steps, .bool true] 24 (0, 0)) := h
  exact ⟨cell_at h' 0, cell_at h' 1, cell_at h' 2⟩
theorem ws_free {w : World} {g : Nat} {c : WS} (h : c.at w g) : w.frozen? ⟨g, 0, none⟩ = false ∧ w.frozen? ⟨g, 1, none⟩ = false := by
  have h' : w.heap[g]? = some (.cells #[.int .i64 c.base, .int .i64 c.steps, .bool true] 24 (0, 0)) := h
  exact ⟨free_at h' 0, free_at h' 1⟩
theorem WS.at_alloc {c : WS} {w : World} {g : Nat} (h : c.at w g) (o : Obj) : c.at (w.alloc o) g := Blk.alloc (t := 24) (show Blk w g 24 _ from h) o
theorem WS.at_drewN {c : WS} {w : World} {g : Nat} (h : c.at w g) (n : Nat) : c.at (w.drewN n) g := h

theorem none_ptr (g : Nat) (w : World) (h5 : w.cell? ⟨g, 2, none⟩ = some (.bool true)) :
    Calls Try.prog 24 #[.pointer (some ⟨g, 0, none⟩)] w fun e w' => e = .returned (.bool false) ∧ w' = w := by
  go_enter Try.func24, Try.ntmps24
  go_wp2
  go_ret
  exact ⟨rfl, rfl⟩
theorem none_nil (w : World) :
    Calls Try.prog 24 #[.pointer none] w fun e w' => e = .returned (.bool true) ∧ w' = w := by
  go_enter Try.func24, Try.ntmps24
  go_wp2
  go_ret
  exact ⟨rfl, rfl⟩
/-- A wall that was never made. -/
theorem none_zero (g : Nat) (w : World) (h5 : w.cell? ⟨g, 2, none⟩ = some (.bool false)) :
    Calls Try.prog 24 #[.pointer (some ⟨g, 0, none⟩)] w fun e w' => e = .returned (.bool true) ∧ w' = w := by
  go_enter Try.func24, Try.ntmps24
  go_wp2
  go_ret
  exact ⟨rfl, rfl⟩

def timeS (n : Int) : Int := clampS n 0 4611686018427387904
theorem timeS_bd (n : Int) : 0 ≤ timeS n ∧ timeS n ≤ 4611686018427387904 := by unfold timeS clampS; (repeat' split) <;> omega
theorem time_any (n : Int) (w : World) : Calls Try.prog 28 #[.int .i64 n] w fun e w' => e = .returned (.int .i64 (timeS n)) ∧ w' = w := by
  go_enter Try.func28, Try.ntmps28
  go_wp2_with fail
  refine (clamp_any n 0 4611686018427387904 _).mono ?_
  rintro e w1 ⟨rfl, rfl⟩
  go_wp2_with fail
  go_ret
  exact ⟨rfl, rfl⟩
def ableS (n : Int) : Int := clampS n (-500000) 500000
theorem ableS_bd (n : Int) : -500000 ≤ ableS n ∧ ableS n ≤ 500000 := by unfold ableS clampS; (repeat' split) <;> omega
theorem able_any (n : Int) (w : World) : Calls Try.prog 32 #[.int .i64 n] w fun e w' => e = .returned (.int .i64 (ableS n)) ∧ w' = w := by
  go_enter Try.func32, Try.ntmps32
  go_wp2_with fail
  refine (clamp_any n (-500000) 500000 _).mono ?_
  rintro e w1 ⟨rfl, rfl⟩
  go_wp2_with fail
  go_ret
  exact ⟨rfl, rfl⟩

def rateS (a s : Int) : Int :=
  if timeS s = 0 then 0
  else if a < 0 then (if (mulDivS false a 1000000000 (timeS s)).2 = 0 then ableS (mulDivS false a 1000000000 (timeS s)).1 else -500000)
  else (if (mulDivS true a 1000000000 (timeS s)).2 = 0 then ableS (mulDivS true a 1000000000 (timeS s)).1 else 500000)
theorem rate_any (a s : Int) (w : World) (ha : -9223372036854775808 ≤ a ∧ a ≤ 9223372036854775807) (hs : -9223372036854775808 ≤ s ∧ s ≤ 9223372036854775807) :
    Calls Try.prog 15 #[.int .i64 a, .int .i64 s] w fun e w' => e = .returned (.int .i64 (rateS a s)) ∧ Stp [] w w' := by
  have t1 := fun w => time_any s w
  obtain ⟨t2, t3⟩ := timeS_bd s
  unfold rateS
  generalize timeS s = t at *
  by_cases h0 : t = 0
  · subst h0
    rw [if_pos rfl]
    go_enter Try.func15, Try.ntmps15
    go_wp2_with fail
    refine (t1 _).mono ?_
    rintro e w1 ⟨rfl, rfl⟩
    go_wp2_with fail
    go_ret
    exact ⟨rfl, Stp.refl _ _⟩
  · rw [if_neg h0]
    have h0b : (t == 0) = false := by simpa using h0
    clear h0
    by_cases hn : a < 0
    · rw [if_pos hn]
      have m1 := fun w => muldiv_any a 1000000000 t w ha (by decide) (by omega)
      generalize mulDivS false a 1000000000 t = q at *
      obtain ⟨q, er⟩ := q
      simp only at m1
      have a1 := fun w => able_any q w
      have M := Lib.hid (And.intro t1 (And.intro m1 a1))
      clear t1 m1 a1
      by_cases he : er = 0
      · subst he
        rw [if_pos rfl]
        go_enter Try.func15, Try.ntmps15
        go_wp2_with fail
        refine (M.out.1 _).mono ?_
        rintro e w1 ⟨rfl, rfl⟩
        go_wp2_with fail
        refine (M.out.2.1 _).mono ?_
        rintro e w2 ⟨rfl, s2⟩
        go_wp2_with fail
        refine (M.out.2.2 _).mono ?_
        rintro e w3 ⟨rfl, rfl⟩
        go_wp2_with fail
        go_ret
        exact ⟨rfl, s2⟩
      · rw [if_neg he]
        have heb : (er == 0) = false := by simpa using he
        clear he
        go_enter Try.func15, Try.ntmps15
        go_wp2_with fail
        refine (M.out.1 _).mono ?_
        rintro e w1 ⟨rfl, rfl⟩
        go_wp2_with fail
        refine (M.out.2.1 _).mono ?_
        rintro e w2 ⟨rfl, s2⟩
        go_wp2_with fail
        go_ret
        exact ⟨rfl, s2⟩
    · rw [if_neg hn]
      have m1 := fun w => muldivup_any a 1000000000 t w ha (by decide) (by omega)
      generalize mulDivS true a 1000000000 t = q at *
      obtain ⟨q, er⟩ := q
      simp only at m1
      have a1 := fun w => able_any q w
      have M := Lib.hid (And.intro t1 (And.intro m1 a1))
      clear t1 m1 a1
      by_cases he : er = 0
      · subst he
        rw [if_pos rfl]
        go_enter Try.func15, Try.ntmps15
        go_wp2_with fail
        refine (M.out.1 _).mono ?_
        rintro e w1 ⟨rfl, rfl⟩
        go_wp2_with fail
        refine (M.out.2.1 _).mono ?_
        rintro e w2 ⟨rfl, s2⟩
        go_wp2_with fail
        refine (M.out.2.2 _).mono ?_
        rintro e w3 ⟨rfl, rfl⟩
        go_wp2_with fail
        go_ret
        exact ⟨rfl, s2⟩
      · rw [if_neg he]
        have heb : (er == 0) = false := by simpa using he
        clear he
        go_enter Try.func15, Try.ntmps15
        go_wp2_with fail
        refine (M.out.1 _).mono ?_
        rintro e w1 ⟨rfl, rfl⟩
        go_wp2_with fail
        refine (M.out.2.1 _).mono ?_
        rintro e w2 ⟨rfl, s2⟩
        go_wp2_with fail
        go_ret
        exact ⟨rfl, s2⟩

def slewedS (r s : Int) : Int := timeS s * ableS r / 1000000000
theorem slewed_any (r s : Int) (w : World) :
    Calls Try.prog 16 #[.int .i64 r, .int .i64 s] w fun e w' => e = .returned (.int .i64 (slewedS r s)) ∧ Stp [] w w' := by
  have t1 := fun w => time_any s w
  have t4 := fun w => able_any r w
  obtain ⟨t2, t3⟩ := timeS_bd s
  obtain ⟨t5, t6⟩ := ableS_bd r
  unfold slewedS
  generalize timeS s = t at *
  generalize ableS r = q at *
  have m1 := fun w => muldiv_any t q 1000000000 w (by omega) (by omega) (by decide)
  have h1 : t * q ≤ t * 500000 := Int.mul_le_mul_of_nonneg_left t6 t2
  have h2 : t * (-500000) ≤ t * q := Int.mul_le_mul_of_nonneg_left t5 t2
  have e : mulDivS false t q 1000000000 = (t * q / 1000000000, 0) := by
    unfold mulDivS
    rw [if_neg (by decide)]
    simp only [Bool.false_eq_true, if_false]
    rw [if_pos (by omega)]
  rw [e] at m1
  have M := Lib.hid (And.intro t1 (And.intro t4 m1))
  clear t1 m1 t4 e h1 h2
  go_enter Try.func16, Try.ntmps16
  go_wp2_with fail
  refine (M.out.1 _).mono ?_
  rintro e w1 ⟨rfl, rfl⟩
  go_wp2_with fail
  refine (M.out.2.1 _).mono ?_
  rintro e w2 ⟨rfl, rfl⟩
  go_wp2_with fail
  refine (M.out.2.2 _).mono ?_
  rintro e w3 ⟨rfl, s3⟩
  go_wp2_with fail
  go_ret
  exact ⟨rfl, s3⟩

end Go.Proofs.Ytejcckjakhllpaa
