/- The clock's own functions, each walked once. -/
import Derived.Test.YteoglmbmbejlaaaBase
import Derived.WalkMore
namespace Go.Proofs.Yteoglmbmbejlaaa
open Go.RowKit
set_option linter.unusedVariables false
set_option linter.unusedSimpArgs false

theorem none_ptr (g : Nat) (w : World) (h5 : w.cell? ⟨g, 5, none⟩ = some (.bool true)) :
    Calls Try.prog 16 #[.pointer (some ⟨g, 0, none⟩)] w fun e w' => e = .returned (.bool false) ∧ w' = w := by
  go_enter Try.func16, Try.ntmps16
  go_wp2
  go_ret
  exact ⟨rfl, rfl⟩
theorem none_nil (w : World) :
    Calls Try.prog 16 #[.pointer none] w fun e w' => e = .returned (.bool true) ∧ w' = w := by
  go_enter Try.func16, Try.ntmps16
  go_wp2
  go_ret
  exact ⟨rfl, rfl⟩

def isTime (t : Int) : Bool := decide (0 ≤ t) && decide (t ≤ 4611686018427387904)
theorem isTime_true {t : Int} (h : isTime t = true) : 0 ≤ t ∧ t ≤ 4611686018427387904 := by simpa [isTime] using h
theorem isTime_mk {t : Int} (h : 0 ≤ t) (h' : t ≤ 4611686018427387904) : isTime t = true := by simp [isTime, h, h']
theorem time_any (t : Int) (w : World) :
    Calls Try.prog 17 #[.int .i64 t] w fun e w' => e = .returned (.bool (isTime t)) ∧ w' = w := by
  go_enter Try.func17, Try.ntmps17
  go_wp2
  all_goals
    go_ret
    exact ⟨by simp [isTime]; try omega, rfl⟩

def absS (a : Int) : Int := if a = -9223372036854775808 then 9223372036854775807 else if a < 0 then -a else a
theorem abs_any (a : Int) (w : World) (h0 : -9223372036854775808 ≤ a) (h1 : a ≤ 9223372036854775807):
    Calls Try.prog 18 #[.int .i64 a] w fun e w' => e = .returned (.int .i64 (absS a)) ∧ w' = w := by
  have wb : wrap64 (-9223372036854775808) = -9223372036854775808 := wrap64_id (by omega) (by omega)
  by_cases h : a = -9223372036854775808
  · subst h
    go_enter Try.func18, Try.ntmps18
    go_wp2
    go_ret
    exact ⟨rfl, rfl⟩
  · have hb : (a == -9223372036854775808) = false := by simp [h]
    have e1 : -9223372036854775807 ≤ a := by omega
    by_cases hn : a < 0
    · have e2 : absS a = -a := by rw [absS, if_neg h, if_pos hn]
      have E := Lib.hid e2
      clear h e2
      go_enter Try.func18, Try.ntmps18
      go_wp2
      go_ret
      exact ⟨ret_int E.out.symm, rfl⟩
    · have e2 : absS a = a := by rw [absS, if_neg h, if_neg hn]
      have E := Lib.hid e2
      clear h e2
      go_enter Try.func18, Try.ntmps18
      go_wp2
      go_ret
      exact ⟨ret_int E.out.symm, rfl⟩

structure CS where
  (st pa so s si : Int)
def CS.cells (c : CS) : Obj := .cells #[.int .i64 c.st, .int .i64 c.pa, .int .i64 c.so, .int .i64 c.s, .int .i64 c.si, .bool true] 46 (0, 0)
def CS.at (c : CS) (w : World) (g : Nat) : Prop := w.heap[g]? = some c.cells

def CS.comes (c : CS) (s now : Int) : CS := if c.s = s then c else { c with s := s, si := now }
theorem comes_any (g : Nat) (c : CS) (s now : Int) (w : World) (h : c.at w g) :
    Calls Try.prog 19 #[.pointer (some ⟨g, 0, none⟩), .int .i64 s, .int .i64 now] w fun e w' => e = .returned (.tuple #[]) ∧ (c.comes s now).at w' g ∧ Stp [g] w w' := by
  have h' : w.heap[g]? = some (.cells #[.int .i64 c.st, .int .i64 c.pa, .int .i64 c.so, .int .i64 c.s, .int .i64 c.si, .bool true] 46 (0, 0)) := h
  have h3 : w.cell? ⟨g, 3, none⟩ = some (.int .i64 c.s) := cell_at h' 3
  have h4 : w.cell? ⟨g, 4, none⟩ = some (.int .i64 c.si) := cell_at h' 4
  have f3 := free_at h' 3
  have f4 := free_at h' 4
  have H := Lib.hid h'
  clear h h'
  by_cases hs : c.s = s
  · have hb : (c.s != s) = false := by simp [hs]
    have HS := Lib.hid hs
    clear hs
    go_enter Try.func19, Try.ntmps19
    go_wp2
    go_end0
    refine ⟨rfl, ?_, Stp.refl _ _⟩
    rw [CS.comes, if_pos HS.out]
    exact H.out
  · have hb : (c.s != s) = true := by simp [hs]
    go_enter Try.func19, Try.ntmps19
    go_wp2
    go_end0
    refine ⟨rfl, ?_, ((Stp.refl _ _).setCell (by simp) _).setCell (by simp) _⟩
    rw [CS.comes, if_neg hs]
    exact set_at (set_at H.out 3 _) 4 _


/-- What becomes of an offset, the error's number, and the clock then. -/
def CS.upd (c : CS) (off now : Int) : Int × Int × CS :=
  if isTime now = false ∨ now < c.si then (0, 1, c)
  else if c.pa > 0 ∧ absS off > c.pa then (0, 34, c)
  else
    let d := if absS off > c.st then 2 else 1
    if c.s = 0 then (d, 0, c.comes 3 now)
    else if c.s = 1 then (d, 0, c.comes 4 now)
    else if c.s ≠ 3 ∧ absS off > c.st ∧ c.s = 4 then (0, 0, c.comes 2 now)
    else if c.s ≠ 3 ∧ ¬ absS off > c.st then (1, 0, c.comes 4 now)
    else if absS off > c.st ∧ ¬ now - c.si ≥ c.so then (0, 0, c)
    else if ¬ absS off > c.st ∧ ¬ now - c.si ≥ c.so then (1, 0, c)
    else (d, 0, c.comes 4 now)

structure CS.ok (c : CS) : Prop where
  st0 : 0 ≤ c.st
  st1 : c.st ≤ 4611686018427387904
  pa0 : 0 ≤ c.pa
  pa1 : c.pa ≤ 4611686018427387904
  so0 : 0 ≤ c.so
  so1 : c.so ≤ 4611686018427387904
  si0 : 0 ≤ c.si
  si1 : c.si ≤ 4611686018427387904


theorem abs_pos (a : Int) (h1 : a ≤ 9223372036854775807) (h0 : -9223372036854775808 ≤ a) : 0 ≤ absS a ∧ absS a ≤ 9223372036854775807 := by
  unfold absS
  split
  · omega
  · split <;> omega

/-- The facts on a clock's cells that its methods' walks ask for. -/
theorem cells_of {w : World} {g : Nat} {c : CS} (h : c.at w g) : w.cell? ⟨g, 0, none⟩ = some (.int .i64 c.st) ∧ w.cell? ⟨g, 1, none⟩ = some (.int .i64 c.pa) ∧ w.cell? ⟨g, 2, none⟩ = some (.int .i64 c.so) ∧ w.cell? ⟨g, 3, none⟩ = some (.int .i64 c.s) ∧ w.cell? ⟨g, 4, none⟩ = some (.int .i64 c.si) ∧ w.cell? ⟨g, 5, none⟩ = some (.bool true) := by
  have h' : w.heap[g]? = some (.cells #[.int .i64 c.st, .int .i64 c.pa, .int .i64 c.so, .int .i64 c.s, .int .i64 c.si, .bool true] 46 (0, 0)) := h
  exact ⟨cell_at h' 0, cell_at h' 1, cell_at h' 2, cell_at h' 3, cell_at h' 4, cell_at h' 5⟩

set_option maxHeartbeats 1000000 in
theorem upd_bad (g : Nat) (c : CS) (off now : Int) (w : World) (h : c.at w g) (hb : isTime now = false ∨ now < c.si) :
    Calls Try.prog 10 #[.pointer (some ⟨g, 0, none⟩), .int .i64 off, .int .i64 now] w fun e w' => e = .returned (.tuple #[.int .i64 0, .int .i64 1]) ∧ w' = w := by
  obtain ⟨c0, c1, c2, c3, c4, c5⟩ := cells_of h
  clear h
  rcases Bool.eq_false_or_eq_true (isTime now) with ht | ht
  · have hs : now < c.si := by rcases hb with h | h; simp [ht] at h; exact h
    clear hb
    go_enter Try.func10, Try.ntmps10
    go_wp2
    refine wp_scope_jumpTo 2 ?_
    generalize hQ : jumpTo _ _ _ 2 = QQ
    have HQ := Lib.hid hQ
    clear hQ
    go_wp2_with (first | (go_at_call 16; refine (none_ptr _ _ (by assumption)).mono ?_; rintro e w' ⟨rfl, rfl⟩) | (go_at_call 17; refine (time_any _ _).mono ?_; rintro e w' ⟨rfl, rfl⟩))
    rw [← HQ.out]
    simp only [jumpTo]
    go_ret2
    exact ⟨rfl, rfl⟩
  · clear hb
    go_enter Try.func10, Try.ntmps10
    go_wp2
    refine wp_scope_jumpTo 2 ?_
    generalize hQ : jumpTo _ _ _ 2 = QQ
    have HQ := Lib.hid hQ
    clear hQ
    go_wp2_with (first | (go_at_call 16; refine (none_ptr _ _ (by assumption)).mono ?_; rintro e w' ⟨rfl, rfl⟩) | (go_at_call 17; refine (time_any _ _).mono ?_; rintro e w' ⟨rfl, rfl⟩))
    rw [← HQ.out]
    simp only [jumpTo]
    go_ret2
    exact ⟨rfl, rfl⟩

set_option maxHeartbeats 1000000 in
theorem upd_panic (g : Nat) (c : CS) (off now : Int) (w : World) (h : c.at w g) (ht : isTime now = true) (hs : ¬ now < c.si) (o1 : -9223372036854775808 ≤ off) (o2 : off ≤ 9223372036854775807) (hp : 0 < c.pa) (ha : c.pa < absS off) :
    Calls Try.prog 10 #[.pointer (some ⟨g, 0, none⟩), .int .i64 off, .int .i64 now] w fun e w' => e = .returned (.tuple #[.int .i64 0, .int .i64 34]) ∧ ∃ n, w' = w.drewN n := by
  obtain ⟨c0, c1, c2, c3, c4, c5⟩ := cells_of h
  clear h
  go_enter Try.func10, Try.ntmps10
  go_wp2
  refine wp_scope_jumpTo 2 ?_
  generalize hQ : jumpTo _ _ _ 2 = QQ
  have HQ := Lib.hid hQ
  clear hQ
  go_wp2_with (first | (go_at_call 16; refine (none_ptr _ _ (by assumption)).mono ?_; rintro e w' ⟨rfl, rfl⟩) | (go_at_call 17; refine (time_any _ _).mono ?_; rintro e w' ⟨rfl, rfl⟩) | (go_quiet (first | (go_at_call 18; exact Calls.quiet_of_same (abs_any _ _ o1 o2)))))
  rw [← HQ.out]
  simp only [jumpTo]
  go_ret2
  exact ⟨rfl, _, rfl⟩


end Go.Proofs.Yteoglmbmbejlaaa
