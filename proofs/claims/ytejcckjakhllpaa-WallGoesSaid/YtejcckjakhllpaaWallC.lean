/- wall: When. -/
import Derived.Test.YtejcckjakhllpaaWallB
import Derived.Outline
import Derived.StillTailTactics
import Derived.Deep.RegionHeld3
namespace Go.Proofs.Ytejcckjakhllpaa
open Go.RowKit
set_option linter.unusedVariables false
set_option linter.unusedSimpArgs false

def WS.may (c : WS) (t m : Int) : Bool := decide (0 ≤ m ∧ m ≤ 4611686018427387904 ∧ t ≤ c.tell m)
theorem may_any (g b1 b2 : Nat) (c : WS) (t m : Int) (w : World) (h : c.at w g) (ok : c.ok) (ht : -9223372036854775808 ≤ t ∧ t ≤ 9223372036854775807) (hm : -9223372036854775808 ≤ m ∧ m ≤ 9223372036854775807)
    (q1 : w.cell? ⟨b1, 0, none⟩ = some (.pointer (some ⟨g, 0, none⟩))) (q2 : w.cell? ⟨b2, 0, none⟩ = some (.int .i64 t)) :
    Calls Try.prog 26 #[.int .i64 m, .pointer (some ⟨b1, 0, none⟩), .pointer (some ⟨b2, 0, none⟩)] w fun e w' => e = .returned (.bool (c.may t m)) ∧ ∃ n, w' = w.drewN n := by
  have a1 := fun w h => at_any g c m w h ok hm
  have H := Lib.hid h
  have A := Lib.hid a1
  have hv : c.may t m = decide (0 ≤ m ∧ m ≤ 4611686018427387904 ∧ t ≤ c.tell m) := rfl
  generalize c.tell m = v at *
  generalize c.may t m = r at *
  clear h a1
  by_cases h0 : 0 ≤ m
  · by_cases h1 : m ≤ 4611686018427387904
    · by_cases h2 : t ≤ v
      all_goals
        have hr : r = decide (t ≤ v) := by rw [hv]; simp [h0, h1]
        rw [hr]
        clear hr hv
        go_enter Try.func26, Try.ntmps26
        go_wp2_with (first | (go_at_call 9; (with_reducible refine (A.out _ H.out).mono ?_); rintro e w1 ⟨rfl, n, rfl⟩) | (go_quiet ((go_at_call 9; exact Calls.quiet_of (A.out _ (by exact H.out))))))
        go_ret
        exact ⟨ret_bool (by simp [h2]), _, rfl⟩
    · have hr : r = false := by rw [hv]; simp [h1]
      rw [hr]
      clear hr hv
      go_enter Try.func26, Try.ntmps26
      go_wp2_with (go_quiet (fail))
      go_ret
      exact ⟨rfl, _, rfl⟩
  · have hr : r = false := by rw [hv]; simp [h0]
    rw [hr]
    clear hr hv
    go_enter Try.func26, Try.ntmps26
    go_wp2_with (go_quiet (fail))
    go_ret
    exact ⟨rfl, _, rfl⟩

def WS.first (c : WS) (t v : Int) : Int × Bool := if c.may t 0 = true then (0, true) else if c.may t v = true then (v, true) else (0, false)
theorem first_any (g b1 b2 b cap : Nat) (c : WS) (t v : Int) (w : World) (h : c.at w g) (ok : c.ok) (ht : -9223372036854775808 ≤ t ∧ t ≤ 9223372036854775807) (hv : -9223372036854775808 ≤ v ∧ v ≤ 9223372036854775807)
    (q1 : w.cell? ⟨b1, 0, none⟩ = some (.pointer (some ⟨g, 0, none⟩))) (q2 : w.cell? ⟨b2, 0, none⟩ = some (.int .i64 t)) (q3 : w.cell? ⟨b, 0, none⟩ = some (.int .i64 0)) (q4 : w.cell? ⟨b, 1, none⟩ = some (.int .i64 v)) :
    Calls Try.prog 25 #[.func (.func 26) #[] #[.pointer (some ⟨b1, 0, none⟩), .pointer (some ⟨b2, 0, none⟩)], .slice (some ⟨b, 0, none⟩) 2 cap] w fun e w' => e = .returned (.tuple #[.int .i64 (c.first t v).1, .bool (c.first t v).2]) ∧ ∃ n, w' = w.drewN n := by
  have m1 := fun w h q1 q2 => may_any g b1 b2 c t 0 w h ok ht (by decide) q1 q2
  have m2 := fun w h q1 q2 => may_any g b1 b2 c t v w h ok ht hv q1 q2
  have H := Lib.hid (And.intro h (And.intro q1 q2))
  unfold WS.first
  generalize c.may t 0 = r0 at *
  generalize c.may t v = r1 at *
  have M := Lib.hid (And.intro m1 m2)
  clear m1 m2 h q1 q2
  cases r0
  · cases r1
    · rw [if_neg (by decide), if_neg (by decide)]
      go_enter Try.func25, Try.ntmps25
      go_wp2_with fail
      refine wp_loop_rounds 3 ?_
      rw [rounds_succ]
      go_wp2_with fail
      refine (M.out.1 _ H.out.1 H.out.2.1 H.out.2.2).mono ?_
      rintro e w1 ⟨rfl, n, rfl⟩
      go_wp2_with fail
      rw [rounds_succ]
      go_wp2_with fail
      refine (M.out.2 _ (by exact H.out.1) (by exact H.out.2.1) (by exact H.out.2.2)).mono ?_
      rintro e w1 ⟨rfl, n2, rfl⟩
      go_wp2_with fail
      rw [rounds_succ]
      go_wp2_with fail
      go_ret2
      exact ⟨rfl, _, rfl⟩
    · rw [if_neg (by decide), if_pos rfl]
      go_enter Try.func25, Try.ntmps25
      go_wp2_with fail
      refine wp_loop_rounds 3 ?_
      rw [rounds_succ]
      go_wp2_with fail
      refine (M.out.1 _ H.out.1 H.out.2.1 H.out.2.2).mono ?_
      rintro e w1 ⟨rfl, n, rfl⟩
      go_wp2_with fail
      rw [rounds_succ]
      go_wp2_with fail
      refine (M.out.2 _ (by exact H.out.1) (by exact H.out.2.1) (by exact H.out.2.2)).mono ?_
      rintro e w1 ⟨rfl, n2, rfl⟩
      go_wp2_with fail
      go_ret2
      exact ⟨rfl, _, rfl⟩
  · rw [if_pos rfl]
    go_enter Try.func25, Try.ntmps25
    go_wp2_with fail
    refine wp_loop_rounds 3 ?_
    rw [rounds_succ]
    go_wp2_with fail
    refine (M.out.1 _ H.out.1 H.out.2.1 H.out.2.2).mono ?_
    rintro e w1 ⟨rfl, n, rfl⟩
    go_wp2_with fail
    go_ret2
    exact ⟨rfl, _, rfl⟩

theorem Blk.new1 (w : World) (o : Obj) (t : TypeId) (cs : Array Value) : Blk ((w.alloc o).alloc (.cells cs t)) (w.heap.size + 1) t cs := by
  have := Blk.new (w.alloc o) t cs
  rwa [World.size_alloc] at this
def WS.whenS (c : WS) (t : Int) : Int × Bool := c.first t (nearS (t - c.base))
set_option maxHeartbeats 1000000 in
theorem when_any (g : Nat) (c : WS) (t : Int) (w : World) (h : c.at w g) (ok : c.ok) (ht : -9223372036854775808 ≤ t ∧ t ≤ 9223372036854775807) :
    Calls Try.prog 8 #[.pointer (some ⟨g, 0, none⟩), .int .i64 t] w fun e w' => e = .returned (.tuple #[.int .i64 (c.whenS t).1, .bool (c.whenS t).2]) ∧ Stp [] w w' := by
  have hlt := lt_of_at h
  have H := Lib.hid h
  have s1 := fun w => subsat_any t c.base w ht (by have := ok.b0; have := ok.b1; omega)
  have nb := near_bd (t - c.base)
  unfold WS.whenS
  generalize nearS (t - c.base) = v at *
  have f1 := fun b1 b2 b cap w h q1 q2 q3 q4 => first_any g b1 b2 b cap c t v w h ok ht nb q1 q2 q3 q4
  generalize c.first t v = r at *
  obtain ⟨r1, r2⟩ := r
  have S := Lib.hid (And.intro s1 f1)
  have bx : Blk ((w.alloc (.cells #[.pointer (some ⟨g, 0, none⟩)] 22)).alloc (.cells #[.int .i64 t] 2)) w.heap.size 22 #[.pointer (some ⟨g, 0, none⟩)] := (Blk.new w _ _).alloc _
  have by1 : Blk ((w.alloc (.cells #[.pointer (some ⟨g, 0, none⟩)] 22)).alloc (.cells #[.int .i64 t] 2)) (w.heap.size + 1) 2 #[.int .i64 t] := Blk.new1 w _ _ _
  have hA : c.at ((w.alloc (.cells #[.pointer (some ⟨g, 0, none⟩)] 22)).alloc (.cells #[.int .i64 t] 2)) g := WS.at_alloc (WS.at_alloc h _) _
  have hst : Stp [] w ((w.alloc (.cells #[.pointer (some ⟨g, 0, none⟩)] 22)).alloc (.cells #[.int .i64 t] 2)) := ((Stp.refl _ _).alloc _).alloc _
  have HB := Lib.hid (And.intro bx (And.intro by1 (And.intro hA hst)))
  clear s1 h f1 bx by1 hA hst
  go_enter Try.func8, Try.ntmps8
  go_wp2_with fail
  refine (none_ptr _ _ (by exact (ws_cells HB.out.2.2.1).2.2)).mono ?_
  rintro e w1 ⟨rfl, rfl⟩
  go_wp2_with fail
  generalize hW : (w.alloc (.cells #[.pointer (some ⟨g, 0, none⟩)] 22)).alloc (.cells #[.int .i64 t] 2) = W at *
  have x0 : W.cell? ⟨w.heap.size, 0, none⟩ = some (.pointer (some ⟨g, 0, none⟩)) := HB.out.1.cell 0
  have x1 : W.cell? ⟨w.heap.size + 1, 0, none⟩ = some (.int .i64 t) := HB.out.2.1.cell 0
  have x2 : W.cell? ⟨g, 0, none⟩ = some (.int .i64 c.base) := (ws_cells HB.out.2.2.1).1
  clear hW
  go_region_held3 (fun w' => w'.cell? ⟨w.heap.size, 0, none⟩ = some (.pointer (some ⟨g, 0, none⟩)) ∧ w'.cell? ⟨w.heap.size + 1, 0, none⟩ = some (.int .i64 t) ∧ w'.cell? ⟨g, 0, none⟩ = some (.int .i64 c.base))
    (first | go_keep | exact ⟨x0, x1, x2⟩)
    ((first | (go_at_call 27; refine (S.out.1 _).mono ?_; rintro e w' ⟨rfl, rfl⟩) | (go_at_call 25; refine (S.out.2 _ _ _ _ _ (by exact WS.at_alloc HB.out.2.2.1 _) (by exact (HB.out.1.alloc _).cell 0) (by exact (HB.out.2.1.alloc _).cell 0) (by exact (Blk.new W _ #[.int .i64 0, .int .i64 v]).cell 0) (by exact (Blk.new W _ #[.int .i64 0, .int .i64 v]).cell 1)).mono ?_; rintro e w2 ⟨rfl, n, rfl⟩)))
  all_goals go_wp2_with fail
  all_goals go_ret2
  all_goals exact ⟨rfl, (HB.out.2.2.2.alloc _).drewN _⟩
end Go.Proofs.Ytejcckjakhllpaa
