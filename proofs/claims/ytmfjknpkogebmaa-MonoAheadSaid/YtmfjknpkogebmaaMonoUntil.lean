/- mono: Until. -/
import Derived.Test.YtmfjknpkogebmaaMonoRun
import Derived.Outline
namespace Go.Proofs.Ytmfjknpkogebmaa
open Go.RowKit
set_option linter.unusedVariables false
set_option linter.unusedSimpArgs false

theorem reached_any (g b1 b2 : Nat) (c : MS) (m d : Int) (w : World) (h : c.at w g) (ok : c.ok) (hd : 0 ≤ d ∧ d ≤ 1125899906842624) (q1 : w.cell? ⟨b1, 0, none⟩ = some (.pointer (some ⟨g, 0, none⟩))) (q2 : w.cell? ⟨b2, 0, none⟩ = some (.int .i64 m)) (hm : c.mono < m ∧ m ≤ 9223372036854775807) :
    Calls Try.prog 27 #[.int .i64 d, .pointer (some ⟨b1, 0, none⟩), .pointer (some ⟨b2, 0, none⟩)] w fun e w' => e = .returned (.bool (decide (m - c.mono ≤ c.gain d))) ∧ Stp [] w w' := by
  have f1 := further_any g c d w h ok hd
  have H := Lib.hid h
  have F := Lib.hid f1
  clear h f1
  obtain ⟨m0, m1⟩ := hm
  have a3 := ok.mono0
  have hs : IntKind.i64.wrap (m - c.mono) = m - c.mono := IntWalk.i64_in _ (by omega)
  go_enter Try.func27, Try.ntmps27
  go_wp2_with fail
  refine F.out.mono ?_
  rintro e w1 ⟨rfl, h1⟩
  have p1 := h1.cell q1 (by simp)
  have p2 := h1.cell q2 (by simp)
  have x1 := (ms_cells (h1.at H.out (by simp))).2.1
  clear q1 q2
  go_wp2_with (go_quiet (fail))
  go_ret
  exact ⟨rfl, h1.drewN _⟩

theorem MS.at_alloc {c : MS} {w : World} {g : Nat} (h : c.at w g) (o : Obj) : c.at (w.alloc o) g := Blk.alloc (t := 49) (show Blk w g 49 _ from h) o
theorem MS.at_drewN {c : MS} {w : World} {g : Nat} (h : c.at w g) (n : Nat) : c.at (w.drewN n) g := h

theorem Blk.new1 (w : World) (o : Obj) (t : TypeId) (cs : Array Value) : Blk ((w.alloc o).alloc (.cells cs t)) (w.heap.size + 1) t cs := by
  have := Blk.new (w.alloc o) t cs
  rwa [World.size_alloc] at this
theorem Blk.new2 (w : World) (o o2 : Obj) (t : TypeId) (cs : Array Value) : Blk (((w.alloc o).alloc o2).alloc (.cells cs t)) (w.heap.size + 1 + 1) t cs := by
  have := Blk.new1 (w.alloc o) o2 t cs
  rwa [World.size_alloc] at this

set_option maxHeartbeats 1000000 in
theorem until_no (g : Nat) (c : MS) (m : Int) (w : World) (h : c.at w g) (ok : c.ok) (hf : c.full = false) (hm : c.mono < m ∧ m ≤ 9223372036854775807) (hn : c.gain 1125899906842624 < m - c.mono) :
    Calls Try.prog 21 #[.pointer (some ⟨g, 0, none⟩), .int .i64 m] w fun e w' => e = .returned (.tuple #[.int .i64 0, .bool false]) ∧ Stp [] w w' := by
  have H := Lib.hid h
  have hlt := lt_of_at h
  have OK := Lib.hid ok
  have hD : decide (m - c.mono ≤ c.gain 1125899906842624) = false := decide_eq_false (by omega)
  obtain ⟨c0, c1, c2, c3, c4, c5⟩ := ms_cells h
  rw [hf] at c4
  obtain ⟨h1, h2⟩ := hm
  obtain ⟨a1, a2, a3, a4, r0, r1, s0, s1⟩ := ok
  clear h hf hn
  go_enter Try.func21, Try.ntmps21
  go_wp2_with fail
  refine (none_ptr _ _ (by exact (ms_cells (MS.at_alloc (MS.at_alloc H.out _) _)).2.2.2.2.2)).mono ?_
  rintro e w1 ⟨rfl, rfl⟩
  go_wp2_with (go_quiet (fail))
  refine (reached_any g w.heap.size (w.heap.size + 1) c m 1125899906842624 _ (by repeat first | exact H.out | apply MS.at_alloc | apply MS.at_drewN) OK.out (by decide) (by exact ((((Blk.new w 23 #[.pointer (some ⟨g, 0, none⟩)]).alloc _).drewN _).alloc _).cell 0) (by exact (((Blk.new1 w _ 2 #[.int .i64 m]).drewN _).alloc _).cell 0) ⟨h1, h2⟩).mono ?_
  rintro e w2 ⟨rfl, s2⟩
  go_wp2_with fail
  go_ret2
  exact ⟨rfl, by repeat (first | exact Stp.refl _ _ | assumption | (refine Stp.drewN ?_ _) | (refine Stp.alloc ?_ _) | (refine Stp.trans ?_ (by assumption)))⟩

/-- A raw delta behind which a time is reached, and not ahead. -/
def UntilYes (c : MS) (m : Int) (w : World) (e : Ending) (w' : World) : Prop :=
  ∃ d : Int, e = .returned (.tuple #[.int .i64 d, .bool true]) ∧ 0 < d ∧ d ≤ 1125899906842624 ∧ c.gain (d - 1) < m - c.mono ∧ m - c.mono ≤ c.gain d ∧ Stp [] w w'

set_option maxHeartbeats 1000000 in
theorem until_yes (g : Nat) (c : MS) (m : Int) (w : World) (h : c.at w g) (ok : c.ok) (hf : c.full = false) (hm : c.mono < m ∧ m ≤ 9223372036854775807) (hn : m - c.mono ≤ c.gain 1125899906842624) :
    Calls Try.prog 21 #[.pointer (some ⟨g, 0, none⟩), .int .i64 m] w (UntilYes c m w) := by
  have H := Lib.hid h
  have hlt := lt_of_at h
  have OK := Lib.hid ok
  have hD : decide (m - c.mono ≤ c.gain 1125899906842624) = true := decide_eq_true (by omega)
  obtain ⟨c0, c1, c2, c3, c4, c5⟩ := ms_cells h
  rw [hf] at c4
  obtain ⟨h1, h2⟩ := hm
  obtain ⟨a1, a2, a3, a4, r0, r1, s0, s1⟩ := ok
  have HN := Lib.hid hn
  clear h hf hn
  go_enter Try.func21, Try.ntmps21
  go_wp2_with fail
  refine (none_ptr _ _ (by exact (ms_cells (MS.at_alloc (MS.at_alloc H.out _) _)).2.2.2.2.2)).mono ?_
  rintro e w1 ⟨rfl, rfl⟩
  go_wp2_with (go_quiet (fail))
  refine (reached_any g w.heap.size (w.heap.size + 1) c m 1125899906842624 _ (by repeat first | exact H.out | apply MS.at_alloc | apply MS.at_drewN) OK.out (by decide) (by exact ((((Blk.new w 23 #[.pointer (some ⟨g, 0, none⟩)]).alloc _).drewN _).alloc _).cell 0) (by exact (((Blk.new1 w _ 2 #[.int .i64 m]).drewN _).alloc _).cell 0) ⟨h1, h2⟩).mono ?_
  rintro e w2 ⟨rfl, s2⟩
  go_wp2_with fail
  have e0 : Blk w2 (w.heap.size + 1 + 1) 54 #[.int .i64 0, .int .i64 1125899906842624] := s2.at (Blk.new2 w (.cells #[.pointer (some ⟨g, 0, none⟩)] 23) (.cells #[.int .i64 m] 2) 54 #[.int .i64 0, .int .i64 1125899906842624]) (by simp)
  have b0 : Blk w2 w.heap.size 23 #[.pointer (some ⟨g, 0, none⟩)] := s2.at ((((Blk.new w 23 #[.pointer (some ⟨g, 0, none⟩)]).alloc _).drewN _).alloc _) (by simp)
  have b1 : Blk w2 (w.heap.size + 1) 2 #[.int .i64 m] := s2.at (((Blk.new1 w _ 2 #[.int .i64 m]).drewN _).alloc _) (by simp)
  have t2 : Stp [] w w2 := (((((Stp.refl [] w).alloc _).alloc _).drewN _).alloc _).trans s2
  have at2 : c.at w2 g := t2.at H.out (by simp)
  clear c0 c1 c2 c3 c4 c5 s2
  go_loopw [8] (fun _ wr => ∃ lo hi : Int, 0 ≤ lo ∧ lo < hi ∧ hi ≤ 1125899906842624 ∧ c.gain lo < m - c.mono ∧ m - c.mono ≤ c.gain hi ∧ Blk wr (w.heap.size + 1 + 1) 54 #[.int .i64 lo, .int .i64 hi] ∧ Blk wr w.heap.size 23 #[.pointer (some ⟨g, 0, none⟩)] ∧ Blk wr (w.heap.size + 1) 2 #[.int .i64 m] ∧ Stp [] w wr) (fun _ wr => (intOf ((wr.cell? ⟨w.heap.size + 1 + 1, 1, none⟩).getD undef) - intOf ((wr.cell? ⟨w.heap.size + 1 + 1, 0, none⟩).getD undef)).toNat)
  case atStart =>
    refine ⟨0, 1125899906842624, by omega, by omega, by omega, ?_, HN.out, e0, b0, b1, t2⟩
    have : c.gain 0 = 0 := by unfold MS.gain; rw [Int.zero_mul]; omega
    omega
  case round =>
    clear e0 b0 b1 t2 at2
    obtain ⟨lo, hi, l0, l1, l2, f0, f1, e0, b0, b1, t⟩ := hrel
    have x0 : wr.cell? ⟨w.heap.size + 1 + 1, 0, none⟩ = some (.int .i64 lo) := e0.cell 0
    have x1 : wr.cell? ⟨w.heap.size + 1 + 1, 1, none⟩ = some (.int .i64 hi) := e0.cell 1
    have X := Lib.hid (And.intro x0 x1)
    have E0 := Lib.hid e0
    have hlt := e0.lt
    clear e0
    by_cases hg : 1 < hi - lo
    · go_wp2_with fail
      refine (reached_any g w.heap.size (w.heap.size + 1) c m ((lo + hi) / 2) _ (by exact t.at H.out (by simp)) OK.out (by omega) (by exact b0.cell 0) (by exact b1.cell 0) ⟨h1, h2⟩).mono ?_
      rintro e w3 ⟨rfl, s3⟩
      have E3 := Lib.hid (show Blk w3 _ _ _ from s3.at E0.out (by simp))
      have z0 := E3.out.frozen 0
      have z1 := E3.out.frozen 1
      have y0 : w3.cell? ⟨w.heap.size + 1 + 1, 0, none⟩ = some (.int .i64 lo) := E3.out.cell 0
      have y1 : w3.cell? ⟨w.heap.size + 1 + 1, 1, none⟩ = some (.int .i64 hi) := E3.out.cell 1
      have B0 := Lib.hid (show Blk w3 _ _ _ from s3.at b0 (by simp))
      have B1 := Lib.hid (show Blk w3 _ _ _ from s3.at b1 (by simp))
      have T3 := Lib.hid (t.trans s3)
      clear b0 b1 t s3 x0 x1
      by_cases hr : m - c.mono ≤ c.gain ((lo + hi) / 2)
      · have hrd : decide (m - c.mono ≤ c.gain ((lo + hi) / 2)) = true := decide_eq_true hr
        rw [hrd]
        clear hrd
        have HR := Lib.hid hr
        clear hr
        go_wp2_with fail
        go_roundw
        case rel =>
          refine ⟨lo, (lo + hi) / 2, l0, by omega, by omega, f0, HR.out, E3.out.set_ 1 _, B0.out.far (by simp; omega) _, B1.out.far (by first | (simp; done) | (simp; omega)) _, T3.out.setCell (.inr (by first | (simp; done) | (simp; omega))) _⟩
        case measure =>
          rw [X.out.1, X.out.2, (E3.out.set_ 1 _).cell 0, (E3.out.set_ 1 _).cell 1]
          simp [intOf]
          omega
      · have hrd : decide (m - c.mono ≤ c.gain ((lo + hi) / 2)) = false := decide_eq_false hr
        rw [hrd]
        clear hrd
        have HR := Lib.hid hr
        clear hr
        go_wp2_with fail
        go_roundw
        case rel =>
          refine ⟨(lo + hi) / 2, hi, by omega, by omega, l2, by have := HR.out; omega, f1, E3.out.set_ 0 _, B0.out.far (by simp; omega) _, B1.out.far (by first | (simp; done) | (simp; omega)) _, T3.out.setCell (.inr (by first | (simp; done) | (simp; omega))) _⟩
        case measure =>
          rw [X.out.1, X.out.2, (E3.out.set_ 0 _).cell 0, (E3.out.set_ 0 _).cell 1]
          simp [intOf]
          omega
    · go_wp2_with fail
      have : lo = hi - 1 := by omega
      subst this
      go_ret2
      exact ⟨hi, rfl, by omega, l2, f0, f1, t⟩

theorem until_full (g : Nat) (c : MS) (m : Int) (w : World) (h : c.at w g) (hf : c.full = true) :
    Calls Try.prog 21 #[.pointer (some ⟨g, 0, none⟩), .int .i64 m] w fun e w' => e = .returned (.tuple #[.int .i64 0, .bool false]) ∧ Stp [] w w' := by
  have H := Lib.hid h
  have hlt := lt_of_at h
  obtain ⟨c0, c1, c2, c3, c4, c5⟩ := ms_cells h
  rw [hf] at c4
  clear h hf
  go_enter Try.func21, Try.ntmps21
  go_wp2_with fail
  refine (none_ptr _ _ (by exact (ms_cells (MS.at_alloc (MS.at_alloc H.out _) _)).2.2.2.2.2)).mono ?_
  rintro e w1 ⟨rfl, rfl⟩
  go_wp2_with (go_quiet (fail))
  go_ret2
  exact ⟨rfl, by repeat (first | exact Stp.refl _ _ | assumption | (refine Stp.drewN ?_ _) | (refine Stp.alloc ?_ _) | (refine Stp.trans ?_ (by assumption)))⟩
theorem until_past (g : Nat) (c : MS) (m : Int) (w : World) (h : c.at w g) (hf : c.full = false) (hm : m ≤ c.mono) :
    Calls Try.prog 21 #[.pointer (some ⟨g, 0, none⟩), .int .i64 m] w fun e w' => e = .returned (.tuple #[.int .i64 0, .bool true]) ∧ Stp [] w w' := by
  have H := Lib.hid h
  have hlt := lt_of_at h
  obtain ⟨c0, c1, c2, c3, c4, c5⟩ := ms_cells h
  rw [hf] at c4
  clear h hf
  go_enter Try.func21, Try.ntmps21
  go_wp2_with fail
  refine (none_ptr _ _ (by exact (ms_cells (MS.at_alloc (MS.at_alloc H.out _) _)).2.2.2.2.2)).mono ?_
  rintro e w1 ⟨rfl, rfl⟩
  go_wp2_with (go_quiet (fail))
  go_ret2
  exact ⟨rfl, by repeat (first | exact Stp.refl _ _ | assumption | (refine Stp.drewN ?_ _) | (refine Stp.alloc ?_ _) | (refine Stp.trans ?_ (by assumption)))⟩
end Go.Proofs.Ytmfjknpkogebmaa
