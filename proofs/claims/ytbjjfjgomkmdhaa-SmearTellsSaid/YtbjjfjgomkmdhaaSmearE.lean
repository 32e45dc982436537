/- smear: Back. -/
import Derived.Test.YtbjjfjgomkmdhaaSmearD
namespace Go.Proofs.Ytbjjfjgomkmdhaa
open Go.RowKit
set_option linter.unusedVariables false
set_option linter.unusedSimpArgs false

/-- The least instant whose smeared time is at least so much. -/
def BackYes (L : List (Int × Int)) (s : Int) (w : World) (e : Ending) (w' : World) : Prop :=
  ∃ b : Int, e = .returned (.tuple #[.int .i64 b, .bool true]) ∧ 0 ≤ b ∧ b ≤ 4611686018427387904 ∧ s ≤ toS L b ∧ (b = 0 ∨ toS L (b - 1) < s) ∧ Stp [] w w'

theorem back_no (g : Nat) (L : List (Int × Int)) (s : Int) (w : World) (h : tabAt L w g) (ok : LOk L) (hs : toS L 4611686018427387904 < s) :
    Calls Try.prog 23 #[.pointer (some ⟨g, 0, none⟩), .int .i64 s] w fun e w' => e = .returned (.tuple #[.int .i64 0, .bool false]) ∧ Stp [] w w' := by
  have t1 := to_any g L 4611686018427387904 w h ok
  generalize toS L 4611686018427387904 = v at *
  have P := Lib.hid t1
  clear t1 h ok
  go_enter Try.func23, Try.ntmps23
  go_wp2_with fail
  refine P.out.mono ?_
  rintro e w1 ⟨rfl, s1⟩
  go_wp2_with fail
  go_ret2
  exact ⟨rfl, s1⟩

set_option maxHeartbeats 1000000 in
theorem back_yes (g : Nat) (L : List (Int × Int)) (s : Int) (w : World) (h : tabAt L w g) (ok : LOk L) (hs : s ≤ toS L 4611686018427387904) (hs0 : -9223372036854775808 ≤ s) :
    Calls Try.prog 23 #[.pointer (some ⟨g, 0, none⟩), .int .i64 s] w (BackYes L s w) := by
  have t1 := to_any g L 4611686018427387904 w h ok
  have tm := fun t w h => to_any g L t w h ok
  have P := Lib.hid (And.intro t1 (And.intro tm (And.intro hs h)))
  have hm : ¬ toS L 4611686018427387904 < s := by omega
  have hb := toS_bd ok 4611686018427387904
  clear t1 tm h hs
  go_enter Try.func23, Try.ntmps23
  go_wp2_with fail
  refine P.out.1.mono ?_
  rintro e w1 ⟨rfl, s1⟩
  go_wp2_with fail
  have e0 : Blk (w1.alloc (.cells #[.int .i64 (-1), .int .i64 4611686018427387904] 63)) w1.heap.size 63 #[.int .i64 (-1), .int .i64 4611686018427387904] := Blk.new w1 _ _
  have T2 := Lib.hid (show Stp [] w (w1.alloc (.cells #[.int .i64 (-1), .int .i64 4611686018427387904] 63)) from s1.alloc _)
  have hge : w.heap.size ≤ w1.heap.size := s1.size
  have E0 := Lib.hid e0
  clear e0
  go_loopw [7] (fun _ wr => ∃ lo hi : Int, -1 ≤ lo ∧ lo < hi ∧ hi ≤ 4611686018427387904 ∧ Hid (lo = -1 ∨ toS L lo < s) ∧ Hid (s ≤ toS L hi) ∧ Hid (Blk wr w1.heap.size 63 #[.int .i64 lo, .int .i64 hi]) ∧ Stp [] w wr) (fun _ wr => (intOf ((wr.cell? ⟨w1.heap.size, 1, none⟩).getD undef) - intOf ((wr.cell? ⟨w1.heap.size, 0, none⟩).getD undef)).toNat)
  case atStart => exact ⟨-1, 4611686018427387904, by omega, by omega, by omega, .inl rfl, P.out.2.2.1, E0.out, T2.out⟩
  case round =>
    clear s1 hb hm
    obtain ⟨lo, hi, l0, l1, l2, F0, F1, E1, t⟩ := hrel
    have x0 : wr.cell? ⟨w1.heap.size, 0, none⟩ = some (.int .i64 lo) := E1.out.cell 0
    have x1 : wr.cell? ⟨w1.heap.size, 1, none⟩ = some (.int .i64 hi) := E1.out.cell 1
    have X := Lib.hid (And.intro x0 x1)
    have hlt := E1.out.lt
    by_cases hg : 1 < hi - lo
    · have c1 := P.out.2.1 (lo + (hi - lo) / 2) wr (P.out.2.2.2.stp t)
      have C := Lib.hid c1
      clear c1
      by_cases hr : s ≤ toS L (lo + (hi - lo) / 2)
      · have HR := Lib.hid hr
        generalize toS L (lo + (hi - lo) / 2) = tv at C hr
        go_wp2_with fail
        refine C.out.mono ?_
        rintro e w3 ⟨rfl, s3⟩
        have E3 := Lib.hid (show Blk w3 _ _ _ from s3.at E1.out (by simp))
        have z1 := E3.out.frozen 1
        have y1 : w3.cell? ⟨w1.heap.size, 1, none⟩ = some (.int .i64 hi) := E3.out.cell 1
        have T3 := Lib.hid (t.trans s3)
        clear t s3 x0 x1
        go_wp2_with fail
        go_roundw
        case rel => exact ⟨lo, lo + (hi - lo) / 2, l0, by omega, by omega, F0, HR.out, E3.out.set_ 1 _, T3.out.setCell (.inr hge) _⟩
        case measure =>
          rw [X.out.1, X.out.2, (E3.out.set_ 1 _).cell 0, (E3.out.set_ 1 _).cell 1]
          simp [intOf]
          omega
      · have HR := Lib.hid (show toS L (lo + (hi - lo) / 2) < s by omega)
        generalize toS L (lo + (hi - lo) / 2) = tv at C hr
        go_wp2_with fail
        refine C.out.mono ?_
        rintro e w3 ⟨rfl, s3⟩
        have E3 := Lib.hid (show Blk w3 _ _ _ from s3.at E1.out (by simp))
        have z0 := E3.out.frozen 0
        have y0 : w3.cell? ⟨w1.heap.size, 0, none⟩ = some (.int .i64 lo) := E3.out.cell 0
        have T3 := Lib.hid (t.trans s3)
        clear t s3 x0 x1
        go_wp2_with fail
        go_roundw
        case rel => exact ⟨lo + (hi - lo) / 2, hi, by omega, by omega, l2, .inr HR.out, F1.out, E3.out.set_ 0 _, T3.out.setCell (.inr hge) _⟩
        case measure =>
          rw [X.out.1, X.out.2, (E3.out.set_ 0 _).cell 0, (E3.out.set_ 0 _).cell 1]
          simp [intOf]
          omega
    · go_wp2_with fail
      go_ret2
      refine ⟨hi, rfl, by omega, l2, F1.out, ?_, t⟩
      rcases F0.out with h | h
      · exact .inl (by omega)
      · exact .inr (by rw [show hi - 1 = lo by omega]; exact h)
end Go.Proofs.Ytbjjfjgomkmdhaa
