/- leap: the methods where there is no table. -/
import Derived.Test.YtkdpndoamepcbaaLeapH
namespace Go.Proofs.Ytkdpndoamepcbaa
open Go.RowKit
set_option linter.unusedVariables false
set_option linter.unusedSimpArgs false

theorem label_nil (t : Int) (w : World) : Calls Try.prog 14 #[.pointer none, .int .i64 t] w fun e w' => e = .returned (.tuple #[.int .i64 0, .bool false]) ∧ w' = w := by
  go_enter Try.func14, Try.ntmps14
  go_wp2_with fail
  refine (lnone_nil _).mono ?_
  rintro e w1 ⟨rfl, rfl⟩
  go_wp2_with fail
  go_ret2
  exact ⟨rfl, rfl⟩
theorem next_nil (t : Int) (w : World) : Calls Try.prog 17 #[.pointer none, .int .i64 t] w fun e w' => e = .returned (.tuple #[.agg #[.int .i64 0, .int .i64 0], .bool false]) ∧ Stp [] w w' := by
  go_enter Try.func17, Try.ntmps17
  go_wp2_with fail
  refine (lnone_nil _).mono ?_
  rintro e w1 ⟨rfl, rfl⟩
  have bx := (show (w.alloc _).heap[w.heap.size]? = _ from Blk.new w 34 #[.int .i64 0, .int .i64 0])
  have f0 := free_at bx 0
  have f1 := free_at bx 1
  have u0 := cell_at bx 0
  have u1 := cell_at bx 1
  have BX := Lib.hid bx
  clear bx
  go_wp2_with fail
  refine bodyPost_ret (v := .tuple #[.agg #[.int .i64 0, .int .i64 0], .bool false]) ?_ rfl ⟨rfl, ?_⟩
  · have q0 := cell_at (set_at (set_at BX.out 0 (.int .i64 0)) 1 (.int .i64 0)) 0
    have q1 := cell_at (set_at (set_at BX.out 0 (.int .i64 0)) 1 (.int .i64 0)) 1
    simp at q0 q1
    simp [results, Try.results17, go_sem, q0, q1]
  · first
      | exact (((Stp.refl [] w).alloc (.cells #[.int .i64 0, .int .i64 0] 34)).setCell (p := ⟨w.heap.size, 0, none⟩) (.inr (Nat.le_refl _)) _).setCell (p := ⟨w.heap.size, 1, none⟩) (.inr (Nat.le_refl _)) _
      | exact (Stp.refl [] w).alloc _
theorem offset_nil (t : Int) (w : World) : Calls Try.prog 16 #[.pointer none, .int .i64 t] w fun e w' => e = .returned (.int .i64 0) ∧ w' = w := by
  go_enter Try.func16, Try.ntmps16
  go_wp2_with fail
  refine (lnone_nil _).mono ?_
  rintro e w1 ⟨rfl, rfl⟩
  go_wp2_with fail
  go_ret
  exact ⟨rfl, rfl⟩
theorem even_zero (g : Nat) (t : Int) (b : Bool) (w : World) (h3 : w.cell? ⟨g, 3, none⟩ = some (.bool false)) :
    Calls Try.prog 15 #[.pointer (some ⟨g, 0, none⟩), .int .i64 t, .bool b] w fun e w' => e = .returned (.tuple #[.int .i64 0, .bool false]) ∧ Stp [] w w' := by
  have H := Lib.hid h3
  go_enter Try.func15, Try.ntmps15
  go_wp2_with fail
  refine (lnone_zero _ _ (by first | exact h3 | exact ((((Stp.refl [] w).alloc _).alloc _).alloc _).cell h3 (by simp) | exact (((Stp.refl [] w).alloc _).alloc _).cell h3 (by simp) | exact ((Stp.refl [] w).alloc _).cell h3 (by simp))).mono ?_
  rintro e w1 ⟨rfl, rfl⟩
  go_wp2_with fail
  go_ret2
  exact ⟨rfl, by first | exact Stp.refl _ _ | exact (Stp.refl _ _).alloc _ | exact ((Stp.refl _ _).alloc _).alloc _ | exact (((Stp.refl _ _).alloc _).alloc _).alloc _⟩
theorem bits_zero (g : Nat) (t : Int) (w : World) (h3 : w.cell? ⟨g, 3, none⟩ = some (.bool false)) :
    Calls Try.prog 28 #[.pointer (some ⟨g, 0, none⟩), .int .i64 t] w fun e w' => e = .returned (.int .u8 3) ∧ w' = w := by
  go_enter Try.func28, Try.ntmps28
  go_wp2_with fail
  refine (lnone_zero _ _ h3).mono ?_
  rintro e w1 ⟨rfl, rfl⟩
  go_wp2_with fail
  go_ret
  exact ⟨rfl, rfl⟩
theorem llist_nil (w : World) : Calls Try.prog 21 #[.pointer none] w fun e w' => e = .returned (.slice none 0 0) ∧ w' = w := by
  go_enter Try.func21, Try.ntmps21
  go_wp2_with fail
  refine (lnone_nil _).mono ?_
  rintro e w1 ⟨rfl, rfl⟩
  go_wp2_with fail
  go_ret
  exact ⟨rfl, rfl⟩
theorem copy_zero (g : Nat) (w : World) (h3 : w.cell? ⟨g, 3, none⟩ = some (.bool false)) :
    Calls Try.prog 22 #[.pointer (some ⟨g, 0, none⟩)] w fun e w' => e = .returned (.pointer none) ∧ w' = w := by
  go_enter Try.func22, Try.ntmps22
  go_wp2_with fail
  refine (lnone_zero _ _ h3).mono ?_
  rintro e w1 ⟨rfl, rfl⟩
  go_wp2_with fail
  go_ret
  exact ⟨rfl, rfl⟩
theorem add_nil (y1 y2 t : Int) (w : World) : Calls Try.prog 23 #[.pointer none, .agg #[.int .i64 y1, .int .i64 y2], .int .i64 t] w fun e w' => e = .returned (.int .i64 2) ∧ Stp [] w w' := by
  go_enter Try.func23, Try.ntmps23
  go_wp2_with fail
  refine (lnone_nil _).mono ?_
  rintro e w1 ⟨rfl, rfl⟩
  go_wp2_with fail
  go_ret
  exact ⟨rfl, by first | exact Stp.refl _ _ | exact (Stp.refl _ _).alloc _ | exact ((Stp.refl _ _).alloc _).alloc _⟩
theorem lnew_ex (A : Option Addr) (n cp : Nat) (L : List (Int × Int)) (ex base : Int) (w : World) (h : RowIn w A n 2 (pcells L) []) (hl : L.length = n) (ok : LOk L) (hx : ex < 0) :
    Calls Try.prog 18 #[.slice A n cp, .int .i64 ex, .int .i64 base] w fun e w' => e = .returned (.tuple #[.pointer none, .int .i64 1]) ∧ Stp [] w w' := by
  have n1 := Lib.hid (new_lok A n cp L w h hl ok)
  clear h hl ok
  go_enter Try.func18, Try.ntmps18
  go_wp2_with fail
  refine n1.out.mono ?_
  rintro e w1 ⟨g1, rfl, t1, s1, _⟩
  go_wp2_with fail
  go_ret2
  exact ⟨rfl, s1⟩
theorem lnew_base (A : Option Addr) (n cp : Nat) (L : List (Int × Int)) (ex base : Int) (w : World) (h : RowIn w A n 2 (pcells L) []) (hl : L.length = n) (ok : LOk L) (hx0 : 0 ≤ ex) (hx1 : ex ≤ 4611686018427387904) (hb : 1000 < base) :
    Calls Try.prog 18 #[.slice A n cp, .int .i64 ex, .int .i64 base] w fun e w' => e = .returned (.tuple #[.pointer none, .int .i64 1]) ∧ Stp [] w w' := by
  have n1 := Lib.hid (new_lok A n cp L w h hl ok)
  clear h hl ok
  go_enter Try.func18, Try.ntmps18
  go_wp2_with fail
  refine n1.out.mono ?_
  rintro e w1 ⟨g1, rfl, t1, s1, _⟩
  go_wp2_with fail
  go_ret2
  exact ⟨rfl, s1⟩
theorem lnew_bad (A : Option Addr) (n cp : Nat) (L : List (Int × Int)) (ex base : Int) (w : World) (h : RowIn w A n 2 (pcells L) []) (hl : L.length = n) (hn : n ≤ 32) (hb : ∀ x ∈ L, (-9223372036854775808 ≤ x.1 ∧ x.1 ≤ 9223372036854775807) ∧ (-9223372036854775808 ≤ x.2 ∧ x.2 ≤ 9223372036854775807)) (hL : leapsS 86400000000000 L = false) :
    Calls Try.prog 18 #[.slice A n cp, .int .i64 ex, .int .i64 base] w fun e w' => e = .returned (.tuple #[.pointer none, .int .i64 1]) ∧ Stp [] w w' := by
  have n1 := Lib.hid (new_bad A n cp L w h hl hn hb hL)
  clear h hl hn hb hL
  go_enter Try.func18, Try.ntmps18
  go_wp2_with fail
  refine n1.out.mono ?_
  rintro e w1 ⟨rfl, s1⟩
  go_wp2_with fail
  go_ret2
  exact ⟨rfl, s1⟩
theorem lnew_full (A : Option Addr) (n cp : Nat) (ex base : Int) (w : World) (hn : 32 < n) (hn2 : n ≤ 1000000000000) :
    Calls Try.prog 18 #[.slice A n cp, .int .i64 ex, .int .i64 base] w fun e w' => e = .returned (.tuple #[.pointer none, .int .i64 7]) ∧ w' = w := by
  have n1 := Lib.hid (new_full A n cp w hn hn2)
  clear hn hn2
  go_enter Try.func18, Try.ntmps18
  go_wp2_with fail
  refine n1.out.mono ?_
  rintro e w1 ⟨rfl, rfl⟩
  go_wp2_with fail
  go_ret2
  exact ⟨rfl, rfl⟩
end Go.Proofs.Ytkdpndoamepcbaa
