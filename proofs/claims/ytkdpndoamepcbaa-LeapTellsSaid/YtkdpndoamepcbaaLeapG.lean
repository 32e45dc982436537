/- leap: the chapter's rows. -/
import Derived.Test.YtkdpndoamepcbaaLeapF
namespace Go.Proofs.Ytkdpndoamepcbaa
open Go.RowKit
set_option linter.unusedVariables false
set_option linter.unusedSimpArgs false

theorem row_any {W : World} {b : Nat} {t : TypeId} (size n : Nat) (xs : List Value) (A : Array Value) (hb : Blk W b t A) (hA : A.toList = xs) (hn : xs.length = n * size) : RowIn W (some ⟨b, 0, none⟩) n size xs [] :=
  ⟨hn, fun _ => ⟨b, 0, rfl, hb.lt, by simp, fun j u hu => by
    have h := hb.cell j
    rw [Nat.zero_add, h, ← hu, ← hA]
    simp⟩⟩
def oneT : LT := ⟨[(172800000000000, 1)], 777600000000000, 10⟩
theorem oneT_ok : oneT.ok := ⟨LOk.of (by decide) (by decide), by decide, by decide, by decide, by decide⟩
theorem one_any (w : World) : Calls Try.prog 29 #[] w (MadeLeap oneT w) := by
  go_enter Try.func29, Try.ntmps29
  go_wp2_with fail
  refine (lnew_ok _ 1 _ oneT _ (row_any 2 1 (pcells oneT.L) _ (Blk.new w _ _) rfl rfl) rfl oneT_ok).mono ?_
  rintro e w1 ⟨g, rfl, a1, s1, hg⟩
  go_wp2_with fail
  go_ret2
  exact ⟨g, rfl, a1, ((Stp.refl _ _).alloc _).trans s1, Nat.le_trans (by simp) hg⟩

theorem label_is {w : World} {g : Nat} {c : LT} {t lb : Int} {b : Bool} (h : c.at w g) (ok : c.ok) (ht : -4611700000000000000 ≤ t ∧ t ≤ 4611700000000000000) (e1 : labelS c.base c.L t = lb) (e2 : insS t c.L = b) :
    Calls Try.prog 14 #[.pointer (some ⟨g, 0, none⟩), .int .i64 t] w fun e w' => e = .returned (.tuple #[.int .i64 lb, .bool b]) ∧ Stp [] w w' := by
  have := label_any g c t w h ok ht
  rw [e1, e2] at this
  exact this
theorem bits_is {w : World} {g : Nat} {c : LT} {t v : Int} (h : c.at w g) (ok : c.ok) (ht : -4611686018427387903 ≤ t ∧ t ≤ 4611686018427387904) (e1 : bitsS c t = v) :
    Calls Try.prog 28 #[.pointer (some ⟨g, 0, none⟩), .int .i64 t] w fun e w' => e = .returned (.int .u8 v) ∧ Stp [] w w' := by
  have := bits_any g c t w h ok ht
  rw [e1] at this
  exact this
theorem vote_is {A : Option Addr} {n c : Nat} (l : List Int) {w : World} (v : Int) (b : Bool) (hr : RowIn w A n 1 (l.map (Value.int .u8)) []) (hl : l.length = n) (hn : n ≤ 1000000) (hb : ∀ x ∈ l, 0 ≤ x ∧ x ≤ 255) (e1 : voteS l = (v, b)) :
    Calls Try.prog 10 #[.slice A n c] w fun e w' => e = .returned (.tuple #[.int .u8 v, .bool b]) ∧ Stp [] w w' := by
  have := vote_any A n c l w hr hl hn hb
  rw [e1] at this
  exact this

set_option maxHeartbeats 1000000 in
theorem alive_any (w : World) : Calls Try.prog 12 #[] w fun e w' => e = .returned (.bool true) ∧ Stp [] w w' := by
  go_enter Try.func12, Try.ntmps12
  go_wp2_with fail
  refine (one_any _).mono ?_
  rintro e w1 ⟨g, rfl, a1, z1, _⟩
  go_wp2_with fail
  refine (label_is a1 oneT_ok (by decide) (show _ = 172789999999999 by decide) (show _ = false by decide)).mono ?_
  rintro e w2 ⟨rfl, s2⟩
  have a2 := a1.stp s2
  have z2 := z1.trans s2
  clear a1 z1 s2
  go_wp2_with fail
  refine (label_is a2 oneT_ok (by decide) (show _ = 172789000000000 by decide) (show _ = true by decide)).mono ?_
  rintro e w3 ⟨rfl, s3⟩
  have a3 := a2.stp s3
  have z3 := z2.trans s3
  clear a2 z2 s3
  go_wp2_with fail
  refine (vote_is [1, 3, 1, 0] 1 true (row_any 1 4 _ _ (Blk.new w3 _ _) rfl rfl) rfl (by decide) (by decide) (by decide)).mono ?_
  rintro e w4 ⟨rfl, s4⟩
  have a4 := (a3.alloc _).stp s4
  have z4 := (z3.alloc _).trans s4
  clear a3 z3 s4
  go_wp2_with fail
  refine (vote_is [1, 0] 0 false (row_any 1 2 _ _ (Blk.new w4 _ _) rfl rfl) rfl (by decide) (by decide) (by decide)).mono ?_
  rintro e w5 ⟨rfl, s5⟩
  have a5 := (a4.alloc _).stp s5
  have z5 := (z4.alloc _).trans s5
  clear a4 z4 s5
  go_wp2_with fail
  refine (bits_is a5 oneT_ok (by decide) (show _ = 0 by decide)).mono ?_
  rintro e w6 ⟨rfl, s6⟩
  have a6 := a5.stp s6
  have z6 := z5.trans s6
  clear a5 z5 s6
  go_wp2_with fail
  refine (bits_is a6 oneT_ok (by decide) (show _ = 1 by decide)).mono ?_
  rintro e w7 ⟨rfl, s7⟩
  have a7 := a6.stp s7
  have z7 := z6.trans s7
  clear a6 z6 s7
  go_wp2_with fail
  refine (bits_is a7 oneT_ok (by decide) (show _ = 0 by decide)).mono ?_
  rintro e w8 ⟨rfl, s8⟩
  have a8 := a7.stp s8
  have z8 := z7.trans s8
  clear a7 z7 s8
  go_wp2_with fail
  refine (bits_is a8 oneT_ok (by decide) (show _ = 3 by decide)).mono ?_
  rintro e w9 ⟨rfl, s9⟩
  go_wp2_with fail
  go_ret
  exact ⟨rfl, z8.trans s9⟩
end Go.Proofs.Ytkdpndoamepcbaa
