/- smear: the document's examples. -/
import Derived.Test.YtbjjfjgomkmdhaaSmearE
import Derived.Deep.DrawnRows
namespace Go.Proofs.Ytbjjfjgomkmdhaa
open Go.RowKit
set_option linter.unusedVariables false
set_option linter.unusedSimpArgs false

/-- A row of one leap, or two, as a call lays it. -/
theorem row_new (w : World) (M : List (Int × Int)) (A : Array Value) (hA : A.toList = pcells M) : RowIn (w.alloc (.cells A 30)) (some ⟨w.heap.size, 0, none⟩) M.length 2 (pcells M) [] :=
  ⟨pcells_length M, fun _ => ⟨w.heap.size, 0, rfl, by simp, by simp, fun j u hu => by
    have h := (Blk.new w 30 A).cell j
    rw [Nat.zero_add, h, ← hu, ← hA]
    simp⟩⟩
theorem new_lit (w : World) (M : List (Int × Int)) (A : Array Value) (n c : Nat) (hA : A.toList = pcells M) (hn : M.length = n) (ok : LOk M) :
    Calls Try.prog 15 #[.slice (some ⟨w.heap.size, 0, none⟩) n c] (w.alloc (.cells A 30)) (MadeTab M (w.alloc (.cells A 30))) :=
  new_ok _ n c M _ (by have := row_new w M A hA; rw [hn] at this; exact this) hn (by rw [← hn]; exact ok.len) (fun x hx => by have := ok.each x hx; omega) ok.leaps
theorem new_litbad (w : World) (M : List (Int × Int)) (A : Array Value) (n c : Nat) (hA : A.toList = pcells M) (hn : M.length = n) (hn2 : n ≤ 32) (hb : ∀ x ∈ M, (-9223372036854775808 ≤ x.1 ∧ x.1 ≤ 9223372036854775807) ∧ (-9223372036854775808 ≤ x.2 ∧ x.2 ≤ 9223372036854775807)) (hL : leapsS 86400000000000 M = false) :
    Calls Try.prog 15 #[.slice (some ⟨w.heap.size, 0, none⟩) n c] (w.alloc (.cells A 30)) fun e w' => e = .returned (.tuple #[.pointer none, .int .i64 1]) ∧ Stp [] (w.alloc (.cells A 30)) w' :=
  new_bad _ n c M _ (by have := row_new w M A hA; rw [hn] at this; exact this) hn hn2 hb hL

theorem row_blk {W : World} {b : Nat} (M : List (Int × Int)) (A : Array Value) (hb : Blk W b 30 A) (hA : A.toList = pcells M) : RowIn W (some ⟨b, 0, none⟩) M.length 2 (pcells M) [] :=
  ⟨pcells_length M, fun _ => ⟨b, 0, rfl, hb.lt, by simp, fun j u hu => by
    have h := hb.cell j
    rw [Nat.zero_add, h, ← hu, ← hA]
    simp⟩⟩
theorem new_blk (W : World) (b : Nat) (M : List (Int × Int)) (A : Array Value) (n c : Nat) (hb : Blk W b 30 A) (hA : A.toList = pcells M) (hn : M.length = n) (ok : LOk M) :
    Calls Try.prog 15 #[.slice (some ⟨b, 0, none⟩) n c] W (MadeTab M W) :=
  new_ok _ n c M _ (by have := row_blk M A hb hA; rw [hn] at this; exact this) hn (by rw [← hn]; exact ok.len) (fun x hx => by have := ok.each x hx; omega) ok.leaps
theorem blk_new1 (w : World) (o : Obj) (t : TypeId) (cs : Array Value) : Blk ((w.alloc o).alloc (.cells cs t)) (w.heap.size + 1) t cs := by
  have := Blk.new (w.alloc o) t cs
  rwa [World.size_alloc] at this

theorem ok_ten : LOk [(864000000000000, 1)] := LOk.of (by decide) (by decide)
theorem taken_is {w : World} {g : Nat} {L : List (Int × Int)} {t v : Int} (h : tabAt L w g) (ok : LOk L) (hv : takenS (instS t) L = v) :
    Calls Try.prog 14 #[.pointer (some ⟨g, 0, none⟩), .int .i64 t] w fun e w' => e = .returned (.int .i64 v) ∧ Stp [] w w' := by
  have := taken_any g L t w h ok
  rw [hv] at this
  exact this
theorem to_is {w : World} {g : Nat} {L : List (Int × Int)} {t v : Int} (h : tabAt L w g) (ok : LOk L) (hv : toS L t = v) :
    Calls Try.prog 12 #[.pointer (some ⟨g, 0, none⟩), .int .i64 t] w fun e w' => e = .returned (.int .i64 v) ∧ Stp [] w w' := by
  have := to_any g L t w h ok
  rw [hv] at this
  exact this
theorem within_is {w : World} {g : Nat} {L : List (Int × Int)} {t : Int} (v : Int) (b : Bool) (h : tabAt L w g) (ok : LOk L) (hv : (max (withinS L t) 0, decide (0 ≤ withinS L t)) = (v, b)) :
    Calls Try.prog 13 #[.pointer (some ⟨g, 0, none⟩), .int .i64 t] w fun e w' => e = .returned (.tuple #[.int .i64 v, .bool b]) ∧ Stp [] w w' := by
  have := within_any g L t w h ok
  have e1 := congrArg Prod.fst hv
  have e2 := congrArg Prod.snd hv
  simp only at e1 e2
  rw [e1, e2] at this
  exact this

set_option maxHeartbeats 1000000 in
theorem awake_any (w : World) : Calls Try.prog 11 #[] w fun e w' => e = .returned (.bool true) ∧ Stp [] w w' := by
  go_enter Try.func11, Try.ntmps11
  go_wp2_with fail
  refine (new_lit _ [(864000000000000, 1)] _ 1 _ rfl rfl ok_ten).mono ?_
  rintro e w1 ⟨g, rfl, t1, s1, hg⟩
  go_wp2_with fail
  refine (new_litbad _ [(864000000000000, 1), (950400000000000, 1)] _ 2 _ rfl rfl (by decide) (by simp) (by decide)).mono ?_
  rintro e w2 ⟨rfl, s2⟩
  have t2 : tabAt [(864000000000000, 1)] w2 g := (t1.alloc _).stp s2
  have z2 : Stp [] w w2 := ((((Stp.refl [] w).alloc _).trans s1).alloc _).trans s2
  clear s1 s2 t1 hg
  go_wp2_with fail
  refine (within_is 0 true t2 ok_ten (by decide)).mono ?_
  rintro e w3 ⟨rfl, s3⟩
  have t3 := t2.stp s3
  have z3 := z2.trans s3
  clear s3 t2 z2
  go_wp2_with fail
  refine (taken_is t3 ok_ten (show _ = 0 by decide)).mono ?_
  rintro e w4 ⟨rfl, s4⟩
  have t4 := t3.stp s4
  have z4 := z3.trans s4
  clear s4 t3 z3
  go_wp2_with fail
  refine (taken_is t4 ok_ten (show _ = 500000000 by decide)).mono ?_
  rintro e w5 ⟨rfl, s5⟩
  have t5 := t4.stp s5
  have z5 := z4.trans s5
  clear s5 t4 z4
  go_wp2_with fail
  refine (taken_is t5 ok_ten (show _ = 1000000000 by decide)).mono ?_
  rintro e w6 ⟨rfl, s6⟩
  have t6 := t5.stp s6
  have z6 := z5.trans s6
  clear s6 t5 z5
  go_wp2_with fail
  refine (to_is t6 ok_ten (show _ = 863999500000000 by decide)).mono ?_
  rintro e w7 ⟨rfl, s7⟩
  have z7 := z6.trans s7
  go_wp2_with fail
  go_ret
  exact ⟨rfl, z7⟩
end Go.Proofs.Ytbjjfjgomkmdhaa
