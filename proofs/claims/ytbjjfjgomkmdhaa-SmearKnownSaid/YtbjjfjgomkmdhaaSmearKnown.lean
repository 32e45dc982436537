/- SmearKnown: the document's examples, the ends, and no table. -/
import Derived.Test.YtbjjfjgomkmdhaaSmearBk
import Derived.Laws.MakeOwn
import Derived.Laws.Entries
namespace Go.Proofs.Ytbjjfjgomkmdhaa
open Go.RowKit
set_option linter.unusedVariables false
set_option linter.unusedSimpArgs false

/-- make of elements of several cells (turned from the guide's text that is laid out for this). -/
theorem run_make_rowN {P : Program} (t e : TypeId) (i : TypeInfo) (z : Value) (ht : P.underlying t = some (.slice e)) (hi : P.info? e = some i) (hz : i.zero = some z)
    (kl kc : IntKind) (n c : Nat) (hnc : n ≤ c) (hbytes : i.bytes * c ≤ 281474976710656) (h63 : c ≤ 9223372036854775807) (w : World) :
    (Instr.makeSlice t (.int kl (n : Int)) (.int kc (c : Int))).run P w = .ok (.slice (some ⟨w.heap.size, 0, none⟩) n c) (w.alloc (.cells (madeCells z.cells (c * i.size)) e)) := by
  have hb : (i.bytes : Int) * (c : Int) ≤ 281474976710656 := by
    have h : ((i.bytes * c : Nat) : Int) ≤ 281474976710656 := by omega
    rwa [Int.natCast_mul] at h
  have hr := run_make (P := P) w t e i z ht hi hz kl kc n c (by omega) (by omega) hb (by omega)
  simp only [Int.toNat_natCast] at hr
  exact hr

theorem within_nil (t : Int) (w : World) : Calls Try.prog 13 #[.pointer none, .int .i64 t] w fun e w' => e = .returned (.tuple #[.int .i64 0, .bool false]) ∧ Stp [] w w' := by
  have i1 := fun w => inst_any t w
  generalize instS t = u at *
  have x1 := fun b1 (w : World) hb hb1 => idx_within b1 u none 0 0 [] w ⟨rfl, fun h => absurd h (by omega)⟩ rfl LOk.nil hb hb1
  have P := Lib.hid (And.intro i1 x1)
  clear i1 x1
  go_enter Try.func13, Try.ntmps13
  go_wp2_with fail
  refine (P.out.1 _).mono ?_
  rintro e w1 ⟨rfl, rfl⟩
  go_wp2_with fail
  refine (list_nil _).mono ?_
  rintro e w1 ⟨rfl, rfl⟩
  go_wp2_with fail
  refine (P.out.2 w.heap.size _ (by exact (Blk.new w 2 #[.int .i64 u]).cell 0) (by simp)).mono ?_
  rintro e w3 ⟨rfl, s3⟩
  have e1 : idxS (inS u) [] = -1 := rfl
  rw [e1]
  go_wp2_with fail
  go_ret2
  exact ⟨rfl, ((Stp.refl _ _).alloc _).trans s3⟩

theorem one_good (a k : Int) (w : World) (ok : LOk [(a, k)]) : Calls Try.prog 24 #[.int .i64 a, .int .i64 k] w fun e w' => e = .returned (.int .i64 0) ∧ Stp [] w w' := by
  have OK := Lib.hid ok
  clear ok
  go_enter Try.func24, Try.ntmps24
  go_wp2_with fail
  refine (new_lit _ [(a, k)] _ 1 _ rfl rfl OK.out).mono ?_
  rintro e w1 ⟨g, rfl, t1, s1, hg⟩
  go_wp2_with fail
  go_ret
  exact ⟨rfl, ((Stp.refl _ _).alloc _).trans s1⟩
theorem one_bad (a k : Int) (w : World) (ha : (-9223372036854775808 ≤ a ∧ a ≤ 9223372036854775807) ∧ (-9223372036854775808 ≤ k ∧ k ≤ 9223372036854775807)) (hL : leapsS 86400000000000 [(a, k)] = false) : Calls Try.prog 24 #[.int .i64 a, .int .i64 k] w fun e w' => e = .returned (.int .i64 1) ∧ Stp [] w w' := by
  have OK := Lib.hid (And.intro ha hL)
  clear ha hL
  go_enter Try.func24, Try.ntmps24
  go_wp2_with fail
  refine (new_litbad _ [(a, k)] _ 1 _ rfl rfl (by decide) (fun x hx => by simp at hx; subst hx; exact OK.out.1) OK.out.2).mono ?_
  rintro e w1 ⟨rfl, s1⟩
  go_wp2_with fail
  go_ret
  exact ⟨rfl, ((Stp.refl _ _).alloc _).trans s1⟩
theorem two_good (w : World) : Calls Try.prog 25 #[.int .i64 172800000000000] w fun e w' => e = .returned (.int .i64 0) ∧ Stp [] w w' := by
  go_enter Try.func25, Try.ntmps25
  go_wp2_with fail
  refine (new_lit _ [(86400000000000, 1), (259200000000000, -1)] _ 2 _ rfl rfl (LOk.of (by decide) (by decide))).mono ?_
  rintro e w1 ⟨g, rfl, t1, s1, hg⟩
  go_wp2_with fail
  go_ret
  exact ⟨rfl, ((Stp.refl _ _).alloc _).trans s1⟩
theorem two_bad (w : World) : Calls Try.prog 25 #[.int .i64 172799999999999] w fun e w' => e = .returned (.int .i64 1) ∧ Stp [] w w' := by
  go_enter Try.func25, Try.ntmps25
  go_wp2_with fail
  refine (new_litbad _ [(86400000000000, 1), (259199999999999, -1)] _ 2 _ rfl rfl (by decide) (by simp) (by decide)).mono ?_
  rintro e w1 ⟨rfl, s1⟩
  go_wp2_with fail
  go_ret
  exact ⟨rfl, ((Stp.refl _ _).alloc _).trans s1⟩
theorem toS_nil (t : Int) : toS [] t = instS t := by unfold toS; rw [takenS_nil]; omega
theorem back_is (w : World) (s v : Int) (hs : s ≤ 4611686018427387904) (hs0 : -9223372036854775808 ≤ s) (hv : v = max 0 s) :
    Calls Try.prog 23 #[.pointer none, .int .i64 s] w fun e w' => e = .returned (.tuple #[.int .i64 v, .bool true]) ∧ Stp [] w w' :=
  (backP_yes none [] s w (.inl ⟨rfl, rfl⟩) LOk.nil (by rw [toS_nil, instS_mm]; omega) hs0).mono fun e w' ⟨b, he, b0, b1, b2, b3, st⟩ => by
    rw [toS_nil, instS_mm] at b2
    rw [toS_nil, instS_mm] at b3
    have : b = v := by omega
    subst this
    exact ⟨he, st⟩

set_option maxRecDepth 100000 in
set_option maxHeartbeats 4000000 in
theorem smearKnown_walk (w : World) : Calls Try.prog 9 #[] w fun e w' => e = .returned (.bool true) ∧ Stp [] w w' := by
  obtain ⟨i0, hi, hz0, hz1, hz2⟩ := info_parts leap_info
  have hmk : ∀ w, (Instr.makeSlice 24 (.int .i64 33) (.int .i64 33)).run Try.prog w = .ok (.slice (some ⟨w.heap.size, 0, none⟩) 33 33) (w.alloc (.cells (madeCells (Value.agg #[.int .i64 0, .int .i64 0]).cells (33 * i0.size)) 30)) := fun w => run_make_rowN 24 30 i0 _ Try.underlying24 hi hz0 .i64 .i64 33 33 (Nat.le_refl _) (by rw [hz2]; decide) (by decide) w
  go_enter Try.func9, Try.ntmps9
  go_wp2_with fail
  refine (new_full _ 33 33 _ (by decide) (by decide)).mono ?_
  rintro e w1 ⟨rfl, rfl⟩
  clear hmk hi hz0 hz1 hz2
  go_wp2_with fail
  refine (back_is _ 5 5 (by decide) (by decide) (by decide)).mono ?_
  rintro e v1 ⟨rfl, s1⟩
  have z1 := ((Stp.refl [] w).alloc _).trans s1
  clear s1
  go_wp2_with fail
  refine (back_is _ (-5) 0 (by decide) (by decide) (by decide)).mono ?_
  rintro e v2 ⟨rfl, s2⟩
  have z2 := z1.trans s2
  clear s2 z1
  go_wp2_with fail
  refine (backP_no none [] 4611686018427387905 _ (.inl ⟨rfl, rfl⟩) LOk.nil (by rw [toS_nil, instS_mm]; decide)).mono ?_
  rintro e v3 ⟨rfl, s3⟩
  have z3 := z2.trans s3
  clear s3 z2
  go_wp2_with fail
  refine (within_nil 5 _).mono ?_
  rintro e v4 ⟨rfl, s4⟩
  have z4 := z3.trans s4
  clear s4 z3
  go_wp2_with fail
  refine (awake_any _).mono ?_
  rintro e v5 ⟨rfl, s5⟩
  have z5 := z4.trans s5
  clear s5 z4
  go_wp2_with fail
  refine (one_good 86400000000000 1 _ (LOk.of (by decide) (by decide))).mono ?_
  rintro e v6 ⟨rfl, s6⟩
  have z6 := z5.trans s6
  clear s6 z5
  go_wp2_with fail
  refine (one_bad 86399999999999 1 _ (by decide) (by decide)).mono ?_
  rintro e v7 ⟨rfl, s7⟩
  have z7 := z6.trans s7
  clear s7 z6
  go_wp2_with fail
  refine (one_bad 86400000000000 0 _ (by decide) (by decide)).mono ?_
  rintro e v8 ⟨rfl, s8⟩
  have z8 := z7.trans s8
  clear s8 z7
  go_wp2_with fail
  refine (one_bad 86400000000000 2 _ (by decide) (by decide)).mono ?_
  rintro e v9 ⟨rfl, s9⟩
  have z9 := z8.trans s9
  clear s9 z8
  go_wp2_with fail
  refine (one_good 4611686018427387904 (-1) _ (LOk.of (by decide) (by decide))).mono ?_
  rintro e v10 ⟨rfl, s10⟩
  have z10 := z9.trans s10
  clear s10 z9
  go_wp2_with fail
  refine (one_bad 4611686018427387905 1 _ (by decide) (by decide)).mono ?_
  rintro e v11 ⟨rfl, s11⟩
  have z11 := z10.trans s11
  clear s11 z10
  go_wp2_with fail
  refine (two_good _).mono ?_
  rintro e v12 ⟨rfl, s12⟩
  have z12 := z11.trans s12
  clear s12 z11
  go_wp2_with fail
  refine (two_bad _).mono ?_
  rintro e v13 ⟨rfl, s13⟩
  have z13 := z12.trans s13
  clear s13 z12
  go_wp2_with fail
  have q13 : instS 7 = 7 := by decide
  have r13 := fun w => to_nil 7 w
  rw [q13] at r13
  have R13 := Lib.hid r13
  clear q13 r13
  refine (R13.out _).mono ?_
  rintro e v14 ⟨rfl, s14⟩
  have z14 := z13.trans s14
  clear s14 z13
  go_wp2_with fail
  have q14 : instS (-7) = 0 := by decide
  have r14 := fun w => to_nil (-7) w
  rw [q14] at r14
  have R14 := Lib.hid r14
  clear q14 r14
  refine (R14.out _).mono ?_
  rintro e v15 ⟨rfl, s15⟩
  have z15 := z14.trans s15
  clear s15 z14
  go_wp2_with fail
  have q15 : instS 4611686018427387913 = 4611686018427387904 := by decide
  have r15 := fun w => to_nil 4611686018427387913 w
  rw [q15] at r15
  have R15 := Lib.hid r15
  clear q15 r15
  refine (R15.out _).mono ?_
  rintro e v16 ⟨rfl, s16⟩
  have z16 := z15.trans s16
  clear s16 z15
  go_wp2_with fail
  refine (taken_nil 9 _).mono ?_
  rintro e v17 ⟨rfl, s17⟩
  have z17 := z16.trans s17
  clear s17 z16
  go_wp2_with fail
  refine (list_nil _).mono ?_
  rintro e vL ⟨rfl, rfl⟩
  go_wp2_with fail
  go_ret
  exact ⟨rfl, z17⟩
end Go.Proofs.Ytbjjfjgomkmdhaa
