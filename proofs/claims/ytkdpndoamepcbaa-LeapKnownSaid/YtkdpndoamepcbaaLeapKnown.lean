/- LeapKnown: the chapter's rows, the ends, and no table. -/
import Derived.Test.YtkdpndoamepcbaaLeapK
import Derived.Laws.MakeOwn
import Derived.Laws.Entries
namespace Go.Proofs.Ytkdpndoamepcbaa
open Go.RowKit
set_option linter.unusedVariables false
set_option linter.unusedSimpArgs false

/-- make of elements of several cells (turned from the guide's text that is laid out for this). -/
theorem run_make_rowN {P : Program} (t e : TypeId) (i : TypeInfo) (z : Value) (ht : P.underlying t = some (.slice e)) (hi : P.info? e = some i) (hz : i.zero = some z)
    (kl kc : IntKind) (n c : Nat) (hnc : n ≤ c) (hbytes : i.bytes * c ≤ 281474976710656) (h63 : c ≤ 9223372036854775807) (w : World) :
    (Instr.makeSlice t (.int kl (n : Int)) (.int kc (c : Int))).run P w = .ok (.slice (some ⟨w.heap.size, 0, none⟩) n c) (w.alloc (.cells (madeCells z.cells (c * i.size)) e)) := by
  have hb : (i.bytes : Int) * (c : Int) ≤ 281474976710656 := by
    have h : ((i.bytes * c : Nat) : Int) ≤ 281474976710656 := by omega
    rwa [Int.natCast_mul] at h
  have hr := run_make (P := P) w t e i z ht hi hz kl kc n c (by omega) (by omega) hb (by omega)
  simp only [Int.toNat_natCast] at hr
  exact hr
theorem row_none (w : World) (c : Nat) : RowIn w none 0 2 (pcells []) [] := ⟨rfl, fun h => absurd h (by omega)⟩
theorem row_none1 (w : World) : RowIn w none 0 1 (([] : List Int).map (Value.int .u8)) [] := ⟨rfl, fun h => absurd h (by omega)⟩
def manyT : LT := ⟨[(172800000000000, 1), (432000000000000, -1)], 1728000000000000, 10⟩
theorem manyT_ok : manyT.ok := ⟨LOk.of (by decide) (by decide), by decide, by decide, by decide, by decide⟩

theorem offset_is {w : World} {g : Nat} {c : LT} {t v : Int} (h : c.at w g) (ok : c.ok) (e1 : c.base + kS t c.L = v) :
    Calls Try.prog 16 #[.pointer (some ⟨g, 0, none⟩), .int .i64 t] w fun e w' => e = .returned (.int .i64 v) ∧ Stp [] w w' := by
  have := offset_any g c t w h ok
  rw [e1] at this
  exact this
theorem one_bad : Hid (∀ w A cp, RowIn w A (oneT.L.length + 1) 2 (pcells oneT.L ++ [.int .i64 259200000000000, .int .i64 (-1)]) [] → Calls Try.prog 18 #[.slice A (oneT.L.length + 1) cp, .int .i64 777600000000000, .int .i64 oneT.base] w fun e w' => e = .returned (.tuple #[.pointer none, .int .i64 1]) ∧ Stp [] w w') :=
  fun w A cp h => lnew_bad A 2 cp [(172800000000000, 1), (259200000000000, -1)] 777600000000000 10 w h rfl (by decide) (by simp) (by decide)
theorem more_late_ok : (oneT.more 432000000000000 (-1) 691200000000000).ok := ⟨LOk.of (by decide) (by decide), by decide, by decide, by decide, by decide⟩
theorem more_ok : (oneT.more 432000000000000 (-1) 1728000000000000).ok := manyT_ok
theorem add_many {w : World} {g : Nat} (h : oneT.at w g) : Calls Try.prog 23 #[.pointer (some ⟨g, 0, none⟩), .agg #[.int .i64 432000000000000, .int .i64 (-1)], .int .i64 1728000000000000] w fun e w' => e = .returned (.int .i64 0) ∧ manyT.at w' g ∧ Stp [g] w w' :=
  ladd_ok g oneT 432000000000000 (-1) 1728000000000000 w h oneT_ok more_ok (by decide)

set_option maxRecDepth 100000 in
set_option maxHeartbeats 4000000 in
theorem leapKnown_walk (w : World) : Calls Try.prog 9 #[] w fun e w' => e = .returned (.bool true) ∧ Stp [] w w' := by
  obtain ⟨i0, hi, hz0, hz1, hz2⟩ := info_parts leap_info
  have hmk : ∀ w, (Instr.makeSlice 30 (.int .i64 33) (.int .i64 33)).run Try.prog w = .ok (.slice (some ⟨w.heap.size, 0, none⟩) 33 33) (w.alloc (.cells (madeCells (Value.agg #[.int .i64 0, .int .i64 0]).cells (33 * i0.size)) 34)) := fun w => run_make_rowN 30 34 i0 _ Try.underlying30 hi hz0 .i64 .i64 33 33 (Nat.le_refl _) (by rw [hz2]; decide) (by decide) w
  have zb := Lib.hid ((Blk.new w 67 #[.slice none 0 0, .int .i64 0, .int .i64 0, .bool false]).cell 3)
  have z0 := (Stp.refl [] w).alloc (.cells #[.slice none 0 0, .int .i64 0, .int .i64 0, .bool false] 67)
  have ZS : Hid (∀ w', Stp [] (w.alloc (.cells #[.slice none 0 0, .int .i64 0, .int .i64 0, .bool false] 67)) w' → w'.cell? ⟨w.heap.size, 3, none⟩ = some (.bool false)) := fun w' h => h.cell zb.out (by simp)
  go_enter Try.func9, Try.ntmps9
  go_wp2_with fail
  generalize w.alloc (.cells #[.slice none 0 0, .int .i64 0, .int .i64 0, .bool false] 67) = W at *
  have y0 := Lib.hid (Stp.refl [] W)
  refine (label_nil 5 _).mono ?_
  rintro e W ⟨rfl, rfl⟩
  go_wp2_with fail
  refine (even_zero w.heap.size 5 false _ (ZS.out _ (by first | exact y0.out | exact y0.out.alloc _ | exact (y0.out.alloc _).alloc _))).mono ?_
  rintro e v1 ⟨rfl, s1⟩
  have y1 := Lib.hid (by first | exact y0.out.trans s1 | exact (y0.out.alloc _).trans s1 | exact ((y0.out.alloc _).alloc _).trans s1 | exact (((y0.out.alloc _).alloc _).alloc _).trans s1)
  clear s1 y0
  go_wp2_with fail
  refine (next_nil 0 _).mono ?_
  rintro e v2 ⟨rfl, s2⟩
  have y2 := Lib.hid (by first | exact y1.out.trans s2 | exact (y1.out.alloc _).trans s2 | exact ((y1.out.alloc _).alloc _).trans s2 | exact (((y1.out.alloc _).alloc _).alloc _).trans s2)
  clear s2 y1
  go_wp2_with fail
  refine (offset_nil 0 _).mono ?_
  rintro e v2 ⟨rfl, rfl⟩
  go_wp2_with fail
  refine (bits_zero w.heap.size 0 _ (ZS.out _ (by first | exact y2.out | exact y2.out.alloc _ | exact (y2.out.alloc _).alloc _))).mono ?_
  rintro e v2 ⟨rfl, rfl⟩
  go_wp2_with fail
  refine (add_nil 0 0 0 _).mono ?_
  rintro e v3 ⟨rfl, s3⟩
  have y3 := Lib.hid (by first | exact y2.out.trans s3 | exact (y2.out.alloc _).trans s3 | exact ((y2.out.alloc _).alloc _).trans s3 | exact (((y2.out.alloc _).alloc _).alloc _).trans s3)
  clear s3 y2
  go_wp2_with fail
  refine (llist_nil _).mono ?_
  rintro e v3 ⟨rfl, rfl⟩
  go_wp2_with fail
  refine (copy_zero w.heap.size _ (ZS.out _ (by first | exact y3.out | exact y3.out.alloc _ | exact (y3.out.alloc _).alloc _))).mono ?_
  rintro e v3 ⟨rfl, rfl⟩
  go_wp2_with fail
  refine (lnew_ex none 0 0 [] (-1) 0 _ (row_none _ 0) rfl LOk.nil (by decide)).mono ?_
  rintro e v4 ⟨rfl, s4⟩
  have y4 := Lib.hid (by first | exact y3.out.trans s4 | exact (y3.out.alloc _).trans s4 | exact ((y3.out.alloc _).alloc _).trans s4 | exact (((y3.out.alloc _).alloc _).alloc _).trans s4)
  clear s4 y3
  go_wp2_with fail
  refine (lnew_base none 0 0 [] 0 1001 _ (row_none _ 0) rfl LOk.nil (by decide) (by decide) (by decide)).mono ?_
  rintro e v5 ⟨rfl, s5⟩
  have y5 := Lib.hid (by first | exact y4.out.trans s5 | exact (y4.out.alloc _).trans s5 | exact ((y4.out.alloc _).alloc _).trans s5 | exact (((y4.out.alloc _).alloc _).alloc _).trans s5)
  clear s5 y4
  go_wp2_with fail
  refine (lnew_bad _ 1 1 [(5, 1)] 0 0 _ (row_any 2 1 (pcells [(5, 1)]) _ (Blk.new v5 _ _) rfl rfl) rfl (by decide) (by simp) (by decide)).mono ?_
  rintro e v6 ⟨rfl, s6⟩
  have y6 := Lib.hid (by first | exact y5.out.trans s6 | exact (y5.out.alloc _).trans s6 | exact ((y5.out.alloc _).alloc _).trans s6 | exact (((y5.out.alloc _).alloc _).alloc _).trans s6)
  clear s6 y5
  go_wp2_with fail
  refine (lnew_full _ 33 33 0 0 _ (by decide) (by decide)).mono ?_
  rintro e v6 ⟨rfl, rfl⟩
  go_wp2_with fail
  refine (one_any _).mono ?_
  rintro e v7 ⟨g, rfl, a7, s7, hg⟩
  have y7 := Lib.hid (by first | exact y6.out.trans s7 | exact (y6.out.alloc _).trans s7 | exact ((y6.out.alloc _).alloc _).trans s7 | exact (((y6.out.alloc _).alloc _).alloc _).trans s7)
  have hgW : W.heap.size ≤ g := Nat.le_trans (by have := y6.out.size; (try simp); omega) hg
  clear hg
  clear s7 y6
  go_wp2_with fail
  refine (ladd_bad g oneT 259200000000000 (-1) 777600000000000 _ (by first | exact a7 | exact a7.alloc _ | exact (a7.alloc _).alloc _) oneT_ok one_bad).mono ?_
  rintro e v8 ⟨rfl, s8⟩
  have y8 := Lib.hid (by first | exact y7.out.trans s8 | exact (y7.out.alloc _).trans s8 | exact ((y7.out.alloc _).alloc _).trans s8 | exact (((y7.out.alloc _).alloc _).alloc _).trans s8)
  have a8 : oneT.at v8 g := by first | exact a7.stp s8 | exact (a7.alloc _).stp s8 | exact ((a7.alloc _).alloc _).stp s8
  clear a7
  clear s8 y7
  go_wp2_with fail
  refine (ladd_late g oneT 432000000000000 (-1) 691200000000000 _ (by first | exact a8 | exact a8.alloc _ | exact (a8.alloc _).alloc _) oneT_ok more_late_ok (by decide)).mono ?_
  rintro e v9 ⟨rfl, s9⟩
  have y9 := Lib.hid (by first | exact y8.out.trans s9 | exact (y8.out.alloc _).trans s9 | exact ((y8.out.alloc _).alloc _).trans s9 | exact (((y8.out.alloc _).alloc _).alloc _).trans s9)
  have a9 : oneT.at v9 g := by first | exact a8.stp s9 | exact (a8.alloc _).stp s9 | exact ((a8.alloc _).alloc _).stp s9
  clear a8
  clear s9 y8
  go_wp2_with fail
  refine (add_many (by first | exact a9 | exact a9.alloc _ | exact (a9.alloc _).alloc _)).mono ?_
  rintro e v10 ⟨rfl, a10, s10⟩
  have y10 := Lib.hid (by first | exact y9.out.far s10 (.inr hgW) | exact (y9.out.alloc _).far s10 (.inr hgW))
  clear s10 y9 a9
  go_wp2_with fail
  refine (vote_is [] 0 false (row_none1 _) rfl (by decide) (by simp) (by decide)).mono ?_
  rintro e v11 ⟨rfl, s11⟩
  have y11 := Lib.hid (by first | exact y10.out.trans s11 | exact (y10.out.alloc _).trans s11 | exact ((y10.out.alloc _).alloc _).trans s11 | exact (((y10.out.alloc _).alloc _).alloc _).trans s11)
  have a11 : manyT.at v11 g := by first | exact a10.stp s11 | exact (a10.alloc _).stp s11 | exact ((a10.alloc _).alloc _).stp s11
  clear a10
  clear s11 y10
  go_wp2_with fail
  refine (vote_is [3, 3, 200] 0 false (row_any 1 3 _ _ (Blk.new v11 _ _) rfl rfl) rfl (by decide) (by decide) (by decide)).mono ?_
  rintro e v12 ⟨rfl, s12⟩
  have y12 := Lib.hid (by first | exact y11.out.trans s12 | exact (y11.out.alloc _).trans s12 | exact ((y11.out.alloc _).alloc _).trans s12 | exact (((y11.out.alloc _).alloc _).alloc _).trans s12)
  have a12 : manyT.at v12 g := by first | exact a11.stp s12 | exact (a11.alloc _).stp s12 | exact ((a11.alloc _).alloc _).stp s12
  clear a11
  clear s12 y11
  go_wp2_with fail
  refine (vote_is [2, 2, 1] 2 true (row_any 1 3 _ _ (Blk.new v12 _ _) rfl rfl) rfl (by decide) (by decide) (by decide)).mono ?_
  rintro e v13 ⟨rfl, s13⟩
  have y13 := Lib.hid (by first | exact y12.out.trans s13 | exact (y12.out.alloc _).trans s13 | exact ((y12.out.alloc _).alloc _).trans s13 | exact (((y12.out.alloc _).alloc _).alloc _).trans s13)
  have a13 : manyT.at v13 g := by first | exact a12.stp s13 | exact (a12.alloc _).stp s13 | exact ((a12.alloc _).alloc _).stp s13
  clear a12
  clear s13 y12
  go_wp2_with fail
  refine (bits_is (by first | exact a13 | exact a13.alloc _ | exact (a13.alloc _).alloc _) manyT_ok (by decide) (show _ = 2 by decide)).mono ?_
  rintro e v14 ⟨rfl, s14⟩
  have y14 := Lib.hid (by first | exact y13.out.trans s14 | exact (y13.out.alloc _).trans s14 | exact ((y13.out.alloc _).alloc _).trans s14 | exact (((y13.out.alloc _).alloc _).alloc _).trans s14)
  have a14 : manyT.at v14 g := by first | exact a13.stp s14 | exact (a13.alloc _).stp s14 | exact ((a13.alloc _).alloc _).stp s14
  clear a13
  clear s14 y13
  go_wp2_with fail
  refine (bits_is (by first | exact a14 | exact a14.alloc _ | exact (a14.alloc _).alloc _) manyT_ok (by decide) (show _ = 0 by decide)).mono ?_
  rintro e v15 ⟨rfl, s15⟩
  have y15 := Lib.hid (by first | exact y14.out.trans s15 | exact (y14.out.alloc _).trans s15 | exact ((y14.out.alloc _).alloc _).trans s15 | exact (((y14.out.alloc _).alloc _).alloc _).trans s15)
  have a15 : manyT.at v15 g := by first | exact a14.stp s15 | exact (a14.alloc _).stp s15 | exact ((a14.alloc _).alloc _).stp s15
  clear a14
  clear s15 y14
  go_wp2_with fail
  refine (bits_is (by first | exact a15 | exact a15.alloc _ | exact (a15.alloc _).alloc _) manyT_ok (by decide) (show _ = 0 by decide)).mono ?_
  rintro e v16 ⟨rfl, s16⟩
  have y16 := Lib.hid (by first | exact y15.out.trans s16 | exact (y15.out.alloc _).trans s16 | exact ((y15.out.alloc _).alloc _).trans s16 | exact (((y15.out.alloc _).alloc _).alloc _).trans s16)
  have a16 : manyT.at v16 g := by first | exact a15.stp s16 | exact (a15.alloc _).stp s16 | exact ((a15.alloc _).alloc _).stp s16
  clear a15
  clear s16 y15
  go_wp2_with fail
  refine (bits_is (by first | exact a16 | exact a16.alloc _ | exact (a16.alloc _).alloc _) manyT_ok (by decide) (show _ = 3 by decide)).mono ?_
  rintro e v17 ⟨rfl, s17⟩
  have y17 := Lib.hid (by first | exact y16.out.trans s17 | exact (y16.out.alloc _).trans s17 | exact ((y16.out.alloc _).alloc _).trans s17 | exact (((y16.out.alloc _).alloc _).alloc _).trans s17)
  have a17 : manyT.at v17 g := by first | exact a16.stp s17 | exact (a16.alloc _).stp s17 | exact ((a16.alloc _).alloc _).stp s17
  clear a16
  clear s17 y16
  go_wp2_with fail
  refine (offset_is (by first | exact a17 | exact a17.alloc _ | exact (a17.alloc _).alloc _) manyT_ok (show _ = 10 by decide)).mono ?_
  rintro e v18 ⟨rfl, s18⟩
  have y18 := Lib.hid (by first | exact y17.out.trans s18 | exact (y17.out.alloc _).trans s18 | exact ((y17.out.alloc _).alloc _).trans s18 | exact (((y17.out.alloc _).alloc _).alloc _).trans s18)
  have a18 : manyT.at v18 g := by first | exact a17.stp s18 | exact (a17.alloc _).stp s18 | exact ((a17.alloc _).alloc _).stp s18
  clear a17
  clear s18 y17
  go_wp2_with fail
  refine (alive_any _).mono ?_
  rintro e v19 ⟨rfl, s19⟩
  have y19 := Lib.hid (by first | exact y18.out.trans s19 | exact (y18.out.alloc _).trans s19 | exact ((y18.out.alloc _).alloc _).trans s19 | exact (((y18.out.alloc _).alloc _).alloc _).trans s19)
  clear s19 y18
  go_wp2_with fail
  go_ret
  exact ⟨rfl, z0.trans y19.out⟩
end Go.Proofs.Ytkdpndoamepcbaa
