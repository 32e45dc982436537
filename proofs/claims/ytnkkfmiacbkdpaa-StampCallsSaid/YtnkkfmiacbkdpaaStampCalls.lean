/- StampCalls: each of the chapter's functions tells what the document's own function tells; for any arguments. -/
import Derived.Test.YtnkkfmiacbkdpaaStampR2
import Derived.Test.YtnkkfmiacbkdpaaStampW
import Derived.Outline
import Derived.Deep.RegionHeld3
import Derived.Deep.DrawnRows
namespace Go.Proofs.Ytnkkfmiacbkdpaa
open Go.RowKit
set_option linter.unusedVariables false
set_option linter.unusedSimpArgs false
attribute [local go_sem ↓] Go.wp_at_zero Go.wp_at_succ

/-- What stands before the calls' row: the date's cells, and no block changed. -/
def Box3 (w W : World) (g : Nat) (c a q : Int) : Prop :=
  W.cell? ⟨g, 0, none⟩ = some (.int .i32 c) ∧ W.cell? ⟨g, 1, none⟩ = some (.int .u32 a) ∧ W.cell? ⟨g, 2, none⟩ = some (.int .u64 q) ∧ Stp [] w W

set_option maxRecDepth 100000 in
set_option maxHeartbeats 4000000 in
theorem stampCalls_walk (u ns pv c a q : Int) (w : World) (hu : 0 ≤ u ∧ u ≤ 18446744073709551615) (hns : -9223372036854775808 ≤ ns ∧ ns ≤ 9223372036854775807) (hpv : -9223372036854775808 ≤ pv ∧ pv ≤ 9223372036854775807)
    (hc : -2147483648 ≤ c ∧ c ≤ 2147483647) (ha : 0 ≤ a ∧ a ≤ 4294967295) (hq : 0 ≤ q ∧ q ≤ 18446744073709551615) :
    Calls Try.prog 7 #[.int .u64 u, .int .i64 ns, .int .i64 pv, .agg #[.int .i32 c, .int .u32 a, .int .u64 q]] w fun e w' => e = .returned (.bool true) ∧ Stp [] w w' := by
  have ok : (DateS.mk c a q).ok := ⟨hc.1, hc.2, ha.1, ha.2, hq.1, hq.2⟩
  have d1 := fun w => datens_any ⟨c, a, q⟩ w ok
  have d2 := fun w => rdatens_any ⟨c, a, q⟩ w ok
  obtain ⟨sh, hsh⟩ : ∃ sh, u % 4294967296 = sh := ⟨_, rfl⟩
  have b1 := fun w => short_any sh w (by omega)
  have b2 := fun w => rshort_any sh w (by omega)
  have b3 := fun w => nsshort_any ns w hns
  have b4 := fun w => rnsshort_any ns w hns
  have b5 := fun w => stampns_case u pv w hu hpv
  have b6 := fun w => rstampns_any u pv w hu hpv
  have b7 := fun w => nsstamp_any ns w hns
  have b8 := fun w => rnsstamp_any ns w hns
  have b9 := fun w => nsdate_any ns w hns
  have b10 := fun w => rnsdate_any ns w hns
  have b11 := fun w => stamp_any ⟨c, a, q⟩ w ok
  have eS : stampS ⟨c, a, q⟩ = a * 4294967296 + q / 4294967296 := rfl
  have ed : (DateS.mk c a q).val = .agg #[.int .i32 c, .int .u32 a, .int .u64 q] := rfl
  rw [eS, ed] at b11
  rw [ed] at d1 d2
  generalize dateNsS ⟨c, a, q⟩ = dn at *
  obtain ⟨dn1, dn2⟩ := dn
  simp only at d1 d2
  generalize shortS sh = v1 at *
  generalize nsShortS ns = v2 at *
  generalize stampNsS u (pivotS pv) = v3 at *
  generalize nsStampS ns = v4 at *
  have eD : ∃ x y z : Int, (dateS ns).val = .agg #[.int .i32 x, .int .u32 y, .int .u64 z] := ⟨_, _, _, rfl⟩
  obtain ⟨x, y, z, eD⟩ := eD
  rw [eD] at b9 b10
  have B := Lib.hid (And.intro b1 (And.intro b2 (And.intro b3 (And.intro b4 (And.intro b5 (And.intro b6 (And.intro b7 (And.intro b8 (And.intro b9 (And.intro b10 (And.intro b11 (And.intro d1 d2))))))))))))
  have u0 := hu.1
  have u1 := hu.2
  have a0 := ha.1
  have a1 := ha.2
  have q0 := hq.1
  have q1 := hq.2
  clear b1 b2 b3 b4 b5 b6 b7 b8 b9 b10 b11 d1 d2 eS ed eD ok hu hns hpv hc ha hq
  have hcv : IntKind.u32.wrap u = sh := by rw [← hsh]; rfl
  clear hsh
  go_enter Try.func7, Try.ntmps7
  go_wp2_with fail
  refine (B.out.2.2.2.2.2.2.2.2.2.2.2.1 _).mono ?_
  rintro e w1 ⟨rfl, s1⟩
  have x0 : w1.cell? ⟨w.heap.size, 0, none⟩ = some (.int .i32 c) := s1.cell ((Blk.new w 39 #[.int .i32 c, .int .u32 a, .int .u64 q]).cell 0) (by simp)
  have x1 : w1.cell? ⟨w.heap.size, 1, none⟩ = some (.int .u32 a) := s1.cell ((Blk.new w 39 #[.int .i32 c, .int .u32 a, .int .u64 q]).cell 1) (by simp)
  have x2 : w1.cell? ⟨w.heap.size, 2, none⟩ = some (.int .u64 q) := s1.cell ((Blk.new w 39 #[.int .i32 c, .int .u32 a, .int .u64 q]).cell 2) (by simp)
  have t1 : Stp [] w w1 := ((Stp.refl _ _).alloc _).trans s1
  go_wp2_with fail
  refine (B.out.2.2.2.2.2.2.2.2.2.2.2.2 _).mono ?_
  rintro e w2 ⟨rfl, s2⟩
  have hb : Box3 w w2 w.heap.size c a q := ⟨s2.cell x0 (by simp), s2.cell x1 (by simp), s2.cell x2 (by simp), t1.trans s2⟩
  clear x0 x1 x2 t1 s1 s2
  generalize w.heap.size = g at *
  go_wp2_with fail
  obtain ⟨x0, x1, x2, x3⟩ := hb
  have f1 : IntKind.u64.wrap a = a := by rw [wrap_u64]; omega
  have f2 : IntKind.u64.wrap (a * 4294967296) = a * 4294967296 := by rw [wrap_u64]; omega
  have f3 : IntKind.u64.wrap (a * 4294967296 + q / 4294967296) = a * 4294967296 + q / 4294967296 := by rw [wrap_u64]; omega
  have f4 : q.tdiv 4294967296 = q / 4294967296 := Int.tdiv_eq_ediv_of_nonneg q0
  have f5 : IntKind.u64.wrap (q / 4294967296) = q / 4294967296 := by rw [wrap_u64]; omega
  go_region_held3 (fun W => W.cell? ⟨g, 0, none⟩ = some (.int .i32 c) ∧ W.cell? ⟨g, 1, none⟩ = some (.int .u32 a) ∧ W.cell? ⟨g, 2, none⟩ = some (.int .u64 q) ∧ Stp [] w W)
    (first | exact ⟨x0, x1, x2, x3⟩ | (go_split_ands; refine ⟨s9.cell ?_ (by simp), s9.cell ?_ (by simp), s9.cell ?_ (by simp), Stp.trans ?_ s9⟩ <;> first | assumption | (apply Stp.drewN; assumption)) | (go_split_ands; refine ⟨?_, ?_, ?_, ?_⟩ <;> first | assumption | (apply Stp.drewN; assumption)))
    ((first
      | (go_at_call 10; (with_reducible refine (B.out.1 _).mono ?_); rintro e w9 ⟨rfl, rfl⟩)
      | (go_at_call 17; (with_reducible refine (B.out.2.1 _).mono ?_); rintro e w9 ⟨rfl, rfl⟩)
      | (go_at_call 11; (with_reducible refine (B.out.2.2.1 _).mono ?_); rintro e w9 ⟨rfl, k9, rfl⟩)
      | (go_at_call 18; (with_reducible refine (B.out.2.2.2.1 _).mono ?_); rintro e w9 ⟨rfl, rfl⟩)
      | (go_at_call 13; (with_reducible refine (B.out.2.2.2.2.1 _).mono ?_); rintro e w9 ⟨rfl, s9⟩)
      | (go_at_call 19; (with_reducible refine (B.out.2.2.2.2.2.1 _).mono ?_); rintro e w9 ⟨rfl, rfl⟩)
      | (go_at_call 9; (with_reducible refine (B.out.2.2.2.2.2.2.1 _).mono ?_); rintro e w9 ⟨rfl, rfl⟩)
      | (go_at_call 20; (with_reducible refine (B.out.2.2.2.2.2.2.2.1 _).mono ?_); rintro e w9 ⟨rfl, rfl⟩)
      | (go_at_call 8; (with_reducible refine (B.out.2.2.2.2.2.2.2.2.1 _).mono ?_); rintro e w9 ⟨rfl, s9⟩)
      | (go_at_call 21; (with_reducible refine (B.out.2.2.2.2.2.2.2.2.2.1 _).mono ?_); rintro e w9 ⟨rfl, s9⟩)
      | (go_at_call 14; (with_reducible refine (B.out.2.2.2.2.2.2.2.2.2.2.1 _).mono ?_); rintro e w9 ⟨rfl, s9⟩)
      | (go_at_call 12; (with_reducible refine (wakes_any _).mono ?_); rintro e w9 ⟨rfl, s9⟩)))
  all_goals go_wp2_with fail
  all_goals go_ret
  all_goals (try go_split_ands)
  all_goals first
    | exact ⟨rfl, by assumption⟩
    | exact ⟨rfl, Stp.drewN (by assumption) _⟩
    | exact ⟨rfl, Stp.trans (by assumption) s9⟩
    | exact ⟨rfl, Stp.trans (by assumption) (Stp.of_drewN s9)⟩
    | trace_state
end Go.Proofs.Ytnkkfmiacbkdpaa
