/- leap: a table tells what the document's tells. -/
import Derived.Test.YtkdpndoamepcbaaLeapV
namespace Go.Proofs.Ytkdpndoamepcbaa
open Go.RowKit
set_option linter.unusedVariables false
set_option linter.unusedSimpArgs false

theorem even_has (c : LT) (label : Int) (ins : Bool) : ∃ r, evenP c label ins r := by
  rcases Classical.em (∃ u, hasS c label ins u) with ⟨u, hu⟩ | h
  · exact ⟨(u, true), .inl ⟨rfl, hu⟩⟩
  · exact ⟨(0, false), .inr ⟨rfl, fun u hu => h ⟨u, hu⟩⟩⟩
theorem leven_any (g : Nat) (c : LT) (label : Int) (ins : Bool) (r : Int × Bool) (w : World) (h : c.at w g) (ok : c.ok) (hlb : -4611686018427387904 < label ∧ label < 4611686018427387904) (hr : evenP c label ins r) :
    Calls Try.prog 15 #[.pointer (some ⟨g, 0, none⟩), .int .i64 label, .bool ins] w fun e w' => e = .returned (.tuple #[.int .i64 r.1, .bool r.2]) ∧ Stp [] w w' := by
  obtain ⟨r1, r2⟩ := r
  rcases hr with ⟨h1, h2⟩ | ⟨h1, h2⟩
  · simp only at h1 h2
    subst h1
    exact even_is h ok (by omega) h2
  · injection h1 with h3 h4
    subst h3 h4
    exact even_not h ok (by omega) h2
theorem Blk.stp' {w w' : World} {g : Nat} {t : TypeId} {cs : Array Value} (h : Blk w g t cs) (hs : Stp [] w w') : Blk w' g t cs := hs.at h (by simp)
theorem tmod_bd (t : Int) : -4611686018427387904 < t.tmod 4611686018427387904 ∧ t.tmod 4611686018427387904 < 4611686018427387904 :=
  ⟨Int.lt_tmod_of_pos t (by decide), Int.tmod_lt_of_pos t (by decide)⟩

set_option maxRecDepth 100000 in
set_option maxHeartbeats 4000000 in
theorem same_any (gx gw : Nat) (c : LT) (t label : Int) (w : World) (h : c.at w gx) (h2 : c.rat w gw) (ok : c.ok) :
    Calls Try.prog 20 #[.pointer (some ⟨gx, 0, none⟩), .pointer (some ⟨gw, 0, none⟩), .int .i64 t, .int .i64 label] w fun e w' => e = .returned (.bool true) ∧ Stp [] w w' := by
  obtain ⟨t', ht⟩ : ∃ t', t.tmod 4611686018427387904 = t' := ⟨_, rfl⟩
  obtain ⟨lb, hlb⟩ : ∃ lb, label.tmod 4611686018427387904 = lb := ⟨_, rfl⟩
  have tb := tmod_bd t
  have lbb := tmod_bd label
  rw [ht] at tb
  rw [hlb] at lbb
  have H := Lib.hid (And.intro h (And.intro h2 ok))
  have TB := Lib.hid (And.intro tb lbb)
  have N1 := Lib.hid (fun (w' : World) (hs : Stp [] w w') => next_any gx c t' w' (h.stp hs) ok)
  have N2 := Lib.hid (fun (w' : World) (hs : Stp [] w w') => rnext_any gw c t' w' (h2.stp hs) ok)
  have L1 := Lib.hid (fun (w' : World) (hs : Stp [] w w') => label_any gx c t' w' (h.stp hs) ok (by omega))
  have L2 := Lib.hid (fun (w' : World) (hs : Stp [] w w') => rlabel_any gw c t' w' (h2.stp hs) ok (by omega))
  have O1 := Lib.hid (fun (w' : World) (hs : Stp [] w w') => offset_any gx c t' w' (h.stp hs) ok)
  have O2 := Lib.hid (fun (w' : World) (hs : Stp [] w w') => roffset_any gw c t' w' (h2.stp hs) ok)
  have B1 := Lib.hid (fun (w' : World) (hs : Stp [] w w') => bits_any gx c t' w' (h.stp hs) ok (by omega))
  have B2 := Lib.hid (fun (w' : World) (hs : Stp [] w w') => rbits_any gw c t' w' (h2.stp hs) ok (by omega))
  generalize nextS t' c.L = nx at *
  obtain ⟨p1, p2, p3⟩ := nx
  generalize labelS c.base c.L t' = la at *
  generalize insS t' c.L = ia at *
  generalize c.base + kS t' c.L = oa at *
  generalize bitsS c t' = ba at *
  clear h h2 ok tb lbb
  simp only at N1 N2
  go_enter Try.func20, Try.ntmps20
  go_wp2_with fail
  refine (L1.out _ (Stp.refl _ _)).mono ?_
  rintro e w1 ⟨rfl, s1⟩
  go_wp2_with fail
  refine (L2.out _ s1).mono ?_
  rintro e w2 ⟨rfl, rfl⟩
  go_wp2_with fail
  refine (N1.out _ s1).mono ?_
  rintro e w3 ⟨rfl, s3⟩
  have z3 := s1.trans s3
  clear s1 s3
  go_wp2_with fail
  have bp := Blk.new w3 34 #[.int .i64 p1, .int .i64 p2]
  have z3' := z3.alloc (.cells #[.int .i64 p1, .int .i64 p2] 34)
  refine (N2.out _ z3').mono ?_
  rintro e w4 ⟨rfl, s4⟩
  have z4 := z3'.trans s4
  have bp4 := bp.stp' s4
  have br := Blk.new w4 34 #[.int .i64 p1, .int .i64 p2]
  have bp5 := bp4.alloc (.cells #[.int .i64 p1, .int .i64 p2] 34)
  have z5 := z4.alloc (.cells #[.int .i64 p1, .int .i64 p2] 34)
  have BB := Lib.hid (And.intro bp5 br)
  clear z3 s4 z3' z4 bp bp4 bp5 br
  go_wp2_with fail
  refine (O1.out _ z5).mono ?_
  rintro e w6 ⟨rfl, s6⟩
  have z6 := z5.trans s6
  have hp := BB.out.1.stp' s6
  have hr := BB.out.2.stp' s6
  have p0 := hp.cell 0
  have p1' := hp.cell 1
  have r0 := hr.cell 0
  have r1' := hr.cell 1
  clear z5 s6 BB
  go_wp2_with fail
  refine (O2.out _ z6).mono ?_
  rintro e w7 ⟨rfl, rfl⟩
  go_wp2_with fail
  refine (B1.out _ z6).mono ?_
  rintro e w8 ⟨rfl, s8⟩
  have z8 := z6.trans s8
  clear s8 z6 hp hr
  go_wp2_with fail
  refine (B2.out _ z8).mono ?_
  rintro e w9 ⟨rfl, s9⟩
  have z9 := Lib.hid (z8.trans s9)
  clear s9 z8 p0 p1' r0 r1' N1 N2 L1 L2 O1 O2 B1 B2
  go_wp2_with fail
  go_loopw [17] (fun i wr => ∃ k : Int, 0 ≤ k ∧ k ≤ 2 ∧ i = .int .i64 k ∧ Stp [] w wr) (fun i _ => (2 - intOf i).toNat)
  case atStart => exact ⟨0, by decide, by decide, rfl, z9.out⟩
  case round =>
    obtain ⟨k, k0, k2, rfl, st⟩ := hrel
    by_cases hk : k < 2
    · obtain ⟨r, hr⟩ := even_has c lb (k == 1)
      have E1 := Lib.hid (fun (w' : World) (hs : Stp [] w w') => leven_any gx c lb (k == 1) r w' (H.out.1.stp hs) H.out.2.2 TB.out.2 hr)
      have E2 := Lib.hid (fun (w' : World) (hs : Stp [] w w') => reven_any gw c lb (k == 1) r w' (H.out.2.1.stp hs) H.out.2.2 TB.out.2 hr)
      obtain ⟨r1, r2⟩ := r
      simp only at E1 E2
      clear hr
      go_wp2_with fail
      refine (E1.out _ st).mono ?_
      rintro e v1 ⟨rfl, s1⟩
      have st1 := st.trans s1
      go_wp2_with fail
      refine (E2.out _ st1).mono ?_
      rintro e v2 ⟨rfl, rfl⟩
      go_wp2_with fail
      go_roundw
      case rel => exact ⟨k + 1, by omega, by omega, by go_num, st1⟩
      case measure => simp [intOf]; omega
    · go_wp2_with fail
      go_ret
      exact ⟨rfl, st⟩
end Go.Proofs.Ytkdpndoamepcbaa
