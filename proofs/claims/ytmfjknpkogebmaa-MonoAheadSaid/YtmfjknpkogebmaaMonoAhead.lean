/- MonoAhead: the time ahead of a clock that any calls have moved. -/
import Derived.Test.YtmfjknpkogebmaaMonoY
import Derived.Test.YtmfjknpkogebmaaMonoUntil
namespace Go.Proofs.Ytmfjknpkogebmaa
open Go.RowKit
set_option linter.unusedVariables false
set_option linter.unusedSimpArgs false
theorem MS.at_stp {c : MS} {w w' : World} {g : Nat} {G : List Nat} (h : c.at w g) (hs : Stp G w w') (hg : g ∉ G) : c.at w' g := hs.at h hg
theorem Stp.of_drew {G : List Nat} {w w' : World} (h : Stp G w.drew w') : Stp G w w' := ⟨h.os, h.tape, h.output, h.size, h.block⟩
theorem MS.rat_out {c : MS} {w w' : World} {g : Nat} {G : List Nat} (h : c.rat w g) (hs : Stp G w w') (hg : g ∉ G) : c.rat w' g := hs.at h hg

theorem setrate_badA (g : Nat) (s : MS) (d : Int) (w : World) (h : s.at w g) (hd : -9223372036854775808 ≤ d ∧ d ≤ 9223372036854775807) (hs : ¬ (-500000 ≤ d ∧ d ≤ 500000)) :
    Calls Try.prog 12 #[.pointer (some ⟨g, 0, none⟩), .int .i64 d] w fun e w' => e = .returned (.int .i64 1) ∧ s.at w' g ∧ Stp [g] w w' :=
  (setrate_bad g s d w h hd hs).mono fun e w' q => ⟨q.1, by rw [q.2]; exact h, by rw [q.2]; exact Stp.refl _ _⟩
theorem rsetrate_badA (g : Nat) (s : MS) (d : Int) (w : World) (h : s.rat w g) (hs : ¬ (-500000 ≤ d ∧ d ≤ 500000)) :
    Calls Try.prog 20 #[.pointer (some ⟨g, 0, none⟩), .int .i64 d] w fun e w' => e = .returned (.int .i64 1) ∧ s.rat w' g ∧ Stp [g] w w' :=
  (rsetrate_bad g s d w h hs).mono fun e w' q => ⟨q.1, by rw [q.2]; exact h, by rw [q.2]; exact Stp.refl _ _⟩


theorem rreached_is (b : Bool) (g : Nat) (c : MS) (m d : Int) (w : World) (h : c.rat w g) (ok : c.ok) (hd : 0 ≤ d ∧ d ≤ 1125899906842624) (hb : decide (m ≤ c.mono + c.gain d) = b) :
    Calls Try.prog 22 #[.pointer (some ⟨g, 0, none⟩), .int .i64 m, .int .i64 d] w fun e w' => e = .returned (.bool b) ∧ Stp [] w w' := by
  subst hb; exact rreached_any g c m d w h ok hd

set_option maxRecDepth 100000 in
set_option maxHeartbeats 4000000 in
theorem monoAhead_walk (A : Option Addr) (n c : Nat) (l : List (Int × Int)) (at0 : Int) (w : World)
    (hr : Reads w w.heap.size 2 A n (l.flatMap fun t => [.int .i64 t.1, .int .i64 t.2])) (hl : l.length = n) (hn : n * 16 ≤ 140737488351232) (hw : ∀ t ∈ l, (-9223372036854775808 ≤ t.1 ∧ t.1 ≤ 9223372036854775807) ∧ (-9223372036854775808 ≤ t.2 ∧ t.2 ≤ 9223372036854775807)) (hat : -9223372036854775808 ≤ at0 ∧ at0 ≤ 9223372036854775807) :
    Calls Try.prog 7 #[.slice A n c, .int .i64 at0] w fun e w' => e = .returned (.bool true) ∧ Stp [] w w' := by
  have hr' : Reads w w.heap.size 2 A n (pcells l) := hr
  have D := Lib.hid (And.intro hr' (And.intro hl hw))
  clear hr hr' hl hw
  obtain ⟨ha0, ha1⟩ := hat
  go_enter Try.func7, Try.ntmps7
  go_wp2_with fail
  refine (new_any _).mono ?_
  rintro e w1 ⟨ga, rfl, a1, s1, hga⟩
  obtain ⟨gr, hgr⟩ : ∃ gr, gr = w1.heap.size := ⟨_, rfl⟩
  have hlt1 := lt_of_at a1
  have rb : MS.new.rat (w1.alloc (.cells #[.int .i64 0, .int .i64 0, .int .i64 0, .int .i64 0, .bool false] 39)) gr := by rw [hgr]; exact new_at w1 _
  have sz1 := s1.size
  have S0 := Lib.hid (show MS.new.at (w1.alloc (.cells #[.int .i64 0, .int .i64 0, .int .i64 0, .int .i64 0, .bool false] 39)) ga ∧ MS.new.rat (w1.alloc (.cells #[.int .i64 0, .int .i64 0, .int .i64 0, .int .i64 0, .bool false] 39)) gr ∧ MS.new.ok ∧ w.heap.size ≤ ga ∧ ga ≠ gr ∧ Stp [] w (w1.alloc (.cells #[.int .i64 0, .int .i64 0, .int .i64 0, .int .i64 0, .bool false] 39)) from
    ⟨MS.at_stp a1 ((Stp.refl [] w1).alloc _) (by simp), rb, MS.new_ok, hga, by omega, s1.alloc _⟩)
  have hgr0 : w.heap.size ≤ gr := by omega
  clear a1 s1 rb sz1 hlt1
  go_wp2_with fail
  rw [← hgr]
  clear hgr
  have hgn : ga ≠ gr := S0.out.2.2.2.2.1
  have hg : w.heap.size ≤ ga := S0.out.2.2.2.1
  have S1 := Lib.hid (And.intro S0.out.1 (And.intro S0.out.2.1 (And.intro S0.out.2.2.1 S0.out.2.2.2.2.2)))
  clear S0 hga
  go_loopw [16] (fun i wr => ∃ (k : Nat) (s : MS), k ≤ n ∧ k ≤ 30 ∧ i = .int .i64 k ∧ Hid (s.at wr ga ∧ s.rat wr gr ∧ s.ok ∧ Stp [] w wr)) (fun i _ => n - (intOf i).toNat)
  case atStart => exact ⟨0, MS.new, by omega, by omega, rfl, S1⟩
  case round =>
    obtain ⟨k, s, hk, hk30, rfl, H⟩ := hrel
    clear S1
    by_cases hlt : k < n
    · obtain ⟨b, off, rfl, hbb, hcell⟩ := D.out.1.form (by omega) (by omega)
      have hkl : k < l.length := by rw [D.out.2.1]; exact hlt
      have hx := pcells_get l k hkl
      have hx1 : wr.cell? ⟨b, off + k * 2, none⟩ = some (.int .i64 l[k].1) := H.out.2.2.2.cell (hcell _ _ hx.1) (by simp)
      have hx2 : wr.cell? ⟨b, off + k * 2 + 1, none⟩ = some (.int .i64 l[k].2) := H.out.2.2.2.cell (hcell _ _ hx.2) (by simp)
      have hwk := D.out.2.2 l[k] (List.getElem_mem _)
      clear hx hcell
      generalize l[k] = t at *
      obtain ⟨what, d⟩ := t
      simp only at hx1 hx2 hwk
      obtain ⟨⟨w0, w1'⟩, d0, d1⟩ := hwk
      by_cases h30 : k = 30
      · subst h30
        clear D
        skip
        go_wp2_with fail
        have AT := MS.at_stp H.out.1 ((Stp.refl [] wr).alloc (.cells #[.int .i64 what, .int .i64 d] 34)) (by simp)
        have RT := MS.rat_stp H.out.2.1 ((Stp.refl [] wr).alloc (.cells #[.int .i64 what, .int .i64 d] 34))
        have OK := H.out.2.2.1
        have TT := H.out.2.2.2.alloc (.cells #[.int .i64 what, .int .i64 d] 34)
        clear H
        by_cases hf : s.full = true
        · as_aux_lemma =>
          go_wp2_with fail
          refine (until_full ga s at0 _ AT hf).mono ?_
          rintro e v1 ⟨rfl, s1⟩
          obtain ⟨r0, r1, r2, r3, r4⟩ := rs_cells (MS.rat_stp RT s1)
          rw [hf] at r4
          clear hf
          go_wp2_with fail
          refine (awake_any _).mono ?_
          rintro e v2 ⟨rfl, s2⟩
          go_wp2_with fail
          go_ret
          exact ⟨rfl, (TT.trans s1).trans s2⟩
        · have hf' : s.full = false := by simpa using hf
          clear hf
          rcases Int.lt_or_le s.mono at0 with hlt0 | hz
          · by_cases hn : s.gain 1125899906842624 < at0 - s.mono
            · as_aux_lemma =>
              go_wp2_with fail
              refine (until_no ga s at0 _ AT OK hf' ⟨hlt0, ha1⟩ hn).mono ?_
              rintro e v1 ⟨rfl, s1⟩
              have RT1 := MS.rat_stp RT s1
              obtain ⟨r0, r1, r2, r3, r4⟩ := rs_cells RT1
              rw [hf'] at r4
              have N1 := Lib.hid (show decide (at0 ≤ s.mono + s.gain 1125899906842624) = false from decide_eq_false (by omega))
              clear hf' hn hlt0
              go_wp2_with fail
              refine (awake_any _).mono ?_
              rintro e v2 ⟨rfl, s2⟩
              have RT2 := MS.rat_stp RT1 s2
              go_wp2_with fail
              refine (rreached_is false gr s at0 1125899906842624 _ RT2 OK (by decide) N1.out).mono ?_
              rintro e v3 ⟨rfl, s3⟩
              go_wp2_with fail
              go_ret
              exact ⟨rfl, ((TT.trans s1).trans s2).trans s3⟩
            · as_aux_lemma =>
              go_wp2_with fail
              refine (until_yes ga s at0 _ AT OK hf' ⟨hlt0, ha1⟩ (by omega)).mono ?_
              rintro e v1 ⟨x, rfl, x0, x1, x2, x3, s1⟩
              have RT1 := MS.rat_stp RT s1
              obtain ⟨r0, r1, r2, r3, r4⟩ := rs_cells RT1
              rw [hf'] at r4
              have N1 := Lib.hid (show decide (at0 ≤ s.mono + s.gain x) = true from decide_eq_true (by omega))
              have N2 := Lib.hid (show decide (at0 ≤ s.mono + s.gain (x - 1)) = false from decide_eq_false (by omega))
              have hx0 : (x == 0) = false := by simp; omega
              clear hf' hn hlt0 x2 x3
              go_wp2_with fail
              refine (awake_any _).mono ?_
              rintro e v2 ⟨rfl, s2⟩
              have RT2 := MS.rat_stp RT1 s2
              go_wp2_with fail
              refine (rreached_is true gr s at0 x _ RT2 OK ⟨by omega, by omega⟩ N1.out).mono ?_
              rintro e v3 ⟨rfl, s3⟩
              have RT3 := MS.rat_stp RT2 s3
              go_wp2_with fail
              refine (rreached_is false gr s at0 (x - 1) _ RT3 OK ⟨by omega, by omega⟩ N2.out).mono ?_
              rintro e v4 ⟨rfl, s4⟩
              go_wp2_with fail
              go_ret
              exact ⟨rfl, (((TT.trans s1).trans s2).trans s3).trans s4⟩
          · as_aux_lemma =>
            go_wp2_with fail
            refine (until_past ga s at0 _ AT hf' hz).mono ?_
            rintro e v1 ⟨rfl, s1⟩
            have RT1 := MS.rat_stp RT s1
            obtain ⟨r0, r1, r2, r3, r4⟩ := rs_cells RT1
            rw [hf'] at r4
            have N1 := Lib.hid (show decide (at0 ≤ s.mono + s.gain 0) = true from decide_eq_true (by have := (gain_bd OK (d := 0) (by decide) (by decide)).1; omega))
            clear hf' hz
            go_wp2_with fail
            refine (awake_any _).mono ?_
            rintro e v2 ⟨rfl, s2⟩
            have RT2 := MS.rat_stp RT1 s2
            go_wp2_with fail
            refine (rreached_is true gr s at0 0 _ RT2 OK (by decide) N1.out).mono ?_
            rintro e v3 ⟨rfl, s3⟩
            go_wp2_with fail
            go_ret
            exact ⟨rfl, ((TT.trans s1).trans s2).trans s3⟩
      · have h30' : ((k : Int) == 30) = false := by simp; omega
        have hk29 : k < 30 := by omega
        clear h30
        have AT1 := MS.at_stp H.out.1 ((Stp.refl [] wr).alloc (.cells #[.int .i64 what, .int .i64 d] 34)) (by simp)
        have RT1 := MS.rat_stp H.out.2.1 ((Stp.refl [] wr).alloc (.cells #[.int .i64 what, .int .i64 d] 34))
        have OK := H.out.2.2.1
        have TT := H.out.2.2.2.alloc (.cells #[.int .i64 what, .int .i64 d] 34)
        have bA := Blk.new wr 34 #[.int .i64 what, .int .i64 d]
        have glt := lt_of_at H.out.1
        have grlt := lt_of_at H.out.2.1
        clear H
        generalize hW : wr.alloc (.cells #[.int .i64 what, .int .i64 d] 34) = W at *
        have HW := Lib.hid hW
        clear hW
        have hsW := TT.size
        have AB : Hid (∀ G w', Stp G W w' → wr.heap.size ∉ G → w'.cell? ⟨wr.heap.size, 0, none⟩ = some (.int .i64 what) ∧ w'.cell? ⟨wr.heap.size, 1, none⟩ = some (.int .i64 d)) := fun G w' hs hn => ⟨hs.cell (bA.cell 0) hn, hs.cell (bA.cell 1) hn⟩
        obtain ⟨q0, q1⟩ := AB.out [] W (Stp.refl _ _) (by simp)
        clear bA D
        by_cases h1 : what = 1
        · by_cases hs : -500000 ≤ d ∧ d ≤ 500000
          · as_aux_lemma =>
              have h1b : (what == 1) = true := by simp [h1]
              clear h1
              go_wp2_with fail
              rw [HW.out]
              go_wp2_with fail
              refine (setrate_any ga s d _ (by exact AT1) ⟨d0, d1⟩ hs).mono ?_
              rintro e v1 ⟨rfl, a5, s5⟩
              have RT5 := MS.rat_out RT1 s5 (by simp; omega)
              obtain ⟨p0, p1⟩ := AB.out _ _ s5 (by simp; omega)
              go_wp2_with fail
              refine (rsetrate_any gr s d _ RT5 hs).mono ?_
              rintro e v2 ⟨rfl, R9, s6⟩
              have A9 := MS.at_stp a5 s6 (by simp; omega)
              have T9 := (TT.far s5 (.inr hg)).far s6 (.inr hgr0)
              have ok2 : (MS.mk s.raw s.mono d s.rest s.full).ok := ⟨OK.raw0, OK.raw1, OK.mono0, OK.mono1, hs.1, hs.2, OK.rest0, OK.rest1⟩
              go_wp2_with fail
              all_goals go_roundw
              all_goals first
                | exact ⟨k + 1, (MS.mk s.raw s.mono d s.rest s.full), by omega, by omega, by go_num, (by exact ⟨A9, R9, ok2, T9⟩)⟩
                | (simp [intOf]; omega)
          · as_aux_lemma =>
              have h1b : (what == 1) = true := by simp [h1]
              clear h1
              go_wp2_with fail
              rw [HW.out]
              go_wp2_with fail
              refine (setrate_badA ga s d _ (by exact AT1) ⟨d0, d1⟩ hs).mono ?_
              rintro e v1 ⟨rfl, a5, s5⟩
              have RT5 := MS.rat_out RT1 s5 (by simp; omega)
              obtain ⟨p0, p1⟩ := AB.out _ _ s5 (by simp; omega)
              go_wp2_with fail
              refine (rsetrate_badA gr s d _ RT5 hs).mono ?_
              rintro e v2 ⟨rfl, R9, s6⟩
              have A9 := MS.at_stp a5 s6 (by simp; omega)
              have T9 := (TT.far s5 (.inr hg)).far s6 (.inr hgr0)
              have ok2 : s.ok := OK
              go_wp2_with fail
              all_goals go_roundw
              all_goals first
                | exact ⟨k + 1, s, by omega, by omega, by go_num, (by exact ⟨A9, R9, ok2, T9⟩)⟩
                | (simp [intOf]; omega)
        · as_aux_lemma =>
            have h1b : (what == 1) = false := by simp [h1]
            clear h1
            have G1 := Lib.hid (go_any ga s d _ AT1 OK ⟨d0, d1⟩)
            have G2 := Lib.hid (fun (w' : World) (hr : s.rat w' gr) => rgo_any gr s d w' hr OK ⟨d0, d1⟩)
            have ok2 := MS.go_ok OK d
            generalize s.go d = q at *
            obtain ⟨qn, qe, s2⟩ := q
            simp only at G1 G2 ok2
            go_wp2_with fail
            rw [HW.out]
            go_wp2_with fail
            refine G1.out.mono ?_
            rintro e v1 ⟨rfl, a5, s5⟩
            have RT5 := MS.rat_out RT1 s5 (by simp; omega)
            obtain ⟨p0, p1⟩ := AB.out _ _ s5 (by simp; omega)
            go_wp2_with fail
            refine (G2.out _ RT5).mono ?_
            rintro e v2 ⟨rfl, R9, s6⟩
            have A9 := MS.at_stp a5 s6 (by simp; omega)
            have T9 := (TT.far s5 (.inr hg)).far s6 (.inr hgr0)
            go_wp2_with fail
            all_goals go_roundw
            all_goals first
              | exact ⟨k + 1, s2, by omega, by omega, by go_num, (by exact ⟨A9, R9, ok2, T9⟩)⟩
              | (simp [intOf]; omega)
    · obtain rfl : k = n := by omega
      clear D
      have AT := H.out.1
      have RT := H.out.2.1
      have OK := H.out.2.2.1
      have TT := H.out.2.2.2
      clear H
      by_cases hf : s.full = true
      · as_aux_lemma =>
        go_wp2_with fail
        refine (until_full ga s at0 _ AT hf).mono ?_
        rintro e v1 ⟨rfl, s1⟩
        obtain ⟨r0, r1, r2, r3, r4⟩ := rs_cells (MS.rat_stp RT s1)
        rw [hf] at r4
        clear hf
        go_wp2_with fail
        refine (awake_any _).mono ?_
        rintro e v2 ⟨rfl, s2⟩
        go_wp2_with fail
        go_ret
        exact ⟨rfl, (TT.trans s1).trans s2⟩
      · have hf' : s.full = false := by simpa using hf
        clear hf
        rcases Int.lt_or_le s.mono at0 with hlt0 | hz
        · by_cases hn : s.gain 1125899906842624 < at0 - s.mono
          · as_aux_lemma =>
            go_wp2_with fail
            refine (until_no ga s at0 _ AT OK hf' ⟨hlt0, ha1⟩ hn).mono ?_
            rintro e v1 ⟨rfl, s1⟩
            have RT1 := MS.rat_stp RT s1
            obtain ⟨r0, r1, r2, r3, r4⟩ := rs_cells RT1
            rw [hf'] at r4
            have N1 := Lib.hid (show decide (at0 ≤ s.mono + s.gain 1125899906842624) = false from decide_eq_false (by omega))
            clear hf' hn hlt0
            go_wp2_with fail
            refine (awake_any _).mono ?_
            rintro e v2 ⟨rfl, s2⟩
            have RT2 := MS.rat_stp RT1 s2
            go_wp2_with fail
            refine (rreached_is false gr s at0 1125899906842624 _ RT2 OK (by decide) N1.out).mono ?_
            rintro e v3 ⟨rfl, s3⟩
            go_wp2_with fail
            go_ret
            exact ⟨rfl, ((TT.trans s1).trans s2).trans s3⟩
          · as_aux_lemma =>
            go_wp2_with fail
            refine (until_yes ga s at0 _ AT OK hf' ⟨hlt0, ha1⟩ (by omega)).mono ?_
            rintro e v1 ⟨x, rfl, x0, x1, x2, x3, s1⟩
            have RT1 := MS.rat_stp RT s1
            obtain ⟨r0, r1, r2, r3, r4⟩ := rs_cells RT1
            rw [hf'] at r4
            have N1 := Lib.hid (show decide (at0 ≤ s.mono + s.gain x) = true from decide_eq_true (by omega))
            have N2 := Lib.hid (show decide (at0 ≤ s.mono + s.gain (x - 1)) = false from decide_eq_false (by omega))
            have hx0 : (x == 0) = false := by simp; omega
            clear hf' hn hlt0 x2 x3
            go_wp2_with fail
            refine (awake_any _).mono ?_
            rintro e v2 ⟨rfl, s2⟩
            have RT2 := MS.rat_stp RT1 s2
            go_wp2_with fail
            refine (rreached_is true gr s at0 x _ RT2 OK ⟨by omega, by omega⟩ N1.out).mono ?_
            rintro e v3 ⟨rfl, s3⟩
            have RT3 := MS.rat_stp RT2 s3
            go_wp2_with fail
            refine (rreached_is false gr s at0 (x - 1) _ RT3 OK ⟨by omega, by omega⟩ N2.out).mono ?_
            rintro e v4 ⟨rfl, s4⟩
            go_wp2_with fail
            go_ret
            exact ⟨rfl, (((TT.trans s1).trans s2).trans s3).trans s4⟩
        · as_aux_lemma =>
          go_wp2_with fail
          refine (until_past ga s at0 _ AT hf' hz).mono ?_
          rintro e v1 ⟨rfl, s1⟩
          have RT1 := MS.rat_stp RT s1
          obtain ⟨r0, r1, r2, r3, r4⟩ := rs_cells RT1
          rw [hf'] at r4
          have N1 := Lib.hid (show decide (at0 ≤ s.mono + s.gain 0) = true from decide_eq_true (by have := (gain_bd OK (d := 0) (by decide) (by decide)).1; omega))
          clear hf' hz
          go_wp2_with fail
          refine (awake_any _).mono ?_
          rintro e v2 ⟨rfl, s2⟩
          have RT2 := MS.rat_stp RT1 s2
          go_wp2_with fail
          refine (rreached_is true gr s at0 0 _ RT2 OK (by decide) N1.out).mono ?_
          rintro e v3 ⟨rfl, s3⟩
          go_wp2_with fail
          go_ret
          exact ⟨rfl, ((TT.trans s1).trans s2).trans s3⟩
end Go.Proofs.Ytmfjknpkogebmaa
