/- MonoPlays: rows of calls are answered as the document says; for any calls. -/
import Derived.Test.YtmfjknpkogebmaaMonoY
namespace Go.Proofs.Ytmfjknpkogebmaa
open Go.RowKit
set_option linter.unusedVariables false
set_option linter.unusedSimpArgs false

theorem MS.at_stp {c : MS} {w w' : World} {g : Nat} {G : List Nat} (h : c.at w g) (hs : Stp G w w') (hg : g ∉ G) : c.at w' g := hs.at h hg
theorem Stp.of_drew {G : List Nat} {w w' : World} (h : Stp G w.drew w') : Stp G w w' := ⟨h.os, h.tape, h.output, h.size, h.block⟩
theorem MS.rat_out {c : MS} {w w' : World} {g : Nat} {G : List Nat} (h : c.rat w g) (hs : Stp G w w') (hg : g ∉ G) : c.rat w' g := hs.at h hg

theorem setrate_badA (g : Nat) (s : MS) (d : Int) (w : World) (h : s.at w g) (hd : -9223372036854775808 ≤ d ∧ d ≤ 9223372036854775807) (hs : ¬ (-500000 ≤ d ∧ d ≤ 500000)) :
    Calls Try.prog 12 #[.pointer (some ⟨g, 0, none⟩), .int .i64 d] w fun e w' => e = .returned (.int .i64 1) ∧ s.at w' g ∧ Stp [g] w w' :=
  (setrate_bad g s d w h hd hs).mono fun e w' q => ⟨q.1, by rw [q.2]; exact h, by rw [q.2]; exact Stp.refl _ _⟩
theorem rsetrate_badA (g : Nat) (s : MS) (d : Int) (w : World) (h : s.rat w g) (hs : ¬ (-500000 ≤ d ∧ d ≤ 500000)) :
    Calls Try.prog 20 #[.pointer (some ⟨g, 0, none⟩), .int .i64 d] w fun e w' => e = .returned (.int .i64 1) ∧ s.rat w' g ∧ Stp [g] w w' :=
  (rsetrate_bad g s d w h hs).mono fun e w' q => ⟨q.1, by rw [q.2]; exact h, by rw [q.2]; exact Stp.refl _ _⟩

set_option maxRecDepth 100000 in
set_option maxHeartbeats 4000000 in
theorem monoPlays_walk (A : Option Addr) (n c : Nat) (l : List (Int × Int)) (w : World)
    (hr : Reads w w.heap.size 2 A n (l.flatMap fun t => [.int .i64 t.1, .int .i64 t.2])) (hl : l.length = n) (hn : n * 16 ≤ 140737488351232) (hw : ∀ t ∈ l, (-9223372036854775808 ≤ t.1 ∧ t.1 ≤ 9223372036854775807) ∧ (-9223372036854775808 ≤ t.2 ∧ t.2 ≤ 9223372036854775807)) :
    Calls Try.prog 6 #[.slice A n c] w fun e w' => e = .returned (.bool true) ∧ Stp [] w w' := by
  have hr' : Reads w w.heap.size 2 A n (pcells l) := hr
  have D := Lib.hid (And.intro hr' (And.intro hl hw))
  clear hr hr' hl hw
  go_enter Try.func6, Try.ntmps6
  go_wp2_with fail
  refine (new_any _).mono ?_
  rintro e w1 ⟨ga, rfl, a1, s1, hga⟩
  obtain ⟨gr, hgr⟩ : ∃ gr, gr = w1.heap.size := ⟨_, rfl⟩
  have hlt1 := lt_of_at a1
  have rb : MS.new.rat (w1.alloc (.cells #[.int .i64 0, .int .i64 0, .int .i64 0, .int .i64 0, .bool false] 39)) gr := by rw [hgr]; exact new_at w1 _
  have sz1 := s1.size
  have S0 := Lib.hid (show MS.new.at (w1.alloc (.cells #[.int .i64 0, .int .i64 0, .int .i64 0, .int .i64 0, .bool false] 39)) ga ∧ MS.new.rat (w1.alloc (.cells #[.int .i64 0, .int .i64 0, .int .i64 0, .int .i64 0, .bool false] 39)) gr ∧ MS.new.ok ∧ w.heap.size ≤ ga ∧ ga ≠ gr ∧ Stp [] w (w1.alloc (.cells #[.int .i64 0, .int .i64 0, .int .i64 0, .int .i64 0, .bool false] 39)) from
    ⟨MS.at_stp a1 ((Stp.refl [] w1).alloc _) (by simp), rb, MS.new_ok, hga, by omega, s1.alloc _⟩)
  have hgr0 : w.heap.size ≤ gr := by omega
  clear a1 s1 rb sz1 hlt1
  go_wp2_with fail
  rw [← hgr]
  clear hgr
  go_loopw [3, 17] (fun cv i wr => ∃ (k g : Nat) (s : MS), k ≤ n ∧ k ≤ 60 ∧ i = .int .i64 k ∧ cv = .pointer (some ⟨g, 0, none⟩) ∧ Hid (s.at wr g ∧ s.rat wr gr ∧ s.ok ∧ w.heap.size ≤ g ∧ g ≠ gr ∧ Stp [] w wr)) (fun _ i _ => n - (intOf i).toNat)
  case atStart => exact ⟨0, ga, MS.new, by omega, by omega, rfl, rfl, S0⟩
  case round =>
    obtain ⟨k, g, s, hk, hk60, rfl, rfl, H⟩ := hrel
    clear S0
    by_cases hlt : k < n
    · obtain ⟨b, off, rfl, hbb, hcell⟩ := D.out.1.form (by omega) (by omega)
      have hkl : k < l.length := by rw [D.out.2.1]; exact hlt
      have hx := pcells_get l k hkl
      have hx1 : wr.cell? ⟨b, off + k * 2, none⟩ = some (.int .i64 l[k].1) := H.out.2.2.2.2.2.cell (hcell _ _ hx.1) (by simp)
      have hx2 : wr.cell? ⟨b, off + k * 2 + 1, none⟩ = some (.int .i64 l[k].2) := H.out.2.2.2.2.2.cell (hcell _ _ hx.2) (by simp)
      have hwk := D.out.2.2 l[k] (List.getElem_mem _)
      clear hx hcell
      generalize l[k] = t at *
      obtain ⟨what, d⟩ := t
      simp only at hx1 hx2 hwk
      obtain ⟨⟨w0, w1'⟩, d0, d1⟩ := hwk
      by_cases h60 : k = 60
      · subst h60
        clear D
        go_wp2_with fail
        refine (awake_any _).mono ?_
        rintro e w4 ⟨rfl, s4⟩
        go_wp2_with fail
        go_ret
        exact ⟨rfl, by first | exact (H.out.2.2.2.2.2.alloc _).trans s4 | exact H.out.2.2.2.2.2.trans s4⟩
      · have h60' : ((k : Int) == 60) = false := by simp; omega
        have hk59 : k < 60 := by omega
        clear h60
        have AT1 := MS.at_stp H.out.1 ((Stp.refl [] wr).alloc (.cells #[.int .i64 what, .int .i64 d] 34)) (by simp)
        have RT1 := MS.rat_stp H.out.2.1 ((Stp.refl [] wr).alloc (.cells #[.int .i64 what, .int .i64 d] 34))
        have OK := H.out.2.2.1
        have hg := H.out.2.2.2.1
        have hne := H.out.2.2.2.2.1
        have TT := H.out.2.2.2.2.2.alloc (.cells #[.int .i64 what, .int .i64 d] 34)
        have bA := Blk.new wr 34 #[.int .i64 what, .int .i64 d]
        have glt := lt_of_at H.out.1
        have grlt := lt_of_at H.out.2.1
        clear H
        generalize hW : wr.alloc (.cells #[.int .i64 what, .int .i64 d] 34) = W at *
        have HW := Lib.hid hW
        clear hW
        have hsW := TT.size
        have AB : Hid (∀ G w', Stp G W w' → wr.heap.size ∉ G → w'.cell? ⟨wr.heap.size, 0, none⟩ = some (.int .i64 what) ∧ w'.cell? ⟨wr.heap.size, 1, none⟩ = some (.int .i64 d)) := fun G w' hs hn => ⟨hs.cell (bA.cell 0) hn, hs.cell (bA.cell 1) hn⟩
        obtain ⟨q0, q1⟩ := AB.out [] W (Stp.refl _ _) (by simp)
        clear bA
        by_cases h0 : what = 0
        · as_aux_lemma =>
            have h0b : (what == 0) = true := by simp [h0]
            clear h0
            have G1 := Lib.hid (go_any g s d W AT1 OK ⟨d0, d1⟩)
            have G2 := Lib.hid (fun (w' : World) (hr : s.rat w' gr) => rgo_any gr s d w' hr OK ⟨d0, d1⟩)
            have ok2 := MS.go_ok OK d
            generalize s.go d = q at *
            obtain ⟨qn, qe, s2⟩ := q
            simp only at G1 G2 ok2
            go_wp2_with fail
            rw [HW.out]
            go_wp2_with fail
            refine G1.out.mono ?_
            rintro e v1 ⟨rfl, a5, s5⟩
            have rt5 := MS.rat_out RT1 s5 (by simp; omega)
            obtain ⟨p0, p1⟩ := AB.out _ _ s5 (by simp; omega)
            go_wp2_with fail
            refine (G2.out _ rt5).mono ?_
            rintro e v2 ⟨rfl, R9, s6⟩
            have A9 := MS.at_stp a5 s6 (by simpa using hne)
            have T9 := (TT.far s5 (.inr hg)).far s6 (.inr hgr0)
            clear G1 G2 a5 s5 s6 rt5 AT1 RT1 TT AB p0 p1 q0 q1
            have HA := A9
            have HAn : ∀ n, (s2).at (v2.drewN n) g := fun _ => A9
            obtain ⟨r0, r1, r2, r3, r4⟩ := rs_cells R9
            have Z9 := Lib.hid (And.intro A9 (And.intro R9 T9))
            clear A9 R9 T9
            go_wp2_with (first | (go_at_call 14; (with_reducible refine (mono_any g _ _ HA).mono ?_); rintro e v9 ⟨rfl, rfl⟩) | (go_at_call 14; (with_reducible refine (mono_any g _ _ (HAn _)).mono ?_); rintro e v9 ⟨rfl, rfl⟩) | (go_at_call 15; (with_reducible refine (raw_any g _ _ HA).mono ?_); rintro e v9 ⟨rfl, rfl⟩) | (go_at_call 15; (with_reducible refine (raw_any g _ _ (HAn _)).mono ?_); rintro e v9 ⟨rfl, rfl⟩) | (go_at_call 17; (with_reducible refine (rate_any g _ _ HA).mono ?_); rintro e v9 ⟨rfl, rfl⟩) | (go_at_call 17; (with_reducible refine (rate_any g _ _ (HAn _)).mono ?_); rintro e v9 ⟨rfl, rfl⟩) | (go_at_call 16; (with_reducible refine (full_any g _ _ HA).mono ?_); rintro e v9 ⟨rfl, rfl⟩) | (go_at_call 16; (with_reducible refine (full_any g _ _ (HAn _)).mono ?_); rintro e v9 ⟨rfl, rfl⟩) | (go_quiet (first | (go_at_call 14; with_reducible exact Calls.quiet_of_same (mono_any g _ _ HA)) | (go_at_call 14; with_reducible exact quiet_add_same (mono_any g _ _ HA)) | (go_at_call 14; with_reducible exact Calls.quiet_of_same (mono_any g _ _ (HAn _))) | (go_at_call 14; with_reducible exact quiet_add_same (mono_any g _ _ (HAn _))) | (go_at_call 15; with_reducible exact Calls.quiet_of_same (raw_any g _ _ HA)) | (go_at_call 15; with_reducible exact quiet_add_same (raw_any g _ _ HA)) | (go_at_call 15; with_reducible exact Calls.quiet_of_same (raw_any g _ _ (HAn _))) | (go_at_call 15; with_reducible exact quiet_add_same (raw_any g _ _ (HAn _))) | (go_at_call 17; with_reducible exact Calls.quiet_of_same (rate_any g _ _ HA)) | (go_at_call 17; with_reducible exact quiet_add_same (rate_any g _ _ HA)) | (go_at_call 17; with_reducible exact Calls.quiet_of_same (rate_any g _ _ (HAn _))) | (go_at_call 17; with_reducible exact quiet_add_same (rate_any g _ _ (HAn _))) | (go_at_call 16; with_reducible exact Calls.quiet_of_same (full_any g _ _ HA)) | (go_at_call 16; with_reducible exact quiet_add_same (full_any g _ _ HA)) | (go_at_call 16; with_reducible exact Calls.quiet_of_same (full_any g _ _ (HAn _))) | (go_at_call 16; with_reducible exact quiet_add_same (full_any g _ _ (HAn _))))))
            all_goals go_roundw
            all_goals first
              | exact ⟨k + 1, g, _, by omega, by omega, by go_num, rfl, (by exact ⟨Z9.out.1, Z9.out.2.1, ok2, hg, hne, Z9.out.2.2.drewN _⟩)⟩
              | exact ⟨k + 1, g, _, by omega, by omega, by go_num, rfl, (by exact ⟨Z9.out.1, Z9.out.2.1, ok2, hg, hne, Z9.out.2.2⟩)⟩
              | (simp [intOf]; omega)
        · by_cases h1 : what = 1
          · by_cases hs : -500000 ≤ d ∧ d ≤ 500000
            · as_aux_lemma =>
                have AT1d : s.at W.drew g := AT1
                have h0b : (what == 0) = false := by simp [h0]
                have h1b : (what == 1) = true := by simp [h1]
                clear h0 h1
                go_wp2_with fail
                rw [HW.out]
                go_wp2_with fail
                go_region_held3 (fun w' => w'.cell? ⟨wr.heap.size, 1, none⟩ = some (.int .i64 d))
                  (first | go_keep | exact q1 | exact (AB.out [g] v1 s5' (by simp; omega)).2 | exact (Stp.cell s6 (AB.out [g] v1 s5' (by simp; omega)).2 (by simp; omega)))
                  (first
                    | (go_at_call 12; (with_reducible refine (setrate_any g s d _ (by first | exact AT1 | exact AT1d) ⟨d0, d1⟩ hs).mono ?_); rintro e v1 ⟨rfl, a5, s5⟩; have s5' : Stp [g] W v1 := (by first | exact s5 | exact s5.of_drew))
                    | (go_at_call 20; (with_reducible refine (rsetrate_any gr s d _ (MS.rat_out RT1 s5' (by simp; omega)) hs).mono ?_); rintro e v2 ⟨rfl, R9, s6⟩))
                all_goals
                  have s6' : Stp [gr] v1 v2 := by first | exact s6 | exact s6.of_drew
                  have A9 := MS.at_stp a5 s6' (by simpa using hne)
                  have T9 := (TT.far s5' (.inr hg)).far s6' (.inr hgr0)
                  have ok2 : (MS.mk s.raw s.mono d s.rest s.full).ok := ⟨OK.raw0, OK.raw1, OK.mono0, OK.mono1, hs.1, hs.2, OK.rest0, OK.rest1⟩
                  clear a5 s5 s6 s5' s6' AT1 RT1 TT AB q0 q1
                  have HA := A9
                  have HAn : ∀ n, ((MS.mk s.raw s.mono d s.rest s.full)).at (v2.drewN n) g := fun _ => A9
                  obtain ⟨r0, r1, r2, r3, r4⟩ := rs_cells R9
                  have Z9 := Lib.hid (And.intro A9 (And.intro R9 T9))
                  clear A9 R9 T9
                  go_wp2_with (first | (go_at_call 14; (with_reducible refine (mono_any g _ _ HA).mono ?_); rintro e v9 ⟨rfl, rfl⟩) | (go_at_call 14; (with_reducible refine (mono_any g _ _ (HAn _)).mono ?_); rintro e v9 ⟨rfl, rfl⟩) | (go_at_call 15; (with_reducible refine (raw_any g _ _ HA).mono ?_); rintro e v9 ⟨rfl, rfl⟩) | (go_at_call 15; (with_reducible refine (raw_any g _ _ (HAn _)).mono ?_); rintro e v9 ⟨rfl, rfl⟩) | (go_at_call 17; (with_reducible refine (rate_any g _ _ HA).mono ?_); rintro e v9 ⟨rfl, rfl⟩) | (go_at_call 17; (with_reducible refine (rate_any g _ _ (HAn _)).mono ?_); rintro e v9 ⟨rfl, rfl⟩) | (go_at_call 16; (with_reducible refine (full_any g _ _ HA).mono ?_); rintro e v9 ⟨rfl, rfl⟩) | (go_at_call 16; (with_reducible refine (full_any g _ _ (HAn _)).mono ?_); rintro e v9 ⟨rfl, rfl⟩) | (go_quiet (first | (go_at_call 14; with_reducible exact Calls.quiet_of_same (mono_any g _ _ HA)) | (go_at_call 14; with_reducible exact quiet_add_same (mono_any g _ _ HA)) | (go_at_call 14; with_reducible exact Calls.quiet_of_same (mono_any g _ _ (HAn _))) | (go_at_call 14; with_reducible exact quiet_add_same (mono_any g _ _ (HAn _))) | (go_at_call 15; with_reducible exact Calls.quiet_of_same (raw_any g _ _ HA)) | (go_at_call 15; with_reducible exact quiet_add_same (raw_any g _ _ HA)) | (go_at_call 15; with_reducible exact Calls.quiet_of_same (raw_any g _ _ (HAn _))) | (go_at_call 15; with_reducible exact quiet_add_same (raw_any g _ _ (HAn _))) | (go_at_call 17; with_reducible exact Calls.quiet_of_same (rate_any g _ _ HA)) | (go_at_call 17; with_reducible exact quiet_add_same (rate_any g _ _ HA)) | (go_at_call 17; with_reducible exact Calls.quiet_of_same (rate_any g _ _ (HAn _))) | (go_at_call 17; with_reducible exact quiet_add_same (rate_any g _ _ (HAn _))) | (go_at_call 16; with_reducible exact Calls.quiet_of_same (full_any g _ _ HA)) | (go_at_call 16; with_reducible exact quiet_add_same (full_any g _ _ HA)) | (go_at_call 16; with_reducible exact Calls.quiet_of_same (full_any g _ _ (HAn _))) | (go_at_call 16; with_reducible exact quiet_add_same (full_any g _ _ (HAn _))))))
                  all_goals go_roundw
                  all_goals first
                    | exact ⟨k + 1, g, _, by omega, by omega, by go_num, rfl, (by exact ⟨Z9.out.1, Z9.out.2.1, ok2, hg, hne, Z9.out.2.2.drewN _⟩)⟩
                    | exact ⟨k + 1, g, _, by omega, by omega, by go_num, rfl, (by exact ⟨Z9.out.1, Z9.out.2.1, ok2, hg, hne, Z9.out.2.2⟩)⟩
                    | (simp [intOf]; omega)
            · as_aux_lemma =>
                have AT1d : s.at W.drew g := AT1
                have h0b : (what == 0) = false := by simp [h0]
                have h1b : (what == 1) = true := by simp [h1]
                clear h0 h1
                go_wp2_with fail
                rw [HW.out]
                go_wp2_with fail
                go_region_held3 (fun w' => w'.cell? ⟨wr.heap.size, 1, none⟩ = some (.int .i64 d))
                  (first | go_keep | exact q1 | exact (AB.out [g] v1 s5' (by simp; omega)).2 | exact (Stp.cell s6 (AB.out [g] v1 s5' (by simp; omega)).2 (by simp; omega)))
                  (first
                    | (go_at_call 12; (with_reducible refine (setrate_badA g s d _ (by first | exact AT1 | exact AT1d) ⟨d0, d1⟩ hs).mono ?_); rintro e v1 ⟨rfl, a5, s5⟩; have s5' : Stp [g] W v1 := (by first | exact s5 | exact s5.of_drew))
                    | (go_at_call 20; (with_reducible refine (rsetrate_badA gr s d _ (MS.rat_out RT1 s5' (by simp; omega)) hs).mono ?_); rintro e v2 ⟨rfl, R9, s6⟩))
                all_goals
                  have s6' : Stp [gr] v1 v2 := by first | exact s6 | exact s6.of_drew
                  have A9 := MS.at_stp a5 s6' (by simpa using hne)
                  have T9 := (TT.far s5' (.inr hg)).far s6' (.inr hgr0)
                  have ok2 : s.ok := OK
                  clear a5 s5 s6 s5' s6' AT1 RT1 TT AB q0 q1
                  have HA := A9
                  have HAn : ∀ n, (s).at (v2.drewN n) g := fun _ => A9
                  obtain ⟨r0, r1, r2, r3, r4⟩ := rs_cells R9
                  have Z9 := Lib.hid (And.intro A9 (And.intro R9 T9))
                  clear A9 R9 T9
                  go_wp2_with (first | (go_at_call 14; (with_reducible refine (mono_any g _ _ HA).mono ?_); rintro e v9 ⟨rfl, rfl⟩) | (go_at_call 14; (with_reducible refine (mono_any g _ _ (HAn _)).mono ?_); rintro e v9 ⟨rfl, rfl⟩) | (go_at_call 15; (with_reducible refine (raw_any g _ _ HA).mono ?_); rintro e v9 ⟨rfl, rfl⟩) | (go_at_call 15; (with_reducible refine (raw_any g _ _ (HAn _)).mono ?_); rintro e v9 ⟨rfl, rfl⟩) | (go_at_call 17; (with_reducible refine (rate_any g _ _ HA).mono ?_); rintro e v9 ⟨rfl, rfl⟩) | (go_at_call 17; (with_reducible refine (rate_any g _ _ (HAn _)).mono ?_); rintro e v9 ⟨rfl, rfl⟩) | (go_at_call 16; (with_reducible refine (full_any g _ _ HA).mono ?_); rintro e v9 ⟨rfl, rfl⟩) | (go_at_call 16; (with_reducible refine (full_any g _ _ (HAn _)).mono ?_); rintro e v9 ⟨rfl, rfl⟩) | (go_quiet (first | (go_at_call 14; with_reducible exact Calls.quiet_of_same (mono_any g _ _ HA)) | (go_at_call 14; with_reducible exact quiet_add_same (mono_any g _ _ HA)) | (go_at_call 14; with_reducible exact Calls.quiet_of_same (mono_any g _ _ (HAn _))) | (go_at_call 14; with_reducible exact quiet_add_same (mono_any g _ _ (HAn _))) | (go_at_call 15; with_reducible exact Calls.quiet_of_same (raw_any g _ _ HA)) | (go_at_call 15; with_reducible exact quiet_add_same (raw_any g _ _ HA)) | (go_at_call 15; with_reducible exact Calls.quiet_of_same (raw_any g _ _ (HAn _))) | (go_at_call 15; with_reducible exact quiet_add_same (raw_any g _ _ (HAn _))) | (go_at_call 17; with_reducible exact Calls.quiet_of_same (rate_any g _ _ HA)) | (go_at_call 17; with_reducible exact quiet_add_same (rate_any g _ _ HA)) | (go_at_call 17; with_reducible exact Calls.quiet_of_same (rate_any g _ _ (HAn _))) | (go_at_call 17; with_reducible exact quiet_add_same (rate_any g _ _ (HAn _))) | (go_at_call 16; with_reducible exact Calls.quiet_of_same (full_any g _ _ HA)) | (go_at_call 16; with_reducible exact quiet_add_same (full_any g _ _ HA)) | (go_at_call 16; with_reducible exact Calls.quiet_of_same (full_any g _ _ (HAn _))) | (go_at_call 16; with_reducible exact quiet_add_same (full_any g _ _ (HAn _))))))
                  all_goals go_roundw
                  all_goals first
                    | exact ⟨k + 1, g, _, by omega, by omega, by go_num, rfl, (by exact ⟨Z9.out.1, Z9.out.2.1, ok2, hg, hne, Z9.out.2.2.drewN _⟩)⟩
                    | exact ⟨k + 1, g, _, by omega, by omega, by go_num, rfl, (by exact ⟨Z9.out.1, Z9.out.2.1, ok2, hg, hne, Z9.out.2.2⟩)⟩
                    | (simp [intOf]; omega)
          · by_cases h2 : what = 2
            · as_aux_lemma =>
                have h0b : (what == 0) = false := by simp [h0]
                have h1b : (what == 1) = false := by simp [h1]
                have h2b : (what == 2) = true := by simp [h2]
                clear h0 h1 h2
                go_wp2_with fail
                rw [HW.out]
                go_wp2_with fail
                refine (copy_any g s W AT1).mono ?_
                rintro e v1 ⟨g2, rfl, a2, s2, hg2⟩
                have AT2 := MS.at_stp AT1 s2 (by simp)
                have RT2 := MS.rat_stp RT1 s2
                have G1 := Lib.hid (go_any g s 12345 v1 AT2 OK (by decide))
                have ok2 := MS.go_ok OK 12345
                generalize s.go 12345 = q at *
                obtain ⟨qn, qe, s3⟩ := q
                simp only at G1 ok2
                have glt2 := lt_of_at AT1
                have grlt2 := lt_of_at RT1
                go_wp2_with fail
                refine G1.out.mono ?_
                rintro e v2 ⟨rfl, a5, s5⟩
                go_wp2_with fail
                refine (setrate_any g s3 7 _ a5 (by decide) (by decide)).mono ?_
                rintro e v3 ⟨rfl, a6, s6⟩
                have A9 := MS.at_stp (MS.at_stp a2 s5 (by simp; omega)) s6 (by simp; omega)
                have R9 := MS.rat_out (MS.rat_out RT2 s5 (by simp; omega)) s6 (by simp; omega)
                have T9 := ((TT.trans s2).far s5 (.inr hg)).far s6 (.inr hg)
                have hg2' : w.heap.size ≤ g2 := by omega
                have hne2 : g2 ≠ gr := by omega
                clear G1 a5 s5 s6 a6 a2 s2 AT1 RT1 AT2 RT2 TT AB q0 q1 ok2
                have HA := A9
                have HAn : ∀ n, (s).at (v3.drewN n) g2 := fun _ => A9
                obtain ⟨r0, r1, r2, r3, r4⟩ := rs_cells R9
                have Z9 := Lib.hid (And.intro A9 (And.intro R9 T9))
                clear A9 R9 T9
                go_wp2_with (first | (go_at_call 14; (with_reducible refine (mono_any g2 _ _ HA).mono ?_); rintro e v9 ⟨rfl, rfl⟩) | (go_at_call 14; (with_reducible refine (mono_any g2 _ _ (HAn _)).mono ?_); rintro e v9 ⟨rfl, rfl⟩) | (go_at_call 15; (with_reducible refine (raw_any g2 _ _ HA).mono ?_); rintro e v9 ⟨rfl, rfl⟩) | (go_at_call 15; (with_reducible refine (raw_any g2 _ _ (HAn _)).mono ?_); rintro e v9 ⟨rfl, rfl⟩) | (go_at_call 17; (with_reducible refine (rate_any g2 _ _ HA).mono ?_); rintro e v9 ⟨rfl, rfl⟩) | (go_at_call 17; (with_reducible refine (rate_any g2 _ _ (HAn _)).mono ?_); rintro e v9 ⟨rfl, rfl⟩) | (go_at_call 16; (with_reducible refine (full_any g2 _ _ HA).mono ?_); rintro e v9 ⟨rfl, rfl⟩) | (go_at_call 16; (with_reducible refine (full_any g2 _ _ (HAn _)).mono ?_); rintro e v9 ⟨rfl, rfl⟩) | (go_quiet (first | (go_at_call 14; with_reducible exact Calls.quiet_of_same (mono_any g2 _ _ HA)) | (go_at_call 14; with_reducible exact quiet_add_same (mono_any g2 _ _ HA)) | (go_at_call 14; with_reducible exact Calls.quiet_of_same (mono_any g2 _ _ (HAn _))) | (go_at_call 14; with_reducible exact quiet_add_same (mono_any g2 _ _ (HAn _))) | (go_at_call 15; with_reducible exact Calls.quiet_of_same (raw_any g2 _ _ HA)) | (go_at_call 15; with_reducible exact quiet_add_same (raw_any g2 _ _ HA)) | (go_at_call 15; with_reducible exact Calls.quiet_of_same (raw_any g2 _ _ (HAn _))) | (go_at_call 15; with_reducible exact quiet_add_same (raw_any g2 _ _ (HAn _))) | (go_at_call 17; with_reducible exact Calls.quiet_of_same (rate_any g2 _ _ HA)) | (go_at_call 17; with_reducible exact quiet_add_same (rate_any g2 _ _ HA)) | (go_at_call 17; with_reducible exact Calls.quiet_of_same (rate_any g2 _ _ (HAn _))) | (go_at_call 17; with_reducible exact quiet_add_same (rate_any g2 _ _ (HAn _))) | (go_at_call 16; with_reducible exact Calls.quiet_of_same (full_any g2 _ _ HA)) | (go_at_call 16; with_reducible exact quiet_add_same (full_any g2 _ _ HA)) | (go_at_call 16; with_reducible exact Calls.quiet_of_same (full_any g2 _ _ (HAn _))) | (go_at_call 16; with_reducible exact quiet_add_same (full_any g2 _ _ (HAn _))))))
                all_goals go_roundw
                all_goals first
                  | exact ⟨k + 1, g2, _, by omega, by omega, by go_num, rfl, (by exact ⟨Z9.out.1, Z9.out.2.1, OK, hg2', hne2, Z9.out.2.2.drewN _⟩)⟩
                  | exact ⟨k + 1, g2, _, by omega, by omega, by go_num, rfl, (by exact ⟨Z9.out.1, Z9.out.2.1, OK, hg2', hne2, Z9.out.2.2⟩)⟩
                  | (simp [intOf]; omega)
            · as_aux_lemma =>
                have h0b : (what == 0) = false := by simp [h0]
                have h1b : (what == 1) = false := by simp [h1]
                have h2b : (what == 2) = false := by simp [h2]
                clear h0 h1 h2
                have A9 := AT1
                have R9 := RT1
                have T9 := TT
                clear AT1 RT1 TT AB
                go_wp2_with fail
                rw [HW.out]
                have HA := A9
                have HAn : ∀ n, (s).at (W.drewN n) g := fun _ => A9
                obtain ⟨r0, r1, r2, r3, r4⟩ := rs_cells R9
                have Z9 := Lib.hid (And.intro A9 (And.intro R9 T9))
                clear A9 R9 T9
                go_wp2_with (first | (go_at_call 14; (with_reducible refine (mono_any g _ _ HA).mono ?_); rintro e v9 ⟨rfl, rfl⟩) | (go_at_call 14; (with_reducible refine (mono_any g _ _ (HAn _)).mono ?_); rintro e v9 ⟨rfl, rfl⟩) | (go_at_call 15; (with_reducible refine (raw_any g _ _ HA).mono ?_); rintro e v9 ⟨rfl, rfl⟩) | (go_at_call 15; (with_reducible refine (raw_any g _ _ (HAn _)).mono ?_); rintro e v9 ⟨rfl, rfl⟩) | (go_at_call 17; (with_reducible refine (rate_any g _ _ HA).mono ?_); rintro e v9 ⟨rfl, rfl⟩) | (go_at_call 17; (with_reducible refine (rate_any g _ _ (HAn _)).mono ?_); rintro e v9 ⟨rfl, rfl⟩) | (go_at_call 16; (with_reducible refine (full_any g _ _ HA).mono ?_); rintro e v9 ⟨rfl, rfl⟩) | (go_at_call 16; (with_reducible refine (full_any g _ _ (HAn _)).mono ?_); rintro e v9 ⟨rfl, rfl⟩) | (go_quiet (first | (go_at_call 14; with_reducible exact Calls.quiet_of_same (mono_any g _ _ HA)) | (go_at_call 14; with_reducible exact quiet_add_same (mono_any g _ _ HA)) | (go_at_call 14; with_reducible exact Calls.quiet_of_same (mono_any g _ _ (HAn _))) | (go_at_call 14; with_reducible exact quiet_add_same (mono_any g _ _ (HAn _))) | (go_at_call 15; with_reducible exact Calls.quiet_of_same (raw_any g _ _ HA)) | (go_at_call 15; with_reducible exact quiet_add_same (raw_any g _ _ HA)) | (go_at_call 15; with_reducible exact Calls.quiet_of_same (raw_any g _ _ (HAn _))) | (go_at_call 15; with_reducible exact quiet_add_same (raw_any g _ _ (HAn _))) | (go_at_call 17; with_reducible exact Calls.quiet_of_same (rate_any g _ _ HA)) | (go_at_call 17; with_reducible exact quiet_add_same (rate_any g _ _ HA)) | (go_at_call 17; with_reducible exact Calls.quiet_of_same (rate_any g _ _ (HAn _))) | (go_at_call 17; with_reducible exact quiet_add_same (rate_any g _ _ (HAn _))) | (go_at_call 16; with_reducible exact Calls.quiet_of_same (full_any g _ _ HA)) | (go_at_call 16; with_reducible exact quiet_add_same (full_any g _ _ HA)) | (go_at_call 16; with_reducible exact Calls.quiet_of_same (full_any g _ _ (HAn _))) | (go_at_call 16; with_reducible exact quiet_add_same (full_any g _ _ (HAn _))))))
                all_goals go_roundw
                all_goals first
                  | exact ⟨k + 1, g, _, by omega, by omega, by go_num, rfl, (by exact ⟨Z9.out.1, Z9.out.2.1, OK, hg, hne, Z9.out.2.2.drewN _⟩)⟩
                  | exact ⟨k + 1, g, _, by omega, by omega, by go_num, rfl, (by exact ⟨Z9.out.1, Z9.out.2.1, OK, hg, hne, Z9.out.2.2⟩)⟩
                  | (simp [intOf]; omega)
    · obtain rfl : k = n := by omega
      clear D
      go_wp2_with fail
      refine (awake_any _).mono ?_
      rintro e w4 ⟨rfl, s4⟩
      go_wp2_with fail
      go_ret
      exact ⟨rfl, H.out.2.2.2.2.2.trans s4⟩
end Go.Proofs.Ytmfjknpkogebmaa
