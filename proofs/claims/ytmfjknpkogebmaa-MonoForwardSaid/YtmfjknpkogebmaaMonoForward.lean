/- MonoForward's walk. -/
import Derived.Test.YtmfjknpkogebmaaMonoW
import Derived.Outline
namespace Go.Proofs.Ytmfjknpkogebmaa
open Go.RowKit
set_option linter.unusedVariables false
set_option linter.unusedSimpArgs false

/-- What Go may do. -/
theorem go_cases (c : MS) (d : Int) (ok : c.ok) :
    ((d < 0 ∨ 1125899906842624 < d) ∧ c.go d = (0, 1, c)) ∨
    (0 ≤ d ∧ d ≤ 1125899906842624 ∧ c.full = true ∧ c.go d = (0, 7, c)) ∨
    (0 ≤ d ∧ d ≤ 1125899906842624 ∧ c.full = false ∧ ∃ R M, c.go d = (0, 7, ⟨R, M, c.rate, c.rest, true⟩) ∧ c.raw ≤ R ∧ R ≤ 4611686018427387904 ∧ c.mono ≤ M ∧ M ≤ 4611686018427387904 ∧ (M = 4611686018427387904 ∨ R = 4611686018427387904)) ∨
    (0 ≤ d ∧ d ≤ 1125899906842624 ∧ c.full = false ∧ ∃ g x, c.go d = (g, 0, ⟨c.raw + d, c.mono + g, c.rate, x, false⟩) ∧ d - d / 2000 - 1 ≤ g ∧ g ≤ d + d / 2000 + 1 ∧ 0 ≤ g ∧ c.mono + g ≤ 4611686018427387904 ∧ c.raw + d ≤ 4611686018427387904) := by
  unfold MS.go
  by_cases h1 : d < 0 ∨ d > 1125899906842624
  · exact .inl ⟨by omega, by rw [if_pos h1]⟩
  · rw [if_neg h1]
    have d0 : 0 ≤ d := by omega
    have d1 : d ≤ 1125899906842624 := by omega
    by_cases h2 : c.full = true
    · exact .inr (.inl ⟨d0, d1, h2, by rw [if_pos h2]⟩)
    · rw [if_neg h2]
      have h2' : c.full = false := by simpa using h2
      have b := gain_bd ok d0 d1
      obtain ⟨a1, a2, a3, a4, r0, r1, s0, s1⟩ := ok
      by_cases h3 : c.gain d > 4611686018427387904 - c.mono ∨ d > 4611686018427387904 - c.raw
      · refine .inr (.inr (.inl ⟨d0, d1, h2', _, _, by rw [if_pos h3], ?_⟩))
        omega
      · refine .inr (.inr (.inr ⟨d0, d1, h2', _, _, by rw [if_neg h3], ?_⟩))
        omega

set_option maxRecDepth 100000 in
set_option maxHeartbeats 4000000 in
theorem monoForward_walk (A : Option Addr) (n c : Nat) (l : List (Int × Int)) (w : World)
    (hr : Reads w w.heap.size 2 A n (l.flatMap fun t => [.int .i64 t.1, .int .i64 t.2])) (hl : l.length = n) (hn : n * 16 ≤ 140737488351232) (hw : ∀ t ∈ l, (-9223372036854775808 ≤ t.1 ∧ t.1 ≤ 9223372036854775807) ∧ (-9223372036854775808 ≤ t.2 ∧ t.2 ≤ 9223372036854775807)) :
    Calls Try.prog 4 #[.slice A n c] w fun e w' => e = .returned (.bool true) ∧ Stp [] w w' := by
  have hr' : Reads w w.heap.size 2 A n (pcells l) := hr
  clear hr
  go_enter Try.func4, Try.ntmps4
  go_wp2_with fail
  refine (new_any _).mono ?_
  rintro e w1 ⟨ga, rfl, a1, s1, hga⟩
  go_wp2_with fail
  refine (awake_any _).mono ?_
  rintro e w4 ⟨rfl, s4⟩
  have a4 := s4.at a1 (by simp)
  have t4 := s1.trans s4
  have ok4 := MS.new_ok
  clear a1 s1 s4
  go_wp2_with fail
  go_loopw [17] (fun i wr => ∃ (k : Nat) (c1 : MS), k ≤ n ∧ k ≤ 80 ∧ i = .int .i64 k ∧ c1.at wr ga ∧ c1.ok ∧ (c1.full = true → c1.mono = 4611686018427387904 ∨ c1.raw = 4611686018427387904) ∧ Stp [] w wr) (fun i _ => n - (intOf i).toNat)
  case atStart => exact ⟨0, _, by omega, by omega, rfl, a4, ok4, (fun h => by cases h), t4⟩
  case round =>
    clear a4 t4 ok4
    obtain ⟨k, c1, hk, hk80, rfl, ha, ok, hfull, ht⟩ := hrel
    have HF := Lib.hid hfull
    clear hfull
    by_cases hlt : k < n
    · obtain ⟨b, off, rfl, hbb, hcell⟩ := hr'.form (by omega) (by omega)
      have hx := pcells_get l k (by omega)
      have hx1 : wr.cell? ⟨b, off + k * 2, none⟩ = some (.int .i64 (l[k]'(by omega)).1) := ht.cell (hcell _ _ hx.1) (by simp)
      have hx2 : wr.cell? ⟨b, off + k * 2 + 1, none⟩ = some (.int .i64 (l[k]'(by omega)).2) := ht.cell (hcell _ _ hx.2) (by simp)
      by_cases h80 : k = 80
      · subst h80
        clear hx hcell
        go_wp2
        go_ret
        exact ⟨rfl, ht.alloc _⟩
      · have h80' : ((k : Int) == 80) = false := by simp; omega
        have hk79 : k < 80 := by omega
        have hwk := hw l[k] (List.getElem_mem _)
        clear hx hcell h80
        generalize hl1 : l[k] = t at *
        obtain ⟨what, d⟩ := t
        simp only at hx1 hx2 hwk
        clear hl1
        obtain ⟨⟨w0, w1'⟩, d0, d1⟩ := hwk
        have hat : ∀ o, c1.at (wr.alloc o) ga := fun o => Blk.alloc (t := 49) (show Blk wr ga 49 _ from ha) o
        have ha1 := hat (.cells #[.int .i64 what, .int .i64 d] 34)
        have ht1 := ht.alloc (.cells #[.int .i64 what, .int .i64 d] 34)
        clear hat
        have nga := lt_of_at ha
        obtain ⟨p1, p2, p3, p4, p5, p6, p7, p8⟩ := ok
        have OK : c1.ok := ⟨p1, p2, p3, p4, p5, p6, p7, p8⟩
        by_cases h1 : what = 1
        · have h1b : (what == 1) = true := by simpa using h1
          have H1 := Lib.hid h1
          clear h1
          by_cases hs : -500000 ≤ d ∧ d ≤ 500000
          · as_aux_lemma =>
            obtain ⟨hs0, hs1⟩ := hs
            have hs2 : decide (-500000 ≤ d) = true := decide_eq_true hs0
            have hs3 : decide (d ≤ 500000) = true := decide_eq_true hs1
            go_wp2_with (first | (go_at_call 14; (with_reducible refine (mono_any ga _ _ ha1).mono ?_); rintro e v9 ⟨rfl, rfl⟩) | (go_at_call 15; (with_reducible refine (raw_any ga _ _ ha1).mono ?_); rintro e v9 ⟨rfl, rfl⟩) | (go_at_call 16; (with_reducible refine (full_any ga _ _ ha1).mono ?_); rintro e v9 ⟨rfl, rfl⟩) | (go_at_call 17; (with_reducible refine (rate_any ga _ _ ha1).mono ?_); rintro e v9 ⟨rfl, rfl⟩))
            refine (setrate_any ga c1 d _ ha1 ⟨d0, d1⟩ ⟨hs0, hs1⟩).mono ?_
            rintro e v1 ⟨rfl, a5, s5⟩
            have y0 : v1.cell? ⟨wr.heap.size, 0, none⟩ = some (.int .i64 what) := s5.cell ((Blk.new wr 34 #[.int .i64 what, .int .i64 d]).cell 0) (by simp; omega)
            have y1 : v1.cell? ⟨wr.heap.size, 1, none⟩ = some (.int .i64 d) := s5.cell ((Blk.new wr 34 #[.int .i64 what, .int .i64 d]).cell 1) (by simp; omega)
            have t5 : Stp [] w v1 := ht1.far s5 (.inr hga)
            clear s5 ha1 ht1 ha ht
            have A5 := Lib.hid a5
            have T5 := Lib.hid t5
            have a5n : ∀ n, (⟨c1.raw, c1.mono, d, c1.rest, c1.full⟩ : MS).at (v1.drewN n) ga := fun _ => a5
            clear t5
            go_wp2_with (first | (go_at_call 14; (with_reducible refine (mono_any ga _ _ a5).mono ?_); rintro e v9 ⟨rfl, rfl⟩) | (go_at_call 14; (with_reducible refine (mono_any ga _ _ (a5n _)).mono ?_); rintro e v9 ⟨rfl, rfl⟩) | (go_at_call 15; (with_reducible refine (raw_any ga _ _ a5).mono ?_); rintro e v9 ⟨rfl, rfl⟩) | (go_at_call 15; (with_reducible refine (raw_any ga _ _ (a5n _)).mono ?_); rintro e v9 ⟨rfl, rfl⟩) | (go_at_call 16; (with_reducible refine (full_any ga _ _ a5).mono ?_); rintro e v9 ⟨rfl, rfl⟩) | (go_at_call 16; (with_reducible refine (full_any ga _ _ (a5n _)).mono ?_); rintro e v9 ⟨rfl, rfl⟩) | (go_at_call 17; (with_reducible refine (rate_any ga _ _ a5).mono ?_); rintro e v9 ⟨rfl, rfl⟩) | (go_at_call 17; (with_reducible refine (rate_any ga _ _ (a5n _)).mono ?_); rintro e v9 ⟨rfl, rfl⟩) | (go_quiet (first | (go_at_call 14; with_reducible exact Calls.quiet_of_same (mono_any ga _ _ a5)) | (go_at_call 14; with_reducible exact quiet_add_same (mono_any ga _ _ (a5n _))) | (go_at_call 14; with_reducible exact Calls.quiet_of_same (mono_any ga _ _ (a5n _))) | (go_at_call 15; with_reducible exact Calls.quiet_of_same (raw_any ga _ _ a5)) | (go_at_call 15; with_reducible exact quiet_add_same (raw_any ga _ _ (a5n _))) | (go_at_call 15; with_reducible exact Calls.quiet_of_same (raw_any ga _ _ (a5n _))) | (go_at_call 16; with_reducible exact Calls.quiet_of_same (full_any ga _ _ a5)) | (go_at_call 16; with_reducible exact quiet_add_same (full_any ga _ _ (a5n _))) | (go_at_call 16; with_reducible exact Calls.quiet_of_same (full_any ga _ _ (a5n _))) | (go_at_call 17; with_reducible exact Calls.quiet_of_same (rate_any ga _ _ a5)) | (go_at_call 17; with_reducible exact quiet_add_same (rate_any ga _ _ (a5n _))) | (go_at_call 17; with_reducible exact Calls.quiet_of_same (rate_any ga _ _ (a5n _))))))
            all_goals go_roundw
            all_goals first
              | exact ⟨k + 1, _, by omega, by omega, by go_num, A5.out, ⟨p1, p2, p3, p4, hs0, hs1, p7, p8⟩, HF.out, T5.out.drewN _⟩
              | exact ⟨k + 1, _, by omega, by omega, by go_num, A5.out, ⟨p1, p2, p3, p4, hs0, hs1, p7, p8⟩, HF.out, T5.out⟩
              | (simp [intOf]; omega)
          · as_aux_lemma =>
            go_wp2_with (first | (go_at_call 14; (with_reducible refine (mono_any ga _ _ ha1).mono ?_); rintro e v9 ⟨rfl, rfl⟩) | (go_at_call 15; (with_reducible refine (raw_any ga _ _ ha1).mono ?_); rintro e v9 ⟨rfl, rfl⟩) | (go_at_call 16; (with_reducible refine (full_any ga _ _ ha1).mono ?_); rintro e v9 ⟨rfl, rfl⟩) | (go_at_call 17; (with_reducible refine (rate_any ga _ _ ha1).mono ?_); rintro e v9 ⟨rfl, rfl⟩))
            refine (setrate_bad ga c1 d _ ha1 ⟨d0, d1⟩ hs).mono ?_
            rintro e v1 ⟨rfl, rfl⟩
            have hs' : d < -500000 ∨ (¬ d < -500000 ∧ 500000 < d) := by omega
            clear hs
            have A5 := Lib.hid ha1
            have T5 := Lib.hid ht1
            have ha1n : ∀ n, c1.at ((wr.alloc (.cells #[.int .i64 what, .int .i64 d] 34)).drewN n) ga := fun _ => ha1
            rcases hs' with hs' | ⟨hs', hs2⟩
            · as_aux_lemma =>
              have hs2 : decide (-500000 ≤ d) = false := decide_eq_false (by omega)
              go_wp2_with (first | (go_at_call 14; (with_reducible refine (mono_any ga _ _ ha1).mono ?_); rintro e v9 ⟨rfl, rfl⟩) | (go_at_call 14; (with_reducible refine (mono_any ga _ _ (ha1n _)).mono ?_); rintro e v9 ⟨rfl, rfl⟩) | (go_at_call 15; (with_reducible refine (raw_any ga _ _ ha1).mono ?_); rintro e v9 ⟨rfl, rfl⟩) | (go_at_call 15; (with_reducible refine (raw_any ga _ _ (ha1n _)).mono ?_); rintro e v9 ⟨rfl, rfl⟩) | (go_at_call 16; (with_reducible refine (full_any ga _ _ ha1).mono ?_); rintro e v9 ⟨rfl, rfl⟩) | (go_at_call 16; (with_reducible refine (full_any ga _ _ (ha1n _)).mono ?_); rintro e v9 ⟨rfl, rfl⟩) | (go_at_call 17; (with_reducible refine (rate_any ga _ _ ha1).mono ?_); rintro e v9 ⟨rfl, rfl⟩) | (go_at_call 17; (with_reducible refine (rate_any ga _ _ (ha1n _)).mono ?_); rintro e v9 ⟨rfl, rfl⟩) | (go_quiet (first | (go_at_call 14; with_reducible exact Calls.quiet_of_same (mono_any ga _ _ ha1)) | (go_at_call 14; with_reducible exact quiet_add_same (mono_any ga _ _ (ha1n _))) | (go_at_call 14; with_reducible exact Calls.quiet_of_same (mono_any ga _ _ (ha1n _))) | (go_at_call 15; with_reducible exact Calls.quiet_of_same (raw_any ga _ _ ha1)) | (go_at_call 15; with_reducible exact quiet_add_same (raw_any ga _ _ (ha1n _))) | (go_at_call 15; with_reducible exact Calls.quiet_of_same (raw_any ga _ _ (ha1n _))) | (go_at_call 16; with_reducible exact Calls.quiet_of_same (full_any ga _ _ ha1)) | (go_at_call 16; with_reducible exact quiet_add_same (full_any ga _ _ (ha1n _))) | (go_at_call 16; with_reducible exact Calls.quiet_of_same (full_any ga _ _ (ha1n _))) | (go_at_call 17; with_reducible exact Calls.quiet_of_same (rate_any ga _ _ ha1)) | (go_at_call 17; with_reducible exact quiet_add_same (rate_any ga _ _ (ha1n _))) | (go_at_call 17; with_reducible exact Calls.quiet_of_same (rate_any ga _ _ (ha1n _))))))
              all_goals go_roundw
              all_goals first
                | exact ⟨k + 1, _, by omega, by omega, by go_num, A5.out, OK, HF.out, T5.out.drewN _⟩
                | exact ⟨k + 1, _, by omega, by omega, by go_num, A5.out, OK, HF.out, T5.out⟩
                | (simp [intOf]; omega)
            · as_aux_lemma =>
              have hs3 : decide (-500000 ≤ d) = true := decide_eq_true (by omega)
              have hs4 : decide (d ≤ 500000) = false := decide_eq_false (by omega)
              go_wp2_with (first | (go_at_call 14; (with_reducible refine (mono_any ga _ _ ha1).mono ?_); rintro e v9 ⟨rfl, rfl⟩) | (go_at_call 14; (with_reducible refine (mono_any ga _ _ (ha1n _)).mono ?_); rintro e v9 ⟨rfl, rfl⟩) | (go_at_call 15; (with_reducible refine (raw_any ga _ _ ha1).mono ?_); rintro e v9 ⟨rfl, rfl⟩) | (go_at_call 15; (with_reducible refine (raw_any ga _ _ (ha1n _)).mono ?_); rintro e v9 ⟨rfl, rfl⟩) | (go_at_call 16; (with_reducible refine (full_any ga _ _ ha1).mono ?_); rintro e v9 ⟨rfl, rfl⟩) | (go_at_call 16; (with_reducible refine (full_any ga _ _ (ha1n _)).mono ?_); rintro e v9 ⟨rfl, rfl⟩) | (go_at_call 17; (with_reducible refine (rate_any ga _ _ ha1).mono ?_); rintro e v9 ⟨rfl, rfl⟩) | (go_at_call 17; (with_reducible refine (rate_any ga _ _ (ha1n _)).mono ?_); rintro e v9 ⟨rfl, rfl⟩) | (go_quiet (first | (go_at_call 14; with_reducible exact Calls.quiet_of_same (mono_any ga _ _ ha1)) | (go_at_call 14; with_reducible exact quiet_add_same (mono_any ga _ _ (ha1n _))) | (go_at_call 14; with_reducible exact Calls.quiet_of_same (mono_any ga _ _ (ha1n _))) | (go_at_call 15; with_reducible exact Calls.quiet_of_same (raw_any ga _ _ ha1)) | (go_at_call 15; with_reducible exact quiet_add_same (raw_any ga _ _ (ha1n _))) | (go_at_call 15; with_reducible exact Calls.quiet_of_same (raw_any ga _ _ (ha1n _))) | (go_at_call 16; with_reducible exact Calls.quiet_of_same (full_any ga _ _ ha1)) | (go_at_call 16; with_reducible exact quiet_add_same (full_any ga _ _ (ha1n _))) | (go_at_call 16; with_reducible exact Calls.quiet_of_same (full_any ga _ _ (ha1n _))) | (go_at_call 17; with_reducible exact Calls.quiet_of_same (rate_any ga _ _ ha1)) | (go_at_call 17; with_reducible exact quiet_add_same (rate_any ga _ _ (ha1n _))) | (go_at_call 17; with_reducible exact Calls.quiet_of_same (rate_any ga _ _ (ha1n _))))))
              all_goals go_roundw
              all_goals first
                | exact ⟨k + 1, _, by omega, by omega, by go_num, A5.out, OK, HF.out, T5.out.drewN _⟩
                | exact ⟨k + 1, _, by omega, by omega, by go_num, A5.out, OK, HF.out, T5.out⟩
                | (simp [intOf]; omega)
        · have h1b : (what == 1) = false := by simpa using h1
          clear h1
          rcases go_cases c1 d OK with ⟨h2, hgo⟩ | ⟨h2, h3, hf, hgo⟩ | ⟨h2, h3, hf, R, M, hgo, f1, f2, f3, f4, f5⟩ | ⟨h2, h3, hf, g, x, hgo, f1, f2, f3, f4, f5⟩
          · have h2' : d < 0 ∨ (¬ d < 0 ∧ 1125899906842624 < d) := by omega
            clear h2
            have GO := Lib.hid hgo
            clear hgo
            go_wp2_with (first | (go_at_call 14; (with_reducible refine (mono_any ga _ _ ha1).mono ?_); rintro e v9 ⟨rfl, rfl⟩) | (go_at_call 15; (with_reducible refine (raw_any ga _ _ ha1).mono ?_); rintro e v9 ⟨rfl, rfl⟩) | (go_at_call 16; (with_reducible refine (full_any ga _ _ ha1).mono ?_); rintro e v9 ⟨rfl, rfl⟩) | (go_at_call 17; (with_reducible refine (rate_any ga _ _ ha1).mono ?_); rintro e v9 ⟨rfl, rfl⟩))
            refine (go_is _ _ _ ha1 GO.out OK ⟨d0, d1⟩).mono ?_
            rintro e v1 ⟨rfl, a5, s5⟩
            have y0 : v1.cell? ⟨wr.heap.size, 0, none⟩ = some (.int .i64 what) := s5.cell ((Blk.new wr 34 #[.int .i64 what, .int .i64 d]).cell 0) (by simp; omega)
            have y1 : v1.cell? ⟨wr.heap.size, 1, none⟩ = some (.int .i64 d) := s5.cell ((Blk.new wr 34 #[.int .i64 what, .int .i64 d]).cell 1) (by simp; omega)
            have t5 : Stp [] w v1 := ht1.far s5 (.inr hga)
            clear s5 ha1 ht1 ha ht
            have A5 := Lib.hid a5
            have T5 := Lib.hid t5
            have a5n : ∀ n, (c1 : MS).at (v1.drewN n) ga := fun _ => a5
            clear t5
            rcases h2' with h2 | ⟨h2, h3⟩
            · as_aux_lemma =>
              have h4 : decide (0 ≤ d) = false := decide_eq_false (by omega)
              go_wp2_with (first | (go_at_call 14; (with_reducible refine (mono_any ga _ _ a5).mono ?_); rintro e v9 ⟨rfl, rfl⟩) | (go_at_call 14; (with_reducible refine (mono_any ga _ _ (a5n _)).mono ?_); rintro e v9 ⟨rfl, rfl⟩) | (go_at_call 15; (with_reducible refine (raw_any ga _ _ a5).mono ?_); rintro e v9 ⟨rfl, rfl⟩) | (go_at_call 15; (with_reducible refine (raw_any ga _ _ (a5n _)).mono ?_); rintro e v9 ⟨rfl, rfl⟩) | (go_at_call 16; (with_reducible refine (full_any ga _ _ a5).mono ?_); rintro e v9 ⟨rfl, rfl⟩) | (go_at_call 16; (with_reducible refine (full_any ga _ _ (a5n _)).mono ?_); rintro e v9 ⟨rfl, rfl⟩) | (go_at_call 17; (with_reducible refine (rate_any ga _ _ a5).mono ?_); rintro e v9 ⟨rfl, rfl⟩) | (go_at_call 17; (with_reducible refine (rate_any ga _ _ (a5n _)).mono ?_); rintro e v9 ⟨rfl, rfl⟩) | (go_quiet (first | (go_at_call 14; with_reducible exact Calls.quiet_of_same (mono_any ga _ _ a5)) | (go_at_call 14; with_reducible exact quiet_add_same (mono_any ga _ _ (a5n _))) | (go_at_call 14; with_reducible exact Calls.quiet_of_same (mono_any ga _ _ (a5n _))) | (go_at_call 15; with_reducible exact Calls.quiet_of_same (raw_any ga _ _ a5)) | (go_at_call 15; with_reducible exact quiet_add_same (raw_any ga _ _ (a5n _))) | (go_at_call 15; with_reducible exact Calls.quiet_of_same (raw_any ga _ _ (a5n _))) | (go_at_call 16; with_reducible exact Calls.quiet_of_same (full_any ga _ _ a5)) | (go_at_call 16; with_reducible exact quiet_add_same (full_any ga _ _ (a5n _))) | (go_at_call 16; with_reducible exact Calls.quiet_of_same (full_any ga _ _ (a5n _))) | (go_at_call 17; with_reducible exact Calls.quiet_of_same (rate_any ga _ _ a5)) | (go_at_call 17; with_reducible exact quiet_add_same (rate_any ga _ _ (a5n _))) | (go_at_call 17; with_reducible exact Calls.quiet_of_same (rate_any ga _ _ (a5n _))))))
              all_goals go_roundw
              all_goals first
                | exact ⟨k + 1, _, by omega, by omega, by go_num, A5.out, OK, HF.out, T5.out.drewN _⟩
                | exact ⟨k + 1, _, by omega, by omega, by go_num, A5.out, OK, HF.out, T5.out⟩
                | (simp [intOf]; omega)
            · as_aux_lemma =>
              have h4 : decide (0 ≤ d) = true := decide_eq_true (by omega)
              have h5 : decide (d ≤ 1125899906842624) = false := decide_eq_false (by omega)
              go_wp2_with (first | (go_at_call 14; (with_reducible refine (mono_any ga _ _ a5).mono ?_); rintro e v9 ⟨rfl, rfl⟩) | (go_at_call 14; (with_reducible refine (mono_any ga _ _ (a5n _)).mono ?_); rintro e v9 ⟨rfl, rfl⟩) | (go_at_call 15; (with_reducible refine (raw_any ga _ _ a5).mono ?_); rintro e v9 ⟨rfl, rfl⟩) | (go_at_call 15; (with_reducible refine (raw_any ga _ _ (a5n _)).mono ?_); rintro e v9 ⟨rfl, rfl⟩) | (go_at_call 16; (with_reducible refine (full_any ga _ _ a5).mono ?_); rintro e v9 ⟨rfl, rfl⟩) | (go_at_call 16; (with_reducible refine (full_any ga _ _ (a5n _)).mono ?_); rintro e v9 ⟨rfl, rfl⟩) | (go_at_call 17; (with_reducible refine (rate_any ga _ _ a5).mono ?_); rintro e v9 ⟨rfl, rfl⟩) | (go_at_call 17; (with_reducible refine (rate_any ga _ _ (a5n _)).mono ?_); rintro e v9 ⟨rfl, rfl⟩) | (go_quiet (first | (go_at_call 14; with_reducible exact Calls.quiet_of_same (mono_any ga _ _ a5)) | (go_at_call 14; with_reducible exact quiet_add_same (mono_any ga _ _ (a5n _))) | (go_at_call 14; with_reducible exact Calls.quiet_of_same (mono_any ga _ _ (a5n _))) | (go_at_call 15; with_reducible exact Calls.quiet_of_same (raw_any ga _ _ a5)) | (go_at_call 15; with_reducible exact quiet_add_same (raw_any ga _ _ (a5n _))) | (go_at_call 15; with_reducible exact Calls.quiet_of_same (raw_any ga _ _ (a5n _))) | (go_at_call 16; with_reducible exact Calls.quiet_of_same (full_any ga _ _ a5)) | (go_at_call 16; with_reducible exact quiet_add_same (full_any ga _ _ (a5n _))) | (go_at_call 16; with_reducible exact Calls.quiet_of_same (full_any ga _ _ (a5n _))) | (go_at_call 17; with_reducible exact Calls.quiet_of_same (rate_any ga _ _ a5)) | (go_at_call 17; with_reducible exact quiet_add_same (rate_any ga _ _ (a5n _))) | (go_at_call 17; with_reducible exact Calls.quiet_of_same (rate_any ga _ _ (a5n _))))))
              all_goals go_roundw
              all_goals first
                | exact ⟨k + 1, _, by omega, by omega, by go_num, A5.out, OK, HF.out, T5.out.drewN _⟩
                | exact ⟨k + 1, _, by omega, by omega, by go_num, A5.out, OK, HF.out, T5.out⟩
                | (simp [intOf]; omega)
          · have hf' : c1.full = true := hf
            have CF := Lib.hid hf
            have hc1 : c1 = ⟨c1.raw, c1.mono, c1.rate, c1.rest, true⟩ := by rw [← hf]
            clear hf hf'
            obtain ⟨c1r, c1m, c1t, c1x, c1f⟩ := c1
            simp only at CF p1 p2 p3 p4 p5 p6 p7 p8
            cases CF.out
            clear hc1
            have GO := Lib.hid hgo
            clear hgo
            go_wp2_with (first | (go_at_call 14; (with_reducible refine (mono_any ga _ _ ha1).mono ?_); rintro e v9 ⟨rfl, rfl⟩) | (go_at_call 15; (with_reducible refine (raw_any ga _ _ ha1).mono ?_); rintro e v9 ⟨rfl, rfl⟩) | (go_at_call 16; (with_reducible refine (full_any ga _ _ ha1).mono ?_); rintro e v9 ⟨rfl, rfl⟩) | (go_at_call 17; (with_reducible refine (rate_any ga _ _ ha1).mono ?_); rintro e v9 ⟨rfl, rfl⟩))
            refine (go_is _ _ _ ha1 GO.out OK ⟨d0, d1⟩).mono ?_
            rintro e v1 ⟨rfl, a5, s5⟩
            have y0 : v1.cell? ⟨wr.heap.size, 0, none⟩ = some (.int .i64 what) := s5.cell ((Blk.new wr 34 #[.int .i64 what, .int .i64 d]).cell 0) (by simp; omega)
            have y1 : v1.cell? ⟨wr.heap.size, 1, none⟩ = some (.int .i64 d) := s5.cell ((Blk.new wr 34 #[.int .i64 what, .int .i64 d]).cell 1) (by simp; omega)
            have t5 : Stp [] w v1 := ht1.far s5 (.inr hga)
            clear s5 ha1 ht1 ha ht
            have A5 := Lib.hid a5
            have T5 := Lib.hid t5
            have a5n : ∀ n, (⟨c1r, c1m, c1t, c1x, true⟩ : MS).at (v1.drewN n) ga := fun _ => a5
            clear t5
            have hff := HF.out (by simp)
            by_cases hM : c1m = 4611686018427387904
            · as_aux_lemma =>
              clear hff
              subst hM
              go_wp2_with (first | (go_at_call 14; (with_reducible refine (mono_any ga _ _ a5).mono ?_); rintro e v9 ⟨rfl, rfl⟩) | (go_at_call 14; (with_reducible refine (mono_any ga _ _ (a5n _)).mono ?_); rintro e v9 ⟨rfl, rfl⟩) | (go_at_call 15; (with_reducible refine (raw_any ga _ _ a5).mono ?_); rintro e v9 ⟨rfl, rfl⟩) | (go_at_call 15; (with_reducible refine (raw_any ga _ _ (a5n _)).mono ?_); rintro e v9 ⟨rfl, rfl⟩) | (go_at_call 16; (with_reducible refine (full_any ga _ _ a5).mono ?_); rintro e v9 ⟨rfl, rfl⟩) | (go_at_call 16; (with_reducible refine (full_any ga _ _ (a5n _)).mono ?_); rintro e v9 ⟨rfl, rfl⟩) | (go_at_call 17; (with_reducible refine (rate_any ga _ _ a5).mono ?_); rintro e v9 ⟨rfl, rfl⟩) | (go_at_call 17; (with_reducible refine (rate_any ga _ _ (a5n _)).mono ?_); rintro e v9 ⟨rfl, rfl⟩) | (go_quiet (first | (go_at_call 14; with_reducible exact Calls.quiet_of_same (mono_any ga _ _ a5)) | (go_at_call 14; with_reducible exact quiet_add_same (mono_any ga _ _ (a5n _))) | (go_at_call 14; with_reducible exact Calls.quiet_of_same (mono_any ga _ _ (a5n _))) | (go_at_call 15; with_reducible exact Calls.quiet_of_same (raw_any ga _ _ a5)) | (go_at_call 15; with_reducible exact quiet_add_same (raw_any ga _ _ (a5n _))) | (go_at_call 15; with_reducible exact Calls.quiet_of_same (raw_any ga _ _ (a5n _))) | (go_at_call 16; with_reducible exact Calls.quiet_of_same (full_any ga _ _ a5)) | (go_at_call 16; with_reducible exact quiet_add_same (full_any ga _ _ (a5n _))) | (go_at_call 16; with_reducible exact Calls.quiet_of_same (full_any ga _ _ (a5n _))) | (go_at_call 17; with_reducible exact Calls.quiet_of_same (rate_any ga _ _ a5)) | (go_at_call 17; with_reducible exact quiet_add_same (rate_any ga _ _ (a5n _))) | (go_at_call 17; with_reducible exact Calls.quiet_of_same (rate_any ga _ _ (a5n _))))))
              all_goals go_roundw
              all_goals first
                | exact ⟨k + 1, _, by omega, by omega, by go_num, A5.out, OK, (fun _ => .inl rfl), T5.out.drewN _⟩
                | exact ⟨k + 1, _, by omega, by omega, by go_num, A5.out, OK, (fun _ => .inl rfl), T5.out⟩
                | (simp [intOf]; omega)
            · as_aux_lemma =>
              have hR : c1r = 4611686018427387904 := by omega
              have hMb : (c1m == 4611686018427387904) = false := by simpa using hM
              have hMc : (c1m != 4611686018427387904) = true := by simpa using hM
              clear hff
              subst hR
              clear hM
              go_wp2_with (first | (go_at_call 14; (with_reducible refine (mono_any ga _ _ a5).mono ?_); rintro e v9 ⟨rfl, rfl⟩) | (go_at_call 14; (with_reducible refine (mono_any ga _ _ (a5n _)).mono ?_); rintro e v9 ⟨rfl, rfl⟩) | (go_at_call 15; (with_reducible refine (raw_any ga _ _ a5).mono ?_); rintro e v9 ⟨rfl, rfl⟩) | (go_at_call 15; (with_reducible refine (raw_any ga _ _ (a5n _)).mono ?_); rintro e v9 ⟨rfl, rfl⟩) | (go_at_call 16; (with_reducible refine (full_any ga _ _ a5).mono ?_); rintro e v9 ⟨rfl, rfl⟩) | (go_at_call 16; (with_reducible refine (full_any ga _ _ (a5n _)).mono ?_); rintro e v9 ⟨rfl, rfl⟩) | (go_at_call 17; (with_reducible refine (rate_any ga _ _ a5).mono ?_); rintro e v9 ⟨rfl, rfl⟩) | (go_at_call 17; (with_reducible refine (rate_any ga _ _ (a5n _)).mono ?_); rintro e v9 ⟨rfl, rfl⟩) | (go_quiet (first | (go_at_call 14; with_reducible exact Calls.quiet_of_same (mono_any ga _ _ a5)) | (go_at_call 14; with_reducible exact quiet_add_same (mono_any ga _ _ (a5n _))) | (go_at_call 14; with_reducible exact Calls.quiet_of_same (mono_any ga _ _ (a5n _))) | (go_at_call 15; with_reducible exact Calls.quiet_of_same (raw_any ga _ _ a5)) | (go_at_call 15; with_reducible exact quiet_add_same (raw_any ga _ _ (a5n _))) | (go_at_call 15; with_reducible exact Calls.quiet_of_same (raw_any ga _ _ (a5n _))) | (go_at_call 16; with_reducible exact Calls.quiet_of_same (full_any ga _ _ a5)) | (go_at_call 16; with_reducible exact quiet_add_same (full_any ga _ _ (a5n _))) | (go_at_call 16; with_reducible exact Calls.quiet_of_same (full_any ga _ _ (a5n _))) | (go_at_call 17; with_reducible exact Calls.quiet_of_same (rate_any ga _ _ a5)) | (go_at_call 17; with_reducible exact quiet_add_same (rate_any ga _ _ (a5n _))) | (go_at_call 17; with_reducible exact Calls.quiet_of_same (rate_any ga _ _ (a5n _))))))
              all_goals go_roundw
              all_goals first
                | exact ⟨k + 1, _, by omega, by omega, by go_num, A5.out, OK, (fun _ => .inr rfl), T5.out.drewN _⟩
                | exact ⟨k + 1, _, by omega, by omega, by go_num, A5.out, OK, (fun _ => .inr rfl), T5.out⟩
                | (simp [intOf]; omega)
          · obtain ⟨c1r, c1m, c1t, c1x, c1f⟩ := c1
            simp only at hf p1 p2 p3 p4 p5 p6 p7 p8 hgo f1 f2 f3 f4
            subst hf
            have GO := Lib.hid hgo
            clear hgo
            go_wp2_with (first | (go_at_call 14; (with_reducible refine (mono_any ga _ _ ha1).mono ?_); rintro e v9 ⟨rfl, rfl⟩) | (go_at_call 15; (with_reducible refine (raw_any ga _ _ ha1).mono ?_); rintro e v9 ⟨rfl, rfl⟩) | (go_at_call 16; (with_reducible refine (full_any ga _ _ ha1).mono ?_); rintro e v9 ⟨rfl, rfl⟩) | (go_at_call 17; (with_reducible refine (rate_any ga _ _ ha1).mono ?_); rintro e v9 ⟨rfl, rfl⟩))
            refine (go_is _ _ _ ha1 GO.out OK ⟨d0, d1⟩).mono ?_
            rintro e v1 ⟨rfl, a5, s5⟩
            have y0 : v1.cell? ⟨wr.heap.size, 0, none⟩ = some (.int .i64 what) := s5.cell ((Blk.new wr 34 #[.int .i64 what, .int .i64 d]).cell 0) (by simp; omega)
            have y1 : v1.cell? ⟨wr.heap.size, 1, none⟩ = some (.int .i64 d) := s5.cell ((Blk.new wr 34 #[.int .i64 what, .int .i64 d]).cell 1) (by simp; omega)
            have t5 : Stp [] w v1 := ht1.far s5 (.inr hga)
            clear s5 ha1 ht1 ha ht
            have A5 := Lib.hid a5
            have T5 := Lib.hid t5
            have a5n : ∀ n, (⟨R, M, c1t, c1x, true⟩ : MS).at (v1.drewN n) ga := fun _ => a5
            clear t5
            have OK2 : MS.ok ⟨R, M, c1t, c1x, true⟩ := ⟨by simp only; omega, f2, by simp only; omega, f4, p5, p6, p7, p8⟩
            rcases f5 with rfl | rfl
            · as_aux_lemma =>
              go_wp2_with (first | (go_at_call 14; (with_reducible refine (mono_any ga _ _ a5).mono ?_); rintro e v9 ⟨rfl, rfl⟩) | (go_at_call 14; (with_reducible refine (mono_any ga _ _ (a5n _)).mono ?_); rintro e v9 ⟨rfl, rfl⟩) | (go_at_call 15; (with_reducible refine (raw_any ga _ _ a5).mono ?_); rintro e v9 ⟨rfl, rfl⟩) | (go_at_call 15; (with_reducible refine (raw_any ga _ _ (a5n _)).mono ?_); rintro e v9 ⟨rfl, rfl⟩) | (go_at_call 16; (with_reducible refine (full_any ga _ _ a5).mono ?_); rintro e v9 ⟨rfl, rfl⟩) | (go_at_call 16; (with_reducible refine (full_any ga _ _ (a5n _)).mono ?_); rintro e v9 ⟨rfl, rfl⟩) | (go_at_call 17; (with_reducible refine (rate_any ga _ _ a5).mono ?_); rintro e v9 ⟨rfl, rfl⟩) | (go_at_call 17; (with_reducible refine (rate_any ga _ _ (a5n _)).mono ?_); rintro e v9 ⟨rfl, rfl⟩) | (go_quiet (first | (go_at_call 14; with_reducible exact Calls.quiet_of_same (mono_any ga _ _ a5)) | (go_at_call 14; with_reducible exact quiet_add_same (mono_any ga _ _ (a5n _))) | (go_at_call 14; with_reducible exact Calls.quiet_of_same (mono_any ga _ _ (a5n _))) | (go_at_call 15; with_reducible exact Calls.quiet_of_same (raw_any ga _ _ a5)) | (go_at_call 15; with_reducible exact quiet_add_same (raw_any ga _ _ (a5n _))) | (go_at_call 15; with_reducible exact Calls.quiet_of_same (raw_any ga _ _ (a5n _))) | (go_at_call 16; with_reducible exact Calls.quiet_of_same (full_any ga _ _ a5)) | (go_at_call 16; with_reducible exact quiet_add_same (full_any ga _ _ (a5n _))) | (go_at_call 16; with_reducible exact Calls.quiet_of_same (full_any ga _ _ (a5n _))) | (go_at_call 17; with_reducible exact Calls.quiet_of_same (rate_any ga _ _ a5)) | (go_at_call 17; with_reducible exact quiet_add_same (rate_any ga _ _ (a5n _))) | (go_at_call 17; with_reducible exact Calls.quiet_of_same (rate_any ga _ _ (a5n _))))))
              all_goals go_roundw
              all_goals first
                | exact ⟨k + 1, _, by omega, by omega, by go_num, A5.out, OK2, (fun _ => .inl rfl), T5.out.drewN _⟩
                | exact ⟨k + 1, _, by omega, by omega, by go_num, A5.out, OK2, (fun _ => .inl rfl), T5.out⟩
                | (simp [intOf]; omega)
            · by_cases hM : M = 4611686018427387904
              · as_aux_lemma =>
                subst hM
                go_wp2_with (first | (go_at_call 14; (with_reducible refine (mono_any ga _ _ a5).mono ?_); rintro e v9 ⟨rfl, rfl⟩) | (go_at_call 14; (with_reducible refine (mono_any ga _ _ (a5n _)).mono ?_); rintro e v9 ⟨rfl, rfl⟩) | (go_at_call 15; (with_reducible refine (raw_any ga _ _ a5).mono ?_); rintro e v9 ⟨rfl, rfl⟩) | (go_at_call 15; (with_reducible refine (raw_any ga _ _ (a5n _)).mono ?_); rintro e v9 ⟨rfl, rfl⟩) | (go_at_call 16; (with_reducible refine (full_any ga _ _ a5).mono ?_); rintro e v9 ⟨rfl, rfl⟩) | (go_at_call 16; (with_reducible refine (full_any ga _ _ (a5n _)).mono ?_); rintro e v9 ⟨rfl, rfl⟩) | (go_at_call 17; (with_reducible refine (rate_any ga _ _ a5).mono ?_); rintro e v9 ⟨rfl, rfl⟩) | (go_at_call 17; (with_reducible refine (rate_any ga _ _ (a5n _)).mono ?_); rintro e v9 ⟨rfl, rfl⟩) | (go_quiet (first | (go_at_call 14; with_reducible exact Calls.quiet_of_same (mono_any ga _ _ a5)) | (go_at_call 14; with_reducible exact quiet_add_same (mono_any ga _ _ (a5n _))) | (go_at_call 14; with_reducible exact Calls.quiet_of_same (mono_any ga _ _ (a5n _))) | (go_at_call 15; with_reducible exact Calls.quiet_of_same (raw_any ga _ _ a5)) | (go_at_call 15; with_reducible exact quiet_add_same (raw_any ga _ _ (a5n _))) | (go_at_call 15; with_reducible exact Calls.quiet_of_same (raw_any ga _ _ (a5n _))) | (go_at_call 16; with_reducible exact Calls.quiet_of_same (full_any ga _ _ a5)) | (go_at_call 16; with_reducible exact quiet_add_same (full_any ga _ _ (a5n _))) | (go_at_call 16; with_reducible exact Calls.quiet_of_same (full_any ga _ _ (a5n _))) | (go_at_call 17; with_reducible exact Calls.quiet_of_same (rate_any ga _ _ a5)) | (go_at_call 17; with_reducible exact quiet_add_same (rate_any ga _ _ (a5n _))) | (go_at_call 17; with_reducible exact Calls.quiet_of_same (rate_any ga _ _ (a5n _))))))
                all_goals go_roundw
                all_goals first
                  | exact ⟨k + 1, _, by omega, by omega, by go_num, A5.out, OK2, (fun _ => .inr rfl), T5.out.drewN _⟩
                  | exact ⟨k + 1, _, by omega, by omega, by go_num, A5.out, OK2, (fun _ => .inr rfl), T5.out⟩
                  | (simp [intOf]; omega)
              · as_aux_lemma =>
                have hMb : (M == 4611686018427387904) = false := by simpa using hM
                have hMc : (M != 4611686018427387904) = true := by simpa using hM
                clear hM
                go_wp2_with (first | (go_at_call 14; (with_reducible refine (mono_any ga _ _ a5).mono ?_); rintro e v9 ⟨rfl, rfl⟩) | (go_at_call 14; (with_reducible refine (mono_any ga _ _ (a5n _)).mono ?_); rintro e v9 ⟨rfl, rfl⟩) | (go_at_call 15; (with_reducible refine (raw_any ga _ _ a5).mono ?_); rintro e v9 ⟨rfl, rfl⟩) | (go_at_call 15; (with_reducible refine (raw_any ga _ _ (a5n _)).mono ?_); rintro e v9 ⟨rfl, rfl⟩) | (go_at_call 16; (with_reducible refine (full_any ga _ _ a5).mono ?_); rintro e v9 ⟨rfl, rfl⟩) | (go_at_call 16; (with_reducible refine (full_any ga _ _ (a5n _)).mono ?_); rintro e v9 ⟨rfl, rfl⟩) | (go_at_call 17; (with_reducible refine (rate_any ga _ _ a5).mono ?_); rintro e v9 ⟨rfl, rfl⟩) | (go_at_call 17; (with_reducible refine (rate_any ga _ _ (a5n _)).mono ?_); rintro e v9 ⟨rfl, rfl⟩) | (go_quiet (first | (go_at_call 14; with_reducible exact Calls.quiet_of_same (mono_any ga _ _ a5)) | (go_at_call 14; with_reducible exact quiet_add_same (mono_any ga _ _ (a5n _))) | (go_at_call 14; with_reducible exact Calls.quiet_of_same (mono_any ga _ _ (a5n _))) | (go_at_call 15; with_reducible exact Calls.quiet_of_same (raw_any ga _ _ a5)) | (go_at_call 15; with_reducible exact quiet_add_same (raw_any ga _ _ (a5n _))) | (go_at_call 15; with_reducible exact Calls.quiet_of_same (raw_any ga _ _ (a5n _))) | (go_at_call 16; with_reducible exact Calls.quiet_of_same (full_any ga _ _ a5)) | (go_at_call 16; with_reducible exact quiet_add_same (full_any ga _ _ (a5n _))) | (go_at_call 16; with_reducible exact Calls.quiet_of_same (full_any ga _ _ (a5n _))) | (go_at_call 17; with_reducible exact Calls.quiet_of_same (rate_any ga _ _ a5)) | (go_at_call 17; with_reducible exact quiet_add_same (rate_any ga _ _ (a5n _))) | (go_at_call 17; with_reducible exact Calls.quiet_of_same (rate_any ga _ _ (a5n _))))))
                all_goals go_roundw
                all_goals first
                  | exact ⟨k + 1, _, by omega, by omega, by go_num, A5.out, OK2, (fun _ => .inr rfl), T5.out.drewN _⟩
                  | exact ⟨k + 1, _, by omega, by omega, by go_num, A5.out, OK2, (fun _ => .inr rfl), T5.out⟩
                  | (simp [intOf]; omega)
          · as_aux_lemma =>
            have OK2 : ∀ x, 0 ≤ x → x < 1000000000 → MS.ok ⟨c1.raw + d, c1.mono + g, c1.rate, x, false⟩ := fun x h0 h1 => ⟨by simp only; omega, by simp only; omega, by simp only; omega, by simp only; omega, p5, p6, h0, h1⟩
            have OK3 : MS.ok ⟨c1.raw + d, c1.mono + g, c1.rate, x, false⟩ := by have := MS.go_ok OK d; rw [hgo] at this; exact this
            clear OK2
            obtain ⟨c1r, c1m, c1t, c1x, c1f⟩ := c1
            simp only at hf p1 p2 p3 p4 p5 p6 p7 p8 hgo f1 f2 f3 f4 f5 OK3
            subst hf
            have GO := Lib.hid hgo
            clear hgo
            go_wp2_with (first | (go_at_call 14; (with_reducible refine (mono_any ga _ _ ha1).mono ?_); rintro e v9 ⟨rfl, rfl⟩) | (go_at_call 15; (with_reducible refine (raw_any ga _ _ ha1).mono ?_); rintro e v9 ⟨rfl, rfl⟩) | (go_at_call 16; (with_reducible refine (full_any ga _ _ ha1).mono ?_); rintro e v9 ⟨rfl, rfl⟩) | (go_at_call 17; (with_reducible refine (rate_any ga _ _ ha1).mono ?_); rintro e v9 ⟨rfl, rfl⟩))
            refine (go_is _ _ _ ha1 GO.out OK ⟨d0, d1⟩).mono ?_
            rintro e v1 ⟨rfl, a5, s5⟩
            have y0 : v1.cell? ⟨wr.heap.size, 0, none⟩ = some (.int .i64 what) := s5.cell ((Blk.new wr 34 #[.int .i64 what, .int .i64 d]).cell 0) (by simp; omega)
            have y1 : v1.cell? ⟨wr.heap.size, 1, none⟩ = some (.int .i64 d) := s5.cell ((Blk.new wr 34 #[.int .i64 what, .int .i64 d]).cell 1) (by simp; omega)
            have t5 : Stp [] w v1 := ht1.far s5 (.inr hga)
            clear s5 ha1 ht1 ha ht
            have A5 := Lib.hid a5
            have T5 := Lib.hid t5
            have a5n : ∀ n, (⟨c1r + d, c1m + g, c1t, x, false⟩ : MS).at (v1.drewN n) ga := fun _ => a5
            clear t5
            have q1 : IntKind.i64.wrap (c1m + g - c1m) = g := by rw [IntWalk.i64_in _ (by omega)]; omega
            have q2 : IntKind.i64.wrap (c1r + d - c1r) = d := by rw [IntWalk.i64_in _ (by omega)]; omega
            have q4 : d.tdiv 2000 = d / 2000 := Int.tdiv_eq_ediv_of_nonneg h2
            have q5 : IntKind.i64.wrap (d / 2000) = d / 2000 := IntWalk.i64_in _ (by omega)
            have q6 : IntKind.i64.wrap (d - d / 2000) = d - d / 2000 := IntWalk.i64_in _ (by omega)
            have q7 : IntKind.i64.wrap (d - d / 2000 - 1) = d - d / 2000 - 1 := IntWalk.i64_in _ (by omega)
            have q8 : IntKind.i64.wrap (d + d / 2000) = d + d / 2000 := IntWalk.i64_in _ (by omega)
            have q9 : IntKind.i64.wrap (d + d / 2000 + 1) = d + d / 2000 + 1 := IntWalk.i64_in _ (by omega)
            have g1 : decide (g < d - d / 2000 - 1) = false := decide_eq_false (by omega)
            have g2 : decide (d + d / 2000 + 1 < g) = false := decide_eq_false (by omega)
            have g3 : decide (g < 0) = false := decide_eq_false (by omega)
            go_wp2_with (first | (go_at_call 14; (with_reducible refine (mono_any ga _ _ a5).mono ?_); rintro e v9 ⟨rfl, rfl⟩) | (go_at_call 14; (with_reducible refine (mono_any ga _ _ (a5n _)).mono ?_); rintro e v9 ⟨rfl, rfl⟩) | (go_at_call 15; (with_reducible refine (raw_any ga _ _ a5).mono ?_); rintro e v9 ⟨rfl, rfl⟩) | (go_at_call 15; (with_reducible refine (raw_any ga _ _ (a5n _)).mono ?_); rintro e v9 ⟨rfl, rfl⟩) | (go_at_call 16; (with_reducible refine (full_any ga _ _ a5).mono ?_); rintro e v9 ⟨rfl, rfl⟩) | (go_at_call 16; (with_reducible refine (full_any ga _ _ (a5n _)).mono ?_); rintro e v9 ⟨rfl, rfl⟩) | (go_at_call 17; (with_reducible refine (rate_any ga _ _ a5).mono ?_); rintro e v9 ⟨rfl, rfl⟩) | (go_at_call 17; (with_reducible refine (rate_any ga _ _ (a5n _)).mono ?_); rintro e v9 ⟨rfl, rfl⟩) | (go_quiet (first | (go_at_call 14; with_reducible exact Calls.quiet_of_same (mono_any ga _ _ a5)) | (go_at_call 14; with_reducible exact quiet_add_same (mono_any ga _ _ (a5n _))) | (go_at_call 14; with_reducible exact Calls.quiet_of_same (mono_any ga _ _ (a5n _))) | (go_at_call 15; with_reducible exact Calls.quiet_of_same (raw_any ga _ _ a5)) | (go_at_call 15; with_reducible exact quiet_add_same (raw_any ga _ _ (a5n _))) | (go_at_call 15; with_reducible exact Calls.quiet_of_same (raw_any ga _ _ (a5n _))) | (go_at_call 16; with_reducible exact Calls.quiet_of_same (full_any ga _ _ a5)) | (go_at_call 16; with_reducible exact quiet_add_same (full_any ga _ _ (a5n _))) | (go_at_call 16; with_reducible exact Calls.quiet_of_same (full_any ga _ _ (a5n _))) | (go_at_call 17; with_reducible exact Calls.quiet_of_same (rate_any ga _ _ a5)) | (go_at_call 17; with_reducible exact quiet_add_same (rate_any ga _ _ (a5n _))) | (go_at_call 17; with_reducible exact Calls.quiet_of_same (rate_any ga _ _ (a5n _))))))
            all_goals go_roundw
            all_goals first
              | exact ⟨k + 1, _, by omega, by omega, by go_num, A5.out, OK3, (fun h => by cases h), T5.out.drewN _⟩
              | exact ⟨k + 1, _, by omega, by omega, by go_num, A5.out, OK3, (fun h => by cases h), T5.out⟩
              | (simp [intOf]; omega)
    · obtain rfl : k = n := by omega
      go_wp2
      go_ret
      exact ⟨rfl, ht⟩
end Go.Proofs.Ytmfjknpkogebmaa
