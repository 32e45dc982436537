/- loop: the document's loop: Update, Stepped, Set. -/
import Derived.Test.YtkohpeonnoegpaaLoopL
import Derived.Test.YtkohpeonnoegpaaLoopC1
import Derived.Test.YtkohpeonnoegpaaWallXL
import Derived.BigRegion
import Derived.Deep.RegionWith
import Derived.Deep.DeepCutAuto
namespace Go.Proofs.Ytkohpeonnoegpaa
open Go.RowKit
set_option linter.unusedVariables false
set_option linter.unusedSimpArgs false

def LS.rat (c : LS) (w : World) (g : Nat) : Prop := w.heap[g]? = some (.cells #[.int .i64 c.freq, .int .i64 c.rate, .int .i64 c.left, .int .i64 c.ups] 42 (0, 0))
theorem rl_cells {w : World} {g : Nat} {c : LS} (h : c.rat w g) : w.cell? ⟨g, 0, none⟩ = some (.int .i64 c.freq) ∧ w.cell? ⟨g, 1, none⟩ = some (.int .i64 c.rate) ∧ w.cell? ⟨g, 2, none⟩ = some (.int .i64 c.left) ∧ w.cell? ⟨g, 3, none⟩ = some (.int .i64 c.ups) := by
  have h' : w.heap[g]? = some (.cells #[.int .i64 c.freq, .int .i64 c.rate, .int .i64 c.left, .int .i64 c.ups] 42 (0, 0)) := h
  exact ⟨cell_at h' 0, cell_at h' 1, cell_at h' 2, cell_at h' 3⟩
theorem rl_free {w : World} {g : Nat} {c : LS} (h : c.rat w g) : w.frozen? ⟨g, 0, none⟩ = false ∧ w.frozen? ⟨g, 1, none⟩ = false ∧ w.frozen? ⟨g, 2, none⟩ = false ∧ w.frozen? ⟨g, 3, none⟩ = false := by
  have h' : w.heap[g]? = some (.cells #[.int .i64 c.freq, .int .i64 c.rate, .int .i64 c.left, .int .i64 c.ups] 42 (0, 0)) := h
  exact ⟨free_at h' 0, free_at h' 1, free_at h' 2, free_at h' 3⟩
theorem LS.rat_stp {c : LS} {w w' : World} {g : Nat} (h : c.rat w g) (hs : Stp [] w w') : c.rat w' g := hs.at h (by simp)

theorem rstepped_any (g : Nat) (c : LS) (w : World) (h : c.rat w g) :
    Calls Try.prog 19 #[.pointer (some ⟨g, 0, none⟩)] w fun e w' => (∃ v, e = .returned v) ∧ (LS.mk c.freq c.freq 0 c.ups).rat w' g ∧ Stp [g] w w' := by
  have hh := Lib.hid h
  obtain ⟨c0, c1, c2, c3⟩ := rl_cells h
  obtain ⟨z0, z1, z2, z3⟩ := rl_free h
  clear h
  go_enter Try.func19, Try.ntmps19
  go_wp2_with fail
  (try simp only [Exit.inBlock, Exit.then]); refine bodyPost_end (results_none rfl _ _ _) rfl ?_
  exact ⟨⟨_, rfl⟩, set_at (set_at hh.out 2 _) 1 _, ((Stp.refl _ _).setCell (p := ⟨g, 2, none⟩) (.inl (by simp)) _).setCell (p := ⟨g, 1, none⟩) (.inl (by simp)) _⟩
theorem rset_good (g : Nat) (c : LS) (f : Int) (w : World) (h : c.rat w g) (hf : -250000 ≤ f ∧ f ≤ 250000) :
    Calls Try.prog 20 #[.pointer (some ⟨g, 0, none⟩), .int .i64 f] w fun e w' => e = .returned (.int .i64 0) ∧ (LS.mk f f 0 c.ups).rat w' g ∧ Stp [g] w w' := by
  have hh := Lib.hid h
  obtain ⟨c0, c1, c2, c3⟩ := rl_cells h
  obtain ⟨z0, z1, z2, z3⟩ := rl_free h
  obtain ⟨hf0, hf1⟩ := hf
  clear h
  go_enter Try.func20, Try.ntmps20
  go_wp2_with fail
  refine (rstepped_any g ⟨f, c.rate, c.left, c.ups⟩ _ (set_at hh.out 0 _)).mono ?_
  rintro e w2 ⟨⟨v, rfl⟩, r2, s2⟩
  go_wp2_with fail
  go_ret
  exact ⟨rfl, r2, ((Stp.refl [g] w).setCell (p := ⟨g, 0, none⟩) (.inl (by simp)) _).trans s2⟩
theorem rset_bad (g : Nat) (c : LS) (f : Int) (w : World) (h : c.rat w g) (hf : f < -250000 ∨ 250000 < f) :
    Calls Try.prog 20 #[.pointer (some ⟨g, 0, none⟩), .int .i64 f] w fun e w' => e = .returned (.int .i64 1) ∧ w' = w := by
  have hc : 250000 < f ∨ ¬ 250000 < f ∧ f < -250000 := by omega
  clear h hf
  rcases hc with h1 | ⟨h1, h2⟩
  all_goals
    go_enter Try.func20, Try.ntmps20
    go_wp2_with fail
    go_ret
    exact ⟨rfl, rfl⟩
theorem rupdate_bad (g : Nat) (o el st : Int) (w : World) (hb : (1125899906842624 < o ∨ o < -1125899906842624) ∨ (el < 0 ∨ 1125899906842624 < el) ∨ (st < 0 ∨ 1125899906842624 < st)) :
    Calls Try.prog 18 #[.pointer (some ⟨g, 0, none⟩), .int .i64 o, .int .i64 el, .int .i64 st] w fun e w' => e = .returned (.tuple #[.int .i64 0, .int .i64 1]) ∧ w' = w := by
  have hc : 1125899906842624 < o ∨ (¬ 1125899906842624 < o ∧ o < -1125899906842624) ∨ (¬ 1125899906842624 < o ∧ ¬ o < -1125899906842624 ∧ el < 0) ∨ (¬ 1125899906842624 < o ∧ ¬ o < -1125899906842624 ∧ ¬ el < 0 ∧ 1125899906842624 < el) ∨ (¬ 1125899906842624 < o ∧ ¬ o < -1125899906842624 ∧ ¬ el < 0 ∧ ¬ 1125899906842624 < el ∧ st < 0) ∨ (¬ 1125899906842624 < o ∧ ¬ o < -1125899906842624 ∧ ¬ el < 0 ∧ ¬ 1125899906842624 < el ∧ ¬ st < 0 ∧ 1125899906842624 < st) := by omega
  clear hb
  rcases hc with h1 | ⟨h1, h2⟩ | ⟨h1, h2, h3⟩ | ⟨h1, h2, h3, h4⟩ | ⟨h1, h2, h3, h4, h5⟩ | ⟨h1, h2, h3, h4, h5, h6⟩
  all_goals
    go_enter Try.func18, Try.ntmps18
    go_wp2_with fail
    go_ret2
    exact ⟨rfl, rfl⟩
theorem LS.rat_raw {c : LS} {w : World} {g : Nat} (h : c.rat w g) : w.heap[g]? = some (.cells #[.int .i64 c.freq, .int .i64 c.rate, .int .i64 c.left, .int .i64 c.ups] 42 (0, 0)) := h

set_option maxHeartbeats 4000000 in
theorem rupdate_any (g : Nat) (c : LS) (o el st : Int) (w : World) (h : c.rat w g) (ok : c.ok) (ho : -1125899906842624 ≤ o ∧ o ≤ 1125899906842624) (he : 0 ≤ el ∧ el ≤ 1125899906842624) (hs : 0 ≤ st ∧ st ≤ 1125899906842624) (hu : c.ups < 4611686018427387904) :
    Calls Try.prog 18 #[.pointer (some ⟨g, 0, none⟩), .int .i64 o, .int .i64 el, .int .i64 st] w fun e w' => e = .returned (.tuple #[.int .i64 (c.next o el st).rate, .int .i64 0]) ∧ (c.next o el st).rat w' g ∧ Stp [g] w w' := by
  have hh := Lib.hid h
  obtain ⟨c0, c1, c2, c3⟩ := rl_cells h
  clear h
  obtain ⟨ho0, ho1⟩ := ho
  obtain ⟨he0, he1⟩ := he
  obtain ⟨hs0, hs1⟩ := hs
  obtain ⟨k0, k1, k2, k3, k4, k5, k6, k7⟩ := ok
  have lb := learn_ok (c := c) ⟨k0, k1, k2, k3, k4, k5, k6, k7⟩ o el
  have sb := slewed_bd (c.rate - c.freq) el he0 he1
  have SL := Lib.hid (fun (w' : World) => rslewed_any (c.rate - c.freq) el w' (by omega) (by omega))
  have hr : c.rest el = c.left - slewedS (c.rate - c.freq) el := rfl
  obtain ⟨F1, hF1⟩ : ∃ F1, c.learn o el = F1 := ⟨_, rfl⟩
  rw [hF1] at lb
  have hLE : c.learn o el = if 0 < c.ups ∧ 1000000000 ≤ el then clampS (c.freq + (o - c.rest el) * 1000000000 / (2 * el)) (-250000) 250000 else c.freq := rfl
  rw [hF1, hr] at hLE
  have hFL := Lib.hid hF1
  clear hr hF1
  generalize slewedS (c.rate - c.freq) el = sl at *
  have wz1 : IntKind.i64.wrap (c.rate - c.freq) = c.rate - c.freq := IntWalk.i64_in _ (by omega)
  have wz2 : IntKind.i64.wrap (c.left - sl) = c.left - sl := IntWalk.i64_in _ (by omega)
  have HLE := Lib.hid hLE
  clear hLE
  go_enter Try.func18, Try.ntmps18
  go_wp2_with fail
  go_region_held3 (fun w' => w'.cell? ⟨g, 0, none⟩ = some (.int .i64 c.freq) ∧ w'.cell? ⟨g, 1, none⟩ = some (.int .i64 c.rate) ∧ w'.cell? ⟨g, 2, none⟩ = some (.int .i64 c.left))
    (first | exact ⟨c0, c1, c2⟩ | exact ⟨s1.cell c0 (by simp), s1.cell c1 (by simp), s1.cell c2 (by simp)⟩)
    (first | (go_at_call 35; (with_reducible refine (SL.out _).mono ?_); rintro e w1 ⟨rfl, s1'⟩; have s1 : Stp [] w w1 := (by first | exact s1' | exact ⟨s1'.os, s1'.tape, s1'.output, s1'.size, s1'.block⟩)))
  all_goals
    have H1 := Lib.hid (LS.rat_stp hh.out s1)
    have T1 := Lib.hid s1
    obtain ⟨x0, x1, x2, x3⟩ := rl_cells H1.out
    obtain ⟨f0, f1, f2, f3⟩ := rl_free H1.out
    clear c0 c1 c2 c3 SL s1 s1' wz1 wz2
    by_cases hl : 0 < c.ups ∧ 1000000000 ≤ el
    · have hE := HLE.out
      rw [if_pos hl] at hE
      obtain ⟨hl0, hl1⟩ := hl
      have LN := rlearned_any c.freq (o - (c.left - sl)) el w1 ⟨k0, k1⟩ (by omega) ⟨hl1, he1⟩
      rw [← hE] at LN
      clear hE HLE
      go_wp2_with fail
      refine LN.mono ?_
      rintro e w2 ⟨rfl, s2⟩
      have H2 := Lib.hid (LS.rat_raw (LS.rat_stp H1.out s2))
      have T2 := Lib.hid (T1.out.trans s2)
      clear x0 x1 x2 x3 f0 f1 f2 f3 LN
      obtain ⟨x0, x1, x2, x3⟩ := rl_cells (LS.rat_stp H1.out s2)
      obtain ⟨f0, f1, f2, f3⟩ := rl_free (LS.rat_stp H1.out s2)
      clear H1 T1 s2 hh
      by_cases hst : st < 16000000000
      · as_aux_lemma =>
          have hmx : max st 16000000000 = 16000000000 := by omega
          have RT := Lib.hid (fun (w' : World) => rrate_any o 16000000000 w' (by omega) (by omega))
          have NX : c.next o el st = ⟨F1, clampS (F1 + rateS o 16000000000) (-500000) 500000, o, c.ups + 1⟩ := by unfold LS.next; rw [hFL.out, hmx]
          have rb := rateS_bd o 16000000000
          have NXH := Lib.hid NX
          clear NX hmx
          generalize rateS o 16000000000 = rt at *
          have wz3 : IntKind.i64.wrap (F1 + rt) = F1 + rt := IntWalk.i64_in _ (by omega)
          have fin0 := set_at (set_at (set_at H2.out 0 (.int .i64 F1)) 3 (.int .i64 (c.ups + 1))) 2 (.int .i64 o)
          simp only [List.setIfInBounds_toArray, List.set_cons_zero, List.set_cons_succ] at fin0
          have T0 : Stp [g] w (((w2.setCell ⟨g, 0, none⟩ (.int .i64 F1)).setCell ⟨g, 3, none⟩ (.int .i64 (c.ups + 1))).setCell ⟨g, 2, none⟩ (.int .i64 o)) := ((T2.out.of_nil.setCell (p := ⟨g, 0, none⟩) (.inl (by simp)) _).setCell (p := ⟨g, 3, none⟩) (.inl (by simp)) _).setCell (p := ⟨g, 2, none⟩) (.inl (by simp)) _
          go_wp2_with fail
          generalize (((w2.setCell ⟨g, 0, none⟩ (.int .i64 F1)).setCell ⟨g, 3, none⟩ (.int .i64 (c.ups + 1))).setCell ⟨g, 2, none⟩ (.int .i64 o)) = W3 at *
          clear x0 x1 x2 x3 f0 f1 f2 f3
          have R3 : (LS.mk F1 c.rate o (c.ups + 1)).rat W3 g := fin0
          clear fin0
          obtain ⟨x0, x1, x2, x3⟩ := rl_cells R3
          obtain ⟨f0, f1, f2, f3⟩ := rl_free R3
          go_region_held3 (fun w' => w'.cell? ⟨g, 0, none⟩ = some (.int .i64 F1))
            (first | exact x0 | exact s5.cell x0 (by simp) | exact y0 | exact cell_at (set_at (LS.rat_raw R5) 1 _) 0)
            (first
              | (go_at_call 38; (with_reducible refine (RT.out _).mono ?_); rintro e w5 ⟨rfl, s5'⟩; have s5 : Stp [] W3 w5 := (by first | exact s5' | exact ⟨s5'.os, s5'.tape, s5'.output, s5'.size, s5'.block⟩); have R5 := LS.rat_stp R3 s5; obtain ⟨y0, y1, y2, y3⟩ := rl_cells R5; obtain ⟨v0, v1, v2, v3⟩ := rl_free R5)
              | (go_at_call 37; (with_reducible refine (rcut_any _ 500000 _ (by decide)).mono ?_); rintro e w5 ⟨rfl, rfl⟩))
          all_goals
            have fin1 := set_at (LS.rat_raw R5) 1 (.int .i64 (clampS (F1 + rt) (-500000) 500000))
            have T1 : Stp [g] w (w5.setCell ⟨g, 1, none⟩ (.int .i64 (clampS (F1 + rt) (-500000) 500000))) := (T0.trans s5.of_nil).setCell (p := ⟨g, 1, none⟩) (.inl (by simp)) _
            go_wp2_with fail
            go_ret2
            rw [NXH.out]
            exact ⟨rfl, fin1, T1⟩
      · as_aux_lemma =>
          have hmx : max st 16000000000 = st := by omega
          have RT := Lib.hid (fun (w' : World) => rrate_any o st w' (by omega) (by omega))
          have NX : c.next o el st = ⟨F1, clampS (F1 + rateS o st) (-500000) 500000, o, c.ups + 1⟩ := by unfold LS.next; rw [hFL.out, hmx]
          have rb := rateS_bd o st
          have NXH := Lib.hid NX
          clear NX hmx
          generalize rateS o st = rt at *
          have wz3 : IntKind.i64.wrap (F1 + rt) = F1 + rt := IntWalk.i64_in _ (by omega)
          have fin0 := set_at (set_at (set_at H2.out 0 (.int .i64 F1)) 3 (.int .i64 (c.ups + 1))) 2 (.int .i64 o)
          simp only [List.setIfInBounds_toArray, List.set_cons_zero, List.set_cons_succ] at fin0
          have T0 : Stp [g] w (((w2.setCell ⟨g, 0, none⟩ (.int .i64 F1)).setCell ⟨g, 3, none⟩ (.int .i64 (c.ups + 1))).setCell ⟨g, 2, none⟩ (.int .i64 o)) := ((T2.out.of_nil.setCell (p := ⟨g, 0, none⟩) (.inl (by simp)) _).setCell (p := ⟨g, 3, none⟩) (.inl (by simp)) _).setCell (p := ⟨g, 2, none⟩) (.inl (by simp)) _
          go_wp2_with fail
          generalize (((w2.setCell ⟨g, 0, none⟩ (.int .i64 F1)).setCell ⟨g, 3, none⟩ (.int .i64 (c.ups + 1))).setCell ⟨g, 2, none⟩ (.int .i64 o)) = W3 at *
          clear x0 x1 x2 x3 f0 f1 f2 f3
          have R3 : (LS.mk F1 c.rate o (c.ups + 1)).rat W3 g := fin0
          clear fin0
          obtain ⟨x0, x1, x2, x3⟩ := rl_cells R3
          obtain ⟨f0, f1, f2, f3⟩ := rl_free R3
          go_region_held3 (fun w' => w'.cell? ⟨g, 0, none⟩ = some (.int .i64 F1))
            (first | exact x0 | exact s5.cell x0 (by simp) | exact y0 | exact cell_at (set_at (LS.rat_raw R5) 1 _) 0)
            (first
              | (go_at_call 38; (with_reducible refine (RT.out _).mono ?_); rintro e w5 ⟨rfl, s5'⟩; have s5 : Stp [] W3 w5 := (by first | exact s5' | exact ⟨s5'.os, s5'.tape, s5'.output, s5'.size, s5'.block⟩); have R5 := LS.rat_stp R3 s5; obtain ⟨y0, y1, y2, y3⟩ := rl_cells R5; obtain ⟨v0, v1, v2, v3⟩ := rl_free R5)
              | (go_at_call 37; (with_reducible refine (rcut_any _ 500000 _ (by decide)).mono ?_); rintro e w5 ⟨rfl, rfl⟩))
          all_goals
            have fin1 := set_at (LS.rat_raw R5) 1 (.int .i64 (clampS (F1 + rt) (-500000) 500000))
            have T1 : Stp [g] w (w5.setCell ⟨g, 1, none⟩ (.int .i64 (clampS (F1 + rt) (-500000) 500000))) := (T0.trans s5.of_nil).setCell (p := ⟨g, 1, none⟩) (.inl (by simp)) _
            go_wp2_with fail
            go_ret2
            rw [NXH.out]
            exact ⟨rfl, fin1, T1⟩
    · have hE := HLE.out
      rw [if_neg hl] at hE
      subst hE
      have H2 := Lib.hid (LS.rat_raw H1.out)
      have T2 := T1
      have hl' : c.ups ≤ 0 ∨ 0 < c.ups ∧ el < 1000000000 := by omega
      clear hl H1 T1 hh HLE
      rcases hl' with hl0 | ⟨hl0, hl1⟩
      all_goals
        by_cases hst : st < 16000000000
        · as_aux_lemma =>
            have hmx : max st 16000000000 = 16000000000 := by omega
            have RT := Lib.hid (fun (w' : World) => rrate_any o 16000000000 w' (by omega) (by omega))
            have NX : c.next o el st = ⟨c.freq, clampS (c.freq + rateS o 16000000000) (-500000) 500000, o, c.ups + 1⟩ := by unfold LS.next; rw [hFL.out, hmx]
            have rb := rateS_bd o 16000000000
            have NXH := Lib.hid NX
            clear NX hmx
            generalize rateS o 16000000000 = rt at *
            have wz3 : IntKind.i64.wrap (c.freq + rt) = c.freq + rt := IntWalk.i64_in _ (by omega)
            have fin0 := set_at (set_at H2.out 3 (.int .i64 (c.ups + 1))) 2 (.int .i64 o)
            simp only [List.setIfInBounds_toArray, List.set_cons_zero, List.set_cons_succ] at fin0
            have T0 : Stp [g] w ((w1.setCell ⟨g, 3, none⟩ (.int .i64 (c.ups + 1))).setCell ⟨g, 2, none⟩ (.int .i64 o)) := (T2.out.of_nil.setCell (p := ⟨g, 3, none⟩) (.inl (by simp)) _).setCell (p := ⟨g, 2, none⟩) (.inl (by simp)) _
            go_wp2_with fail
            generalize ((w1.setCell ⟨g, 3, none⟩ (.int .i64 (c.ups + 1))).setCell ⟨g, 2, none⟩ (.int .i64 o)) = W3 at *
            clear x0 x1 x2 x3 f0 f1 f2 f3
            have R3 : (LS.mk c.freq c.rate o (c.ups + 1)).rat W3 g := fin0
            clear fin0
            obtain ⟨x0, x1, x2, x3⟩ := rl_cells R3
            obtain ⟨f0, f1, f2, f3⟩ := rl_free R3
            go_region_held3 (fun w' => w'.cell? ⟨g, 0, none⟩ = some (.int .i64 c.freq))
              (first | exact x0 | exact s5.cell x0 (by simp) | exact y0 | exact cell_at (set_at (LS.rat_raw R5) 1 _) 0)
              (first
                | (go_at_call 38; (with_reducible refine (RT.out _).mono ?_); rintro e w5 ⟨rfl, s5'⟩; have s5 : Stp [] W3 w5 := (by first | exact s5' | exact ⟨s5'.os, s5'.tape, s5'.output, s5'.size, s5'.block⟩); have R5 := LS.rat_stp R3 s5; obtain ⟨y0, y1, y2, y3⟩ := rl_cells R5; obtain ⟨v0, v1, v2, v3⟩ := rl_free R5)
                | (go_at_call 37; (with_reducible refine (rcut_any _ 500000 _ (by decide)).mono ?_); rintro e w5 ⟨rfl, rfl⟩))
            all_goals
              have fin1 := set_at (LS.rat_raw R5) 1 (.int .i64 (clampS (c.freq + rt) (-500000) 500000))
              have T1 : Stp [g] w (w5.setCell ⟨g, 1, none⟩ (.int .i64 (clampS (c.freq + rt) (-500000) 500000))) := (T0.trans s5.of_nil).setCell (p := ⟨g, 1, none⟩) (.inl (by simp)) _
              go_wp2_with fail
              go_ret2
              rw [NXH.out]
              exact ⟨rfl, fin1, T1⟩
        · as_aux_lemma =>
            have hmx : max st 16000000000 = st := by omega
            have RT := Lib.hid (fun (w' : World) => rrate_any o st w' (by omega) (by omega))
            have NX : c.next o el st = ⟨c.freq, clampS (c.freq + rateS o st) (-500000) 500000, o, c.ups + 1⟩ := by unfold LS.next; rw [hFL.out, hmx]
            have rb := rateS_bd o st
            have NXH := Lib.hid NX
            clear NX hmx
            generalize rateS o st = rt at *
            have wz3 : IntKind.i64.wrap (c.freq + rt) = c.freq + rt := IntWalk.i64_in _ (by omega)
            have fin0 := set_at (set_at H2.out 3 (.int .i64 (c.ups + 1))) 2 (.int .i64 o)
            simp only [List.setIfInBounds_toArray, List.set_cons_zero, List.set_cons_succ] at fin0
            have T0 : Stp [g] w ((w1.setCell ⟨g, 3, none⟩ (.int .i64 (c.ups + 1))).setCell ⟨g, 2, none⟩ (.int .i64 o)) := (T2.out.of_nil.setCell (p := ⟨g, 3, none⟩) (.inl (by simp)) _).setCell (p := ⟨g, 2, none⟩) (.inl (by simp)) _
            go_wp2_with fail
            generalize ((w1.setCell ⟨g, 3, none⟩ (.int .i64 (c.ups + 1))).setCell ⟨g, 2, none⟩ (.int .i64 o)) = W3 at *
            clear x0 x1 x2 x3 f0 f1 f2 f3
            have R3 : (LS.mk c.freq c.rate o (c.ups + 1)).rat W3 g := fin0
            clear fin0
            obtain ⟨x0, x1, x2, x3⟩ := rl_cells R3
            obtain ⟨f0, f1, f2, f3⟩ := rl_free R3
            go_region_held3 (fun w' => w'.cell? ⟨g, 0, none⟩ = some (.int .i64 c.freq))
              (first | exact x0 | exact s5.cell x0 (by simp) | exact y0 | exact cell_at (set_at (LS.rat_raw R5) 1 _) 0)
              (first
                | (go_at_call 38; (with_reducible refine (RT.out _).mono ?_); rintro e w5 ⟨rfl, s5'⟩; have s5 : Stp [] W3 w5 := (by first | exact s5' | exact ⟨s5'.os, s5'.tape, s5'.output, s5'.size, s5'.block⟩); have R5 := LS.rat_stp R3 s5; obtain ⟨y0, y1, y2, y3⟩ := rl_cells R5; obtain ⟨v0, v1, v2, v3⟩ := rl_free R5)
                | (go_at_call 37; (with_reducible refine (rcut_any _ 500000 _ (by decide)).mono ?_); rintro e w5 ⟨rfl, rfl⟩))
            all_goals
              have fin1 := set_at (LS.rat_raw R5) 1 (.int .i64 (clampS (c.freq + rt) (-500000) 500000))
              have T1 : Stp [g] w (w5.setCell ⟨g, 1, none⟩ (.int .i64 (clampS (c.freq + rt) (-500000) 500000))) := (T0.trans s5.of_nil).setCell (p := ⟨g, 1, none⟩) (.inl (by simp)) _
              go_wp2_with fail
              go_ret2
              rw [NXH.out]
              exact ⟨rfl, fin1, T1⟩
end Go.Proofs.Ytkohpeonnoegpaa
