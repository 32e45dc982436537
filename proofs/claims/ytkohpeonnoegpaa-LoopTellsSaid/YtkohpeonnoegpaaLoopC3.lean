/- loop: Update. -/
import Derived.Test.YtkohpeonnoegpaaLoopC
import Derived.BigRegion
import Derived.Deep.RegionWith
import Derived.Deep.DeepCutAuto
import Derived.StillTailTactics
namespace Go.Proofs.Ytkohpeonnoegpaa
open Go.RowKit
set_option linter.unusedVariables false
set_option linter.unusedSimpArgs false

set_option maxRecDepth 100000 in
set_option maxHeartbeats 2000000 in
theorem update_short (g : Nat) (c : LS) (o el st : Int) (w : World) (h : c.at w g) (ok : c.ok) (ho : -1125899906842624 ≤ o ∧ o ≤ 1125899906842624) (he : 0 ≤ el ∧ el ≤ 1125899906842624) (hs : 0 ≤ st ∧ st ≤ 1125899906842624) (hu : c.ups < 4611686018427387904) (hl0 : 0 < c.ups) (hl : el < 1000000000) :
    Calls Try.prog 9 #[.pointer (some ⟨g, 0, none⟩), .int .i64 o, .int .i64 el, .int .i64 st] w fun e w' => e = .returned (.tuple #[.int .i64 (c.next o el st).rate, .int .i64 0]) ∧ (c.next o el st).at w' g ∧ Stp [g] w w' := by
  have lb := learn_ok ok o el
  have rb := rateS_bd o (max st 16000000000)
  have n1 := fun w => rate_any o (max st 16000000000) w (by omega) (by omega)
  have hN : c.next o el st = ⟨c.learn o el, clampS (c.learn o el + rateS o (max st 16000000000)) (-500000) 500000, o, c.ups + 1⟩ := rfl
  rw [hN]
  clear hN
  generalize rateS o (max st 16000000000) = r at *
  obtain ⟨f, hf⟩ : ∃ f, c.learn o el = f := ⟨_, rfl⟩
  rw [hf] at lb ⊢
  have n2 := fun w => within_any (f + r) 500000 w (by decide)
  have hw : IntKind.i64.wrap (f + r) = f + r := IntWalk.i64_in _ (by omega)
  generalize clampS (f + r) (-500000) 500000 = v9 at *
  have N := Lib.hid (And.intro n1 (And.intro n2 hf))
  clear n1 n2 hf
  obtain ⟨lb0, lb1⟩ := lb
  obtain ⟨rb0, rb1⟩ := rb
  obtain ⟨c0, c1, c2, c3, c4⟩ := ls_cells h
  obtain ⟨z0, z1, z2, z3⟩ := ls_free h
  have OK := Lib.hid ok
  obtain ⟨f0, f1, r0, r1, l0, l1, u0, u1⟩ := ok
  have H := Lib.hid h
  have a1 := fun w => abs_any o w (by omega)
  have e0 : spanB (absS o) = true := by
    have : 0 ≤ absS o ∧ absS o ≤ 1125899906842624 := by unfold absS; (repeat' split) <;> omega
    exact decide_eq_true this
  have s1 := fun w => span_any (absS o) w
  rw [e0] at s1
  have e1 : spanB el = true := decide_eq_true he
  have s2 := fun w => span_any el w
  rw [e1] at s2
  have e2 : spanB st = true := decide_eq_true hs
  have s3 := fun w => span_any st w
  rw [e2] at s3
  generalize absS o = ao at *
  obtain ⟨he0, he1⟩ := he
  obtain ⟨hs0, hs1⟩ := hs
  have sb := slewed_bd (c.rate - c.freq) el he0 he1
  have s4 := fun w => slewed_any (c.rate - c.freq) el w
  have hst : ∀ w' , Stp [] w w' → c.at w' g := fun w' s => s.at h (by simp)
  have hw1 : IntKind.i64.wrap (c.rate - c.freq) = c.rate - c.freq := IntWalk.i64_in _ (by omega)
  have hw2 : IntKind.i64.wrap (c.left - slewedS (c.rate - c.freq) el) = c.left - slewedS (c.rate - c.freq) el := IntWalk.i64_in _ (by omega)
  obtain ⟨x, hx⟩ : ∃ x, slewedS (c.rate - c.freq) el = x := ⟨_, rfl⟩
  rw [hx] at sb s4 hw2
  have C := Lib.hid (And.intro a1 (And.intro s1 (And.intro s2 (And.intro s3 (And.intro s4 (And.intro hx hst))))))
  clear h a1 s1 s2 s3 s4 e0 e1 e2 hx hst
  go_enter Try.func9, Try.ntmps9
  go_wp2_with fail
  refine (none_ptr _ _ _ H.out).mono ?_
  rintro e w1 ⟨rfl, rfl⟩
  go_wp2_with fail
  refine (C.out.1 _).mono ?_
  rintro e w1 ⟨rfl, rfl⟩
  go_wp2_with fail
  refine (C.out.2.1 _).mono ?_
  rintro e w1 ⟨rfl, rfl⟩
  go_wp2_with fail
  refine (C.out.2.2.1 _).mono ?_
  rintro e w1 ⟨rfl, rfl⟩
  go_wp2_with fail
  refine (C.out.2.2.2.1 _).mono ?_
  rintro e w1 ⟨rfl, rfl⟩
  go_wp2_with fail
  go_cut [] (fun wx => (LS.mk c.freq c.rate (c.left - x) c.ups).at wx g ∧ Stp [g] w1 wx)
  case first =>
    go_region_with (first | (go_at_call 25; refine (C.out.2.2.2.2.1 _).mono ?_; rintro e w2 ⟨rfl, s⟩; have y0 := (ls_cells (C.out.2.2.2.2.2.2 _ s.of_drewN)).1; have y1 := (ls_cells (C.out.2.2.2.2.2.2 _ s.of_drewN)).2.1; have y2 := (ls_cells (C.out.2.2.2.2.2.2 _ s.of_drewN)).2.2.1; have y3 := (ls_free (C.out.2.2.2.2.2.2 _ s.of_drewN)).2.2.1) | (go_at_call 25; refine (C.out.2.2.2.2.1 _).mono ?_; rintro e w2 ⟨rfl, s⟩; have y0 := (ls_cells (C.out.2.2.2.2.2.2 _ s)).1; have y1 := (ls_cells (C.out.2.2.2.2.2.2 _ s)).2.1; have y2 := (ls_cells (C.out.2.2.2.2.2.2 _ s)).2.2.1; have y3 := (ls_free (C.out.2.2.2.2.2.2 _ s)).2.2.1))
    all_goals go_wp2_with fail
    all_goals go_meet
    all_goals first
      | exact ⟨set_at (C.out.2.2.2.2.2.2 _ s.of_drewN) 2 _, ((s.of_drewN.of_nil.setCell (p := ⟨g, 2, none⟩) (.inl (by simp)) _))⟩
      | exact ⟨set_at (C.out.2.2.2.2.2.2 _ s) 2 _, ((s.of_nil.setCell (p := ⟨g, 2, none⟩) (.inl (by simp)) _))⟩
      | exact ⟨set_at (C.out.2.2.2.2.2.2 _ s.of_drewN) 2 _, ((s.of_drewN.of_nil.setCell (p := ⟨g, 2, none⟩) (.inl (by simp)) _)).drewN _⟩
      | exact ⟨set_at (C.out.2.2.2.2.2.2 _ s) 2 _, ((s.of_nil.setCell (p := ⟨g, 2, none⟩) (.inl (by simp)) _)).drewN _⟩
      | exact ⟨set_at (C.out.2.2.2.2.2.2 _ s) 2 _, ((s.of_nil.setCell (p := ⟨g, 2, none⟩) (.inl (by simp)) _)).drew⟩
  case rest =>
    obtain ⟨hat, hst⟩ := hcut
    have HAT0 := Lib.hid hat
    have HST0 := Lib.hid hst
    obtain ⟨d0, d1, d2, d3, d4⟩ := ls_cells hat
    obtain ⟨t0, t1, t2, t3⟩ := ls_free hat
    have hrest : c.rest el = c.left - x := by unfold LS.rest; rw [C.out.2.2.2.2.2.1]
    have HR := Lib.hid hrest
    clear hat hst hrest c0 c1 c2 c3 c4 z0 z1 z2 z3 hw1 hw2
    obtain ⟨sb0, sb1⟩ := sb
    have e1 : c.learn o el = c.freq := by unfold LS.learn; rw [if_neg (by omega)]
    have E1 := Lib.hid e1
    clear e1
    go_wp2_with fail
    have hat : (LS.mk f c.rate o (c.ups + 1)).at ((wc.setCell ⟨g, 3, none⟩ (.int .i64 (c.ups + 1))).setCell ⟨g, 2, none⟩ (.int .i64 o)) g := by rw [← N.out.2.2, E1.out]; exact set_at (set_at HAT0.out 3 _) 2 _
    have hst : Stp [g] w1 ((wc.setCell ⟨g, 3, none⟩ (.int .i64 (c.ups + 1))).setCell ⟨g, 2, none⟩ (.int .i64 o)) := ((HST0.out.setCell (p := ⟨g, 3, none⟩) (.inl (by simp)) _).setCell (p := ⟨g, 2, none⟩) (.inl (by simp)) _)
    generalize ((wc.setCell ⟨g, 3, none⟩ (.int .i64 (c.ups + 1))).setCell ⟨g, 2, none⟩ (.int .i64 o)) = wd at hat hst ⊢
    have HAT := Lib.hid hat
    have HST := Lib.hid hst
    clear d0 d1 d2 d3 d4 t0 t1 t2 t3
    obtain ⟨d0, d1, d2, d3, d4⟩ := ls_cells hat
    obtain ⟨t0, t1, t2, t3⟩ := ls_free hat
    have hat2 : ∀ w', Stp [] wd w' → (LS.mk f c.rate o (c.ups + 1)).at w' g := fun w' s => s.at HAT.out (by simp)
    have M2 := Lib.hid (And.intro N.out.1 (And.intro N.out.2.1 hat2))
    clear hat hst hat2 C H
    go_region_with (first | (go_at_call 29; refine (M2.out.1 _).mono ?_; rintro e w2 ⟨rfl, s⟩; have y0 := (ls_cells (M2.out.2.2 _ s.of_drewN)).1; have y1 := (ls_cells (M2.out.2.2 _ s.of_drewN)).2.1; have y3 := (ls_free (M2.out.2.2 _ s.of_drewN)).2.1) | (go_at_call 29; refine (M2.out.1 _).mono ?_; rintro e w2 ⟨rfl, s⟩; have y0 := (ls_cells (M2.out.2.2 _ s)).1; have y1 := (ls_cells (M2.out.2.2 _ s)).2.1; have y3 := (ls_free (M2.out.2.2 _ s)).2.1) | (go_at_call 27; refine (M2.out.2.1 _).mono ?_; rintro e w3 ⟨rfl, rfl⟩))
    all_goals go_wp2_with fail
    all_goals go_ret2
    all_goals first
      | exact ⟨rfl, set_at (M2.out.2.2 _ s.of_drewN) 1 _, HST.out.trans ((s.of_drewN.of_nil.setCell (p := ⟨g, 1, none⟩) (.inl (by simp)) _))⟩
      | exact ⟨rfl, set_at (M2.out.2.2 _ s) 1 _, HST.out.trans ((s.of_nil.setCell (p := ⟨g, 1, none⟩) (.inl (by simp)) _))⟩
      | exact ⟨rfl, set_at (M2.out.2.2 _ s.of_drewN) 1 _, HST.out.trans ((s.of_drewN.of_nil.setCell (p := ⟨g, 1, none⟩) (.inl (by simp)) _).drewN _)⟩
      | exact ⟨rfl, set_at (M2.out.2.2 _ s) 1 _, HST.out.trans ((s.of_nil.setCell (p := ⟨g, 1, none⟩) (.inl (by simp)) _).drewN _)⟩
end Go.Proofs.Ytkohpeonnoegpaa
