/- mono: the document's clock. -/
import Derived.Test.YtmfjknpkogebmaaMonoW
import Derived.Test.YtmfjknpkogebmaaDigW
import Derived.Test.YtmfjknpkogebmaaDigO
import Derived.Test.YtmfjknpkogebmaaDigT
import Derived.Test.YtmfjknpkogebmaaDigP
import Derived.Deep.RegionWith
namespace Go.Proofs.Ytmfjknpkogebmaa
open Go.RowKit
set_option linter.unusedVariables false
set_option linter.unusedSimpArgs false

def MS.rat (c : MS) (w : World) (g : Nat) : Prop := w.heap[g]? = some (.cells #[.int .i64 c.raw, .int .i64 c.mono, .int .i64 c.rate, .int .i64 c.rest, .bool c.full] 39 (0, 0))
theorem rs_cells {w : World} {g : Nat} {c : MS} (h : c.rat w g) : w.cell? ⟨g, 0, none⟩ = some (.int .i64 c.raw) ∧ w.cell? ⟨g, 1, none⟩ = some (.int .i64 c.mono) ∧ w.cell? ⟨g, 2, none⟩ = some (.int .i64 c.rate) ∧ w.cell? ⟨g, 3, none⟩ = some (.int .i64 c.rest) ∧ w.cell? ⟨g, 4, none⟩ = some (.bool c.full) := by
  have h' : w.heap[g]? = some (.cells #[.int .i64 c.raw, .int .i64 c.mono, .int .i64 c.rate, .int .i64 c.rest, .bool c.full] 39 (0, 0)) := h
  exact ⟨cell_at h' 0, cell_at h' 1, cell_at h' 2, cell_at h' 3, cell_at h' 4⟩
theorem rs_free {w : World} {g : Nat} {c : MS} (h : c.rat w g) : w.frozen? ⟨g, 0, none⟩ = false ∧ w.frozen? ⟨g, 1, none⟩ = false ∧ w.frozen? ⟨g, 2, none⟩ = false ∧ w.frozen? ⟨g, 3, none⟩ = false ∧ w.frozen? ⟨g, 4, none⟩ = false := by
  have h' : w.heap[g]? = some (.cells #[.int .i64 c.raw, .int .i64 c.mono, .int .i64 c.rate, .int .i64 c.rest, .bool c.full] 39 (0, 0)) := h
  exact ⟨free_at h' 0, free_at h' 1, free_at h' 2, free_at h' 3, free_at h' 4⟩
theorem MS.rat_stp {c : MS} {w w' : World} {g : Nat} (h : c.rat w g) (hs : Stp [] w w') : c.rat w' g := hs.at h (by simp)

/-- The digits' quotient and rest are what the clock goes on by. -/
theorem floor_parts {N q r : Int} (m : Bool) (hm : m = decide (N < 0)) (he : (if m then -N else N) = q * 1000000000 + r) (h0 : 0 ≤ r) (h1 : r < 1000000000) :
    N / 1000000000 = (if m then (if r = 0 then -q else -q - 1) else q) ∧ N % 1000000000 = (if m then (if r = 0 then 0 else 1000000000 - r) else r) := by
  cases m with
  | true =>
    simp at he
    by_cases h : r = 0
    · simp [h]
      omega
    · simp [h]
      omega
  | false =>
    simp at he
    simp
    omega
theorem new_big {w W w' : World} {x y : Value} (t : Stp [] w W) (s : Stp [] (W.alloc (.cells #[x, y] 58)) w') : Blk w' W.heap.size 58 #[x, y] ∧ w.heap.size ≤ W.heap.size :=
  ⟨s.at (Blk.new W 58 #[x, y]) (by simp), t.size⟩
theorem new_bigd {w W w' : World} {x y : Value} (t : Stp [] w W) (s : Stp [] (W.alloc (.cells #[x, y] 58)).drew w') : Blk w' W.heap.size 58 #[x, y] ∧ w.heap.size ≤ W.heap.size :=
  new_big t ⟨s.os, s.tape, s.output, s.size, s.block⟩
theorem fur_set {w w9 : World} {b n9 c9 : Nat} {m9 : Bool} {A9 : Option Addr} {v : Int} {P : World → Prop} (nb : Blk w9 b 58 #[.bool false, .slice none 0 0]) (nz : w.heap.size ≤ b) (d9 : Num w9 m9 A9 n9 c9 v) (t9 : Stp [] w w9)
    (h : ∀ Wf, Blk Wf b 58 #[.bool m9, .slice A9 n9 c9] → Num Wf m9 A9 n9 c9 v → Stp [] w Wf → P Wf) : P ((w9.setCell ⟨b, 0, none⟩ (.bool m9)).setCell ⟨b, 1, none⟩ (.slice A9 n9 c9)) :=
  h _ (big_set nb _ _) (d9.far nb (set_big _ _ _ _)) ((t9.setCell (p := ⟨b, 0, none⟩) (.inr nz) _).setCell (p := ⟨b, 1, none⟩) (.inr nz) _)
theorem fur_new {w w9 : World} {n9 c9 : Nat} {m9 : Bool} {A9 : Option Addr} {v : Int} {P : World → Prop} (d9 : Num w9 m9 A9 n9 c9 v) (t9 : Stp [] w w9)
    (h : ∀ Wf, Blk Wf w9.heap.size 58 #[.bool m9, .slice A9 n9 c9] → Num Wf m9 A9 n9 c9 v → Stp [] w Wf → P Wf) : P (w9.alloc (.cells #[.bool m9, .slice A9 n9 c9] 58)) :=
  h _ (Blk.new w9 _ _) (d9.stp ((Stp.refl [] w9).alloc _)) (t9.alloc _)
set_option maxHeartbeats 4000000 in
theorem rfurther_any (g : Nat) (c : MS) (d : Int) (w : World) (h : c.rat w g) (ok : c.ok) (hd : 0 ≤ d ∧ d ≤ 1125899906842624) :
    Calls Try.prog 26 #[.pointer (some ⟨g, 0, none⟩), .int .i64 d] w fun e w' => e = .returned (.tuple #[.int .i64 (c.gain d), .int .i64 (c.left d)]) ∧ Stp [] w w' := by
  obtain ⟨x0, x1, x2, x3, x4⟩ := rs_cells h
  obtain ⟨_, _, _, _, r0, r1, s0, s1⟩ := ok
  unfold MS.gain MS.left
  have hb := mul_bd (p := d) (P := 1125899906842624) (R := 500000) hd.1 hd.2 r0 r1
  have hfd := field_big
  clear h x0 x1 x4
  generalize c.rate = ra at *
  generalize c.rest = re at *
  obtain ⟨P, hP⟩ : ∃ P, d * ra = P := ⟨_, rfl⟩
  rw [hP] at hb ⊢
  have HB := Lib.hid (And.intro hb (And.intro hd (And.intro (And.intro r0 r1) (And.intro s0 s1))))
  have O := Lib.hid (fun (a : Int) (w : World) (ha : -9223372036854775808 ≤ a ∧ a ≤ 9223372036854775807) => dOf_any a w ha)
  clear hb hd r0 r1 s0 s1
  have K : ∀ w', Stp [] w w' → w'.cell? ⟨g, 2, none⟩ = some (.int .i64 ra) ∧ w'.cell? ⟨g, 3, none⟩ = some (.int .i64 re) ∧ Stp [] w w' := fun w' st => ⟨st.cell x2 (by simp), st.cell x3 (by simp), st⟩
  go_enter Try.func26, Try.ntmps26
  go_wp2_with fail
  go_region_held3 (fun w' => w'.cell? ⟨g, 2, none⟩ = some (.int .i64 ra) ∧ w'.cell? ⟨g, 3, none⟩ = some (.int .i64 re) ∧ Stp [] w w')
    (first | (go_split_ands; refine K _ ?_; first | assumption | exact (Stp.refl _ _).drew | exact Stp.refl _ _ | exact t9.alloc _ | exact (t9.setCell (.inr nz) _).setCell (.inr nz) _ | exact t9 | exact t8 | exact t7 | exact t6 | exact t5 | exact Stp.alloc (by assumption) _ | exact Stp.alloc (Stp.refl _ _).drew _))
    (first
      | (go_at_call_of 31 d; (with_reducible refine (O.out d _ (by have := HB.out; omega)).mono ?_); rintro e w5 ⟨m5, A5, n5, c5, rfl, d5, s5⟩; have t5 : Stp [] w w5 := (by first | exact Stp.trans (by assumption) s5 | (go_split_ands; exact Stp.trans (by assumption) s5)); (first | (have nq := new_big (w := w) (by first | exact Stp.refl _ _ | exact (Stp.refl _ _).drew) s5; obtain ⟨nb, nz⟩ := nq; obtain ⟨nb0, nb1, nf0, nf1⟩ := big_cells nb) | (have nq := new_bigd (w := w) (by first | exact Stp.refl _ _ | exact (Stp.refl _ _).drew) s5; obtain ⟨nb, nz⟩ := nq; obtain ⟨nb0, nb1, nf0, nf1⟩ := big_cells nb) | (have nb := s5.at nb (by simp); obtain ⟨nb0, nb1, nf0, nf1⟩ := big_cells nb) | skip))
      | (go_at_call_of 31 ra; (with_reducible refine (O.out ra _ (by have := HB.out; omega)).mono ?_); rintro e w6 ⟨m6, A6, n6, c6, rfl, d6, s6⟩; have d5' : Num w6 _ _ _ _ _ := (by first | exact d5.stp s6 | exact d5.stp (((Stp.refl _ _).alloc _).trans s6)); have t6 : Stp [] w w6 := (by first | exact Stp.trans (by assumption) s6 | (go_split_ands; exact Stp.trans (by assumption) s6)); (first | (have nq := new_big (w := w) (by first | exact Stp.refl _ _ | exact (Stp.refl _ _).drew | exact t5) s6; obtain ⟨nb, nz⟩ := nq; obtain ⟨nb0, nb1, nf0, nf1⟩ := big_cells nb) | (have nq := new_bigd (w := w) (by first | exact Stp.refl _ _ | exact (Stp.refl _ _).drew | exact t5) s6; obtain ⟨nb, nz⟩ := nq; obtain ⟨nb0, nb1, nf0, nf1⟩ := big_cells nb) | (have nb := s6.at nb (by simp); obtain ⟨nb0, nb1, nf0, nf1⟩ := big_cells nb) | skip))
      | (go_at_call 30; (with_reducible refine (dTimes_any _ _ _ _ _ _ _ _ _ _ _ (by first | exact d5' | exact d5'.stp ((Stp.refl _ _).alloc _)) (by first | exact d6 | exact d6.stp ((Stp.refl _ _).alloc _)) (by have := d5'.small (by have := HB.out; omega); omega) (by have := d6.small (by have := HB.out; omega); omega)).mono ?_); rintro e w7 ⟨m7, A7, n7, c7, rfl, d7, s7⟩; have t7 : Stp [] w w7 := (by first | exact Stp.trans (by assumption) s7 | (go_split_ands; exact Stp.trans (by assumption) s7)); (first | (have nq := new_big (w := w) (by first | exact Stp.refl _ _ | exact (Stp.refl _ _).drew | exact t5 | exact t6) s7; obtain ⟨nb, nz⟩ := nq; obtain ⟨nb0, nb1, nf0, nf1⟩ := big_cells nb) | (have nq := new_bigd (w := w) (by first | exact Stp.refl _ _ | exact (Stp.refl _ _).drew | exact t5 | exact t6) s7; obtain ⟨nb, nz⟩ := nq; obtain ⟨nb0, nb1, nf0, nf1⟩ := big_cells nb) | (have nb := s7.at nb (by simp); obtain ⟨nb0, nb1, nf0, nf1⟩ := big_cells nb) | skip))
      | (go_at_call_of 31 re; (with_reducible refine (O.out re _ (by have := HB.out; omega)).mono ?_); rintro e w8 ⟨m8, A8, n8, c8, rfl, d8, s8⟩; have d7' : Num w8 _ _ _ _ _ := (by first | exact d7.stp s8 | exact d7.stp (((Stp.refl _ _).alloc _).trans s8)); have t8 : Stp [] w w8 := (by first | exact Stp.trans (by assumption) s8 | (go_split_ands; exact Stp.trans (by assumption) s8)); (first | (have nq := new_big (w := w) (by first | exact Stp.refl _ _ | exact (Stp.refl _ _).drew | exact t5 | exact t6 | exact t7) s8; obtain ⟨nb, nz⟩ := nq; obtain ⟨nb0, nb1, nf0, nf1⟩ := big_cells nb) | (have nq := new_bigd (w := w) (by first | exact Stp.refl _ _ | exact (Stp.refl _ _).drew | exact t5 | exact t6 | exact t7) s8; obtain ⟨nb, nz⟩ := nq; obtain ⟨nb0, nb1, nf0, nf1⟩ := big_cells nb) | (have nb := s8.at nb (by simp); obtain ⟨nb0, nb1, nf0, nf1⟩ := big_cells nb) | skip))
      | (go_at_call 29; (with_reducible refine (dPlus_any _ _ _ _ _ _ _ _ _ _ _ (by first | exact d7' | exact d7'.stp ((Stp.refl _ _).alloc _)) (by first | exact d8 | exact d8.stp ((Stp.refl _ _).alloc _)) (by have := d7'.wide (by rw [hP]; have := HB.out; omega); omega) (by have := d8.small (by have := HB.out; omega); omega)).mono ?_); rintro e w9 ⟨m9, A9, n9, c9, rfl, d9, s9⟩; have t9 : Stp [] w w9 := (by first | exact Stp.trans (by assumption) s9 | (go_split_ands; exact Stp.trans (by assumption) s9)); (first | (have nq := new_big (w := w) (by first | exact Stp.refl _ _ | exact (Stp.refl _ _).drew | exact t5 | exact t6 | exact t7 | exact t8) s9; obtain ⟨nb, nz⟩ := nq; obtain ⟨nb0, nb1, nf0, nf1⟩ := big_cells nb) | (have nq := new_bigd (w := w) (by first | exact Stp.refl _ _ | exact (Stp.refl _ _).drew | exact t5 | exact t6 | exact t7 | exact t8) s9; obtain ⟨nb, nz⟩ := nq; obtain ⟨nb0, nb1, nf0, nf1⟩ := big_cells nb) | (have nb := s9.at nb (by simp); obtain ⟨nb0, nb1, nf0, nf1⟩ := big_cells nb) | skip)))
  all_goals
    rw [hP] at d9
    first
      | (refine fur_set (P := fun Wf => Exit.then _ _ Exit.normal _ Wf) nb nz d9 t9 ?_; intro Wf hB hN hS)
      | (refine fur_new (P := fun Wf => Exit.then _ _ Exit.normal _ Wf) d9 t9 ?_; intro Wf hB hN hS)
    clear K t9 d9 s9 x2 x3
    first
      | (have hq : Blk Wf w9.heap.size 58 _ := hB; clear hq; generalize w9.heap.size = bb at hB ⊢)
      | (have hq : Blk Wf w8.heap.size 58 _ := hB; clear hq; generalize w8.heap.size = bb at hB ⊢)
      | (have hq : Blk Wf w7.heap.size 58 _ := hB; clear hq; generalize w7.heap.size = bb at hB ⊢)
      | (have hq : Blk Wf w6.heap.size 58 _ := hB; clear hq; generalize w6.heap.size = bb at hB ⊢)
      | (have hq : Blk Wf w5.heap.size 58 _ := hB; clear hq; generalize w5.heap.size = bb at hB ⊢)
      | (have hq : Blk Wf w.heap.size 58 _ := hB; clear hq; generalize w.heap.size = bb at hB ⊢)
    all_goals
      have n9b := hN.wide (by have := HB.out; omega)
      have HM := Lib.hid hN.minus
      obtain ⟨la, h1, h2, h3, h4, h5, h6, h7, _, _⟩ := hN.facts
      have OV := Lib.hid (fun (A' : Option Addr) (n' c' : Nat) (lb : List Int) (w' : World) (hs : Stp [] Wf w') (hcr : CRow w' A' n' c' lb) (hv : dval lb = 1000000000) => (show Calls Try.prog 32 #[.slice A9 n9 c9, .slice A' n' c'] w' (OverAns la lb w') from dOver_any A9 A' n9 c9 n' c' la lb w' (h1.stp hs) hcr (by omega) (by omega) (by
        have h8 := hcr.2.2.2.len_le (n := 4) (by rw [hv, p65_4]; omega)
        have := hcr.1.2.1
        omega)))
      have LA := Lib.hid (show (if m9 then -(P + re) else (P + re)) = dval la from by
        cases m9 with
        | true => have := h6 rfl; simp; omega
        | false => have := h7 rfl; simp; omega)
      have K2 : ∀ w', Stp [] Wf w' → w'.cell? ⟨bb, 0, none⟩ = some (.bool m9) ∧ w'.cell? ⟨bb, 1, none⟩ = some (.slice A9 n9 c9) ∧ Stp [] Wf w' := fun w' st => ⟨(hB.stp st).cell 0, (hB.stp st).cell 1, st⟩
      have y0 := (K2 Wf (Stp.refl _ _)).1
      have y1 := (K2 Wf (Stp.refl _ _)).2.1
      clear h1 h2 h3 h4 h5 h6 h7 hN hB
      go_wp2_with fail
      go_region_held3 (fun w' => w'.cell? ⟨bb, 0, none⟩ = some (.bool m9) ∧ w'.cell? ⟨bb, 1, none⟩ = some (.slice A9 n9 c9) ∧ Stp [] Wf w')
        (first | (go_split_ands; refine K2 _ ?_; first | assumption | exact (Stp.refl _ _).drew | exact Stp.refl _ _ | exact Stp.trans (by assumption) s11 | exact Stp.trans (by assumption) s10))
        (first
          | (go_at_call 31; (with_reducible refine (O.out 1000000000 _ (by decide)).mono ?_); rintro e w10 ⟨m10, A10, n10, c10, rfl, d10, s10⟩; have np := num_pos d10 (by decide); obtain ⟨lb, cr10, v10⟩ := np)
          | (go_at_call 32; (with_reducible refine (OV.out _ _ _ lb _ (by first | assumption | (go_split_ands; assumption)) cr10 v10).mono ?_); rintro e w11 ⟨Q, nq, cq, lq, R, nr, cr, lr, rfl, cq11, cr11, e11, l11, s11⟩))
      all_goals
        have sW : Stp [] Wf w11 := by first | assumption | (go_split_ands; assumption)
        obtain ⟨z0, z1, _⟩ := K2 w11 sW
        have hlr := dval_nonneg cr11.2.2.2.1
        have hlq := dval_nonneg cq11.2.2.2.1
        have hla := LA.out
        rw [v10] at e11 l11
        rw [← hla] at e11
        have FP := floor_parts m9 HM.out e11 hlr l11
        have bq : dval lq ≤ 562949954421313 := by
          have := HB.out
          cases m9 <;> simp at e11 <;> omega
        have nqb : nq ≤ 4 := by
          rw [← cq11.1.2.1]
          exact cq11.2.2.2.len_le (by rw [p65_4]; omega)
        have nrb : nr ≤ 4 := by
          rw [← cr11.1.2.1]
          exact cr11.2.2.2.len_le (by rw [p65_4]; omega)
        have SS := Lib.hid (hS.trans sW)
        have I1 := Lib.hid (fun (w' : World) (hs : Stp [] w11 w') => dInt_any false Q nq cq (dval lq) w' ⟨lq, cq11.1.stp hs, by omega, cq11.2.1, cq11.2.2.1, rfl⟩)
        have I2 := Lib.hid (fun (w' : World) (hs : Stp [] w11 w') => dInt_any false R nr cr (dval lr) w' ⟨lr, cr11.1.stp hs, by omega, cr11.2.1, cr11.2.2.1, rfl⟩)
        have ft1 : fits (dval lq) := by unfold fits; omega
        have ft2 : fits (dval lr) := by unfold fits; omega
        have FT := Lib.hid (And.intro ft1 ft2)
        have FPH := Lib.hid FP
        have HD := Lib.hid HB.out.2.1
        generalize dval lq = q at *
        generalize dval lr = r at *
        clear ft1 ft2 FP e11 hla cq11 cr11 cr10 v10 s11 K2 OV LA HM hS
        obtain ⟨hd0, hd1⟩ := HD.out
        go_wp2_with fail
        refine (I1.out _ (Stp.refl _ _)).mono ?_
        rintro e w12 ⟨x1, o1, rfl, g1, g2, s12⟩
        obtain ⟨rfl, rfl⟩ := g1 FT.out.1
        clear g1 g2
        go_wp2_with fail
        refine (I2.out _ s12).mono ?_
        rintro e w13 ⟨x2, o2, rfl, g1, g2, s13⟩
        obtain ⟨rfl, rfl⟩ := g1 FT.out.2
        clear g1 g2
        have u0 := (s12.trans s13).cell z0 (by simp)
        have fin := Lib.hid (SS.out.trans (s12.trans s13))
        clear s12 s13
        cases m9 with
        | false =>
          have F1 := Lib.hid (show d + x1 = d + (P + re) / 1000000000 ∧ x2 = (P + re) % 1000000000 by have := FPH.out; simp at this; omega)
          go_wp2_with fail
          go_ret2
          exact ⟨by rw [← F1.out.1, ← F1.out.2]; rfl, fin.out⟩
        | true =>
          by_cases hr0 : x2 = 0
          · subst hr0
            have F1 := Lib.hid (show d - x1 = d + (P + re) / 1000000000 ∧ (0 : Int) = (P + re) % 1000000000 by have := FPH.out; simp at this; omega)
            go_wp2_with fail
            go_ret2
            exact ⟨by rw [← F1.out.1, ← F1.out.2]; rfl, fin.out⟩
          · have hne : (x2 == 0) = false := by simp [hr0]
            have F1 := Lib.hid (show d - x1 - 1 = d + (P + re) / 1000000000 ∧ 1000000000 - x2 = (P + re) % 1000000000 by have := FPH.out; simp [hr0] at this; omega)
            go_wp2_with fail
            go_ret2
            exact ⟨by rw [← F1.out.1, ← F1.out.2]; rfl, fin.out⟩
end Go.Proofs.Ytmfjknpkogebmaa
