/- loop: the document's loop: what is learned. -/
import Derived.Test.YtkohpeonnoegpaaLoopC
import Derived.Test.YtkohpeonnoegpaaDigW
import Derived.Test.YtkohpeonnoegpaaDigO
import Derived.Test.YtkohpeonnoegpaaDigT
import Derived.Test.YtkohpeonnoegpaaDigP
import Derived.Test.YtkohpeonnoegpaaDigMin
import Derived.Deep.RegionWith
import Derived.Deep.RegionHeld3
namespace Go.Proofs.Ytkohpeonnoegpaa
open Go.RowKit
set_option linter.unusedVariables false
set_option linter.unusedSimpArgs false

theorem rcut_any (r m : Int) (w : World) (hm : 0 ≤ m ∧ m ≤ 1000000) :
    Calls Try.prog 37 #[.int .i64 r, .int .i64 m] w fun e w' => e = .returned (.int .i64 (clampS r (-m) m)) ∧ w' = w := by
  obtain ⟨m0, m1⟩ := hm
  unfold clampS
  by_cases h1 : m < r
  · have e : (if r < -m then -m else if m < r then m else r) = m := by (repeat' split) <;> omega
    rw [e]
    clear e
    go_enter Try.func37, Try.ntmps37
    go_wp2_with fail
    go_ret
    exact ⟨rfl, rfl⟩
  · by_cases h2 : r < -m
    · rw [if_pos h2]
      go_enter Try.func37, Try.ntmps37
      go_wp2_with fail
      go_ret
      exact ⟨rfl, rfl⟩
    · rw [if_neg h2, if_neg h1]
      go_enter Try.func37, Try.ntmps37
      go_wp2_with fail
      go_ret
      exact ⟨rfl, rfl⟩

theorem floor_of {N d q r : Int} (m : Bool) (hm : m = decide (N < 0)) (he : (if m then -N else N) = q * d + r) (h0 : 0 ≤ r) (h1 : r < d) :
    N / d = if m then (if r = 0 then -q else -(q + 1)) else q := by
  have hd : 0 < d := by omega
  cases m with
  | true =>
    simp at he
    by_cases h : r = 0
    · simp [h]
      subst h
      have : N = -q * d := by rw [Int.neg_mul]; omega
      rw [this, Int.mul_ediv_cancel _ (by omega)]
    · simp [h]
      have e : N = (d - r) + (-(q + 1)) * d := by rw [Int.neg_mul, Int.add_mul]; omega
      rw [e, Int.add_mul_ediv_right _ _ (by omega), Int.ediv_eq_zero_of_lt (by omega) (by omega)]
      omega
  | false =>
    simp at he
    simp
    have e : N = r + q * d := by omega
    rw [e, Int.add_mul_ediv_right _ _ (by omega), Int.ediv_eq_zero_of_lt h0 h1]
    omega
theorem CRow.num {w : World} {A : Option Addr} {n c : Nat} {l : List Int} (h : CRow w A n c l) : Num w false A n c (dval l) := ⟨l, h.1, h.2.1, h.2.2.1, h.2.2.2, fun _ => rfl, rfl⟩

set_option maxHeartbeats 4000000 in
theorem rlearned_any (f ne el : Int) (w : World) (hf : -250000 ≤ f ∧ f ≤ 250000) (hn : -2252900000000000 ≤ ne ∧ ne ≤ 2252900000000000) (he : 1000000000 ≤ el ∧ el ≤ 1125899906842624) :
    Calls Try.prog 36 #[.int .i64 f, .int .i64 ne, .int .i64 el] w fun e w' => e = .returned (.int .i64 (clampS (f + ne * 1000000000 / (2 * el)) (-250000) 250000)) ∧ Stp [] w w' := by
  have hfd := field_big
  have FB := learn_bd ne el hn he.1
  obtain ⟨F, hF⟩ : ∃ F, ne * 1000000000 / (2 * el) = F := ⟨_, rfl⟩
  rw [hF] at FB ⊢
  go_enter Try.func36, Try.ntmps36
  go_wp2_with fail
  refine (dOf_any ne _ (by omega)).mono ?_
  rintro e w5 ⟨m5, A5, n5, c5, rfl, d5, s5⟩
  go_wp2_with fail
  refine (dOf_any 1000000000 _ (by decide)).mono ?_
  rintro e w6 ⟨m6, A6, n6, c6, rfl, d6, s6⟩
  have d5' := d5.stp s6
  go_wp2_with fail
  refine (dTimes_any _ _ _ _ _ _ _ _ _ _ _ d5' d6 (by have := d5'.small (by omega); omega) (by have := d6.small (by decide); omega)).mono ?_
  rintro e w7 ⟨m7, A7, n7, c7, rfl, d7, s7⟩
  go_wp2_with fail
  have B1 := Blk.new w7 61 #[.bool m7, .slice A7 n7 c7]
  have D1 := d7.stp ((Stp.refl [] w7).alloc (.cells #[.bool m7, .slice A7 n7 c7] 61))
  have t1 := ((s5.trans s6).trans s7).alloc (.cells #[.bool m7, .slice A7 n7 c7] 61)
  generalize w7.alloc (.cells #[.bool m7, .slice A7 n7 c7] 61) = W1 at *
  generalize w7.heap.size = g1 at *
  clear d5 d6 d7 d5' s5 s6 s7
  refine (dOf_any (2 * el) _ (by omega)).mono ?_
  rintro e w8 ⟨m8, A8, n8, c8, rfl, d8, s8⟩
  have B2 := Blk.new w8 61 #[.bool m8, .slice A8 n8 c8]
  have D2 := d8.stp ((Stp.refl [] w8).alloc (.cells #[.bool m8, .slice A8 n8 c8] 61))
  have s8' := s8.alloc (.cells #[.bool m8, .slice A8 n8 c8] 61)
  have B1' := B1.stp s8'
  have D1' := D1.stp s8'
  have t2 := t1.trans s8'
  obtain ⟨x0, x1, x2, x3⟩ := big_cells B1'
  obtain ⟨y0, y1, y2, y3⟩ := big_cells B2
  clear x2 x3 y2 y3 d8 s8 s8' B1 D1 t1
  have HM := Lib.hid D1'.minus
  obtain ⟨la, h1, h2, h3, h4, h5, h6, h7, _, _⟩ := D1'.facts
  obtain ⟨lb, cr2, v2⟩ := num_pos D2 (by omega)
  have hb1 := D1'.wide (by omega)
  have hb2 := D2.small (by omega)
  have LA : (if m7 then -(ne * 1000000000) else (ne * 1000000000)) = dval la := by
    cases m7 with
    | true => have := h6 rfl; simp; omega
    | false => have := h7 rfl; simp; omega
  have OV := dOver_any A7 A8 n7 c7 n8 c8 la lb _ h1 cr2 (by omega) (by omega) (by omega)
  clear h1 h2 h3 h4 h5 h6 h7 D1' D2 cr2
  go_wp2_with fail
  refine OV.mono ?_
  rintro e w9 ⟨Q, nq, cq, lq, R, nr, cr, lr, rfl, cq9, cr9, e9, l9, s9⟩
  rw [v2] at e9 l9
  rw [← LA] at e9
  have hlr := dval_nonneg cr9.2.2.2.1
  have FL := floor_of m7 HM.out e9 hlr l9
  rw [hF] at FL
  have hnr : nr = 0 ↔ dval lr = 0 := by rw [← cr9.2.2.2.zero, ← cr9.1.2.1, List.length_eq_zero_iff]
  have B19 := B1'.stp s9
  have B3 := Blk.new w9 61 #[.bool false, .slice Q nq cq]
  have B13 := B19.stp ((Stp.refl [] w9).alloc (.cells #[.bool false, .slice Q nq cq] 61))
  have N3 := cq9.num.stp ((Stp.refl [] w9).alloc (.cells #[.bool false, .slice Q nq cq] 61))
  have T3 := (t2.trans s9).alloc (.cells #[.bool false, .slice Q nq cq] 61)
  have hg13 : g1 < w9.heap.size := lt_of_at B19
  have hbase : w.heap.size ≤ w9.heap.size := (t2.trans s9).size
  have Z := Lib.hid (And.intro HM.out FL)
  generalize dval lr = r at *
  generalize dval lq = qv at *
  clear OV x0 x1 y0 y1 e9 LA cq9 cr9 s9 B19 v2 t2 B1' B2 l9 HM FL
  obtain ⟨x0, x1, x2, x3⟩ := big_cells B13
  obtain ⟨y0, y1, y2, y3⟩ := big_cells B3
  cases m7 with
  | false =>
    have FL := Z.out.2
    simp only [Bool.false_eq_true, if_false] at FL
    subst FL
    go_wp2_with fail
    generalize w9.alloc (.cells #[.bool false, .slice Q nq cq] 61) = W3 at *
    generalize w9.heap.size = g3 at *
    have K : ∀ w', Stp [] W3 w' → w'.cell? ⟨g3, 0, none⟩ = some (.bool false) ∧ w'.cell? ⟨g3, 1, none⟩ = some (.slice Q nq cq) ∧ Stp [] W3 w' := fun w' st => ⟨(B3.stp st).cell 0, (B3.stp st).cell 1, st⟩
    go_region_held3 (fun w' => w'.cell? ⟨g3, 0, none⟩ = some (.bool false) ∧ w'.cell? ⟨g3, 1, none⟩ = some (.slice Q nq cq) ∧ Stp [] W3 w')
      (first | (go_split_ands; refine K _ ?_; first | assumption | exact (Stp.refl _ _).drew | exact Stp.refl _ _ | exact tg | exact te | exact td))
      (first
        | (go_at_call 50; (with_reducible refine (dOf_any f _ (by omega)).mono ?_); rintro e u1 ⟨md, Ad, nd, cd, rfl, dd, sd⟩; have td : Stp [] W3 u1 := (by first | exact Stp.trans (by assumption) sd | (go_split_ands; exact Stp.trans (by assumption) sd)))
        | (go_at_call 53; (with_reducible refine (dPlus_any _ _ _ _ _ _ _ _ _ _ _ (by exact N3.stp td) dd (by have := N3.small (by omega); omega) (by have := dd.small (by omega); omega)).mono ?_); rintro e u2 ⟨me, Ae, ne', ce, rfl, de, se⟩; have te : Stp [] W3 u2 := td.trans se)
        | (go_at_call 55; (with_reducible refine (dInt_any _ _ _ _ _ _ (de.raw (by have := de.small (by omega); omega))).mono ?_); rintro e u3 ⟨x, o, rfl, i1, i2, sg⟩; obtain ⟨rfl, rfl⟩ := i1 (by unfold fits; omega); have tg : Stp [] W3 u3 := te.trans sg))
    all_goals
      have B13f := B13.stp tg
      obtain ⟨k0, k1, k2, k3⟩ := big_cells B13f
      have T6 := T3.trans tg
      clear i1 i2 N3 T3 B13 B13f B3 x0 x1 x2 x3 y0 y1 y2 y3 dd de sd se sg td te tg K
      go_wp2_with fail
      refine (rcut_any _ 250000 _ (by decide)).mono ?_
      rintro e u4 ⟨rfl, rfl⟩
      go_wp2_with fail
      go_ret
      exact ⟨by first | (rw [Int.add_comm]; rfl) | (rw [FL, Int.add_comm]; rfl) | (rw [Int.add_comm, FL]; rfl), T6⟩
  | true =>
    by_cases hz : nr = 0
    · have FL := Z.out.2
      rw [if_pos rfl, if_pos (hnr.mp hz)] at FL
      have hz0 : ¬ (0 : Int) < (nr : Int) := by omega
      have hz1 : decide ((0 : Int) < (nr : Int)) = false := decide_eq_false hz0
      clear hz
      go_wp2_with fail
      generalize w9.alloc (.cells #[.bool false, .slice Q nq cq] 61) = W3 at *
      generalize w9.heap.size = g3 at *
      refine (dMinus_any _ _ _ _ _ _ N3 (by have := N3.small (by omega); omega)).mono ?_
      rintro e v3 ⟨mc, Ac, nc, cc, rfl, dc, sc⟩
      have B3c := B3.stp sc
      have B13c := B13.stp sc
      have T3c := T3.trans sc
      clear N3 B3 B13 T3 x0 x1 x2 x3 y0 y1 y2 y3
      obtain ⟨y0, y1, y2, y3⟩ := big_cells B3c
      have B3 := big_set B3c (.bool mc) (.slice Ac nc cc)
      have N3 := dc.far B3c (set_big _ g3 (.bool mc) (.slice Ac nc cc))
      have B13 : Blk ((v3.setCell ⟨g3, 0, none⟩ (.bool mc)).setCell ⟨g3, 1, none⟩ (.slice Ac nc cc)) g1 61 #[.bool true, .slice A7 n7 c7] := (set_big v3 g3 (.bool mc) (.slice Ac nc cc)).at B13c (by simp; omega)
      have T3 := T3c.far (set_big v3 g3 (.bool mc) (.slice Ac nc cc)) (.inr hbase)
      clear dc sc B3c B13c T3c
      go_wp2_with fail
      generalize (v3.setCell ⟨g3, 0, none⟩ (.bool mc)).setCell ⟨g3, 1, none⟩ (.slice Ac nc cc) = W4 at *
      clear y0 y1 y2 y3
      obtain ⟨x0, x1, x2, x3⟩ := big_cells B13
      obtain ⟨y0, y1, y2, y3⟩ := big_cells B3
      rw [← FL] at N3
      have K : ∀ w', Stp [] W4 w' → w'.cell? ⟨g3, 0, none⟩ = some (.bool mc) ∧ w'.cell? ⟨g3, 1, none⟩ = some (.slice Ac nc cc) ∧ Stp [] W4 w' := fun w' st => ⟨(B3.stp st).cell 0, (B3.stp st).cell 1, st⟩
      go_region_held3 (fun w' => w'.cell? ⟨g3, 0, none⟩ = some (.bool mc) ∧ w'.cell? ⟨g3, 1, none⟩ = some (.slice Ac nc cc) ∧ Stp [] W4 w')
        (first | (go_split_ands; refine K _ ?_; first | assumption | exact (Stp.refl _ _).drew | exact Stp.refl _ _ | exact tg | exact te | exact td))
        (first
          | (go_at_call 50; (with_reducible refine (dOf_any f _ (by omega)).mono ?_); rintro e u1 ⟨md, Ad, nd, cd, rfl, dd, sd⟩; have td : Stp [] W4 u1 := (by first | exact Stp.trans (by assumption) sd | (go_split_ands; exact Stp.trans (by assumption) sd)))
          | (go_at_call 53; (with_reducible refine (dPlus_any _ _ _ _ _ _ _ _ _ _ _ (by exact N3.stp td) dd (by have := N3.small (by omega); omega) (by have := dd.small (by omega); omega)).mono ?_); rintro e u2 ⟨me, Ae, ne', ce, rfl, de, se⟩; have te : Stp [] W4 u2 := td.trans se)
          | (go_at_call 55; (with_reducible refine (dInt_any _ _ _ _ _ _ (de.raw (by have := de.small (by omega); omega))).mono ?_); rintro e u3 ⟨x, o, rfl, i1, i2, sg⟩; obtain ⟨rfl, rfl⟩ := i1 (by unfold fits; omega); have tg : Stp [] W4 u3 := te.trans sg))
      all_goals
        have B13f := B13.stp tg
        obtain ⟨k0, k1, k2, k3⟩ := big_cells B13f
        have T6 := T3.trans tg
        clear i1 i2 N3 T3 B13 B13f B3 x0 x1 x2 x3 y0 y1 y2 y3 dd de sd se sg td te tg K
        go_wp2_with fail
        refine (rcut_any _ 250000 _ (by decide)).mono ?_
        rintro e u4 ⟨rfl, rfl⟩
        go_wp2_with fail
        go_ret
        exact ⟨by first | (rw [Int.add_comm]; rfl) | (rw [FL, Int.add_comm]; rfl) | (rw [Int.add_comm, FL]; rfl), T6⟩
    · have FL := Z.out.2
      rw [if_pos rfl, if_neg (fun h => hz (hnr.mpr h))] at FL
      have hz0 : (0 : Int) < (nr : Int) := by omega
      have hz1 : decide ((0 : Int) < (nr : Int)) = true := decide_eq_true hz0
      go_wp2_with fail
      generalize w9.alloc (.cells #[.bool false, .slice Q nq cq] 61) = W3 at *
      generalize w9.heap.size = g3 at *
      go_region_with (first
        | (go_at_call 50; refine (dOf_any 1 _ (by decide)).mono ?_; rintro e v1 ⟨ma, Aa, na, ca, rfl, da, sa⟩; have ta : Stp [] W3 v1 := (by first | exact sa | exact ⟨sa.os, sa.tape, sa.output, sa.size, sa.block⟩); have B3a := B3.stp ta; obtain ⟨ya0, ya1, ya2, ya3⟩ := big_cells B3a)
        | (go_at_call 53; refine (dPlus_any _ _ _ _ _ _ _ _ _ _ _ (by exact N3.stp ta) (by exact da) (by have := N3.small (by omega); omega) (by have := da.small (by decide); omega)).mono ?_; rintro e v2 ⟨mb, Ab, nb, cb, rfl, db, sb⟩; have tb : Stp [] W3 v2 := ta.trans (by first | exact sb | exact ⟨sb.os, sb.tape, sb.output, sb.size, sb.block⟩); have B3b := B3.stp tb; obtain ⟨yb0, yb1, yb2, yb3⟩ := big_cells B3b))
      all_goals
        have B13b := B13.stp tb
        have T3b := T3.trans tb
        clear N3 B3 B13 T3 x0 x1 x2 x3 y0 y1 y2 y3
        have B3 := big_set B3b (.bool mb) (.slice Ab nb cb)
        have N3 := db.far B3b (set_big _ g3 (.bool mb) (.slice Ab nb cb))
        have B13 : Blk ((v2.setCell ⟨g3, 0, none⟩ (.bool mb)).setCell ⟨g3, 1, none⟩ (.slice Ab nb cb)) g1 61 #[.bool true, .slice A7 n7 c7] := (set_big v2 g3 (.bool mb) (.slice Ab nb cb)).at B13b (by simp; omega)
        have T3 := T3b.far (set_big v2 g3 (.bool mb) (.slice Ab nb cb)) (.inr hbase)
        generalize (v2.setCell ⟨g3, 0, none⟩ (.bool mb)).setCell ⟨g3, 1, none⟩ (.slice Ab nb cb) = W3 at *
        clear db da sa sb B3b B13b T3b ya0 ya1 ya2 ya3 yb0 yb1 yb2 yb3
        obtain ⟨x0, x1, x2, x3⟩ := big_cells B13
        obtain ⟨y0, y1, y2, y3⟩ := big_cells B3
        go_wp2_with fail
        refine (dMinus_any _ _ _ _ _ _ N3 (by have := N3.small (by omega); omega)).mono ?_
        rintro e v3 ⟨mc, Ac, nc, cc, rfl, dc, sc⟩
        have B3c := B3.stp sc
        have B13c := B13.stp sc
        have T3c := T3.trans sc
        clear N3 B3 B13 T3 x0 x1 x2 x3 y0 y1 y2 y3
        obtain ⟨y0, y1, y2, y3⟩ := big_cells B3c
        have B3 := big_set B3c (.bool mc) (.slice Ac nc cc)
        have N3 := dc.far B3c (set_big _ g3 (.bool mc) (.slice Ac nc cc))
        have B13 : Blk ((v3.setCell ⟨g3, 0, none⟩ (.bool mc)).setCell ⟨g3, 1, none⟩ (.slice Ac nc cc)) g1 61 #[.bool true, .slice A7 n7 c7] := (set_big v3 g3 (.bool mc) (.slice Ac nc cc)).at B13c (by simp; omega)
        have T3 := T3c.far (set_big v3 g3 (.bool mc) (.slice Ac nc cc)) (.inr hbase)
        clear dc sc B3c B13c T3c
        go_wp2_with fail
        generalize (v3.setCell ⟨g3, 0, none⟩ (.bool mc)).setCell ⟨g3, 1, none⟩ (.slice Ac nc cc) = W4 at *
        clear y0 y1 y2 y3
        obtain ⟨x0, x1, x2, x3⟩ := big_cells B13
        obtain ⟨y0, y1, y2, y3⟩ := big_cells B3
        rw [← FL] at N3
        have K : ∀ w', Stp [] W4 w' → w'.cell? ⟨g3, 0, none⟩ = some (.bool mc) ∧ w'.cell? ⟨g3, 1, none⟩ = some (.slice Ac nc cc) ∧ Stp [] W4 w' := fun w' st => ⟨(B3.stp st).cell 0, (B3.stp st).cell 1, st⟩
        go_region_held3 (fun w' => w'.cell? ⟨g3, 0, none⟩ = some (.bool mc) ∧ w'.cell? ⟨g3, 1, none⟩ = some (.slice Ac nc cc) ∧ Stp [] W4 w')
          (first | (go_split_ands; refine K _ ?_; first | assumption | exact (Stp.refl _ _).drew | exact Stp.refl _ _ | exact tg | exact te | exact td))
          (first
            | (go_at_call 50; (with_reducible refine (dOf_any f _ (by omega)).mono ?_); rintro e u1 ⟨md, Ad, nd, cd, rfl, dd, sd⟩; have td : Stp [] W4 u1 := (by first | exact Stp.trans (by assumption) sd | (go_split_ands; exact Stp.trans (by assumption) sd)))
            | (go_at_call 53; (with_reducible refine (dPlus_any _ _ _ _ _ _ _ _ _ _ _ (by exact N3.stp td) dd (by have := N3.small (by omega); omega) (by have := dd.small (by omega); omega)).mono ?_); rintro e u2 ⟨me, Ae, ne', ce, rfl, de, se⟩; have te : Stp [] W4 u2 := td.trans se)
            | (go_at_call 55; (with_reducible refine (dInt_any _ _ _ _ _ _ (de.raw (by have := de.small (by omega); omega))).mono ?_); rintro e u3 ⟨x, o, rfl, i1, i2, sg⟩; obtain ⟨rfl, rfl⟩ := i1 (by unfold fits; omega); have tg : Stp [] W4 u3 := te.trans sg))
        all_goals
          have B13f := B13.stp tg
          obtain ⟨k0, k1, k2, k3⟩ := big_cells B13f
          have T6 := T3.trans tg
          clear i1 i2 N3 T3 B13 B13f B3 x0 x1 x2 x3 y0 y1 y2 y3 dd de sd se sg td te tg K
          go_wp2_with fail
          refine (rcut_any _ 250000 _ (by decide)).mono ?_
          rintro e u4 ⟨rfl, rfl⟩
          go_wp2_with fail
          go_ret
          exact ⟨by first | (rw [Int.add_comm]; rfl) | (rw [FL, Int.add_comm]; rfl) | (rw [Int.add_comm, FL]; rfl), T6⟩
end Go.Proofs.Ytkohpeonnoegpaa
