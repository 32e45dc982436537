/- ClockComes' walk. -/
import Derived.Test.YteoglmbmbejlaaaPure
import Derived.Deep.RegionHeld3
namespace Go.Proofs.Yteoglmbmbejlaaa
open Go.RowKit
set_option linter.unusedVariables false
set_option linter.unusedSimpArgs false

set_option maxRecDepth 100000 in
set_option maxHeartbeats 1000000 in
theorem comes_walk (st pa so : Int) (kn : Bool) (A : Option Addr) (n c : Nat) (l : List (Int × Int)) (fr : Int) (w : World)
    (_hst : -9223372036854775808 ≤ st ∧ st ≤ 9223372036854775807) (_hpa : -9223372036854775808 ≤ pa ∧ pa ≤ 9223372036854775807) (_hso : -9223372036854775808 ≤ so ∧ so ≤ 9223372036854775807)
    (hr : Reads w w.heap.size 2 A n (pcells l)) (hl : l.length = n) (hn : n * 16 ≤ 140737488351232) (hw : ∀ t ∈ l, (-9223372036854775808 ≤ t.1 ∧ t.1 ≤ 9223372036854775807) ∧ (-9223372036854775808 ≤ t.2 ∧ t.2 ≤ 9223372036854775807)) (hf : 0 ≤ fr ∧ fr ≤ 255) :
    Calls Try.prog 3 #[.agg #[.int .i64 st, .int .i64 pa, .int .i64 so, .bool kn], .slice A n c, .int .u8 fr] w fun e w' => e = .returned (.bool true) ∧ Stp [] w w' := by
  obtain ⟨hf0, hf1⟩ := hf
  clear _hst _hpa _hso
  go_enter Try.func3, Try.ntmps3
  go_wp2_with fail
  refine (fair_any st pa so kn A n c l _ ((hr.alloc (Nat.le_refl _) _).more (by simp)) hl hn).mono ?_
  rintro e w1 ⟨g, v, rfl, hat, hg, hown, hst⟩
  have hN : w.heap.size ∉ ([] : List Nat) := by simp
  have hbox := (show Blk _ _ _ _ from hst.at (new_at w _) hN)
  have hst0 := ((Stp.refl [] w).alloc _).trans hst
  have nb : v.ownBlock ≠ some w.heap.size := by
    intro e
    have := (hown.lt _ e).1
    simp at this
    omega
  have ng : v.ownBlock ≠ some g := own_blk_ne (t := 46) hown (show Blk w1 g 46 _ from hat) (by decide)
  obtain ⟨A2, c2, rfl, hmc, hcm, hrow⟩ := own_form (G := [g, w.heap.size]) hown (by simp; exact ⟨fun h => ng h, fun h => nb h⟩)
  have gN : w.heap.size + 1 ≤ g := by simpa using hg
  have b0 := hbox.cell 0
  have b1 := hbox.cell 1
  have b2 := hbox.cell 2
  have b3 := hbox.cell 3
  have z0 := hbox.frozen 0
  have z1 := hbox.frozen 1
  have z2 := hbox.frozen 2
  have z3 := hbox.frozen 3
  simp only [List.getElem?_toArray, List.getElem?_cons_zero, List.getElem?_cons_succ] at b0 b1 b2 b3
  generalize hL : acc 0 (l.take 80) = L at *
  generalize hc0 : CS.mk (st % 1073741824) (fpa st pa) (so % 1099511627776) (if kn = true then 1 else 0) 0 = c0 at *
  have HL := Lib.hid hL
  have HC := Lib.hid hc0
  clear hL hc0 nb ng hg hown hst hN
  have hboxH := Lib.hid hbox
  clear hbox
  go_wp2_with fail
  refine (awake_any _).mono ?_
  rintro e w2 ⟨rfl, hst2⟩
  have hne : g ≠ w.heap.size := by omega
  have hatB : Blk w1 g 46 _ := hat
  have hat2 : c0.at w2 g := hst2.at ((((hatB.far (p := ⟨w.heap.size, 0, none⟩) hne _).far (p := ⟨w.heap.size, 1, none⟩) hne _).far (p := ⟨w.heap.size, 2, none⟩) hne _).far (p := ⟨w.heap.size, 3, none⟩) hne _) (by simp)
  have hbox2 : Blk w2 w.heap.size 23 _ := hst2.at ((((hboxH.out.set_ 0 _).set_ 1 _).set_ 2 _).set_ 3 _) (by simp)
  have hrow2 : RowIn w2 A2 L.length 2 (pcells L) [g, w.heap.size] := hrow.stp ((((((Stp.refl [g, w.heap.size] w1).setCell (p := ⟨w.heap.size, 0, none⟩) (.inl (by simp)) _).setCell (p := ⟨w.heap.size, 1, none⟩) (.inl (by simp)) _).setCell (p := ⟨w.heap.size, 2, none⟩) (.inl (by simp)) _).setCell (p := ⟨w.heap.size, 3, none⟩) (.inl (by simp)) _).trans hst2.of_nil)
  have hst3 : Stp [] w w2 := ((((hst0.setCell (p := ⟨w.heap.size, 0, none⟩) (.inr (Nat.le_refl _)) _).setCell (p := ⟨w.heap.size, 1, none⟩) (.inr (Nat.le_refl _)) _).setCell (p := ⟨w.heap.size, 2, none⟩) (.inr (Nat.le_refl _)) _).setCell (p := ⟨w.heap.size, 3, none⟩) (.inr (Nat.le_refl _)) _).trans hst2
  clear hst2 hatB hat hrow hst0 hboxH b0 b1 b2 b3 z0 z1 z2 z3
  have hl80 : L.length ≤ 80 := by rw [← HL.out, acc_length, List.length_take]; omega
  obtain ⟨kk, hkk⟩ : ∃ kk : Nat, fr % ((L.length : Int) + 1) = kk := ⟨(fr % ((L.length : Int) + 1)).toNat, by have := Int.emod_nonneg fr (show (L.length : Int) + 1 ≠ 0 by omega); omega⟩
  have hkl : kk ≤ L.length := by have := Int.emod_lt_of_pos fr (show (0 : Int) < (L.length : Int) + 1 by omega); omega
  have hbox2' : Blk w2 w.heap.size 23 #[.int .i64 (st % 1073741824), .int .i64 (fpa st pa), .int .i64 (so % 1099511627776), .bool kn] := hbox2
  have HB := Lib.hid hbox2'
  clear hbox2 hbox2'
  go_wp2_with fail
  have hrise := rise_acc l (fun t ht => (hw t ht).1)
  rw [HL.out] at hrise
  have hbd := fair_bd st pa so kn
  rw [HC.out] at hbd
  rw [hkk]
  clear hkk
  have hk80 : kk ≤ 80 := by omega
  go_loopw [39] (fun i wr => ∃ (j : Nat) (c1 : CS), j ≤ kk ∧ i = .int .i64 j ∧ c1.at wr g ∧ c0.Of c1 (lastT L j) ∧ Stp [g] w2 wr) (fun i _ => kk - (intOf i).toNat)
  case atStart => exact ⟨0, c0, by omega, rfl, hat2, hbd.of, Stp.refl _ _⟩
  case round =>
    obtain ⟨j, c1, hj, rfl, hat1, hof, hsr⟩ := hrel
    by_cases hlt : j < kk
    · have hjl : j < L.length := by omega
      have hrow3 := (hrow2.less (G' := [g]) (by simp)).stp hsr
      obtain ⟨b, off, rfl, hb, hbg, hc⟩ := hrow3.2 (by omega)
      have hx := pcells_get L j hjl
      have hc1 : wr.cell? ⟨b, off + j * 2, none⟩ = some (.int .i64 L[j].1) := hc _ _ hx.1
      have hc2 : wr.cell? ⟨b, off + j * 2 + 1, none⟩ = some (.int .i64 L[j].2) := hc _ _ hx.2
      have ho := hrise.off j hjl
      have hT := hrise.last j hjl
      have hh := hrise.hi j hjl
      have hls := lastT_succ L j hjl
      clear hx hc hrow3 hb hbg
      generalize hx1 : L[j].1 = x1 at *
      generalize hx2 : L[j].2 = x2 at *
      have HX := Lib.hid (And.intro hx1 hx2)
      have HLS := Lib.hid hls
      clear hx1 hx2 hls
      go_wp2_with (go_at_call 10; refine (upd_any g c1 _ _ _ (by exact Blk.alloc (t := 46) (show Blk wr g 46 _ from hat1) _) (hof.good hbd (by omega)) ho.1 ho.2).mono ?_; rintro e w5 ⟨rfl, hat5, hs5⟩)
      go_roundw
      case rel => exact ⟨j + 1, _, by omega, by go_num, hat5, by rw [HLS.out]; exact upd_of hof hT.2 hT.1, (hsr.alloc _).trans hs5⟩
      case measure => simp [intOf]; omega
    · obtain rfl : j = kk := by omega
      by_cases hkL : j = L.length
      · have hz : (L.length : Int) - j = 0 := by omega
        have hz' : L.length - j = 0 := by omega
        by_cases hcc : c2 = j
        · go_wp2_with fail
          refine wp_loop_rounds 1 ?_
          rw [rounds_succ]
          go_wp2
          go_ret
          exact ⟨rfl, ((hst3.far hsr (.inr (by omega))))⟩
        · go_wp2_with fail
          refine wp_loop_rounds 1 ?_
          rw [rounds_succ]
          go_wp2
          go_ret
          exact ⟨rfl, ((hst3.far hsr (.inr (by omega))))⟩
      · have hjl : j < L.length := by omega
        have hcc : ¬ c2 = j := by omega
        have hrow3 := (hrow2.less (G' := [g]) (by simp))
        obtain ⟨b, off, rfl, hb, hbg, hc⟩ := hrow3.2 (by omega)
        have hlenj : ((L.length - j : Nat) : Int) = (L.length : Int) - j := by omega
        have hT0 := hrise.last j hjl
        have HB3 := Lib.hid (show w2.cell? ⟨b, off + j * 2 + 1, none⟩ = some (.int .i64 (L[j]'hjl).2) from hc _ _ (pcells_get L j hjl).2)
        go_wp2_with fail
        clear hlenj
        go_loopw [54] (fun i wz => ∃ (q : Nat) (c2 : CS), q ≤ L.length - j ∧ i = .int .i64 q ∧ c2.at wz g ∧ c0.Of c2 (lastT L (j + q)) ∧ (0 < q → (c2.s = 3 ∨ c2.s = 4) ∧ (c2.s = 3 → c2.si ≤ (L[j]'hjl).2)) ∧ Stp [g] w2 wz) (fun i _ => L.length - j - (intOf i).toNat)
        case atStart => exact ⟨0, c1, by omega, rfl, hat1, hof, fun h => absurd h (by omega), hsr⟩
        case round =>
          clear hsr hat1
          obtain ⟨q, c3, hq, rfl, hat3, hof3, hst4, hsz⟩ := hrel
          by_cases hlq : q < L.length - j
          · have hjq : j + q < L.length := by omega
            have hrow4 := hrow3.stp hsz
            have hx := pcells_get L (j + q) hjq
            have hc1 : wr.cell? ⟨b, off + j * 2 + q * 2, none⟩ = some (.int .i64 L[j + q].1) := by
              have := hsz.cell (hc _ _ hx.1) hbg
              rw [show off + j * 2 + q * 2 = off + (j + q) * 2 by omega]
              exact this
            have hc2 : wr.cell? ⟨b, off + j * 2 + q * 2 + 1, none⟩ = some (.int .i64 L[j + q].2) := by
              have := hsz.cell (hc _ _ hx.2) hbg
              rw [show off + j * 2 + q * 2 + 1 = off + ((j + q) * 2 + 1) by omega]
              exact this
            have ho := hrise.off (j + q) hjq
            have hT := hrise.last (j + q) hjq
            have hh := hrise.hi (j + q) hjq
            have hup := hrise.up j (j + q) hjq (by omega)
            have hls := lastT_succ L (j + q) hjq
            clear hx hc hrow3 hb
            generalize hx1 : L[j + q].1 = x1 at *
            generalize hx2 : L[j + q].2 = x2 at *
            generalize hx3 : L[j].2 = x3 at *
            have HX := Lib.hid (And.intro hx1 hx2)
            have HLS := Lib.hid hls
            have HX3 := Lib.hid hx3
            clear hx1 hx2 hls hx3
            have hm := tmod_small x1 (st % 1073741824) (by omega) (by omega)
            have hN0 : wr.cell? ⟨w.heap.size, 0, none⟩ = some (.int .i64 (st % 1073741824)) := hsz.cell (HB.out.cell 0) (by simpa using hne.symm)
            have hN2 : wr.cell? ⟨w.heap.size, 2, none⟩ = some (.int .i64 (so % 1099511627776)) := hsz.cell (HB.out.cell 2) (by simpa using hne.symm)
            have hg4 := hof3.good hbd (by omega)
            have e0 : c0.st = st % 1073741824 := by rw [← HC.out]
            have e1 : c0.so = so % 1099511627776 := by rw [← HC.out]
            have us := upd_small hof3 hbd (off := x1.tmod (st % 1073741824 + 1)) hT.2 (by omega) hT.1 (by rw [e0]; exact hm.1)
            have of4 := upd_of (off := x1.tmod (st % 1073741824 + 1)) hof3 hT.2 hT.1
            obtain ⟨c4, hu⟩ : ∃ c4, c3.upd (x1.tmod (st % 1073741824 + 1)) x2 = (1, 0, c4) := ⟨_, Prod.ext us.1 (Prod.ext us.2.1 rfl)⟩
            rw [hu] at us of4
            simp only [true_and] at us of4
            obtain ⟨us34, us4, us5, us6⟩ := us
            have hq0 : q = 0 → x2 = x3 := by
              intro h
              subst h
              rw [← HX.out.2, ← HX3.out]
              rfl
            have hsi : c4.s = 3 → c4.si ≤ x3 := by
              intro h3
              rcases Nat.eq_zero_or_pos q with h0 | h0
              · have := of4.si1; have := hq0 h0; omega
              · obtain ⟨h5, h6⟩ := hst4 h0
                rcases h5 with h5 | h5
                · rw [us6 h5 h3]; exact h6 h5
                · have := us4 h5; omega
            have hno : c4.s = 3 → so % 1099511627776 ≤ x2 - x3 → ¬ x3 < x2 := by
              intro h3 hs
              rcases Nat.eq_zero_or_pos q with h0 | h0
              · have := hq0 h0; omega
              · obtain ⟨h5, h6⟩ := hst4 h0
                rcases h5 with h5 | h5
                · have := us5 h5 (by have := h6 h5; omega); omega
                · have := us4 h5; omega
            have HU := Lib.hid hu
            have HQ0 := Lib.hid hq0
            have HSI := Lib.hid hsi
            have HNO := Lib.hid hno
            have HST := Lib.hid hst4
            have HUS := Lib.hid (And.intro us4 (And.intro us5 us6))
            clear hu hq0 hsi hno hst4 us4 us5 us6 e0 e1
            go_wp2_with fail
            have hs1 : IntKind.i64.wrap (st % 1073741824 + 1) = st % 1073741824 + 1 := IntWalk.i64_in _ (by omega)
            have hgw : g < wr.heap.size := lt_of_at hat3
            have hdv : ¬ (st % 1073741824 + 1 = 0) := by omega
            go_region_held3 (fun w' => w'.cell? ⟨wr.heap.size, 0, none⟩ = some (.int .i64 x1) ∧ w'.cell? ⟨wr.heap.size, 1, none⟩ = some (.int .i64 x2) ∧ w'.cell? ⟨w.heap.size, 0, none⟩ = some (.int .i64 (st % 1073741824)))
              (first | go_keep | exact ⟨y0, y1, y2⟩)
              ((go_at_call 10; refine (upd_is 1 0 c4 (by exact Blk.alloc (t := 46) (show Blk wr g 46 _ from hat3) _) HU.out hg4 hm.2.1 hm.2.2).mono ?_; rintro e w5 ⟨rfl, hat5, hs5⟩; have y0 : w5.cell? ⟨wr.heap.size, 0, none⟩ = some (.int .i64 x1) := hs5.cell ((Blk.new wr 30 #[.int .i64 x1, .int .i64 x2]).cell 0) (by simp; omega); have y1 : w5.cell? ⟨wr.heap.size, 1, none⟩ = some (.int .i64 x2) := hs5.cell ((Blk.new wr 30 #[.int .i64 x1, .int .i64 x2]).cell 1) (by simp; omega); have y2 : w5.cell? ⟨w.heap.size, 0, none⟩ = some (.int .i64 (st % 1073741824)) := hs5.cell ((World.cell?_alloc_lt wr _ ⟨w.heap.size, 0, none⟩ (by simp; omega)).trans hN0) (by simp; omega)))
            have y3 : w5.cell? ⟨w.heap.size, 2, none⟩ = some (.int .i64 (so % 1099511627776)) := hs5.cell ((World.cell?_alloc_lt wr _ ⟨w.heap.size, 2, none⟩ (by simp; omega)).trans hN2) (by simp; omega)
            have hs6 : Stp [g] w2 w5 := (hsz.alloc _).trans ⟨hs5.os, hs5.tape, hs5.output, hs5.size, hs5.block⟩
            have hb3 : w5.cell? ⟨b, off + j * 2 + 1, none⟩ = some (.int .i64 x3) := by
              have := hs6.cell HB3.out hbg
              exact this
            clear hc1 hc2 hN0 hN2 hs1 hdv hm ho hs5
            rcases us34 with h3 | h4
            · by_cases hg1 : so % 1099511627776 ≤ x2 - x3
              · have hx := HNO.out h3 hg1
                have hg2 : decide (so % 1099511627776 ≤ x2 - x3) = true := decide_eq_true hg1
                go_wp2_with (first | (go_at_call 11; refine (state_any g c4 _ (by exact hat5)).mono ?_; rintro e w6 ⟨rfl, rfl⟩) | (go_quiet ((go_at_call 11; exact Calls.quiet_of_same (state_any g c4 _ (by exact hat5))))))
                go_roundw
                case rel => exact ⟨q + 1, c4, by omega, by go_num, hat5, by rw [show j + (q + 1) = j + q + 1 by omega, HLS.out]; exact of4, fun _ => ⟨.inl h3, HSI.out⟩, hs6.drewN _⟩
                case measure => simp [intOf]; omega
              · skip
                have hg2 : decide (so % 1099511627776 ≤ x2 - x3) = false := decide_eq_false hg1
                go_wp2_with (first | (go_at_call 11; refine (state_any g c4 _ (by exact hat5)).mono ?_; rintro e w6 ⟨rfl, rfl⟩) | (go_quiet ((go_at_call 11; exact Calls.quiet_of_same (state_any g c4 _ (by exact hat5))))))
                go_roundw
                case rel => exact ⟨q + 1, c4, by omega, by go_num, hat5, by rw [show j + (q + 1) = j + q + 1 by omega, HLS.out]; exact of4, fun _ => ⟨.inl h3, HSI.out⟩, hs6.drewN _⟩
                case measure => simp [intOf]; omega
            · by_cases hg1 : so % 1099511627776 ≤ x2 - x3
              · skip
                have hg2 : decide (so % 1099511627776 ≤ x2 - x3) = true := decide_eq_true hg1
                go_wp2_with (first | (go_at_call 11; refine (state_any g c4 _ (by exact hat5)).mono ?_; rintro e w6 ⟨rfl, rfl⟩) | (go_quiet ((go_at_call 11; exact Calls.quiet_of_same (state_any g c4 _ (by exact hat5))))))
                go_roundw
                case rel => exact ⟨q + 1, c4, by omega, by go_num, hat5, by rw [show j + (q + 1) = j + q + 1 by omega, HLS.out]; exact of4, fun _ => ⟨.inr h4, HSI.out⟩, hs6.drewN _⟩
                case measure => simp [intOf]; omega
              · skip
                have hg2 : decide (so % 1099511627776 ≤ x2 - x3) = false := decide_eq_false hg1
                go_wp2_with (first | (go_at_call 11; refine (state_any g c4 _ (by exact hat5)).mono ?_; rintro e w6 ⟨rfl, rfl⟩) | (go_quiet ((go_at_call 11; exact Calls.quiet_of_same (state_any g c4 _ (by exact hat5))))))
                go_roundw
                case rel => exact ⟨q + 1, c4, by omega, by go_num, hat5, by rw [show j + (q + 1) = j + q + 1 by omega, HLS.out]; exact of4, fun _ => ⟨.inr h4, HSI.out⟩, hs6.drewN _⟩
                case measure => simp [intOf]; omega
          · go_wp2
            go_ret
            exact ⟨rfl, ((hst3.far hsz (.inr (by omega))))⟩

end Go.Proofs.Yteoglmbmbejlaaa
