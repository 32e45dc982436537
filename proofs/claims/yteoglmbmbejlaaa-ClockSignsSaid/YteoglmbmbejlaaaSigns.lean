/- ClockSigns' walk. -/
import Derived.Test.YteoglmbmbejlaaaPure2
namespace Go.Proofs.Yteoglmbmbejlaaa
open Go.RowKit
set_option linter.unusedVariables false
set_option linter.unusedSimpArgs false

set_option maxRecDepth 100000 in
set_option maxHeartbeats 1000000 in
theorem signs_walk (st pa so : Int) (kn : Bool) (A : Option Addr) (n c : Nat) (l : List (Int × Int)) (w : World)
    (_hst : -9223372036854775808 ≤ st ∧ st ≤ 9223372036854775807) (_hpa : -9223372036854775808 ≤ pa ∧ pa ≤ 9223372036854775807) (_hso : -9223372036854775808 ≤ so ∧ so ≤ 9223372036854775807)
    (hr : Reads w w.heap.size 2 A n (pcells l)) (hl : l.length = n) (hn : n * 16 ≤ 140737488351232) (hw : ∀ t ∈ l, (-9223372036854775808 ≤ t.1 ∧ t.1 ≤ 9223372036854775807) ∧ (-9223372036854775808 ≤ t.2 ∧ t.2 ≤ 9223372036854775807)) :
    Calls Try.prog 6 #[.agg #[.int .i64 st, .int .i64 pa, .int .i64 so, .bool kn], .slice A n c] w fun e w' => e = .returned (.bool true) ∧ Stp [] w w' := by
  clear _hst _hpa _hso
  go_enter Try.func6, Try.ntmps6
  go_wp2_with fail
  refine (fair_row st pa so kn A n c l _ ((hr.alloc (Nat.le_refl _) _).more (by simp)) hl hn).mono ?_
  rintro e w1 ⟨g, A2, c2, rfl, hat, hg, hmc, hcm, hrow, hst⟩
  have hst0 := ((Stp.refl [] w).alloc _).trans hst
  have hrow1 := hrow [g] (by simp)
  have hrise := rise_acc l (fun t ht => (hw t ht).1)
  have hl80 : (acc 0 (l.take 80)).length ≤ 80 := by rw [acc_length, List.length_take]; omega
  have hbd := fair_bd st pa so kn
  generalize hL : acc 0 (l.take 80) = L at *
  generalize hc0 : CS.mk (st % 1073741824) (fpa st pa) (so % 1099511627776) (if kn = true then 1 else 0) 0 = c0 at *
  have gN : w.heap.size + 1 ≤ g := by simpa using hg
  clear hL hc0 hst hrow hg
  go_wp2_with fail
  refine (awake_any _).mono ?_
  rintro e w2 ⟨rfl, hst2⟩
  have hat2 : c0.at w2 g := hst2.at (Blk.alloc (t := 46) (show Blk w1 g 46 _ from hat) _) (by simp)
  have hrow2 := hrow1.stp (((Stp.refl [g] w1).alloc _).trans hst2.of_nil)
  have hst3 := (hst0.alloc _).trans hst2
  clear hst2 hrow1 hat hst0
  go_wp2_with fail
  refine (copy_any g c0 _ hat2).mono ?_
  rintro e w3 ⟨gd, rfl, had, hst4, hgd⟩
  have hat3 : c0.at w3 g := hst4.at hat2 (by simp)
  have hne : g ≠ gd := by have := lt_of_at hat2; omega
  have hrow3 := (hrow2.add hgd).stp hst4.of_nil
  have hst5 := hst3.trans hst4
  have gdN : w.heap.size ≤ gd := by have := hst3.size; omega
  clear hst4 hrow2 hat2 hst3 hgd
  go_wp2_with fail
  go_loopw [32] (fun i wr => ∃ (j : Nat) (c1 : CS), j ≤ L.length ∧ i = .int .i64 j ∧ c1.at wr g ∧ c1.at wr gd ∧ c0.Of c1 (lastT L j) ∧ Stp [gd, g] w3 wr) (fun i _ => L.length - (intOf i).toNat)
  case atStart => exact ⟨0, c0, by omega, rfl, hat3, had, hbd.of, Stp.refl _ _⟩
  case round =>
    obtain ⟨j, c1, hj, rfl, hat1, had1, hof, hsr⟩ := hrel
    by_cases hlt : j < L.length
    · have hrow4 := hrow3.stp hsr
      obtain ⟨b, off, rfl, hb, hbg, hc⟩ := hrow4.2 (by omega)
      have hx := pcells_get L j hlt
      have hc1 : wr.cell? ⟨b, off + j * 2, none⟩ = some (.int .i64 L[j].1) := hc _ _ hx.1
      have hc2 : wr.cell? ⟨b, off + j * 2 + 1, none⟩ = some (.int .i64 L[j].2) := hc _ _ hx.2
      have ho := hrise.off j hlt
      have hT := hrise.last j hlt
      have hh := hrise.hi j hlt
      have hls := lastT_succ L j hlt
      clear hx hc hrow4 hb hbg
      generalize hx1 : L[j].1 = x1 at *
      generalize hx2 : L[j].2 = x2 at *
      have HLS := Lib.hid hls
      clear hx1 hx2 hls
      have hgood := hof.good hbd (by omega)
      have hof2 := fun off => upd_of (off := off) hof hT.2 hT.1
      have HOF := Lib.hid hof2
      clear hof2
      have hlg := lt_of_at hat1
      have hld := lt_of_at had1
      obtain ⟨x0, hx0⟩ : ∃ x0, x0 = x1 := ⟨_, rfl⟩
      by_cases hm : x1 = -9223372036854775808
      · subst hm
        subst hx0
        have e1 : absS 9223372036854775807 = absS (-9223372036854775807) := by decide
        have hneg : (-9223372036854775808 : Int) ≤ 9223372036854775807 ∧ (9223372036854775807 : Int) ≤ 9223372036854775807 := by omega
        have e2 := upd_abs (c := c1) (now := x2) e1
        have E2 := Lib.hid e2
        clear e1 e2
        generalize hu : c1.upd (-9223372036854775807) x2 = u at *
        obtain ⟨d, er, c3⟩ := u
        have HU := Lib.hid hu
        have of5 := HOF.out (-9223372036854775807)
        rw [hu] at of5
        clear hu
        go_wp2_with fail
        refine (upd_is d er c3 (by exact Blk.alloc (t := 46) (show Blk wr g 46 _ from hat1) _) HU.out hgood (by omega) (by omega)).mono ?_
        rintro e w5 ⟨rfl, hat5, hs5⟩
        have y1 : w5.cell? ⟨wr.heap.size, 1, none⟩ = some (.int .i64 x2) := hs5.cell ((Blk.new wr 30 #[.int .i64 (-9223372036854775808), .int .i64 x2]).cell 1) (by simp; omega)
        have had5 : c1.at w5 gd := hs5.at (Blk.alloc (t := 46) (show Blk wr gd 46 _ from had1) _) (by simp; omega)
        go_wp2_with fail
        refine (upd_is d er c3 had5 E2.out hgood hneg.1 hneg.2).mono ?_
        rintro e w6 ⟨rfl, had6, hs6⟩
        have hat6 : c3.at w6 g := hs6.at hat5 (by simp; omega)
        have hs7 : Stp [gd, g] w3 w6 := ((hsr.alloc _).trans (hs5.mono (by simp))).trans (hs6.mono (by simp))
        clear hs5 hs6 had5 hat5 y1
        go_wp2_with (first | (go_at_call 11; (with_reducible refine (state_any g c3 _ hat6).mono ?_); rintro e w8 ⟨rfl, rfl⟩) | (go_at_call 11; (with_reducible refine (state_any gd c3 _ had6).mono ?_); rintro e w8 ⟨rfl, rfl⟩) | (go_at_call 12; (with_reducible refine (since_any g c3 _ hat6).mono ?_); rintro e w8 ⟨rfl, rfl⟩) | (go_at_call 12; (with_reducible refine (since_any gd c3 _ had6).mono ?_); rintro e w8 ⟨rfl, rfl⟩))
        go_roundw
        case rel => exact ⟨j + 1, c3, by omega, by go_num, hat6, had6, by rw [HLS.out]; exact of5, hs7⟩
        case measure => simp [intOf]; omega
      · have hm' : (x1 == -9223372036854775808) = false := by simp [hm]
        have e1 : absS (-x1) = absS x1 := absS_neg x1 (by omega) ho.2
        have hneg : -9223372036854775808 ≤ -x1 ∧ -x1 ≤ 9223372036854775807 := by omega
        have e2 := upd_abs (c := c1) (now := x2) e1
        have E2 := Lib.hid e2
        clear hm e1 e2 hx0
        generalize hu : c1.upd x1 x2 = u at *
        obtain ⟨d, er, c3⟩ := u
        have HU := Lib.hid hu
        have of5 := HOF.out x1
        rw [hu] at of5
        clear hu
        go_wp2_with fail
        refine (upd_is d er c3 (by exact Blk.alloc (t := 46) (show Blk wr g 46 _ from hat1) _) HU.out hgood (by omega) (by omega)).mono ?_
        rintro e w5 ⟨rfl, hat5, hs5⟩
        have y1 : w5.cell? ⟨wr.heap.size, 1, none⟩ = some (.int .i64 x2) := hs5.cell ((Blk.new wr 30 #[.int .i64 x1, .int .i64 x2]).cell 1) (by simp; omega)
        have had5 : c1.at w5 gd := hs5.at (Blk.alloc (t := 46) (show Blk wr gd 46 _ from had1) _) (by simp; omega)
        go_wp2_with fail
        refine (upd_is d er c3 had5 E2.out hgood hneg.1 hneg.2).mono ?_
        rintro e w6 ⟨rfl, had6, hs6⟩
        have hat6 : c3.at w6 g := hs6.at hat5 (by simp; omega)
        have hs7 : Stp [gd, g] w3 w6 := ((hsr.alloc _).trans (hs5.mono (by simp))).trans (hs6.mono (by simp))
        clear hs5 hs6 had5 hat5 y1
        go_wp2_with (first | (go_at_call 11; (with_reducible refine (state_any g c3 _ hat6).mono ?_); rintro e w8 ⟨rfl, rfl⟩) | (go_at_call 11; (with_reducible refine (state_any gd c3 _ had6).mono ?_); rintro e w8 ⟨rfl, rfl⟩) | (go_at_call 12; (with_reducible refine (since_any g c3 _ hat6).mono ?_); rintro e w8 ⟨rfl, rfl⟩) | (go_at_call 12; (with_reducible refine (since_any gd c3 _ had6).mono ?_); rintro e w8 ⟨rfl, rfl⟩))
        go_roundw
        case rel => exact ⟨j + 1, c3, by omega, by go_num, hat6, had6, by rw [HLS.out]; exact of5, hs7⟩
        case measure => simp [intOf]; omega
    · obtain rfl : j = L.length := by omega
      go_wp2
      go_ret
      exact ⟨rfl, ⟨(hst5.os ▸ hsr.os), hst5.tape ▸ hsr.tape, hst5.output ▸ hsr.output, Nat.le_trans hst5.size hsr.size, fun k hk hn => (hsr.block k (Nat.lt_of_lt_of_le hk hst5.size) (by simp; omega)).trans (hst5.block k hk hn)⟩⟩

end Go.Proofs.Yteoglmbmbejlaaa
