/- ClockLater's walk. -/
import Derived.Test.YteoglmbmbejlaaaPure2
namespace Go.Proofs.Yteoglmbmbejlaaa
open Go.RowKit
set_option linter.unusedVariables false
set_option linter.unusedSimpArgs false

set_option maxRecDepth 100000 in
set_option maxHeartbeats 1000000 in
theorem later_walk (st pa so : Int) (kn : Bool) (A : Option Addr) (n c : Nat) (l : List (Int × Int)) (by_ : Int) (w : World)
    (_hst : -9223372036854775808 ≤ st ∧ st ≤ 9223372036854775807) (_hpa : -9223372036854775808 ≤ pa ∧ pa ≤ 9223372036854775807) (_hso : -9223372036854775808 ≤ so ∧ so ≤ 9223372036854775807)
    (hr : Reads w w.heap.size 2 A n (pcells l)) (hl : l.length = n) (hn : n * 16 ≤ 140737488351232) (hw : ∀ t ∈ l, (-9223372036854775808 ≤ t.1 ∧ t.1 ≤ 9223372036854775807) ∧ (-9223372036854775808 ≤ t.2 ∧ t.2 ≤ 9223372036854775807)) (hby : 0 ≤ by_ ∧ by_ ≤ 4294967295) :
    Calls Try.prog 5 #[.agg #[.int .i64 st, .int .i64 pa, .int .i64 so, .bool kn], .slice A n c, .int .u32 by_] w fun e w' => e = .returned (.bool true) ∧ Stp [] w w' := by
  clear _hst _hpa _hso
  go_enter Try.func5, Try.ntmps5
  go_wp2_with fail
  refine (fair_row st pa so kn A n c l _ ((hr.alloc (Nat.le_refl _) _).more (by simp)) hl hn).mono ?_
  rintro e w1 ⟨g, A2, c2, rfl, hat, hg, hmc, hcm, hrow, hst⟩
  have hbox := (show Blk _ _ _ _ from hst.at (new_at w _) (by simp))
  have hst0 := ((Stp.refl [] w).alloc _).trans hst
  have hrow1 := hrow [g, w.heap.size] (by simp)
  have hrise := rise_acc l (fun t ht => (hw t ht).1)
  have hl80 : (acc 0 (l.take 80)).length ≤ 80 := by rw [acc_length, List.length_take]; omega
  have hbd := fair_bd st pa so kn
  have gN : w.heap.size + 1 ≤ g := by simpa using hg
  generalize hL : acc 0 (l.take 80) = L at *
  generalize hc0 : CS.mk (st % 1073741824) (fpa st pa) (so % 1099511627776) (if kn = true then 1 else 0) 0 = c0 at *
  have HC := Lib.hid hc0
  have b0 := hbox.cell 0
  have b1 := hbox.cell 1
  have b2 := hbox.cell 2
  have b3 := hbox.cell 3
  have z0 := hbox.frozen 0
  have z1 := hbox.frozen 1
  have z2 := hbox.frozen 2
  have z3 := hbox.frozen 3
  simp only [List.getElem?_toArray, List.getElem?_cons_zero, List.getElem?_cons_succ] at b0 b1 b2 b3
  have hboxH := Lib.hid hbox
  clear hL hc0 hst hrow hg hbox
  go_wp2_with fail
  refine (awake_any _).mono ?_
  rintro e w2 ⟨rfl, hst2⟩
  have hne : g ≠ w.heap.size := by omega
  have hatB : Blk w1 g 46 _ := hat
  have hat2 : c0.at w2 g := hst2.at ((((hatB.far (p := ⟨w.heap.size, 0, none⟩) hne _).far (p := ⟨w.heap.size, 1, none⟩) hne _).far (p := ⟨w.heap.size, 2, none⟩) hne _).far (p := ⟨w.heap.size, 3, none⟩) hne _) (by simp)
  have hbox2 : Blk w2 w.heap.size 23 _ := hst2.at ((((hboxH.out.set_ 0 _).set_ 1 _).set_ 2 _).set_ 3 _) (by simp)
  have hrow2 : RowIn w2 A2 L.length 2 (pcells L) [g, w.heap.size] := hrow1.stp ((((((Stp.refl [g, w.heap.size] w1).setCell (p := ⟨w.heap.size, 0, none⟩) (.inl (by simp)) _).setCell (p := ⟨w.heap.size, 1, none⟩) (.inl (by simp)) _).setCell (p := ⟨w.heap.size, 2, none⟩) (.inl (by simp)) _).setCell (p := ⟨w.heap.size, 3, none⟩) (.inl (by simp)) _).trans hst2.of_nil)
  have hst3 : Stp [] w w2 := ((((hst0.setCell (p := ⟨w.heap.size, 0, none⟩) (.inr (Nat.le_refl _)) _).setCell (p := ⟨w.heap.size, 1, none⟩) (.inr (Nat.le_refl _)) _).setCell (p := ⟨w.heap.size, 2, none⟩) (.inr (Nat.le_refl _)) _).setCell (p := ⟨w.heap.size, 3, none⟩) (.inr (Nat.le_refl _)) _).trans hst2
  clear hst2 hatB hat hrow1 hst0 hboxH b0 b1 b2 b3 z0 z1 z2 z3
  have hbox2' : Blk w2 w.heap.size 23 #[.int .i64 (st % 1073741824), .int .i64 (fpa st pa), .int .i64 (so % 1099511627776), .bool kn] := hbox2
  have b0 := hbox2'.cell 0
  have b1 := hbox2'.cell 1
  have b2 := hbox2'.cell 2
  have b3 := hbox2'.cell 3
  simp only [List.getElem?_toArray, List.getElem?_cons_zero, List.getElem?_cons_succ] at b0 b1 b2 b3
  clear hbox2 hbox2'
  have q0 : c0.st = st % 1073741824 := by rw [← HC.out]
  have q1 : c0.pa = fpa st pa := by rw [← HC.out]
  have q2 : c0.so = so % 1099511627776 := by rw [← HC.out]
  obtain ⟨p1, p2, p3, p4, p5, p6, p7, p8⟩ := hbd
  rw [q0] at p1 p2 p5
  rw [q1] at p5 p6
  rw [q2] at p3 p4
  clear q0 q1 q2
  have hbd := fair_bd st pa so kn
  rw [HC.out] at hbd
  go_wp2_with fail
  refine (new_any (2 * (st % 1073741824)) (2 * fpa st pa) (so % 1099511627776) kn _ (isTime_mk (by omega) (by omega)) (isTime_mk (by omega) (by omega)) (isTime_mk (by omega) (by omega)) (by omega)).mono ?_
  rintro e w3 ⟨gd, rfl, had, hst4, hgd⟩
  have hat3 : c0.at w3 g := hst4.at hat2 (by simp)
  have hnd : g ≠ gd := by have := lt_of_at hat2; omega
  have hrow3 := (hrow2.add hgd).stp hst4.of_nil
  have hst5 := hst3.trans hst4
  have gdN : w.heap.size ≤ gd := by have := hst3.size; omega
  have had0 : c0.dbl.at w3 gd := by rw [← HC.out]; exact had
  clear hst4 hrow2 hat2 hst3 hgd had
  go_wp2_with fail
  refine (copy_any g c0 _ hat3).mono ?_
  rintro e w4 ⟨ge, rfl, hae, hst6, hge⟩
  have hat4 : c0.at w4 g := hst6.at hat3 (by simp)
  have had4 : c0.dbl.at w4 gd := hst6.at had0 (by simp)
  have hnge : g ≠ ge := by have := lt_of_at hat3; omega
  have hnde : gd ≠ ge := by have := lt_of_at had0; omega
  have hrow4 := (hrow3.add hge).stp hst6.of_nil
  have hst7 := hst5.trans hst6
  have geN : w.heap.size ≤ ge := by have := hst5.size; omega
  clear hst5 hrow3 hat3 hst6 hge had0 b0 b1 b2 b3
  go_wp2_with fail
  have hl0 : Lat by_ c0 c0 := ⟨rfl, rfl, rfl, rfl, .inr ⟨p7, p8, p8⟩⟩
  have hrow5 := hrow4.less (G' := [ge, gd, g]) (by simp)
  clear p1 p2 p3 p4 p5 p6 p7 p8
  go_loopw [53] (fun i wr => ∃ (j : Nat) (c1 c3 : CS), j ≤ L.length ∧ j ≤ 60 ∧ i = .int .i64 j ∧ c1.at wr g ∧ c3.at wr ge ∧ c1.dbl.at wr gd ∧ c0.Of c1 (lastT L j) ∧ Lat by_ c1 c3 ∧ Stp [ge, gd, g] w4 wr) (fun i _ => L.length - (intOf i).toNat)
  case atStart => exact ⟨0, c0, c0, by omega, by omega, rfl, hat4, hae, had4, hbd.of, hl0, Stp.refl _ _⟩
  case round =>
    obtain ⟨j, c1, c3, hj, hj60, rfl, hat1, hae1, had1, hof, hlat, hsr⟩ := hrel
    by_cases hlt : j < L.length
    · have hrow6 := hrow5.stp hsr
      obtain ⟨b, off, rfl, hb, hbg, hc⟩ := hrow6.2 (by omega)
      have hx := pcells_get L j hlt
      have hc1 : wr.cell? ⟨b, off + j * 2, none⟩ = some (.int .i64 L[j].1) := hc _ _ hx.1
      have hc2 : wr.cell? ⟨b, off + j * 2 + 1, none⟩ = some (.int .i64 L[j].2) := hc _ _ hx.2
      have ho := hrise.off j hlt
      have hT := hrise.last j hlt
      have hh := hrise.hi j hlt
      have hls := lastT_succ L j hlt
      clear hx hc hrow6 hb hbg
      generalize hx1 : L[j].1 = x1 at *
      generalize hx2 : L[j].2 = x2 at *
      have HLS := Lib.hid hls
      clear hx1 hx2 hls
      by_cases h60 : j = 60
      · subst h60
        go_wp2
        go_ret
        exact ⟨rfl, (hst7.new hsr (by simp; omega)).alloc _⟩
      · have h60' : ((j : Int) == 60) = false := by simp; omega
        have hm := tmod60 x1
        have hgood := hof.good hbd (by omega)
        have hof2 := upd_of (off := x1.tmod 1152921504606846976) hof hT.2 hT.1
        have ht1 : isTime x2 = true := isTime_mk (by omega) (by omega)
        have ht2 : isTime (x2 + by_) = true := isTime_mk (by omega) (by omega)
        have hla := upd_lat (off := x1.tmod 1152921504606846976) hlat ht1 ht2 hby.1 (by have := hof.si1; omega)
        have hdb := upd_dbl (c := c1) (now := x2) (absS_two (x1.tmod 1152921504606846976) hm.1 hm.2)
        have hgl : c3.good := by
          obtain ⟨a1, a2, a3, a4, a5, a6, a7, a8⟩ := hgood
          obtain ⟨l1, l2, l3, l4, l5⟩ := hlat
          have := hof.si1
          constructor <;> omega
        have hgd' : c1.dbl.good := by
          obtain ⟨a1, a2, a3, a4, a5, a6, a7, a8⟩ := hgood
          have e1 := hof.st
          have e2 := hbd.st1
          constructor <;> simp only [CS.dbl] <;> omega
        generalize hu : c1.upd (x1.tmod 1152921504606846976) x2 = u at *
        obtain ⟨d, er, c5⟩ := u
        generalize hv : c3.upd (x1.tmod 1152921504606846976) (x2 + by_) = v at *
        obtain ⟨d2, er2, c6⟩ := v
        obtain ⟨h1, h2, hlat2⟩ := hla
        simp only at h1 h2 hlat2 hof2 hdb
        subst h1
        subst h2
        have hs6 := hlat2.s
        have HU := Lib.hid hu
        have HV := Lib.hid hv
        have HD := Lib.hid hdb
        have HS6 := Lib.hid hs6
        have hlg := lt_of_at hat1
        have hld := lt_of_at had1
        have hle := lt_of_at hae1
        clear hu hv hdb hs6 ht1 ht2
        go_wp2_with fail
        refine (upd_is d2 er2 c5 (by exact Blk.alloc (t := 46) (show Blk wr g 46 _ from hat1) _) HU.out hgood (by omega) (by omega)).mono ?_
        rintro e w5 ⟨rfl, hat5, hs5⟩
        have y1 : w5.cell? ⟨wr.heap.size, 1, none⟩ = some (.int .i64 x2) := hs5.cell ((Blk.new wr 30 #[.int .i64 x1, .int .i64 x2]).cell 1) (by simp; omega)
        have had5 : c1.dbl.at w5 gd := hs5.at (Blk.alloc (t := 46) (show Blk wr gd 46 _ from had1) _) (by simp; omega)
        have hae5 : c3.at w5 ge := hs5.at (Blk.alloc (t := 46) (show Blk wr ge 46 _ from hae1) _) (by simp; omega)
        go_wp2_with fail
        refine (upd_is d2 er2 c6 hae5 HV.out hgl (by omega) (by omega)).mono ?_
        rintro e w6 ⟨rfl, hae6, hs6⟩
        have y2 : w6.cell? ⟨wr.heap.size, 1, none⟩ = some (.int .i64 x2) := hs6.cell y1 (by simp; omega)
        have had6 : c1.dbl.at w6 gd := hs6.at had5 (by simp; omega)
        have hat6 : c5.at w6 g := hs6.at hat5 (by simp; omega)
        go_wp2_with fail
        refine (upd_is d2 er2 c5.dbl had6 HD.out hgd' (by omega) (by omega)).mono ?_
        rintro e w7 ⟨rfl, had7, hs7⟩
        have hat7 : c5.at w7 g := hs7.at hat6 (by simp; omega)
        have hae7 : c6.at w7 ge := hs7.at hae6 (by simp; omega)
        have hs8 : Stp [ge, gd, g] w4 w7 := (((hsr.alloc _).trans (hs5.mono (by simp))).trans (hs6.mono (by simp))).trans (hs7.mono (by simp))
        clear hs5 hs6 hs7 had5 hat5 y1 y2 hat6 hae6 had6 hae5
        go_wp2_with (first | (go_at_call 11; (with_reducible refine (state_any g c5 _ hat7).mono ?_); rintro e w8 ⟨rfl, rfl⟩) | (go_at_call 11; (with_reducible refine (state_any gd c5.dbl _ had7).mono ?_); rw [show c5.dbl.s = c5.s from rfl]; rintro e w8 ⟨rfl, rfl⟩) | (go_at_call 11; (with_reducible refine (state_any ge c6 _ hae7).mono ?_); rw [HS6.out]; rintro e w8 ⟨rfl, rfl⟩))
        go_roundw
        case rel => exact ⟨j + 1, c5, c6, by omega, by omega, by go_num, hat7, hae7, had7, by rw [HLS.out]; exact hof2, hlat2, hs8⟩
        case measure => simp [intOf]; omega
    · obtain rfl : j = L.length := by omega
      go_wp2
      go_ret
      exact ⟨rfl, hst7.new hsr (by simp; omega)⟩

end Go.Proofs.Yteoglmbmbejlaaa
