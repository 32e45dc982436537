/- ClockSteps' walk. -/
import Derived.Test.YteoglmbmbejlaaaPure3
import Derived.Deep.CutRange
import Derived.Deep.CutBlock
import Derived.LoopTactic
namespace Go.Proofs.Yteoglmbmbejlaaa
open Go.RowKit
set_option linter.unusedVariables false
set_option linter.unusedSimpArgs false

/-- What becomes of an offset that is not beyond all, all at once. -/
theorem step_all {c0 c c' : CS} {T off now : Int} {first : Bool} {great last d gn : Int} {gb : Bool} (h : StepInv c0 c T first great last) (hb : c0.Bd) (hn : T ≤ now) (h1 : now ≤ 4611686018427387904) (h0 : 0 ≤ T)
    (hu : c.upd off now = (d, 0, c')) (hp : ¬ (0 < c0.pa ∧ c0.pa < absS off)) (hgb : decide (c0.st < absS off) = gb) (hgn : (if c0.st < absS off then if great < 0 then now else great else -1) = gn) :
    2 ≤ c'.s ∧ c'.si ≤ now ∧ ((gb = false ∧ d = 1 ∧ StepInv c0 c' now false (-1) last) ∨
      (gb = true ∧ (great < 0 ∧ now = gn ∨ 0 ≤ great ∧ great = gn) ∧ ((d = 2 ∧ StepInv c0 c' now false gn now ∧ (first = true ∧ last = -1 ∨ first = false ∧ c.s = 2 ∧ c0.so ≤ now - gn ∨ first = false ∧ c.s = 3 ∧ c0.so ≤ now - c.si) ∧ (last = -1 ∨ c0.so ≤ now - last)) ∨
        d = 0 ∧ first = false ∧ StepInv c0 c' now false gn last))) := by
  by_cases hs : c0.st < absS off
  · rw [if_pos hs] at hgn
    have hg : great < 0 ∧ gn = now ∨ 0 ≤ great ∧ gn = great := by
      subst hgn
      by_cases hz : great < 0
      · rw [if_pos hz]; exact .inl ⟨hz, rfl⟩
      · rw [if_neg hz]; exact .inr ⟨by omega, rfl⟩
    obtain ⟨d', c2, hu', hcase, hs', hsi'⟩ := step_great h hb hn h1 h0 hs hp hg
    rw [hu] at hu'
    obtain ⟨rfl, hu2⟩ := Prod.mk.inj hu'
    obtain ⟨-, rfl⟩ := Prod.mk.inj hu2
    refine ⟨by omega, hsi', .inr ⟨by rw [← hgb]; exact decide_eq_true hs, by omega, ?_⟩⟩
    rcases hcase with ⟨rfl, hI, hf, hl⟩ | ⟨rfl, hf, hI⟩
    · refine .inl ⟨rfl, hI, ?_, hl⟩
      rcases hf with hf | hf | hf
      · exact .inl ⟨hf, (h.f1 hf).2.1⟩
      · exact .inr (.inl hf)
      · exact .inr (.inr hf)
    · exact .inr ⟨rfl, hf, hI⟩
  · obtain ⟨c2, hu', hI, hs', hsi'⟩ := step_small h hb hn h1 h0 hs
    rw [hu] at hu'
    obtain ⟨rfl, hu2⟩ := Prod.mk.inj hu'
    obtain ⟨-, rfl⟩ := Prod.mk.inj hu2
    exact ⟨by omega, hsi', .inl ⟨by rw [← hgb]; exact decide_eq_false hs, rfl, hI⟩⟩

set_option maxRecDepth 100000 in
set_option maxHeartbeats 8000000 in
theorem steps_walk (st pa so : Int) (kn : Bool) (A : Option Addr) (n c : Nat) (l : List (Int × Int)) (w : World)
    (_hst : -9223372036854775808 ≤ st ∧ st ≤ 9223372036854775807) (_hpa : -9223372036854775808 ≤ pa ∧ pa ≤ 9223372036854775807) (_hso : -9223372036854775808 ≤ so ∧ so ≤ 9223372036854775807)
    (hr : Reads w w.heap.size 2 A n (pcells l)) (hl : l.length = n) (hn : n * 16 ≤ 140737488351232) (hw : ∀ t ∈ l, (-9223372036854775808 ≤ t.1 ∧ t.1 ≤ 9223372036854775807) ∧ (-9223372036854775808 ≤ t.2 ∧ t.2 ≤ 9223372036854775807)) :
    Calls Try.prog 4 #[.agg #[.int .i64 st, .int .i64 pa, .int .i64 so, .bool kn], .slice A n c] w fun e w' => e = .returned (.bool true) ∧ Stp [] w w' := by
  clear _hst _hpa _hso
  go_enter Try.func4, Try.ntmps4
  go_wp2_with fail
  refine (fair_row st pa so kn A n c l _ ((hr.alloc (Nat.le_refl _) _).more (by simp)) hl hn).mono ?_
  rintro e w1 ⟨g, A2, c2, rfl, hat, hg, hmc, hcm, hrow, hst⟩
  have hbox := (show Blk _ _ _ _ from hst.at (new_at w _) (by simp))
  have hst0 := ((Stp.refl [] w).alloc _).trans hst
  have hrow1 := hrow [g, w.heap.size] (by simp)
  have hrise := rise_acc l (fun t ht => (hw t ht).1)
  have hl80 : (acc 0 (l.take 80)).length ≤ 80 := by rw [acc_length, List.length_take]; omega
  have hbd := fair_bd st pa so kn
  have gN : w.heap.size + 1 ≤ g := by simpa using hg
  have q0 : (CS.mk (st % 1073741824) (fpa st pa) (so % 1099511627776) (if kn = true then 1 else 0) 0).st = st % 1073741824 := rfl
  have q1 : (CS.mk (st % 1073741824) (fpa st pa) (so % 1099511627776) (if kn = true then 1 else 0) 0).pa = fpa st pa := rfl
  have q2 : (CS.mk (st % 1073741824) (fpa st pa) (so % 1099511627776) (if kn = true then 1 else 0) 0).so = so % 1099511627776 := rfl
  generalize hL : acc 0 (l.take 80) = L at *
  generalize hc0 : CS.mk (st % 1073741824) (fpa st pa) (so % 1099511627776) (if kn = true then 1 else 0) 0 = c0 at *
  have b0 := hbox.cell 0
  have b1 := hbox.cell 1
  have b2 := hbox.cell 2
  have b3 := hbox.cell 3
  have z0 := hbox.frozen 0
  have z1 := hbox.frozen 1
  have z2 := hbox.frozen 2
  have z3 := hbox.frozen 3
  simp only [List.getElem?_toArray, List.getElem?_cons_zero, List.getElem?_cons_succ] at b0 b1 b2 b3
  have hboxH := Lib.hid hbox
  rw [← q0, ← q1, ← q2]
  clear hL hc0 hst hrow hg hbox q0 q1 q2
  go_wp2_with fail
  refine (awake_any _).mono ?_
  rintro e w2 ⟨rfl, hst2⟩
  have hne : g ≠ w.heap.size := by omega
  have hatB : Blk w1 g 46 _ := hat
  have hat2 : c0.at w2 g := hst2.at ((((hatB.far (p := ⟨w.heap.size, 0, none⟩) hne _).far (p := ⟨w.heap.size, 1, none⟩) hne _).far (p := ⟨w.heap.size, 2, none⟩) hne _).far (p := ⟨w.heap.size, 3, none⟩) hne _) (by simp)
  have hbox2 : Blk w2 w.heap.size 23 _ := hst2.at ((((hboxH.out.set_ 0 _).set_ 1 _).set_ 2 _).set_ 3 _) (by simp)
  have hrow2 : RowIn w2 A2 L.length 2 (pcells L) [g] := (hrow1.stp ((((((Stp.refl [g, w.heap.size] w1).setCell (p := ⟨w.heap.size, 0, none⟩) (.inl (by simp)) _).setCell (p := ⟨w.heap.size, 1, none⟩) (.inl (by simp)) _).setCell (p := ⟨w.heap.size, 2, none⟩) (.inl (by simp)) _).setCell (p := ⟨w.heap.size, 3, none⟩) (.inl (by simp)) _).trans hst2.of_nil)).less (by simp)
  have hst3 : Stp [] w w2 := ((((hst0.setCell (p := ⟨w.heap.size, 0, none⟩) (.inr (Nat.le_refl _)) _).setCell (p := ⟨w.heap.size, 1, none⟩) (.inr (Nat.le_refl _)) _).setCell (p := ⟨w.heap.size, 2, none⟩) (.inr (Nat.le_refl _)) _).setCell (p := ⟨w.heap.size, 3, none⟩) (.inr (Nat.le_refl _)) _).trans hst2
  clear hst2 hatB hat hrow1 hst0 hboxH b0 b1 b2 b3 z0 z1 z2 z3
  have hbox2' : Blk w2 w.heap.size 23 #[.int .i64 c0.st, .int .i64 c0.pa, .int .i64 c0.so, .bool kn] := hbox2
  have HB := Lib.hid hbox2'
  clear hbox2 hbox2'
  have inv0 : StepInv c0 c0 0 true (-1) (-1) := ⟨hbd.of, fun _ => ⟨hbd.s01, rfl, rfl⟩, by simp, by omega, by omega, fun h => by have := hbd.s01; omega, by omega, by have := hbd.si; omega⟩
  go_wp2_with fail
  go_loopw [6, 7, 8, 34] (fun f gr la i wr => ∃ (j : Nat) (c1 : CS) (first : Bool) (great last : Int), j ≤ L.length ∧ i = .int .i64 j ∧ f = .bool first ∧ gr = .int .i64 great ∧ la = .int .i64 last ∧ c1.at wr g ∧ StepInv c0 c1 (lastT L j) first great last ∧ Stp [g] w2 wr) (fun _ _ _ i _ => L.length - (intOf i).toNat)
  case atStart => exact ⟨0, c0, true, -1, -1, by omega, rfl, rfl, rfl, rfl, hat2, inv0, Stp.refl _ _⟩
  case round =>
    obtain ⟨j, c1, first, great, last, hj, rfl, rfl, rfl, rfl, hat1, hinv, hsr⟩ := hrel
    by_cases hlt : j < L.length
    · have hrow4 := hrow2.stp hsr
      obtain ⟨b, off, rfl, hb, hbg, hc⟩ := hrow4.2 (by omega)
      have hx := pcells_get L j hlt
      have hc1 : wr.cell? ⟨b, off + j * 2, none⟩ = some (.int .i64 L[j].1) := hc _ _ hx.1
      have hc2 : wr.cell? ⟨b, off + j * 2 + 1, none⟩ = some (.int .i64 L[j].2) := hc _ _ hx.2
      have ho := hrise.off j hlt
      have hT := hrise.last j hlt
      have hh := hrise.hi j hlt
      have hls := lastT_succ L j hlt
      clear hx hc hrow4 hb hbg
      generalize hx1 : L[j].1 = x1 at *
      generalize hx2 : L[j].2 = x2 at *
      have HLS := Lib.hid hls
      clear hx1 hx2 hls
      have hgood := hinv.of.good hbd (by omega)
      obtain ⟨d1, d2, d3, d4, d5, d6, d7, d8⟩ := hbd
      have hbd : c0.Bd := ⟨d1, d2, d3, d4, d5, d6, d7, d8⟩
      obtain ⟨o1, o2⟩ := ho
      obtain ⟨a1, a2⟩ := abs_pos x1 o2 o1
      have hlg := lt_of_at hat1
      have i1 := hinv.of.si0
      have i2 := hinv.of.si1
      have i3 := hinv.g0
      have i4 := hinv.g1
      have i5 := hinv.l0
      have i6 := hinv.l1
      obtain ⟨t1, t2⟩ := hT
      have hnN : w.heap.size ∉ [g] := by simp; omega
      have m0 : wr.cell? ⟨w.heap.size, 0, none⟩ = some (.int .i64 c0.st) := hsr.cell (HB.out.cell 0) hnN
      have m1 : wr.cell? ⟨w.heap.size, 1, none⟩ = some (.int .i64 c0.pa) := hsr.cell (HB.out.cell 1) hnN
      have m2 : wr.cell? ⟨w.heap.size, 2, none⟩ = some (.int .i64 c0.so) := hsr.cell (HB.out.cell 2) hnN
      have m3 : wr.cell? ⟨w.heap.size, 3, none⟩ = some (.bool kn) := hsr.cell (HB.out.cell 3) hnN
      obtain ⟨d, en, c', hu⟩ : ∃ d en c', c1.upd x1 x2 = (d, en, c') := ⟨_, _, _, rfl⟩
      have HU := Lib.hid hu
      have HINV := Lib.hid hinv
      clear hinv hu
      have hat1' : c1.at (wr.alloc (.cells #[.int .i64 x1, .int .i64 x2] 30)) g := Blk.alloc (t := 46) (show Blk wr g 46 _ from hat1) _
      go_wp2_with fail
      refine (state_any g c1 _ hat1').mono ?_
      rintro e w8 ⟨rfl, rfl⟩
      go_wp2_with fail
      refine (since_any g c1 _ hat1').mono ?_
      rintro e w8 ⟨rfl, rfl⟩
      go_wp2_with fail
      refine (upd_is d en c' hat1' HU.out hgood o1 o2).mono ?_
      rintro e w5 ⟨rfl, hat5, hs5⟩
      have y0 : w5.cell? ⟨wr.heap.size, 0, none⟩ = some (.int .i64 x1) := hs5.cell ((Blk.new wr 30 #[.int .i64 x1, .int .i64 x2]).cell 0) (by simp; omega)
      have y1 : w5.cell? ⟨wr.heap.size, 1, none⟩ = some (.int .i64 x2) := hs5.cell ((Blk.new wr 30 #[.int .i64 x1, .int .i64 x2]).cell 1) (by simp; omega)
      have n0 : w5.cell? ⟨w.heap.size, 0, none⟩ = some (.int .i64 c0.st) := hs5.cell ((World.cell?_alloc_lt wr _ ⟨w.heap.size, 0, none⟩ (by simp; omega)).trans m0) hnN
      have n1 : w5.cell? ⟨w.heap.size, 1, none⟩ = some (.int .i64 c0.pa) := hs5.cell ((World.cell?_alloc_lt wr _ ⟨w.heap.size, 1, none⟩ (by simp; omega)).trans m1) hnN
      have n2 : w5.cell? ⟨w.heap.size, 2, none⟩ = some (.int .i64 c0.so) := hs5.cell ((World.cell?_alloc_lt wr _ ⟨w.heap.size, 2, none⟩ (by simp; omega)).trans m2) hnN
      have n3 : w5.cell? ⟨w.heap.size, 3, none⟩ = some (.bool kn) := hs5.cell ((World.cell?_alloc_lt wr _ ⟨w.heap.size, 3, none⟩ (by simp; omega)).trans m3) hnN
      have hs6 : Stp [g] w2 w5 := (hsr.alloc _).trans hs5
      have hat5n : ∀ n, CS.at c' (w5.drewN n) g := fun _ => hat5
      clear hs5 hc1 hc2 m0 m1 m2 m3 hat1 hat1' hsr
      have sz := size_any x1 w5 o1 o2
      obtain ⟨bb, hbb⟩ : ∃ bb, decide (0 < c0.pa ∧ c0.pa < absS x1) = bb := ⟨_, rfl⟩
      have HBB := Lib.hid hbb
      clear hbb
      have SZ := Lib.hid (fun (w : World) => size_any x1 w o1 o2)
      clear sz
      go_upto_region 12 with (fail)
      go_cut [15] from 35 to 190 (fun s wx => s = .bool bb ∧ ∃ n, wx = w5.drewN n)
      case first => as_aux_lemma =>
        by_cases h1 : 0 < c0.pa
        · have hd1 : decide (0 < c0.pa) = true := decide_eq_true h1
          by_cases h2 : c0.pa < absS x1
          · have hd2 : decide (c0.pa < absS x1) = true := decide_eq_true h2
            have e : true = bb := by rw [← HBB.out]; simp [h1, h2]
            have E := Lib.hid e
            clear e h1 h2
            go_wp2_with (go_quiet ((first | (go_at_call 13; with_reducible exact quiet_add_same (SZ.out _)) | (go_at_call 13; with_reducible exact Calls.quiet_of_same (SZ.out _)))))
            go_meet
            exact ⟨by rw [E.out], _, rfl⟩
          · have hd2 : decide (c0.pa < absS x1) = false := decide_eq_false h2
            have e : false = bb := by rw [← HBB.out]; simp [h1, h2]
            have E := Lib.hid e
            clear e h1 h2
            go_wp2_with (go_quiet ((first | (go_at_call 13; with_reducible exact quiet_add_same (SZ.out _)) | (go_at_call 13; with_reducible exact Calls.quiet_of_same (SZ.out _)))))
            go_meet
            exact ⟨by rw [E.out], _, rfl⟩
        · have hd1 : decide (0 < c0.pa) = false := decide_eq_false h1
          have e : false = bb := by rw [← HBB.out]; simp [h1]
          have E := Lib.hid e
          clear e h1
          go_wp2_with (go_quiet ((first | (go_at_call 13; with_reducible exact quiet_add_same (SZ.out _)) | (go_at_call 13; with_reducible exact Calls.quiet_of_same (SZ.out _)))))
          go_meet
          exact ⟨by rw [E.out], _, rfl⟩
      case rest =>
        obtain ⟨rfl, q, rfl⟩ := hcut
        by_cases hp : 0 < c0.pa ∧ c0.pa < absS x1
        · as_aux_lemma =>
          have hu := HU.out
          rw [upd_beyond HINV.out.of t2 (by omega) t1 hp] at hu
          obtain ⟨rfl, hu2⟩ := Prod.mk.inj hu
          obtain ⟨rfl, rfl⟩ := Prod.mk.inj hu2
          obtain rfl : bb = true := by rw [← HBB.out]; simp [hp]
          have hinv := HINV.out
          have hI : StepInv c0 c1 x2 first great last := ⟨hinv.of.mono t2, hinv.f1, hinv.f2, hinv.g0, by omega, hinv.g2, hinv.l0, hinv.l1⟩
          have HI := Lib.hid hI
          clear hinv hI hu hu2 hp HBB
          go_wp2_with fail
          refine (state_any g c1 _ (hat5n _)).mono ?_
          rintro e w8 ⟨rfl, rfl⟩
          go_wp2_with fail
          refine (since_any g c1 _ (hat5n _)).mono ?_
          rintro e w8 ⟨rfl, rfl⟩
          go_wp2_with fail
          go_roundw
          case rel => exact ⟨j + 1, c1, first, great, last, by omega, by go_num, rfl, rfl, rfl, hat5n _, by rw [HLS.out]; exact HI.out, hs6.drewN _⟩
          case measure => simp [intOf]; omega
        · obtain rfl : bb = false := by rw [← HBB.out]; simp [hp]
          obtain ⟨gb, hgb⟩ : ∃ gb, decide (c0.st < absS x1) = gb := ⟨_, rfl⟩
          have HGB := Lib.hid hgb
          obtain ⟨gn, hgn⟩ : ∃ gn, (if c0.st < absS x1 then if great < 0 then x2 else great else -1) = gn := ⟨_, rfl⟩
          have HGN := Lib.hid hgn
          have HP := Lib.hid hp
          have en0 : en = 0 := by
            have hu := HU.out
            rw [upd_in HINV.out.of t2 (by omega) t1 hp] at hu
            simp only at hu
            (repeat' split at hu) <;> exact (Prod.mk.inj (Prod.mk.inj hu).2).1.symm
          subst en0
          clear hgb hgn hp HBB
          go_upto_region 18 with (fail)
          have z5 : Hid (Stp [g] w2 (w5.drewN q)) := hs6.drewN q
          have y0' : (w5.drewN q).cell? ⟨wr.heap.size, 0, none⟩ = some (.int .i64 x1) := y0
          have y1' : (w5.drewN q).cell? ⟨wr.heap.size, 1, none⟩ = some (.int .i64 x2) := y1
          have n0' : (w5.drewN q).cell? ⟨w.heap.size, 0, none⟩ = some (.int .i64 c0.st) := n0
          have n2' : (w5.drewN q).cell? ⟨w.heap.size, 2, none⟩ = some (.int .i64 c0.so) := n2
          have n3' : (w5.drewN q).cell? ⟨w.heap.size, 3, none⟩ = some (.bool kn) := n3
          have a5 : ∀ n, CS.at c' ((w5.drewN q).drewN n) g := fun _ => hat5
          generalize w5.drewN q = W5 at *
          clear y0 y1 n0 n1 n2 n3 hat5n hat5 hs6
          go_cut [16] from 35 to 190 (fun s wx => s = .bool gb ∧ ∃ n, wx = W5.drewN n)
          case first => as_aux_lemma =>
            by_cases h1 : c0.st < absS x1
            · have hd1 : decide (c0.st < absS x1) = true := decide_eq_true h1
              have e : true = gb := by rw [← HGB.out]; simp [h1]
              have E := Lib.hid e
              clear e h1
              go_wp2_with (go_quiet ((first | (go_at_call 13; with_reducible exact quiet_add_same (SZ.out _)) | (go_at_call 13; with_reducible exact Calls.quiet_of_same (SZ.out _)))))
              go_meet
              exact ⟨by rw [E.out], _, rfl⟩
            · have hd1 : decide (c0.st < absS x1) = false := decide_eq_false h1
              have e : false = gb := by rw [← HGB.out]; simp [h1]
              have E := Lib.hid e
              clear e h1
              go_wp2_with (go_quiet ((first | (go_at_call 13; with_reducible exact quiet_add_same (SZ.out _)) | (go_at_call 13; with_reducible exact Calls.quiet_of_same (SZ.out _)))))
              go_meet
              exact ⟨by rw [E.out], _, rfl⟩
          case rest =>
            obtain ⟨rfl, q2, rfl⟩ := hcut
            have z5' := Lib.hid (z5.out.drewN q2)
            have y0 : (W5.drewN q2).cell? ⟨wr.heap.size, 0, none⟩ = some (.int .i64 x1) := y0'
            have y1 : (W5.drewN q2).cell? ⟨wr.heap.size, 1, none⟩ = some (.int .i64 x2) := y1'
            have n0 : (W5.drewN q2).cell? ⟨w.heap.size, 0, none⟩ = some (.int .i64 c0.st) := n0'
            have n2 : (W5.drewN q2).cell? ⟨w.heap.size, 2, none⟩ = some (.int .i64 c0.so) := n2'
            have n3 : (W5.drewN q2).cell? ⟨w.heap.size, 3, none⟩ = some (.bool kn) := n3'
            have a6 : ∀ n, CS.at c' ((W5.drewN q2).drewN n) g := fun n => by rw [World.drewN_drewN]; exact a5 _
            have a60 : CS.at c' (W5.drewN q2) g := a5 q2
            generalize W5.drewN q2 = W6 at *
            clear y0' y1' n0' n2' n3' a5 z5
            have SA := step_all HINV.out hbd t2 (by omega) t1 HU.out HP.out HGB.out HGN.out
            obtain ⟨s0', si', hcase⟩ := SA
            have e0 : (c'.s == 0) = false := by simp; omega
            have e1 : (c'.s == 1) = false := by simp; omega
            have e2 : decide (x2 < c'.si) = false := decide_eq_false (by omega)
            have x2n : 0 ≤ x2 := by omega
            clear HU HP HGB HINV s0' si'
            rcases hcase with ⟨rfl, rfl, hI⟩ | ⟨rfl, hgr, ⟨rfl, hI, hf, hl⟩ | ⟨rfl, rfl, hI⟩⟩
            · as_aux_lemma =>
              have HI := Lib.hid hI
              clear hI HGN
              go_wp2_with fail
              refine (state_any g c' _ (show CS.at c' W6 g from a60)).mono ?_
              rintro e w8 ⟨rfl, rfl⟩
              go_upto_region 32 with (fail)
              go_wp2_with (go_quiet ((first | (go_at_call 12; with_reducible exact quiet_add_same (since_any g c' _ (a6 _))) | (go_at_call 12; with_reducible exact Calls.quiet_of_same (since_any g c' _ (a6 _))))))
              go_roundw
              case rel => exact ⟨j + 1, c', false, -1, last, by omega, by go_num, rfl, rfl, rfl, a6 _, by rw [HLS.out]; exact HI.out, z5'.out.drewN _⟩
              case measure => simp [intOf]; omega
            · have hg' : great < 0 ∧ x2 = gn ∨ 0 ≤ great ∧ great = gn := hgr
              have HI := Lib.hid hI
              clear hI hgr HGN
              have hl2 : last = -1 ∨ 0 ≤ last ∧ c0.so ≤ x2 - last := by omega
              clear hl
              rcases hf with ⟨rfl, rfl⟩ | ⟨rfl, h2, h3⟩ | ⟨rfl, h2, h3⟩
              · clear hl2
                rcases hg' with ⟨hgn, rfl⟩ | ⟨hgn, rfl⟩
                all_goals as_aux_lemma =>
                  go_wp2_with fail
                  refine (state_any g c' _ (show CS.at c' W6 g from a60)).mono ?_
                  rintro e w8 ⟨rfl, rfl⟩
                  go_upto_region 32 with (fail)
                  go_wp2_with (go_quiet ((first | (go_at_call 12; with_reducible exact quiet_add_same (since_any g c' _ (a6 _))) | (go_at_call 12; with_reducible exact Calls.quiet_of_same (since_any g c' _ (a6 _))))))
                  go_roundw
                  case rel => exact ⟨j + 1, c', false, _, x2, by omega, by go_num, rfl, rfl, rfl, a6 _, by rw [HLS.out]; exact HI.out, z5'.out.drewN _⟩
                  case measure => simp [intOf]; omega
              · have e3 : (c1.s == 3) = false := by simp [h2]
                clear h2
                rcases hg' with ⟨hgn, rfl⟩ | ⟨hgn, rfl⟩
                all_goals rcases hl2 with rfl | ⟨hl0, hl1⟩
                all_goals as_aux_lemma =>
                  go_wp2_with fail
                  refine (state_any g c' _ (show CS.at c' W6 g from a60)).mono ?_
                  rintro e w8 ⟨rfl, rfl⟩
                  go_upto_region 32 with (fail)
                  go_wp2_with (go_quiet ((first | (go_at_call 12; with_reducible exact quiet_add_same (since_any g c' _ (a6 _))) | (go_at_call 12; with_reducible exact Calls.quiet_of_same (since_any g c' _ (a6 _))))))
                  go_roundw
                  case rel => exact ⟨j + 1, c', false, _, x2, by omega, by go_num, rfl, rfl, rfl, a6 _, by rw [HLS.out]; exact HI.out, z5'.out.drewN _⟩
                  case measure => simp [intOf]; omega
              · have e3 : (c1.s == 3) = true := by simp [h2]
                have e4 : decide (c0.so ≤ x2 - c1.si) = true := decide_eq_true h3
                clear h2
                have hsp : (c0.so ≤ x2 - gn) ∨ ¬ (c0.so ≤ x2 - gn) := Classical.em _
                rcases hg' with ⟨hgn, rfl⟩ | ⟨hgn, rfl⟩
                all_goals rcases hl2 with rfl | ⟨hl0, hl1⟩
                all_goals rcases hsp with hsp | hsp
                all_goals as_aux_lemma =>
                  go_wp2_with fail
                  refine (state_any g c' _ (show CS.at c' W6 g from a60)).mono ?_
                  rintro e w8 ⟨rfl, rfl⟩
                  go_upto_region 32 with (fail)
                  go_wp2_with (go_quiet ((first | (go_at_call 12; with_reducible exact quiet_add_same (since_any g c' _ (a6 _))) | (go_at_call 12; with_reducible exact Calls.quiet_of_same (since_any g c' _ (a6 _))))))
                  go_roundw
                  case rel => exact ⟨j + 1, c', false, _, x2, by omega, by go_num, rfl, rfl, rfl, a6 _, by rw [HLS.out]; exact HI.out, z5'.out.drewN _⟩
                  case measure => simp [intOf]; omega
            · rcases hgr with ⟨hgn, rfl⟩ | ⟨hgn, rfl⟩
              all_goals as_aux_lemma =>
                have HI := Lib.hid hI
                clear hI HGN
                go_wp2_with fail
                refine (state_any g c' _ (show CS.at c' W6 g from a60)).mono ?_
                rintro e w8 ⟨rfl, rfl⟩
                go_upto_region 32 with (fail)
                go_wp2_with (go_quiet ((first | (go_at_call 12; with_reducible exact quiet_add_same (since_any g c' _ (a6 _))) | (go_at_call 12; with_reducible exact Calls.quiet_of_same (since_any g c' _ (a6 _))))))
                go_roundw
                case rel => exact ⟨j + 1, c', false, _, last, by omega, by go_num, rfl, rfl, rfl, a6 _, by rw [HLS.out]; exact HI.out, z5'.out.drewN _⟩
                case measure => simp [intOf]; omega
    · obtain rfl : j = L.length := by omega
      go_wp2
      go_ret
      exact ⟨rfl, hst3.new hsr (by simp; omega)⟩

end Go.Proofs.Yteoglmbmbejlaaa
