/- LeapSmeared: out of leaps' days the smeared time is behind by as many seconds as the offset has grown by; on such a day it is from that by at most half a second. -/
import Derived.Test.YtkdpndoamepcbaaLeapH
namespace Go.Proofs.Ytkdpndoamepcbaa
open Go.RowKit
set_option linter.unusedVariables false
set_option linter.unusedSimpArgs false

theorem idxS_neg {α : Type} {f : α → Bool} : ∀ {l : List α}, idxS f l < 0 → ∀ x ∈ l, f x = false
  | [], _, x, hx => by simp at hx
  | y :: l, h, x, hx => by
    unfold idxS at h
    split at h
    · omega
    · rename_i hy
      split at h
      · rename_i h2
        rcases List.mem_cons.1 hx with rfl | hx
        · simpa using hy
        · exact idxS_neg h2 x hx
      · omega
theorem smeared_list {t : Int} : ∀ {L : List (Int × Int)}, Rise L → (∀ x ∈ L, x.2 = 1 ∨ x.2 = -1) →
    ((∀ x ∈ L, inS t x = false) → kS t L * 1000000000 - takenS t L = 0) ∧ -500000000 ≤ kS t L * 1000000000 - takenS t L ∧ kS t L * 1000000000 - takenS t L ≤ 500000000
  | [], _, _ => by simp [kS_nil, takenS_nil]
  | x :: l, hr, hk => by
    have hl := List.pairwise_cons.1 hr
    have ih := smeared_list (t := t) hl.2 (fun y hy => hk y (List.mem_cons_of_mem _ hy))
    have hx := hk x (List.mem_cons_self ..)
    have gm := goneS_mm t x.1
    rw [kS_cons, takenS_cons]
    unfold oneS
    by_cases h1 : x.1 + 43200000000000 ≤ t
    · have e : goneS t x.1 = 86400000000000 := by omega
      rw [e, if_pos (by omega)]
      refine ⟨fun h => ?_, ?_, ?_⟩
      · have := ih.1 (fun y hy => h y (List.mem_cons_of_mem _ hy))
        omega
      · omega
      · omega
    · have hz : takenS t l = 0 := takenS_zero (fun y hy => by have := hl.1 y hy; omega)
      have hz2 : kS t l = 0 := ks_zero (fun y hy => by have := hl.1 y hy; omega)
      rw [hz, hz2]
      by_cases h2 : x.1 - 43200000000000 ≤ t
      · have hin : inS t x = true := by unfold inS; simp; omega
        refine ⟨fun h => ?_, ?_, ?_⟩
        · have := h x (List.mem_cons_self ..)
          rw [hin] at this
          cases this
        · rcases hx with h | h <;> rw [h] <;> split <;> omega
        · rcases hx with h | h <;> rw [h] <;> split <;> omega
      · have e : goneS t x.1 = 0 := by omega
        rw [e, if_neg (by omega)]
        simp
theorem smeared_facts {L : List (Int × Int)} (ok : LOk L) (t : Int) : (idxS (inS t) L < 0 → kS t L * 1000000000 - takenS t L = 0) ∧ -500000000 ≤ kS t L * 1000000000 - takenS t L ∧ kS t L * 1000000000 - takenS t L ≤ 500000000 := by
  have h := smeared_list (t := t) ok.rise (fun x hx => (ok.each x hx).2.2)
  exact ⟨fun hi => h.1 (idxS_neg hi), h.2⟩

set_option maxRecDepth 100000 in
set_option maxHeartbeats 8000000 in
theorem leapSmeared_walk (A : Option Addr) (n c : Nat) (l : List Int) (bi a0 : Int) (near : Bool) (w : World) (hr : Reads w w.heap.size 1 A n (l.map (Value.int .u8))) (hl : l.length = n) (hn : n * 1 ≤ 140737488351232) (hb : ∀ x ∈ l, 0 ≤ x ∧ x ≤ 255) (hbi : -32768 ≤ bi ∧ bi ≤ 32767) (ha0 : -9223372036854775808 ≤ a0 ∧ a0 ≤ 9223372036854775807) :
    Calls Try.prog 8 #[.slice A n c, .int .i16 bi, .int .i64 a0, .bool near] w fun e w' => e = .returned (.bool true) ∧ Stp [] w w' := by
  obtain ⟨tb, htb⟩ : ∃ tb, bi.tmod 1001 = tb := ⟨_, rfl⟩
  have tb0 : -1001 < tb := by rw [← htb]; exact Int.lt_tmod_of_pos bi (by decide)
  have tb1 : tb < 1001 := by rw [← htb]; exact Int.tmod_lt_of_pos bi (by decide)
  have m1 := lmade_any A n c l tb w (RowIn.of_reads (G := []) hr (Nat.le_refl _) (by simp) (by decide)) hl (by omega) hb (by omega)
  obtain ⟨ok, hfar, hlen⟩ := lmade_ok l (base := tb) (by omega)
  have hML : (lmadeT l tb).L = lmadeL l := rfl
  have hbase : (lmadeT l tb).base = tb := rfl
  rw [← hML] at hfar hlen
  clear hML
  generalize lmadeT l tb = M at *
  have hm1 := i64_mask62 a0
  obtain ⟨a, hA⟩ : ∃ a, a0 % 4611686018427387904 = a := ⟨_, rfl⟩
  rw [hA] at hm1
  have a00 : 0 ≤ a := by omega
  have a01 : a < 4611686018427387904 := by omega
  have P := Lib.hid (And.intro m1 (And.intro ok (And.intro hfar hbase)))
  clear m1 hr hl hb hn ha0 hA hfar hbi ok hbase
  go_enter Try.func8, Try.ntmps8
  go_wp2_with fail
  refine P.out.1.mono ?_
  rintro e w1 ⟨g, A2, c2, rfl, a1, hrow, s1, _, k1, k2⟩
  have ok := P.out.2.1
  have hfar := P.out.2.2.1
  obtain ⟨N, hN⟩ : ∃ N, M.L.length = N := ⟨_, rfl⟩
  rw [hN] at hrow k1 hlen ⊢
  have HN := Lib.hid hN
  have n1 := new_lok A2 N c2 M.L w1 hrow hN ok.leaps
  have N1 := Lib.hid n1
  clear hN n1
  go_wp2_with fail
  refine N1.out.mono ?_
  rintro e w2 ⟨gs, rfl, tabs, s2, _⟩
  have HROW := Lib.hid (hrow.stp s2)
  have Z := Lib.hid (And.intro (a1.stp s2) (And.intro (s1.trans s2) tabs))
  clear a1 hrow s1 s2 tabs N1
  cases near with
  | false =>
    have hA : 0 ≤ a ∧ a ≤ 4611686018427387904 := by omega
    clear hfar
    obtain ⟨ks, hks⟩ : ∃ ks, kS a M.L = ks := ⟨_, rfl⟩
    obtain ⟨tk, htk⟩ : ∃ tk, takenS a M.L = tk := ⟨_, rfl⟩
    have sf := smeared_facts ok.leaps a
    rw [hks, htk] at sf
    have kb := kS_bd ok.leaps a
    rw [hks] at kb
    have tbd := takenS_bd a (L := M.L) (fun x hx => (ok.leaps.each x hx).2.2)
    have hl32 := ok.leaps.len
    rw [htk] at tbd
    have x1 := fun w h => offset_any g M a w h ok
    rw [P.out.2.2.2, hks] at x1
    obtain ⟨of, hof⟩ : ∃ of, tb + ks = of := ⟨_, rfl⟩
    rw [hof] at x1
    have x2 := fun w g h => to_any g M.L a w h ok.leaps
    rw [toS_in hA.1 hA.2, htk] at x2
    obtain ⟨vs, hvs⟩ : ∃ vs, a - tk = vs := ⟨_, rfl⟩
    rw [hvs] at x2
    have x3 := fun w g h => within_any g M.L a w h ok.leaps
    have hw : withinS M.L a = idxS (inS a) M.L := by unfold withinS; rw [instS_id hA.1 hA.2]
    rw [hw] at x3
    have X := Lib.hid (And.intro x1 (And.intro x2 x3))
    have h1 : of - tb = ks := by omega
    obtain ⟨wv, h2⟩ : ∃ wv, a - ks * 1000000000 = wv := ⟨_, rfl⟩
    obtain ⟨ap, h3⟩ : ∃ ap, vs - wv = ap := ⟨_, rfl⟩
    have hap : ap = ks * 1000000000 - tk := by omega
    rw [← hap] at sf
    obtain ⟨sf0, sf1, sf2⟩ := sf
    obtain ⟨hA0, hA1⟩ := hA
    have vb : -40000000000 ≤ vs ∧ vs ≤ 4611686050427387904 := by omega
    have wb : -40000000000 ≤ wv ∧ wv ≤ 4611686060427387904 := by omega
    obtain ⟨vb0, vb1⟩ := vb
    obtain ⟨wb0, wb1⟩ := wb
    obtain ⟨kb0, kb1⟩ := kb
    clear x1 x2 x3 hks htk hof hvs hap tbd hl32 hw ok P
    generalize idxS (inS a) M.L = ix at *
    have hcase : (ix < 0 ∧ ap = 0) ∨ 0 ≤ ix := by
      rcases Int.lt_or_le ix 0 with h | h
      · exact .inl ⟨h, sf0 h⟩
      · exact .inr h
    clear sf0
    rcases hcase with ⟨hix, rfl⟩ | hix
    · have hd : decide (0 ≤ ix) = false := decide_eq_false (by omega)
      rw [hd] at X
      clear hd hix
      go_wp2_with fail
      refine (X.out.1 _ Z.out.1).mono ?_
      rintro e w3 ⟨rfl, s3⟩
      go_wp2_with fail
      refine (X.out.2.1 _ _ (Z.out.2.2.stp s3)).mono ?_
      rintro e w4 ⟨rfl, s4⟩
      go_wp2_with fail
      refine (X.out.2.2 _ _ ((Z.out.2.2.stp s3).stp s4)).mono ?_
      rintro e w5 ⟨rfl, s5⟩
      go_wp2_with fail
      refine (alive_any _).mono ?_
      rintro e w6 ⟨rfl, s6⟩
      go_wp2_with fail
      go_ret
      exact ⟨rfl, (((Z.out.2.1.trans s3).trans s4).trans s5).trans s6⟩
    · have hd : decide (0 ≤ ix) = true := decide_eq_true hix
      rw [hd] at X
      clear hd hix
      go_wp2_with fail
      refine (X.out.1 _ Z.out.1).mono ?_
      rintro e w3 ⟨rfl, s3⟩
      go_wp2_with fail
      refine (X.out.2.1 _ _ (Z.out.2.2.stp s3)).mono ?_
      rintro e w4 ⟨rfl, s4⟩
      go_wp2_with fail
      refine (X.out.2.2 _ _ ((Z.out.2.2.stp s3).stp s4)).mono ?_
      rintro e w5 ⟨rfl, s5⟩
      go_wp2_with fail
      refine (alive_any _).mono ?_
      rintro e w6 ⟨rfl, s6⟩
      go_wp2_with fail
      go_ret
      exact ⟨rfl, (((Z.out.2.1.trans s3).trans s4).trans s5).trans s6⟩
  | true =>
    rcases Nat.eq_zero_or_pos N with hz | hz
    · subst hz
      have hA : 0 ≤ a ∧ a ≤ 4611686018427387904 := by omega
      clear hfar
      obtain ⟨ks, hks⟩ : ∃ ks, kS a M.L = ks := ⟨_, rfl⟩
      obtain ⟨tk, htk⟩ : ∃ tk, takenS a M.L = tk := ⟨_, rfl⟩
      have sf := smeared_facts ok.leaps a
      rw [hks, htk] at sf
      have kb := kS_bd ok.leaps a
      rw [hks] at kb
      have tbd := takenS_bd a (L := M.L) (fun x hx => (ok.leaps.each x hx).2.2)
      have hl32 := ok.leaps.len
      rw [htk] at tbd
      have x1 := fun w h => offset_any g M a w h ok
      rw [P.out.2.2.2, hks] at x1
      obtain ⟨of, hof⟩ : ∃ of, tb + ks = of := ⟨_, rfl⟩
      rw [hof] at x1
      have x2 := fun w g h => to_any g M.L a w h ok.leaps
      rw [toS_in hA.1 hA.2, htk] at x2
      obtain ⟨vs, hvs⟩ : ∃ vs, a - tk = vs := ⟨_, rfl⟩
      rw [hvs] at x2
      have x3 := fun w g h => within_any g M.L a w h ok.leaps
      have hw : withinS M.L a = idxS (inS a) M.L := by unfold withinS; rw [instS_id hA.1 hA.2]
      rw [hw] at x3
      have X := Lib.hid (And.intro x1 (And.intro x2 x3))
      have h1 : of - tb = ks := by omega
      obtain ⟨wv, h2⟩ : ∃ wv, a - ks * 1000000000 = wv := ⟨_, rfl⟩
      obtain ⟨ap, h3⟩ : ∃ ap, vs - wv = ap := ⟨_, rfl⟩
      have hap : ap = ks * 1000000000 - tk := by omega
      rw [← hap] at sf
      obtain ⟨sf0, sf1, sf2⟩ := sf
      obtain ⟨hA0, hA1⟩ := hA
      have vb : -40000000000 ≤ vs ∧ vs ≤ 4611686050427387904 := by omega
      have wb : -40000000000 ≤ wv ∧ wv ≤ 4611686060427387904 := by omega
      obtain ⟨vb0, vb1⟩ := vb
      obtain ⟨wb0, wb1⟩ := wb
      obtain ⟨kb0, kb1⟩ := kb
      clear x1 x2 x3 hks htk hof hvs hap tbd hl32 hw ok P
      generalize idxS (inS a) M.L = ix at *
      have hcase : (ix < 0 ∧ ap = 0) ∨ 0 ≤ ix := by
        rcases Int.lt_or_le ix 0 with h | h
        · exact .inl ⟨h, sf0 h⟩
        · exact .inr h
      clear sf0
      rcases hcase with ⟨hix, rfl⟩ | hix
      · have hd : decide (0 ≤ ix) = false := decide_eq_false (by omega)
        rw [hd] at X
        clear hd hix
        go_wp2_with fail
        refine (X.out.1 _ Z.out.1).mono ?_
        rintro e w3 ⟨rfl, s3⟩
        go_wp2_with fail
        refine (X.out.2.1 _ _ (Z.out.2.2.stp s3)).mono ?_
        rintro e w4 ⟨rfl, s4⟩
        go_wp2_with fail
        refine (X.out.2.2 _ _ ((Z.out.2.2.stp s3).stp s4)).mono ?_
        rintro e w5 ⟨rfl, s5⟩
        go_wp2_with fail
        refine (alive_any _).mono ?_
        rintro e w6 ⟨rfl, s6⟩
        go_wp2_with fail
        go_ret
        exact ⟨rfl, (((Z.out.2.1.trans s3).trans s4).trans s5).trans s6⟩
      · have hd : decide (0 ≤ ix) = true := decide_eq_true hix
        rw [hd] at X
        clear hd hix
        go_wp2_with fail
        refine (X.out.1 _ Z.out.1).mono ?_
        rintro e w3 ⟨rfl, s3⟩
        go_wp2_with fail
        refine (X.out.2.1 _ _ (Z.out.2.2.stp s3)).mono ?_
        rintro e w4 ⟨rfl, s4⟩
        go_wp2_with fail
        refine (X.out.2.2 _ _ ((Z.out.2.2.stp s3).stp s4)).mono ?_
        rintro e w5 ⟨rfl, s5⟩
        go_wp2_with fail
        refine (alive_any _).mono ?_
        rintro e w6 ⟨rfl, s6⟩
        go_wp2_with fail
        go_ret
        exact ⟨rfl, (((Z.out.2.1.trans s3).trans s4).trans s5).trans s6⟩
    · obtain ⟨jn, hj⟩ : ∃ jn : Nat, a % (N : Int) = jn := ⟨(a % (N : Int)).toNat, by have := Int.emod_nonneg a (show (N : Int) ≠ 0 by omega); omega⟩
      have hjN : jn < N := by have := Int.emod_lt_of_pos a (show 0 < (N : Int) by omega); omega
      have hjL : jn < M.L.length := by have := HN.out; omega
      obtain ⟨blk, off, rfl, hbb, hbg, hcell⟩ := HROW.out.2 hz
      have hx := pcells_get M.L jn hjL
      have hc1 : w2.cell? ⟨blk, off + jn * 2, none⟩ = some (.int .i64 M.L[jn].1) := hcell _ _ hx.1
      have hfr := hfar M.L[jn] (List.getElem_mem _)
      clear hx hcell hfar HROW
      generalize M.L[jn].1 = y at *
      obtain ⟨y0, y1⟩ := hfr
      have hwN : IntKind.u64.wrap (N : Int) = (N : Int) := by rw [wrap_u64]; omega
      have hwa : IntKind.u64.wrap a = a := by rw [wrap_u64]; omega
      obtain ⟨z, hz2⟩ : ∃ z, a % 4000000000 = z := ⟨_, rfl⟩
      have z0 : 0 ≤ z := by omega
      have z1 : z < 4000000000 := by omega
      have h3 : a % 3 = 0 ∨ a % 3 = 1 ∨ a % 3 = 2 := by omega
      rcases h3 with h3 | h3 | h3
      · obtain ⟨tv, htv⟩ : ∃ tv, y + -43200000000000 + z - 2000000000 = tv := ⟨_, rfl⟩
        have hA : 0 ≤ tv ∧ tv ≤ 4611686018427387904 := by omega
        obtain ⟨ks, hks⟩ : ∃ ks, kS tv M.L = ks := ⟨_, rfl⟩
        obtain ⟨tk, htk⟩ : ∃ tk, takenS tv M.L = tk := ⟨_, rfl⟩
        have sf := smeared_facts ok.leaps tv
        rw [hks, htk] at sf
        have kb := kS_bd ok.leaps tv
        rw [hks] at kb
        have tbd := takenS_bd tv (L := M.L) (fun x hx => (ok.leaps.each x hx).2.2)
        have hl32 := ok.leaps.len
        rw [htk] at tbd
        have x1 := fun w h => offset_any g M tv w h ok
        rw [P.out.2.2.2, hks] at x1
        obtain ⟨of, hof⟩ : ∃ of, tb + ks = of := ⟨_, rfl⟩
        rw [hof] at x1
        have x2 := fun w g h => to_any g M.L tv w h ok.leaps
        rw [toS_in hA.1 hA.2, htk] at x2
        obtain ⟨vs, hvs⟩ : ∃ vs, tv - tk = vs := ⟨_, rfl⟩
        rw [hvs] at x2
        have x3 := fun w g h => within_any g M.L tv w h ok.leaps
        have hw : withinS M.L tv = idxS (inS tv) M.L := by unfold withinS; rw [instS_id hA.1 hA.2]
        rw [hw] at x3
        have X := Lib.hid (And.intro x1 (And.intro x2 x3))
        have h1 : of - tb = ks := by omega
        obtain ⟨wv, h4⟩ : ∃ wv, tv - ks * 1000000000 = wv := ⟨_, rfl⟩
        obtain ⟨ap, h5⟩ : ∃ ap, vs - wv = ap := ⟨_, rfl⟩
        have hap : ap = ks * 1000000000 - tk := by omega
        rw [← hap] at sf
        obtain ⟨sf0, sf1, sf2⟩ := sf
        obtain ⟨hA0, hA1⟩ := hA
        have vb : -40000000000 ≤ vs ∧ vs ≤ 4611686050427387904 := by omega
        have wb : -40000000000 ≤ wv ∧ wv ≤ 4611686060427387904 := by omega
        obtain ⟨vb0, vb1⟩ := vb
        obtain ⟨wb0, wb1⟩ := wb
        obtain ⟨kb0, kb1⟩ := kb
        clear x1 x2 x3 hks htk hof hvs hap tbd hl32 hw ok P
        generalize idxS (inS tv) M.L = ix at *
        have hcase : (ix < 0 ∧ ap = 0) ∨ 0 ≤ ix := by
          rcases Int.lt_or_le ix 0 with h | h
          · exact .inl ⟨h, sf0 h⟩
          · exact .inr h
        clear sf0
        rcases hcase with ⟨hix, rfl⟩ | hix
        · have hd : decide (0 ≤ ix) = false := decide_eq_false (by omega)
          rw [hd] at X
          clear hd hix
          go_wp2_with fail
          refine (X.out.1 _ Z.out.1).mono ?_
          rintro e w3 ⟨rfl, s3⟩
          go_wp2_with fail
          refine (X.out.2.1 _ _ (Z.out.2.2.stp s3)).mono ?_
          rintro e w4 ⟨rfl, s4⟩
          go_wp2_with fail
          refine (X.out.2.2 _ _ ((Z.out.2.2.stp s3).stp s4)).mono ?_
          rintro e w5 ⟨rfl, s5⟩
          go_wp2_with fail
          refine (alive_any _).mono ?_
          rintro e w6 ⟨rfl, s6⟩
          go_wp2_with fail
          go_ret
          exact ⟨rfl, (((Z.out.2.1.trans s3).trans s4).trans s5).trans s6⟩
        · have hd : decide (0 ≤ ix) = true := decide_eq_true hix
          rw [hd] at X
          clear hd hix
          go_wp2_with fail
          refine (X.out.1 _ Z.out.1).mono ?_
          rintro e w3 ⟨rfl, s3⟩
          go_wp2_with fail
          refine (X.out.2.1 _ _ (Z.out.2.2.stp s3)).mono ?_
          rintro e w4 ⟨rfl, s4⟩
          go_wp2_with fail
          refine (X.out.2.2 _ _ ((Z.out.2.2.stp s3).stp s4)).mono ?_
          rintro e w5 ⟨rfl, s5⟩
          go_wp2_with fail
          refine (alive_any _).mono ?_
          rintro e w6 ⟨rfl, s6⟩
          go_wp2_with fail
          go_ret
          exact ⟨rfl, (((Z.out.2.1.trans s3).trans s4).trans s5).trans s6⟩
      · obtain ⟨tv, htv⟩ : ∃ tv, y + z - 2000000000 = tv := ⟨_, rfl⟩
        have hA : 0 ≤ tv ∧ tv ≤ 4611686018427387904 := by omega
        obtain ⟨ks, hks⟩ : ∃ ks, kS tv M.L = ks := ⟨_, rfl⟩
        obtain ⟨tk, htk⟩ : ∃ tk, takenS tv M.L = tk := ⟨_, rfl⟩
        have sf := smeared_facts ok.leaps tv
        rw [hks, htk] at sf
        have kb := kS_bd ok.leaps tv
        rw [hks] at kb
        have tbd := takenS_bd tv (L := M.L) (fun x hx => (ok.leaps.each x hx).2.2)
        have hl32 := ok.leaps.len
        rw [htk] at tbd
        have x1 := fun w h => offset_any g M tv w h ok
        rw [P.out.2.2.2, hks] at x1
        obtain ⟨of, hof⟩ : ∃ of, tb + ks = of := ⟨_, rfl⟩
        rw [hof] at x1
        have x2 := fun w g h => to_any g M.L tv w h ok.leaps
        rw [toS_in hA.1 hA.2, htk] at x2
        obtain ⟨vs, hvs⟩ : ∃ vs, tv - tk = vs := ⟨_, rfl⟩
        rw [hvs] at x2
        have x3 := fun w g h => within_any g M.L tv w h ok.leaps
        have hw : withinS M.L tv = idxS (inS tv) M.L := by unfold withinS; rw [instS_id hA.1 hA.2]
        rw [hw] at x3
        have X := Lib.hid (And.intro x1 (And.intro x2 x3))
        have h1 : of - tb = ks := by omega
        obtain ⟨wv, h4⟩ : ∃ wv, tv - ks * 1000000000 = wv := ⟨_, rfl⟩
        obtain ⟨ap, h5⟩ : ∃ ap, vs - wv = ap := ⟨_, rfl⟩
        have hap : ap = ks * 1000000000 - tk := by omega
        rw [← hap] at sf
        obtain ⟨sf0, sf1, sf2⟩ := sf
        obtain ⟨hA0, hA1⟩ := hA
        have vb : -40000000000 ≤ vs ∧ vs ≤ 4611686050427387904 := by omega
        have wb : -40000000000 ≤ wv ∧ wv ≤ 4611686060427387904 := by omega
        obtain ⟨vb0, vb1⟩ := vb
        obtain ⟨wb0, wb1⟩ := wb
        obtain ⟨kb0, kb1⟩ := kb
        clear x1 x2 x3 hks htk hof hvs hap tbd hl32 hw ok P
        generalize idxS (inS tv) M.L = ix at *
        have hcase : (ix < 0 ∧ ap = 0) ∨ 0 ≤ ix := by
          rcases Int.lt_or_le ix 0 with h | h
          · exact .inl ⟨h, sf0 h⟩
          · exact .inr h
        clear sf0
        rcases hcase with ⟨hix, rfl⟩ | hix
        · have hd : decide (0 ≤ ix) = false := decide_eq_false (by omega)
          rw [hd] at X
          clear hd hix
          go_wp2_with fail
          refine (X.out.1 _ Z.out.1).mono ?_
          rintro e w3 ⟨rfl, s3⟩
          go_wp2_with fail
          refine (X.out.2.1 _ _ (Z.out.2.2.stp s3)).mono ?_
          rintro e w4 ⟨rfl, s4⟩
          go_wp2_with fail
          refine (X.out.2.2 _ _ ((Z.out.2.2.stp s3).stp s4)).mono ?_
          rintro e w5 ⟨rfl, s5⟩
          go_wp2_with fail
          refine (alive_any _).mono ?_
          rintro e w6 ⟨rfl, s6⟩
          go_wp2_with fail
          go_ret
          exact ⟨rfl, (((Z.out.2.1.trans s3).trans s4).trans s5).trans s6⟩
        · have hd : decide (0 ≤ ix) = true := decide_eq_true hix
          rw [hd] at X
          clear hd hix
          go_wp2_with fail
          refine (X.out.1 _ Z.out.1).mono ?_
          rintro e w3 ⟨rfl, s3⟩
          go_wp2_with fail
          refine (X.out.2.1 _ _ (Z.out.2.2.stp s3)).mono ?_
          rintro e w4 ⟨rfl, s4⟩
          go_wp2_with fail
          refine (X.out.2.2 _ _ ((Z.out.2.2.stp s3).stp s4)).mono ?_
          rintro e w5 ⟨rfl, s5⟩
          go_wp2_with fail
          refine (alive_any _).mono ?_
          rintro e w6 ⟨rfl, s6⟩
          go_wp2_with fail
          go_ret
          exact ⟨rfl, (((Z.out.2.1.trans s3).trans s4).trans s5).trans s6⟩
      · obtain ⟨tv, htv⟩ : ∃ tv, y + 43200000000000 + z - 2000000000 = tv := ⟨_, rfl⟩
        have hA : 0 ≤ tv ∧ tv ≤ 4611686018427387904 := by omega
        obtain ⟨ks, hks⟩ : ∃ ks, kS tv M.L = ks := ⟨_, rfl⟩
        obtain ⟨tk, htk⟩ : ∃ tk, takenS tv M.L = tk := ⟨_, rfl⟩
        have sf := smeared_facts ok.leaps tv
        rw [hks, htk] at sf
        have kb := kS_bd ok.leaps tv
        rw [hks] at kb
        have tbd := takenS_bd tv (L := M.L) (fun x hx => (ok.leaps.each x hx).2.2)
        have hl32 := ok.leaps.len
        rw [htk] at tbd
        have x1 := fun w h => offset_any g M tv w h ok
        rw [P.out.2.2.2, hks] at x1
        obtain ⟨of, hof⟩ : ∃ of, tb + ks = of := ⟨_, rfl⟩
        rw [hof] at x1
        have x2 := fun w g h => to_any g M.L tv w h ok.leaps
        rw [toS_in hA.1 hA.2, htk] at x2
        obtain ⟨vs, hvs⟩ : ∃ vs, tv - tk = vs := ⟨_, rfl⟩
        rw [hvs] at x2
        have x3 := fun w g h => within_any g M.L tv w h ok.leaps
        have hw : withinS M.L tv = idxS (inS tv) M.L := by unfold withinS; rw [instS_id hA.1 hA.2]
        rw [hw] at x3
        have X := Lib.hid (And.intro x1 (And.intro x2 x3))
        have h1 : of - tb = ks := by omega
        obtain ⟨wv, h4⟩ : ∃ wv, tv - ks * 1000000000 = wv := ⟨_, rfl⟩
        obtain ⟨ap, h5⟩ : ∃ ap, vs - wv = ap := ⟨_, rfl⟩
        have hap : ap = ks * 1000000000 - tk := by omega
        rw [← hap] at sf
        obtain ⟨sf0, sf1, sf2⟩ := sf
        obtain ⟨hA0, hA1⟩ := hA
        have vb : -40000000000 ≤ vs ∧ vs ≤ 4611686050427387904 := by omega
        have wb : -40000000000 ≤ wv ∧ wv ≤ 4611686060427387904 := by omega
        obtain ⟨vb0, vb1⟩ := vb
        obtain ⟨wb0, wb1⟩ := wb
        obtain ⟨kb0, kb1⟩ := kb
        clear x1 x2 x3 hks htk hof hvs hap tbd hl32 hw ok P
        generalize idxS (inS tv) M.L = ix at *
        have hcase : (ix < 0 ∧ ap = 0) ∨ 0 ≤ ix := by
          rcases Int.lt_or_le ix 0 with h | h
          · exact .inl ⟨h, sf0 h⟩
          · exact .inr h
        clear sf0
        rcases hcase with ⟨hix, rfl⟩ | hix
        · have hd : decide (0 ≤ ix) = false := decide_eq_false (by omega)
          rw [hd] at X
          clear hd hix
          go_wp2_with fail
          refine (X.out.1 _ Z.out.1).mono ?_
          rintro e w3 ⟨rfl, s3⟩
          go_wp2_with fail
          refine (X.out.2.1 _ _ (Z.out.2.2.stp s3)).mono ?_
          rintro e w4 ⟨rfl, s4⟩
          go_wp2_with fail
          refine (X.out.2.2 _ _ ((Z.out.2.2.stp s3).stp s4)).mono ?_
          rintro e w5 ⟨rfl, s5⟩
          go_wp2_with fail
          refine (alive_any _).mono ?_
          rintro e w6 ⟨rfl, s6⟩
          go_wp2_with fail
          go_ret
          exact ⟨rfl, (((Z.out.2.1.trans s3).trans s4).trans s5).trans s6⟩
        · have hd : decide (0 ≤ ix) = true := decide_eq_true hix
          rw [hd] at X
          clear hd hix
          go_wp2_with fail
          refine (X.out.1 _ Z.out.1).mono ?_
          rintro e w3 ⟨rfl, s3⟩
          go_wp2_with fail
          refine (X.out.2.1 _ _ (Z.out.2.2.stp s3)).mono ?_
          rintro e w4 ⟨rfl, s4⟩
          go_wp2_with fail
          refine (X.out.2.2 _ _ ((Z.out.2.2.stp s3).stp s4)).mono ?_
          rintro e w5 ⟨rfl, s5⟩
          go_wp2_with fail
          refine (alive_any _).mono ?_
          rintro e w6 ⟨rfl, s6⟩
          go_wp2_with fail
          go_ret
          exact ⟨rfl, (((Z.out.2.1.trans s3).trans s4).trans s5).trans s6⟩
end Go.Proofs.Ytkdpndoamepcbaa
