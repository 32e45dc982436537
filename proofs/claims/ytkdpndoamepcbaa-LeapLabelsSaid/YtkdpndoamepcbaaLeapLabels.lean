/- LeapLabels: instants and labels go together; for any leaps that stand some days apart, any base and any two instants. -/
import Derived.Test.YtkdpndoamepcbaaLeapH
namespace Go.Proofs.Ytkdpndoamepcbaa
open Go.RowKit
set_option linter.unusedVariables false
set_option linter.unusedSimpArgs false

theorem label_cases {L : List (Int × Int)} (ok : LOk L) {base : Int} (a b : Int) :
    (a = b ∧ labelS base L b = labelS base L a ∧ insS b L = insS a L) ∨ (a ≠ b ∧ labelS base L a ≠ labelS base L b ∧ (insS a L = true ∨ insS b L = true)) ∨ (a < b ∧ labelS base L a < labelS base L b ∧ insS a L = false ∧ insS b L = false) ∨
    (b < a ∧ labelS base L b < labelS base L a ∧ insS a L = false ∧ insS b L = false) ∨ (a ≠ b ∧ labelS base L b = labelS base L a ∧ (insS a L = true ∧ insS b L = false ∨ insS a L = false ∧ insS b L = true)) := by
  rcases Int.lt_trichotomy a b with h | h | h
  · by_cases he : labelS base L a = labelS base L b
    · exact .inr (.inr (.inr (.inr ⟨by omega, he.symm, .inr (label_uniq ok h he)⟩)))
    · cases hb : insS b L with
      | true => exact .inr (.inl ⟨by omega, he, .inr rfl⟩)
      | false =>
        cases ha : insS a L with
        | true => exact .inr (.inl ⟨by omega, he, .inl rfl⟩)
        | false => exact .inr (.inr (.inl ⟨h, label_mono ok h hb, rfl, rfl⟩))
  · subst h
    exact .inl ⟨rfl, rfl, rfl⟩
  · by_cases he : labelS base L b = labelS base L a
    · exact .inr (.inr (.inr (.inr ⟨by omega, he, .inl ⟨(label_uniq ok h he).2, (label_uniq ok h he).1⟩⟩)))
    · cases ha : insS a L with
      | true => exact .inr (.inl ⟨by omega, fun h => he h.symm, .inl rfl⟩)
      | false =>
        cases hb : insS b L with
        | true => exact .inr (.inl ⟨by omega, fun h => he h.symm, .inr rfl⟩)
        | false => exact .inr (.inr (.inr (.inl ⟨h, label_mono ok h ha, rfl, rfl⟩)))
theorem label_bd {c : LT} (ok : c.ok) {t : Int} (ht : -4611686018427387904 ≤ t ∧ t ≤ 4611686018427387904) : -4611690000000000000 ≤ labelS c.base c.L t ∧ labelS c.base c.L t ≤ 4611690000000000000 := by
  have h1 := kS_bd ok.leaps t
  have := ok.b0
  have := ok.b1
  unfold labelS
  omega
theorem quad_calls {c : LT} (ok : c.ok) {g : Nat} {a b : Int} (ha : 0 ≤ a ∧ a ≤ 4611686018427387904) (hb : 0 ≤ b ∧ b ≤ 4611686018427387904) :
    (∀ w, c.at w g → Calls Try.prog 14 #[.pointer (some ⟨g, 0, none⟩), .int .i64 a] w fun e w' => e = .returned (.tuple #[.int .i64 (labelS c.base c.L a), .bool (insS a c.L)]) ∧ Stp [] w w') ∧
    (∀ w, c.at w g → Calls Try.prog 14 #[.pointer (some ⟨g, 0, none⟩), .int .i64 b] w fun e w' => e = .returned (.tuple #[.int .i64 (labelS c.base c.L b), .bool (insS b c.L)]) ∧ Stp [] w w') ∧
    (∀ w, c.at w g → Calls Try.prog 15 #[.pointer (some ⟨g, 0, none⟩), .int .i64 (labelS c.base c.L a), .bool (insS a c.L)] w fun e w' => e = .returned (.tuple #[.int .i64 a, .bool true]) ∧ Stp [] w w') ∧
    (∀ w, c.at w g → Calls Try.prog 15 #[.pointer (some ⟨g, 0, none⟩), .int .i64 (labelS c.base c.L b), .bool (insS b c.L)] w fun e w' => e = .returned (.tuple #[.int .i64 b, .bool true]) ∧ Stp [] w w') :=
  ⟨fun w h => label_any g c a w h ok (by omega), fun w h => label_any g c b w h ok (by omega), fun w h => even_is h ok (label_bd ok (by omega)) ⟨ha.1, ha.2, rfl, rfl⟩, fun w h => even_is h ok (label_bd ok (by omega)) ⟨hb.1, hb.2, rfl, rfl⟩⟩

set_option maxRecDepth 100000 in
set_option maxHeartbeats 8000000 in
theorem leapLabels_walk (A : Option Addr) (n c : Nat) (l : List Int) (bi a0 b0 : Int) (near : Bool) (w : World) (hr : Reads w w.heap.size 1 A n (l.map (Value.int .u8))) (hl : l.length = n) (hn : n * 1 ≤ 140737488351232) (hb : ∀ x ∈ l, 0 ≤ x ∧ x ≤ 255) (hbi : -32768 ≤ bi ∧ bi ≤ 32767) (ha0 : -9223372036854775808 ≤ a0 ∧ a0 ≤ 9223372036854775807) (hb0 : -9223372036854775808 ≤ b0 ∧ b0 ≤ 9223372036854775807) :
    Calls Try.prog 5 #[.slice A n c, .int .i16 bi, .int .i64 a0, .int .i64 b0, .bool near] w fun e w' => e = .returned (.bool true) ∧ Stp [] w w' := by
  obtain ⟨tb, htb⟩ : ∃ tb, bi.tmod 1001 = tb := ⟨_, rfl⟩
  have tb0 : -1001 < tb := by rw [← htb]; exact Int.lt_tmod_of_pos bi (by decide)
  have tb1 : tb < 1001 := by rw [← htb]; exact Int.tmod_lt_of_pos bi (by decide)
  have m1 := lmade_any A n c l tb w (RowIn.of_reads hr (Nat.le_refl _) (by simp) (by decide)) hl (by omega) hb (by omega)
  obtain ⟨ok, hfar, hlen⟩ := lmade_ok l (base := tb) (by omega)
  have hML : (lmadeT l tb).L = lmadeL l := rfl
  rw [← hML] at hfar hlen
  clear hML
  generalize lmadeT l tb = M at *
  have hm1 := i64_mask62 a0
  have hm2 := i64_mask62 b0
  obtain ⟨a, hA⟩ : ∃ a, a0 % 4611686018427387904 = a := ⟨_, rfl⟩
  obtain ⟨b, hB⟩ : ∃ b, b0 % 4611686018427387904 = b := ⟨_, rfl⟩
  rw [hA] at hm1
  rw [hB] at hm2
  have a00 : 0 ≤ a := by omega
  have a01 : a < 4611686018427387904 := by omega
  have b00 : 0 ≤ b := by omega
  have b01 : b < 4611686018427387904 := by omega
  have P := Lib.hid (And.intro m1 (And.intro ok hfar))
  clear m1 hr hl hb hn ha0 hb0 hA hB hfar hbi ok
  go_enter Try.func5, Try.ntmps5
  go_wp2_with fail
  refine P.out.1.mono ?_
  rintro e w1 ⟨g, A2, c2, rfl, a1, hrow, s1, _, k1, k2⟩
  have Z := Lib.hid (And.intro a1 s1)
  have ok := P.out.2.1
  have hfar := P.out.2.2
  clear a1 s1 P
  have HROW := Lib.hid hrow
  clear hrow
  obtain ⟨N, hN⟩ : ∃ N, M.L.length = N := ⟨_, rfl⟩
  rw [hN] at HROW k1 hlen ⊢
  have HN := Lib.hid hN
  clear hN
  cases near with
  | false =>
    have hA : 0 ≤ a ∧ a ≤ 4611686018427387904 := by omega
    have hB : 0 ≤ b ∧ b ≤ 4611686018427387904 := by omega
    clear hfar
    have Q := Lib.hid (quad_calls (g := g) ok hA hB)
    have hc := label_cases ok.leaps (base := M.base) a b
    generalize labelS M.base M.L a = p at *
    generalize labelS M.base M.L b = q at *
    generalize insS a M.L = i at *
    generalize insS b M.L = j at *
    clear ok hA hB
    rcases hc with ⟨h1, h2, h3⟩ | ⟨h1, h2, h3⟩ | ⟨h1, h2, rfl, rfl⟩ | ⟨h1, h2, rfl, rfl⟩ | ⟨h1, h2, h3⟩
    · rw [h2, h3] at Q
      subst h1
      clear h2 h3
      cases i
      all_goals
        go_wp2_with fail
        refine (Q.out.1 _ Z.out.1).mono ?_
        rintro e w3 ⟨rfl, s3⟩
        have a3 := Z.out.1.stp s3
        go_wp2_with fail
        refine (Q.out.2.1 _ a3).mono ?_
        rintro e w4 ⟨rfl, s4⟩
        have a4 := a3.stp s4
        go_wp2_with fail
        refine (Q.out.2.2.1 _ a4).mono ?_
        rintro e w5 ⟨rfl, s5⟩
        have a5 := a4.stp s5
        go_wp2_with fail
        refine (Q.out.2.2.2 _ a5).mono ?_
        rintro e w6 ⟨rfl, s6⟩
        go_wp2_with fail
        refine (alive_any _).mono ?_
        rintro e w7 ⟨rfl, s7⟩
        go_wp2_with fail
        go_ret
        exact ⟨rfl, ((((Z.out.2.trans s3).trans s4).trans s5).trans s6).trans s7⟩
    · have n1 : (a != b) = true := by simpa using h1
      have n2 : (p == q) = false := by simpa using h2
      clear h1 h2
      rcases h3 with rfl | h3
      · go_wp2_with fail
        refine (Q.out.1 _ Z.out.1).mono ?_
        rintro e w3 ⟨rfl, s3⟩
        have a3 := Z.out.1.stp s3
        go_wp2_with fail
        refine (Q.out.2.1 _ a3).mono ?_
        rintro e w4 ⟨rfl, s4⟩
        have a4 := a3.stp s4
        go_wp2_with fail
        refine (Q.out.2.2.1 _ a4).mono ?_
        rintro e w5 ⟨rfl, s5⟩
        have a5 := a4.stp s5
        go_wp2_with fail
        refine (Q.out.2.2.2 _ a5).mono ?_
        rintro e w6 ⟨rfl, s6⟩
        go_wp2_with fail
        refine (alive_any _).mono ?_
        rintro e w7 ⟨rfl, s7⟩
        go_wp2_with fail
        go_ret
        exact ⟨rfl, ((((Z.out.2.trans s3).trans s4).trans s5).trans s6).trans s7⟩
      · subst h3
        cases i
        all_goals
          go_wp2_with fail
          refine (Q.out.1 _ Z.out.1).mono ?_
          rintro e w3 ⟨rfl, s3⟩
          have a3 := Z.out.1.stp s3
          go_wp2_with fail
          refine (Q.out.2.1 _ a3).mono ?_
          rintro e w4 ⟨rfl, s4⟩
          have a4 := a3.stp s4
          go_wp2_with fail
          refine (Q.out.2.2.1 _ a4).mono ?_
          rintro e w5 ⟨rfl, s5⟩
          have a5 := a4.stp s5
          go_wp2_with fail
          refine (Q.out.2.2.2 _ a5).mono ?_
          rintro e w6 ⟨rfl, s6⟩
          go_wp2_with fail
          refine (alive_any _).mono ?_
          rintro e w7 ⟨rfl, s7⟩
          go_wp2_with fail
          go_ret
          exact ⟨rfl, ((((Z.out.2.trans s3).trans s4).trans s5).trans s6).trans s7⟩
    · have n1 : (a != b) = true := by simp; omega
      have n2 : (p == q) = false := by simp; omega
      go_wp2_with fail
      refine (Q.out.1 _ Z.out.1).mono ?_
      rintro e w3 ⟨rfl, s3⟩
      have a3 := Z.out.1.stp s3
      go_wp2_with fail
      refine (Q.out.2.1 _ a3).mono ?_
      rintro e w4 ⟨rfl, s4⟩
      have a4 := a3.stp s4
      go_wp2_with fail
      refine (Q.out.2.2.1 _ a4).mono ?_
      rintro e w5 ⟨rfl, s5⟩
      have a5 := a4.stp s5
      go_wp2_with fail
      refine (Q.out.2.2.2 _ a5).mono ?_
      rintro e w6 ⟨rfl, s6⟩
      go_wp2_with fail
      refine (alive_any _).mono ?_
      rintro e w7 ⟨rfl, s7⟩
      go_wp2_with fail
      go_ret
      exact ⟨rfl, ((((Z.out.2.trans s3).trans s4).trans s5).trans s6).trans s7⟩
    · have n1 : (a != b) = true := by simp; omega
      have n2 : (p == q) = false := by simp; omega
      have n3 : ¬ a < b := by omega
      have n4 : ¬ p < q := by omega
      go_wp2_with fail
      refine (Q.out.1 _ Z.out.1).mono ?_
      rintro e w3 ⟨rfl, s3⟩
      have a3 := Z.out.1.stp s3
      go_wp2_with fail
      refine (Q.out.2.1 _ a3).mono ?_
      rintro e w4 ⟨rfl, s4⟩
      have a4 := a3.stp s4
      go_wp2_with fail
      refine (Q.out.2.2.1 _ a4).mono ?_
      rintro e w5 ⟨rfl, s5⟩
      have a5 := a4.stp s5
      go_wp2_with fail
      refine (Q.out.2.2.2 _ a5).mono ?_
      rintro e w6 ⟨rfl, s6⟩
      go_wp2_with fail
      refine (alive_any _).mono ?_
      rintro e w7 ⟨rfl, s7⟩
      go_wp2_with fail
      go_ret
      exact ⟨rfl, ((((Z.out.2.trans s3).trans s4).trans s5).trans s6).trans s7⟩
    · have n1 : (a != b) = true := by simpa using h1
      rw [h2] at Q
      clear h1 h2
      rcases h3 with ⟨rfl, rfl⟩ | ⟨rfl, rfl⟩
      all_goals
        go_wp2_with fail
        refine (Q.out.1 _ Z.out.1).mono ?_
        rintro e w3 ⟨rfl, s3⟩
        have a3 := Z.out.1.stp s3
        go_wp2_with fail
        refine (Q.out.2.1 _ a3).mono ?_
        rintro e w4 ⟨rfl, s4⟩
        have a4 := a3.stp s4
        go_wp2_with fail
        refine (Q.out.2.2.1 _ a4).mono ?_
        rintro e w5 ⟨rfl, s5⟩
        have a5 := a4.stp s5
        go_wp2_with fail
        refine (Q.out.2.2.2 _ a5).mono ?_
        rintro e w6 ⟨rfl, s6⟩
        go_wp2_with fail
        refine (alive_any _).mono ?_
        rintro e w7 ⟨rfl, s7⟩
        go_wp2_with fail
        go_ret
        exact ⟨rfl, ((((Z.out.2.trans s3).trans s4).trans s5).trans s6).trans s7⟩
  | true =>
    rcases Nat.eq_zero_or_pos N with hz | hz
    · subst hz
      have hA : 0 ≤ a ∧ a ≤ 4611686018427387904 := by omega
      have hB : 0 ≤ b ∧ b ≤ 4611686018427387904 := by omega
      clear hfar
      have Q := Lib.hid (quad_calls (g := g) ok hA hB)
      have hc := label_cases ok.leaps (base := M.base) a b
      generalize labelS M.base M.L a = p at *
      generalize labelS M.base M.L b = q at *
      generalize insS a M.L = i at *
      generalize insS b M.L = j at *
      clear ok hA hB
      rcases hc with ⟨h1, h2, h3⟩ | ⟨h1, h2, h3⟩ | ⟨h1, h2, rfl, rfl⟩ | ⟨h1, h2, rfl, rfl⟩ | ⟨h1, h2, h3⟩
      · rw [h2, h3] at Q
        subst h1
        clear h2 h3
        cases i
        all_goals
          go_wp2_with fail
          refine (Q.out.1 _ Z.out.1).mono ?_
          rintro e w3 ⟨rfl, s3⟩
          have a3 := Z.out.1.stp s3
          go_wp2_with fail
          refine (Q.out.2.1 _ a3).mono ?_
          rintro e w4 ⟨rfl, s4⟩
          have a4 := a3.stp s4
          go_wp2_with fail
          refine (Q.out.2.2.1 _ a4).mono ?_
          rintro e w5 ⟨rfl, s5⟩
          have a5 := a4.stp s5
          go_wp2_with fail
          refine (Q.out.2.2.2 _ a5).mono ?_
          rintro e w6 ⟨rfl, s6⟩
          go_wp2_with fail
          refine (alive_any _).mono ?_
          rintro e w7 ⟨rfl, s7⟩
          go_wp2_with fail
          go_ret
          exact ⟨rfl, ((((Z.out.2.trans s3).trans s4).trans s5).trans s6).trans s7⟩
      · have n1 : (a != b) = true := by simpa using h1
        have n2 : (p == q) = false := by simpa using h2
        clear h1 h2
        rcases h3 with rfl | h3
        · go_wp2_with fail
          refine (Q.out.1 _ Z.out.1).mono ?_
          rintro e w3 ⟨rfl, s3⟩
          have a3 := Z.out.1.stp s3
          go_wp2_with fail
          refine (Q.out.2.1 _ a3).mono ?_
          rintro e w4 ⟨rfl, s4⟩
          have a4 := a3.stp s4
          go_wp2_with fail
          refine (Q.out.2.2.1 _ a4).mono ?_
          rintro e w5 ⟨rfl, s5⟩
          have a5 := a4.stp s5
          go_wp2_with fail
          refine (Q.out.2.2.2 _ a5).mono ?_
          rintro e w6 ⟨rfl, s6⟩
          go_wp2_with fail
          refine (alive_any _).mono ?_
          rintro e w7 ⟨rfl, s7⟩
          go_wp2_with fail
          go_ret
          exact ⟨rfl, ((((Z.out.2.trans s3).trans s4).trans s5).trans s6).trans s7⟩
        · subst h3
          cases i
          all_goals
            go_wp2_with fail
            refine (Q.out.1 _ Z.out.1).mono ?_
            rintro e w3 ⟨rfl, s3⟩
            have a3 := Z.out.1.stp s3
            go_wp2_with fail
            refine (Q.out.2.1 _ a3).mono ?_
            rintro e w4 ⟨rfl, s4⟩
            have a4 := a3.stp s4
            go_wp2_with fail
            refine (Q.out.2.2.1 _ a4).mono ?_
            rintro e w5 ⟨rfl, s5⟩
            have a5 := a4.stp s5
            go_wp2_with fail
            refine (Q.out.2.2.2 _ a5).mono ?_
            rintro e w6 ⟨rfl, s6⟩
            go_wp2_with fail
            refine (alive_any _).mono ?_
            rintro e w7 ⟨rfl, s7⟩
            go_wp2_with fail
            go_ret
            exact ⟨rfl, ((((Z.out.2.trans s3).trans s4).trans s5).trans s6).trans s7⟩
      · have n1 : (a != b) = true := by simp; omega
        have n2 : (p == q) = false := by simp; omega
        go_wp2_with fail
        refine (Q.out.1 _ Z.out.1).mono ?_
        rintro e w3 ⟨rfl, s3⟩
        have a3 := Z.out.1.stp s3
        go_wp2_with fail
        refine (Q.out.2.1 _ a3).mono ?_
        rintro e w4 ⟨rfl, s4⟩
        have a4 := a3.stp s4
        go_wp2_with fail
        refine (Q.out.2.2.1 _ a4).mono ?_
        rintro e w5 ⟨rfl, s5⟩
        have a5 := a4.stp s5
        go_wp2_with fail
        refine (Q.out.2.2.2 _ a5).mono ?_
        rintro e w6 ⟨rfl, s6⟩
        go_wp2_with fail
        refine (alive_any _).mono ?_
        rintro e w7 ⟨rfl, s7⟩
        go_wp2_with fail
        go_ret
        exact ⟨rfl, ((((Z.out.2.trans s3).trans s4).trans s5).trans s6).trans s7⟩
      · have n1 : (a != b) = true := by simp; omega
        have n2 : (p == q) = false := by simp; omega
        have n3 : ¬ a < b := by omega
        have n4 : ¬ p < q := by omega
        go_wp2_with fail
        refine (Q.out.1 _ Z.out.1).mono ?_
        rintro e w3 ⟨rfl, s3⟩
        have a3 := Z.out.1.stp s3
        go_wp2_with fail
        refine (Q.out.2.1 _ a3).mono ?_
        rintro e w4 ⟨rfl, s4⟩
        have a4 := a3.stp s4
        go_wp2_with fail
        refine (Q.out.2.2.1 _ a4).mono ?_
        rintro e w5 ⟨rfl, s5⟩
        have a5 := a4.stp s5
        go_wp2_with fail
        refine (Q.out.2.2.2 _ a5).mono ?_
        rintro e w6 ⟨rfl, s6⟩
        go_wp2_with fail
        refine (alive_any _).mono ?_
        rintro e w7 ⟨rfl, s7⟩
        go_wp2_with fail
        go_ret
        exact ⟨rfl, ((((Z.out.2.trans s3).trans s4).trans s5).trans s6).trans s7⟩
      · have n1 : (a != b) = true := by simpa using h1
        rw [h2] at Q
        clear h1 h2
        rcases h3 with ⟨rfl, rfl⟩ | ⟨rfl, rfl⟩
        all_goals
          go_wp2_with fail
          refine (Q.out.1 _ Z.out.1).mono ?_
          rintro e w3 ⟨rfl, s3⟩
          have a3 := Z.out.1.stp s3
          go_wp2_with fail
          refine (Q.out.2.1 _ a3).mono ?_
          rintro e w4 ⟨rfl, s4⟩
          have a4 := a3.stp s4
          go_wp2_with fail
          refine (Q.out.2.2.1 _ a4).mono ?_
          rintro e w5 ⟨rfl, s5⟩
          have a5 := a4.stp s5
          go_wp2_with fail
          refine (Q.out.2.2.2 _ a5).mono ?_
          rintro e w6 ⟨rfl, s6⟩
          go_wp2_with fail
          refine (alive_any _).mono ?_
          rintro e w7 ⟨rfl, s7⟩
          go_wp2_with fail
          go_ret
          exact ⟨rfl, ((((Z.out.2.trans s3).trans s4).trans s5).trans s6).trans s7⟩
    · obtain ⟨jn, hj⟩ : ∃ jn : Nat, a % (N : Int) = jn := ⟨(a % (N : Int)).toNat, by have := Int.emod_nonneg a (show (N : Int) ≠ 0 by omega); omega⟩
      have hjN : jn < N := by have := Int.emod_lt_of_pos a (show 0 < (N : Int) by omega); omega
      have hjL : jn < M.L.length := by have := HN.out; omega
      obtain ⟨blk, off, rfl, hbb, hbg, hcell⟩ := HROW.out.2 hz
      have hx := pcells_get M.L jn hjL
      have hc1 : w1.cell? ⟨blk, off + jn * 2, none⟩ = some (.int .i64 M.L[jn].1) := hcell _ _ hx.1
      have hfr := hfar M.L[jn] (List.getElem_mem _)
      clear hx hcell hfar HROW
      generalize M.L[jn].1 = y at *
      obtain ⟨y0, y1⟩ := hfr
      obtain ⟨av, hav⟩ : ∃ av, y + a % 3000000000 - 1000000000 = av := ⟨_, rfl⟩
      obtain ⟨bv, hbv⟩ : ∃ bv, av + b % 5000000000 - 2000000000 = bv := ⟨_, rfl⟩
      have hA : 0 ≤ av ∧ av ≤ 4611686018427387904 := by omega
      have hB : 0 ≤ bv ∧ bv ≤ 4611686018427387904 := by omega
      have hwN : IntKind.u64.wrap (N : Int) = (N : Int) := by rw [wrap_u64]; omega
      have hwa : IntKind.u64.wrap a = a := by rw [wrap_u64]; omega
      clear hjL
      have Q := Lib.hid (quad_calls (g := g) ok hA hB)
      have hc := label_cases ok.leaps (base := M.base) av bv
      generalize labelS M.base M.L av = p at *
      generalize labelS M.base M.L bv = q at *
      generalize insS av M.L = i at *
      generalize insS bv M.L = j at *
      clear ok hA hB
      rcases hc with ⟨h1, h2, h3⟩ | ⟨h1, h2, h3⟩ | ⟨h1, h2, rfl, rfl⟩ | ⟨h1, h2, rfl, rfl⟩ | ⟨h1, h2, h3⟩
      · rw [h2, h3] at Q
        subst h1
        clear h2 h3
        cases i
        all_goals
          go_wp2_with fail
          refine (Q.out.1 _ Z.out.1).mono ?_
          rintro e w3 ⟨rfl, s3⟩
          have a3 := Z.out.1.stp s3
          go_wp2_with fail
          refine (Q.out.2.1 _ a3).mono ?_
          rintro e w4 ⟨rfl, s4⟩
          have a4 := a3.stp s4
          go_wp2_with fail
          refine (Q.out.2.2.1 _ a4).mono ?_
          rintro e w5 ⟨rfl, s5⟩
          have a5 := a4.stp s5
          go_wp2_with fail
          refine (Q.out.2.2.2 _ a5).mono ?_
          rintro e w6 ⟨rfl, s6⟩
          go_wp2_with fail
          refine (alive_any _).mono ?_
          rintro e w7 ⟨rfl, s7⟩
          go_wp2_with fail
          go_ret
          exact ⟨rfl, ((((Z.out.2.trans s3).trans s4).trans s5).trans s6).trans s7⟩
      · have n1 : (av != bv) = true := by simpa using h1
        have n2 : (p == q) = false := by simpa using h2
        clear h1 h2
        rcases h3 with rfl | h3
        · go_wp2_with fail
          refine (Q.out.1 _ Z.out.1).mono ?_
          rintro e w3 ⟨rfl, s3⟩
          have a3 := Z.out.1.stp s3
          go_wp2_with fail
          refine (Q.out.2.1 _ a3).mono ?_
          rintro e w4 ⟨rfl, s4⟩
          have a4 := a3.stp s4
          go_wp2_with fail
          refine (Q.out.2.2.1 _ a4).mono ?_
          rintro e w5 ⟨rfl, s5⟩
          have a5 := a4.stp s5
          go_wp2_with fail
          refine (Q.out.2.2.2 _ a5).mono ?_
          rintro e w6 ⟨rfl, s6⟩
          go_wp2_with fail
          refine (alive_any _).mono ?_
          rintro e w7 ⟨rfl, s7⟩
          go_wp2_with fail
          go_ret
          exact ⟨rfl, ((((Z.out.2.trans s3).trans s4).trans s5).trans s6).trans s7⟩
        · subst h3
          cases i
          all_goals
            go_wp2_with fail
            refine (Q.out.1 _ Z.out.1).mono ?_
            rintro e w3 ⟨rfl, s3⟩
            have a3 := Z.out.1.stp s3
            go_wp2_with fail
            refine (Q.out.2.1 _ a3).mono ?_
            rintro e w4 ⟨rfl, s4⟩
            have a4 := a3.stp s4
            go_wp2_with fail
            refine (Q.out.2.2.1 _ a4).mono ?_
            rintro e w5 ⟨rfl, s5⟩
            have a5 := a4.stp s5
            go_wp2_with fail
            refine (Q.out.2.2.2 _ a5).mono ?_
            rintro e w6 ⟨rfl, s6⟩
            go_wp2_with fail
            refine (alive_any _).mono ?_
            rintro e w7 ⟨rfl, s7⟩
            go_wp2_with fail
            go_ret
            exact ⟨rfl, ((((Z.out.2.trans s3).trans s4).trans s5).trans s6).trans s7⟩
      · have n1 : (av != bv) = true := by simp; omega
        have n2 : (p == q) = false := by simp; omega
        go_wp2_with fail
        refine (Q.out.1 _ Z.out.1).mono ?_
        rintro e w3 ⟨rfl, s3⟩
        have a3 := Z.out.1.stp s3
        go_wp2_with fail
        refine (Q.out.2.1 _ a3).mono ?_
        rintro e w4 ⟨rfl, s4⟩
        have a4 := a3.stp s4
        go_wp2_with fail
        refine (Q.out.2.2.1 _ a4).mono ?_
        rintro e w5 ⟨rfl, s5⟩
        have a5 := a4.stp s5
        go_wp2_with fail
        refine (Q.out.2.2.2 _ a5).mono ?_
        rintro e w6 ⟨rfl, s6⟩
        go_wp2_with fail
        refine (alive_any _).mono ?_
        rintro e w7 ⟨rfl, s7⟩
        go_wp2_with fail
        go_ret
        exact ⟨rfl, ((((Z.out.2.trans s3).trans s4).trans s5).trans s6).trans s7⟩
      · have n1 : (av != bv) = true := by simp; omega
        have n2 : (p == q) = false := by simp; omega
        have n3 : ¬ av < bv := by omega
        have n4 : ¬ p < q := by omega
        go_wp2_with fail
        refine (Q.out.1 _ Z.out.1).mono ?_
        rintro e w3 ⟨rfl, s3⟩
        have a3 := Z.out.1.stp s3
        go_wp2_with fail
        refine (Q.out.2.1 _ a3).mono ?_
        rintro e w4 ⟨rfl, s4⟩
        have a4 := a3.stp s4
        go_wp2_with fail
        refine (Q.out.2.2.1 _ a4).mono ?_
        rintro e w5 ⟨rfl, s5⟩
        have a5 := a4.stp s5
        go_wp2_with fail
        refine (Q.out.2.2.2 _ a5).mono ?_
        rintro e w6 ⟨rfl, s6⟩
        go_wp2_with fail
        refine (alive_any _).mono ?_
        rintro e w7 ⟨rfl, s7⟩
        go_wp2_with fail
        go_ret
        exact ⟨rfl, ((((Z.out.2.trans s3).trans s4).trans s5).trans s6).trans s7⟩
      · have n1 : (av != bv) = true := by simpa using h1
        rw [h2] at Q
        clear h1 h2
        rcases h3 with ⟨rfl, rfl⟩ | ⟨rfl, rfl⟩
        all_goals
          go_wp2_with fail
          refine (Q.out.1 _ Z.out.1).mono ?_
          rintro e w3 ⟨rfl, s3⟩
          have a3 := Z.out.1.stp s3
          go_wp2_with fail
          refine (Q.out.2.1 _ a3).mono ?_
          rintro e w4 ⟨rfl, s4⟩
          have a4 := a3.stp s4
          go_wp2_with fail
          refine (Q.out.2.2.1 _ a4).mono ?_
          rintro e w5 ⟨rfl, s5⟩
          have a5 := a4.stp s5
          go_wp2_with fail
          refine (Q.out.2.2.2 _ a5).mono ?_
          rintro e w6 ⟨rfl, s6⟩
          go_wp2_with fail
          refine (alive_any _).mono ?_
          rintro e w7 ⟨rfl, s7⟩
          go_wp2_with fail
          go_ret
          exact ⟨rfl, ((((Z.out.2.trans s3).trans s4).trans s5).trans s6).trans s7⟩
end Go.Proofs.Ytkdpndoamepcbaa
