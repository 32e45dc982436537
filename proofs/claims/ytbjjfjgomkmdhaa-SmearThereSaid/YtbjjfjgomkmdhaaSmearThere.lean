/- SmearThere: what is told back of a smeared time has that smeared time; for any leaps that are told by gaps, and any instant. -/
import Derived.Test.YtbjjfjgomkmdhaaSmearF
import Derived.Test.YtbjjfjgomkmdhaaSmearG
namespace Go.Proofs.Ytbjjfjgomkmdhaa
open Go.RowKit
set_option linter.unusedVariables false
set_option linter.unusedSimpArgs false

theorem there_facts {M : List (Int × Int)} (ok : LOk M) {t b c s : Int} (ht : 0 ≤ t ∧ t < 2305843009213693952) (hs : toS M t = s)
    (b0 : 0 ≤ b) (b1 : s ≤ toS M b) (b2 : b = 0 ∨ toS M (b - 1) < s) (c0 : 0 ≤ c) (c1 : s + 1 ≤ toS M c) (c2 : c = 0 ∨ toS M (c - 1) < s + 1) :
    b ≤ t ∧ toS M b = s ∧ b < c ∧ toS M c ≤ s + 2 := by
  have h1 : b ≤ t := by
    rcases Int.lt_or_le t b with h | h
    · have := toS_mono ok (show t ≤ b - 1 by omega)
      omega
    · exact h
  have h2 : toS M b = s := by
    have := toS_mono ok h1
    omega
  have h3 : b < c := by
    rcases Int.lt_or_le b c with h | h
    · exact h
    · have := toS_mono ok h
      omega
  have h4 := toS_step ok (c - 1)
  rw [show c - 1 + 1 = c by omega] at h4
  exact ⟨h1, h2, h3, by omega⟩
theorem toS_near {M : List (Int × Int)} (ok : LOk M) {t : Int} (h0 : 0 ≤ t) (h1 : t ≤ 4611686018427387904) : t - 32000000000 ≤ toS M t ∧ toS M t ≤ t + 32000000000 := by
  rw [toS_in h0 h1]
  have h2 := takenS_bd t (L := M) (fun x hx => (ok.each x hx).2.2)
  have h3 := ok.len
  omega

set_option maxHeartbeats 1000000 in
theorem smearThere_walk (A : Option Addr) (n c : Nat) (l : List (Int × Bool)) (t0 : Int) (w : World) (hr : Reads w w.heap.size 2 A n (gcells l)) (hl : l.length = n) (hn : n * 4 ≤ 140737488351232) (hb : ∀ x ∈ l, 0 ≤ x.1 ∧ x.1 ≤ 65535) (ht0 : -9223372036854775808 ≤ t0 ∧ t0 ≤ 9223372036854775807) :
    Calls Try.prog 8 #[.slice A n c, .int .i64 t0] w fun e w' => e = .returned (.bool true) ∧ Stp [] w w' := by
  have m1 := made_any A n c l w hr hl hn hb
  have ok := (made_ok l).1
  generalize madeL l = M at *
  have hm := i64_mask61 t0
  obtain ⟨t, ht⟩ : ∃ t, t0 % 2305843009213693952 = t := ⟨_, rfl⟩
  rw [ht] at hm
  have htb : 0 ≤ t ∧ t < 2305843009213693952 := by omega
  obtain ⟨s, hs⟩ : ∃ s, toS M t = s := ⟨_, rfl⟩
  have n1 := toS_near ok htb.1 (by omega)
  have n2 := toS_near ok (t := 4611686018427387904) (by omega) (by omega)
  have to1 := fun w g h => to_is (w := w) (g := g) h ok hs
  have bk := fun w g h => back_yes g M s w h ok (by omega) (by omega)
  have bk2 := fun w g h => back_yes g M (s + 1) w h ok (by omega) (by omega)
  have P := Lib.hid (And.intro m1 (And.intro to1 (And.intro bk (And.intro bk2 (And.intro ok (And.intro htb hs))))))
  have s0 : -100000000000 ≤ s := by omega
  have s1 : s ≤ 2400000000000000000 := by omega
  clear m1 to1 bk bk2 ok htb n1 n2 hs ht hr hl hb ht0
  go_enter Try.func8, Try.ntmps8
  go_wp2_with fail
  refine P.out.1.mono ?_
  rintro e w1 ⟨g, A2, c2, rfl, a1, _, s1, _, _, _⟩
  go_wp2_with fail
  refine (awake_any _).mono ?_
  rintro e w2 ⟨rfl, s2⟩
  have a2 := a1.stp s2
  have z2 := s1.trans s2
  clear a1 s1 s2
  go_wp2_with fail
  refine (P.out.2.1 _ _ a2).mono ?_
  rintro e w3 ⟨rfl, s3⟩
  have a3 := a2.stp s3
  have z3 := z2.trans s3
  clear a2 z2 s3
  go_wp2_with fail
  refine (P.out.2.2.1 _ _ a3).mono ?_
  rintro e w4 ⟨b, rfl, b0, b1, b2, b3, s4⟩
  have a4 := a3.stp s4
  have z4 := z3.trans s4
  clear a3 z3 s4
  have B := Lib.hid (And.intro b2 b3)
  clear b2 b3
  go_wp2_with fail
  refine (P.out.2.2.2.1 _ _ a4).mono ?_
  rintro e w5 ⟨d, rfl, d0, d1, d2, d3, s5⟩
  have a5 := a4.stp s5
  have z5 := z4.trans s5
  clear a4 z4 s5
  obtain ⟨f1, f2, f3, f4⟩ := there_facts P.out.2.2.2.2.1 P.out.2.2.2.2.2.1 P.out.2.2.2.2.2.2 b0 B.out.1 B.out.2 d0 d2 d3
  have x1 := fun w h => to_is (w := w) (g := g) h P.out.2.2.2.2.1 f2
  obtain ⟨v, hv⟩ : ∃ v, toS M d = v := ⟨_, rfl⟩
  have x2 := fun w h => to_is (w := w) (g := g) h P.out.2.2.2.2.1 hv
  rw [hv] at d2 f4
  have X := Lib.hid (And.intro x1 x2)
  clear x1 x2 f2 hv d3 B
  go_wp2_with fail
  refine (X.out.1 _ a5).mono ?_
  rintro e w6 ⟨rfl, s6⟩
  have a6 := a5.stp s6
  have z6 := z5.trans s6
  clear a5 z5 s6
  go_wp2_with fail
  refine (X.out.2 _ a6).mono ?_
  rintro e w7 ⟨rfl, s7⟩
  have a7 := a6.stp s7
  have z7 := z6.trans s7
  clear a6 z6 s7
  go_wp2_with fail
  refine (X.out.2 _ a7).mono ?_
  rintro e w8 ⟨rfl, s8⟩
  go_wp2_with fail
  go_ret
  exact ⟨rfl, z7.trans s8⟩
end Go.Proofs.Ytbjjfjgomkmdhaa
