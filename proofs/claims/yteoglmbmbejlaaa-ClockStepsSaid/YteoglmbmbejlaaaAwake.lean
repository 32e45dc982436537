/- Update by one contract; the document's examples. -/
import Derived.Test.YteoglmbmbejlaaaUpd0
import Derived.Test.YteoglmbmbejlaaaUpd1
import Derived.Test.YteoglmbmbejlaaaUpd2
import Derived.Test.YteoglmbmbejlaaaUpd3
import Derived.Test.YteoglmbmbejlaaaUpd4
import Derived.Test.YteoglmbmbejlaaaFair
namespace Go.Proofs.Yteoglmbmbejlaaa
open Go.RowKit
set_option linter.unusedVariables false
set_option linter.unusedSimpArgs false

structure CS.good (c : CS) : Prop where
  st0 : 0 ≤ c.st
  st1 : c.st ≤ 4611686018427387904
  pa0 : 0 ≤ c.pa
  so0 : 0 ≤ c.so
  si0 : 0 ≤ c.si
  si1 : c.si ≤ 4611686018427387904
  s0 : 0 ≤ c.s
  s4 : c.s ≤ 4

theorem upd_any (g : Nat) (c : CS) (off now : Int) (w : World) (h : c.at w g) (ok : c.good) (o1 : -9223372036854775808 ≤ off) (o2 : off ≤ 9223372036854775807) :
    Calls Try.prog 10 #[.pointer (some ⟨g, 0, none⟩), .int .i64 off, .int .i64 now] w fun e w' =>
      e = .returned (.tuple #[.int .i64 (c.upd off now).1, .int .i64 (c.upd off now).2.1]) ∧ (c.upd off now).2.2.at w' g ∧ Stp [g] w w' := by
  by_cases hb : isTime now = false ∨ now < c.si
  · have e : c.upd off now = (0, 1, c) := by unfold CS.upd; rw [if_pos hb]
    rw [e]
    exact (upd_bad g c off now w h hb).mono fun _ _ ⟨he, hw⟩ => ⟨he, by rw [hw]; exact h, by rw [hw]; exact Stp.refl _ _⟩
  · have ht : isTime now = true := by
      rcases Bool.eq_false_or_eq_true (isTime now) with h1 | h1
      · exact h1
      · exact absurd (.inl h1) hb
    have hs : ¬ now < c.si := fun h1 => hb (.inr h1)
    by_cases hp : 0 < c.pa ∧ c.pa < absS off
    · have e : c.upd off now = (0, 34, c) := by unfold CS.upd; rw [if_neg hb, if_pos hp]
      rw [e]
      exact (upd_panic g c off now w h ht hs o1 o2 hp.1 hp.2).mono fun _ _ ⟨he, n, hw⟩ => ⟨he, by rw [hw]; exact h, by rw [hw]; exact (Stp.refl _ _).drewN _⟩
    · have s0 := ok.si0
      have so0 := ok.so0
      have hs5 : c.s = 0 ∨ c.s = 1 ∨ c.s = 2 ∨ c.s = 3 ∨ c.s = 4 := by have := ok.s0; have := ok.s4; omega
      by_cases hq : 0 < c.pa
      · have hp' : 0 < c.pa ∧ ¬ c.pa < absS off := ⟨hq, fun h1 => hp ⟨hq, h1⟩⟩
        rcases hs5 with h5 | h5 | h5 | h5 | h5
        · exact upd_0_1 g c off now w h ht hs o1 o2 hp' s0 so0 h5
        · exact upd_1_1 g c off now w h ht hs o1 o2 hp' s0 so0 h5
        · exact upd_2_1 g c off now w h ht hs o1 o2 hp' s0 so0 h5
        · exact upd_3_1 g c off now w h ht hs o1 o2 hp' s0 so0 h5
        · exact upd_4_1 g c off now w h ht hs o1 o2 hp' s0 so0 h5
      · rcases hs5 with h5 | h5 | h5 | h5 | h5
        · exact upd_0_0 g c off now w h ht hs o1 o2 hq s0 so0 h5
        · exact upd_1_0 g c off now w h ht hs o1 o2 hq s0 so0 h5
        · exact upd_2_0 g c off now w h ht hs o1 o2 hq s0 so0 h5
        · exact upd_3_0 g c off now w h ht hs o1 o2 hq s0 so0 h5
        · exact upd_4_0 g c off now w h ht hs o1 o2 hq s0 so0 h5

theorem upd_is {g : Nat} {c : CS} {off now : Int} {w : World} (d e : Int) (c' : CS) (h : c.at w g) (hu : c.upd off now = (d, e, c')) (ok : c.good) (o1 : -9223372036854775808 ≤ off) (o2 : off ≤ 9223372036854775807) :
    Calls Try.prog 10 #[.pointer (some ⟨g, 0, none⟩), .int .i64 off, .int .i64 now] w fun en w' =>
      en = .returned (.tuple #[.int .i64 d, .int .i64 e]) ∧ c'.at w' g ∧ Stp [g] w w' := by
  have := upd_any g c off now w h ok o1 o2
  rw [hu] at this
  exact this

set_option maxHeartbeats 1000000 in
theorem awake_any (w : World) : Calls Try.prog 9 #[] w fun e w' => e = .returned (.bool true) ∧ Stp [] w w' := by
  go_enter Try.func9, Try.ntmps9
  go_wp2_with fail
  refine (new_any 128 1000 900 false _ (by decide) (by decide) (by decide) (by decide)).mono ?_
  rintro e w1 ⟨g, rfl, hat0, hst0, hg⟩
  go_wp2_with fail
  refine (upd_is (c := ⟨128, 1000, 900, 0, 0⟩) 2 0 ⟨128, 1000, 900, 3, 5⟩ hat0 rfl (by constructor <;> decide) (by decide) (by decide)).mono ?_
  rintro e w2 ⟨rfl, hat1, hs⟩
  have hst1 := hst0.far hs (.inr hg)
  clear hs hat0 hst0
  go_wp2_with fail
  refine (upd_is (c := ⟨128, 1000, 900, 3, 5⟩) 1 0 ⟨128, 1000, 900, 3, 5⟩ hat1 rfl (by constructor <;> decide) (by decide) (by decide)).mono ?_
  rintro e w2 ⟨rfl, hat2, hs⟩
  have hst2 := hst1.far hs (.inr hg)
  clear hs hat1 hst1
  go_wp2_with fail
  refine (upd_is (c := ⟨128, 1000, 900, 3, 5⟩) 1 0 ⟨128, 1000, 900, 4, 905⟩ hat2 rfl (by constructor <;> decide) (by decide) (by decide)).mono ?_
  rintro e w2 ⟨rfl, hat3, hs⟩
  have hst3 := hst2.far hs (.inr hg)
  clear hs hat2 hst2
  go_wp2_with fail
  refine (state_any g ⟨128, 1000, 900, 4, 905⟩ _ hat3).mono ?_
  rintro e w2 ⟨rfl, rfl⟩
  go_wp2_with fail
  refine (upd_is (c := ⟨128, 1000, 900, 4, 905⟩) 0 0 ⟨128, 1000, 900, 2, 1000⟩ hat3 rfl (by constructor <;> decide) (by decide) (by decide)).mono ?_
  rintro e w2 ⟨rfl, hat4, hs⟩
  have hst4 := hst3.far hs (.inr hg)
  clear hs hat3 hst3
  go_wp2_with fail
  refine (upd_is (c := ⟨128, 1000, 900, 2, 1000⟩) 0 0 ⟨128, 1000, 900, 2, 1000⟩ hat4 rfl (by constructor <;> decide) (by decide) (by decide)).mono ?_
  rintro e w2 ⟨rfl, hat5, hs⟩
  have hst5 := hst4.far hs (.inr hg)
  clear hs hat4 hst4
  go_wp2_with fail
  refine (upd_is (c := ⟨128, 1000, 900, 2, 1000⟩) 2 0 ⟨128, 1000, 900, 4, 1900⟩ hat5 rfl (by constructor <;> decide) (by decide) (by decide)).mono ?_
  rintro e w2 ⟨rfl, hat6, hs⟩
  have hst6 := hst5.far hs (.inr hg)
  clear hs hat5 hst5
  go_wp2_with fail
  refine (upd_is (c := ⟨128, 1000, 900, 4, 1900⟩) 0 34 ⟨128, 1000, 900, 4, 1900⟩ hat6 rfl (by constructor <;> decide) (by decide) (by decide)).mono ?_
  rintro e w2 ⟨rfl, hat7, hs⟩
  have hst7 := hst6.far hs (.inr hg)
  clear hs hat6 hst6
  go_wp2
  go_ret
  exact ⟨rfl, hst7⟩
end Go.Proofs.Yteoglmbmbejlaaa
