/- LoopComes' walk. -/
import Derived.Test.YtkohpeonnoegpaaLoopD
import Derived.Test.YtkohpeonnoegpaaLoopE0
namespace Go.Proofs.Ytkohpeonnoegpaa
open Go.RowKit
set_option linter.unusedVariables false
set_option linter.unusedSimpArgs false

set_option maxRecDepth 100000 in
set_option maxHeartbeats 4000000 in
theorem loopComes_walk (dr fi : Int) (w : World) (hd : -2147483648 ≤ dr ∧ dr ≤ 2147483647) (hf : -2147483648 ≤ fi ∧ fi ≤ 2147483647) :
    Calls Try.prog 4 #[.int .i32 dr, .int .i32 fi] w fun e w' => e = .returned (.bool true) ∧ Stp [] w w' := by
  obtain ⟨d, hdd⟩ : ∃ d, dr.tmod 200001 = d := ⟨_, rfl⟩
  obtain ⟨o, hoo⟩ : ∃ o, fi.tmod 128000001 = o := ⟨_, rfl⟩
  have d0 : -200001 < d := by rw [← hdd]; exact Int.lt_tmod_of_pos dr (by decide)
  have d1 : d < 200001 := by rw [← hdd]; exact Int.tmod_lt_of_pos dr (by decide)
  have o0 : -128000001 < o := by rw [← hoo]; exact Int.lt_tmod_of_pos fi (by decide)
  have o1 : o < 128000001 := by rw [← hoo]; exact Int.tmod_lt_of_pos fi (by decide)
  go_enter Try.func4, Try.ntmps4
  go_wp2_with fail
  refine (new_any _).mono ?_
  rintro e w1 ⟨g, rfl, a1, s1, hg⟩
  go_wp2_with fail
  have hinv := CInv.start d o (by omega) (by omega)
  clear hdd hoo hd hf
  go_loopw [7, 8, 9] (fun vo ve i wr => ∃ (k : Nat) (c : LS) (o : Int), k ≤ 120 ∧ i = .int .i64 k ∧ vo = .int .i64 o ∧ ve = .int .i64 (elOf k) ∧ c.at wr g ∧ CInv d k c o ∧ Stp [] w wr) (fun _ _ i _ => 120 - (intOf i).toNat)
  case atStart => exact ⟨0, _, o, by omega, rfl, rfl, rfl, a1, hinv, s1⟩
  case round =>
    clear hinv a1 s1 o0 o1
    obtain ⟨k, c, o2, hk, rfl, rfl, rfl, hat, hinv, ht⟩ := hrel
    by_cases hlt : k < 120
    · have hok := hinv.ok (by omega) (by omega)
      have hnx := hinv.step (by omega)
      have hB := seqB_le k
      have ho0 := hinv.o0
      have ho1 := hinv.o1
      have hups := hinv.ups
      have hel : 0 ≤ elOf k ∧ elOf k ≤ 16000000000 := by unfold elOf; split <;> omega
      have u1 := update_any g c o2 (elOf k) 16000000000 wr hat hok (by omega) (by omega) (by decide) (by omega)
      have hleft : (c.next o2 (elOf k) 16000000000).left = o2 := rfl
      generalize c.next o2 (elOf k) 16000000000 = c' at *
      generalize elOf k = el at *
      obtain ⟨f', r', l', n'⟩ := c'
      simp only at hleft hnx u1
      subst hleft
      have b0 := hnx.o0
      have b1 := hnx.o1
      have e0 := hnx.e0
      have e1 := hnx.e1
      have g0 := hnx.r0
      have g1 := hnx.r1
      have hBn := seqB_le (k + 1)
      simp only at b0 b1 e0 e1 g0 g1
      have p1 := fun w => part_any 16000000000 d (16000000000 * d) w rfl (by omega)
      have p2 := fun w => part_any 16000000000 r' (16000000000 * r') w rfl (by omega)
      have q1 : 16000000000 * d / 1000000000 = 16 * d := by omega
      have q2 : 16000000000 * r' / 1000000000 = 16 * r' := by omega
      rw [q1] at p1
      rw [q2] at p2
      have hcase : (64 ≤ k ∧ (l' + 16 * d - 16 * r' ≤ 1000 ∧ -1000 ≤ l' + 16 * d - 16 * r') ∧ (f' - d ≤ 20 ∧ d - f' ≤ 20)) ∨ k < 64 := by
        by_cases h : k < 64
        · exact .inr h
        · have := seq_late (i := k) (by omega) hlt
          exact .inl ⟨by omega, ⟨by omega, by omega⟩, ⟨by omega, by omega⟩⟩
      have hof : l' + (16 * d - 16 * r') = l' + 16 * d - 16 * r' := by omega
      have HOF := Lib.hid hof
      have U := Lib.hid (And.intro u1 (And.intro p1 (And.intro p2 hnx)))
      have hfb : -450000 ≤ f' ∧ f' ≤ 450000 := by
        have := (seqH_le (k + 1)).1
        omega
      obtain ⟨hf0, hf1⟩ := hfb
      have hll : -128000000 ≤ l' ∧ l' ≤ 128000000 := by omega
      obtain ⟨hl0, hl1⟩ := hll
      clear u1 p1 p2 q1 q2 hnx hinv hok hof hups b0 b1 e0 e1 ho0 ho1 hB hBn
      rcases hcase with ⟨h1, ⟨h2, h3⟩, ⟨h4, h5⟩⟩ | h1
      all_goals
        go_wp2_with fail
        refine U.out.1.mono ?_
        rintro e w2 ⟨rfl, a2, s2⟩
        go_wp2_with fail
        refine (lrate_any g _ _ a2).mono ?_
        rintro e w3 ⟨rfl, rfl⟩
        go_wp2_with fail
        refine (lleft_any g _ _ a2).mono ?_
        rintro e w3 ⟨rfl, rfl⟩
        go_wp2_with fail
        refine (U.out.2.1 _).mono ?_
        rintro e w3 ⟨rfl, rfl⟩
        go_wp2_with fail
        refine (U.out.2.2.1 _).mono ?_
        rintro e w3 ⟨rfl, rfl⟩
        have t3 := ht.far s2 (.inr hg)
        have R := Lib.hid (And.intro a2 t3)
        clear s2 t3
        go_wp2_with (first | (go_at_call 10; (with_reducible refine (lfreq_any g _ _ a2).mono ?_); rintro e w4 ⟨rfl, rfl⟩))
        go_roundw
        case rel => exact ⟨k + 1, _, _, by omega, by go_num, by rw [HOF.out], by rfl, R.out.1, U.out.2.2.2, R.out.2⟩
        case measure => simp [intOf]; omega
    · obtain rfl : k = 120 := by omega
      go_wp2_with fail
      refine (alive_any _).mono ?_
      rintro e w2 ⟨rfl, s2⟩
      go_wp2_with fail
      go_ret
      exact ⟨rfl, ht.trans s2⟩
end Go.Proofs.Ytkohpeonnoegpaa
