/- LoopLeft's walk. -/
import Derived.Test.YtkohpeonnoegpaaLoopD
import Derived.Test.YtkohpeonnoegpaaLoopE0
import Derived.Outline
namespace Go.Proofs.Ytkohpeonnoegpaa
open Go.RowKit
set_option linter.unusedVariables false
set_option linter.unusedSimpArgs false

/-- What a stretch of k seconds takes of an offset. -/
theorem left_step (o k : Int) (hk : 1 ≤ k ∧ k ≤ 64) : ∃ r, rateS o (max (k * 1000000000) 16000000000) = r ∧ -500000 ≤ r ∧ r ≤ 500000 ∧ (0 ≤ o → 0 ≤ k * r ∧ k * r ≤ o + 63) ∧ (o ≤ 0 → k * r ≤ 0 ∧ o - 63 ≤ k * r) := by
  obtain ⟨K, hK⟩ : ∃ K, max k 16 = K := ⟨_, rfl⟩
  have e : max (k * 1000000000) 16000000000 = K * 1000000000 := by omega
  have hK0 : k ≤ K ∧ 16 ≤ K ∧ K ≤ 64 := by omega
  have ht : timeS (K * 1000000000) = K * 1000000000 := timeS_id (by omega)
  rw [e]
  refine ⟨_, rfl, (rateS_bd _ _).1, (rateS_bd _ _).2, fun h => ?_, fun h => ?_⟩
  · have hr : rateS o (K * 1000000000) = min (-((-o) / K)) 500000 := by
      unfold rateS
      rw [ht, if_neg (by omega), if_neg (by omega)]
      unfold mulDivS
      rw [if_neg (show ¬ K * 1000000000 ≤ 0 by omega)]
      simp only [if_true]
      rw [ableS_mm]
      have e2 : (-(o * 1000000000)) / (K * 1000000000) = (-o) / K := by
        rw [← Int.neg_mul, Int.mul_ediv_mul_of_pos_left _ _ (by decide)]
      rw [e2]
      have h1 := Int.mul_ediv_add_emod (-o) K
      have h2 := Int.emod_nonneg (-o) (show K ≠ 0 by omega)
      have hq : (-o) / K ≤ 0 := by
        apply Int.not_lt.1
        intro h3
        have := Int.mul_le_mul_of_nonneg_left (show 1 ≤ (-o) / K from h3) (show 0 ≤ K by omega)
        omega
      generalize (-o) / K = q at *
      split
      · simp only [if_true]; omega
      · simp only [Int.reduceEq, if_false]; omega
    rw [hr]
    have h1 := Int.mul_ediv_add_emod (-o) K
    have h2 := Int.emod_nonneg (-o) (show K ≠ 0 by omega)
    have h3 := Int.emod_lt_of_pos (-o) (show 0 < K by omega)
    have hq : (-o) / K ≤ 0 := by
      apply Int.not_lt.1
      intro h3
      have := Int.mul_le_mul_of_nonneg_left (show 1 ≤ (-o) / K from h3) (show 0 ≤ K by omega)
      omega
    generalize (-o) / K = q at *
    generalize (-o) % K = x at *
    obtain ⟨m, hm⟩ : ∃ m, min (-q) 500000 = m := ⟨_, rfl⟩
    rw [hm]
    have m0 : 0 ≤ m ∧ m ≤ -q := by omega
    have h4 : k * m ≤ K * m := Int.mul_le_mul_of_nonneg_right hK0.1 m0.1
    have h5 : K * m ≤ K * (-q) := Int.mul_le_mul_of_nonneg_left m0.2 (by omega)
    have h6 : 0 ≤ k * m := Int.mul_nonneg (by omega) m0.1
    rw [Int.mul_neg] at h5
    omega
  · have hr : rateS o (K * 1000000000) = max (o / K) (-500000) := by
      have h1 := Int.mul_ediv_add_emod o K
      have h2 := Int.emod_nonneg o (show K ≠ 0 by omega)
      have hq : o / K ≤ 0 := by
        apply Int.not_lt.1
        intro h3
        have := Int.mul_le_mul_of_nonneg_left (show 1 ≤ o / K from h3) (show 0 ≤ K by omega)
        omega
      unfold rateS
      rw [ht, if_neg (by omega)]
      by_cases hz : o = 0
      · subst hz
        rw [if_neg (by omega)]
        unfold mulDivS
        rw [if_neg (show ¬ K * 1000000000 ≤ 0 by omega)]
        simp [ableS_mm]
        omega
      rw [if_pos (by omega)]
      unfold mulDivS
      rw [if_neg (show ¬ K * 1000000000 ≤ 0 by omega)]
      simp only [Bool.false_eq_true, if_false]
      rw [ableS_mm]
      have e2 : (o * 1000000000) / (K * 1000000000) = o / K := Int.mul_ediv_mul_of_pos_left _ _ (by decide)
      rw [e2]
      generalize o / K = q at *
      split
      · simp only [if_true]; omega
      · simp only [Int.reduceEq, if_false]; omega
    rw [hr]
    have h1 := Int.mul_ediv_add_emod o K
    have h2 := Int.emod_nonneg o (show K ≠ 0 by omega)
    have h3 := Int.emod_lt_of_pos o (show 0 < K by omega)
    have hq : o / K ≤ 0 := by
      apply Int.not_lt.1
      intro h3
      have := Int.mul_le_mul_of_nonneg_left (show 1 ≤ o / K from h3) (show 0 ≤ K by omega)
      omega
    generalize o / K = q at *
    generalize o % K = x at *
    obtain ⟨m, hm⟩ : ∃ m, max q (-500000) = m := ⟨_, rfl⟩
    rw [hm]
    have m0 : q ≤ m ∧ m ≤ 0 := by omega
    have h4 : k * (-m) ≤ K * (-m) := Int.mul_le_mul_of_nonneg_right hK0.1 (by omega)
    have h5 : K * q ≤ K * m := Int.mul_le_mul_of_nonneg_left m0.1 (by omega)
    have h6 : 0 ≤ k * (-m) := Int.mul_nonneg (by omega) (by omega)
    rw [Int.mul_neg] at h6
    rw [Int.mul_neg, Int.mul_neg] at h4
    omega

theorem left_next (c : LS) (o kp s r : Int) (hf : c.freq = 0) (hr : -500000 ≤ c.rate ∧ c.rate ≤ 500000) (hkp : 0 ≤ kp ∧ kp ≤ 64) (hl : 0 < c.ups → o = c.left - kp * c.rate) (hs : rateS o (max (s * 1000000000) 16000000000) = r) (hr2 : -500000 ≤ r ∧ r ≤ 500000) :
    c.next o (kp * 1000000000) (s * 1000000000) = ⟨0, r, o, c.ups + 1⟩ := by
  have hlearn : c.learn o (kp * 1000000000) = 0 := by
    unfold LS.learn
    rw [hf]
    split
    · have e : o - c.rest (kp * 1000000000) = 0 := by
        unfold LS.rest slewedS
        rw [timeS_id (by omega), ableS_mm, hf, Int.sub_zero]
        have e1 : max (-500000) (min c.rate 500000) = c.rate := by omega
        rw [e1]
        have e2 : kp * 1000000000 * c.rate / 1000000000 = kp * c.rate := by
          have : kp * 1000000000 * c.rate = kp * c.rate * 1000000000 := by grind
          rw [this]
          exact Int.mul_ediv_cancel _ (by decide)
        rw [e2, hl (by omega)]
        omega
      rw [e, Int.zero_mul, Int.zero_ediv]
      decide
    · rfl
  unfold LS.next
  rw [hlearn, hs, Int.zero_add]
  have : clampS r (-500000) 500000 = r := by rw [clampS_mm _ 500000 (by decide)]; omega
  rw [this]

set_option maxRecDepth 100000 in
set_option maxHeartbeats 4000000 in
theorem loopLeft_walk (fi : Int) (A : Option Addr) (n cp : Nat) (l : List Int) (w : World) (hf : -2147483648 ≤ fi ∧ fi ≤ 2147483647)
    (hrd : Reads w w.heap.size 1 A n (l.map (Value.int .u8))) (hl : l.length = n) (hn : n * 1 ≤ 140737488351232) (hw : ∀ t ∈ l, 0 ≤ t ∧ t ≤ 255) :
    Calls Try.prog 3 #[.int .i32 fi, .slice A n cp] w fun e w' => e = .returned (.bool true) ∧ Stp [] w w' := by
  obtain ⟨o, hoo⟩ : ∃ o, fi.tmod 1000000000 = o := ⟨_, rfl⟩
  have o0 : -1000000000 < o := by rw [← hoo]; exact Int.lt_tmod_of_pos fi (by decide)
  have o1 : o < 1000000000 := by rw [← hoo]; exact Int.tmod_lt_of_pos fi (by decide)
  go_enter Try.func3, Try.ntmps3
  go_wp2_with fail
  refine (new_any _).mono ?_
  rintro e w1 ⟨g, rfl, a1, s1, hg⟩
  go_wp2_with fail
  clear hoo hf
  go_loopw [6, 7, 8] (fun vo ve i wr => ∃ (k : Nat) (c : LS) (o2 kp : Int), k ≤ n ∧ k ≤ 40 ∧ i = .int .i64 k ∧ vo = .int .i64 o2 ∧ ve = .int .i64 (kp * 1000000000) ∧ (-1000000000 ≤ o2 ∧ o2 ≤ 1000000000) ∧ (-1000000000 ≤ c.left ∧ c.left ≤ 1000000000) ∧ (0 ≤ kp ∧ kp ≤ 64) ∧ c.freq = 0 ∧ (-500000 ≤ c.rate ∧ c.rate ≤ 500000) ∧ c.ups = k ∧ (0 < c.ups → o2 = c.left - kp * c.rate) ∧ c.at wr g ∧ Stp [] w wr) (fun _ _ i _ => 40 - (intOf i).toNat)
  case atStart => exact ⟨0, _, o, 0, by omega, by omega, rfl, rfl, rfl, by omega, by decide, by decide, rfl, by decide, rfl, (fun h => absurd h (by decide)), a1, s1⟩
  case round =>
    clear a1 s1 o0 o1
    obtain ⟨k, c, o2, kp, hk, hk40, rfl, rfl, rfl, ho, hl2, hkp, hf0, hr0, hups, hlink, hat, ht⟩ := hrel
    by_cases hlt : k < n ∧ k < 40
    · obtain ⟨hlt, h40⟩ := hlt
      obtain ⟨b, off, rfl, hbb, hcell⟩ := hrd.form (by omega) (by omega)
      have hx : wr.cell? ⟨b, off + k, none⟩ = some (.int .u8 (l[k]'(by omega))) := ht.cell (hcell k _ (by rw [List.getElem?_map, List.getElem?_eq_getElem (by omega)]; rfl)) (by simp)
      have hwk := hw l[k] (List.getElem_mem _)
      clear hcell
      generalize l[k] = x at *
      obtain ⟨x0, x1⟩ := hwk
      obtain ⟨s, hs⟩ : ∃ s, 1 + x % 64 = s := ⟨_, rfl⟩
      have s0 : 1 ≤ s ∧ s ≤ 64 := by omega
      obtain ⟨r, hr, r0, r1, q0, q1⟩ := left_step o2 s s0
      have hn := left_next c o2 kp s r hf0 hr0 hkp hlink hr ⟨r0, r1⟩
      have hok : c.ok := ⟨by omega, by omega, hr0.1, hr0.2, by omega, by omega, by omega, by omega⟩
      have u1 := update_is _ hat hn hok (by omega) (by omega) (by omega) (by omega)
      have p1 := fun w => part_any (s * 1000000000) r (s * 1000000000 * r) w rfl (by
        have a1 : s * r ≤ s * 500000 := Int.mul_le_mul_of_nonneg_left r1 (by omega)
        have a2 : s * (-500000) ≤ s * r := Int.mul_le_mul_of_nonneg_left r0 (by omega)
        have a3 : s * 1000000000 * r = s * r * 1000000000 := by grind
        rw [a3]
        omega)
      have e2 : s * 1000000000 * r / 1000000000 = s * r := by
        have : s * 1000000000 * r = s * r * 1000000000 := by grind
        rw [this]
        exact Int.mul_ediv_cancel _ (by decide)
      rw [e2] at p1
      obtain ⟨y, hy⟩ : ∃ y, s * r = y := ⟨_, rfl⟩
      rw [hy] at p1 q0 q1
      have U := Lib.hid (And.intro u1 (And.intro p1 (And.intro hs hy)))
      obtain ⟨s00, s01⟩ := s0
      have hs1 : wrap64 (1 + x % 64) = s := by rw [hs]; exact wrap64_id (by omega) (by omega)
      have hcase : (0 ≤ o2 ∧ ¬ o2 ≤ 0 ∧ o2 - y ≤ o2 ∧ -64 ≤ o2 - y) ∨ (¬ 0 ≤ o2 ∧ o2 ≤ 0 ∧ o2 ≤ o2 - y ∧ o2 - y ≤ 64) ∨ (o2 = 0 ∧ y = 0) := by
        rcases Int.lt_trichotomy o2 0 with h | h | h
        · have := q1 (by omega); exact .inr (.inl ⟨by omega, by omega, by omega, by omega⟩)
        · have := q1 (by omega); have := q0 (by omega); exact .inr (.inr ⟨h, by omega⟩)
        · have := q0 (by omega); exact .inl ⟨by omega, by omega, by omega, by omega⟩
      obtain ⟨ho0, ho1⟩ := ho
      have yb : -2000000000 ≤ y ∧ y ≤ 2000000000 := by omega
      obtain ⟨yb0, yb1⟩ := yb
      clear u1 p1 hn hok hr hlink hf0 hr0 hl2 q0 q1 e2 hy
      rcases hcase with ⟨h1, h2, h3, h4⟩ | ⟨h1, h2, h3, h4⟩ | ⟨rfl, rfl⟩
      all_goals
        go_wp2_with fail
        refine U.out.1.mono ?_
        rintro e w2 ⟨rfl, a2, s2⟩
        go_wp2_with fail
        refine (lfreq_any g _ _ a2).mono ?_
        rintro e w3 ⟨rfl, rfl⟩
        go_wp2_with fail
        refine (U.out.2.1 _).mono ?_
        rintro e w3 ⟨rfl, rfl⟩
        have t3 := ht.far s2 (.inr hg)
        have R := Lib.hid (And.intro a2 t3)
        clear s2 t3 a2
        go_wp2_with fail
        go_roundw
        case rel => exact ⟨k + 1, _, _, s, by omega, by omega, by go_num, rfl, rfl, by omega, by simp only; omega, by omega, rfl, ⟨r0, r1⟩, by simp only; omega, (fun _ => by have := U.out.2.2.2; simp only; omega), R.out.1, R.out.2⟩
        case measure => simp [intOf]; omega
    · have hd : (k = n ∧ ¬ k < n) ∨ (k < n ∧ k = 40) := by omega
      clear hlt
      rcases hd with ⟨rfl, hd⟩ | ⟨hd, rfl⟩
      all_goals
        go_wp2_with fail
        refine (alive_any _).mono ?_
        rintro e w2 ⟨rfl, s2⟩
        go_wp2_with fail
        go_ret
        exact ⟨rfl, ht.trans s2⟩
end Go.Proofs.Ytkohpeonnoegpaa
