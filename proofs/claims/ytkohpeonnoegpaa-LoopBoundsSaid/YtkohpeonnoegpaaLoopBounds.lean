/- LoopBounds' walk. -/
import Derived.Test.YtkohpeonnoegpaaLoopD
import Derived.Outline
namespace Go.Proofs.Ytkohpeonnoegpaa
open Go.RowKit
set_option linter.unusedVariables false
set_option linter.unusedSimpArgs false

theorem div_sign (x s : Int) (hs : 0 < s) : (x ≤ 0 → x / s ≤ 0) ∧ (0 ≤ x → 0 ≤ x / s) := by
  refine ⟨fun hx => ?_, fun hx => Int.ediv_nonneg hx (by omega)⟩
  apply Int.not_lt.1
  intro h
  have h1 := Int.mul_ediv_add_emod x s
  have h2 := Int.emod_nonneg x (show s ≠ 0 by omega)
  have h3 := Int.mul_le_mul_of_nonneg_left (show 1 ≤ x / s from h) (show 0 ≤ s by omega)
  rw [Int.mul_one] at h3
  omega
/-- A rate has its amount's sign. -/
theorem rate_sign (o s : Int) : (o ≤ 0 → rateS o s ≤ 0) ∧ (0 ≤ o → 0 ≤ rateS o s) := by
  unfold rateS
  have ht : 0 ≤ timeS s := by unfold timeS clampS; (repeat' split) <;> omega
  generalize timeS s = t at *
  by_cases h0 : t = 0
  · rw [if_pos h0]; exact ⟨fun _ => by omega, fun _ => by omega⟩
  · rw [if_neg h0]
    have d1 := div_sign (o * 1000000000) t (by omega)
    have d2 := div_sign (-(o * 1000000000)) t (by omega)
    have a1 : ∀ q, ableS q = max (-500000) (min q 500000) := ableS_mm
    by_cases hn : o < 0
    · rw [if_pos hn]
      unfold mulDivS
      rw [if_neg (show ¬ t ≤ 0 by omega)]
      simp only [Bool.false_eq_true, if_false, a1]
      generalize o * 1000000000 / t = q at *
      have := d1.1 (by omega)
      refine ⟨fun _ => ?_, fun h => by omega⟩
      split
      · simp only [if_true]; omega
      · simp only [Int.reduceEq, if_false]; omega
    · rw [if_neg hn]
      unfold mulDivS
      rw [if_neg (show ¬ t ≤ 0 by omega)]
      simp only [if_true, a1]
      generalize -(o * 1000000000) / t = q at *
      have := d2.1 (by omega)
      refine ⟨fun h => ?_, fun _ => ?_⟩
      · have := d2.2 (by omega)
        split
        · simp only [if_true]; omega
        · rename_i hq
          exfalso
          omega
      · split
        · simp only [if_true]; omega
        · simp only [Int.reduceEq, if_false]; omega
theorem next_sign {c : LS} (ok : c.ok) (o el st : Int) : (o ≤ 0 → (c.next o el st).rate ≤ (c.next o el st).freq) ∧ (0 ≤ o → (c.next o el st).freq ≤ (c.next o el st).rate) := by
  have h1 := rate_sign o (max st 16000000000)
  have h2 := learn_ok ok o el
  show (o ≤ 0 → clampS (c.learn o el + rateS o (max st 16000000000)) (-500000) 500000 ≤ c.learn o el) ∧ (0 ≤ o → c.learn o el ≤ clampS (c.learn o el + rateS o (max st 16000000000)) (-500000) 500000)
  rw [clampS_mm _ 500000 (by decide)]
  generalize rateS o (max st 16000000000) = r at *
  generalize c.learn o el = f at *
  refine ⟨fun h => ?_, fun h => ?_⟩
  · have := h1.1 h; omega
  · have := h1.2 h; omega

theorem quad_get {α : Type} (enc : α → List Value) (size : Nat) (hlen : ∀ x, (enc x).length = size) : ∀ (l : List α) (k : Nat) (h : k < l.length) (r : Nat), r < size → (l.flatMap enc)[k * size + r]? = (enc l[k])[r]?
  | [], k, h, _, _ => by simp at h
  | x :: l, 0, _, r, hr => by
    rw [List.flatMap_cons, Nat.zero_mul, Nat.zero_add, List.getElem?_append_left (by rw [hlen]; exact hr)]
    rfl
  | x :: l, k + 1, h, r, hr => by
    have ih := quad_get enc size hlen l k (by simpa using h) r hr
    rw [List.flatMap_cons, List.getElem?_append_right (by rw [hlen, Nat.succ_mul]; omega), hlen]
    have e : (k + 1) * size + r - size = k * size + r := by rw [Nat.succ_mul]; omega
    rw [e, ih]
    rfl

set_option maxRecDepth 100000 in
set_option maxHeartbeats 8000000 in
theorem loopBounds_walk (A : Option Addr) (n cp : Nat) (l : List (Int × Int × Int × Int)) (w : World)
    (hrd : Reads w w.heap.size 4 A n (l.flatMap fun x => [.int .i64 x.1, .int .i64 x.2.1, .int .i64 x.2.2.1, .int .i64 x.2.2.2])) (hl : l.length = n) (hn : n * 32 ≤ 140737488351232) (hw : ∀ x ∈ l, (-9223372036854775808 ≤ x.1 ∧ x.1 ≤ 9223372036854775807) ∧ (-9223372036854775808 ≤ x.2.1 ∧ x.2.1 ≤ 9223372036854775807) ∧ (-9223372036854775808 ≤ x.2.2.1 ∧ x.2.2.1 ≤ 9223372036854775807) ∧ (-9223372036854775808 ≤ x.2.2.2 ∧ x.2.2.2 ≤ 9223372036854775807)) :
    Calls Try.prog 5 #[.slice A n cp] w fun e w' => e = .returned (.bool true) ∧ Stp [] w w' := by
  have HL := Lib.hid hl
  have HW := Lib.hid hw
  have HR := Lib.hid hrd
  clear hl hw hrd
  go_enter Try.func5, Try.ntmps5
  go_wp2_with fail
  refine (new_any _).mono ?_
  rintro e w1 ⟨g, rfl, a1, s1, hg⟩
  go_wp2_with fail
  go_loopw [4] (fun i wr => ∃ (k : Nat) (c : LS), k ≤ n ∧ k ≤ 80 ∧ i = .int .i64 k ∧ c.ok ∧ c.ups ≤ k ∧ c.at wr g ∧ Stp [] w wr) (fun i _ => 80 - (intOf i).toNat)
  case atStart => exact ⟨0, _, by omega, by omega, rfl, by constructor <;> decide, by decide, a1, s1⟩
  case round =>
    clear a1 s1
    obtain ⟨k, c, hk, hk80, rfl, ok, hups, hat, ht⟩ := hrel
    by_cases hlt : k < n ∧ k < 80
    · obtain ⟨hlt, h80⟩ := hlt
      obtain ⟨b, off, rfl, hbb, hcell⟩ := HR.out.form (by omega) (by omega)
      have hkl : k < l.length := by have := HL.out; omega
      have hq := fun r hr => quad_get (fun x : Int × Int × Int × Int => [.int .i64 x.1, .int .i64 x.2.1, .int .i64 x.2.2.1, .int .i64 x.2.2.2]) 4 (fun _ => rfl) l k hkl r hr
      have p0 : wr.cell? ⟨b, off + k * 4, none⟩ = some (.int .i64 l[k].1) := ht.cell (hcell _ _ (hq 0 (by decide))) (by simp)
      have p1 : wr.cell? ⟨b, off + k * 4 + 1, none⟩ = some (.int .i64 l[k].2.1) := ht.cell (hcell _ _ (hq 1 (by decide))) (by simp)
      have p2 : wr.cell? ⟨b, off + k * 4 + 2, none⟩ = some (.int .i64 l[k].2.2.1) := ht.cell (hcell _ _ (hq 2 (by decide))) (by simp)
      have p3 : wr.cell? ⟨b, off + k * 4 + 3, none⟩ = some (.int .i64 l[k].2.2.2) := ht.cell (hcell _ _ (hq 3 (by decide))) (by simp)
      have hwk := HW.out l[k] (List.getElem_mem _)
      clear hcell hq
      generalize l[k] = x at *
      obtain ⟨x1, o, el, st⟩ := x
      simp only at p0 p1 p2 p3 hwk
      obtain ⟨⟨x10, x11⟩, ⟨o0, o1⟩, ⟨el0, el1⟩, st0, st1⟩ := hwk
      obtain ⟨f, r, lf, u⟩ := c
      have OK := Lib.hid ok
      obtain ⟨f0, f1, r0, r1, l0, l1, u0, u1⟩ := ok
      simp only at f0 f1 r0 r1 l0 l1 u0 u1 hups
      have hgl := lt_of_at hat
      have h0 : (LS.mk f r lf u).at (wr.alloc (.cells #[.int .i64 x1, .int .i64 o, .int .i64 el, .int .i64 st] 35)) g := LS.at_alloc hat _
      have h0n : ∀ n, LS.at (LS.mk f r lf u) ((wr.alloc (.cells #[.int .i64 x1, .int .i64 o, .int .i64 el, .int .i64 st] 35)).drewN n) g := fun _ => h0
      have bx := Blk.new wr 35 #[.int .i64 x1, .int .i64 o, .int .i64 el, .int .i64 st]
      have BX := Lib.hid (And.intro bx ht)
      have hne : wr.heap.size ∉ [g] := by simp; omega
      clear bx ht hat HR HL HW hkl
      by_cases h5 : x1 = 5
      · subst h5
        clear OK
        as_aux_lemma =>
          go_wp2_with (first | (go_at_call 10; (with_reducible refine (lfreq_any g _ _ h0).mono ?_); rintro e v9 ⟨rfl, rfl⟩) | (go_at_call 10; (with_reducible refine (lfreq_any g _ _ (h0n _)).mono ?_); rintro e v9 ⟨rfl, rfl⟩) | (go_at_call 13; (with_reducible refine (lrate_any g _ _ h0).mono ?_); rintro e v9 ⟨rfl, rfl⟩) | (go_at_call 13; (with_reducible refine (lrate_any g _ _ (h0n _)).mono ?_); rintro e v9 ⟨rfl, rfl⟩) | (go_at_call 14; (with_reducible refine (lleft_any g _ _ h0).mono ?_); rintro e v9 ⟨rfl, rfl⟩) | (go_at_call 14; (with_reducible refine (lleft_any g _ _ (h0n _)).mono ?_); rintro e v9 ⟨rfl, rfl⟩) | (go_at_call 15; (with_reducible refine (lups_any g _ _ h0).mono ?_); rintro e v9 ⟨rfl, rfl⟩) | (go_at_call 15; (with_reducible refine (lups_any g _ _ (h0n _)).mono ?_); rintro e v9 ⟨rfl, rfl⟩) | (go_quiet (first | (go_at_call 10; with_reducible exact Calls.quiet_of_same (lfreq_any g _ _ h0)) | (go_at_call 10; with_reducible exact quiet_add_same (lfreq_any g _ _ (h0n _))) | (go_at_call 10; with_reducible exact Calls.quiet_of_same (lfreq_any g _ _ (h0n _))) | (go_at_call 13; with_reducible exact Calls.quiet_of_same (lrate_any g _ _ h0)) | (go_at_call 13; with_reducible exact quiet_add_same (lrate_any g _ _ (h0n _))) | (go_at_call 13; with_reducible exact Calls.quiet_of_same (lrate_any g _ _ (h0n _))) | (go_at_call 14; with_reducible exact Calls.quiet_of_same (lleft_any g _ _ h0)) | (go_at_call 14; with_reducible exact quiet_add_same (lleft_any g _ _ (h0n _))) | (go_at_call 14; with_reducible exact Calls.quiet_of_same (lleft_any g _ _ (h0n _))) | (go_at_call 15; with_reducible exact Calls.quiet_of_same (lups_any g _ _ h0)) | (go_at_call 15; with_reducible exact quiet_add_same (lups_any g _ _ (h0n _))) | (go_at_call 15; with_reducible exact Calls.quiet_of_same (lups_any g _ _ (h0n _))))))
          refine (stepped_any g (LS.mk f r lf u) _ h0).mono ?_
          rintro e w2 ⟨rfl, a2, s2⟩
          have a2n : ∀ n, LS.at (LS.mk f f 0 u) (w2.drewN n) g := fun _ => a2
          go_wp2_with (first | (go_at_call 10; (with_reducible refine (lfreq_any g _ _ a2).mono ?_); rintro e v9 ⟨rfl, rfl⟩) | (go_at_call 10; (with_reducible refine (lfreq_any g _ _ (a2n _)).mono ?_); rintro e v9 ⟨rfl, rfl⟩) | (go_at_call 13; (with_reducible refine (lrate_any g _ _ a2).mono ?_); rintro e v9 ⟨rfl, rfl⟩) | (go_at_call 13; (with_reducible refine (lrate_any g _ _ (a2n _)).mono ?_); rintro e v9 ⟨rfl, rfl⟩) | (go_at_call 14; (with_reducible refine (lleft_any g _ _ a2).mono ?_); rintro e v9 ⟨rfl, rfl⟩) | (go_at_call 14; (with_reducible refine (lleft_any g _ _ (a2n _)).mono ?_); rintro e v9 ⟨rfl, rfl⟩) | (go_at_call 15; (with_reducible refine (lups_any g _ _ a2).mono ?_); rintro e v9 ⟨rfl, rfl⟩) | (go_at_call 15; (with_reducible refine (lups_any g _ _ (a2n _)).mono ?_); rintro e v9 ⟨rfl, rfl⟩) | (go_quiet (first | (go_at_call 10; with_reducible exact Calls.quiet_of_same (lfreq_any g _ _ a2)) | (go_at_call 10; with_reducible exact quiet_add_same (lfreq_any g _ _ (a2n _))) | (go_at_call 10; with_reducible exact Calls.quiet_of_same (lfreq_any g _ _ (a2n _))) | (go_at_call 13; with_reducible exact Calls.quiet_of_same (lrate_any g _ _ a2)) | (go_at_call 13; with_reducible exact quiet_add_same (lrate_any g _ _ (a2n _))) | (go_at_call 13; with_reducible exact Calls.quiet_of_same (lrate_any g _ _ (a2n _))) | (go_at_call 14; with_reducible exact Calls.quiet_of_same (lleft_any g _ _ a2)) | (go_at_call 14; with_reducible exact quiet_add_same (lleft_any g _ _ (a2n _))) | (go_at_call 14; with_reducible exact Calls.quiet_of_same (lleft_any g _ _ (a2n _))) | (go_at_call 15; with_reducible exact Calls.quiet_of_same (lups_any g _ _ a2)) | (go_at_call 15; with_reducible exact quiet_add_same (lups_any g _ _ (a2n _))) | (go_at_call 15; with_reducible exact Calls.quiet_of_same (lups_any g _ _ (a2n _))))))
          go_roundw
          case rel => exact ⟨k + 1, ⟨f, f, 0, u⟩, by omega, by omega, by go_num, by constructor <;> simp only <;> omega, by simp only; omega, a2, by first | exact (BX.out.2.alloc _).far s2 (.inr hg) | exact ((BX.out.2.alloc _).far s2 (.inr hg)).drewN _⟩
          case measure => simp [intOf]; omega
      · have h5' : (x1 == 5) = false := by simpa using h5
        by_cases h6 : x1 = 6
        · subst h6
          clear OK
          by_cases hf : -250000 ≤ o ∧ o ≤ 250000
          · have d1 : decide (-250000 ≤ o) = true := decide_eq_true hf.1
            have d2 : decide (o ≤ 250000) = true := decide_eq_true hf.2
            have q1 := hf.1
            have q2 := hf.2
            have S := Lib.hid (fun w h => set_good g (LS.mk f r lf u) o w h hf)
            clear hf
            as_aux_lemma =>
              go_wp2_with (first | (go_at_call 10; (with_reducible refine (lfreq_any g _ _ h0).mono ?_); rintro e v9 ⟨rfl, rfl⟩) | (go_at_call 10; (with_reducible refine (lfreq_any g _ _ (h0n _)).mono ?_); rintro e v9 ⟨rfl, rfl⟩) | (go_at_call 13; (with_reducible refine (lrate_any g _ _ h0).mono ?_); rintro e v9 ⟨rfl, rfl⟩) | (go_at_call 13; (with_reducible refine (lrate_any g _ _ (h0n _)).mono ?_); rintro e v9 ⟨rfl, rfl⟩) | (go_at_call 14; (with_reducible refine (lleft_any g _ _ h0).mono ?_); rintro e v9 ⟨rfl, rfl⟩) | (go_at_call 14; (with_reducible refine (lleft_any g _ _ (h0n _)).mono ?_); rintro e v9 ⟨rfl, rfl⟩) | (go_at_call 15; (with_reducible refine (lups_any g _ _ h0).mono ?_); rintro e v9 ⟨rfl, rfl⟩) | (go_at_call 15; (with_reducible refine (lups_any g _ _ (h0n _)).mono ?_); rintro e v9 ⟨rfl, rfl⟩) | (go_quiet (first | (go_at_call 10; with_reducible exact Calls.quiet_of_same (lfreq_any g _ _ h0)) | (go_at_call 10; with_reducible exact quiet_add_same (lfreq_any g _ _ (h0n _))) | (go_at_call 10; with_reducible exact Calls.quiet_of_same (lfreq_any g _ _ (h0n _))) | (go_at_call 13; with_reducible exact Calls.quiet_of_same (lrate_any g _ _ h0)) | (go_at_call 13; with_reducible exact quiet_add_same (lrate_any g _ _ (h0n _))) | (go_at_call 13; with_reducible exact Calls.quiet_of_same (lrate_any g _ _ (h0n _))) | (go_at_call 14; with_reducible exact Calls.quiet_of_same (lleft_any g _ _ h0)) | (go_at_call 14; with_reducible exact quiet_add_same (lleft_any g _ _ (h0n _))) | (go_at_call 14; with_reducible exact Calls.quiet_of_same (lleft_any g _ _ (h0n _))) | (go_at_call 15; with_reducible exact Calls.quiet_of_same (lups_any g _ _ h0)) | (go_at_call 15; with_reducible exact quiet_add_same (lups_any g _ _ (h0n _))) | (go_at_call 15; with_reducible exact Calls.quiet_of_same (lups_any g _ _ (h0n _))))))
              refine (S.out _ h0).mono ?_
              rintro e w2 ⟨rfl, a2, s2⟩
              have a2n : ∀ n, LS.at (LS.mk o o 0 u) (w2.drewN n) g := fun _ => a2
              have y1 : w2.cell? ⟨wr.heap.size, 1, none⟩ = some (.int .i64 o) := s2.cell (BX.out.1.cell 1) hne
              go_wp2_with (first | (go_at_call 10; (with_reducible refine (lfreq_any g _ _ a2).mono ?_); rintro e v9 ⟨rfl, rfl⟩) | (go_at_call 10; (with_reducible refine (lfreq_any g _ _ (a2n _)).mono ?_); rintro e v9 ⟨rfl, rfl⟩) | (go_at_call 13; (with_reducible refine (lrate_any g _ _ a2).mono ?_); rintro e v9 ⟨rfl, rfl⟩) | (go_at_call 13; (with_reducible refine (lrate_any g _ _ (a2n _)).mono ?_); rintro e v9 ⟨rfl, rfl⟩) | (go_at_call 14; (with_reducible refine (lleft_any g _ _ a2).mono ?_); rintro e v9 ⟨rfl, rfl⟩) | (go_at_call 14; (with_reducible refine (lleft_any g _ _ (a2n _)).mono ?_); rintro e v9 ⟨rfl, rfl⟩) | (go_at_call 15; (with_reducible refine (lups_any g _ _ a2).mono ?_); rintro e v9 ⟨rfl, rfl⟩) | (go_at_call 15; (with_reducible refine (lups_any g _ _ (a2n _)).mono ?_); rintro e v9 ⟨rfl, rfl⟩) | (go_quiet (first | (go_at_call 10; with_reducible exact Calls.quiet_of_same (lfreq_any g _ _ a2)) | (go_at_call 10; with_reducible exact quiet_add_same (lfreq_any g _ _ (a2n _))) | (go_at_call 10; with_reducible exact Calls.quiet_of_same (lfreq_any g _ _ (a2n _))) | (go_at_call 13; with_reducible exact Calls.quiet_of_same (lrate_any g _ _ a2)) | (go_at_call 13; with_reducible exact quiet_add_same (lrate_any g _ _ (a2n _))) | (go_at_call 13; with_reducible exact Calls.quiet_of_same (lrate_any g _ _ (a2n _))) | (go_at_call 14; with_reducible exact Calls.quiet_of_same (lleft_any g _ _ a2)) | (go_at_call 14; with_reducible exact quiet_add_same (lleft_any g _ _ (a2n _))) | (go_at_call 14; with_reducible exact Calls.quiet_of_same (lleft_any g _ _ (a2n _))) | (go_at_call 15; with_reducible exact Calls.quiet_of_same (lups_any g _ _ a2)) | (go_at_call 15; with_reducible exact quiet_add_same (lups_any g _ _ (a2n _))) | (go_at_call 15; with_reducible exact Calls.quiet_of_same (lups_any g _ _ (a2n _))))))
              go_roundw
              case rel => exact ⟨k + 1, ⟨o, o, 0, u⟩, by omega, by omega, by go_num, by constructor <;> simp only <;> omega, by simp only; omega, a2, by first | exact (BX.out.2.alloc _).far s2 (.inr hg) | exact ((BX.out.2.alloc _).far s2 (.inr hg)).drewN _⟩
              case measure => simp [intOf]; omega
          · have S := Lib.hid (fun w h => set_bad g (LS.mk f r lf u) o w h (by omega))
            have hf2 : (decide (-250000 ≤ o) = false) ∨ (decide (-250000 ≤ o) = true ∧ decide (o ≤ 250000) = false) := by
              by_cases h : -250000 ≤ o
              · exact .inr ⟨decide_eq_true h, decide_eq_false (by omega)⟩
              · exact .inl (decide_eq_false h)
            clear hf
            rcases hf2 with d1 | ⟨d1, d2⟩
            all_goals as_aux_lemma =>
              go_wp2_with (first | (go_at_call 10; (with_reducible refine (lfreq_any g _ _ h0).mono ?_); rintro e v9 ⟨rfl, rfl⟩) | (go_at_call 10; (with_reducible refine (lfreq_any g _ _ (h0n _)).mono ?_); rintro e v9 ⟨rfl, rfl⟩) | (go_at_call 13; (with_reducible refine (lrate_any g _ _ h0).mono ?_); rintro e v9 ⟨rfl, rfl⟩) | (go_at_call 13; (with_reducible refine (lrate_any g _ _ (h0n _)).mono ?_); rintro e v9 ⟨rfl, rfl⟩) | (go_at_call 14; (with_reducible refine (lleft_any g _ _ h0).mono ?_); rintro e v9 ⟨rfl, rfl⟩) | (go_at_call 14; (with_reducible refine (lleft_any g _ _ (h0n _)).mono ?_); rintro e v9 ⟨rfl, rfl⟩) | (go_at_call 15; (with_reducible refine (lups_any g _ _ h0).mono ?_); rintro e v9 ⟨rfl, rfl⟩) | (go_at_call 15; (with_reducible refine (lups_any g _ _ (h0n _)).mono ?_); rintro e v9 ⟨rfl, rfl⟩) | (go_quiet (first | (go_at_call 10; with_reducible exact Calls.quiet_of_same (lfreq_any g _ _ h0)) | (go_at_call 10; with_reducible exact quiet_add_same (lfreq_any g _ _ (h0n _))) | (go_at_call 10; with_reducible exact Calls.quiet_of_same (lfreq_any g _ _ (h0n _))) | (go_at_call 13; with_reducible exact Calls.quiet_of_same (lrate_any g _ _ h0)) | (go_at_call 13; with_reducible exact quiet_add_same (lrate_any g _ _ (h0n _))) | (go_at_call 13; with_reducible exact Calls.quiet_of_same (lrate_any g _ _ (h0n _))) | (go_at_call 14; with_reducible exact Calls.quiet_of_same (lleft_any g _ _ h0)) | (go_at_call 14; with_reducible exact quiet_add_same (lleft_any g _ _ (h0n _))) | (go_at_call 14; with_reducible exact Calls.quiet_of_same (lleft_any g _ _ (h0n _))) | (go_at_call 15; with_reducible exact Calls.quiet_of_same (lups_any g _ _ h0)) | (go_at_call 15; with_reducible exact quiet_add_same (lups_any g _ _ (h0n _))) | (go_at_call 15; with_reducible exact Calls.quiet_of_same (lups_any g _ _ (h0n _))))))
              refine (S.out _ h0).mono ?_
              rintro e w2 ⟨rfl, rfl⟩
              go_wp2_with (first | (go_at_call 10; (with_reducible refine (lfreq_any g _ _ h0).mono ?_); rintro e v9 ⟨rfl, rfl⟩) | (go_at_call 10; (with_reducible refine (lfreq_any g _ _ (h0n _)).mono ?_); rintro e v9 ⟨rfl, rfl⟩) | (go_at_call 13; (with_reducible refine (lrate_any g _ _ h0).mono ?_); rintro e v9 ⟨rfl, rfl⟩) | (go_at_call 13; (with_reducible refine (lrate_any g _ _ (h0n _)).mono ?_); rintro e v9 ⟨rfl, rfl⟩) | (go_at_call 14; (with_reducible refine (lleft_any g _ _ h0).mono ?_); rintro e v9 ⟨rfl, rfl⟩) | (go_at_call 14; (with_reducible refine (lleft_any g _ _ (h0n _)).mono ?_); rintro e v9 ⟨rfl, rfl⟩) | (go_at_call 15; (with_reducible refine (lups_any g _ _ h0).mono ?_); rintro e v9 ⟨rfl, rfl⟩) | (go_at_call 15; (with_reducible refine (lups_any g _ _ (h0n _)).mono ?_); rintro e v9 ⟨rfl, rfl⟩) | (go_quiet (first | (go_at_call 10; with_reducible exact Calls.quiet_of_same (lfreq_any g _ _ h0)) | (go_at_call 10; with_reducible exact quiet_add_same (lfreq_any g _ _ (h0n _))) | (go_at_call 10; with_reducible exact Calls.quiet_of_same (lfreq_any g _ _ (h0n _))) | (go_at_call 13; with_reducible exact Calls.quiet_of_same (lrate_any g _ _ h0)) | (go_at_call 13; with_reducible exact quiet_add_same (lrate_any g _ _ (h0n _))) | (go_at_call 13; with_reducible exact Calls.quiet_of_same (lrate_any g _ _ (h0n _))) | (go_at_call 14; with_reducible exact Calls.quiet_of_same (lleft_any g _ _ h0)) | (go_at_call 14; with_reducible exact quiet_add_same (lleft_any g _ _ (h0n _))) | (go_at_call 14; with_reducible exact Calls.quiet_of_same (lleft_any g _ _ (h0n _))) | (go_at_call 15; with_reducible exact Calls.quiet_of_same (lups_any g _ _ h0)) | (go_at_call 15; with_reducible exact quiet_add_same (lups_any g _ _ (h0n _))) | (go_at_call 15; with_reducible exact Calls.quiet_of_same (lups_any g _ _ (h0n _))))))
              go_roundw
              case rel => exact ⟨k + 1, ⟨f, r, lf, u⟩, by omega, by omega, by go_num, by constructor <;> simp only <;> omega, by simp only; omega, h0, by first | exact BX.out.2.alloc _ | exact (BX.out.2.alloc _).drewN _⟩
              case measure => simp [intOf]; omega
        · have h6' : (x1 == 6) = false := by simpa using h6
          by_cases hb : spanB (absS o) = false ∨ spanB el = false ∨ spanB st = false
          · have S := Lib.hid (fun w h => update_bad g (LS.mk f r lf u) o el st w h ⟨o0, o1⟩ hb)
            clear hb OK
            as_aux_lemma =>
              go_wp2_with (first | (go_at_call 10; (with_reducible refine (lfreq_any g _ _ h0).mono ?_); rintro e v9 ⟨rfl, rfl⟩) | (go_at_call 10; (with_reducible refine (lfreq_any g _ _ (h0n _)).mono ?_); rintro e v9 ⟨rfl, rfl⟩) | (go_at_call 13; (with_reducible refine (lrate_any g _ _ h0).mono ?_); rintro e v9 ⟨rfl, rfl⟩) | (go_at_call 13; (with_reducible refine (lrate_any g _ _ (h0n _)).mono ?_); rintro e v9 ⟨rfl, rfl⟩) | (go_at_call 14; (with_reducible refine (lleft_any g _ _ h0).mono ?_); rintro e v9 ⟨rfl, rfl⟩) | (go_at_call 14; (with_reducible refine (lleft_any g _ _ (h0n _)).mono ?_); rintro e v9 ⟨rfl, rfl⟩) | (go_at_call 15; (with_reducible refine (lups_any g _ _ h0).mono ?_); rintro e v9 ⟨rfl, rfl⟩) | (go_at_call 15; (with_reducible refine (lups_any g _ _ (h0n _)).mono ?_); rintro e v9 ⟨rfl, rfl⟩) | (go_quiet (first | (go_at_call 10; with_reducible exact Calls.quiet_of_same (lfreq_any g _ _ h0)) | (go_at_call 10; with_reducible exact quiet_add_same (lfreq_any g _ _ (h0n _))) | (go_at_call 10; with_reducible exact Calls.quiet_of_same (lfreq_any g _ _ (h0n _))) | (go_at_call 13; with_reducible exact Calls.quiet_of_same (lrate_any g _ _ h0)) | (go_at_call 13; with_reducible exact quiet_add_same (lrate_any g _ _ (h0n _))) | (go_at_call 13; with_reducible exact Calls.quiet_of_same (lrate_any g _ _ (h0n _))) | (go_at_call 14; with_reducible exact Calls.quiet_of_same (lleft_any g _ _ h0)) | (go_at_call 14; with_reducible exact quiet_add_same (lleft_any g _ _ (h0n _))) | (go_at_call 14; with_reducible exact Calls.quiet_of_same (lleft_any g _ _ (h0n _))) | (go_at_call 15; with_reducible exact Calls.quiet_of_same (lups_any g _ _ h0)) | (go_at_call 15; with_reducible exact quiet_add_same (lups_any g _ _ (h0n _))) | (go_at_call 15; with_reducible exact Calls.quiet_of_same (lups_any g _ _ (h0n _))))))
              refine (S.out _ h0).mono ?_
              rintro e w2 ⟨rfl, rfl⟩
              go_wp2_with (first | (go_at_call 10; (with_reducible refine (lfreq_any g _ _ h0).mono ?_); rintro e v9 ⟨rfl, rfl⟩) | (go_at_call 10; (with_reducible refine (lfreq_any g _ _ (h0n _)).mono ?_); rintro e v9 ⟨rfl, rfl⟩) | (go_at_call 13; (with_reducible refine (lrate_any g _ _ h0).mono ?_); rintro e v9 ⟨rfl, rfl⟩) | (go_at_call 13; (with_reducible refine (lrate_any g _ _ (h0n _)).mono ?_); rintro e v9 ⟨rfl, rfl⟩) | (go_at_call 14; (with_reducible refine (lleft_any g _ _ h0).mono ?_); rintro e v9 ⟨rfl, rfl⟩) | (go_at_call 14; (with_reducible refine (lleft_any g _ _ (h0n _)).mono ?_); rintro e v9 ⟨rfl, rfl⟩) | (go_at_call 15; (with_reducible refine (lups_any g _ _ h0).mono ?_); rintro e v9 ⟨rfl, rfl⟩) | (go_at_call 15; (with_reducible refine (lups_any g _ _ (h0n _)).mono ?_); rintro e v9 ⟨rfl, rfl⟩) | (go_quiet (first | (go_at_call 10; with_reducible exact Calls.quiet_of_same (lfreq_any g _ _ h0)) | (go_at_call 10; with_reducible exact quiet_add_same (lfreq_any g _ _ (h0n _))) | (go_at_call 10; with_reducible exact Calls.quiet_of_same (lfreq_any g _ _ (h0n _))) | (go_at_call 13; with_reducible exact Calls.quiet_of_same (lrate_any g _ _ h0)) | (go_at_call 13; with_reducible exact quiet_add_same (lrate_any g _ _ (h0n _))) | (go_at_call 13; with_reducible exact Calls.quiet_of_same (lrate_any g _ _ (h0n _))) | (go_at_call 14; with_reducible exact Calls.quiet_of_same (lleft_any g _ _ h0)) | (go_at_call 14; with_reducible exact quiet_add_same (lleft_any g _ _ (h0n _))) | (go_at_call 14; with_reducible exact Calls.quiet_of_same (lleft_any g _ _ (h0n _))) | (go_at_call 15; with_reducible exact Calls.quiet_of_same (lups_any g _ _ h0)) | (go_at_call 15; with_reducible exact quiet_add_same (lups_any g _ _ (h0n _))) | (go_at_call 15; with_reducible exact Calls.quiet_of_same (lups_any g _ _ (h0n _))))))
              go_roundw
              case rel => exact ⟨k + 1, ⟨f, r, lf, u⟩, by omega, by omega, by go_num, by constructor <;> simp only <;> omega, by simp only; omega, h0, by first | exact BX.out.2.alloc _ | exact (BX.out.2.alloc _).drewN _⟩
              case measure => simp [intOf]; omega
          · have hb' : spanB (absS o) = true ∧ spanB el = true ∧ spanB st = true := by
              revert hb
              cases spanB (absS o) <;> cases spanB el <;> cases spanB st <;> simp
            have ho : -1125899906842624 ≤ o ∧ o ≤ 1125899906842624 := by
              have := of_decide_eq_true hb'.1
              unfold absS at this
              revert this
              (repeat' split) <;> omega
            have he := of_decide_eq_true hb'.2.1
            have hs := of_decide_eq_true hb'.2.2
            have nx := next_ok OK.out (o := o) (el := el) (st := st) ho (by simp only; omega)
            have sg := next_sign OK.out o el st
            have lr : u = 0 ∨ el < 1000000000 → (LS.mk f r lf u).learn o el = f := fun h => by unfold LS.learn; rw [if_neg (by simp only; omega)]
            have ups := update_any g (LS.mk f r lf u) o el st
            obtain ⟨f', r', hnx⟩ : ∃ f' r', (LS.mk f r lf u).next o el st = ⟨f', r', o, u + 1⟩ := ⟨_, _, rfl⟩
            have hfr : (LS.mk f r lf u).learn o el = f' := congrArg LS.freq hnx
            have up := fun w h => update_is ⟨f', r', o, u + 1⟩ (w := w) (g := g) h hnx OK.out ho he hs (by simp only; omega)
            rw [hnx] at nx sg
            rw [hfr] at lr
            simp only at sg
            obtain ⟨F0, F1, R0, R1, L0, L1, U0, U1⟩ := nx
            simp only at F0 F1 R0 R1
            have S := Lib.hid up
            have w1' : IntKind.i64.wrap (u + 1) = u + 1 := IntWalk.i64_in _ (by omega)
            have hsg : (0 < r' - f' ∧ 0 < o) ∨ (r' - f' < 0 ∧ o < 0) ∨ r' = f' := by omega
            have hlr : (u = 0 ∧ f' = f) ∨ (0 < u ∧ el < 1000000000 ∧ f' = f) ∨ (0 < u ∧ 1000000000 ≤ el) := by
              rcases Int.lt_or_le 0 u with h1 | h1
              · rcases Int.lt_or_le el 1000000000 with h2 | h2
                · exact .inr (.inl ⟨h1, h2, lr (.inr h2)⟩)
                · exact .inr (.inr ⟨h1, h2⟩)
              · exact .inl ⟨by omega, lr (.inl (by omega))⟩
            obtain ⟨oo0, oo1⟩ := ho
            clear hb hb' he hs sg lr ups hnx hfr up OK L0 L1 U0 U1
            rcases hlr with ⟨hu, rfl⟩ | ⟨hu, hel, rfl⟩ | ⟨hu, hel⟩
            · rcases hsg with ⟨g1, g2⟩ | ⟨g1, g2⟩ | rfl
              · as_aux_lemma =>
                  have hd1 : (u == 0) = true := by simpa using hu
                  clear hu
                  obtain ⟨d, hdd⟩ : ∃ d, r' - f' = d := ⟨_, rfl⟩
                  rw [hdd] at g1
                  have b1 : -1000000 ≤ d := by omega
                  have b2 : d ≤ 1000000 := by omega
                  have e1 : decide (0 < d) = true := decide_eq_true g1
                  have e2 : decide (o ≤ 0) = false := decide_eq_false (by omega)
                  have e3 : decide (d < 0) = false := decide_eq_false (by omega)
                  go_wp2_with (first | (go_at_call 10; (with_reducible refine (lfreq_any g _ _ h0).mono ?_); rintro e v9 ⟨rfl, rfl⟩) | (go_at_call 10; (with_reducible refine (lfreq_any g _ _ (h0n _)).mono ?_); rintro e v9 ⟨rfl, rfl⟩) | (go_at_call 13; (with_reducible refine (lrate_any g _ _ h0).mono ?_); rintro e v9 ⟨rfl, rfl⟩) | (go_at_call 13; (with_reducible refine (lrate_any g _ _ (h0n _)).mono ?_); rintro e v9 ⟨rfl, rfl⟩) | (go_at_call 14; (with_reducible refine (lleft_any g _ _ h0).mono ?_); rintro e v9 ⟨rfl, rfl⟩) | (go_at_call 14; (with_reducible refine (lleft_any g _ _ (h0n _)).mono ?_); rintro e v9 ⟨rfl, rfl⟩) | (go_at_call 15; (with_reducible refine (lups_any g _ _ h0).mono ?_); rintro e v9 ⟨rfl, rfl⟩) | (go_at_call 15; (with_reducible refine (lups_any g _ _ (h0n _)).mono ?_); rintro e v9 ⟨rfl, rfl⟩) | (go_quiet (first | (go_at_call 10; with_reducible exact Calls.quiet_of_same (lfreq_any g _ _ h0)) | (go_at_call 10; with_reducible exact quiet_add_same (lfreq_any g _ _ (h0n _))) | (go_at_call 10; with_reducible exact Calls.quiet_of_same (lfreq_any g _ _ (h0n _))) | (go_at_call 13; with_reducible exact Calls.quiet_of_same (lrate_any g _ _ h0)) | (go_at_call 13; with_reducible exact quiet_add_same (lrate_any g _ _ (h0n _))) | (go_at_call 13; with_reducible exact Calls.quiet_of_same (lrate_any g _ _ (h0n _))) | (go_at_call 14; with_reducible exact Calls.quiet_of_same (lleft_any g _ _ h0)) | (go_at_call 14; with_reducible exact quiet_add_same (lleft_any g _ _ (h0n _))) | (go_at_call 14; with_reducible exact Calls.quiet_of_same (lleft_any g _ _ (h0n _))) | (go_at_call 15; with_reducible exact Calls.quiet_of_same (lups_any g _ _ h0)) | (go_at_call 15; with_reducible exact quiet_add_same (lups_any g _ _ (h0n _))) | (go_at_call 15; with_reducible exact Calls.quiet_of_same (lups_any g _ _ (h0n _))))))
                  refine (S.out _ h0).mono ?_
                  rintro e w2 ⟨rfl, a2, s2⟩
                  have a2n : ∀ n, LS.at (LS.mk f' r' o (u + 1)) (w2.drewN n) g := fun _ => a2
                  have y1 : w2.cell? ⟨wr.heap.size, 1, none⟩ = some (.int .i64 o) := s2.cell (BX.out.1.cell 1) hne
                  have y2 : w2.cell? ⟨wr.heap.size, 2, none⟩ = some (.int .i64 el) := s2.cell (BX.out.1.cell 2) hne
                  go_wp2_with (first | (go_at_call 10; (with_reducible refine (lfreq_any g _ _ a2).mono ?_); rintro e v9 ⟨rfl, rfl⟩) | (go_at_call 10; (with_reducible refine (lfreq_any g _ _ (a2n _)).mono ?_); rintro e v9 ⟨rfl, rfl⟩) | (go_at_call 13; (with_reducible refine (lrate_any g _ _ a2).mono ?_); rintro e v9 ⟨rfl, rfl⟩) | (go_at_call 13; (with_reducible refine (lrate_any g _ _ (a2n _)).mono ?_); rintro e v9 ⟨rfl, rfl⟩) | (go_at_call 14; (with_reducible refine (lleft_any g _ _ a2).mono ?_); rintro e v9 ⟨rfl, rfl⟩) | (go_at_call 14; (with_reducible refine (lleft_any g _ _ (a2n _)).mono ?_); rintro e v9 ⟨rfl, rfl⟩) | (go_at_call 15; (with_reducible refine (lups_any g _ _ a2).mono ?_); rintro e v9 ⟨rfl, rfl⟩) | (go_at_call 15; (with_reducible refine (lups_any g _ _ (a2n _)).mono ?_); rintro e v9 ⟨rfl, rfl⟩) | (go_quiet (first | (go_at_call 10; with_reducible exact Calls.quiet_of_same (lfreq_any g _ _ a2)) | (go_at_call 10; with_reducible exact quiet_add_same (lfreq_any g _ _ (a2n _))) | (go_at_call 10; with_reducible exact Calls.quiet_of_same (lfreq_any g _ _ (a2n _))) | (go_at_call 13; with_reducible exact Calls.quiet_of_same (lrate_any g _ _ a2)) | (go_at_call 13; with_reducible exact quiet_add_same (lrate_any g _ _ (a2n _))) | (go_at_call 13; with_reducible exact Calls.quiet_of_same (lrate_any g _ _ (a2n _))) | (go_at_call 14; with_reducible exact Calls.quiet_of_same (lleft_any g _ _ a2)) | (go_at_call 14; with_reducible exact quiet_add_same (lleft_any g _ _ (a2n _))) | (go_at_call 14; with_reducible exact Calls.quiet_of_same (lleft_any g _ _ (a2n _))) | (go_at_call 15; with_reducible exact Calls.quiet_of_same (lups_any g _ _ a2)) | (go_at_call 15; with_reducible exact quiet_add_same (lups_any g _ _ (a2n _))) | (go_at_call 15; with_reducible exact Calls.quiet_of_same (lups_any g _ _ (a2n _))))))
                  go_roundw
                  case rel => exact ⟨k + 1, ⟨f', r', o, u + 1⟩, by omega, by omega, by go_num, by constructor <;> simp only <;> omega, by simp only; omega, a2, by first | exact (BX.out.2.alloc _).far s2 (.inr hg) | exact ((BX.out.2.alloc _).far s2 (.inr hg)).drewN _⟩
                  case measure => simp [intOf]; omega
              · as_aux_lemma =>
                  have hd1 : (u == 0) = true := by simpa using hu
                  clear hu
                  obtain ⟨d, hdd⟩ : ∃ d, r' - f' = d := ⟨_, rfl⟩
                  rw [hdd] at g1
                  have b1 : -1000000 ≤ d := by omega
                  have b2 : d ≤ 1000000 := by omega
                  have e1 : decide (0 < d) = false := decide_eq_false (by omega)
                  have e2 : decide (0 ≤ o) = false := decide_eq_false (by omega)
                  have e3 : decide (d < 0) = true := decide_eq_true g1
                  go_wp2_with (first | (go_at_call 10; (with_reducible refine (lfreq_any g _ _ h0).mono ?_); rintro e v9 ⟨rfl, rfl⟩) | (go_at_call 10; (with_reducible refine (lfreq_any g _ _ (h0n _)).mono ?_); rintro e v9 ⟨rfl, rfl⟩) | (go_at_call 13; (with_reducible refine (lrate_any g _ _ h0).mono ?_); rintro e v9 ⟨rfl, rfl⟩) | (go_at_call 13; (with_reducible refine (lrate_any g _ _ (h0n _)).mono ?_); rintro e v9 ⟨rfl, rfl⟩) | (go_at_call 14; (with_reducible refine (lleft_any g _ _ h0).mono ?_); rintro e v9 ⟨rfl, rfl⟩) | (go_at_call 14; (with_reducible refine (lleft_any g _ _ (h0n _)).mono ?_); rintro e v9 ⟨rfl, rfl⟩) | (go_at_call 15; (with_reducible refine (lups_any g _ _ h0).mono ?_); rintro e v9 ⟨rfl, rfl⟩) | (go_at_call 15; (with_reducible refine (lups_any g _ _ (h0n _)).mono ?_); rintro e v9 ⟨rfl, rfl⟩) | (go_quiet (first | (go_at_call 10; with_reducible exact Calls.quiet_of_same (lfreq_any g _ _ h0)) | (go_at_call 10; with_reducible exact quiet_add_same (lfreq_any g _ _ (h0n _))) | (go_at_call 10; with_reducible exact Calls.quiet_of_same (lfreq_any g _ _ (h0n _))) | (go_at_call 13; with_reducible exact Calls.quiet_of_same (lrate_any g _ _ h0)) | (go_at_call 13; with_reducible exact quiet_add_same (lrate_any g _ _ (h0n _))) | (go_at_call 13; with_reducible exact Calls.quiet_of_same (lrate_any g _ _ (h0n _))) | (go_at_call 14; with_reducible exact Calls.quiet_of_same (lleft_any g _ _ h0)) | (go_at_call 14; with_reducible exact quiet_add_same (lleft_any g _ _ (h0n _))) | (go_at_call 14; with_reducible exact Calls.quiet_of_same (lleft_any g _ _ (h0n _))) | (go_at_call 15; with_reducible exact Calls.quiet_of_same (lups_any g _ _ h0)) | (go_at_call 15; with_reducible exact quiet_add_same (lups_any g _ _ (h0n _))) | (go_at_call 15; with_reducible exact Calls.quiet_of_same (lups_any g _ _ (h0n _))))))
                  refine (S.out _ h0).mono ?_
                  rintro e w2 ⟨rfl, a2, s2⟩
                  have a2n : ∀ n, LS.at (LS.mk f' r' o (u + 1)) (w2.drewN n) g := fun _ => a2
                  have y1 : w2.cell? ⟨wr.heap.size, 1, none⟩ = some (.int .i64 o) := s2.cell (BX.out.1.cell 1) hne
                  have y2 : w2.cell? ⟨wr.heap.size, 2, none⟩ = some (.int .i64 el) := s2.cell (BX.out.1.cell 2) hne
                  go_wp2_with (first | (go_at_call 10; (with_reducible refine (lfreq_any g _ _ a2).mono ?_); rintro e v9 ⟨rfl, rfl⟩) | (go_at_call 10; (with_reducible refine (lfreq_any g _ _ (a2n _)).mono ?_); rintro e v9 ⟨rfl, rfl⟩) | (go_at_call 13; (with_reducible refine (lrate_any g _ _ a2).mono ?_); rintro e v9 ⟨rfl, rfl⟩) | (go_at_call 13; (with_reducible refine (lrate_any g _ _ (a2n _)).mono ?_); rintro e v9 ⟨rfl, rfl⟩) | (go_at_call 14; (with_reducible refine (lleft_any g _ _ a2).mono ?_); rintro e v9 ⟨rfl, rfl⟩) | (go_at_call 14; (with_reducible refine (lleft_any g _ _ (a2n _)).mono ?_); rintro e v9 ⟨rfl, rfl⟩) | (go_at_call 15; (with_reducible refine (lups_any g _ _ a2).mono ?_); rintro e v9 ⟨rfl, rfl⟩) | (go_at_call 15; (with_reducible refine (lups_any g _ _ (a2n _)).mono ?_); rintro e v9 ⟨rfl, rfl⟩) | (go_quiet (first | (go_at_call 10; with_reducible exact Calls.quiet_of_same (lfreq_any g _ _ a2)) | (go_at_call 10; with_reducible exact quiet_add_same (lfreq_any g _ _ (a2n _))) | (go_at_call 10; with_reducible exact Calls.quiet_of_same (lfreq_any g _ _ (a2n _))) | (go_at_call 13; with_reducible exact Calls.quiet_of_same (lrate_any g _ _ a2)) | (go_at_call 13; with_reducible exact quiet_add_same (lrate_any g _ _ (a2n _))) | (go_at_call 13; with_reducible exact Calls.quiet_of_same (lrate_any g _ _ (a2n _))) | (go_at_call 14; with_reducible exact Calls.quiet_of_same (lleft_any g _ _ a2)) | (go_at_call 14; with_reducible exact quiet_add_same (lleft_any g _ _ (a2n _))) | (go_at_call 14; with_reducible exact Calls.quiet_of_same (lleft_any g _ _ (a2n _))) | (go_at_call 15; with_reducible exact Calls.quiet_of_same (lups_any g _ _ a2)) | (go_at_call 15; with_reducible exact quiet_add_same (lups_any g _ _ (a2n _))) | (go_at_call 15; with_reducible exact Calls.quiet_of_same (lups_any g _ _ (a2n _))))))
                  go_roundw
                  case rel => exact ⟨k + 1, ⟨f', r', o, u + 1⟩, by omega, by omega, by go_num, by constructor <;> simp only <;> omega, by simp only; omega, a2, by first | exact (BX.out.2.alloc _).far s2 (.inr hg) | exact ((BX.out.2.alloc _).far s2 (.inr hg)).drewN _⟩
                  case measure => simp [intOf]; omega
              · as_aux_lemma =>
                  have hd1 : (u == 0) = true := by simpa using hu
                  clear hu
                  go_wp2_with (first | (go_at_call 10; (with_reducible refine (lfreq_any g _ _ h0).mono ?_); rintro e v9 ⟨rfl, rfl⟩) | (go_at_call 10; (with_reducible refine (lfreq_any g _ _ (h0n _)).mono ?_); rintro e v9 ⟨rfl, rfl⟩) | (go_at_call 13; (with_reducible refine (lrate_any g _ _ h0).mono ?_); rintro e v9 ⟨rfl, rfl⟩) | (go_at_call 13; (with_reducible refine (lrate_any g _ _ (h0n _)).mono ?_); rintro e v9 ⟨rfl, rfl⟩) | (go_at_call 14; (with_reducible refine (lleft_any g _ _ h0).mono ?_); rintro e v9 ⟨rfl, rfl⟩) | (go_at_call 14; (with_reducible refine (lleft_any g _ _ (h0n _)).mono ?_); rintro e v9 ⟨rfl, rfl⟩) | (go_at_call 15; (with_reducible refine (lups_any g _ _ h0).mono ?_); rintro e v9 ⟨rfl, rfl⟩) | (go_at_call 15; (with_reducible refine (lups_any g _ _ (h0n _)).mono ?_); rintro e v9 ⟨rfl, rfl⟩) | (go_quiet (first | (go_at_call 10; with_reducible exact Calls.quiet_of_same (lfreq_any g _ _ h0)) | (go_at_call 10; with_reducible exact quiet_add_same (lfreq_any g _ _ (h0n _))) | (go_at_call 10; with_reducible exact Calls.quiet_of_same (lfreq_any g _ _ (h0n _))) | (go_at_call 13; with_reducible exact Calls.quiet_of_same (lrate_any g _ _ h0)) | (go_at_call 13; with_reducible exact quiet_add_same (lrate_any g _ _ (h0n _))) | (go_at_call 13; with_reducible exact Calls.quiet_of_same (lrate_any g _ _ (h0n _))) | (go_at_call 14; with_reducible exact Calls.quiet_of_same (lleft_any g _ _ h0)) | (go_at_call 14; with_reducible exact quiet_add_same (lleft_any g _ _ (h0n _))) | (go_at_call 14; with_reducible exact Calls.quiet_of_same (lleft_any g _ _ (h0n _))) | (go_at_call 15; with_reducible exact Calls.quiet_of_same (lups_any g _ _ h0)) | (go_at_call 15; with_reducible exact quiet_add_same (lups_any g _ _ (h0n _))) | (go_at_call 15; with_reducible exact Calls.quiet_of_same (lups_any g _ _ (h0n _))))))
                  refine (S.out _ h0).mono ?_
                  rintro e w2 ⟨rfl, a2, s2⟩
                  have a2n : ∀ n, LS.at (LS.mk r' r' o (u + 1)) (w2.drewN n) g := fun _ => a2
                  have y1 : w2.cell? ⟨wr.heap.size, 1, none⟩ = some (.int .i64 o) := s2.cell (BX.out.1.cell 1) hne
                  have y2 : w2.cell? ⟨wr.heap.size, 2, none⟩ = some (.int .i64 el) := s2.cell (BX.out.1.cell 2) hne
                  go_wp2_with (first | (go_at_call 10; (with_reducible refine (lfreq_any g _ _ a2).mono ?_); rintro e v9 ⟨rfl, rfl⟩) | (go_at_call 10; (with_reducible refine (lfreq_any g _ _ (a2n _)).mono ?_); rintro e v9 ⟨rfl, rfl⟩) | (go_at_call 13; (with_reducible refine (lrate_any g _ _ a2).mono ?_); rintro e v9 ⟨rfl, rfl⟩) | (go_at_call 13; (with_reducible refine (lrate_any g _ _ (a2n _)).mono ?_); rintro e v9 ⟨rfl, rfl⟩) | (go_at_call 14; (with_reducible refine (lleft_any g _ _ a2).mono ?_); rintro e v9 ⟨rfl, rfl⟩) | (go_at_call 14; (with_reducible refine (lleft_any g _ _ (a2n _)).mono ?_); rintro e v9 ⟨rfl, rfl⟩) | (go_at_call 15; (with_reducible refine (lups_any g _ _ a2).mono ?_); rintro e v9 ⟨rfl, rfl⟩) | (go_at_call 15; (with_reducible refine (lups_any g _ _ (a2n _)).mono ?_); rintro e v9 ⟨rfl, rfl⟩) | (go_quiet (first | (go_at_call 10; with_reducible exact Calls.quiet_of_same (lfreq_any g _ _ a2)) | (go_at_call 10; with_reducible exact quiet_add_same (lfreq_any g _ _ (a2n _))) | (go_at_call 10; with_reducible exact Calls.quiet_of_same (lfreq_any g _ _ (a2n _))) | (go_at_call 13; with_reducible exact Calls.quiet_of_same (lrate_any g _ _ a2)) | (go_at_call 13; with_reducible exact quiet_add_same (lrate_any g _ _ (a2n _))) | (go_at_call 13; with_reducible exact Calls.quiet_of_same (lrate_any g _ _ (a2n _))) | (go_at_call 14; with_reducible exact Calls.quiet_of_same (lleft_any g _ _ a2)) | (go_at_call 14; with_reducible exact quiet_add_same (lleft_any g _ _ (a2n _))) | (go_at_call 14; with_reducible exact Calls.quiet_of_same (lleft_any g _ _ (a2n _))) | (go_at_call 15; with_reducible exact Calls.quiet_of_same (lups_any g _ _ a2)) | (go_at_call 15; with_reducible exact quiet_add_same (lups_any g _ _ (a2n _))) | (go_at_call 15; with_reducible exact Calls.quiet_of_same (lups_any g _ _ (a2n _))))))
                  go_roundw
                  case rel => exact ⟨k + 1, ⟨r', r', o, u + 1⟩, by omega, by omega, by go_num, by constructor <;> simp only <;> omega, by simp only; omega, a2, by first | exact (BX.out.2.alloc _).far s2 (.inr hg) | exact ((BX.out.2.alloc _).far s2 (.inr hg)).drewN _⟩
                  case measure => simp [intOf]; omega
            · rcases hsg with ⟨g1, g2⟩ | ⟨g1, g2⟩ | rfl
              · as_aux_lemma =>
                  have hd1 : (u == 0) = false := by simp; omega
                  have hd2 : decide (el < 1000000000) = true := decide_eq_true hel
                  obtain ⟨d, hdd⟩ : ∃ d, r' - f' = d := ⟨_, rfl⟩
                  rw [hdd] at g1
                  have b1 : -1000000 ≤ d := by omega
                  have b2 : d ≤ 1000000 := by omega
                  have e1 : decide (0 < d) = true := decide_eq_true g1
                  have e2 : decide (o ≤ 0) = false := decide_eq_false (by omega)
                  have e3 : decide (d < 0) = false := decide_eq_false (by omega)
                  go_wp2_with (first | (go_at_call 10; (with_reducible refine (lfreq_any g _ _ h0).mono ?_); rintro e v9 ⟨rfl, rfl⟩) | (go_at_call 10; (with_reducible refine (lfreq_any g _ _ (h0n _)).mono ?_); rintro e v9 ⟨rfl, rfl⟩) | (go_at_call 13; (with_reducible refine (lrate_any g _ _ h0).mono ?_); rintro e v9 ⟨rfl, rfl⟩) | (go_at_call 13; (with_reducible refine (lrate_any g _ _ (h0n _)).mono ?_); rintro e v9 ⟨rfl, rfl⟩) | (go_at_call 14; (with_reducible refine (lleft_any g _ _ h0).mono ?_); rintro e v9 ⟨rfl, rfl⟩) | (go_at_call 14; (with_reducible refine (lleft_any g _ _ (h0n _)).mono ?_); rintro e v9 ⟨rfl, rfl⟩) | (go_at_call 15; (with_reducible refine (lups_any g _ _ h0).mono ?_); rintro e v9 ⟨rfl, rfl⟩) | (go_at_call 15; (with_reducible refine (lups_any g _ _ (h0n _)).mono ?_); rintro e v9 ⟨rfl, rfl⟩) | (go_quiet (first | (go_at_call 10; with_reducible exact Calls.quiet_of_same (lfreq_any g _ _ h0)) | (go_at_call 10; with_reducible exact quiet_add_same (lfreq_any g _ _ (h0n _))) | (go_at_call 10; with_reducible exact Calls.quiet_of_same (lfreq_any g _ _ (h0n _))) | (go_at_call 13; with_reducible exact Calls.quiet_of_same (lrate_any g _ _ h0)) | (go_at_call 13; with_reducible exact quiet_add_same (lrate_any g _ _ (h0n _))) | (go_at_call 13; with_reducible exact Calls.quiet_of_same (lrate_any g _ _ (h0n _))) | (go_at_call 14; with_reducible exact Calls.quiet_of_same (lleft_any g _ _ h0)) | (go_at_call 14; with_reducible exact quiet_add_same (lleft_any g _ _ (h0n _))) | (go_at_call 14; with_reducible exact Calls.quiet_of_same (lleft_any g _ _ (h0n _))) | (go_at_call 15; with_reducible exact Calls.quiet_of_same (lups_any g _ _ h0)) | (go_at_call 15; with_reducible exact quiet_add_same (lups_any g _ _ (h0n _))) | (go_at_call 15; with_reducible exact Calls.quiet_of_same (lups_any g _ _ (h0n _))))))
                  refine (S.out _ h0).mono ?_
                  rintro e w2 ⟨rfl, a2, s2⟩
                  have a2n : ∀ n, LS.at (LS.mk f' r' o (u + 1)) (w2.drewN n) g := fun _ => a2
                  have y1 : w2.cell? ⟨wr.heap.size, 1, none⟩ = some (.int .i64 o) := s2.cell (BX.out.1.cell 1) hne
                  have y2 : w2.cell? ⟨wr.heap.size, 2, none⟩ = some (.int .i64 el) := s2.cell (BX.out.1.cell 2) hne
                  go_wp2_with (first | (go_at_call 10; (with_reducible refine (lfreq_any g _ _ a2).mono ?_); rintro e v9 ⟨rfl, rfl⟩) | (go_at_call 10; (with_reducible refine (lfreq_any g _ _ (a2n _)).mono ?_); rintro e v9 ⟨rfl, rfl⟩) | (go_at_call 13; (with_reducible refine (lrate_any g _ _ a2).mono ?_); rintro e v9 ⟨rfl, rfl⟩) | (go_at_call 13; (with_reducible refine (lrate_any g _ _ (a2n _)).mono ?_); rintro e v9 ⟨rfl, rfl⟩) | (go_at_call 14; (with_reducible refine (lleft_any g _ _ a2).mono ?_); rintro e v9 ⟨rfl, rfl⟩) | (go_at_call 14; (with_reducible refine (lleft_any g _ _ (a2n _)).mono ?_); rintro e v9 ⟨rfl, rfl⟩) | (go_at_call 15; (with_reducible refine (lups_any g _ _ a2).mono ?_); rintro e v9 ⟨rfl, rfl⟩) | (go_at_call 15; (with_reducible refine (lups_any g _ _ (a2n _)).mono ?_); rintro e v9 ⟨rfl, rfl⟩) | (go_quiet (first | (go_at_call 10; with_reducible exact Calls.quiet_of_same (lfreq_any g _ _ a2)) | (go_at_call 10; with_reducible exact quiet_add_same (lfreq_any g _ _ (a2n _))) | (go_at_call 10; with_reducible exact Calls.quiet_of_same (lfreq_any g _ _ (a2n _))) | (go_at_call 13; with_reducible exact Calls.quiet_of_same (lrate_any g _ _ a2)) | (go_at_call 13; with_reducible exact quiet_add_same (lrate_any g _ _ (a2n _))) | (go_at_call 13; with_reducible exact Calls.quiet_of_same (lrate_any g _ _ (a2n _))) | (go_at_call 14; with_reducible exact Calls.quiet_of_same (lleft_any g _ _ a2)) | (go_at_call 14; with_reducible exact quiet_add_same (lleft_any g _ _ (a2n _))) | (go_at_call 14; with_reducible exact Calls.quiet_of_same (lleft_any g _ _ (a2n _))) | (go_at_call 15; with_reducible exact Calls.quiet_of_same (lups_any g _ _ a2)) | (go_at_call 15; with_reducible exact quiet_add_same (lups_any g _ _ (a2n _))) | (go_at_call 15; with_reducible exact Calls.quiet_of_same (lups_any g _ _ (a2n _))))))
                  go_roundw
                  case rel => exact ⟨k + 1, ⟨f', r', o, u + 1⟩, by omega, by omega, by go_num, by constructor <;> simp only <;> omega, by simp only; omega, a2, by first | exact (BX.out.2.alloc _).far s2 (.inr hg) | exact ((BX.out.2.alloc _).far s2 (.inr hg)).drewN _⟩
                  case measure => simp [intOf]; omega
              · as_aux_lemma =>
                  have hd1 : (u == 0) = false := by simp; omega
                  have hd2 : decide (el < 1000000000) = true := decide_eq_true hel
                  obtain ⟨d, hdd⟩ : ∃ d, r' - f' = d := ⟨_, rfl⟩
                  rw [hdd] at g1
                  have b1 : -1000000 ≤ d := by omega
                  have b2 : d ≤ 1000000 := by omega
                  have e1 : decide (0 < d) = false := decide_eq_false (by omega)
                  have e2 : decide (0 ≤ o) = false := decide_eq_false (by omega)
                  have e3 : decide (d < 0) = true := decide_eq_true g1
                  go_wp2_with (first | (go_at_call 10; (with_reducible refine (lfreq_any g _ _ h0).mono ?_); rintro e v9 ⟨rfl, rfl⟩) | (go_at_call 10; (with_reducible refine (lfreq_any g _ _ (h0n _)).mono ?_); rintro e v9 ⟨rfl, rfl⟩) | (go_at_call 13; (with_reducible refine (lrate_any g _ _ h0).mono ?_); rintro e v9 ⟨rfl, rfl⟩) | (go_at_call 13; (with_reducible refine (lrate_any g _ _ (h0n _)).mono ?_); rintro e v9 ⟨rfl, rfl⟩) | (go_at_call 14; (with_reducible refine (lleft_any g _ _ h0).mono ?_); rintro e v9 ⟨rfl, rfl⟩) | (go_at_call 14; (with_reducible refine (lleft_any g _ _ (h0n _)).mono ?_); rintro e v9 ⟨rfl, rfl⟩) | (go_at_call 15; (with_reducible refine (lups_any g _ _ h0).mono ?_); rintro e v9 ⟨rfl, rfl⟩) | (go_at_call 15; (with_reducible refine (lups_any g _ _ (h0n _)).mono ?_); rintro e v9 ⟨rfl, rfl⟩) | (go_quiet (first | (go_at_call 10; with_reducible exact Calls.quiet_of_same (lfreq_any g _ _ h0)) | (go_at_call 10; with_reducible exact quiet_add_same (lfreq_any g _ _ (h0n _))) | (go_at_call 10; with_reducible exact Calls.quiet_of_same (lfreq_any g _ _ (h0n _))) | (go_at_call 13; with_reducible exact Calls.quiet_of_same (lrate_any g _ _ h0)) | (go_at_call 13; with_reducible exact quiet_add_same (lrate_any g _ _ (h0n _))) | (go_at_call 13; with_reducible exact Calls.quiet_of_same (lrate_any g _ _ (h0n _))) | (go_at_call 14; with_reducible exact Calls.quiet_of_same (lleft_any g _ _ h0)) | (go_at_call 14; with_reducible exact quiet_add_same (lleft_any g _ _ (h0n _))) | (go_at_call 14; with_reducible exact Calls.quiet_of_same (lleft_any g _ _ (h0n _))) | (go_at_call 15; with_reducible exact Calls.quiet_of_same (lups_any g _ _ h0)) | (go_at_call 15; with_reducible exact quiet_add_same (lups_any g _ _ (h0n _))) | (go_at_call 15; with_reducible exact Calls.quiet_of_same (lups_any g _ _ (h0n _))))))
                  refine (S.out _ h0).mono ?_
                  rintro e w2 ⟨rfl, a2, s2⟩
                  have a2n : ∀ n, LS.at (LS.mk f' r' o (u + 1)) (w2.drewN n) g := fun _ => a2
                  have y1 : w2.cell? ⟨wr.heap.size, 1, none⟩ = some (.int .i64 o) := s2.cell (BX.out.1.cell 1) hne
                  have y2 : w2.cell? ⟨wr.heap.size, 2, none⟩ = some (.int .i64 el) := s2.cell (BX.out.1.cell 2) hne
                  go_wp2_with (first | (go_at_call 10; (with_reducible refine (lfreq_any g _ _ a2).mono ?_); rintro e v9 ⟨rfl, rfl⟩) | (go_at_call 10; (with_reducible refine (lfreq_any g _ _ (a2n _)).mono ?_); rintro e v9 ⟨rfl, rfl⟩) | (go_at_call 13; (with_reducible refine (lrate_any g _ _ a2).mono ?_); rintro e v9 ⟨rfl, rfl⟩) | (go_at_call 13; (with_reducible refine (lrate_any g _ _ (a2n _)).mono ?_); rintro e v9 ⟨rfl, rfl⟩) | (go_at_call 14; (with_reducible refine (lleft_any g _ _ a2).mono ?_); rintro e v9 ⟨rfl, rfl⟩) | (go_at_call 14; (with_reducible refine (lleft_any g _ _ (a2n _)).mono ?_); rintro e v9 ⟨rfl, rfl⟩) | (go_at_call 15; (with_reducible refine (lups_any g _ _ a2).mono ?_); rintro e v9 ⟨rfl, rfl⟩) | (go_at_call 15; (with_reducible refine (lups_any g _ _ (a2n _)).mono ?_); rintro e v9 ⟨rfl, rfl⟩) | (go_quiet (first | (go_at_call 10; with_reducible exact Calls.quiet_of_same (lfreq_any g _ _ a2)) | (go_at_call 10; with_reducible exact quiet_add_same (lfreq_any g _ _ (a2n _))) | (go_at_call 10; with_reducible exact Calls.quiet_of_same (lfreq_any g _ _ (a2n _))) | (go_at_call 13; with_reducible exact Calls.quiet_of_same (lrate_any g _ _ a2)) | (go_at_call 13; with_reducible exact quiet_add_same (lrate_any g _ _ (a2n _))) | (go_at_call 13; with_reducible exact Calls.quiet_of_same (lrate_any g _ _ (a2n _))) | (go_at_call 14; with_reducible exact Calls.quiet_of_same (lleft_any g _ _ a2)) | (go_at_call 14; with_reducible exact quiet_add_same (lleft_any g _ _ (a2n _))) | (go_at_call 14; with_reducible exact Calls.quiet_of_same (lleft_any g _ _ (a2n _))) | (go_at_call 15; with_reducible exact Calls.quiet_of_same (lups_any g _ _ a2)) | (go_at_call 15; with_reducible exact quiet_add_same (lups_any g _ _ (a2n _))) | (go_at_call 15; with_reducible exact Calls.quiet_of_same (lups_any g _ _ (a2n _))))))
                  go_roundw
                  case rel => exact ⟨k + 1, ⟨f', r', o, u + 1⟩, by omega, by omega, by go_num, by constructor <;> simp only <;> omega, by simp only; omega, a2, by first | exact (BX.out.2.alloc _).far s2 (.inr hg) | exact ((BX.out.2.alloc _).far s2 (.inr hg)).drewN _⟩
                  case measure => simp [intOf]; omega
              · as_aux_lemma =>
                  have hd1 : (u == 0) = false := by simp; omega
                  have hd2 : decide (el < 1000000000) = true := decide_eq_true hel
                  go_wp2_with (first | (go_at_call 10; (with_reducible refine (lfreq_any g _ _ h0).mono ?_); rintro e v9 ⟨rfl, rfl⟩) | (go_at_call 10; (with_reducible refine (lfreq_any g _ _ (h0n _)).mono ?_); rintro e v9 ⟨rfl, rfl⟩) | (go_at_call 13; (with_reducible refine (lrate_any g _ _ h0).mono ?_); rintro e v9 ⟨rfl, rfl⟩) | (go_at_call 13; (with_reducible refine (lrate_any g _ _ (h0n _)).mono ?_); rintro e v9 ⟨rfl, rfl⟩) | (go_at_call 14; (with_reducible refine (lleft_any g _ _ h0).mono ?_); rintro e v9 ⟨rfl, rfl⟩) | (go_at_call 14; (with_reducible refine (lleft_any g _ _ (h0n _)).mono ?_); rintro e v9 ⟨rfl, rfl⟩) | (go_at_call 15; (with_reducible refine (lups_any g _ _ h0).mono ?_); rintro e v9 ⟨rfl, rfl⟩) | (go_at_call 15; (with_reducible refine (lups_any g _ _ (h0n _)).mono ?_); rintro e v9 ⟨rfl, rfl⟩) | (go_quiet (first | (go_at_call 10; with_reducible exact Calls.quiet_of_same (lfreq_any g _ _ h0)) | (go_at_call 10; with_reducible exact quiet_add_same (lfreq_any g _ _ (h0n _))) | (go_at_call 10; with_reducible exact Calls.quiet_of_same (lfreq_any g _ _ (h0n _))) | (go_at_call 13; with_reducible exact Calls.quiet_of_same (lrate_any g _ _ h0)) | (go_at_call 13; with_reducible exact quiet_add_same (lrate_any g _ _ (h0n _))) | (go_at_call 13; with_reducible exact Calls.quiet_of_same (lrate_any g _ _ (h0n _))) | (go_at_call 14; with_reducible exact Calls.quiet_of_same (lleft_any g _ _ h0)) | (go_at_call 14; with_reducible exact quiet_add_same (lleft_any g _ _ (h0n _))) | (go_at_call 14; with_reducible exact Calls.quiet_of_same (lleft_any g _ _ (h0n _))) | (go_at_call 15; with_reducible exact Calls.quiet_of_same (lups_any g _ _ h0)) | (go_at_call 15; with_reducible exact quiet_add_same (lups_any g _ _ (h0n _))) | (go_at_call 15; with_reducible exact Calls.quiet_of_same (lups_any g _ _ (h0n _))))))
                  refine (S.out _ h0).mono ?_
                  rintro e w2 ⟨rfl, a2, s2⟩
                  have a2n : ∀ n, LS.at (LS.mk r' r' o (u + 1)) (w2.drewN n) g := fun _ => a2
                  have y1 : w2.cell? ⟨wr.heap.size, 1, none⟩ = some (.int .i64 o) := s2.cell (BX.out.1.cell 1) hne
                  have y2 : w2.cell? ⟨wr.heap.size, 2, none⟩ = some (.int .i64 el) := s2.cell (BX.out.1.cell 2) hne
                  go_wp2_with (first | (go_at_call 10; (with_reducible refine (lfreq_any g _ _ a2).mono ?_); rintro e v9 ⟨rfl, rfl⟩) | (go_at_call 10; (with_reducible refine (lfreq_any g _ _ (a2n _)).mono ?_); rintro e v9 ⟨rfl, rfl⟩) | (go_at_call 13; (with_reducible refine (lrate_any g _ _ a2).mono ?_); rintro e v9 ⟨rfl, rfl⟩) | (go_at_call 13; (with_reducible refine (lrate_any g _ _ (a2n _)).mono ?_); rintro e v9 ⟨rfl, rfl⟩) | (go_at_call 14; (with_reducible refine (lleft_any g _ _ a2).mono ?_); rintro e v9 ⟨rfl, rfl⟩) | (go_at_call 14; (with_reducible refine (lleft_any g _ _ (a2n _)).mono ?_); rintro e v9 ⟨rfl, rfl⟩) | (go_at_call 15; (with_reducible refine (lups_any g _ _ a2).mono ?_); rintro e v9 ⟨rfl, rfl⟩) | (go_at_call 15; (with_reducible refine (lups_any g _ _ (a2n _)).mono ?_); rintro e v9 ⟨rfl, rfl⟩) | (go_quiet (first | (go_at_call 10; with_reducible exact Calls.quiet_of_same (lfreq_any g _ _ a2)) | (go_at_call 10; with_reducible exact quiet_add_same (lfreq_any g _ _ (a2n _))) | (go_at_call 10; with_reducible exact Calls.quiet_of_same (lfreq_any g _ _ (a2n _))) | (go_at_call 13; with_reducible exact Calls.quiet_of_same (lrate_any g _ _ a2)) | (go_at_call 13; with_reducible exact quiet_add_same (lrate_any g _ _ (a2n _))) | (go_at_call 13; with_reducible exact Calls.quiet_of_same (lrate_any g _ _ (a2n _))) | (go_at_call 14; with_reducible exact Calls.quiet_of_same (lleft_any g _ _ a2)) | (go_at_call 14; with_reducible exact quiet_add_same (lleft_any g _ _ (a2n _))) | (go_at_call 14; with_reducible exact Calls.quiet_of_same (lleft_any g _ _ (a2n _))) | (go_at_call 15; with_reducible exact Calls.quiet_of_same (lups_any g _ _ a2)) | (go_at_call 15; with_reducible exact quiet_add_same (lups_any g _ _ (a2n _))) | (go_at_call 15; with_reducible exact Calls.quiet_of_same (lups_any g _ _ (a2n _))))))
                  go_roundw
                  case rel => exact ⟨k + 1, ⟨r', r', o, u + 1⟩, by omega, by omega, by go_num, by constructor <;> simp only <;> omega, by simp only; omega, a2, by first | exact (BX.out.2.alloc _).far s2 (.inr hg) | exact ((BX.out.2.alloc _).far s2 (.inr hg)).drewN _⟩
                  case measure => simp [intOf]; omega
            · rcases hsg with ⟨g1, g2⟩ | ⟨g1, g2⟩ | rfl
              · as_aux_lemma =>
                  have hd1 : (u == 0) = false := by simp; omega
                  have hd2 : decide (el < 1000000000) = false := decide_eq_false (by omega)
                  obtain ⟨d, hdd⟩ : ∃ d, r' - f' = d := ⟨_, rfl⟩
                  rw [hdd] at g1
                  have b1 : -1000000 ≤ d := by omega
                  have b2 : d ≤ 1000000 := by omega
                  have e1 : decide (0 < d) = true := decide_eq_true g1
                  have e2 : decide (o ≤ 0) = false := decide_eq_false (by omega)
                  have e3 : decide (d < 0) = false := decide_eq_false (by omega)
                  go_wp2_with (first | (go_at_call 10; (with_reducible refine (lfreq_any g _ _ h0).mono ?_); rintro e v9 ⟨rfl, rfl⟩) | (go_at_call 10; (with_reducible refine (lfreq_any g _ _ (h0n _)).mono ?_); rintro e v9 ⟨rfl, rfl⟩) | (go_at_call 13; (with_reducible refine (lrate_any g _ _ h0).mono ?_); rintro e v9 ⟨rfl, rfl⟩) | (go_at_call 13; (with_reducible refine (lrate_any g _ _ (h0n _)).mono ?_); rintro e v9 ⟨rfl, rfl⟩) | (go_at_call 14; (with_reducible refine (lleft_any g _ _ h0).mono ?_); rintro e v9 ⟨rfl, rfl⟩) | (go_at_call 14; (with_reducible refine (lleft_any g _ _ (h0n _)).mono ?_); rintro e v9 ⟨rfl, rfl⟩) | (go_at_call 15; (with_reducible refine (lups_any g _ _ h0).mono ?_); rintro e v9 ⟨rfl, rfl⟩) | (go_at_call 15; (with_reducible refine (lups_any g _ _ (h0n _)).mono ?_); rintro e v9 ⟨rfl, rfl⟩) | (go_quiet (first | (go_at_call 10; with_reducible exact Calls.quiet_of_same (lfreq_any g _ _ h0)) | (go_at_call 10; with_reducible exact quiet_add_same (lfreq_any g _ _ (h0n _))) | (go_at_call 10; with_reducible exact Calls.quiet_of_same (lfreq_any g _ _ (h0n _))) | (go_at_call 13; with_reducible exact Calls.quiet_of_same (lrate_any g _ _ h0)) | (go_at_call 13; with_reducible exact quiet_add_same (lrate_any g _ _ (h0n _))) | (go_at_call 13; with_reducible exact Calls.quiet_of_same (lrate_any g _ _ (h0n _))) | (go_at_call 14; with_reducible exact Calls.quiet_of_same (lleft_any g _ _ h0)) | (go_at_call 14; with_reducible exact quiet_add_same (lleft_any g _ _ (h0n _))) | (go_at_call 14; with_reducible exact Calls.quiet_of_same (lleft_any g _ _ (h0n _))) | (go_at_call 15; with_reducible exact Calls.quiet_of_same (lups_any g _ _ h0)) | (go_at_call 15; with_reducible exact quiet_add_same (lups_any g _ _ (h0n _))) | (go_at_call 15; with_reducible exact Calls.quiet_of_same (lups_any g _ _ (h0n _))))))
                  refine (S.out _ h0).mono ?_
                  rintro e w2 ⟨rfl, a2, s2⟩
                  have a2n : ∀ n, LS.at (LS.mk f' r' o (u + 1)) (w2.drewN n) g := fun _ => a2
                  have y1 : w2.cell? ⟨wr.heap.size, 1, none⟩ = some (.int .i64 o) := s2.cell (BX.out.1.cell 1) hne
                  have y2 : w2.cell? ⟨wr.heap.size, 2, none⟩ = some (.int .i64 el) := s2.cell (BX.out.1.cell 2) hne
                  go_wp2_with (first | (go_at_call 10; (with_reducible refine (lfreq_any g _ _ a2).mono ?_); rintro e v9 ⟨rfl, rfl⟩) | (go_at_call 10; (with_reducible refine (lfreq_any g _ _ (a2n _)).mono ?_); rintro e v9 ⟨rfl, rfl⟩) | (go_at_call 13; (with_reducible refine (lrate_any g _ _ a2).mono ?_); rintro e v9 ⟨rfl, rfl⟩) | (go_at_call 13; (with_reducible refine (lrate_any g _ _ (a2n _)).mono ?_); rintro e v9 ⟨rfl, rfl⟩) | (go_at_call 14; (with_reducible refine (lleft_any g _ _ a2).mono ?_); rintro e v9 ⟨rfl, rfl⟩) | (go_at_call 14; (with_reducible refine (lleft_any g _ _ (a2n _)).mono ?_); rintro e v9 ⟨rfl, rfl⟩) | (go_at_call 15; (with_reducible refine (lups_any g _ _ a2).mono ?_); rintro e v9 ⟨rfl, rfl⟩) | (go_at_call 15; (with_reducible refine (lups_any g _ _ (a2n _)).mono ?_); rintro e v9 ⟨rfl, rfl⟩) | (go_quiet (first | (go_at_call 10; with_reducible exact Calls.quiet_of_same (lfreq_any g _ _ a2)) | (go_at_call 10; with_reducible exact quiet_add_same (lfreq_any g _ _ (a2n _))) | (go_at_call 10; with_reducible exact Calls.quiet_of_same (lfreq_any g _ _ (a2n _))) | (go_at_call 13; with_reducible exact Calls.quiet_of_same (lrate_any g _ _ a2)) | (go_at_call 13; with_reducible exact quiet_add_same (lrate_any g _ _ (a2n _))) | (go_at_call 13; with_reducible exact Calls.quiet_of_same (lrate_any g _ _ (a2n _))) | (go_at_call 14; with_reducible exact Calls.quiet_of_same (lleft_any g _ _ a2)) | (go_at_call 14; with_reducible exact quiet_add_same (lleft_any g _ _ (a2n _))) | (go_at_call 14; with_reducible exact Calls.quiet_of_same (lleft_any g _ _ (a2n _))) | (go_at_call 15; with_reducible exact Calls.quiet_of_same (lups_any g _ _ a2)) | (go_at_call 15; with_reducible exact quiet_add_same (lups_any g _ _ (a2n _))) | (go_at_call 15; with_reducible exact Calls.quiet_of_same (lups_any g _ _ (a2n _))))))
                  go_roundw
                  case rel => exact ⟨k + 1, ⟨f', r', o, u + 1⟩, by omega, by omega, by go_num, by constructor <;> simp only <;> omega, by simp only; omega, a2, by first | exact (BX.out.2.alloc _).far s2 (.inr hg) | exact ((BX.out.2.alloc _).far s2 (.inr hg)).drewN _⟩
                  case measure => simp [intOf]; omega
              · as_aux_lemma =>
                  have hd1 : (u == 0) = false := by simp; omega
                  have hd2 : decide (el < 1000000000) = false := decide_eq_false (by omega)
                  obtain ⟨d, hdd⟩ : ∃ d, r' - f' = d := ⟨_, rfl⟩
                  rw [hdd] at g1
                  have b1 : -1000000 ≤ d := by omega
                  have b2 : d ≤ 1000000 := by omega
                  have e1 : decide (0 < d) = false := decide_eq_false (by omega)
                  have e2 : decide (0 ≤ o) = false := decide_eq_false (by omega)
                  have e3 : decide (d < 0) = true := decide_eq_true g1
                  go_wp2_with (first | (go_at_call 10; (with_reducible refine (lfreq_any g _ _ h0).mono ?_); rintro e v9 ⟨rfl, rfl⟩) | (go_at_call 10; (with_reducible refine (lfreq_any g _ _ (h0n _)).mono ?_); rintro e v9 ⟨rfl, rfl⟩) | (go_at_call 13; (with_reducible refine (lrate_any g _ _ h0).mono ?_); rintro e v9 ⟨rfl, rfl⟩) | (go_at_call 13; (with_reducible refine (lrate_any g _ _ (h0n _)).mono ?_); rintro e v9 ⟨rfl, rfl⟩) | (go_at_call 14; (with_reducible refine (lleft_any g _ _ h0).mono ?_); rintro e v9 ⟨rfl, rfl⟩) | (go_at_call 14; (with_reducible refine (lleft_any g _ _ (h0n _)).mono ?_); rintro e v9 ⟨rfl, rfl⟩) | (go_at_call 15; (with_reducible refine (lups_any g _ _ h0).mono ?_); rintro e v9 ⟨rfl, rfl⟩) | (go_at_call 15; (with_reducible refine (lups_any g _ _ (h0n _)).mono ?_); rintro e v9 ⟨rfl, rfl⟩) | (go_quiet (first | (go_at_call 10; with_reducible exact Calls.quiet_of_same (lfreq_any g _ _ h0)) | (go_at_call 10; with_reducible exact quiet_add_same (lfreq_any g _ _ (h0n _))) | (go_at_call 10; with_reducible exact Calls.quiet_of_same (lfreq_any g _ _ (h0n _))) | (go_at_call 13; with_reducible exact Calls.quiet_of_same (lrate_any g _ _ h0)) | (go_at_call 13; with_reducible exact quiet_add_same (lrate_any g _ _ (h0n _))) | (go_at_call 13; with_reducible exact Calls.quiet_of_same (lrate_any g _ _ (h0n _))) | (go_at_call 14; with_reducible exact Calls.quiet_of_same (lleft_any g _ _ h0)) | (go_at_call 14; with_reducible exact quiet_add_same (lleft_any g _ _ (h0n _))) | (go_at_call 14; with_reducible exact Calls.quiet_of_same (lleft_any g _ _ (h0n _))) | (go_at_call 15; with_reducible exact Calls.quiet_of_same (lups_any g _ _ h0)) | (go_at_call 15; with_reducible exact quiet_add_same (lups_any g _ _ (h0n _))) | (go_at_call 15; with_reducible exact Calls.quiet_of_same (lups_any g _ _ (h0n _))))))
                  refine (S.out _ h0).mono ?_
                  rintro e w2 ⟨rfl, a2, s2⟩
                  have a2n : ∀ n, LS.at (LS.mk f' r' o (u + 1)) (w2.drewN n) g := fun _ => a2
                  have y1 : w2.cell? ⟨wr.heap.size, 1, none⟩ = some (.int .i64 o) := s2.cell (BX.out.1.cell 1) hne
                  have y2 : w2.cell? ⟨wr.heap.size, 2, none⟩ = some (.int .i64 el) := s2.cell (BX.out.1.cell 2) hne
                  go_wp2_with (first | (go_at_call 10; (with_reducible refine (lfreq_any g _ _ a2).mono ?_); rintro e v9 ⟨rfl, rfl⟩) | (go_at_call 10; (with_reducible refine (lfreq_any g _ _ (a2n _)).mono ?_); rintro e v9 ⟨rfl, rfl⟩) | (go_at_call 13; (with_reducible refine (lrate_any g _ _ a2).mono ?_); rintro e v9 ⟨rfl, rfl⟩) | (go_at_call 13; (with_reducible refine (lrate_any g _ _ (a2n _)).mono ?_); rintro e v9 ⟨rfl, rfl⟩) | (go_at_call 14; (with_reducible refine (lleft_any g _ _ a2).mono ?_); rintro e v9 ⟨rfl, rfl⟩) | (go_at_call 14; (with_reducible refine (lleft_any g _ _ (a2n _)).mono ?_); rintro e v9 ⟨rfl, rfl⟩) | (go_at_call 15; (with_reducible refine (lups_any g _ _ a2).mono ?_); rintro e v9 ⟨rfl, rfl⟩) | (go_at_call 15; (with_reducible refine (lups_any g _ _ (a2n _)).mono ?_); rintro e v9 ⟨rfl, rfl⟩) | (go_quiet (first | (go_at_call 10; with_reducible exact Calls.quiet_of_same (lfreq_any g _ _ a2)) | (go_at_call 10; with_reducible exact quiet_add_same (lfreq_any g _ _ (a2n _))) | (go_at_call 10; with_reducible exact Calls.quiet_of_same (lfreq_any g _ _ (a2n _))) | (go_at_call 13; with_reducible exact Calls.quiet_of_same (lrate_any g _ _ a2)) | (go_at_call 13; with_reducible exact quiet_add_same (lrate_any g _ _ (a2n _))) | (go_at_call 13; with_reducible exact Calls.quiet_of_same (lrate_any g _ _ (a2n _))) | (go_at_call 14; with_reducible exact Calls.quiet_of_same (lleft_any g _ _ a2)) | (go_at_call 14; with_reducible exact quiet_add_same (lleft_any g _ _ (a2n _))) | (go_at_call 14; with_reducible exact Calls.quiet_of_same (lleft_any g _ _ (a2n _))) | (go_at_call 15; with_reducible exact Calls.quiet_of_same (lups_any g _ _ a2)) | (go_at_call 15; with_reducible exact quiet_add_same (lups_any g _ _ (a2n _))) | (go_at_call 15; with_reducible exact Calls.quiet_of_same (lups_any g _ _ (a2n _))))))
                  go_roundw
                  case rel => exact ⟨k + 1, ⟨f', r', o, u + 1⟩, by omega, by omega, by go_num, by constructor <;> simp only <;> omega, by simp only; omega, a2, by first | exact (BX.out.2.alloc _).far s2 (.inr hg) | exact ((BX.out.2.alloc _).far s2 (.inr hg)).drewN _⟩
                  case measure => simp [intOf]; omega
              · as_aux_lemma =>
                  have hd1 : (u == 0) = false := by simp; omega
                  have hd2 : decide (el < 1000000000) = false := decide_eq_false (by omega)
                  go_wp2_with (first | (go_at_call 10; (with_reducible refine (lfreq_any g _ _ h0).mono ?_); rintro e v9 ⟨rfl, rfl⟩) | (go_at_call 10; (with_reducible refine (lfreq_any g _ _ (h0n _)).mono ?_); rintro e v9 ⟨rfl, rfl⟩) | (go_at_call 13; (with_reducible refine (lrate_any g _ _ h0).mono ?_); rintro e v9 ⟨rfl, rfl⟩) | (go_at_call 13; (with_reducible refine (lrate_any g _ _ (h0n _)).mono ?_); rintro e v9 ⟨rfl, rfl⟩) | (go_at_call 14; (with_reducible refine (lleft_any g _ _ h0).mono ?_); rintro e v9 ⟨rfl, rfl⟩) | (go_at_call 14; (with_reducible refine (lleft_any g _ _ (h0n _)).mono ?_); rintro e v9 ⟨rfl, rfl⟩) | (go_at_call 15; (with_reducible refine (lups_any g _ _ h0).mono ?_); rintro e v9 ⟨rfl, rfl⟩) | (go_at_call 15; (with_reducible refine (lups_any g _ _ (h0n _)).mono ?_); rintro e v9 ⟨rfl, rfl⟩) | (go_quiet (first | (go_at_call 10; with_reducible exact Calls.quiet_of_same (lfreq_any g _ _ h0)) | (go_at_call 10; with_reducible exact quiet_add_same (lfreq_any g _ _ (h0n _))) | (go_at_call 10; with_reducible exact Calls.quiet_of_same (lfreq_any g _ _ (h0n _))) | (go_at_call 13; with_reducible exact Calls.quiet_of_same (lrate_any g _ _ h0)) | (go_at_call 13; with_reducible exact quiet_add_same (lrate_any g _ _ (h0n _))) | (go_at_call 13; with_reducible exact Calls.quiet_of_same (lrate_any g _ _ (h0n _))) | (go_at_call 14; with_reducible exact Calls.quiet_of_same (lleft_any g _ _ h0)) | (go_at_call 14; with_reducible exact quiet_add_same (lleft_any g _ _ (h0n _))) | (go_at_call 14; with_reducible exact Calls.quiet_of_same (lleft_any g _ _ (h0n _))) | (go_at_call 15; with_reducible exact Calls.quiet_of_same (lups_any g _ _ h0)) | (go_at_call 15; with_reducible exact quiet_add_same (lups_any g _ _ (h0n _))) | (go_at_call 15; with_reducible exact Calls.quiet_of_same (lups_any g _ _ (h0n _))))))
                  refine (S.out _ h0).mono ?_
                  rintro e w2 ⟨rfl, a2, s2⟩
                  have a2n : ∀ n, LS.at (LS.mk r' r' o (u + 1)) (w2.drewN n) g := fun _ => a2
                  have y1 : w2.cell? ⟨wr.heap.size, 1, none⟩ = some (.int .i64 o) := s2.cell (BX.out.1.cell 1) hne
                  have y2 : w2.cell? ⟨wr.heap.size, 2, none⟩ = some (.int .i64 el) := s2.cell (BX.out.1.cell 2) hne
                  go_wp2_with (first | (go_at_call 10; (with_reducible refine (lfreq_any g _ _ a2).mono ?_); rintro e v9 ⟨rfl, rfl⟩) | (go_at_call 10; (with_reducible refine (lfreq_any g _ _ (a2n _)).mono ?_); rintro e v9 ⟨rfl, rfl⟩) | (go_at_call 13; (with_reducible refine (lrate_any g _ _ a2).mono ?_); rintro e v9 ⟨rfl, rfl⟩) | (go_at_call 13; (with_reducible refine (lrate_any g _ _ (a2n _)).mono ?_); rintro e v9 ⟨rfl, rfl⟩) | (go_at_call 14; (with_reducible refine (lleft_any g _ _ a2).mono ?_); rintro e v9 ⟨rfl, rfl⟩) | (go_at_call 14; (with_reducible refine (lleft_any g _ _ (a2n _)).mono ?_); rintro e v9 ⟨rfl, rfl⟩) | (go_at_call 15; (with_reducible refine (lups_any g _ _ a2).mono ?_); rintro e v9 ⟨rfl, rfl⟩) | (go_at_call 15; (with_reducible refine (lups_any g _ _ (a2n _)).mono ?_); rintro e v9 ⟨rfl, rfl⟩) | (go_quiet (first | (go_at_call 10; with_reducible exact Calls.quiet_of_same (lfreq_any g _ _ a2)) | (go_at_call 10; with_reducible exact quiet_add_same (lfreq_any g _ _ (a2n _))) | (go_at_call 10; with_reducible exact Calls.quiet_of_same (lfreq_any g _ _ (a2n _))) | (go_at_call 13; with_reducible exact Calls.quiet_of_same (lrate_any g _ _ a2)) | (go_at_call 13; with_reducible exact quiet_add_same (lrate_any g _ _ (a2n _))) | (go_at_call 13; with_reducible exact Calls.quiet_of_same (lrate_any g _ _ (a2n _))) | (go_at_call 14; with_reducible exact Calls.quiet_of_same (lleft_any g _ _ a2)) | (go_at_call 14; with_reducible exact quiet_add_same (lleft_any g _ _ (a2n _))) | (go_at_call 14; with_reducible exact Calls.quiet_of_same (lleft_any g _ _ (a2n _))) | (go_at_call 15; with_reducible exact Calls.quiet_of_same (lups_any g _ _ a2)) | (go_at_call 15; with_reducible exact quiet_add_same (lups_any g _ _ (a2n _))) | (go_at_call 15; with_reducible exact Calls.quiet_of_same (lups_any g _ _ (a2n _))))))
                  go_roundw
                  case rel => exact ⟨k + 1, ⟨r', r', o, u + 1⟩, by omega, by omega, by go_num, by constructor <;> simp only <;> omega, by simp only; omega, a2, by first | exact (BX.out.2.alloc _).far s2 (.inr hg) | exact ((BX.out.2.alloc _).far s2 (.inr hg)).drewN _⟩
                  case measure => simp [intOf]; omega
    · have hc : ¬ k < n ∨ k < n ∧ ¬ k < 80 := by omega
      clear hlt
      rcases hc with h | ⟨h, h2⟩
      all_goals
        go_wp2_with fail
        refine (alive_any _).mono ?_
        rintro e w2 ⟨rfl, s2⟩
        go_wp2_with fail
        go_ret
        exact ⟨rfl, ht.trans s2⟩
end Go.Proofs.Ytkohpeonnoegpaa
