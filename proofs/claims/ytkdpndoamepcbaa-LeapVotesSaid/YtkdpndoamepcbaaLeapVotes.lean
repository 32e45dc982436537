/- LeapVotes: what the votes say is what the document's own function says; for any votes. -/
import Derived.Test.YtkdpndoamepcbaaLeapG
namespace Go.Proofs.Ytkdpndoamepcbaa
open Go.RowKit
set_option linter.unusedVariables false
set_option linter.unusedSimpArgs false

theorem hbound (b : Int) (l : List Int) (n : Nat) (h : l.length = n) : 0 ≤ cntB b l ∧ cntB b l ≤ n := by
  have := cntB_bd b l
  rw [h] at this
  exact this
theorem cnt_round {l : List Int} {k : Nat} (hk : k < l.length) (b : Int) : cntB b (l.take (k + 1)) = if l[k] = b then cntB b (l.take k) + 1 else cntB b (l.take k) := by
  have := cntB_snoc b (l.take k) l[k]
  rw [← List.take_succ_eq_append_getElem hk] at this
  rw [this]
  split <;> omega
set_option maxHeartbeats 4000000 in
theorem rvote_any (A : Option Addr) (n c : Nat) (l : List Int) (w : World) (hr : RowIn w A n 1 (l.map (Value.int .u8)) []) (hl : l.length = n) (hn : n ≤ 1000000) (hb : ∀ x ∈ l, 0 ≤ x ∧ x ≤ 255) :
    Calls Try.prog 11 #[.slice A n c] w fun e w' => e = .returned (.tuple #[.int .u8 (voteS l).1, .bool (voteS l).2]) ∧ w' = w := by
  have P := Lib.hid (And.intro hr (And.intro hl hb))
  obtain ⟨r1, r2, hv⟩ : ∃ r1 r2, voteS l = (r1, r2) := ⟨_, _, rfl⟩
  rw [hv]
  have HV := Lib.hid hv
  clear hr hl hb hv
  go_enter Try.func11, Try.ntmps11
  go_wp2_with fail
  go_loop [4, 5] (fun va i => ∃ k : Nat, k ≤ n ∧ i = .int .i64 k ∧ va = .int .i64 (cntB 0 (l.take k) + cntB 1 (l.take k) + cntB 2 (l.take k))) (fun _ i => n - (intOf i).toNat)
  case atStart => exact ⟨0, Nat.zero_le _, rfl, rfl⟩
  case round =>
    obtain ⟨k, hk, rfl, rfl⟩ := hrel
    have c0 := cntB_bd 0 (l.take k)
    have c1 := cntB_bd 1 (l.take k)
    have c2 := cntB_bd 2 (l.take k)
    have htk : (l.take k).length ≤ 1000000 := by simp; omega
    by_cases hlt : k < n
    · obtain ⟨b, off, rfl, hbb, hbg, hcell⟩ := P.out.1.2 (by omega)
      have hkl : k < l.length := by have := P.out.2.1; omega
      have hc : w.cell? ⟨b, off + k, none⟩ = some (.int .u8 l[k]) := hcell k _ (by rw [List.getElem?_map, List.getElem?_eq_getElem hkl]; rfl)
      have hbk := P.out.2.2 l[k] (List.getElem_mem _)
      have s0 := cntB_snoc 0 (l.take k) l[k]
      have s1 := cntB_snoc 1 (l.take k) l[k]
      have s2 := cntB_snoc 2 (l.take k) l[k]
      rw [← List.take_succ_eq_append_getElem hkl] at s0 s1 s2
      generalize l[k] = x at *
      obtain ⟨q, hq⟩ : ∃ q, cntB 0 (l.take k) + cntB 1 (l.take k) + cntB 2 (l.take k) = q := ⟨_, rfl⟩
      rw [hq]
      have hs : cntB 0 (l.take (k + 1)) + cntB 1 (l.take (k + 1)) + cntB 2 (l.take (k + 1)) = if x < 3 then q + 1 else q := by
        rw [s0, s1, s2]
        (repeat' split) <;> omega
      have S := Lib.hid hs
      have qb : 0 ≤ q ∧ q ≤ 3000000 := by omega
      obtain ⟨qb0, qb1⟩ := qb
      clear s0 s1 s2 hcell hq hs hkl c0 c1 c2 htk
      obtain ⟨b0, b1⟩ := hbk
      by_cases h3 : x < 3
      · have S2 := Lib.hid (show cntB 0 (l.take (k + 1)) + cntB 1 (l.take (k + 1)) + cntB 2 (l.take (k + 1)) = q + 1 by rw [S.out, if_pos h3])
        go_wp2_with fail
        go_round
        case rel => exact ⟨k + 1, by omega, by go_num, by rw [S2.out]⟩
        case measure => simp [intOf]; omega
      · have S2 := Lib.hid (show cntB 0 (l.take (k + 1)) + cntB 1 (l.take (k + 1)) + cntB 2 (l.take (k + 1)) = q by rw [S.out, if_neg h3])
        go_wp2_with fail
        go_round
        case rel => exact ⟨k + 1, by omega, by go_num, by rw [S2.out]⟩
        case measure => simp [intOf]; omega
    · have hkn : k = n := by omega
      rw [List.take_of_length_le (by have := P.out.2.1; omega)] at *
      have hv := HV.out
      unfold voteS at hv
      clear HV
      have i0 := hbound 0 l n P.out.2.1
      have i1 := hbound 1 l n P.out.2.1
      have i2 := hbound 2 l n P.out.2.1
      generalize hQ0 : cntB 0 l = q0 at *
      generalize hQ1 : cntB 1 l = q1 at *
      generalize hQ2 : cntB 2 l = q2 at *
      have Q := Lib.hid (And.intro hQ0 (And.intro hQ1 hQ2))
      clear hQ0 hQ1 hQ2 hkn c0 c1 c2 htk
      obtain ⟨q00, q01⟩ := i0
      obtain ⟨q10, q11⟩ := i1
      obtain ⟨q20, q21⟩ := i2
      have m0 : q0 ≤ 1000000 := by omega
      have m1 : q1 ≤ 1000000 := by omega
      have m2 : q2 ≤ 1000000 := by omega
      clear q01 q11 q21
      go_wp2_with fail
      refine wp_loop_rounds 4 ?_
      rw [rounds_succ]
      go_wp2_with fail
      go_loop [7, 8] (fun va i => ∃ k : Nat, k ≤ n ∧ i = .int .i64 k ∧ va = .int .i64 (cntB 0 (l.take k))) (fun _ i => n - (intOf i).toNat)
      case atStart => exact ⟨0, Nat.zero_le _, rfl, rfl⟩
      case round =>
        obtain ⟨k0, hk0, rfl, rfl⟩ := hrel
        have cb := cntB_bd 0 (l.take k0)
        have htk : (l.take k0).length ≤ 1000000 := by simp; omega
        by_cases hlt0 : k0 < n
        · obtain ⟨b, off, rfl, hbb, hbg, hcell⟩ := P.out.1.2 (by omega)
          have hkl : k0 < l.length := by have := P.out.2.1; omega
          have hc : w.cell? ⟨b, off + k0, none⟩ = some (.int .u8 l[k0]) := hcell k0 _ (by rw [List.getElem?_map, List.getElem?_eq_getElem hkl]; rfl)
          have hbk := P.out.2.2 l[k0] (List.getElem_mem _)
          have hs := cnt_round hkl 0
          generalize l[k0] = x at *
          generalize cntB 0 (l.take k0) = q at *
          have S := Lib.hid hs
          obtain ⟨b0, b1⟩ := hbk
          have qb0 : 0 ≤ q := cb.1
          have qb1 : q ≤ 1000000 := by omega
          clear hcell hs hkl cb htk
          by_cases hx : x = 0
          · have S2 := Lib.hid (show cntB 0 (l.take (k0 + 1)) = q + 1 by rw [S.out, if_pos hx])
            subst hx
            go_wp2_with fail
            go_round
            case rel => exact ⟨k0 + 1, by omega, by go_num, by rw [S2.out]⟩
            case measure => simp [intOf]; omega
          · have S2 := Lib.hid (show cntB 0 (l.take (k0 + 1)) = q by rw [S.out, if_neg hx])
            have hx' : (x == 0) = false := by simpa using hx
            clear hx
            go_wp2_with fail
            go_round
            case rel => exact ⟨k0 + 1, by omega, by go_num, by rw [S2.out]⟩
            case measure => simp [intOf]; omega
        · have hkn0 : k0 = n := by omega
          rw [List.take_of_length_le (l := l) (by have := P.out.2.1; omega), Q.out.1] at *
          clear cb htk hkn0
          by_cases h0 : q0 + q1 + q2 < 2 * q0
          · rw [if_pos h0] at hv
            obtain ⟨rfl, rfl⟩ := Prod.mk.inj hv
            have h0' : q0 + q1 + q2 - q0 < q0 := by omega
            clear hv
            go_wp2_with fail
            go_ret2
            exact ⟨rfl, rfl⟩
          · rw [if_neg h0] at hv
            have h0' : ¬ q0 + q1 + q2 - q0 < q0 := by omega
            go_wp2_with fail
            rw [rounds_succ]
            go_wp2_with fail
            go_loop [7, 8] (fun va i => ∃ k : Nat, k ≤ n ∧ i = .int .i64 k ∧ va = .int .i64 (cntB 1 (l.take k))) (fun _ i => n - (intOf i).toNat)
            case atStart => exact ⟨0, Nat.zero_le _, rfl, rfl⟩
            case round =>
              obtain ⟨k1, hk1, rfl, rfl⟩ := hrel
              have cb := cntB_bd 1 (l.take k1)
              have htk : (l.take k1).length ≤ 1000000 := by simp; omega
              by_cases hlt1 : k1 < n
              · obtain ⟨b, off, rfl, hbb, hbg, hcell⟩ := P.out.1.2 (by omega)
                have hkl : k1 < l.length := by have := P.out.2.1; omega
                have hc : w.cell? ⟨b, off + k1, none⟩ = some (.int .u8 l[k1]) := hcell k1 _ (by rw [List.getElem?_map, List.getElem?_eq_getElem hkl]; rfl)
                have hbk := P.out.2.2 l[k1] (List.getElem_mem _)
                have hs := cnt_round hkl 1
                generalize l[k1] = x at *
                generalize cntB 1 (l.take k1) = q at *
                have S := Lib.hid hs
                obtain ⟨b0, b1⟩ := hbk
                have qb0 : 0 ≤ q := cb.1
                have qb1 : q ≤ 1000000 := by omega
                clear hcell hs hkl cb htk
                by_cases hx : x = 1
                · have S2 := Lib.hid (show cntB 1 (l.take (k1 + 1)) = q + 1 by rw [S.out, if_pos hx])
                  subst hx
                  go_wp2_with fail
                  go_round
                  case rel => exact ⟨k1 + 1, by omega, by go_num, by rw [S2.out]⟩
                  case measure => simp [intOf]; omega
                · have S2 := Lib.hid (show cntB 1 (l.take (k1 + 1)) = q by rw [S.out, if_neg hx])
                  have hx' : (x == 1) = false := by simpa using hx
                  clear hx
                  go_wp2_with fail
                  go_round
                  case rel => exact ⟨k1 + 1, by omega, by go_num, by rw [S2.out]⟩
                  case measure => simp [intOf]; omega
              · have hkn1 : k1 = n := by omega
                rw [List.take_of_length_le (l := l) (by have := P.out.2.1; omega), Q.out.2.1] at *
                clear cb htk hkn1
                by_cases h1 : q0 + q1 + q2 < 2 * q1
                · rw [if_pos h1] at hv
                  obtain ⟨rfl, rfl⟩ := Prod.mk.inj hv
                  have h1' : q0 + q1 + q2 - q1 < q1 := by omega
                  clear hv
                  go_wp2_with fail
                  go_ret2
                  exact ⟨rfl, rfl⟩
                · rw [if_neg h1] at hv
                  have h1' : ¬ q0 + q1 + q2 - q1 < q1 := by omega
                  go_wp2_with fail
                  rw [rounds_succ]
                  go_wp2_with fail
                  go_loop [7, 8] (fun va i => ∃ k : Nat, k ≤ n ∧ i = .int .i64 k ∧ va = .int .i64 (cntB 2 (l.take k))) (fun _ i => n - (intOf i).toNat)
                  case atStart => exact ⟨0, Nat.zero_le _, rfl, rfl⟩
                  case round =>
                    obtain ⟨k2, hk2, rfl, rfl⟩ := hrel
                    have cb := cntB_bd 2 (l.take k2)
                    have htk : (l.take k2).length ≤ 1000000 := by simp; omega
                    by_cases hlt2 : k2 < n
                    · obtain ⟨b, off, rfl, hbb, hbg, hcell⟩ := P.out.1.2 (by omega)
                      have hkl : k2 < l.length := by have := P.out.2.1; omega
                      have hc : w.cell? ⟨b, off + k2, none⟩ = some (.int .u8 l[k2]) := hcell k2 _ (by rw [List.getElem?_map, List.getElem?_eq_getElem hkl]; rfl)
                      have hbk := P.out.2.2 l[k2] (List.getElem_mem _)
                      have hs := cnt_round hkl 2
                      generalize l[k2] = x at *
                      generalize cntB 2 (l.take k2) = q at *
                      have S := Lib.hid hs
                      obtain ⟨b0, b1⟩ := hbk
                      have qb0 : 0 ≤ q := cb.1
                      have qb1 : q ≤ 1000000 := by omega
                      clear hcell hs hkl cb htk
                      by_cases hx : x = 2
                      · have S2 := Lib.hid (show cntB 2 (l.take (k2 + 1)) = q + 1 by rw [S.out, if_pos hx])
                        subst hx
                        go_wp2_with fail
                        go_round
                        case rel => exact ⟨k2 + 1, by omega, by go_num, by rw [S2.out]⟩
                        case measure => simp [intOf]; omega
                      · have S2 := Lib.hid (show cntB 2 (l.take (k2 + 1)) = q by rw [S.out, if_neg hx])
                        have hx' : (x == 2) = false := by simpa using hx
                        clear hx
                        go_wp2_with fail
                        go_round
                        case rel => exact ⟨k2 + 1, by omega, by go_num, by rw [S2.out]⟩
                        case measure => simp [intOf]; omega
                    · have hkn2 : k2 = n := by omega
                      rw [List.take_of_length_le (l := l) (by have := P.out.2.1; omega), Q.out.2.2] at *
                      clear cb htk hkn2
                      by_cases h2 : q0 + q1 + q2 < 2 * q2
                      · rw [if_pos h2] at hv
                        obtain ⟨rfl, rfl⟩ := Prod.mk.inj hv
                        have h2' : q0 + q1 + q2 - q2 < q2 := by omega
                        clear hv
                        go_wp2_with fail
                        go_ret2
                        exact ⟨rfl, rfl⟩
                      · rw [if_neg h2] at hv
                        obtain ⟨rfl, rfl⟩ := Prod.mk.inj hv
                        have h2' : ¬ q0 + q1 + q2 - q2 < q2 := by omega
                        clear hv
                        go_wp2_with fail
                        rw [rounds_succ]
                        go_wp2_with fail
                        go_ret2
                        exact ⟨rfl, rfl⟩

theorem row_take {w : World} {A : Option Addr} {n m : Nat} {xs : List Value} {G : List Nat} (h : RowIn w A n 1 xs G) (hm : m ≤ n) : RowIn w A m 1 (xs.take m) G := by
  refine ⟨by have := h.1; simp; omega, fun hn => ?_⟩
  obtain ⟨b, off, e, hb, hg, hc⟩ := h.2 (by omega)
  exact ⟨b, off, e, hb, hg, fun j u hu => hc j u (by
    rw [List.getElem?_take] at hu
    split at hu
    · exact hu
    · cases hu)⟩
theorem RowIn.of_reads0 {w : World} {size n : Nat} {A : Option Addr} {xs : List Value} (h : Reads w w.heap.size size A n xs) (hs : 0 < size) : RowIn w A n size xs [] := RowIn.of_reads h (Nat.le_refl _) (by simp) hs

set_option maxHeartbeats 1000000 in
theorem leapVotes_walk (A : Option Addr) (n c : Nat) (l : List Int) (w : World) (hcap : n ≤ c ∧ c ≤ maxLen) (hr : Reads w w.heap.size 1 A n (l.map (Value.int .u8))) (hl : l.length = n) (hn : n * 1 ≤ 140737488351232) (hb : ∀ x ∈ l, 0 ≤ x ∧ x ≤ 255) :
    Calls Try.prog 3 #[.slice A n c] w fun e w' => e = .returned (.bool true) ∧ Stp [] w w' := by
  obtain ⟨m, hm⟩ : ∃ m, min n 100 = m := ⟨_, rfl⟩
  have hmn : m ≤ n := by omega
  have hm100 : m ≤ 100 := by omega
  have hrow := row_take (RowIn.of_reads0 hr (by decide)) hmn
  rw [← List.map_take] at hrow
  have hlen : (l.take m).length = m := by simp; omega
  have hb2 : ∀ x ∈ l.take m, 0 ≤ x ∧ x ≤ 255 := fun x hx => hb x (List.mem_of_mem_take hx)
  have v1 := fun w h => vote_any A m c (l.take m) w h hlen (by omega) hb2
  have v2 := fun w h => rvote_any A m c (l.take m) w h hlen (by omega) hb2
  generalize voteS (l.take m) = v at *
  obtain ⟨va, vb⟩ := v
  have P := Lib.hid (And.intro v1 (And.intro v2 hrow))
  obtain ⟨hc1, hc2⟩ := hcap
  unfold maxLen at hc2
  have hmi : min (n : Int) 100 = (m : Int) := by omega
  have m0 : (0 : Int) ≤ (m : Int) := by omega
  have m1 : (m : Int) ≤ (c : Int) := by omega
  clear v1 v2 hrow hlen hb2 hr hl hb hm
  go_enter Try.func3, Try.ntmps3
  go_wp2_with fail
  refine (P.out.1 _ P.out.2.2).mono ?_
  rintro e w1 ⟨rfl, s1⟩
  go_wp2_with fail
  refine (P.out.2.1 _ (P.out.2.2.stp s1)).mono ?_
  rintro e w2 ⟨rfl, rfl⟩
  go_wp2_with fail
  refine (alive_any _).mono ?_
  rintro e w3 ⟨rfl, s3⟩
  go_wp2_with fail
  go_ret
  exact ⟨rfl, s1.trans s3⟩
end Go.Proofs.Ytkdpndoamepcbaa
