/- smear: what the document's own functions answer: one leap, all of them, the smeared time. -/
import Derived.Test.YtbjjfjgomkmdhaaSmearD
namespace Go.Proofs.Ytbjjfjgomkmdhaa
open Go.RowKit
set_option linter.unusedVariables false
set_option linter.unusedSimpArgs false

theorem rnear_any (t : Int) (w : World) : Calls Try.prog 33 #[.int .i64 t] w fun e w' => e = .returned (.int .i64 (instS t)) ∧ w' = w := by
  unfold instS clampS
  by_cases h1 : t < 0
  · rw [if_pos h1]
    go_enter Try.func33, Try.ntmps33
    go_wp2
    go_ret
    exact ⟨rfl, rfl⟩
  · rw [if_neg h1]
    by_cases h2 : t > 4611686018427387904
    · rw [if_pos h2]
      go_enter Try.func33, Try.ntmps33
      go_wp2
      go_ret
      exact ⟨rfl, rfl⟩
    · rw [if_neg h2]
      go_enter Try.func33, Try.ntmps33
      go_wp2
      go_ret
      exact ⟨rfl, rfl⟩
theorem rone_any (a k t : Int) (w : World) (ht : 0 ≤ t ∧ t ≤ 4611686018427387904) (ha : 86400000000000 ≤ a ∧ a ≤ 4611686018427387904) (hk : k = 1 ∨ k = -1) :
    Calls Try.prog 34 #[.agg #[.int .i64 a, .int .i64 k], .int .i64 t] w fun e w' => e = .returned (.int .i64 (oneS t (a, k))) ∧ Stp [] w w' := by
  have e0 : oneS t (a, k) = goneS t a / 86400 * k := rfl
  rw [e0, goneS_mm]
  obtain ⟨t0, t1⟩ := ht
  obtain ⟨a0, a1⟩ := ha
  clear e0
  by_cases h1 : t ≤ a - 43200000000000
  · have e : max 0 (min (t - (a - 43200000000000)) 86400000000000) / 86400 * k = 0 := by
      have : max 0 (min (t - (a - 43200000000000)) 86400000000000) = 0 := by omega
      rw [this]
      simp
    rw [e]
    clear e
    go_enter Try.func34, Try.ntmps34
    go_wp2
    go_ret
    exact ⟨rfl, (Stp.refl _ _).alloc _⟩
  · by_cases h2 : t < a + 43200000000000
    · obtain ⟨y, hy⟩ : ∃ y, t - (a - 43200000000000) = y := ⟨_, rfl⟩
      have y0 : 0 ≤ y := by omega
      have y1 : y ≤ 86400000000000 := by omega
      have e : max 0 (min (t - (a - 43200000000000)) 86400000000000) = y := by omega
      rw [e]
      clear e
      rcases hk with rfl | rfl
      · rw [Int.mul_one]
        go_enter Try.func34, Try.ntmps34
        go_wp2
        go_ret
        exact ⟨rfl, (Stp.refl _ _).alloc _⟩
      · rw [show y / 86400 * -1 = -(y / 86400) by omega]
        go_enter Try.func34, Try.ntmps34
        go_wp2
        go_ret
        exact ⟨rfl, (Stp.refl _ _).alloc _⟩
    · have e : max 0 (min (t - (a - 43200000000000)) 86400000000000) = 86400000000000 := by omega
      rw [e]
      clear e
      rcases hk with rfl | rfl
      · go_enter Try.func34, Try.ntmps34
        go_wp2
        go_ret
        exact ⟨rfl, (Stp.refl _ _).alloc _⟩
      · go_enter Try.func34, Try.ntmps34
        go_wp2
        go_ret
        exact ⟨rfl, (Stp.refl _ _).alloc _⟩

set_option maxHeartbeats 2000000 in
theorem rtaken_any (A : Option Addr) (n c : Nat) (L : List (Int × Int)) (t : Int) (w : World) (h : RowIn w A n 2 (pcells L) []) (hl : L.length = n) (ok : LOk L) :
    Calls Try.prog 21 #[.slice A n c, .int .i64 t] w fun e w' => e = .returned (.int .i64 (takenS (instS t) L)) ∧ Stp [] w w' := by
  have n1 := fun w => rnear_any t w
  have ib := instS_bd t
  generalize instS t = u at *
  have P := Lib.hid (And.intro h (And.intro hl (And.intro ok n1)))
  have hn : n ≤ 32 := by have := ok.len; omega
  clear h hl ok n1
  go_enter Try.func21, Try.ntmps21
  go_wp2_with fail
  go_loopw [5, 6] (fun v i wr => ∃ k : Nat, k ≤ n ∧ i = .int .i64 k ∧ v = .int .i64 (takenS u (L.take k)) ∧ Stp [] w wr) (fun _ i _ => n - (intOf i).toNat)
  case atStart => exact ⟨0, Nat.zero_le _, rfl, rfl, Stp.refl _ _⟩
  case round =>
    obtain ⟨k, hk, rfl, rfl, ht⟩ := hrel
    by_cases hlt : k < n
    · obtain ⟨b, off, rfl, hbb, hbg, hcell⟩ := (P.out.1.stp ht).2 (by omega)
      have hkl : k < L.length := by rw [P.out.2.1]; exact hlt
      have hx := pcells_get L k hkl
      have hc1 : wr.cell? ⟨b, off + k * 2, none⟩ = some (.int .i64 L[k].1) := hcell _ _ hx.1
      have hc2 : wr.cell? ⟨b, off + k * 2 + 1, none⟩ = some (.int .i64 L[k].2) := hcell _ _ hx.2
      have hbk := P.out.2.2.1.each L[k] (List.getElem_mem _)
      have hs := taken_take (t := u) hkl
      have tb := takenS_bd u (L := L.take k) (fun x hx => (P.out.2.2.1.each x (List.mem_of_mem_take hx)).2.2)
      have htk : (L.take k).length ≤ 32 := by simp; omega
      have ob := oneS_bd u hbk.2.2
      have o1 := fun w => rone_any L[k].1 L[k].2 u w ib ⟨hbk.1, hbk.2.1⟩ hbk.2.2
      have eL : ((L[k].1, L[k].2) : Int × Int) = L[k] := rfl
      rw [eL] at o1
      clear hx hcell eL
      generalize L[k] = y at *
      generalize oneS u y = q3 at *
      obtain ⟨y1, y2⟩ := y
      simp only at hc1 hc2 o1
      generalize takenS u (L.take k) = q2 at *
      have S := Lib.hid (And.intro hs o1)
      obtain ⟨o0, o1'⟩ := ob
      have q20 : -32000000000 ≤ q2 := by omega
      have q21 : q2 ≤ 32000000000 := by omega
      have T := Lib.hid ht
      have k0 : (0 : Int) ≤ (k : Int) := by omega
      have k1 : (k : Int) < (n : Int) := by omega
      have w1' : IntKind.i64.wrap (q2 + q3) = q2 + q3 := IntWalk.i64_in _ (by omega)
      clear hs tb htk hbk o1
      go_wp2_with fail
      go_region_held3 (fun w' => w'.cell? ⟨b, off + k * 2, none⟩ = some (.int .i64 y1) ∧ w'.cell? ⟨b, off + k * 2 + 1, none⟩ = some (.int .i64 y2)) (first | exact ⟨hc1, hc2⟩ | go_keep | (go_split_ands; refine ⟨s9.cell ?_ (by simp), s9.cell ?_ (by simp)⟩ <;> assumption))
        ((first | (go_at_call 33; (with_reducible refine (P.out.2.2.2 _).mono ?_); rintro e w9 ⟨rfl, rfl⟩) | (go_at_call 34; (with_reducible refine (S.out.2 _).mono ?_); rintro e w9 ⟨rfl, s9⟩)))
      have T9 := Lib.hid (show Stp [] wr w9 by first | exact s9 | exact ⟨s9.os, s9.tape, s9.output, s9.size, s9.block⟩)
      go_wp2_with fail
      go_roundw
      case rel => exact ⟨k + 1, by omega, by go_num, by rw [S.out.1], T.out.trans T9.out⟩
      case measure => simp [intOf]; omega
    · obtain rfl : k = n := by omega
      have e : L.take k = L := List.take_of_length_le (by have := P.out.2.1; omega)
      rw [e]
      go_wp2
      go_ret
      exact ⟨rfl, ht⟩

theorem rto_any (A : Option Addr) (n c : Nat) (L : List (Int × Int)) (t : Int) (w : World) (h : RowIn w A n 2 (pcells L) []) (hl : L.length = n) (ok : LOk L) :
    Calls Try.prog 20 #[.slice A n c, .int .i64 t] w fun e w' => e = .returned (.int .i64 (toS L t)) ∧ Stp [] w w' := by
  have n1 := fun w => rnear_any t w
  have k1 := fun w h => rtaken_any A n c L t w h hl ok
  have eT : toS L t = instS t - takenS (instS t) L := rfl
  rw [eT]
  have ib := instS_bd t
  have tb := takenS_bd (instS t) (L := L) (fun x hx => (ok.each x hx).2.2)
  have hl32 := ok.len
  generalize takenS (instS t) L = s at *
  generalize instS t = u at *
  have P := Lib.hid (And.intro n1 (And.intro k1 h))
  obtain ⟨u0, u1⟩ := ib
  have s0 : -32000000000 ≤ s := by omega
  have s1 : s ≤ 32000000000 := by omega
  clear n1 k1 h eT tb hl32 ok
  go_enter Try.func20, Try.ntmps20
  go_wp2_with fail
  refine (P.out.1 _).mono ?_
  rintro e w1 ⟨rfl, rfl⟩
  go_wp2_with fail
  refine (P.out.2.1 _ P.out.2.2).mono ?_
  rintro e w1 ⟨rfl, h1⟩
  go_wp2_with fail
  go_ret
  exact ⟨rfl, h1⟩
end Go.Proofs.Ytbjjfjgomkmdhaa
