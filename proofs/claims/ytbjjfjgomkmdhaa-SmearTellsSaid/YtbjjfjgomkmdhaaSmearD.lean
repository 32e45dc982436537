/- smear: To, Within. -/
import Derived.Test.YtbjjfjgomkmdhaaSmearC
namespace Go.Proofs.Ytbjjfjgomkmdhaa
open Go.RowKit
set_option linter.unusedVariables false
set_option linter.unusedSimpArgs false

theorem to_any (g : Nat) (L : List (Int × Int)) (t : Int) (w : World) (h : tabAt L w g) (ok : LOk L) :
    Calls Try.prog 12 #[.pointer (some ⟨g, 0, none⟩), .int .i64 t] w fun e w' => e = .returned (.int .i64 (toS L t)) ∧ Stp [] w w' := by
  have i1 := fun w => inst_any t w
  have t1 := fun w h => taken_any g L (instS t) w h ok
  rw [instS_inst] at t1
  have eT : toS L t = instS t - takenS (instS t) L := rfl
  rw [eT]
  have ib := instS_bd t
  have tb := takenS_bd (instS t) (L := L) (fun x hx => (ok.each x hx).2.2)
  have hl := ok.len
  generalize takenS (instS t) L = s at *
  generalize instS t = u at *
  have P := Lib.hid (And.intro i1 (And.intro t1 h))
  obtain ⟨u0, u1⟩ := ib
  have s0 : -32000000000 ≤ s := by omega
  have s1 : s ≤ 32000000000 := by omega
  clear i1 t1 h eT tb hl ok
  go_enter Try.func12, Try.ntmps12
  go_wp2_with fail
  refine (P.out.1 _).mono ?_
  rintro e w1 ⟨rfl, rfl⟩
  go_wp2_with fail
  refine (P.out.2.1 _ P.out.2.2).mono ?_
  rintro e w1 ⟨rfl, h1⟩
  go_wp2_with fail
  go_ret
  exact ⟨rfl, h1⟩

/-- The walk of IndexFunc with Within's test. -/
theorem within_test (b1 : Nat) (t a k : Int) (w : World) (hb : w.cell? ⟨b1, 0, none⟩ = some (.int .i64 t)) (hb1 : b1 < w.heap.size) (ha : 86400000000000 ≤ a ∧ a ≤ 4611686018427387904) :
    Calls Try.prog 28 #[.agg #[.int .i64 a, .int .i64 k], .pointer (some ⟨b1, 0, none⟩)] w fun e w' => e = .returned (.bool (inS t (a, k))) ∧ Stp [] w w' := by
  have e : inS t (a, k) = decide (a - 43200000000000 ≤ t ∧ t < a + 43200000000000) := rfl
  rw [e]
  obtain ⟨a0, a1⟩ := ha
  have x1 : IntKind.i64.wrap (a - 43200000000000) = a - 43200000000000 := IntWalk.i64_in _ (by omega)
  have x2 : IntKind.i64.wrap (a + 43200000000000) = a + 43200000000000 := IntWalk.i64_in _ (by omega)
  clear e
  by_cases h1 : a - 43200000000000 ≤ t
  · by_cases h2 : t < a + 43200000000000
    · have hd : decide (a - 43200000000000 ≤ t ∧ t < a + 43200000000000) = true := by simp [h1, h2]
      have hd1 : decide (a - 43200000000000 ≤ t) = true := decide_eq_true h1
      have hd2 : decide (t < a + 43200000000000) = true := decide_eq_true h2
      rw [hd]
      clear hd
      go_enter Try.func28, Try.ntmps28
      go_wp2_with (go_quiet (fail))
      go_ret
      exact ⟨rfl, (Stp.refl _ _).alloc _⟩
    · have hd : decide (a - 43200000000000 ≤ t ∧ t < a + 43200000000000) = false := by simp [h1, h2]
      have hd1 : decide (a - 43200000000000 ≤ t) = true := decide_eq_true h1
      have hd2 : decide (t < a + 43200000000000) = false := decide_eq_false h2
      rw [hd]
      clear hd
      go_enter Try.func28, Try.ntmps28
      go_wp2_with (go_quiet (fail))
      go_ret
      exact ⟨rfl, (Stp.refl _ _).alloc _⟩
  · have hd : decide (a - 43200000000000 ≤ t ∧ t < a + 43200000000000) = false := by simp [h1]
    have hd1 : decide (a - 43200000000000 ≤ t) = false := decide_eq_false h1
    rw [hd]
    clear hd
    go_enter Try.func28, Try.ntmps28
    go_wp2_with (go_quiet (fail))
    go_ret
    exact ⟨rfl, (Stp.refl _ _).alloc _⟩

set_option maxHeartbeats 1000000 in
theorem idx_within (b1 : Nat) (t : Int) (A : Option Addr) (n c : Nat) (L : List (Int × Int)) (w : World) (h : RowIn w A n 2 (pcells L) []) (hl : L.length = n) (ok : LOk L) (hb : w.cell? ⟨b1, 0, none⟩ = some (.int .i64 t)) (hb1 : b1 < w.heap.size) :
    Calls Try.prog 27 #[.slice A n c, .func (.func 28) #[] #[.pointer (some ⟨b1, 0, none⟩)]] w fun e w' => e = .returned (.int .i64 (idxS (inS t) L)) ∧ Stp [] w w' := by
  have t1 := fun a k w hb hb1 ha => within_test b1 t a k w hb hb1 ha
  have hn := ok.len
  obtain ⟨r, hr⟩ : ∃ r, idxS (inS t) L = r := ⟨_, rfl⟩
  rw [hr]
  have P := Lib.hid (And.intro h (And.intro hl (And.intro ok (And.intro hb (And.intro t1 hr)))))
  clear h ok hb t1 hr
  have hn1 : n ≤ 32 := by omega
  clear hn hl
  go_enter Try.func27, Try.ntmps27
  go_wp2_with fail
  go_loopw [8] (fun i wr => ∃ k : Nat, k ≤ n ∧ i = .int .i64 k ∧ (∀ j (hj : j < k) (hj2 : j < L.length), inS t L[j] = false) ∧ Stp [] w wr) (fun i _ => n - (intOf i).toNat)
  case atStart => exact ⟨0, Nat.zero_le _, rfl, fun j hj => absurd hj (by omega), Stp.refl _ _⟩
  case round =>
    obtain ⟨k, hk, rfl, hno, ht⟩ := hrel
    have NO := Lib.hid hno
    clear hno
    by_cases hlt : k < n
    · obtain ⟨b, off, rfl, hbb, hbg, hcell⟩ := (P.out.1.stp ht).2 (by omega)
      have hkl : k < L.length := by rw [P.out.2.1]; exact hlt
      have hx := pcells_get L k hkl
      have hc1 : wr.cell? ⟨b, off + k * 2, none⟩ = some (.int .i64 L[k].1) := hcell _ _ hx.1
      have hc2 : wr.cell? ⟨b, off + k * 2 + 1, none⟩ = some (.int .i64 L[k].2) := hcell _ _ hx.2
      have hbk := P.out.2.2.1.each L[k] (List.getElem_mem _)
      have c1 := P.out.2.2.2.2.1 L[k].1 L[k].2 wr (ht.cell P.out.2.2.2.1 (by simp)) (Nat.lt_of_lt_of_le hb1 ht.size) ⟨hbk.1, hbk.2.1⟩
      have ek : ((L[k].1, L[k].2) : Int × Int) = L[k] := rfl
      rw [ek] at c1
      clear hx hcell ek
      cases hq : inS t L[k] with
      | true =>
        have hr : (k : Int) = r := by rw [← P.out.2.2.2.2.2]; exact (idxS_some hkl (fun j hj => NO.out j hj (by omega)) hq).symm
        rw [hq] at c1
        have C := Lib.hid c1
        have HR := Lib.hid hr
        clear c1 hr hq hbk
        generalize L[k] = y at *
        obtain ⟨y1, y2⟩ := y
        simp only at hc1 hc2
        go_wp2_with fail
        refine C.out.mono ?_
        rintro e w1 ⟨rfl, s1⟩
        go_wp2_with fail
        go_ret
        exact ⟨ret_int HR.out, ht.trans s1⟩
      | false =>
        have hno2 : ∀ j (hj : j < k + 1) (hj2 : j < L.length), inS t L[j] = false := fun j hj hj2 => by
          rcases Nat.lt_or_ge j k with h1 | h1
          · exact NO.out j h1 hj2
          · obtain rfl : j = k := by omega
            exact hq
        rw [hq] at c1
        have C := Lib.hid c1
        have N2 := Lib.hid hno2
        clear c1 hno2 hq hbk
        generalize L[k] = y at *
        obtain ⟨y1, y2⟩ := y
        simp only at hc1 hc2
        go_wp2_with fail
        refine C.out.mono ?_
        rintro e w1 ⟨rfl, s1⟩
        go_wp2_with fail
        go_roundw
        case rel => exact ⟨k + 1, by omega, by go_num, N2.out, ht.trans s1⟩
        case measure => simp [intOf]; omega
    · have hr : (-1 : Int) = r := by
        rw [← P.out.2.2.2.2.2]
        refine (idxS_none fun x hx => ?_).symm
        obtain ⟨j, hj, rfl⟩ := List.getElem_of_mem hx
        exact NO.out j (by have := P.out.2.1; omega) hj
      have HR := Lib.hid hr
      clear hr
      go_wp2
      go_ret
      exact ⟨ret_int HR.out, ht⟩

def withinS (L : List (Int × Int)) (t : Int) : Int := idxS (inS (instS t)) L
theorem within_any (g : Nat) (L : List (Int × Int)) (t : Int) (w : World) (h : tabAt L w g) (ok : LOk L) :
    Calls Try.prog 13 #[.pointer (some ⟨g, 0, none⟩), .int .i64 t] w fun e w' => e = .returned (.tuple #[.int .i64 (max (withinS L t) 0), .bool (decide (0 ≤ withinS L t))]) ∧ Stp [] w w' := by
  have i1 := fun w => inst_any t w
  have eW : withinS L t = idxS (inS (instS t)) L := rfl
  rw [eW]
  have bd := idxS_bd (inS (instS t)) L
  have bl := idxS_lt (inS (instS t)) L
  have x1 := fun b1 A c w h hb hb1 => idx_within b1 (instS t) A L.length c L w h rfl ok hb hb1
  generalize idxS (inS (instS t)) L = r at *
  generalize instS t = u at *
  have l1 := fun w h => list_any g L w h ok.len
  have hl := ok.len
  have P := Lib.hid (And.intro i1 (And.intro l1 (And.intro h x1)))
  have hg := h.lt
  clear i1 l1 h x1 eW ok
  have r0 : -1 ≤ r := bd
  have r1 : r < 32 := by omega
  clear bd bl hl
  go_enter Try.func13, Try.ntmps13
  go_wp2_with fail
  refine (P.out.1 _).mono ?_
  rintro e w1 ⟨rfl, rfl⟩
  go_wp2_with fail
  refine (P.out.2.1 _ (by repeat (first | exact P.out.2.2.1 | apply tabAt.alloc))).mono ?_
  rintro e w2 ⟨v, rfl, hown, s2⟩
  obtain ⟨A2, c2, rfl, k1, k2, hrow⟩ := own_form (G := []) hown (by simp)
  have bt : w2.cell? ⟨w.heap.size, 0, none⟩ = some (.int .i64 u) := s2.cell ((Blk.new w 2 #[.int .i64 u]).cell 0) (by simp)
  have lt2 : w.heap.size < w2.heap.size := by have := s2.size; simp at this; omega
  have st2 : Stp [] w w2 := ((Stp.refl [] w).alloc _).trans s2
  have c1 := P.out.2.2.2 w.heap.size A2 c2 w2 hrow bt lt2
  have C := Lib.hid (And.intro c1 st2)
  clear hown s2 hrow bt c1 st2
  go_wp2_with fail
  refine C.out.1.mono ?_
  rintro e w3 ⟨rfl, s3⟩
  go_wp2_with (go_quiet (fail))
  go_ret2
  exact ⟨rfl, C.out.2.trans s3⟩
end Go.Proofs.Ytbjjfjgomkmdhaa
