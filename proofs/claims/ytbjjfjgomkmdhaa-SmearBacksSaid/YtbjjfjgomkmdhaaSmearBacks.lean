/- SmearBacks: the instant that is told back is the least one whose smeared time is at least so much; for any leaps and any times. -/
import Derived.Test.YtbjjfjgomkmdhaaSmearBk
namespace Go.Proofs.Ytbjjfjgomkmdhaa
open Go.RowKit
set_option linter.unusedVariables false
set_option linter.unusedSimpArgs false

theorem pcells_take (l : List (Int × Int)) (m : Nat) : pcells (l.take m) = (pcells l).take (m * 2) := by
  induction l generalizing m with
  | nil => simp [pcells]
  | cons t l ih =>
    cases m with
    | zero => simp [pcells]
    | succ m =>
      have e : pcells (t :: l) = .int .i64 t.1 :: .int .i64 t.2 :: pcells l := rfl
      rw [List.take_succ_cons, e, Nat.succ_mul]
      show .int .i64 t.1 :: .int .i64 t.2 :: pcells (l.take m) = _
      rw [ih]
      rfl
theorem row_take2 {w : World} {A : Option Addr} {n m : Nat} {l : List (Int × Int)} {G : List Nat} (h : RowIn w A n 2 (pcells l) G) (hm : m ≤ n) : RowIn w A m 2 (pcells (l.take m)) G := by
  have h1 := h.1
  rw [pcells_length] at h1
  refine ⟨by rw [pcells_length]; simp; omega, fun hn => ?_⟩
  obtain ⟨b, off, e, hb, hg, hc⟩ := h.2 (by omega)
  refine ⟨b, off, e, hb, hg, fun j u hu => hc j u ?_⟩
  rw [pcells_take, List.getElem?_take] at hu
  split at hu
  · exact hu
  · cases hu
theorem row_nil (w : World) (G : List Nat) : RowIn w none 0 2 (pcells []) G := ⟨rfl, fun h => absurd h (by omega)⟩

set_option maxRecDepth 100000 in
set_option maxHeartbeats 8000000 in
theorem smearBacks_walk (A : Option Addr) (n c : Nat) (l : List (Int × Int)) (TA : Option Addr) (nt tc : Nat) (tl : List Int) (w : World) (hcap : n ≤ c ∧ c ≤ maxLen) (hr : Reads w w.heap.size 2 A n (pcells l)) (hl : l.length = n) (hn : n * 16 ≤ 140737488351232) (hb : ∀ x ∈ l, (-9223372036854775808 ≤ x.1 ∧ x.1 ≤ 9223372036854775807) ∧ (-9223372036854775808 ≤ x.2 ∧ x.2 ≤ 9223372036854775807))
    (htr : Reads w w.heap.size 1 TA nt (tl.map (Value.int .i64))) (htl : tl.length = nt) (htn : nt * 8 ≤ 140737488351232) (htb : ∀ x ∈ tl, -9223372036854775808 ≤ x ∧ x ≤ 9223372036854775807) :
    Calls Try.prog 7 #[.slice A n c, .slice TA nt tc] w fun e w' => e = .returned (.bool true) ∧ Stp [] w w' := by
  obtain ⟨m, hm⟩ : ∃ m, min n 40 = m := ⟨_, rfl⟩
  have hmn : m ≤ n := by omega
  have hm40 : m ≤ 40 := by omega
  have hrow := row_take2 (RowIn.of_reads (G := []) hr (Nat.le_refl _) (by simp) (by decide)) hmn
  have hlen : (l.take m).length = m := by simp; omega
  have hb2 : ∀ x ∈ l.take m, (-9223372036854775808 ≤ x.1 ∧ x.1 ≤ 9223372036854775807) ∧ (-9223372036854775808 ≤ x.2 ∧ x.2 ≤ 9223372036854775807) := fun x hx => hb x (List.mem_of_mem_take hx)
  generalize l.take m = L at *
  have TM := Lib.hid (And.intro (RowIn.of_reads (G := []) htr (Nat.le_refl _) (by simp) (by decide)) (And.intro htl htb))
  have P := Lib.hid (And.intro hrow (And.intro hlen hb2))
  obtain ⟨hc1, hc2⟩ := hcap
  unfold maxLen at hc2
  have hmi : min (n : Int) 40 = (m : Int) := by omega
  have m0 : (0 : Int) ≤ (m : Int) := by omega
  have m1 : (m : Int) ≤ (c : Int) := by omega
  clear hrow hlen hb2 hr hl hb hm htr htl htb
  by_cases h32 : 32 < m
  · have nw := fun w => new_full A m c w h32 (by omega)
    have N := Lib.hid nw
    clear nw
    go_enter Try.func7, Try.ntmps7
    go_wp2_with fail
    refine (N.out _).mono ?_
    rintro e wl ⟨rfl, rfl⟩
    have HP : ptrAt [] wl none := .inl ⟨rfl, rfl⟩
    have HR2 := row_nil wl []
    have okL := LOk.nil
    have st := Stp.refl [] wl
    have X := Lib.hid (And.intro HP (And.intro HR2 (And.intro okL st)))
    clear HP HR2 st
    go_wp2_with fail
    have okL := X.out.2.2.1
    go_loopw [25] (fun i wr => ∃ k : Nat, k ≤ nt ∧ k ≤ 20 ∧ i = .int .i64 k ∧ Stp [] wl wr) (fun i _ => nt - (intOf i).toNat)
    case atStart => exact ⟨0, Nat.zero_le _, by omega, rfl, Stp.refl _ _⟩
    case round =>
      obtain ⟨k, hk, hk20, rfl, ht⟩ := hrel
      by_cases hlt : k < nt
      · obtain ⟨b, off, rfl, hbb, hbg, hcell⟩ := TM.out.1.2 (by omega)
        have hkl : k < tl.length := by have := TM.out.2.1; omega
        have hc : wr.cell? ⟨b, off + k, none⟩ = some (.int .i64 tl[k]) := (X.out.2.2.2.trans ht).cell (hcell k _ (by rw [List.getElem?_map, List.getElem?_eq_getElem hkl]; rfl)) (by simp)
        have hbk := TM.out.2.2 tl[k] (List.getElem_mem _)
        clear hcell
        generalize tl[k] = s at *
        obtain ⟨sb0, sb1⟩ := hbk
        by_cases h20 : k = 20
        · have h20' : ((k : Int) == 20) = true := by simp; omega
          have T := Lib.hid ((X.out.2.2.2).trans ht)
          clear h20 ht
          go_wp2_with fail
          refine (awake_any _).mono ?_
          rintro e w9 ⟨rfl, s9⟩
          go_wp2_with fail
          go_ret
          exact ⟨rfl, T.out.trans s9⟩
        · have h20' : ((k : Int) == 20) = false := by simp; omega
          have PA := X.out.1.stp ht
          have RA := X.out.2.1.stp ht
          have r1 := fun t w h => rto_any none 0 0 ([]) t w h rfl okL
          obtain ⟨vm, hvm⟩ : ∃ vm, toS ([]) 4611686018427387904 = vm := ⟨_, rfl⟩
          have rm := r1 4611686018427387904
          rw [hvm] at rm
          have T := Lib.hid ht
          by_cases hno : vm < s
          · have b1 := backP_no none ([]) s wr PA okL (by rw [hvm]; exact hno)
            have B := Lib.hid (And.intro b1 (And.intro rm RA))
            clear b1 rm RA r1 ht PA hvm
            go_wp2_with fail
            refine B.out.1.mono ?_
            rintro e w5 ⟨rfl, s5⟩
            go_wp2_with fail
            refine (B.out.2.1 _ (B.out.2.2.stp s5)).mono ?_
            rintro e w6 ⟨rfl, s6⟩
            go_wp2_with fail
            go_roundw
            case rel => exact ⟨k + 1, by omega, by omega, by go_num, (T.out.trans s5).trans s6⟩
            case measure => simp [intOf]; omega
          · have b1 := backP_yes none ([]) s wr PA okL (by rw [hvm]; omega) sb0
            have B := Lib.hid (And.intro b1 (And.intro rm (And.intro RA r1)))
            clear b1 rm RA r1 ht PA hvm
            go_wp2_with fail
            refine B.out.1.mono ?_
            rintro e w5 ⟨q, rfl, q0, q1, q2, q3, s5⟩
            have Q := Lib.hid (And.intro q2 q3)
            clear q2 q3
            go_wp2_with fail
            refine (B.out.2.1 _ (B.out.2.2.1.stp s5)).mono ?_
            rintro e w6 ⟨rfl, s6⟩
            obtain ⟨vq, hvq⟩ : ∃ vq, toS ([]) q = vq := ⟨_, rfl⟩
            have rq := B.out.2.2.2 q _ ((B.out.2.2.1.stp s5).stp s6)
            have hq2 := Q.out.1
            rw [hvq] at rq hq2
            have RQ := Lib.hid rq
            clear rq hvq
            go_wp2_with fail
            refine RQ.out.mono ?_
            rintro e w7 ⟨rfl, s7⟩
            rcases Q.out.2 with hz | hz
            · subst hz
              go_wp2_with fail
              go_roundw
              case rel => exact ⟨k + 1, by omega, by omega, by go_num, ((T.out.trans s5).trans s6).trans s7⟩
              case measure => simp [intOf]; omega
            · obtain ⟨vz, hvz⟩ : ∃ vz, toS ([]) (q - 1) = vz := ⟨_, rfl⟩
              have rz := B.out.2.2.2 (q - 1) _ (((B.out.2.2.1.stp s5).stp s6).stp s7)
              rw [hvz] at rz hz
              have RZ := Lib.hid rz
              clear rz hvz
              by_cases hq0 : 0 < q
              · go_wp2_with fail
                refine RZ.out.mono ?_
                rintro e w8 ⟨rfl, s8⟩
                go_wp2_with fail
                go_roundw
                case rel => exact ⟨k + 1, by omega, by omega, by go_num, (((T.out.trans s5).trans s6).trans s7).trans s8⟩
                case measure => simp [intOf]; omega
              · go_wp2_with fail
                go_roundw
                case rel => exact ⟨k + 1, by omega, by omega, by go_num, ((T.out.trans s5).trans s6).trans s7⟩
                case measure => simp [intOf]; omega
      · have T := Lib.hid ((X.out.2.2.2).trans ht)
        go_wp2_with fail
        refine (awake_any _).mono ?_
        rintro e w9 ⟨rfl, s9⟩
        go_wp2_with fail
        go_ret
        exact ⟨rfl, T.out.trans s9⟩
  · cases hL : leapsS 86400000000000 L with
    | false =>
      have nw := new_bad A m c L w P.out.1 P.out.2.1 (by omega) P.out.2.2 hL
      have N := Lib.hid nw
      clear nw hL
      go_enter Try.func7, Try.ntmps7
      go_wp2_with fail
      refine N.out.mono ?_
      rintro e wl ⟨rfl, st⟩
      have HP : ptrAt [] wl none := .inl ⟨rfl, rfl⟩
      have HR2 := row_nil wl []
      have okL := LOk.nil
      have X := Lib.hid (And.intro HP (And.intro HR2 (And.intro okL st)))
      clear HP HR2 st
      go_wp2_with fail
      have okL := X.out.2.2.1
      go_loopw [25] (fun i wr => ∃ k : Nat, k ≤ nt ∧ k ≤ 20 ∧ i = .int .i64 k ∧ Stp [] wl wr) (fun i _ => nt - (intOf i).toNat)
      case atStart => exact ⟨0, Nat.zero_le _, by omega, rfl, Stp.refl _ _⟩
      case round =>
        obtain ⟨k, hk, hk20, rfl, ht⟩ := hrel
        by_cases hlt : k < nt
        · obtain ⟨b, off, rfl, hbb, hbg, hcell⟩ := TM.out.1.2 (by omega)
          have hkl : k < tl.length := by have := TM.out.2.1; omega
          have hc : wr.cell? ⟨b, off + k, none⟩ = some (.int .i64 tl[k]) := (X.out.2.2.2.trans ht).cell (hcell k _ (by rw [List.getElem?_map, List.getElem?_eq_getElem hkl]; rfl)) (by simp)
          have hbk := TM.out.2.2 tl[k] (List.getElem_mem _)
          clear hcell
          generalize tl[k] = s at *
          obtain ⟨sb0, sb1⟩ := hbk
          by_cases h20 : k = 20
          · have h20' : ((k : Int) == 20) = true := by simp; omega
            have T := Lib.hid ((X.out.2.2.2).trans ht)
            clear h20 ht
            go_wp2_with fail
            refine (awake_any _).mono ?_
            rintro e w9 ⟨rfl, s9⟩
            go_wp2_with fail
            go_ret
            exact ⟨rfl, T.out.trans s9⟩
          · have h20' : ((k : Int) == 20) = false := by simp; omega
            have PA := X.out.1.stp ht
            have RA := X.out.2.1.stp ht
            have r1 := fun t w h => rto_any none 0 0 ([]) t w h rfl okL
            obtain ⟨vm, hvm⟩ : ∃ vm, toS ([]) 4611686018427387904 = vm := ⟨_, rfl⟩
            have rm := r1 4611686018427387904
            rw [hvm] at rm
            have T := Lib.hid ht
            by_cases hno : vm < s
            · have b1 := backP_no none ([]) s wr PA okL (by rw [hvm]; exact hno)
              have B := Lib.hid (And.intro b1 (And.intro rm RA))
              clear b1 rm RA r1 ht PA hvm
              go_wp2_with fail
              refine B.out.1.mono ?_
              rintro e w5 ⟨rfl, s5⟩
              go_wp2_with fail
              refine (B.out.2.1 _ (B.out.2.2.stp s5)).mono ?_
              rintro e w6 ⟨rfl, s6⟩
              go_wp2_with fail
              go_roundw
              case rel => exact ⟨k + 1, by omega, by omega, by go_num, (T.out.trans s5).trans s6⟩
              case measure => simp [intOf]; omega
            · have b1 := backP_yes none ([]) s wr PA okL (by rw [hvm]; omega) sb0
              have B := Lib.hid (And.intro b1 (And.intro rm (And.intro RA r1)))
              clear b1 rm RA r1 ht PA hvm
              go_wp2_with fail
              refine B.out.1.mono ?_
              rintro e w5 ⟨q, rfl, q0, q1, q2, q3, s5⟩
              have Q := Lib.hid (And.intro q2 q3)
              clear q2 q3
              go_wp2_with fail
              refine (B.out.2.1 _ (B.out.2.2.1.stp s5)).mono ?_
              rintro e w6 ⟨rfl, s6⟩
              obtain ⟨vq, hvq⟩ : ∃ vq, toS ([]) q = vq := ⟨_, rfl⟩
              have rq := B.out.2.2.2 q _ ((B.out.2.2.1.stp s5).stp s6)
              have hq2 := Q.out.1
              rw [hvq] at rq hq2
              have RQ := Lib.hid rq
              clear rq hvq
              go_wp2_with fail
              refine RQ.out.mono ?_
              rintro e w7 ⟨rfl, s7⟩
              rcases Q.out.2 with hz | hz
              · subst hz
                go_wp2_with fail
                go_roundw
                case rel => exact ⟨k + 1, by omega, by omega, by go_num, ((T.out.trans s5).trans s6).trans s7⟩
                case measure => simp [intOf]; omega
              · obtain ⟨vz, hvz⟩ : ∃ vz, toS ([]) (q - 1) = vz := ⟨_, rfl⟩
                have rz := B.out.2.2.2 (q - 1) _ (((B.out.2.2.1.stp s5).stp s6).stp s7)
                rw [hvz] at rz hz
                have RZ := Lib.hid rz
                clear rz hvz
                by_cases hq0 : 0 < q
                · go_wp2_with fail
                  refine RZ.out.mono ?_
                  rintro e w8 ⟨rfl, s8⟩
                  go_wp2_with fail
                  go_roundw
                  case rel => exact ⟨k + 1, by omega, by omega, by go_num, (((T.out.trans s5).trans s6).trans s7).trans s8⟩
                  case measure => simp [intOf]; omega
                · go_wp2_with fail
                  go_roundw
                  case rel => exact ⟨k + 1, by omega, by omega, by go_num, ((T.out.trans s5).trans s6).trans s7⟩
                  case measure => simp [intOf]; omega
        · have T := Lib.hid ((X.out.2.2.2).trans ht)
          go_wp2_with fail
          refine (awake_any _).mono ?_
          rintro e w9 ⟨rfl, s9⟩
          go_wp2_with fail
          go_ret
          exact ⟨rfl, T.out.trans s9⟩
    | true =>
      have okL : LOk L := LOk.of hL (by have := P.out.2.1; omega)
      have nw := new_ok A m c L w P.out.1 P.out.2.1 (by omega) P.out.2.2 hL
      have N := Lib.hid nw
      clear nw hL
      go_enter Try.func7, Try.ntmps7
      go_wp2_with fail
      refine N.out.mono ?_
      rintro e wl ⟨g, rfl, hat, st, _⟩
      have HP : ptrAt L wl (some ⟨g, 0, none⟩) := .inr ⟨g, rfl, hat⟩
      have HR2 := P.out.1.stp st
      have X := Lib.hid (And.intro HP (And.intro HR2 (And.intro okL st)))
      clear HP HR2 st
      go_wp2_with fail
      have okL := X.out.2.2.1
      go_loopw [25] (fun i wr => ∃ k : Nat, k ≤ nt ∧ k ≤ 20 ∧ i = .int .i64 k ∧ Stp [] wl wr) (fun i _ => nt - (intOf i).toNat)
      case atStart => exact ⟨0, Nat.zero_le _, by omega, rfl, Stp.refl _ _⟩
      case round =>
        obtain ⟨k, hk, hk20, rfl, ht⟩ := hrel
        by_cases hlt : k < nt
        · obtain ⟨b, off, rfl, hbb, hbg, hcell⟩ := TM.out.1.2 (by omega)
          have hkl : k < tl.length := by have := TM.out.2.1; omega
          have hc : wr.cell? ⟨b, off + k, none⟩ = some (.int .i64 tl[k]) := (X.out.2.2.2.trans ht).cell (hcell k _ (by rw [List.getElem?_map, List.getElem?_eq_getElem hkl]; rfl)) (by simp)
          have hbk := TM.out.2.2 tl[k] (List.getElem_mem _)
          clear hcell
          generalize tl[k] = s at *
          obtain ⟨sb0, sb1⟩ := hbk
          by_cases h20 : k = 20
          · have h20' : ((k : Int) == 20) = true := by simp; omega
            have T := Lib.hid ((X.out.2.2.2).trans ht)
            clear h20 ht
            go_wp2_with fail
            refine (awake_any _).mono ?_
            rintro e w9 ⟨rfl, s9⟩
            go_wp2_with fail
            go_ret
            exact ⟨rfl, T.out.trans s9⟩
          · have h20' : ((k : Int) == 20) = false := by simp; omega
            have PA := X.out.1.stp ht
            have RA := X.out.2.1.stp ht
            have r1 := fun t w h => rto_any A m c (L) t w h P.out.2.1 okL
            obtain ⟨vm, hvm⟩ : ∃ vm, toS (L) 4611686018427387904 = vm := ⟨_, rfl⟩
            have rm := r1 4611686018427387904
            rw [hvm] at rm
            have T := Lib.hid ht
            by_cases hno : vm < s
            · have b1 := backP_no (some ⟨g, 0, none⟩) (L) s wr PA okL (by rw [hvm]; exact hno)
              have B := Lib.hid (And.intro b1 (And.intro rm RA))
              clear b1 rm RA r1 ht PA hvm
              go_wp2_with fail
              refine B.out.1.mono ?_
              rintro e w5 ⟨rfl, s5⟩
              go_wp2_with fail
              refine (B.out.2.1 _ (B.out.2.2.stp s5)).mono ?_
              rintro e w6 ⟨rfl, s6⟩
              go_wp2_with fail
              go_roundw
              case rel => exact ⟨k + 1, by omega, by omega, by go_num, (T.out.trans s5).trans s6⟩
              case measure => simp [intOf]; omega
            · have b1 := backP_yes (some ⟨g, 0, none⟩) (L) s wr PA okL (by rw [hvm]; omega) sb0
              have B := Lib.hid (And.intro b1 (And.intro rm (And.intro RA r1)))
              clear b1 rm RA r1 ht PA hvm
              go_wp2_with fail
              refine B.out.1.mono ?_
              rintro e w5 ⟨q, rfl, q0, q1, q2, q3, s5⟩
              have Q := Lib.hid (And.intro q2 q3)
              clear q2 q3
              go_wp2_with fail
              refine (B.out.2.1 _ (B.out.2.2.1.stp s5)).mono ?_
              rintro e w6 ⟨rfl, s6⟩
              obtain ⟨vq, hvq⟩ : ∃ vq, toS (L) q = vq := ⟨_, rfl⟩
              have rq := B.out.2.2.2 q _ ((B.out.2.2.1.stp s5).stp s6)
              have hq2 := Q.out.1
              rw [hvq] at rq hq2
              have RQ := Lib.hid rq
              clear rq hvq
              go_wp2_with fail
              refine RQ.out.mono ?_
              rintro e w7 ⟨rfl, s7⟩
              rcases Q.out.2 with hz | hz
              · subst hz
                go_wp2_with fail
                go_roundw
                case rel => exact ⟨k + 1, by omega, by omega, by go_num, ((T.out.trans s5).trans s6).trans s7⟩
                case measure => simp [intOf]; omega
              · obtain ⟨vz, hvz⟩ : ∃ vz, toS (L) (q - 1) = vz := ⟨_, rfl⟩
                have rz := B.out.2.2.2 (q - 1) _ (((B.out.2.2.1.stp s5).stp s6).stp s7)
                rw [hvz] at rz hz
                have RZ := Lib.hid rz
                clear rz hvz
                by_cases hq0 : 0 < q
                · go_wp2_with fail
                  refine RZ.out.mono ?_
                  rintro e w8 ⟨rfl, s8⟩
                  go_wp2_with fail
                  go_roundw
                  case rel => exact ⟨k + 1, by omega, by omega, by go_num, (((T.out.trans s5).trans s6).trans s7).trans s8⟩
                  case measure => simp [intOf]; omega
                · go_wp2_with fail
                  go_roundw
                  case rel => exact ⟨k + 1, by omega, by omega, by go_num, ((T.out.trans s5).trans s6).trans s7⟩
                  case measure => simp [intOf]; omega
        · have T := Lib.hid ((X.out.2.2.2).trans ht)
          go_wp2_with fail
          refine (awake_any _).mono ?_
          rintro e w9 ⟨rfl, s9⟩
          go_wp2_with fail
          go_ret
          exact ⟨rfl, T.out.trans s9⟩
end Go.Proofs.Ytbjjfjgomkmdhaa
