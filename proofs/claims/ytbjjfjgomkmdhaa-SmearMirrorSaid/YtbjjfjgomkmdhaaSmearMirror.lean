/- SmearMirror: with all leaps turned round the smeared time is as far on the other side, and leaps add up one by one; for any leaps that are told by gaps, and any instant. -/
import Derived.Test.YtbjjfjgomkmdhaaSmearF
import Derived.Test.YtbjjfjgomkmdhaaSmearG
namespace Go.Proofs.Ytbjjfjgomkmdhaa
open Go.RowKit
set_option linter.unusedVariables false
set_option linter.unusedSimpArgs false

def turnL (L : List (Int × Int)) : List (Int × Int) := L.map fun x => (x.1, -x.2)
theorem turn_len (L : List (Int × Int)) : (turnL L).length = L.length := by simp [turnL]
theorem turn_take {L : List (Int × Int)} {k : Nat} (hk : k < L.length) : turnL (L.take (k + 1)) = turnL (L.take k) ++ [(L[k].1, -L[k].2)] := by
  rw [List.take_succ_eq_append_getElem hk]
  simp only [turnL, List.map_append, List.map_cons, List.map_nil]
theorem turn_ok {L : List (Int × Int)} (ok : LOk L) : LOk (turnL L) := by
  refine ⟨by rw [turn_len]; exact ok.len, fun x hx => ?_, ?_⟩
  · obtain ⟨y, hy, rfl⟩ := List.mem_map.1 hx
    have := ok.each y hy
    exact ⟨this.1, this.2.1, by simp only; omega⟩
  · exact List.Pairwise.map _ (fun a b h => h) ok.rise
theorem turn_taken (t : Int) : ∀ L, takenS t (turnL L) = -takenS t L
  | [] => rfl
  | x :: L => by
    have ih := turn_taken t L
    have e : turnL (x :: L) = (x.1, -x.2) :: turnL L := rfl
    rw [e, takenS_cons, takenS_cons, ih]
    unfold oneS
    simp only
    rw [Int.mul_neg]
    omega

set_option maxRecDepth 100000 in
set_option maxHeartbeats 2000000 in
theorem smearMirror_walk (A : Option Addr) (n c : Nat) (l : List (Int × Bool)) (t0 : Int) (w : World) (hr : Reads w w.heap.size 2 A n (gcells l)) (hl : l.length = n) (hn : n * 4 ≤ 140737488351232) (hb : ∀ x ∈ l, 0 ≤ x.1 ∧ x.1 ≤ 65535) (ht0 : -9223372036854775808 ≤ t0 ∧ t0 ≤ 9223372036854775807) :
    Calls Try.prog 5 #[.slice A n c, .int .i64 t0] w fun e w' => e = .returned (.bool true) ∧ Stp [] w w' := by
  have m1 := made_any A n c l w hr hl hn hb
  obtain ⟨ok, hfar⟩ := made_ok l
  generalize madeL l = M at *
  obtain ⟨i0, hi, hz0, hz1, hz2⟩ := info_parts leap_info
  have hm := i64_mask61 t0
  obtain ⟨t, ht⟩ : ∃ t, t0 % 2305843009213693952 = t := ⟨_, rfl⟩
  rw [ht] at hm
  have t0b : 0 ≤ t := by omega
  have t1b : t < 2305843009213693952 := by omega
  have it : instS t = t := instS_id t0b (by omega)
  have tb := takenS_bd t (L := M) (fun x hx => (ok.each x hx).2.2)
  have hl32 := ok.len
  have x1 := fun w g h => to_is (w := w) (g := g) (t := t) h ok (toS_in t0b (by omega))
  have x2 := fun w g h => to_is (w := w) (g := g) (t := t) h (turn_ok ok) ((toS_in t0b (by omega)).trans (by rw [turn_taken]))
  have x3 := fun w g h => to_is (w := w) (g := g) (L := []) (t := t) h LOk.nil (v := t) (by rw [toS_in t0b (by omega), takenS_nil]; omega)
  have x4 := fun w g h => taken_is (w := w) (g := g) (L := M) (t := t) h ok (v := takenS t M) (by rw [it])
  have P := Lib.hid (And.intro m1 (And.intro x1 (And.intro x2 (And.intro x3 (And.intro x4 (And.intro ok it))))))
  clear m1 x1 x2 x3 x4 hfar ht hr hl hb ht0 hn ok it tb hl32
  go_enter Try.func5, Try.ntmps5
  go_wp2_with fail
  refine P.out.1.mono ?_
  rintro e w1 ⟨g, A2, c2, rfl, a1, hrow, s1, _, k1, k2⟩
  go_wp2_with fail
  refine (awake_any _).mono ?_
  rintro e w2 ⟨rfl, s2⟩
  have a2 := a1.stp s2
  have r2 := hrow.stp s2
  have z2 := s1.trans s2
  have R := Lib.hid (And.intro a2 (And.intro r2 z2))
  clear a1 s1 s2 hrow a2 r2 z2
  go_wp2_with fail
  clear hm
  go_loopw [7, 8, 32] (fun vt vs i wr => ∃ k : Nat, k ≤ M.length ∧ i = .int .i64 k ∧ wr.ownsRow w2.heap.size 30 2 vt k (pcells (turnL (M.take k))) ∧ vs = .int .i64 (takenS t (M.take k)) ∧ Stp [] w2 wr) (fun _ _ i _ => M.length - (intOf i).toNat)
  case atStart => exact ⟨0, Nat.zero_le _, rfl, World.ownsRow_nil _ _ _ _, rfl, Stp.refl _ _⟩
  case round =>
    obtain ⟨k, hk, rfl, hown, rfl, hst⟩ := hrel
    have hl32 := P.out.2.2.2.2.2.1.len
    by_cases hlt : k < M.length
    · obtain ⟨b, off, rfl, hbb, hbg, hcell⟩ := R.out.2.1.2 (by omega)
      have hx := pcells_get M k hlt
      have hc1 : wr.cell? ⟨b, off + k * 2, none⟩ = some (.int .i64 M[k].1) := hst.cell (hcell _ _ hx.1) (by simp)
      have hc2 : wr.cell? ⟨b, off + k * 2 + 1, none⟩ = some (.int .i64 M[k].2) := hst.cell (hcell _ _ hx.2) (by simp)
      have hbk := P.out.2.2.2.2.2.1.each M[k] (List.getElem_mem _)
      have hs := taken_take (t := t) hlt
      have hs2 := turn_take hlt
      have sb := takenS_bd t (L := M.take k) (fun x hx => (P.out.2.2.2.2.2.1.each x (List.mem_of_mem_take hx)).2.2)
      have htk : (M.take k).length ≤ 32 := by simp; omega
      have ob := oneS_bd t hbk.2.2
      clear hx hcell
      generalize M[k] = y at *
      obtain ⟨y1, y2⟩ := y
      simp only at hc1 hc2 hs hs2 hbk
      have ok1 : LOk [(y1, y2)] := ⟨by simp, fun x hx => by simp at hx; subst hx; exact hbk, by simp⟩
      have tk1 := fun w g h => taken_is (w := w) (g := g) (L := [(y1, y2)]) (t := t) h ok1 (v := oneS t (y1, y2)) (by rw [P.out.2.2.2.2.2.2, takenS_cons, takenS_nil, Int.add_zero])
      obtain ⟨b0, b1, b2⟩ := hbk
      have S := Lib.hid (And.intro hs (And.intro hs2 (And.intro ok1 tk1)))
      have HT := Lib.hid (And.intro hown hst)
      clear hs hs2 ok1 tk1 hown hst
      generalize takenS t (M.take k) = q2 at *
      generalize oneS t (y1, y2) = q3 at *
      have q20 : -32000000000 ≤ q2 := by omega
      have q21 : q2 ≤ 32000000000 := by omega
      have y20 : -1 ≤ y2 := by omega
      have y21 : y2 ≤ 1 := by omega
      obtain ⟨o0, o1⟩ := ob
      clear sb htk b2
      go_wp2_with fail
      refine (new_blk _ _ [(y1, y2)] #[.int .i64 y1, .int .i64 y2] 1 _ (blk_new1 wr _ _ _) rfl rfl S.out.2.2.1).mono ?_
      rintro e w5 ⟨g5, rfl, a5, s5, hg5⟩
      have z5 : Stp [] w2 w5 := ((HT.out.2.alloc _).alloc _).trans s5
      have own5 : w5.ownsRow w2.heap.size 30 2 _ k (pcells (turnL (M.take k))) := own_stp ((HT.out.1.alloc _).alloc _) s5 (by simp)
      have d1 : w5.cell? ⟨wr.heap.size, 0, none⟩ = some (.int .i64 y1) := s5.cell (((Blk.new wr 30 #[.int .i64 y1, .int .i64 y2]).alloc _).cell 0) (by simp)
      have d2 : w5.cell? ⟨wr.heap.size, 1, none⟩ = some (.int .i64 y2) := s5.cell (((Blk.new wr 30 #[.int .i64 y1, .int .i64 y2]).alloc _).cell 1) (by simp)
      have Z5 := Lib.hid (And.intro z5 own5)
      clear z5 own5 s5
      go_wp2_with fail
      refine (S.out.2.2.2 _ _ a5).mono ?_
      rintro e w6 ⟨rfl, s6⟩
      have e1 : w6.cell? ⟨wr.heap.size, 0, none⟩ = some (.int .i64 y1) := s6.cell d1 (by simp)
      have e2 : w6.cell? ⟨wr.heap.size, 1, none⟩ = some (.int .i64 y2) := s6.cell d2 (by simp)
      have Z6 := Lib.hid (And.intro (Z5.out.1.trans s6) (own_stp Z5.out.2 s6 (by simp)))
      clear d1 d2 a5 s6 hc1 hc2
      go_wp2_with (at_builtin; refine wpList_append_own _ rfl _ _ 24 rfl w2.heap.size 30 i0 (.agg #[.int .i64 0, .int .i64 0]) 2 16 Try.underlying24 hi hz0 hz1 hz2 rfl (by decide) _ _ _ rfl (Z6.out.2.alloc _) ⟨w6.heap.size, 0, none⟩ 1 1 [.int .i64 y1, .int .i64 (-y2)] rfl rfl ?c1 ?c2 ?c3 ?c4 ?c5 ?_)
      case c1 =>
        intro j u hj
        match j, hj with
        | 0, hj => simp at hj; subst hj; simp [Addr.add]
        | 1, hj => simp at hj; subst hj; simp [Addr.add]
      case c2 => intro u hu; simp at hu; rcases hu with rfl | rfl <;> rfl
      case c3 => unfold maxLen; omega
      case c4 => omega
      case c5 => exact (show Stp [] w2 _ from Z6.out.1.alloc _).size
      · intro v' w7 hown' hgrow _
        have F := Lib.hid (And.intro (show w7.ownsRow w2.heap.size 30 2 v' (k + 1) (pcells (turnL (M.take (k + 1)))) by
          rw [S.out.2.1, pcells_append]
          exact hown') (show Stp [] w2 w7 from (Z6.out.1.alloc _).grown hgrow (fun k hk => .inr (own_base Z6.out.2 hk))))
        clear hown' hgrow
        go_wp2_with fail
        go_roundw
        case rel => exact ⟨k + 1, by omega, by go_num, F.out.1, by rw [S.out.1], F.out.2⟩
        case measure => simp [intOf]; omega
    · have hkk : k = M.length := by omega
      have hlt' : ¬ (k : Int) < M.length := by omega
      have tb := takenS_bd t (L := M) (fun x hx => (P.out.2.2.2.2.2.1.each x hx).2.2)
      rw [hkk, List.take_length] at hown ⊢
      obtain ⟨A3, c3, rfl, j1, j2, row3⟩ := own_form (G := []) hown (by simp)
      have nt := fun w h => new_lok A3 M.length c3 (turnL M) w h (turn_len M) (turn_ok P.out.2.2.2.2.2.1)
      have nn := fun w => new_lok none 0 0 [] w ⟨rfl, fun h => absurd h (by omega)⟩ rfl LOk.nil
      have zz := R.out.2.2.trans hst
      have R5 := Lib.hid (And.intro (R.out.1.stp hst) (And.intro row3 (And.intro zz (And.intro nt nn))))
      have X := Lib.hid (And.intro P.out.2.1 (And.intro P.out.2.2.1 (And.intro P.out.2.2.2.1 P.out.2.2.2.2.1)))
      clear R P hown row3 zz nt nn hst hkk hlt
      generalize takenS t M = q at *
      have q0 : -32000000000 ≤ q := by omega
      have q1 : q ≤ 32000000000 := by omega
      have e1 : t - q + (t - -q) = 2 * t := by omega
      clear tb hl32
      go_wp2_with fail
      refine (R5.out.2.2.2.1 _ R5.out.2.1).mono ?_
      rintro e w6 ⟨g6, rfl, a6, s6, _⟩
      have b6 := R5.out.1.stp s6
      have z6 := R5.out.2.2.1.trans s6
      clear s6
      go_wp2_with fail
      refine (R5.out.2.2.2.2 _).mono ?_
      rintro e w7 ⟨g7, rfl, a7, s7, _⟩
      have a6' := a6.stp s7
      have b7 := b6.stp s7
      have z7 := z6.trans s7
      clear a6 b6 z6 s7
      go_wp2_with fail
      refine (X.out.1 _ _ b7).mono ?_
      rintro e w8 ⟨rfl, s8⟩
      have a68 := a6'.stp s8
      have a78 := a7.stp s8
      have b8 := b7.stp s8
      have z8 := z7.trans s8
      clear a6' a7 b7 z7 s8
      go_wp2_with fail
      refine (X.out.2.1 _ _ a68).mono ?_
      rintro e w9 ⟨rfl, s9⟩
      have a79 := a78.stp s9
      have b9 := b8.stp s9
      have z9 := z8.trans s9
      clear a68 a78 b8 z8 s9
      go_wp2_with fail
      refine (X.out.2.2.1 _ _ a79).mono ?_
      rintro e w10 ⟨rfl, s10⟩
      have b10 := b9.stp s10
      have z10 := z9.trans s10
      clear a79 b9 z9 s10
      go_wp2_with fail
      refine (X.out.2.2.2 _ _ b10).mono ?_
      rintro e w11 ⟨rfl, s11⟩
      go_wp2_with fail
      go_ret
      exact ⟨rfl, z10.trans s11⟩
end Go.Proofs.Ytbjjfjgomkmdhaa
