/- smear: what SmearTells asks beyond the others: a table whose memory lies apart, Equal, the document's Within, and the calls of a table that may be none. -/
import Derived.Test.YtbjjfjgomkmdhaaSmearBk
import Derived.Test.YtbjjfjgomkmdhaaRefNew
namespace Go.Proofs.Ytbjjfjgomkmdhaa
open Go.RowKit
set_option linter.unusedVariables false
set_option linter.unusedSimpArgs false

/-- A pointer to a table, or none; the table lies in none of the blocks G. -/
def ptrAtG (L : List (Int × Int)) (w : World) (p : Option Addr) (G : List Nat) : Prop :=
  (p = none ∧ L = []) ∨ ∃ (g : Nat) (A : Option Addr) (c : Nat), p = some ⟨g, 0, none⟩ ∧ w.heap[g]? = some (.cells #[.slice A L.length c] 61 (0, 0)) ∧ L.length ≤ c ∧ c ≤ maxLen ∧ g ∉ G ∧ RowIn w A L.length 2 (pcells L) G
theorem ptrAtG.ptr {L : List (Int × Int)} {w : World} {p : Option Addr} {G : List Nat} (h : ptrAtG L w p G) : ptrAt L w p := by
  rcases h with h | ⟨g, A, c, h1, h2, h3, h4, _, h5⟩
  · exact .inl h
  · exact .inr ⟨g, h1, A, c, h2, h3, h4, h5.less (by simp)⟩
theorem ptrAtG.out {L : List (Int × Int)} {w w' : World} {p : Option Addr} {G : List Nat} (h : ptrAtG L w p G) (hs : Stp G w w') : ptrAtG L w' p G := by
  rcases h with h | ⟨g, A, c, h1, h2, h3, h4, hg, h5⟩
  · exact .inl h
  · exact .inr ⟨g, A, c, h1, hs.at h2 hg, h3, h4, hg, h5.stp hs⟩
/-- What was there ahead of a block lies apart from it. -/
theorem ptrAt.new {L : List (Int × Int)} {w w' : World} {p : Option Addr} {G : List Nat} (h : ptrAt L w p) (hG : ∀ k, k ∈ G → w.heap.size ≤ k) (hs : Stp [] w w') : ptrAtG L w' p G := by
  rcases h with h | ⟨g, h1, A, c, h2, h3, h4, h5⟩
  · exact .inl h
  · refine .inr ⟨g, A, c, h1, hs.at h2 (by simp), h3, h4, fun hk => ?_, h5.1, fun hn => ?_⟩
    · have := lt_of_at h2
      have := hG _ hk
      omega
    · obtain ⟨b, off, e, hb, _, hc⟩ := h5.2 hn
      refine ⟨b, off, e, Nat.lt_of_lt_of_le hb hs.size, fun hk => ?_, fun j u hu => hs.cell (hc j u hu) (by simp)⟩
      have := hG _ hk
      omega

/-- A row of the call's own, written out. -/
theorem clone_form {n : Nat} {xs : List Value} {w w' : World} {e : Ending} (h : Cloned n xs w e w') :
    ∃ A cap, e = .returned (.slice A n cap) ∧ n ≤ cap ∧ cap ≤ maxLen ∧ RowIn w' A n 2 xs [] ∧ Stp [] w w' ∧ (0 < n → ∃ (b : Nat) (cur : Array Value), A = some ⟨b, 0, none⟩ ∧ w.heap.size ≤ b ∧ w'.heap[b]? = some (.cells cur 30 (0, 0)) ∧ n * 2 ≤ cur.size ∧ ∀ j, j < n * 2 → cur[j]? = xs[j]?) := by
  obtain ⟨v, rfl, own, st⟩ := h
  obtain ⟨A2, c2, e2, k1, k2, row⟩ := own_form (G := []) own (by simp)
  rcases own.2 with ⟨rfl, rfl⟩ | ⟨g, cap, cur, rfl, hb, hh, hn, hc, hs, ht⟩
  · injection e2 with e1 e2 e3
    subst e1 e3
    exact ⟨none, 0, rfl, by omega, by unfold maxLen; omega, row, st, fun h => by omega⟩
  · injection e2 with e1 e2 e3
    subst e1 e3
    exact ⟨_, cap, rfl, hn, hc, row, st, fun _ => ⟨g, cur, rfl, hb, hh, by have := Nat.mul_le_mul_right 2 hn; omega, fun j hj => by
      rw [← ht, List.getElem?_take, if_pos hj]
      simp⟩⟩

def MadeTabF (L : List (Int × Int)) (w : World) (e : Ending) (w' : World) : Prop :=
  ∃ g, e = .returned (.tuple #[.pointer (some ⟨g, 0, none⟩), .int .i64 0]) ∧ (∀ G : List Nat, (∀ k, k ∈ G → k < w.heap.size) → ptrAtG L w' (some ⟨g, 0, none⟩) G) ∧ Stp [] w w'
theorem new_fresh (A : Option Addr) (n c : Nat) (L : List (Int × Int)) (w : World) (h : RowIn w A n 2 (pcells L) []) (hl : L.length = n) (hn : n ≤ 32) (hb : ∀ x ∈ L, (-9223372036854775808 ≤ x.1 ∧ x.1 ≤ 9223372036854775807) ∧ (-9223372036854775808 ≤ x.2 ∧ x.2 ≤ 9223372036854775807)) (hL : leapsS 86400000000000 L = true) :
    Calls Try.prog 15 #[.slice A n c] w (MadeTabF L w) := by
  have l1 := fun w h => leaps_any A n c L w h hl (by omega) hb
  rw [hL] at l1
  have c1 := fun w h => clone_any A n c (pcells L) w h (by omega) (pcells_one L)
  have P := Lib.hid (And.intro l1 (And.intro h (And.intro c1 hl)))
  clear l1 h hL hl hb c1
  go_enter Try.func15, Try.ntmps15
  go_wp2_with fail
  refine (P.out.1 _ P.out.2.1).mono ?_
  rintro e w1 ⟨rfl, s1⟩
  go_wp2_with fail
  refine (P.out.2.2.1 _ (by exact (P.out.2.1.stp s1).reads)).mono ?_
  rintro e w2 ⟨v, rfl, hown, s2⟩
  obtain ⟨A2, c2, rfl, k1, k2, hrow⟩ := own_form (G := []) hown (by simp)
  go_wp2_with fail
  go_ret2
  refine ⟨w2.heap.size, rfl, fun G hG => .inr ⟨w2.heap.size, A2, c2, rfl, ?_, ?_, k2, fun hk => ?_, ?_⟩, (s1.trans s2).alloc _⟩
  · rw [P.out.2.2.2]; exact new_at _ _
  · rw [P.out.2.2.2]; exact k1
  · have := hG _ hk
    have := (s1.trans s2).size
    omega
  · rw [P.out.2.2.2]
    obtain ⟨A3, c3, e3, _, _, hrow3⟩ := own_form (G := G) hown (fun k hk he => by
      have h1 := hG _ hk
      have h2 := own_base hown he
      have h3 := s1.size
      omega)
    injection e3 with e1 e2 e4
    subst e1
    exact RowIn.stp hrow3 ((Stp.refl _ _).alloc _)

/-- What New answers, all at once. -/
def NewAns (n : Nat) (L : List (Int × Int)) (w : World) (e : Ending) (w' : World) : Prop :=
  ∃ (p : Option Addr) (ec : Int) (M : List (Int × Int)), e = .returned (.tuple #[.pointer p, .int .i64 ec]) ∧ refNewS n L = ec ∧ (ec = 0 ∧ M = L ∧ (∃ g, p = some ⟨g, 0, none⟩) ∨ ¬ ec = 0 ∧ M = [] ∧ p = none) ∧ LOk M ∧
    (∀ G : List Nat, (∀ k, k ∈ G → k < w.heap.size) → ptrAtG M w' p G) ∧ Stp [] w w'
theorem snew_any (A : Option Addr) (n c : Nat) (L : List (Int × Int)) (w : World) (h : RowIn w A n 2 (pcells L) []) (hl : L.length = n) (hn : n ≤ 1000000) (hb : ∀ x ∈ L, (-9223372036854775808 ≤ x.1 ∧ x.1 ≤ 9223372036854775807) ∧ (-9223372036854775808 ≤ x.2 ∧ x.2 ≤ 9223372036854775807)) :
    Calls Try.prog 15 #[.slice A n c] w (NewAns n L w) := by
  by_cases h32 : 32 < n
  · refine (new_full A n c w h32 (by omega)).mono ?_
    rintro e w' ⟨rfl, rfl⟩
    exact ⟨none, 7, [], rfl, by unfold refNewS; rw [if_pos h32], .inr ⟨by decide, rfl, rfl⟩, LOk.nil, fun G _ => .inl ⟨rfl, rfl⟩, Stp.refl _ _⟩
  · cases hL : leapsS 86400000000000 L with
    | false =>
      refine (new_bad A n c L w h hl (by omega) hb hL).mono ?_
      rintro e w' ⟨rfl, s⟩
      exact ⟨none, 1, [], rfl, by unfold refNewS; rw [if_neg h32, hL]; rfl, .inr ⟨by decide, rfl, rfl⟩, LOk.nil, fun G _ => .inl ⟨rfl, rfl⟩, s⟩
    | true =>
      refine (new_fresh A n c L w h hl (by omega) hb hL).mono ?_
      rintro e w' ⟨g, rfl, hG, s⟩
      exact ⟨_, 0, L, rfl, by unfold refNewS; rw [if_neg h32, hL]; rfl, .inl ⟨rfl, rfl, g, rfl⟩, LOk.of hL (by omega), hG, s⟩

theorem listP_any {p : Option Addr} {L : List (Int × Int)} {w : World} (h : ptrAt L w p) (hl : L.length ≤ 32) :
    Calls Try.prog 22 #[.pointer p] w (Cloned L.length (pcells L) w) := by
  rcases h with ⟨rfl, rfl⟩ | ⟨g, rfl, h2⟩
  · refine (list_nil w).mono ?_
    rintro e w' ⟨rfl, rfl⟩
    exact ⟨_, rfl, World.ownsRow_nil _ _ _ _, Stp.refl _ _⟩
  · exact list_any g L w h2 hl

set_option maxHeartbeats 1000000 in
theorem equal_any (A : Option Addr) (n c : Nat) (B : Option Addr) (c2 : Nat) (L : List (Int × Int)) (w : World) (h1 : RowIn w A n 2 (pcells L) []) (h2 : RowIn w B n 2 (pcells L) []) (hl : L.length = n) (hn : n ≤ 1000000) :
    Calls Try.prog 18 #[.slice A n c, .slice B n c2] w fun e w' => e = .returned (.bool true) ∧ Stp [] w w' := by
  have P := Lib.hid (And.intro h1 (And.intro h2 hl))
  clear h1 h2 hl
  go_enter Try.func18, Try.ntmps18
  go_wp2_with fail
  go_loopw [13] (fun i wr => ∃ k : Nat, k ≤ n ∧ i = .int .i64 k ∧ ∃ q, wr = w.drewN q) (fun i _ => n - (intOf i).toNat)
  case atStart => exact ⟨0, Nat.zero_le _, rfl, 0, rfl⟩
  case round =>
    obtain ⟨k, hk, rfl, q, rfl⟩ := hrel
    by_cases hlt : k < n
    · obtain ⟨b, off, rfl, hbb, hbg, hcell⟩ := P.out.1.2 (by omega)
      obtain ⟨b2, off2, rfl, hbb2, hbg2, hcell2⟩ := P.out.2.1.2 (by omega)
      have hkl : k < L.length := by rw [P.out.2.2]; exact hlt
      have hx := pcells_get L k hkl
      have hc1 : w.cell? ⟨b, off + k * 2, none⟩ = some (.int .i64 L[k].1) := hcell _ _ hx.1
      have hc2 : w.cell? ⟨b, off + k * 2 + 1, none⟩ = some (.int .i64 L[k].2) := hcell _ _ hx.2
      have hd1 : w.cell? ⟨b2, off2 + k * 2, none⟩ = some (.int .i64 L[k].1) := hcell2 _ _ hx.1
      have hd2 : w.cell? ⟨b2, off2 + k * 2 + 1, none⟩ = some (.int .i64 L[k].2) := hcell2 _ _ hx.2
      clear hx hcell hcell2
      generalize L[k] = y at *
      obtain ⟨y1, y2⟩ := y
      simp only at hc1 hc2 hd1 hd2
      go_wp2_with (go_quiet (fail))
      go_roundw
      case rel => exact ⟨k + 1, by omega, by go_num, _, rfl⟩
      case measure => simp [intOf]; omega
    · obtain rfl : k = n := by omega
      go_wp2_with fail
      go_ret
      exact ⟨rfl, (Stp.refl _ _).drewN _⟩

set_option maxHeartbeats 1000000 in
theorem rwithin_any (A : Option Addr) (n c : Nat) (L : List (Int × Int)) (t : Int) (w : World) (h : RowIn w A n 2 (pcells L) []) (hl : L.length = n) (ok : LOk L) :
    Calls Try.prog 19 #[.slice A n c, .int .i64 t] w fun e w' => e = .returned (.int .i64 (withinS L t)) ∧ Stp [] w w' := by
  have n1 := fun w => rnear_any t w
  have ib := instS_bd t
  have hn := ok.len
  obtain ⟨r, hr⟩ : ∃ r, withinS L t = r := ⟨_, rfl⟩
  have hr2 : idxS (inS (instS t)) L = r := hr
  rw [hr]
  generalize instS t = u at *
  obtain ⟨u0, u1⟩ := ib
  have P := Lib.hid (And.intro h (And.intro hl (And.intro ok (And.intro n1 hr2))))
  clear h ok n1 hr hr2
  have hn1 : n ≤ 32 := by omega
  clear hn hl
  go_enter Try.func19, Try.ntmps19
  go_wp2_with fail
  go_loopw [5] (fun i wr => ∃ k : Nat, k ≤ n ∧ i = .int .i64 k ∧ Hid (∀ j (hj : j < k) (hj2 : j < L.length), inS u L[j] = false) ∧ ∃ q, wr = w.drewN q) (fun i _ => n - (intOf i).toNat)
  case atStart => exact ⟨0, Nat.zero_le _, rfl, Lib.hid (fun j hj => absurd hj (by omega)), 0, rfl⟩
  case round =>
    obtain ⟨k, hk, rfl, NO, q, rfl⟩ := hrel
    by_cases hlt : k < n
    · obtain ⟨b, off, rfl, hbb, hbg, hcell⟩ := P.out.1.2 (by omega)
      have hkl : k < L.length := by rw [P.out.2.1]; exact hlt
      have hx := pcells_get L k hkl
      have hc1 : w.cell? ⟨b, off + k * 2, none⟩ = some (.int .i64 L[k].1) := hcell _ _ hx.1
      have hbk := P.out.2.2.1.each L[k] (List.getElem_mem _)
      have eI : inS u L[k] = decide (L[k].1 - 43200000000000 ≤ u ∧ u < L[k].1 + 43200000000000) := rfl
      have hyes : inS u L[k] = true → r = k := fun hq => by rw [← P.out.2.2.2.2]; exact idxS_some hkl (fun j hj => NO.out j hj (by omega)) hq
      have hno : inS u L[k] = false → ∀ j (hj : j < k + 1) (hj2 : j < L.length), inS u L[j] = false := fun hq j hj hj2 => by
        rcases Nat.lt_or_ge j k with h1 | h1
        · exact NO.out j h1 hj2
        · obtain rfl : j = k := by omega
          exact hq
      rw [eI] at hyes hno
      have Y := Lib.hid (And.intro hyes hno)
      obtain ⟨a0, a1, _⟩ := hbk
      clear hx hcell eI hyes hno
      generalize L[k].1 = a at *
      have x1 : IntKind.i64.wrap (a - 43200000000000) = a - 43200000000000 := IntWalk.i64_in _ (by omega)
      have x2 : IntKind.i64.wrap (a + 43200000000000) = a + 43200000000000 := IntWalk.i64_in _ (by omega)
      have N1 := Lib.hid P.out.2.2.2.1
      by_cases h1 : a - 43200000000000 ≤ u
      · have hd1 : decide (a - 43200000000000 ≤ u) = true := decide_eq_true h1
        by_cases h2 : u < a + 43200000000000
        · have hd2 : decide (u < a + 43200000000000) = true := decide_eq_true h2
          have E := Lib.hid (Y.out.1 (by simp [h1, h2]))
          clear h1 h2
          go_wp2_with (go_quiet ((first | (go_at_call 33; with_reducible exact quiet_add_same (N1.out _)) | (go_at_call 33; with_reducible exact Calls.quiet_of_same (N1.out _)))))
          go_ret
          exact ⟨ret_int E.out.symm, ((Stp.refl _ _).drewN _).drewN _⟩
        · have hd2 : decide (u < a + 43200000000000) = false := decide_eq_false h2
          have E := Lib.hid (Y.out.2 (by simp [h1, h2]))
          clear h1 h2
          go_wp2_with (go_quiet ((first | (go_at_call 33; with_reducible exact quiet_add_same (N1.out _)) | (go_at_call 33; with_reducible exact Calls.quiet_of_same (N1.out _)))))
          go_roundw
          case rel => exact ⟨k + 1, by omega, by go_num, E, _, rfl⟩
          case measure => simp [intOf]; omega
      · have hd1 : decide (a - 43200000000000 ≤ u) = false := decide_eq_false h1
        have E := Lib.hid (Y.out.2 (by simp [h1]))
        clear h1
        go_wp2_with (go_quiet ((first | (go_at_call 33; with_reducible exact quiet_add_same (N1.out _)) | (go_at_call 33; with_reducible exact Calls.quiet_of_same (N1.out _)))))
        go_roundw
        case rel => exact ⟨k + 1, by omega, by go_num, E, _, rfl⟩
        case measure => simp [intOf]; omega
    · have hr : (-1 : Int) = r := by
        rw [← P.out.2.2.2.2]
        refine (idxS_none fun x hx => ?_).symm
        obtain ⟨j, hj, rfl⟩ := List.getElem_of_mem hx
        exact NO.out j (by have := P.out.2.1; omega) hj
      have HR := Lib.hid hr
      clear hr
      go_wp2_with fail
      go_ret
      exact ⟨ret_int HR.out, (Stp.refl _ _).drewN _⟩

theorem withinP_nil (t : Int) (w : World) : Calls Try.prog 13 #[.pointer none, .int .i64 t] w fun e w' => e = .returned (.tuple #[.int .i64 0, .bool false]) ∧ Stp [] w w' := by
  have i1 := fun w => inst_any t w
  generalize instS t = u at *
  have x1 := fun b1 (w : World) hb hb1 => idx_within b1 u none 0 0 [] w ⟨rfl, fun h => absurd h (by omega)⟩ rfl LOk.nil hb hb1
  have P := Lib.hid (And.intro i1 x1)
  clear i1 x1
  go_enter Try.func13, Try.ntmps13
  go_wp2_with fail
  refine (P.out.1 _).mono ?_
  rintro e w1 ⟨rfl, rfl⟩
  go_wp2_with fail
  refine (list_nil _).mono ?_
  rintro e w1 ⟨rfl, rfl⟩
  go_wp2_with fail
  refine (P.out.2 w.heap.size _ (by exact (Blk.new w 2 #[.int .i64 u]).cell 0) (by simp)).mono ?_
  rintro e w3 ⟨rfl, s3⟩
  have e1 : idxS (inS u) [] = -1 := rfl
  rw [e1]
  go_wp2_with fail
  go_ret2
  exact ⟨rfl, ((Stp.refl _ _).alloc _).trans s3⟩
theorem withinP_any {p : Option Addr} {L : List (Int × Int)} (t : Int) {w : World} (h : ptrAt L w p) (ok : LOk L) :
    Calls Try.prog 13 #[.pointer p, .int .i64 t] w fun e w' => e = .returned (.tuple #[.int .i64 (max (withinS L t) 0), .bool (decide (0 ≤ withinS L t))]) ∧ Stp [] w w' := by
  rcases h with ⟨rfl, rfl⟩ | ⟨g, rfl, h2⟩
  · exact withinP_nil t w
  · exact within_any g L t w h2 ok
end Go.Proofs.Ytbjjfjgomkmdhaa
