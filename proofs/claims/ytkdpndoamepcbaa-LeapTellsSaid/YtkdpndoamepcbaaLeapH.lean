/- leap: leaps that stand some days apart, and the table of them. -/
import Derived.Test.YtkdpndoamepcbaaLeapG
namespace Go.Proofs.Ytkdpndoamepcbaa
open Go.RowKit
set_option linter.unusedVariables false
set_option linter.unusedSimpArgs false

def dayStep (a x : Int) : Int := a + (2 + x % 100) * 86400000000000
def dayKind (x : Int) : Int := 1 - 2 * (x % 2)
def daysL : Int → List Int → List (Int × Int)
  | _, [] => []
  | a, x :: l => (dayStep a x, dayKind x) :: daysL (dayStep a x) l
def daysEnd : Int → List Int → Int
  | a, [] => a
  | a, x :: l => daysEnd (dayStep a x) l
theorem days_snoc (x : Int) : ∀ (a : Int) (l : List Int), daysL a (l ++ [x]) = daysL a l ++ [(dayStep (daysEnd a l) x, dayKind x)] ∧ daysEnd a (l ++ [x]) = dayStep (daysEnd a l) x
  | a, [] => ⟨rfl, rfl⟩
  | a, y :: l => by
    have ih := days_snoc x (dayStep a y) l
    simp only [List.cons_append, daysL, daysEnd]
    exact ⟨by rw [ih.1], ih.2⟩
theorem days_len : ∀ (a : Int) (l : List Int), (daysL a l).length = l.length
  | _, [] => rfl
  | a, x :: l => by simp only [daysL, List.length_cons]; rw [days_len]
theorem dayStep_bd (a x : Int) : a + 172800000000000 ≤ dayStep a x ∧ dayStep a x ≤ a + 8726400000000000 := by unfold dayStep; omega
theorem daysEnd_bd : ∀ (a : Int) (l : List Int), a ≤ daysEnd a l ∧ daysEnd a l ≤ a + l.length * 8726400000000000
  | a, [] => by simp [daysEnd]
  | a, x :: l => by
    have h1 := daysEnd_bd (dayStep a x) l
    have h2 := dayStep_bd a x
    unfold daysEnd
    rw [List.length_cons]
    omega
theorem days_facts : ∀ (a : Int) (l : List Int), (∀ y ∈ daysL a l, a + 172800000000000 ≤ y.1 ∧ y.1 ≤ daysEnd a l ∧ (y.2 = 1 ∨ y.2 = -1)) ∧ (daysL a l).Pairwise fun x y => x.1 + 172800000000000 ≤ y.1
  | _, [] => ⟨by simp [daysL], .nil⟩
  | a, x :: l => by
    obtain ⟨h1, h2⟩ := days_facts (dayStep a x) l
    have h3 := dayStep_bd a x
    have h4 := daysEnd_bd (dayStep a x) l
    refine ⟨fun y hy => ?_, .cons (fun y hy => (h1 y hy).1) h2⟩
    show a + 172800000000000 ≤ y.1 ∧ y.1 ≤ daysEnd (dayStep a x) l ∧ (y.2 = 1 ∨ y.2 = -1)
    rcases List.mem_cons.1 hy with rfl | hy
    · refine ⟨h3.1, h4.1, ?_⟩
      show dayKind x = 1 ∨ dayKind x = -1
      unfold dayKind
      omega
    · have := h1 y hy
      exact ⟨by omega, this.2.1, this.2.2⟩
def lmadeL (l : List Int) : List (Int × Int) := daysL 86400000000000 (l.take 20)
def lmadeT (l : List Int) (base : Int) : LT := ⟨lmadeL l, 4611686018427387904, base⟩
theorem lmade_ok (l : List Int) {base : Int} (hb : -1000 ≤ base ∧ base ≤ 1000) : (lmadeT l base).ok ∧ (∀ x ∈ lmadeL l, 259200000000000 ≤ x.1 ∧ x.1 ≤ 200000000000000000) ∧ (lmadeL l).length ≤ 20 := by
  obtain ⟨h1, h2⟩ := days_facts 86400000000000 (l.take 20)
  have h3 := daysEnd_bd 86400000000000 (l.take 20)
  have h4 : (l.take 20).length ≤ 20 := by simp; omega
  have h5 : (lmadeL l).length ≤ 20 := by unfold lmadeL; rw [days_len]; exact h4
  refine ⟨⟨⟨by show (lmadeL l).length ≤ 32; omega, fun x hx => ?_, h2⟩, by show (0 : Int) ≤ 4611686018427387904; decide, by show (4611686018427387904 : Int) ≤ 4611686018427387904; decide, hb.1, hb.2⟩, fun x hx => ?_, h5⟩
  · have := h1 x hx
    exact ⟨by omega, by omega, this.2.2⟩
  · have := h1 x hx
    omega

def MadeTable (c : LT) (w : World) (e : Ending) (w' : World) : Prop :=
  ∃ g A cp, e = .returned (.tuple #[.pointer (some ⟨g, 0, none⟩), .slice A c.L.length cp]) ∧ c.at w' g ∧ RowIn w' A c.L.length 2 (pcells c.L) [] ∧ Stp [] w w' ∧ w.heap.size ≤ g ∧ c.L.length ≤ cp ∧ cp ≤ maxLen

set_option maxRecDepth 100000 in
set_option maxHeartbeats 2000000 in
theorem lmade_any (A : Option Addr) (n c : Nat) (l : List Int) (base : Int) (w : World) (hr : RowIn w A n 1 (l.map (Value.int .u8)) []) (hl : l.length = n) (hn : n ≤ 140737488351232) (hb : ∀ x ∈ l, 0 ≤ x ∧ x ≤ 255) (hba : -1000 ≤ base ∧ base ≤ 1000) :
    Calls Try.prog 13 #[.slice A n c, .int .i64 base] w (MadeTable (lmadeT l base) w) := by
  have P := Lib.hid (And.intro hr (And.intro hl (And.intro hb hba)))
  obtain ⟨i0, hi, hz0, hz1, hz2⟩ := info_parts leap_info
  clear hr hl hb hba
  go_enter Try.func13, Try.ntmps13
  go_wp2_with fail
  go_loopw [6, 7, 8] (fun v a i wr => ∃ k : Nat, k ≤ n ∧ k ≤ 20 ∧ i = .int .i64 k ∧ a = .int .i64 (daysEnd 86400000000000 (l.take k)) ∧ wr.ownsRow w.heap.size 34 2 v k (pcells (daysL 86400000000000 (l.take k))) ∧ Stp [] w wr) (fun _ _ i _ => n - (intOf i).toNat)
  case atStart => exact ⟨0, by omega, by omega, rfl, rfl, World.ownsRow_nil _ _ _ _, Stp.refl _ _⟩
  case round =>
    obtain ⟨k, hk, hk20, rfl, rfl, hown, ht⟩ := hrel
    have hend : (k = n ∨ k = 20) → lmadeL l = daysL 86400000000000 (l.take k) := fun h => by
      unfold lmadeL
      rcases h with h | h
      · have := P.out.2.1
        rcases Nat.lt_or_ge k 20 with h3 | h3
        · rw [List.take_of_length_le (by omega), List.take_of_length_le (by omega)]
        · rw [show k = 20 by omega]
      · rw [h]
    have hml : (daysL 86400000000000 (l.take k)).length = k := by rw [days_len]; have := P.out.2.1; simp; omega
    have hbd := daysEnd_bd 86400000000000 (l.take k)
    have htk : (l.take k).length = k := by have := P.out.2.1; simp; omega
    rw [htk] at hbd
    have HE := Lib.hid hend
    have HM := Lib.hid hml
    have HT := Lib.hid (And.intro hown ht)
    clear hend hml htk hown
    by_cases hlt : k < n ∧ k < 20
    · obtain ⟨hlt, h20⟩ := hlt
      obtain ⟨b, off, rfl, hbb, hbg, hcell⟩ := P.out.1.2 (by omega)
      have hkl : k < l.length := by have := P.out.2.1; omega
      have hc : wr.cell? ⟨b, off + k, none⟩ = some (.int .u8 l[k]) := ht.cell (hcell k _ (by rw [List.getElem?_map, List.getElem?_eq_getElem hkl]; rfl)) (by simp)
      have hbk := P.out.2.2.1 l[k] (List.getElem_mem _)
      have hs := days_snoc l[k] 86400000000000 (l.take k)
      rw [← List.take_succ_eq_append_getElem hkl] at hs
      clear hcell ht
      generalize l[k] = x at *
      generalize daysEnd 86400000000000 (l.take k) = a at *
      obtain ⟨b0, b1⟩ := hbk
      have HS := Lib.hid (show daysL 86400000000000 (l.take (k + 1)) = daysL 86400000000000 (l.take k) ++ [(a + (2 + x % 100) * 86400000000000, 1 - 2 * (x % 2))] ∧ daysEnd 86400000000000 (l.take (k + 1)) = a + (2 + x % 100) * 86400000000000 from hs)
      have a00 := hbd.1
      have a01 : a ≤ 190000000000000000 := by omega
      clear hs HE HM hbd
      go_wp2_with (at_builtin; refine wpList_append_own _ rfl _ _ 30 rfl w.heap.size 34 i0 (.agg #[.int .i64 0, .int .i64 0]) 2 16 Try.underlying30 hi hz0 hz1 hz2 rfl (by decide) _ _ _ rfl (HT.out.1.alloc _) ⟨wr.heap.size, 0, none⟩ 1 1 [.int .i64 (a + (2 + x % 100) * 86400000000000), .int .i64 (1 - 2 * (x % 2))] rfl rfl ?c1 ?c2 ?c3 ?c4 ?c5 ?_)
      case c1 =>
        intro j u hj
        match j, hj with
        | 0, hj => simp at hj; subst hj; simp [Addr.add]
        | 1, hj => simp at hj; subst hj; simp [Addr.add]
      case c2 => intro u hu; simp at hu; rcases hu with rfl | rfl <;> rfl
      case c3 => unfold maxLen; omega
      case c4 => omega
      case c5 => exact (show Stp [] w _ from HT.out.2.alloc _).size
      · intro v' w2 hown' hgrow _
        have R := Lib.hid (And.intro (show w2.ownsRow w.heap.size 34 2 v' (k + 1) (pcells (daysL 86400000000000 (l.take (k + 1)))) by
          rw [HS.out.1, pcells_append]
          exact hown') (show Stp [] w w2 from (HT.out.2.alloc _).grown hgrow (fun k hk => .inr (own_base HT.out.1 hk))))
        clear hown' hgrow HT hc
        go_wp2_with fail
        go_roundw
        case rel => exact ⟨k + 1, by omega, by omega, by go_num, by rw [HS.out.2], R.out.1, R.out.2⟩
        case measure => simp [intOf]; omega
    · have hkn : (¬ k < n ∨ k < n ∧ ¬ k < 20) ∧ (k = n ∨ k = 20) := by omega
      have e0 := (HE.out hkn.2).symm
      have mk := lmade_ok l P.out.2.2.2
      have hml2 := HM.out
      have hown := HT.out.1
      rw [e0] at hown hml2
      obtain ⟨A2, c2, rfl, k1, k2, hrow⟩ := own_form (G := []) hown (by simp)
      have nw := fun w h => lnew_ok A2 k c2 (lmadeT l base) w h hml2 mk.1
      have Q := Lib.hid (And.intro nw (And.intro hrow (And.intro HT.out.2 (And.intro mk.1 hml2))))
      have hc := hkn.1
      clear hkn e0 hown hrow nw ht mk hml2 HE HM hbd HT hlt
      have N : Hid (∀ w', RowIn w' A2 k 2 (pcells (lmadeL l)) [] → Calls Try.prog 18 #[.slice A2 k c2, .int .i64 4611686018427387904, .int .i64 base] w' (MadeLeap (lmadeT l base) w')) := Q.out.1
      have L2 : Hid ((lmadeT l base).L.length = k) := Q.out.2.2.2.2
      have R2 : Hid (RowIn wr A2 k 2 (pcells (lmadeT l base).L) [] ∧ Stp [] w wr) := ⟨Q.out.2.1, Q.out.2.2.1⟩
      clear Q
      generalize hM : lmadeT l base = M at *
      rcases hc with h | ⟨h, h2⟩
      all_goals
        go_wp2_with fail
        refine (N.out _ (by rw [show lmadeL l = M.L by rw [← hM]; rfl]; exact R2.out.1)).mono ?_
        rintro e w2 ⟨g, rfl, hat, s2, hg⟩
        clear hM
        go_wp2_with fail
        go_ret2
        exact ⟨g, A2, c2, by rw [L2.out]; rfl, hat, by rw [L2.out]; exact R2.out.1.stp s2, R2.out.2.trans s2, Nat.le_trans R2.out.2.size hg, by rw [L2.out]; exact k1, k2⟩
end Go.Proofs.Ytkdpndoamepcbaa
