/- smear: leaps told by gaps, and the table of them. -/
import Derived.Test.YtbjjfjgomkmdhaaSmearE
namespace Go.Proofs.Ytbjjfjgomkmdhaa
open Go.RowKit
set_option linter.unusedVariables false
set_option linter.unusedSimpArgs false

def gapStep (a : Int) (x : Int × Bool) : Int := a + x.1 % 8192 * 3600 * 1000000000
def gapKind (x : Int × Bool) : Int := if x.2 = true then -1 else 1
def gapsL : Int → List (Int × Bool) → List (Int × Int)
  | _, [] => []
  | a, x :: l => (gapStep a x, gapKind x) :: gapsL (gapStep a x + 172800000000000) l
def gapEnd : Int → List (Int × Bool) → Int
  | a, [] => a
  | a, x :: l => gapEnd (gapStep a x + 172800000000000) l
theorem gap_snoc (x : Int × Bool) : ∀ (a : Int) (l : List (Int × Bool)), gapsL a (l ++ [x]) = gapsL a l ++ [(gapStep (gapEnd a l) x, gapKind x)] ∧ gapEnd a (l ++ [x]) = gapStep (gapEnd a l) x + 172800000000000
  | a, [] => ⟨rfl, rfl⟩
  | a, y :: l => by
    have ih := gap_snoc x (gapStep a y + 172800000000000) l
    simp only [List.cons_append, gapsL, gapEnd]
    exact ⟨by rw [ih.1], ih.2⟩
theorem gap_len : ∀ (a : Int) (l : List (Int × Bool)), (gapsL a l).length = l.length
  | _, [] => rfl
  | a, x :: l => by simp only [gapsL, List.length_cons]; rw [gap_len]
theorem gapStep_bd (a : Int) (x : Int × Bool) : a ≤ gapStep a x ∧ gapStep a x ≤ a + 29487600000000000 := by unfold gapStep; omega
theorem gapEnd_bd : ∀ (a : Int) (l : List (Int × Bool)), a ≤ gapEnd a l ∧ gapEnd a l ≤ a + l.length * 29660400000000000
  | a, [] => by simp [gapEnd]
  | a, x :: l => by
    have h1 := gapEnd_bd (gapStep a x + 172800000000000) l
    have h2 := gapStep_bd a x
    unfold gapEnd
    rw [List.length_cons]
    omega
theorem gap_facts : ∀ (a : Int) (l : List (Int × Bool)), (∀ y ∈ gapsL a l, a ≤ y.1 ∧ y.1 + 172800000000000 ≤ gapEnd a l ∧ (y.2 = 1 ∨ y.2 = -1)) ∧ (gapsL a l).Pairwise fun x y => x.1 + 172800000000000 ≤ y.1
  | _, [] => ⟨by simp [gapsL], .nil⟩
  | a, x :: l => by
    obtain ⟨h1, h2⟩ := gap_facts (gapStep a x + 172800000000000) l
    have h3 := gapStep_bd a x
    have h4 := gapEnd_bd (gapStep a x + 172800000000000) l
    refine ⟨fun y hy => ?_, .cons (fun y hy => (h1 y hy).1) h2⟩
    show a ≤ y.1 ∧ y.1 + 172800000000000 ≤ gapEnd (gapStep a x + 172800000000000) l ∧ (y.2 = 1 ∨ y.2 = -1)
    rcases List.mem_cons.1 hy with rfl | hy
    · refine ⟨h3.1, h4.1, ?_⟩
      show gapKind x = 1 ∨ gapKind x = -1
      unfold gapKind
      split <;> simp
    · have := h1 y hy
      exact ⟨by omega, this.2.1, this.2.2⟩
def madeL (l : List (Int × Bool)) : List (Int × Int) := gapsL 86400000000000 (l.take 32)
theorem made_len (l : List (Int × Bool)) : (madeL l).length = (l.take 32).length := gap_len _ _
theorem made_len32 (l : List (Int × Bool)) : (madeL l).length ≤ 32 := by rw [made_len]; simp; omega
theorem made_ok (l : List (Int × Bool)) : LOk (madeL l) ∧ ∀ x ∈ madeL l, x.1 ≤ 1000000000000000000 := by
  obtain ⟨h1, h2⟩ := gap_facts 86400000000000 (l.take 32)
  have h3 := gapEnd_bd 86400000000000 (l.take 32)
  have h4 : (l.take 32).length ≤ 32 := by simp; omega
  refine ⟨⟨made_len32 l, fun x hx => ?_, h2⟩, fun x hx => ?_⟩
  · have := h1 x hx
    exact ⟨this.1, by omega, this.2.2⟩
  · have := h1 x hx
    omega

def gcells (l : List (Int × Bool)) : List Value := l.flatMap fun x => [.int .u16 x.1, .bool x.2]
theorem gcells_get (l : List (Int × Bool)) (k : Nat) (h : k < l.length) : (gcells l)[k * 2]? = some (.int .u16 l[k].1) ∧ (gcells l)[k * 2 + 1]? = some (.bool l[k].2) := by
  induction l generalizing k with
  | nil => simp at h
  | cons t l ih =>
    cases k with
    | zero => simp [gcells]
    | succ k =>
      have := ih k (by simpa using h)
      have e : gcells (t :: l) = .int .u16 t.1 :: .bool t.2 :: gcells l := rfl
      rw [e, Nat.succ_mul]
      exact this

theorem new_lok (A : Option Addr) (n c : Nat) (L : List (Int × Int)) (w : World) (h : RowIn w A n 2 (pcells L) []) (hl : L.length = n) (ok : LOk L) :
    Calls Try.prog 15 #[.slice A n c] w (MadeTab L w) :=
  new_ok A n c L w h hl (by rw [← hl]; exact ok.len) (fun x hx => by have := ok.each x hx; omega) ok.leaps

def MadeSmear (M : List (Int × Int)) (w : World) (e : Ending) (w' : World) : Prop :=
  ∃ g A c, e = .returned (.tuple #[.pointer (some ⟨g, 0, none⟩), .slice A M.length c]) ∧ tabAt M w' g ∧ RowIn w' A M.length 2 (pcells M) [] ∧ Stp [] w w' ∧ w.heap.size ≤ g ∧ M.length ≤ c ∧ c ≤ maxLen

set_option maxRecDepth 100000 in
set_option maxHeartbeats 2000000 in
theorem made_any (A : Option Addr) (n c : Nat) (l : List (Int × Bool)) (w : World) (hr : Reads w w.heap.size 2 A n (gcells l)) (hl : l.length = n) (hn : n * 4 ≤ 140737488351232) (hb : ∀ x ∈ l, 0 ≤ x.1 ∧ x.1 ≤ 65535) :
    Calls Try.prog 10 #[.slice A n c] w (MadeSmear (madeL l) w) := by
  have HL := Lib.hid hl
  have HR := Lib.hid hr
  have HB := Lib.hid hb
  clear hl hr hb
  obtain ⟨i0, hi, hz0, hz1, hz2⟩ := info_parts leap_info
  have hn1 : n ≤ 140737488351232 := by omega
  go_enter Try.func10, Try.ntmps10
  go_wp2_with fail
  go_loopw [4, 5, 13] (fun v a i wr => ∃ k : Nat, k ≤ n ∧ k ≤ 32 ∧ i = .int .i64 k ∧ a = .int .i64 (gapEnd 86400000000000 (l.take k)) ∧ wr.ownsRow w.heap.size 30 2 v k (pcells (gapsL 86400000000000 (l.take k))) ∧ Stp [] w wr) (fun _ _ i _ => n - (intOf i).toNat)
  case atStart => exact ⟨0, by omega, by omega, rfl, rfl, World.ownsRow_nil _ _ _ _, Stp.refl _ _⟩
  case round =>
    obtain ⟨k, hk, hk32, rfl, rfl, hown, ht⟩ := hrel
    have hend : (k = n ∨ k = 32) → madeL l = gapsL 86400000000000 (l.take k) := fun h => by
      unfold madeL
      rcases h with h | h
      · have := HL.out
        rcases Nat.lt_or_ge k 32 with h3 | h3
        · rw [List.take_of_length_le (by omega), List.take_of_length_le (by omega)]
        · rw [show k = 32 by omega]
      · rw [h]
    have hml : (gapsL 86400000000000 (l.take k)).length = k := by rw [gap_len]; have := HL.out; simp; omega
    have hbd := gapEnd_bd 86400000000000 (l.take k)
    have htk : (l.take k).length = k := by have := HL.out; simp; omega
    rw [htk] at hbd
    have HE := Lib.hid hend
    have HM := Lib.hid hml
    clear hend hml htk
    by_cases hlt : k < n
    · obtain ⟨b, off, rfl, hbb, hcell⟩ := HR.out.form (by omega) (by omega)
      have hkl : k < l.length := by have := HL.out; omega
      have hx := gcells_get l k hkl
      have hc1 : wr.cell? ⟨b, off + k * 2, none⟩ = some (.int .u16 l[k].1) := ht.cell (hcell _ _ hx.1) (by simp)
      have hc2 : wr.cell? ⟨b, off + k * 2 + 1, none⟩ = some (.bool l[k].2) := ht.cell (hcell _ _ hx.2) (by simp)
      have hbk := HB.out l[k] (List.getElem_mem _)
      have hs := gap_snoc l[k] 86400000000000 (l.take k)
      rw [← List.take_succ_eq_append_getElem hkl] at hs
      clear hx hcell
      generalize l[k] = x at *
      obtain ⟨h, o⟩ := x
      simp only at hc1 hc2 hbk
      by_cases h32 : k = 32
      · have h32' : ((k : Int) == 32) = true := by simp; omega
        clear hs hbk
        have e0 := (HE.out (.inr h32)).symm
        have mk := made_ok l
        have m32 := made_len32 l
        have hml2 := HM.out
        rw [e0] at hown hml2
        generalize madeL l = M at *
        obtain ⟨A2, c2, rfl, k1, k2, hrow⟩ := own_form (G := []) hown (by simp)
        have nw := fun w h => new_lok A2 k c2 M w h hml2 mk.1
        have P := Lib.hid (And.intro nw (And.intro hrow (And.intro ht (And.intro mk hml2))))
        clear h32 e0 hown hrow nw ht mk m32 hml2 HE HM hbd
        go_wp2_with fail
        refine (P.out.1 _ (by first | exact P.out.2.1 | exact P.out.2.1.alloc _)).mono ?_
        rintro e w2 ⟨g, rfl, hat, s2, hg⟩
        go_wp2_with fail
        go_ret2
        refine ⟨g, A2, c2, by rw [P.out.2.2.2.2]; rfl, hat, ?_, ?_, ?_, by rw [P.out.2.2.2.2]; exact k1, k2⟩
        · rw [P.out.2.2.2.2]
          exact (by first | exact P.out.2.1.stp s2 | exact (P.out.2.1.alloc _).stp s2)
        · first | exact P.out.2.2.1.trans s2 | exact (P.out.2.2.1.alloc _).trans s2
        · first | exact Nat.le_trans P.out.2.2.1.size hg | exact Nat.le_trans (P.out.2.2.1.alloc _).size hg
      · have h32' : ((k : Int) == 32) = false := by simp; omega
        generalize gapEnd 86400000000000 (l.take k) = a at *
        obtain ⟨h0, h1⟩ := hbk
        have HS := Lib.hid (show gapsL 86400000000000 (l.take (k + 1)) = gapsL 86400000000000 (l.take k) ++ [(a + h % 8192 * 3600 * 1000000000, gapKind (h, o))] ∧ gapEnd 86400000000000 (l.take (k + 1)) = a + h % 8192 * 3600 * 1000000000 + 172800000000000 from hs)
        have HT := Lib.hid (And.intro hown ht)
        have a00 := hbd.1
        have a01 : a ≤ 1000000000000000000 := by omega
        clear hs hown ht HE HM hbd
        cases o with
        | true =>
          go_wp2_with (at_builtin; refine wpList_append_own _ rfl _ _ 24 rfl w.heap.size 30 i0 (.agg #[.int .i64 0, .int .i64 0]) 2 16 Try.underlying24 hi hz0 hz1 hz2 rfl (by decide) _ _ _ rfl ((HT.out.1.alloc _).alloc _) ⟨wr.heap.size + 1, 0, none⟩ 1 1 [.int .i64 (a + h % 8192 * 3600 * 1000000000), .int .i64 (-1)] rfl rfl ?c1 ?c2 ?c3 ?c4 ?c5 ?_)
          case c1 =>
            intro j u hj
            match j, hj with
            | 0, hj => simp at hj; subst hj; simp [Addr.add]
            | 1, hj => simp at hj; subst hj; simp [Addr.add]
          case c2 => intro u hu; simp at hu; rcases hu with rfl | rfl <;> rfl
          case c3 => unfold maxLen; omega
          case c4 => omega
          case c5 => exact (show Stp [] w _ from (HT.out.2.alloc _).alloc _).size
          · intro v' w2 hown' hgrow _
            have R := Lib.hid (And.intro (show w2.ownsRow w.heap.size 30 2 v' (k + 1) (pcells (gapsL 86400000000000 (l.take (k + 1)))) by
              rw [HS.out.1, pcells_append]
              exact hown') (show Stp [] w w2 from ((HT.out.2.alloc _).alloc _).grown hgrow (fun k hk => .inr (own_base HT.out.1 hk))))
            clear hown' hgrow HT hc1 hc2
            go_wp2_with fail
            go_roundw
            case rel => exact ⟨k + 1, by omega, by omega, by go_num, by rw [HS.out.2], R.out.1, R.out.2⟩
            case measure => simp [intOf]; omega
        | false =>
          go_wp2_with (at_builtin; refine wpList_append_own _ rfl _ _ 24 rfl w.heap.size 30 i0 (.agg #[.int .i64 0, .int .i64 0]) 2 16 Try.underlying24 hi hz0 hz1 hz2 rfl (by decide) _ _ _ rfl ((HT.out.1.alloc _).alloc _) ⟨wr.heap.size + 1, 0, none⟩ 1 1 [.int .i64 (a + h % 8192 * 3600 * 1000000000), .int .i64 (1)] rfl rfl ?c1 ?c2 ?c3 ?c4 ?c5 ?_)
          case c1 =>
            intro j u hj
            match j, hj with
            | 0, hj => simp at hj; subst hj; simp [Addr.add]
            | 1, hj => simp at hj; subst hj; simp [Addr.add]
          case c2 => intro u hu; simp at hu; rcases hu with rfl | rfl <;> rfl
          case c3 => unfold maxLen; omega
          case c4 => omega
          case c5 => exact (show Stp [] w _ from (HT.out.2.alloc _).alloc _).size
          · intro v' w2 hown' hgrow _
            have R := Lib.hid (And.intro (show w2.ownsRow w.heap.size 30 2 v' (k + 1) (pcells (gapsL 86400000000000 (l.take (k + 1)))) by
              rw [HS.out.1, pcells_append]
              exact hown') (show Stp [] w w2 from ((HT.out.2.alloc _).alloc _).grown hgrow (fun k hk => .inr (own_base HT.out.1 hk))))
            clear hown' hgrow HT hc1 hc2
            go_wp2_with fail
            go_roundw
            case rel => exact ⟨k + 1, by omega, by omega, by go_num, by rw [HS.out.2], R.out.1, R.out.2⟩
            case measure => simp [intOf]; omega
    · have hkn : k = n := by omega
      have hkn' : ¬ (k : Int) < n := by omega
      have e0 := (HE.out (.inl hkn)).symm
      have mk := made_ok l
      have m32 := made_len32 l
      have hml2 := HM.out
      rw [e0] at hown hml2
      generalize madeL l = M at *
      obtain ⟨A2, c2, rfl, k1, k2, hrow⟩ := own_form (G := []) hown (by simp)
      have nw := fun w h => new_lok A2 k c2 M w h hml2 mk.1
      have P := Lib.hid (And.intro nw (And.intro hrow (And.intro ht (And.intro mk hml2))))
      clear hkn e0 hown hrow nw ht mk m32 hml2 HE HM hbd
      go_wp2_with fail
      refine (P.out.1 _ (by first | exact P.out.2.1 | exact P.out.2.1.alloc _)).mono ?_
      rintro e w2 ⟨g, rfl, hat, s2, hg⟩
      go_wp2_with fail
      go_ret2
      refine ⟨g, A2, c2, by rw [P.out.2.2.2.2]; rfl, hat, ?_, ?_, ?_, by rw [P.out.2.2.2.2]; exact k1, k2⟩
      · rw [P.out.2.2.2.2]
        exact (by first | exact P.out.2.1.stp s2 | exact (P.out.2.1.alloc _).stp s2)
      · first | exact P.out.2.2.1.trans s2 | exact (P.out.2.2.1.alloc _).trans s2
      · first | exact Nat.le_trans P.out.2.2.1.size hg | exact Nat.le_trans (P.out.2.2.1.alloc _).size hg
end Go.Proofs.Ytbjjfjgomkmdhaa
