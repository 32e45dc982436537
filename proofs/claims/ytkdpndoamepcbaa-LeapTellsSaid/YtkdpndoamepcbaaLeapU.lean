/- leap: New of both, whatever it is given; Add where New answers an error. -/
import Derived.Test.YtkdpndoamepcbaaLeapT
import Derived.Test.YtkdpndoamepcbaaRefNew
import Derived.Deep.RegionHeld3
namespace Go.Proofs.Ytkdpndoamepcbaa
open Go.RowKit
set_option linter.unusedVariables false
set_option linter.unusedSimpArgs false

set_option maxHeartbeats 2000000 in
theorem ladd_err (g : Nat) (c : LT) (y1 y2 ex er : Int) (w : World) (her : er ≠ 0) (h : c.at w g) (ok : c.ok) (NW : Hid (∀ w A cp, RowIn w A (c.L.length + 1) 2 (pcells c.L ++ [.int .i64 y1, .int .i64 y2]) [] → Calls Try.prog 18 #[.slice A (c.L.length + 1) cp, .int .i64 ex, .int .i64 c.base] w fun e w' => e = .returned (.tuple #[.pointer none, .int .i64 er]) ∧ Stp [] w w')) :
    Calls Try.prog 23 #[.pointer (some ⟨g, 0, none⟩), .agg #[.int .i64 y1, .int .i64 y2], .int .i64 ex] w fun e w' => e = .returned (.int .i64 er) ∧ Stp [] w w' := by
  have hne1 : (er == 0) = false := by simp [her]
  have hne2 : (er != 0) = true := by simp [her]
  obtain ⟨A, cp, h0, h1, h2, h3, h4, h5, h6⟩ := h.cells
  have hg := h.lt
  have P := Lib.hid (And.intro h ok)
  have z0 := fun o => (World.cell?_alloc_lt w o ⟨g, 0, none⟩ hg).trans h0
  have z1 := fun o => (World.cell?_alloc_lt w o ⟨g, 1, none⟩ hg).trans h1
  have z2 := fun o => (World.cell?_alloc_lt w o ⟨g, 2, none⟩ hg).trans h2
  have z3 := fun o => (World.cell?_alloc_lt w o ⟨g, 3, none⟩ hg).trans h3
  go_enter Try.func23, Try.ntmps23
  go_wp2_with fail
  refine (lnone_ptr _ _ (by first | exact h3 | exact z3 _)).mono ?_
  rintro e w1 ⟨rfl, rfl⟩
  go_wp2_with fail
  have LI := Lib.hid (fun w h => llist_any g c w h (by have := ok.leaps.len; omega))
  have AL := Lib.hid (h.alloc (.cells #[.int .i64 y1, .int .i64 y2] 34))
  obtain ⟨i0, hi, hz0, hz1, hz2⟩ := info_parts leap_info
  have Z := Lib.hid (And.intro z0 (And.intro z1 (And.intro z2 z3)))
  have hb := Blk.new w 34 #[.int .i64 y1, .int .i64 y2]
  have b0 : (w.alloc (.cells #[.int .i64 y1, .int .i64 y2] 34)).cell? ⟨w.heap.size, 0, none⟩ = some (.int .i64 y1) := hb.cell 0
  have b1 : (w.alloc (.cells #[.int .i64 y1, .int .i64 y2] 34)).cell? ⟨w.heap.size, 1, none⟩ = some (.int .i64 y2) := hb.cell 1
  have y2' := z2 (.cells #[.int .i64 y1, .int .i64 y2] 34)
  generalize hW : w.alloc (.cells #[.int .i64 y1, .int .i64 y2] 34) = W at *
  clear z0 z1 z2 z3 h0 h1 h2 h3 hb
  have wW : Stp [] w W := by
    rw [← hW]
    exact (Stp.refl _ _).alloc _
  have hl32 := ok.leaps.len
  have K : ∀ w', Stp [] W w' → w'.cell? ⟨g, 2, none⟩ = some (.int .i64 c.base) ∧ w'.cell? ⟨w.heap.size, 0, none⟩ = some (.int .i64 y1) ∧ w'.cell? ⟨w.heap.size, 1, none⟩ = some (.int .i64 y2) ∧ Stp [] W w' := fun w' st => ⟨st.cell y2' (by simp), st.cell b0 (by simp), st.cell b1 (by simp), st⟩
  go_region_held3 (fun w' => w'.cell? ⟨g, 2, none⟩ = some (.int .i64 c.base) ∧ w'.cell? ⟨w.heap.size, 0, none⟩ = some (.int .i64 y1) ∧ w'.cell? ⟨w.heap.size, 1, none⟩ = some (.int .i64 y2) ∧ Stp [] W w')
    (first | (go_split_ands; refine K _ ?_; first | assumption | exact (Stp.refl _ _).drew | exact Stp.refl _ _ | exact Stp.trans (by assumption) s9 | exact Stp.trans (by assumption) s11 | exact Stp.alloc (by assumption) _ | exact Stp.grown (by assumption) grow10 (fun k hk => .inr (own_base own9 hk)) | exact Stp.grown (by assumption) grow10 (fun k hk => .inr (Nat.le_trans (Nat.le_trans (Nat.le_succ _) (by simp [World.drew])) (own_base own9 hk))) | exact Stp.grown (Stp.alloc (by assumption) _) grow10 (fun k hk => .inr (own_base own9 hk))))
    (first
      | (go_at_call 21; (with_reducible refine (LI.out _ (by first | exact AL.out | exact AL.out.drew | exact AL.out.alloc _ | exact (AL.out.alloc _).drew | (refine AL.out.stp ?_; assumption))).mono ?_); rintro e w9 ⟨v9, rfl, own9, s9⟩)
      | (refine step_append_any _ rfl (.tmp 13) (.tmp 15) 30 rfl _ 34 i0 (.agg #[.int .i64 0, .int .i64 0]) 2 16 Try.underlying30 hi hz0 hz1 hz2 rfl (by decide) v9 c.L.length (pcells c.L) rfl (own9.alloc _) _ _ 1 1 [.int .i64 y1, .int .i64 y2] rfl (reads_built w9 y1 y2) (two_one y1 y2) (by unfold maxLen; omega) (by omega) (Nat.le_trans s9.size ((Stp.refl [] w9).alloc _).size) ?_; intro v10 w10 own10 grow10 _; obtain ⟨A10, c10, rfl, k10, k11, row10⟩ := own_form (G := []) own10 (by simp))
      | (go_at_call 18; (with_reducible refine (NW.out _ _ _ row10).mono ?_); rintro e w11 ⟨rfl, s11⟩)
      | (refine step_append_any _ rfl (.tmp 13) (.tmp 15) 30 rfl _ 34 i0 (.agg #[.int .i64 0, .int .i64 0]) 2 16 Try.underlying30 hi hz0 hz1 hz2 rfl (by decide) v9 c.L.length (pcells c.L) rfl own9 _ _ 1 1 [.int .i64 y1, .int .i64 y2] rfl (by exact ((reads_built W y1 y2).drew).stp (G := []) s9 (by simp [World.drew]) (by simp)) (two_one y1 y2) (by unfold maxLen; omega) (by omega) s9.size ?_; intro v10 w10 own10 grow10 _; obtain ⟨A10, c10, rfl, k10, k11, row10⟩ := own_form (G := []) own10 (by simp)))
  all_goals
    go_wp2_with fail
    go_ret
    exact ⟨rfl, wW.trans (by first | assumption | (go_split_ands; assumption))⟩

theorem lnew_arg (A : Option Addr) (n cp : Nat) (L : List (Int × Int)) (ex base : Int) (w : World) (h : RowIn w A n 2 (pcells L) []) (hl : L.length = n) (ok : LOk L) (hx : ex < 0 ∨ 4611686018427387904 < ex ∨ base < -1000 ∨ 1000 < base) :
    Calls Try.prog 18 #[.slice A n cp, .int .i64 ex, .int .i64 base] w fun e w' => e = .returned (.tuple #[.pointer none, .int .i64 1]) ∧ Stp [] w w' := by
  have n1 := Lib.hid (new_lok A n cp L w h hl ok)
  clear h hl ok
  have hc : ex < 0 ∨ (¬ ex < 0 ∧ 4611686018427387904 < ex) ∨ (¬ ex < 0 ∧ ¬ 4611686018427387904 < ex ∧ base < -1000) ∨ (¬ ex < 0 ∧ ¬ 4611686018427387904 < ex ∧ ¬ base < -1000 ∧ 1000 < base) := by omega
  clear hx
  rcases hc with h1 | ⟨h1, h2⟩ | ⟨h1, h2, h3⟩ | ⟨h1, h2, h3, h4⟩
  all_goals
    go_enter Try.func18, Try.ntmps18
    go_wp2_with fail
    refine n1.out.mono ?_
    rintro e w1 ⟨g1, rfl, t1, s1, _⟩
    go_wp2_with fail
    go_ret2
    exact ⟨rfl, s1⟩
/-- The error of New. -/
def newS (n : Nat) (L : List (Int × Int)) (ex base : Int) : Int := if refNewS n L ≠ 0 then refNewS n L else if ex < 0 ∨ 4611686018427387904 < ex ∨ base < -1000 ∨ 1000 < base then 1 else 0
theorem newS_zero {n : Nat} {L : List (Int × Int)} {ex base : Int} (hl : L.length = n) (h : newS n L ex base = 0) : (LT.mk L ex base).ok := by
  unfold newS refNewS at h
  by_cases h1 : 32 < n
  · simp [h1] at h
  · simp only [if_neg h1] at h
    by_cases h2 : leapsS 86400000000000 L = true
    · simp [h2] at h
      have ok : LOk L := LOk.of h2 (by omega)
      exact ⟨ok, by simp; omega, by simp; omega, by simp; omega, by simp; omega⟩
    · simp [h2] at h
theorem lnew_err (A : Option Addr) (n cp : Nat) (L : List (Int × Int)) (ex base : Int) (w : World) (h : RowIn w A n 2 (pcells L) []) (hl : L.length = n) (hn : n ≤ 1000000) (hb : ∀ x ∈ L, (-9223372036854775808 ≤ x.1 ∧ x.1 ≤ 9223372036854775807) ∧ (-9223372036854775808 ≤ x.2 ∧ x.2 ≤ 9223372036854775807)) (he : newS n L ex base ≠ 0) :
    Calls Try.prog 18 #[.slice A n cp, .int .i64 ex, .int .i64 base] w fun e w' => e = .returned (.tuple #[.pointer none, .int .i64 (newS n L ex base)]) ∧ Stp [] w w' := by
  by_cases h1 : 32 < n
  · have e : newS n L ex base = 7 := by unfold newS refNewS; simp [h1]
    rw [e]
    exact (lnew_full A n cp ex base w h1 (by omega)).mono fun e w' ⟨h1, h2⟩ => ⟨h1, by rw [h2]; exact Stp.refl _ _⟩
  · by_cases h2 : leapsS 86400000000000 L = true
    · have ok : LOk L := LOk.of h2 (by omega)
      have h3 : ex < 0 ∨ 4611686018427387904 < ex ∨ base < -1000 ∨ 1000 < base := by
        rcases Decidable.em (ex < 0 ∨ 4611686018427387904 < ex ∨ base < -1000 ∨ 1000 < base) with h3 | h3
        · exact h3
        · exact absurd (by unfold newS refNewS; simp only [if_neg h1, if_pos h2, if_neg h3]; rfl) he
      have e : newS n L ex base = 1 := by unfold newS refNewS; simp only [if_neg h1, if_pos h2, if_pos h3]; rfl
      rw [e]
      exact lnew_arg A n cp L ex base w h hl ok h3
    · have e : newS n L ex base = 1 := by unfold newS refNewS; simp [h1, h2]
      rw [e]
      exact lnew_bad A n cp L ex base w h hl (by omega) hb (by simpa using h2)

/-- What the document's New answers, with all of it in blocks that are new. -/
def MadeRefF (c : LT) (w : World) (e : Ending) (w' : World) : Prop :=
  ∃ (g : Nat) (A : Option Addr) (cp : Nat), e = .returned (.tuple #[.pointer (some ⟨g, 0, none⟩), .int .i64 0]) ∧ w'.heap[g]? = some (.cells #[.slice A c.L.length cp, .int .i64 c.ex, .int .i64 c.base] 54 (0, 0)) ∧ c.L.length ≤ cp ∧ cp ≤ maxLen ∧ RowIn w' A c.L.length 2 (pcells c.L) [] ∧ (∀ ad, A = some ad → w.heap.size ≤ ad.block ∧ ad.block ≠ g) ∧ Stp [] w w' ∧ w.heap.size ≤ g
theorem rlnew_err (A : Option Addr) (n cp : Nat) (L : List (Int × Int)) (ex base : Int) (w : World) (h : RowIn w A n 2 (pcells L) []) (hl : L.length = n) (hn : n ≤ 1000000) (hb : ∀ x ∈ L, (-9223372036854775808 ≤ x.1 ∧ x.1 ≤ 9223372036854775807) ∧ (-9223372036854775808 ≤ x.2 ∧ x.2 ≤ 9223372036854775807)) (he : newS n L ex base ≠ 0) :
    Calls Try.prog 19 #[.slice A n cp, .int .i64 ex, .int .i64 base] w fun e w' => e = .returned (.tuple #[.pointer none, .int .i64 (newS n L ex base)]) ∧ Stp [] w w' := by
  have n1 := Lib.hid (refnew_any A n cp L w h hl hn hb)
  obtain ⟨r, hr⟩ : ∃ r, refNewS n L = r := ⟨_, rfl⟩
  obtain ⟨s, hs⟩ : ∃ s, newS n L ex base = s := ⟨_, rfl⟩
  rw [hr] at n1
  rw [hs] at he ⊢
  unfold newS at hs
  rw [hr] at hs
  clear h hl hb hr
  by_cases h0 : r = 0
  · subst h0
    rw [if_neg (by simp)] at hs
    by_cases hx : ex < 0 ∨ 4611686018427387904 < ex ∨ base < -1000 ∨ 1000 < base
    · rw [if_pos hx] at hs
      subst hs
      have hc : ex < 0 ∨ (¬ ex < 0 ∧ 4611686018427387904 < ex) ∨ (¬ ex < 0 ∧ ¬ 4611686018427387904 < ex ∧ base < -1000) ∨ (¬ ex < 0 ∧ ¬ 4611686018427387904 < ex ∧ ¬ base < -1000 ∧ 1000 < base) := by omega
      clear hx he
      rcases hc with h1 | ⟨h1, h2⟩ | ⟨h1, h2, h3⟩ | ⟨h1, h2, h3, h4⟩
      all_goals
        go_enter Try.func19, Try.ntmps19
        go_wp2_with fail
        refine n1.out.mono ?_
        rintro e w1 ⟨rfl, s1⟩
        go_wp2_with fail
        go_ret2
        exact ⟨rfl, s1⟩
    · rw [if_neg hx] at hs
      exact absurd hs.symm he
  · rw [if_pos h0] at hs
    subst hs
    have hne1 : (r == 0) = false := by simp [he]
    have hne2 : (r != 0) = true := by simp [he]
    go_enter Try.func19, Try.ntmps19
    go_wp2_with fail
    refine n1.out.mono ?_
    rintro e w1 ⟨rfl, s1⟩
    go_wp2_with fail
    go_ret2
    exact ⟨rfl, s1⟩
set_option maxHeartbeats 2000000 in
theorem rlnew_ok (A : Option Addr) (n cp : Nat) (c : LT) (w : World) (h : RowIn w A n 2 (pcells c.L) []) (hl : c.L.length = n) (ok : c.ok) :
    Calls Try.prog 19 #[.slice A n cp, .int .i64 c.ex, .int .i64 c.base] w (MadeRefF c w) := by
  obtain ⟨i0, hi, hz0, hz1, hz2⟩ := info_parts leap_info
  have n1 := refnew_any A n cp c.L w h hl (by have := ok.leaps.len; omega) (fun x hx => by have := ok.leaps.each x hx; omega)
  have e0 : refNewS n c.L = 0 := by unfold refNewS; rw [if_neg (by have := ok.leaps.len; omega), if_pos ok.leaps.leaps]
  rw [e0] at n1
  have P := Lib.hid (And.intro n1 (And.intro h hl))
  have hl32 := ok.leaps.len
  obtain ⟨L, ex, base⟩ := c
  obtain ⟨_, e0, e1, b0, b1⟩ := ok
  simp only at e0 e1 b0 b1 hl32
  clear n1 h
  go_enter Try.func19, Try.ntmps19
  go_wp2_with fail
  refine P.out.1.mono ?_
  rintro e w1 ⟨rfl, s1⟩
  have bx := Blk.new w1 54 #[.slice none 0 0, .int .i64 ex, .int .i64 base]
  have BX := Lib.hid bx
  have RR := Lib.hid ((P.out.2.1.stp s1).reads.alloc (Nat.le_refl _) (.cells #[.slice none 0 0, .int .i64 ex, .int .i64 base] 54))
  have S1 := Lib.hid (s1.alloc (.cells #[.slice none 0 0, .int .i64 ex, .int .i64 base] 54))
  have sz := s1.size
  clear bx s1
  go_wp2_with (at_builtin; refine wpList_append_any _ rfl _ _ 30 rfl w.heap.size 34 i0 (.agg #[.int .i64 0, .int .i64 0]) 2 16 Try.underlying30 hi hz0 hz1 hz2 rfl (by decide) _ 0 [] rfl (World.ownsRow_nil _ _ _ _) w1.heap.size A n cp (pcells L) rfl RR.out (pcells_one L) (by unfold maxLen; omega) (by omega) (by simp; omega) ?_)
  intro v' w2 hown' hgrow _
  have b2 := BX.out.grown hgrow (by simp [Value.ownBlock])
  have ne3 := own_blk_ne hown' b2 (by decide)
  have st2 := Lib.hid (S1.out.grown hgrow (fun k hk => by simp [Value.ownBlock] at hk))
  have hown2 := own_far hown' (p := ⟨w1.heap.size, 0, none⟩) ne3
  have ob := fun k hk => own_base (k := k) hown' hk
  obtain ⟨A2, c2, rfl, e1', e2', e3'⟩ := own_form (G := []) hown' (by simp)
  have y0 := b2.cell 0
  have yf0 := b2.frozen 0
  simp only [List.getElem?_toArray, List.getElem?_cons_zero] at y0
  obtain ⟨A3, c3, e4, _, _, row3⟩ := own_form (G := []) (hown2 (.slice A2 (0 + n) c2)) (by simp)
  injection e4 with e5 e6 e7
  subst e5
  subst e7
  have fin := b2.set_ 0 (.slice A2 (0 + n) c2)
  have F := Lib.hid (show MadeRefF ⟨L, ex, base⟩ w (.returned (.tuple #[.pointer (some ⟨w1.heap.size, 0, none⟩), .int .i64 0])) (w2.setCell ⟨w1.heap.size, 0, none⟩ (.slice A2 (0 + n) c2)) from
    ⟨w1.heap.size, A2, c2, rfl, by show _ = some (Obj.cells #[.slice A2 L.length c2, .int .i64 ex, .int .i64 base] _ (0, 0)); rw [hl]; have := fin; rw [Nat.zero_add] at this ⊢; exact this, by show L.length ≤ c2; omega, e2', by show RowIn _ A2 L.length 2 (pcells L) []; rw [hl]; rw [Nat.zero_add] at row3 ⊢; exact row3,
      fun ad he => by
        subst he
        refine ⟨ob ad.block rfl, fun h => ne3 ?_⟩
        show some ad.block = some w1.heap.size
        rw [h],
      st2.out.setCell (p := ⟨w1.heap.size, 0, none⟩) (.inr sz) _, sz⟩)
  clear hown' hgrow ne3 st2 hown2 ob e1' e2' e3' row3 fin b2 BX RR S1 P
  have f := F.out
  rw [Nat.zero_add] at f
  go_wp2_with fail
  go_ret2
  exact f
end Go.Proofs.Ytkdpndoamepcbaa
