/- smear: New, List, instant, and what a leap has taken. -/
import Derived.Test.YtbjjfjgomkmdhaaSmearA
namespace Go.Proofs.Ytbjjfjgomkmdhaa
open Go.RowKit
set_option linter.unusedVariables false
set_option linter.unusedSimpArgs false

theorem RowIn.reads {w : World} {A : Option Addr} {n size : Nat} {xs : List Value} {G : List Nat} (h : RowIn w A n size xs G) : Reads w w.heap.size size A n xs :=
  ⟨h.1, fun hn => by
    obtain ⟨b, off, e, hb, _, hc⟩ := h.2 hn
    refine ⟨⟨b, off, none⟩, e, hb, fun j u hu => ?_⟩
    have e : (⟨b, off, none⟩ : Addr).add j = ⟨b, off + j, none⟩ := by unfold Addr.add; split <;> simp_all
    rw [e]
    exact hc j u hu⟩
theorem RowIn.alloc {w : World} {A : Option Addr} {n size : Nat} {xs : List Value} {G : List Nat} (h : RowIn w A n size xs G) (o : Obj) : RowIn (w.alloc o) A n size xs G := h.stp ((Stp.refl _ _).alloc o)
theorem RowIn.drewN {w : World} {A : Option Addr} {n size : Nat} {xs : List Value} {G : List Nat} (h : RowIn w A n size xs G) (k : Nat) : RowIn (w.drewN k) A n size xs G := h

theorem own_base {w : World} {base : Nat} {e : TypeId} {size n : Nat} {v : Value} {xs : List Value} (h : w.ownsRow base e size v n xs) {k : Nat} (hk : v.ownBlock = some k) : base ≤ k := by
  rcases h.2 with ⟨rfl, _⟩ | ⟨g, cap, cur, rfl, hb, _⟩
  · simp [Value.ownBlock] at hk
  · simp [Value.ownBlock] at hk
    omega

/-- A table of leaps in memory. -/
def tabAt (L : List (Int × Int)) (w : World) (g : Nat) : Prop :=
  ∃ (A : Option Addr) (c : Nat), w.heap[g]? = some (.cells #[.slice A L.length c] 61 (0, 0)) ∧ L.length ≤ c ∧ c ≤ maxLen ∧ RowIn w A L.length 2 (pcells L) []
theorem tabAt.stp {L : List (Int × Int)} {w w' : World} {g : Nat} (h : tabAt L w g) (hs : Stp [] w w') : tabAt L w' g := by
  obtain ⟨A, c, h1, h2, h3, h4⟩ := h
  exact ⟨A, c, hs.at h1 (by simp), h2, h3, h4.stp hs⟩
theorem tabAt.alloc {L : List (Int × Int)} {w : World} {g : Nat} (h : tabAt L w g) (o : Obj) : tabAt L (w.alloc o) g := h.stp ((Stp.refl _ _).alloc o)
theorem tabAt.lt {L : List (Int × Int)} {w : World} {g : Nat} (h : tabAt L w g) : g < w.heap.size := by
  obtain ⟨A, c, h1, _⟩ := h
  exact lt_of_at h1
def MadeTab (L : List (Int × Int)) (w : World) (e : Ending) (w' : World) : Prop :=
  ∃ g, e = .returned (.tuple #[.pointer (some ⟨g, 0, none⟩), .int .i64 0]) ∧ tabAt L w' g ∧ Stp [] w w' ∧ w.heap.size ≤ g

theorem new_full (A : Option Addr) (n c : Nat) (w : World) (hn : 32 < n) (hn2 : n ≤ 1000000000000) :
    Calls Try.prog 15 #[.slice A n c] w fun e w' => e = .returned (.tuple #[.pointer none, .int .i64 7]) ∧ w' = w := by
  go_enter Try.func15, Try.ntmps15
  go_wp2
  go_ret2
  exact ⟨rfl, rfl⟩
theorem new_bad (A : Option Addr) (n c : Nat) (L : List (Int × Int)) (w : World) (h : RowIn w A n 2 (pcells L) []) (hl : L.length = n) (hn : n ≤ 32) (hb : ∀ x ∈ L, (-9223372036854775808 ≤ x.1 ∧ x.1 ≤ 9223372036854775807) ∧ (-9223372036854775808 ≤ x.2 ∧ x.2 ≤ 9223372036854775807)) (hL : leapsS 86400000000000 L = false) :
    Calls Try.prog 15 #[.slice A n c] w fun e w' => e = .returned (.tuple #[.pointer none, .int .i64 1]) ∧ Stp [] w w' := by
  have l1 := fun w h => leaps_any A n c L w h hl (by omega) hb
  rw [hL] at l1
  have P := Lib.hid (And.intro l1 h)
  clear l1 h hL hl hb
  go_enter Try.func15, Try.ntmps15
  go_wp2_with fail
  refine (P.out.1 _ P.out.2).mono ?_
  rintro e w1 ⟨rfl, s1⟩
  go_wp2_with fail
  go_ret2
  exact ⟨rfl, s1⟩
theorem new_ok (A : Option Addr) (n c : Nat) (L : List (Int × Int)) (w : World) (h : RowIn w A n 2 (pcells L) []) (hl : L.length = n) (hn : n ≤ 32) (hb : ∀ x ∈ L, (-9223372036854775808 ≤ x.1 ∧ x.1 ≤ 9223372036854775807) ∧ (-9223372036854775808 ≤ x.2 ∧ x.2 ≤ 9223372036854775807)) (hL : leapsS 86400000000000 L = true) :
    Calls Try.prog 15 #[.slice A n c] w (MadeTab L w) := by
  have l1 := fun w h => leaps_any A n c L w h hl (by omega) hb
  rw [hL] at l1
  have c1 := fun w h => clone_any A n c (pcells L) w h (by omega) (pcells_one L)
  have P := Lib.hid (And.intro l1 (And.intro h (And.intro c1 hl)))
  clear l1 h hL hl hb c1
  go_enter Try.func15, Try.ntmps15
  go_wp2_with fail
  refine (P.out.1 _ P.out.2.1).mono ?_
  rintro e w1 ⟨rfl, s1⟩
  go_wp2_with fail
  refine (P.out.2.2.1 _ (by exact (P.out.2.1.stp s1).reads)).mono ?_
  rintro e w2 ⟨v, rfl, hown, s2⟩
  obtain ⟨A2, c2, rfl, k1, k2, hrow⟩ := own_form (G := []) hown (by simp)
  go_wp2_with fail
  go_ret2
  refine ⟨w2.heap.size, rfl, ⟨A2, c2, ?_, ?_, k2, ?_⟩, (s1.trans s2).alloc _, (s1.trans s2).size⟩
  · rw [P.out.2.2.2]; exact new_at _ _
  · rw [P.out.2.2.2]; exact k1
  · rw [P.out.2.2.2]; exact hrow.alloc _

theorem list_any (g : Nat) (L : List (Int × Int)) (w : World) (h : tabAt L w g) (hl : L.length ≤ 32) :
    Calls Try.prog 22 #[.pointer (some ⟨g, 0, none⟩)] w (Cloned L.length (pcells L) w) := by
  obtain ⟨A, c, h1, h2, h3, h4⟩ := h
  have c0 := cell_at h1 0
  have c1 := clone_any A L.length c (pcells L) w h4.reads (by omega) (pcells_one L)
  have P := Lib.hid c1
  clear h1 h4 c1
  simp at c0
  go_enter Try.func22, Try.ntmps22
  go_wp2_with fail
  refine P.out.mono ?_
  rintro e w2 ⟨v, rfl, hown, s2⟩
  go_wp2_with fail
  go_ret
  exact ⟨v, rfl, hown, s2⟩
theorem list_nil (w : World) : Calls Try.prog 22 #[.pointer none] w fun e w' => e = .returned (.slice none 0 0) ∧ w' = w := by
  go_enter Try.func22, Try.ntmps22
  go_wp2
  go_ret
  exact ⟨rfl, rfl⟩
theorem inst_any (t : Int) (w : World) : Calls Try.prog 26 #[.int .i64 t] w fun e w' => e = .returned (.int .i64 (instS t)) ∧ w' = w := by
  have c1 := fun w => clamp_any t 0 4611686018427387904 w
  have e : clampS t 0 4611686018427387904 = instS t := rfl
  rw [e] at c1
  have P := Lib.hid c1
  clear c1 e
  go_enter Try.func26, Try.ntmps26
  go_wp2_with fail
  refine (P.out _).mono ?_
  rintro e w1 ⟨rfl, rfl⟩
  go_wp2_with fail
  go_ret
  exact ⟨rfl, rfl⟩
end Go.Proofs.Ytbjjfjgomkmdhaa
