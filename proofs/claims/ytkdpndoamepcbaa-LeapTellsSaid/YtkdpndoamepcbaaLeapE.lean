/- leap: Even. -/
import Derived.Test.YtkdpndoamepcbaaLeapD
namespace Go.Proofs.Ytkdpndoamepcbaa
open Go.RowKit
set_option linter.unusedVariables false
set_option linter.unusedSimpArgs false

def offK (c : LT) (k : Nat) : Int := c.base + kindS (c.L.take k)
def EvenPost (c : LT) (label : Int) (ins : Bool) (w : World) (e : Ending) (w' : World) : Prop :=
  Stp [] w w' ∧ ((∃ u, e = .returned (.tuple #[.int .i64 u, .bool true]) ∧ hasS c label ins u) ∨
    (e = .returned (.tuple #[.int .i64 0, .bool false]) ∧ ∀ k, k ≤ c.L.length → ¬ hasS c label ins (label + offK c k * 1000000000)))

set_option maxRecDepth 100000 in
set_option maxHeartbeats 2000000 in
theorem even_walk (g : Nat) (c : LT) (label : Int) (ins : Bool) (w : World) (h : c.at w g) (ok : c.ok) (hlb : -4611690000000000000 ≤ label ∧ label ≤ 4611690000000000000) :
    Calls Try.prog 15 #[.pointer (some ⟨g, 0, none⟩), .int .i64 label, .bool ins] w (EvenPost c label ins w) := by
  have hg := h.lt
  have bx1 : Blk (((w.alloc (.cells #[.pointer (some ⟨g, 0, none⟩)] 29)).alloc (.cells #[.int .i64 label] 2)).alloc (.cells #[.bool ins] 4)) w.heap.size 29 #[.pointer (some ⟨g, 0, none⟩)] := ((Blk.new w _ _).alloc _).alloc _
  have bx2 : Blk (((w.alloc (.cells #[.pointer (some ⟨g, 0, none⟩)] 29)).alloc (.cells #[.int .i64 label] 2)).alloc (.cells #[.bool ins] 4)) (w.heap.size + 1) 2 #[.int .i64 label] := by
    have := Blk.new (w.alloc (.cells #[.pointer (some ⟨g, 0, none⟩)] 29)) 2 #[.int .i64 label]
    rw [World.size_alloc] at this
    exact this.alloc _
  have bx3 : Blk (((w.alloc (.cells #[.pointer (some ⟨g, 0, none⟩)] 29)).alloc (.cells #[.int .i64 label] 2)).alloc (.cells #[.bool ins] 4)) (w.heap.size + 1 + 1) 4 #[.bool ins] := by
    have := Blk.new ((w.alloc (.cells #[.pointer (some ⟨g, 0, none⟩)] 29)).alloc (.cells #[.int .i64 label] 2)) 4 #[.bool ins]
    rwa [World.size_alloc, World.size_alloc] at this
  have hA : c.at (((w.alloc (.cells #[.pointer (some ⟨g, 0, none⟩)] 29)).alloc (.cells #[.int .i64 label] 2)).alloc (.cells #[.bool ins] 4)) g := ((h.alloc _).alloc _).alloc _
  have hst : Stp [] w (((w.alloc (.cells #[.pointer (some ⟨g, 0, none⟩)] 29)).alloc (.cells #[.int .i64 label] 2)).alloc (.cells #[.bool ins] 4)) := (((Stp.refl _ _).alloc _).alloc _).alloc _
  have HB := Lib.hid (And.intro bx1 (And.intro bx2 (And.intro bx3 (And.intro hA (And.intro hst ok)))))
  clear bx1 bx2 bx3 hA hst h
  go_enter Try.func15, Try.ntmps15
  go_wp2_with fail
  refine (lnone_ptr _ _ (by obtain ⟨A, cp, h0, h1, h2, h3, _⟩ := HB.out.2.2.2.1.cells; exact h3)).mono ?_
  rintro e w1 ⟨rfl, rfl⟩
  obtain ⟨A, cp, h0, h1, h2, h3, h4, h5, h6⟩ := HB.out.2.2.2.1.cells
  generalize hW : ((w.alloc (.cells #[.pointer (some ⟨g, 0, none⟩)] 29)).alloc (.cells #[.int .i64 label] 2)).alloc (.cells #[.bool ins] 4) = W at *
  clear hW h3
  have p1 : W.cell? ⟨w.heap.size, 0, none⟩ = some (.pointer (some ⟨g, 0, none⟩)) := HB.out.1.cell 0
  have H6 := Lib.hid h6
  have C0 := Lib.hid (And.intro h0 p1)
  clear h6
  go_wp2_with fail
  clear h2 p1 h0
  have b0 := ok.b0
  have b1 := ok.b1
  go_loopw [9, 10] (fun v i wr => ∃ k : Nat, k ≤ c.L.length ∧ i = .int .i64 k ∧ v = .int .i64 (c.base + kindS (c.L.take k)) ∧ Hid (∀ j, j < k → ¬ hasS c label ins (label + offK c j * 1000000000)) ∧ Stp [] W wr) (fun _ i _ => c.L.length - (intOf i).toNat)
  case atStart => exact ⟨0, Nat.zero_le _, rfl, by simp [kindS], fun j hj => absurd hj (by omega), Stp.refl _ _⟩
  case round =>
    obtain ⟨k, hk, rfl, rfl, NO, ht⟩ := hrel
    have tb := take_kind_bd ok.leaps k
    have hl32 := ok.leaps.len
    obtain ⟨l0, l1⟩ := hlb
    have eo : offK c k = c.base + kindS (c.L.take k) := rfl
    obtain ⟨o, ho⟩ : ∃ o, c.base + kindS (c.L.take k) = o := ⟨_, rfl⟩
    rw [ho] at eo
    have o0 : -1032 ≤ o := by omega
    have o1 : o ≤ 1032 := by omega
    have x0 : wr.cell? ⟨w.heap.size, 0, none⟩ = some (.pointer (some ⟨g, 0, none⟩)) := ht.cell C0.out.2 (by simp)
    have x1 : wr.cell? ⟨w.heap.size + 1, 0, none⟩ = some (.int .i64 label) := ht.cell (HB.out.2.1.cell 0) (by simp)
    have x2 : wr.cell? ⟨w.heap.size + 1 + 1, 0, none⟩ = some (.bool ins) := ht.cell (HB.out.2.2.1.cell 0) (by simp)
    have a1 := has_any g w.heap.size (w.heap.size + 1) (w.heap.size + 1 + 1) c label (label + o * 1000000000) ins wr (HB.out.2.2.2.1.stp ht) ok (by omega) x0 x1 x2
    have HI : Hid (∀ b, hasB c label ins (label + o * 1000000000) = b → (b = true → hasS c label ins (label + o * 1000000000)) ∧ (b = false → ∀ j, j < k + 1 → ¬ hasS c label ins (label + offK c j * 1000000000))) := fun b hb => by
      refine ⟨fun h => hasB_iff.1 (hb.trans h), fun h j hj hh => ?_⟩
      rcases Nat.lt_or_ge j k with h1 | h1
      · exact NO.out j h1 hh
      · obtain rfl : j = k := by omega
        rw [eo] at hh
        have := hasB_iff.2 hh
        rw [hb, h] at this
        cases this
    have hb := HI.out _ rfl
    generalize hasB c label ins (label + o * 1000000000) = b at *
    have A1 := Lib.hid a1
    have HO := Lib.hid ho
    have T := Lib.hid (And.intro ht hb)
    clear a1 eo tb HI x2 hb
    rw [HO.out]
    clear ho ht
    cases b with
    | true =>
      go_wp2_with fail
      refine A1.out.mono ?_
      rintro e w3 ⟨rfl, s3⟩
      go_wp2_with fail
      go_ret2
      exact ⟨(HB.out.2.2.2.2.1.trans T.out.1).trans s3, .inl ⟨_, rfl, T.out.2.1 (by first | rfl | trivial)⟩⟩
    | false =>
      by_cases hkl : k = c.L.length
      · have he : ((k : Int) == (c.L.length : Int)) = true := by simp; omega
        have N2 := Lib.hid (T.out.2.2 rfl)
        go_wp2_with fail
        refine A1.out.mono ?_
        rintro e w3 ⟨rfl, s3⟩
        have z0 := s3.cell x0 (by simp)
        have z1 := (T.out.1.trans s3).cell C0.out.1 (by simp)
        have HK := Lib.hid hkl
        clear hkl
        go_wp2_with fail
        go_ret2
        exact ⟨(HB.out.2.2.2.2.1.trans T.out.1).trans s3, .inr ⟨rfl, fun j hj => N2.out j (by have := HK.out; omega)⟩⟩
      · have he : ((k : Int) == (c.L.length : Int)) = false := by simp; omega
        have hlt : k < c.L.length := by omega
        have N2 := Lib.hid (T.out.2.2 rfl)
        obtain ⟨b, off, rfl, hbb, hbg, hcell⟩ := H6.out.2 (by omega)
        have hx := pcells_get c.L k hlt
        have hc2 := hcell _ _ hx.2
        have hs : kindS (c.L.take (k + 1)) = kindS (c.L.take k) + c.L[k].2 := by rw [List.take_succ_eq_append_getElem hlt, kindS_append]; simp [kindS]
        have hbk := (ok.leaps.each c.L[k] (List.getElem_mem _)).2.2
        have hoff : c.base + kindS (c.L.take (k + 1)) = o + c.L[k].2 := by rw [hs, ← HO.out]; omega
        have HF := Lib.hid hoff
        clear hx hcell hs hoff hkl
        generalize c.L[k].2 = y2 at *
        have y20 : -1 ≤ y2 := by omega
        have y21 : y2 ≤ 1 := by omega
        go_wp2_with fail
        refine A1.out.mono ?_
        rintro e w3 ⟨rfl, s3⟩
        have z0 := s3.cell x0 (by simp)
        have z1 := (T.out.1.trans s3).cell C0.out.1 (by simp)
        have z2 : w3.cell? ⟨b, off + k * 2 + 1, none⟩ = some (.int .i64 y2) := (T.out.1.trans s3).cell hc2 (by simp)
        go_wp2_with fail
        go_roundw
        case rel => exact ⟨k + 1, by omega, by go_num, by rw [HF.out], N2.out, T.out.1.trans s3⟩
        case measure => simp [intOf]; omega

theorem has_uniq {c : LT} (ok : c.ok) {label u v : Int} {ins : Bool} (hu : hasS c label ins u) (hv : hasS c label ins v) : u = v := by
  obtain ⟨_, _, l1, i1⟩ := hu
  obtain ⟨_, _, l2, i2⟩ := hv
  rcases Int.lt_trichotomy u v with h | h | h
  · have := label_uniq ok.leaps h (l1.trans l2.symm)
    rw [i1, i2] at this
    rw [this.1] at this
    cases this.2
  · exact h
  · have := label_uniq ok.leaps h (l2.trans l1.symm)
    rw [i1, i2] at this
    rw [this.1] at this
    cases this.2
theorem has_cnt {c : LT} {label u : Int} {ins : Bool} (hu : hasS c label ins u) : label + offK c (cntS u c.L) * 1000000000 = u := by
  obtain ⟨_, _, l1, _⟩ := hu
  rw [← l1]
  show u - (c.base + kS u c.L) * 1000000000 + (c.base + kindS (c.L.take (cntS u c.L))) * 1000000000 = u
  unfold kS
  omega
theorem even_is {w : World} {g : Nat} {c : LT} {label u : Int} {ins : Bool} (h : c.at w g) (ok : c.ok) (hlb : -4611690000000000000 ≤ label ∧ label ≤ 4611690000000000000) (hu : hasS c label ins u) :
    Calls Try.prog 15 #[.pointer (some ⟨g, 0, none⟩), .int .i64 label, .bool ins] w fun e w' => e = .returned (.tuple #[.int .i64 u, .bool true]) ∧ Stp [] w w' :=
  (even_walk g c label ins w h ok hlb).mono fun e w' ⟨hs, hp⟩ => by
    rcases hp with ⟨v, rfl, hv⟩ | ⟨rfl, hn⟩
    · rw [has_uniq ok hv hu]; exact ⟨rfl, hs⟩
    · exact absurd ((has_cnt hu).symm ▸ hu) (hn _ (cntS_le _ _))
theorem even_not {w : World} {g : Nat} {c : LT} {label : Int} {ins : Bool} (h : c.at w g) (ok : c.ok) (hlb : -4611690000000000000 ≤ label ∧ label ≤ 4611690000000000000) (hu : ∀ u, ¬ hasS c label ins u) :
    Calls Try.prog 15 #[.pointer (some ⟨g, 0, none⟩), .int .i64 label, .bool ins] w fun e w' => e = .returned (.tuple #[.int .i64 0, .bool false]) ∧ Stp [] w w' :=
  (even_walk g c label ins w h ok hlb).mono fun e w' ⟨hs, hp⟩ => by
    rcases hp with ⟨v, rfl, hv⟩ | ⟨rfl, hn⟩
    · exact absurd hv (hu v)
    · exact ⟨rfl, hs⟩
end Go.Proofs.Ytkdpndoamepcbaa
