/- LoopTells: rows of calls are answered as the document says. -/
import Derived.Test.YtkohpeonnoegpaaLoopM
import Derived.Test.YtkohpeonnoegpaaLoopD
import Derived.Deep.CutBlock
import Derived.Deep.CutRange
namespace Go.Proofs.Ytkohpeonnoegpaa
open Go.RowKit
set_option linter.unusedVariables false
set_option linter.unusedSimpArgs false

theorem LS.at_stp {c : LS} {w w' : World} {g : Nat} {G : List Nat} (h : c.at w g) (hs : Stp G w w') (hg : g ∉ G) : c.at w' g := hs.at h hg
theorem LS.rat_out {c : LS} {w w' : World} {g : Nat} {G : List Nat} (h : c.rat w g) (hs : Stp G w w') (hg : g ∉ G) : c.rat w' g := hs.at h hg
theorem Stp.of_drew {G : List Nat} {w w' : World} (h : Stp G w.drew w') : Stp G w w' := ⟨h.os, h.tape, h.output, h.size, h.block⟩
theorem quad_get {α : Type} (enc : α → List Value) (size : Nat) (hlen : ∀ x, (enc x).length = size) : ∀ (l : List α) (k : Nat) (h : k < l.length) (r : Nat), r < size → (l.flatMap enc)[k * size + r]? = (enc l[k])[r]?
  | [], k, h, _, _ => by simp at h
  | x :: l, 0, _, r, hr => by
    rw [List.flatMap_cons, Nat.zero_mul, Nat.zero_add, List.getElem?_append_left (by rw [hlen]; exact hr)]
    rfl
  | x :: l, k + 1, h, r, hr => by
    have ih := quad_get enc size hlen l k (by simpa using h) r hr
    rw [List.flatMap_cons, List.getElem?_append_right (by rw [hlen, Nat.succ_mul]; omega), hlen]
    have e : (k + 1) * size + r - size = k * size + r := by rw [Nat.succ_mul]; omega
    rw [e, ih]
    rfl
/-- An update as the document says it. -/
def LS.updS (c : LS) (o el st : Int) : Int × Int × LS :=
  if (-1125899906842624 ≤ o ∧ o ≤ 1125899906842624) ∧ (0 ≤ el ∧ el ≤ 1125899906842624) ∧ (0 ≤ st ∧ st ≤ 1125899906842624) then ((c.next o el st).rate, 0, c.next o el st) else (0, 1, c)
def LS.setS (c : LS) (f : Int) : Int × LS := if -250000 ≤ f ∧ f ≤ 250000 then (0, ⟨f, f, 0, c.ups⟩) else (1, c)
theorem updS_ok {c : LS} (ok : c.ok) (o el st : Int) {K : Int} (hu : c.ups ≤ K) (hK : K < 1000000) : (c.updS o el st).2.2.ok ∧ (c.updS o el st).2.2.ups ≤ K + 1 := by
  unfold LS.updS
  split
  · next h => exact ⟨next_ok ok h.1 (by omega), by simp only [LS.next]; omega⟩
  · exact ⟨ok, by simp only; omega⟩
theorem setS_ok {c : LS} (ok : c.ok) (f : Int) {K : Int} (hu : c.ups ≤ K) : (c.setS f).2.ok ∧ (c.setS f).2.ups ≤ K + 1 := by
  have := ok.u0
  have := ok.u1
  unfold LS.setS
  split
  · exact ⟨⟨by simp only; omega, by simp only; omega, by simp only; omega, by simp only; omega, by simp only; omega, by simp only; omega, by simp only; omega, by simp only; omega⟩, by simp only; omega⟩
  · exact ⟨ok, by simp only; omega⟩
theorem stepped_ok {c : LS} (ok : c.ok) : (LS.mk c.freq c.freq 0 c.ups).ok := by
  obtain ⟨k0, k1, k2, k3, k4, k5, k6, k7⟩ := ok
  constructor <;> simp only <;> omega
theorem update_all (g : Nat) (c : LS) (o el st : Int) (w : World) (h : c.at w g) (ok : c.ok) (hu : c.ups < 1000000) (ho : -9223372036854775808 ≤ o ∧ o ≤ 9223372036854775807) :
    Calls Try.prog 9 #[.pointer (some ⟨g, 0, none⟩), .int .i64 o, .int .i64 el, .int .i64 st] w fun e w' => e = .returned (.tuple #[.int .i64 (c.updS o el st).1, .int .i64 (c.updS o el st).2.1]) ∧ (c.updS o el st).2.2.at w' g ∧ Stp [g] w w' := by
  unfold LS.updS
  split
  · next hr => exact update_any g c o el st w h ok hr.1 hr.2.1 hr.2.2 (by omega)
  · next hr => exact (update_bad g c o el st w h ho (by
      unfold spanB absS
      simp only [decide_eq_false_iff_not]
      (repeat' split) <;> omega)).mono fun e w' q => ⟨q.1, by rw [q.2]; exact h, by rw [q.2]; exact Stp.refl _ _⟩
theorem rupdate_all (g : Nat) (c : LS) (o el st : Int) (w : World) (h : c.rat w g) (ok : c.ok) (hu : c.ups < 1000000) :
    Calls Try.prog 18 #[.pointer (some ⟨g, 0, none⟩), .int .i64 o, .int .i64 el, .int .i64 st] w fun e w' => e = .returned (.tuple #[.int .i64 (c.updS o el st).1, .int .i64 (c.updS o el st).2.1]) ∧ (c.updS o el st).2.2.rat w' g ∧ Stp [g] w w' := by
  unfold LS.updS
  split
  · next hr => exact rupdate_any g c o el st w h ok hr.1 hr.2.1 hr.2.2 (by omega)
  · next hr => exact (rupdate_bad g o el st w (by omega)).mono fun e w' q => ⟨q.1, by rw [q.2]; exact h, by rw [q.2]; exact Stp.refl _ _⟩
theorem set_all (g : Nat) (c : LS) (f : Int) (w : World) (h : c.at w g) :
    Calls Try.prog 17 #[.pointer (some ⟨g, 0, none⟩), .int .i64 f] w fun e w' => e = .returned (.int .i64 (c.setS f).1) ∧ (c.setS f).2.at w' g ∧ Stp [g] w w' := by
  unfold LS.setS
  split
  · next hr => exact set_good g c f w h hr
  · next hr => exact (set_bad g c f w h (by omega)).mono fun e w' q => ⟨q.1, by rw [q.2]; exact h, by rw [q.2]; exact Stp.refl _ _⟩
theorem rset_all (g : Nat) (c : LS) (f : Int) (w : World) (h : c.rat w g) :
    Calls Try.prog 20 #[.pointer (some ⟨g, 0, none⟩), .int .i64 f] w fun e w' => e = .returned (.int .i64 (c.setS f).1) ∧ (c.setS f).2.rat w' g ∧ Stp [g] w w' := by
  unfold LS.setS
  split
  · next hr => exact rset_good g c f w h hr
  · next hr => exact (rset_bad g c f w h (by omega)).mono fun e w' q => ⟨q.1, by rw [q.2]; exact h, by rw [q.2]; exact Stp.refl _ _⟩

set_option maxRecDepth 100000 in
set_option maxHeartbeats 4000000 in
theorem loopTells_walk (A : Option Addr) (n cp : Nat) (l : List (Int × Int × Int × Int)) (w : World)
    (hrd : Reads w w.heap.size 4 A n (l.flatMap fun x => [.int .i64 x.1, .int .i64 x.2.1, .int .i64 x.2.2.1, .int .i64 x.2.2.2])) (hl : l.length = n) (hn : n * 32 ≤ 140737488351232) (hw : ∀ x ∈ l, (-9223372036854775808 ≤ x.1 ∧ x.1 ≤ 9223372036854775807) ∧ (-9223372036854775808 ≤ x.2.1 ∧ x.2.1 ≤ 9223372036854775807) ∧ (-9223372036854775808 ≤ x.2.2.1 ∧ x.2.2.1 ≤ 9223372036854775807) ∧ (-9223372036854775808 ≤ x.2.2.2 ∧ x.2.2.2 ≤ 9223372036854775807)) :
    Calls Try.prog 6 #[.slice A n cp] w fun e w' => e = .returned (.bool true) ∧ Stp [] w w' := by
  have HL := Lib.hid hl
  have HW := Lib.hid hw
  have HR := Lib.hid hrd
  clear hl hw hrd
  go_enter Try.func6, Try.ntmps6
  go_wp2_with fail
  refine (new_any _).mono ?_
  rintro e w1 ⟨ga, rfl, a1, s1, hga⟩
  obtain ⟨gr, hgr⟩ : ∃ gr, gr = w1.heap.size := ⟨_, rfl⟩
  have hlt1 := lt_of_at a1
  have rb : (LS.mk 0 0 0 0).rat (w1.alloc (.cells #[.int .i64 0, .int .i64 0, .int .i64 0, .int .i64 0] 42)) gr := by rw [hgr]; exact new_at w1 _
  have sz1 := s1.size
  have S0 := Lib.hid (show (LS.mk 0 0 0 0).at (w1.alloc (.cells #[.int .i64 0, .int .i64 0, .int .i64 0, .int .i64 0] 42)) ga ∧ (LS.mk 0 0 0 0).rat (w1.alloc (.cells #[.int .i64 0, .int .i64 0, .int .i64 0, .int .i64 0] 42)) gr ∧ (LS.mk 0 0 0 0).ok ∧ (LS.mk 0 0 0 0).ups ≤ ((0 : Nat) : Int) ∧ (w.heap.size ≤ ga ∧ ga ≠ gr) ∧ Stp [] w (w1.alloc (.cells #[.int .i64 0, .int .i64 0, .int .i64 0, .int .i64 0] 42)) from
    ⟨LS.at_stp a1 ((Stp.refl [] w1).alloc _) (by simp), rb, by constructor <;> decide, by decide, ⟨hga, by omega⟩, s1.alloc _⟩)
  have hgr0 : w.heap.size ≤ gr := by omega
  clear a1 s1 rb sz1 hlt1
  go_wp2_with fail
  rw [← hgr]
  clear hgr hga
  go_loopw [3, 5] (fun lv i wr => ∃ (k g : Nat) (c : LS), k ≤ n ∧ k ≤ 80 ∧ i = .int .i64 k ∧ lv = .pointer (some ⟨g, 0, none⟩) ∧ Hid (c.at wr g ∧ c.rat wr gr ∧ c.ok ∧ c.ups ≤ (k : Int) ∧ (w.heap.size ≤ g ∧ g ≠ gr) ∧ Stp [] w wr)) (fun _ i _ => 80 - (intOf i).toNat)
  case atStart => exact ⟨0, ga, ⟨0, 0, 0, 0⟩, by omega, by omega, rfl, rfl, S0⟩
  case round =>
    obtain ⟨k, g, c, hk, hk80, rfl, rfl, H⟩ := hrel
    clear S0
    obtain ⟨wo, hwo⟩ : ∃ wo, wo = wr := ⟨_, rfl⟩
    subst hwo
    by_cases hlt : k < n ∧ k < 80
    · obtain ⟨hlt, h80⟩ := hlt
      have hkn : (k : Int) < (n : Int) := by omega
      have hk8 : (k : Int) < 80 := by omega
      obtain ⟨b, off, rfl, hbb, hcell⟩ := HR.out.form (by omega) (by omega)
      have hkl : k < l.length := by have := HL.out; omega
      have hq := fun r hr => quad_get (fun x : Int × Int × Int × Int => [.int .i64 x.1, .int .i64 x.2.1, .int .i64 x.2.2.1, .int .i64 x.2.2.2]) 4 (fun _ => rfl) l k hkl r hr
      have p0 : wo.cell? ⟨b, off + k * 4, none⟩ = some (.int .i64 l[k].1) := H.out.2.2.2.2.2.cell (hcell _ _ (hq 0 (by decide))) (by simp)
      have p1 : wo.cell? ⟨b, off + k * 4 + 1, none⟩ = some (.int .i64 l[k].2.1) := H.out.2.2.2.2.2.cell (hcell _ _ (hq 1 (by decide))) (by simp)
      have p2 : wo.cell? ⟨b, off + k * 4 + 2, none⟩ = some (.int .i64 l[k].2.2.1) := H.out.2.2.2.2.2.cell (hcell _ _ (hq 2 (by decide))) (by simp)
      have p3 : wo.cell? ⟨b, off + k * 4 + 3, none⟩ = some (.int .i64 l[k].2.2.2) := H.out.2.2.2.2.2.cell (hcell _ _ (hq 3 (by decide))) (by simp)
      have hwk := HW.out l[k] (List.getElem_mem _)
      clear hcell hq
      generalize l[k] = x at *
      obtain ⟨what, o, el, st⟩ := x
      simp only at p0 p1 p2 p3 hwk
      obtain ⟨⟨x10, x11⟩, ⟨o0, o1⟩, ⟨el0, el1⟩, st0, st1⟩ := hwk
      have glt := lt_of_at H.out.1
      have grlt := lt_of_at H.out.2.1
      have AT1 := LS.at_stp H.out.1 ((Stp.refl [] wo).alloc (.cells #[.int .i64 what, .int .i64 o, .int .i64 el, .int .i64 st] 35)) (by simp)
      have RT1 := LS.rat_stp H.out.2.1 ((Stp.refl [] wo).alloc (.cells #[.int .i64 what, .int .i64 o, .int .i64 el, .int .i64 st] 35))
      have OK := H.out.2.2.1
      have hups := H.out.2.2.2.1
      have hg := H.out.2.2.2.2.1.1
      have hne := H.out.2.2.2.2.1.2
      have TT := H.out.2.2.2.2.2.alloc (.cells #[.int .i64 what, .int .i64 o, .int .i64 el, .int .i64 st] 35)
      have BX := Blk.new wo 35 #[.int .i64 what, .int .i64 o, .int .i64 el, .int .i64 st]
      clear H HR HL HW hkl
      go_upto_region 8 with (fail)
      generalize hW : wo.alloc (.cells #[.int .i64 what, .int .i64 o, .int .i64 el, .int .i64 st] 35) = W at *
      have hsW : w.heap.size ≤ W.heap.size := TT.size
      generalize wo.heap.size = bx at *
      clear hW p0 p1 p2 p3
      have XB : Hid (∀ G w', Stp G W w' → bx ∉ G → w'.cell? ⟨bx, 0, none⟩ = some (.int .i64 what) ∧ w'.cell? ⟨bx, 1, none⟩ = some (.int .i64 o) ∧ w'.cell? ⟨bx, 2, none⟩ = some (.int .i64 el) ∧ w'.cell? ⟨bx, 3, none⟩ = some (.int .i64 st)) := fun G w' hs hn => ⟨hs.cell (BX.cell 0) hn, hs.cell (BX.cell 1) hn, hs.cell (BX.cell 2) hn, hs.cell (BX.cell 3) hn⟩
      obtain ⟨p0, p1, p2, p3⟩ := XB.out [] W (Stp.refl _ _) (by simp)
      have hlW := lt_of_at BX
      clear BX
      have gltW := lt_of_at AT1
      have grltW := lt_of_at RT1
      go_upto_block 2 with (fail)
      go_cut [3, 7] from 34 to 102 (fun lv rv wc => ∃ (g2 : Nat) (c2 : LS), lv = .pointer (some ⟨g2, 0, none⟩) ∧ rv = .bool true ∧ Hid (c2.at wc g2 ∧ c2.rat wc gr ∧ c2.ok ∧ c2.ups ≤ (k : Int) + 1 ∧ (w.heap.size ≤ g2 ∧ g2 ≠ gr) ∧ Stp [] w wc))
      case first =>
        by_cases h04 : 0 ≤ what ∧ what ≤ 4
        · have G1 := Lib.hid (fun (w' : World) (hr : c.at w' g) => update_all g c o el st w' hr OK (by omega) ⟨o0, o1⟩)
          have G2 := Lib.hid (fun (w' : World) (hr : c.rat w' gr) => rupdate_all gr c o el st w' hr OK (by omega))
          obtain ⟨ok2, st2⟩ := updS_ok OK o el st hups (by omega)
          generalize c.updS o el st = q at *
          obtain ⟨qa, qb, s2⟩ := q
          simp only at G1 G2 ok2 st2
          have h5 : what = 0 ∨ what = 1 ∨ what = 2 ∨ what = 3 ∨ what = 4 := by omega
          clear h04 x10 x11
          rcases h5 with rfl | rfl | rfl | rfl | rfl
          all_goals
            as_aux_lemma =>
              go_wp2_with fail
              refine (G1.out _ AT1).mono ?_
              rintro e v1 ⟨rfl, a5, s5⟩
              have RT5 := LS.rat_out RT1 s5 (by simp; omega)
              obtain ⟨b0, b1, b2, b3⟩ := XB.out _ _ s5 (by simp; omega)
              go_wp2_with fail
              refine (G2.out _ RT5).mono ?_
              rintro e v2 ⟨rfl, r6, s6⟩
              go_wp2_with fail
              go_meet
              exact ⟨g, s2, rfl, rfl, Lib.hid (And.intro (LS.at_stp a5 s6 (by simp; omega)) (And.intro r6 (And.intro ok2 (And.intro st2 (And.intro ⟨hg, hne⟩ ((TT.far s5 (.inr hg)).far s6 (.inr hgr0)))))))⟩
        · have n0 : (what == 0) = false := by simp; omega
          have n1 : (what == 1) = false := by simp; omega
          have n2 : (what == 2) = false := by simp; omega
          have n3 : (what == 3) = false := by simp; omega
          have n4 : (what == 4) = false := by simp; omega
          by_cases h5 : what = 5
          · have n5 : (what == 5) = true := by simp; omega
            clear h04 h5 x10 x11
            as_aux_lemma =>
              go_wp2_with fail
              refine (stepped_any g c _ AT1).mono ?_
              rintro e v1 ⟨rfl, a5, s5⟩
              have RT5 := LS.rat_out RT1 s5 (by simp; omega)
              obtain ⟨b0, b1, b2, b3⟩ := XB.out _ _ s5 (by simp; omega)
              go_wp2_with fail
              refine (rstepped_any gr c _ RT5).mono ?_
              rintro e v2 ⟨⟨v, rfl⟩, r6, s6⟩
              go_wp2_with fail
              go_meet
              exact ⟨g, _, rfl, rfl, Lib.hid (And.intro (LS.at_stp a5 s6 (by simp; omega)) (And.intro r6 (And.intro (stepped_ok OK) (And.intro (by simp only; omega) (And.intro ⟨hg, hne⟩ ((TT.far s5 (.inr hg)).far s6 (.inr hgr0)))))))⟩
          · have n5 : (what == 5) = false := by simp; omega
            by_cases h6 : what = 6
            · have n6 : (what == 6) = true := by simp; omega
              clear h04 h5 h6 x10 x11
              as_aux_lemma =>
                have G1 := Lib.hid (fun (w' : World) (hr : c.at w' g) => set_all g c o w' hr)
                have G2 := Lib.hid (fun (w' : World) (hr : c.rat w' gr) => rset_all gr c o w' hr)
                obtain ⟨ok2, st2⟩ := setS_ok OK o hups
                generalize c.setS o = q at *
                obtain ⟨qc, s2⟩ := q
                simp only at G1 G2 ok2 st2
                have AT1d : c.at W.drew g := AT1
                go_wp2_with fail
                go_region_held3 (fun w' => w'.cell? ⟨bx, 1, none⟩ = some (.int .i64 o))
                  (first | exact p1 | exact s5.cell p1 (by simp; omega) | exact s6.cell (s5.cell p1 (by simp; omega)) (by simp; omega))
                  (first
                    | (go_at_call 17; (with_reducible refine (G1.out _ (by first | exact AT1 | exact AT1d)).mono ?_); rintro e v1 ⟨rfl, a5, s5'⟩; have s5 : Stp [g] W v1 := (by first | exact s5' | exact s5'.of_drew))
                    | (go_at_call 20; (with_reducible refine (G2.out _ (by exact LS.rat_out RT1 s5 (by simp; omega))).mono ?_); rintro e v2 ⟨rfl, r6, s6'⟩; have s6 : Stp [gr] v1 v2 := (by first | exact s6' | exact s6'.of_drew)))
                all_goals
                  have NX := Lib.hid (And.intro (LS.at_stp a5 s6 (by simp; omega)) (And.intro r6 (And.intro ok2 (And.intro st2 (And.intro (show w.heap.size ≤ g ∧ g ≠ gr from ⟨hg, hne⟩) ((TT.far s5 (.inr hg)).far s6 (.inr hgr0)))))))
                  go_wp2_with fail
                  go_meet
                  exact ⟨g, s2, rfl, rfl, NX⟩
            · have n6 : (what == 6) = false := by simp; omega
              by_cases h7 : what = 7
              · have n7 : (what == 7) = true := by simp; omega
                clear h04 h5 h6 h7 x10 x11
                as_aux_lemma =>
                  go_wp2_with fail
                  refine (copy_any g c _ AT1).mono ?_
                  rintro e v1 ⟨gn, rfl, an, sn, hgn⟩
                  have AT2 := LS.at_stp AT1 sn (by simp)
                  have RT2 := LS.rat_stp RT1 sn
                  have U1 := Lib.hid (fun (w' : World) (hr : c.at w' g) => update_all g c 5 1000000000 0 w' hr OK (by omega) (by decide))
                  generalize c.updS 5 1000000000 0 = q at *
                  obtain ⟨qa, qb, c3⟩ := q
                  simp only at U1
                  obtain ⟨b0, b1, b2, b3⟩ := XB.out _ _ sn (by simp)
                  go_wp2_with fail
                  refine (U1.out _ AT2).mono ?_
                  rintro e v2 ⟨rfl, a5, s5⟩
                  go_wp2_with fail
                  refine (set_all g c3 7 _ a5).mono ?_
                  rintro e v3 ⟨rfl, a6, s6⟩
                  go_wp2_with fail
                  go_meet
                  exact ⟨gn, c, rfl, rfl, Lib.hid (And.intro (LS.at_stp (LS.at_stp an s5 (by simp; omega)) s6 (by simp; omega)) (And.intro (LS.rat_out (LS.rat_out RT2 s5 (by simp; omega)) s6 (by simp; omega)) (And.intro OK (And.intro (by omega) (And.intro ⟨by omega, by omega⟩ (((TT.trans sn).far s5 (.inr (by omega))).far s6 (.inr (by omega))))))))⟩
              · have n7 : (what == 7) = false := by simp; omega
                by_cases h8 : what = 8
                · have n8 : (what == 8) = true := by simp; omega
                  clear h04 h5 h6 h7 h8 x10 x11
                  as_aux_lemma =>
                    go_wp2_with fail
                    refine (copy_any g c _ AT1).mono ?_
                    rintro e v1 ⟨gn, rfl, an, sn, hgn⟩
                    have AT2 := LS.at_stp AT1 sn (by simp)
                    have RT2 := LS.rat_stp RT1 sn
                    have U1 := Lib.hid (fun (w' : World) (hr : c.at w' gn) => update_all gn c 5 1000000000 0 w' hr OK (by omega) (by decide))
                    generalize c.updS 5 1000000000 0 = q at *
                    obtain ⟨qa, qb, c3⟩ := q
                    simp only at U1
                    obtain ⟨b0, b1, b2, b3⟩ := XB.out _ _ sn (by simp)
                    go_wp2_with fail
                    refine (U1.out _ an).mono ?_
                    rintro e v2 ⟨rfl, a5, s5⟩
                    go_wp2_with fail
                    refine (set_all gn c3 7 _ a5).mono ?_
                    rintro e v3 ⟨rfl, a6, s6⟩
                    go_wp2_with fail
                    go_meet
                    exact ⟨g, c, rfl, rfl, Lib.hid (And.intro (LS.at_stp (LS.at_stp AT2 s5 (by simp; omega)) s6 (by simp; omega)) (And.intro (LS.rat_out (LS.rat_out RT2 s5 (by simp; omega)) s6 (by simp; omega)) (And.intro OK (And.intro (by omega) (And.intro ⟨by omega, by omega⟩ (((TT.trans sn).far s5 (.inr (by omega))).far s6 (.inr (by omega))))))))⟩
                · have n8 : (what == 8) = false := by simp; omega
                  clear h04 h5 h6 h7 h8 x10 x11
                  as_aux_lemma =>
                    go_wp2_with fail
                    go_meet
                    exact ⟨g, c, rfl, rfl, Lib.hid (And.intro AT1 (And.intro RT1 (And.intro OK (And.intro (by omega) (And.intro ⟨hg, hne⟩ TT)))))⟩
      case rest =>
        obtain ⟨g2, c2, rfl, rfl, Z⟩ := hcut
        have HA := Z.out.1
        have HAn : ∀ n, c2.at (wc.drewN n) g2 := fun _ => HA
        obtain ⟨r0, r1, r2, r3⟩ := rl_cells Z.out.2.1
        clear AT1 RT1 TT XB p0 p1 p2 p3 OK
        go_wp2_with (first | (go_at_call 10; (with_reducible refine (lfreq_any g2 _ _ HA).mono ?_); rintro e v9 ⟨rfl, rfl⟩) | (go_at_call 10; (with_reducible refine (lfreq_any g2 _ _ (HAn _)).mono ?_); rintro e v9 ⟨rfl, rfl⟩) | (go_at_call 13; (with_reducible refine (lrate_any g2 _ _ HA).mono ?_); rintro e v9 ⟨rfl, rfl⟩) | (go_at_call 13; (with_reducible refine (lrate_any g2 _ _ (HAn _)).mono ?_); rintro e v9 ⟨rfl, rfl⟩) | (go_at_call 14; (with_reducible refine (lleft_any g2 _ _ HA).mono ?_); rintro e v9 ⟨rfl, rfl⟩) | (go_at_call 14; (with_reducible refine (lleft_any g2 _ _ (HAn _)).mono ?_); rintro e v9 ⟨rfl, rfl⟩) | (go_at_call 15; (with_reducible refine (lups_any g2 _ _ HA).mono ?_); rintro e v9 ⟨rfl, rfl⟩) | (go_at_call 15; (with_reducible refine (lups_any g2 _ _ (HAn _)).mono ?_); rintro e v9 ⟨rfl, rfl⟩) | (go_quiet (first | (go_at_call 10; with_reducible exact Calls.quiet_of_same (lfreq_any g2 _ _ HA)) | (go_at_call 10; with_reducible exact quiet_add_same (lfreq_any g2 _ _ HA)) | (go_at_call 10; with_reducible exact Calls.quiet_of_same (lfreq_any g2 _ _ (HAn _))) | (go_at_call 10; with_reducible exact quiet_add_same (lfreq_any g2 _ _ (HAn _))) | (go_at_call 13; with_reducible exact Calls.quiet_of_same (lrate_any g2 _ _ HA)) | (go_at_call 13; with_reducible exact quiet_add_same (lrate_any g2 _ _ HA)) | (go_at_call 13; with_reducible exact Calls.quiet_of_same (lrate_any g2 _ _ (HAn _))) | (go_at_call 13; with_reducible exact quiet_add_same (lrate_any g2 _ _ (HAn _))) | (go_at_call 14; with_reducible exact Calls.quiet_of_same (lleft_any g2 _ _ HA)) | (go_at_call 14; with_reducible exact quiet_add_same (lleft_any g2 _ _ HA)) | (go_at_call 14; with_reducible exact Calls.quiet_of_same (lleft_any g2 _ _ (HAn _))) | (go_at_call 14; with_reducible exact quiet_add_same (lleft_any g2 _ _ (HAn _))) | (go_at_call 15; with_reducible exact Calls.quiet_of_same (lups_any g2 _ _ HA)) | (go_at_call 15; with_reducible exact quiet_add_same (lups_any g2 _ _ HA)) | (go_at_call 15; with_reducible exact Calls.quiet_of_same (lups_any g2 _ _ (HAn _))) | (go_at_call 15; with_reducible exact quiet_add_same (lups_any g2 _ _ (HAn _))))))
        all_goals go_roundw
        all_goals first
          | exact ⟨k + 1, g2, c2, by omega, by omega, by go_num, rfl, (by exact ⟨Z.out.1, Z.out.2.1, Z.out.2.2.1, Z.out.2.2.2.1, Z.out.2.2.2.2.1, Z.out.2.2.2.2.2.drewN _⟩)⟩
          | exact ⟨k + 1, g2, c2, by omega, by omega, by go_num, rfl, (by exact ⟨Z.out.1, Z.out.2.1, Z.out.2.2.1, Z.out.2.2.2.1, Z.out.2.2.2.2.1, Z.out.2.2.2.2.2⟩)⟩
          | (simp [intOf]; omega)
    · by_cases h80 : k < n
      · have hk80' : ¬ (k : Int) < 80 := by omega
        clear hlt
        go_wp2_with fail
        refine (alive_any _).mono ?_
        rintro e w4 ⟨rfl, s4⟩
        go_wp2_with fail
        go_ret
        exact ⟨rfl, H.out.2.2.2.2.2.trans s4⟩
      · obtain rfl : k = n := by omega
        clear hlt
        go_wp2_with fail
        refine (alive_any _).mono ?_
        rintro e w4 ⟨rfl, s4⟩
        go_wp2_with fail
        go_ret
        exact ⟨rfl, H.out.2.2.2.2.2.trans s4⟩
end Go.Proofs.Ytkohpeonnoegpaa
