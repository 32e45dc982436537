/- WallGoes: any steps and any times, against the document. -/
import Derived.Test.YtejcckjakhllpaaWallY
import Derived.BigRegion
import Derived.Deep.RegionWith
import Derived.Deep.DeepCutAuto
import Derived.StillTailTactics
import Derived.Deep.CutBlock
import Derived.Deep.CutRange
namespace Go.Proofs.Ytejcckjakhllpaa
open Go.RowKit
set_option linter.unusedVariables false
set_option linter.unusedSimpArgs false

theorem WS.at_stp {c : WS} {w w' : World} {g : Nat} {G : List Nat} (h : c.at w g) (hs : Stp G w w') (hg : g ∉ G) : c.at w' g := hs.at h hg
theorem WS.rat_out {c : WS} {w w' : World} {g : Nat} {G : List Nat} (h : c.rat w g) (hs : Stp G w w') (hg : g ∉ G) : c.rat w' g := hs.at h hg
theorem Stp.of_drew {G : List Nat} {w w' : World} (h : Stp G w.drew w') : Stp G w w' := ⟨h.os, h.tape, h.output, h.size, h.block⟩
/-- A step as the document says it. -/
def WS.stepS (c : WS) (b : Int) : Int × WS := if -4611686018427387904 ≤ c.base + b ∧ c.base + b ≤ 4611686018427387904 then (0, ⟨c.base + b, c.steps + 1⟩) else (20, c)
theorem stepS_ok {c : WS} (ok : c.ok) (b : Int) {K : Int} (hs : c.steps ≤ K) (hK : K < 1000000) : (c.stepS b).2.ok ∧ (c.stepS b).2.steps ≤ K + 1 := by
  have := ok.s0
  have := ok.b0
  have := ok.b1
  unfold WS.stepS
  split
  · exact ⟨⟨by simp only; omega, by simp only; omega, by simp only; omega, by simp only; omega⟩, by simp only; omega⟩
  · exact ⟨ok, by simp only; omega⟩
theorem step_all (g : Nat) (c : WS) (b : Int) (w : World) (h : c.at w g) (ok : c.ok) (hb : -9223372036854775808 ≤ b ∧ b ≤ 9223372036854775807) :
    Calls Try.prog 12 #[.pointer (some ⟨g, 0, none⟩), .int .i64 b] w fun e w' => e = .returned (.int .i64 (c.stepS b).1) ∧ (c.stepS b).2.at w' g ∧ Stp [g] w w' := by
  unfold WS.stepS
  split
  · next hr => exact step_good g c b w h ok hb hr
  · next hr => exact (step_bad g c b w h ok hb hr).mono fun e w' q => ⟨q.1, by rw [q.2]; exact h, by rw [q.2]; exact Stp.refl _ _⟩
theorem rstep_all (g : Nat) (c : WS) (b : Int) (w : World) (h : c.rat w g) (ok : c.ok) (hb : -9223372036854775808 ≤ b ∧ b ≤ 9223372036854775807) :
    Calls Try.prog 21 #[.pointer (some ⟨g, 0, none⟩), .int .i64 b] w fun e w' => e = .returned (.int .i64 (c.stepS b).1) ∧ (c.stepS b).2.rat w' g ∧ Stp [g] w w' := by
  unfold WS.stepS
  split
  · next hr => exact rwstep_any g c b w h ok hb hr
  · next hr => exact (rwstep_bad g c b w h ok hb hr).mono fun e w' q => ⟨q.1, WS.rat_stp h q.2, q.2.of_nil⟩

theorem wpAnyH_mono {P : Program} {md : Region.Mode} {ops : Array Oper} {Q : Exit → Act → World → Prop} {S S' : World → Prop} (hS : ∀ w, S' w → S w) : ∀ (fuel : Nat) (listed : Array Bool) (a : Act) (w : World), wpAnyH P md ops Q S' fuel listed a w → wpAnyH P md ops Q S fuel listed a w
  | 0, _, _, _, h => h
  | fuel + 1, _, _, _, h => ⟨h.1, fun i hi => wpOp_mono (fun a' w' h' => ⟨hS _ h'.1, wpAnyH_mono hS fuel _ a' w' h'.2⟩) (h.2 i hi)⟩

set_option maxRecDepth 100000 in
set_option maxHeartbeats 4000000 in
theorem wallGoes_walk (a : Int) (A : Option Addr) (n c : Nat) (l : List Int) (B : Option Addr) (m c' : Nat) (t : List Int) (w : World) (ha : -9223372036854775808 ≤ a ∧ a ≤ 9223372036854775807)
    (hrd : Reads w w.heap.size 1 A n (l.map (Value.int .i64))) (hl : l.length = n) (hn : n * 8 ≤ 140737488351232) (hw : ∀ t ∈ l, -9223372036854775808 ≤ t ∧ t ≤ 9223372036854775807)
    (hrt : Reads w w.heap.size 1 B m (t.map (Value.int .i64))) (ht : t.length = m) (hm : m * 8 ≤ 140737488351232) (hwt : ∀ x ∈ t, -9223372036854775808 ≤ x ∧ x ≤ 9223372036854775807) :
    Calls Try.prog 7 #[.int .i64 a, .slice A n c, .slice B m c'] w fun e w' => e = .returned (.bool true) ∧ Stp [] w w' := by
  have D := Lib.hid (And.intro hrd (And.intro hl hw))
  have DT := Lib.hid (And.intro hrt (And.intro ht hwt))
  clear hrd hl hw hrt ht hwt
  go_enter Try.func7, Try.ntmps7
  go_wp2_with fail
  by_cases h0 : 0 ≤ a ∧ a ≤ 4611686018427387904
  · refine (new_any _ _ h0).mono ?_
    rintro e w1 ⟨g, rfl, a1, s1, hg⟩
    go_wp2_with fail
    refine (rwnew_any _ _ h0).mono ?_
    rintro e w2 ⟨gr, rfl, r2, s2, hgr⟩
    have a2 := WS.at_stp a1 s2 (by simp)
    have hlt1 := lt_of_at a1
    have sz1 := s1.size
    have T2 := s1.trans s2
    have ok2 : (WS.mk a 0).ok := ⟨by simp only; omega, by simp only; omega, by simp only; omega, by simp only; omega⟩
    have S0 := Lib.hid (And.intro a2 (And.intro r2 (And.intro ok2 (And.intro (show w.heap.size ≤ g ∧ g ≠ gr by omega) T2))))
    have hgr0 : w.heap.size ≤ gr := by omega
    clear a1 a2 r2 s1 s2 T2 ok2 hg hgr hlt1 sz1 h0
    go_wp2_with fail
    go_loopw [7, 11] (fun wv i wr => ∃ (k g : Nat) (s : WS), k ≤ n ∧ k ≤ 40 ∧ i = .int .i64 k ∧ wv = .pointer (some ⟨g, 0, none⟩) ∧ s.steps ≤ k ∧ Hid (s.at wr g ∧ s.rat wr gr ∧ s.ok ∧ (w.heap.size ≤ g ∧ g ≠ gr) ∧ Stp [] w wr)) (fun _ i _ => n - (intOf i).toNat)
    case atStart => exact ⟨0, g, ⟨a, 0⟩, by omega, by omega, rfl, rfl, by simp, S0⟩
    case round =>
      obtain ⟨k, g, s, hk, hk40, rfl, rfl, hst, H⟩ := hrel
      clear S0
      obtain ⟨wo, hwo⟩ : ∃ wo, wo = wr := ⟨_, rfl⟩
      subst hwo
      by_cases hlt : k < n
      · by_cases h40 : k = 40
        · subst h40
          go_wp2_with fail
          refine (alive_any _).mono ?_
          rintro e w3 ⟨rfl, s3⟩
          go_wp2_with fail
          go_ret
          exact ⟨rfl, H.out.2.2.2.2.trans s3⟩
        · have hk39 : k < 40 := by omega
          clear h40
          have OK := H.out.2.2.1
          have hg := H.out.2.2.2.1.1
          have hne := H.out.2.2.2.1.2
          have TT0 := H.out.2.2.2.2
          obtain ⟨b, off, rfl, hbb, hcell⟩ := D.out.1.form (by omega) (by omega)
          have hkl : k < l.length := by rw [D.out.2.1]; exact hlt
          have hx0 : w.cell? ⟨b, off + k, none⟩ = some (.int .i64 l[k]) := hcell k _ (by rw [List.getElem?_map, List.getElem?_eq_getElem hkl]; rfl)
          have hwk := D.out.2.2 l[k] (List.getElem_mem _)
          clear hcell
          generalize l[k] = x at *
          obtain ⟨x0, x1⟩ := hwk
          clear D
          go_wp2_with fail
          refine (copy_any g s _ H.out.1).mono ?_
          rintro e v1 ⟨gc, rfl, ac, sc, hgc⟩
          have glt := lt_of_at H.out.1
          have grlt := lt_of_at H.out.2.1
          have sz0 := TT0.size
          have AT0 := WS.at_stp H.out.1 sc (by simp)
          have RT0 := WS.rat_stp H.out.2.1 sc
          go_wp2_with fail
          refine (step_all gc s (-1) _ ac OK (by decide)).mono ?_
          rintro e W ⟨rfl, ac2, sc2⟩
          have AT1 := WS.at_stp AT0 sc2 (by simp; omega)
          have RT1 := WS.rat_out RT0 sc2 (by simp; omega)
          have TT := (TT0.trans sc).far sc2 (.inr (by omega))
          have gcs : g < W.heap.size ∧ gr < W.heap.size := ⟨lt_of_at AT1, lt_of_at RT1⟩
          clear H TT0 AT0 RT0 sc sc2 ac ac2 hgc glt grlt sz0
          have hm4 : (k : Int).tmod 4 = (k : Int) % 4 := Int.tmod_eq_emod_of_nonneg (by omega)
          go_upto_if 58 with (fail)
          go_cut [7] (fun v wv => ∃ g2, v = .pointer (some ⟨g2, 0, none⟩) ∧ Hid (s.at wv g2 ∧ s.rat wv gr ∧ (w.heap.size ≤ g2 ∧ g2 ≠ gr) ∧ Stp [] w wv))
          case first =>
            by_cases h4 : (k : Int) % 4 = 2
            · go_wp2_with fail
              refine (copy_any g s _ AT1).mono ?_
              rintro e V ⟨g2, rfl, a2, s2, hg2⟩
              go_wp2_with fail
              go_meet
              exact ⟨g2, rfl, Lib.hid (And.intro a2 (And.intro (WS.rat_stp RT1 s2) (And.intro (by have := TT.size; omega) (TT.trans s2))))⟩
            · have h4b : ((k : Int) % 4 == 2) = false := by simpa using h4
              go_wp2_with fail
              go_meet
              exact ⟨g, rfl, Lib.hid (And.intro AT1 (And.intro RT1 (And.intro ⟨hg, hne⟩ TT)))⟩
          case rest =>
            obtain ⟨g2, rfl, H4⟩ := hcut
            clear AT1 RT1 TT gcs hg hne hm4
            obtain ⟨W4, hW4⟩ : ∃ W4, W4 = wc := ⟨_, rfl⟩
            subst hW4
            have AT := H4.out.1
            have RT := H4.out.2.1
            have hg := H4.out.2.2.1.1
            have hne := H4.out.2.2.1.2
            have TT := H4.out.2.2.2
            have gcs : g2 < W4.heap.size ∧ gr < W4.heap.size := ⟨lt_of_at AT, lt_of_at RT⟩
            have G1 := Lib.hid (fun (w' : World) (hr : s.at w' g2) => step_all g2 s x w' hr OK ⟨x0, x1⟩)
            have G2 := Lib.hid (fun (w' : World) (hr : s.rat w' gr) => rstep_all gr s x w' hr OK ⟨x0, x1⟩)
            obtain ⟨ok2, st2⟩ := stepS_ok OK x hst (by omega)
            generalize s.stepS x = q at *
            obtain ⟨qc, s2⟩ := q
            simp only at G1 G2 ok2 st2
            have hx : W4.cell? ⟨b, off + k, none⟩ = some (.int .i64 x) := TT.cell hx0 (by simp)
            go_upto_region 14 with (fail)
            go_cut [91] (fun v wv => v = .bool false ∧ Hid (s2.at wv g2 ∧ s2.rat wv gr ∧ Stp [] w wv))
            case first =>
              clear H4
              have Z := Lib.hid (And.intro AT (And.intro RT TT))
              clear AT RT TT
              refine wp_region_held_drew (S := fun w' => w'.cell? ⟨b, off + k, none⟩ = some (.int .i64 x)) (by kernel_rfl) (by exact hx) (fun hHeld => ?_)
              refine wpAnyH_take (i := 0) (v := ?v0) rfl (by kernel_rfl) (by kernel_rfl) (by kernel_rfl) (fun _ _ _ h => h) (Or.inl ⟨by rfl, ?h0⟩) (by assumption) ?_
              case h0 => (intro wS hSw; (try dsimp only at hSw); go_simp; (try with_reducible rfl))
              try simp only [Act.put, List.setIfInBounds_toArray, List.set_cons_zero, List.set_cons_succ, List.getElem_toArray, List.getElem_cons_succ, List.getElem_cons_zero]
              refine wpAnyH_take (i := 1) (v := ?v1) rfl (by kernel_rfl) (by kernel_rfl) (by kernel_rfl) (fun _ _ _ h => h) (Or.inl ⟨by rfl, ?h1⟩) (by assumption) ?_
              case h1 => (intro wS hSw; (try dsimp only at hSw); go_simp; (try with_reducible rfl))
              try simp only [Act.put, List.setIfInBounds_toArray, List.set_cons_zero, List.set_cons_succ, List.getElem_toArray, List.getElem_cons_succ, List.getElem_cons_zero]
              refine wpAnyH_take (i := 2) (v := ?v2) rfl (by kernel_rfl) (by kernel_rfl) (by kernel_rfl) (fun _ _ _ h => h) (Or.inl ⟨by rfl, ?h2⟩) (by assumption) ?_
              case h2 => (intro wS hSw; (try dsimp only at hSw); go_simp; (try with_reducible rfl))
              try simp only [Act.put, List.setIfInBounds_toArray, List.set_cons_zero, List.set_cons_succ, List.getElem_toArray, List.getElem_cons_succ, List.getElem_cons_zero]
              refine wpAnyH_take (i := 3) (v := ?v3) rfl (by kernel_rfl) (by kernel_rfl) (by kernel_rfl) (fun _ _ _ h => h) (Or.inl ⟨by rfl, ?h3⟩) (by assumption) ?_
              case h3 => (intro wS hSw; (try dsimp only at hSw); go_simp; (try with_reducible rfl))
              try simp only [Act.put, List.setIfInBounds_toArray, List.set_cons_zero, List.set_cons_succ, List.getElem_toArray, List.getElem_cons_succ, List.getElem_cons_zero]
              refine wpAnyH_take (i := 4) (v := ?v4) rfl (by kernel_rfl) (by kernel_rfl) (by kernel_rfl) (fun _ _ _ h => h) (Or.inl ⟨by rfl, ?h4⟩) (by assumption) ?_
              case h4 => (intro wS hSw; (try dsimp only at hSw); go_simp; (try with_reducible rfl))
              try simp only [Act.put, List.setIfInBounds_toArray, List.set_cons_zero, List.set_cons_succ, List.getElem_toArray, List.getElem_cons_succ, List.getElem_cons_zero]
              refine wpAnyH_take (i := 6) (v := ?v6) rfl (by kernel_rfl) (by kernel_rfl) (by kernel_rfl) (fun _ _ _ h => h) (Or.inl ⟨by rfl, ?h6⟩) (by assumption) ?_
              case h6 => (intro wS hSw; (try dsimp only at hSw); go_simp; (try with_reducible rfl))
              try simp only [Act.put, List.setIfInBounds_toArray, List.set_cons_zero, List.set_cons_succ, List.getElem_toArray, List.getElem_cons_succ, List.getElem_cons_zero]
              refine wpAnyH_take (i := 7) (v := ?v7) rfl (by kernel_rfl) (by kernel_rfl) (by kernel_rfl) (fun _ _ _ h => h) (Or.inl ⟨by rfl, ?h7⟩) (by assumption) ?_
              case h7 => (intro wS hSw; (try dsimp only at hSw); go_simp; (try with_reducible rfl))
              try simp only [Act.put, List.setIfInBounds_toArray, List.set_cons_zero, List.set_cons_succ, List.getElem_toArray, List.getElem_cons_succ, List.getElem_cons_zero]
              refine wpAnyH_take (i := 8) (v := ?v8) rfl (by kernel_rfl) (by kernel_rfl) (by kernel_rfl) (fun _ _ _ h => h) (Or.inl ⟨by rfl, ?h8⟩) (by assumption) ?_
              case h8 => (intro wS hSw; (try dsimp only at hSw); go_simp; (try with_reducible rfl))
              try simp only [Act.put, List.setIfInBounds_toArray, List.set_cons_zero, List.set_cons_succ, List.getElem_toArray, List.getElem_cons_succ, List.getElem_cons_zero]
              refine wpAnyH_take (i := 9) (v := ?v9) rfl (by kernel_rfl) (by kernel_rfl) (by kernel_rfl) (fun _ _ _ h => h) (Or.inl ⟨by rfl, ?h9⟩) (by assumption) ?_
              case h9 => (intro wS hSw; (try dsimp only at hSw); go_simp; (try with_reducible rfl))
              try simp only [Act.put, List.setIfInBounds_toArray, List.set_cons_zero, List.set_cons_succ, List.getElem_toArray, List.getElem_cons_succ, List.getElem_cons_zero]
              refine wpAnyH_take (i := 10) (v := ?v10) rfl (by kernel_rfl) (by kernel_rfl) (by kernel_rfl) (fun _ _ _ h => h) (Or.inl ⟨by rfl, ?h10⟩) (by assumption) ?_
              case h10 => (intro wS hSw; (try dsimp only at hSw); go_simp; (try with_reducible rfl))
              try simp only [Act.put, List.setIfInBounds_toArray, List.set_cons_zero, List.set_cons_succ, List.getElem_toArray, List.getElem_cons_succ, List.getElem_cons_zero]
              refine wpAnyH_ready (rs := [5]) (by kernel_rfl) (by simp) ?_
              refine AllReadyH.cons rfl (fun K hK => ?_) AllReadyH.nil
              go_simp
              go_at_call 12; refine (G1.out _ (by exact Z.out.1)).mono ?_; rintro e v1 ⟨rfl, a5, s5⟩; have s5' : Stp [g2] W4 v1 := s5.of_drew; have hx' := s5'.cell hx (by simp; omega)
              go_wp2_with fail
              refine hK.out _ _ ?_ (fun hHeld => ?_)
              · exact hx'
              clear hK K
              try simp only [Act.put, List.setIfInBounds_toArray, List.set_cons_zero, List.set_cons_succ, List.getElem_toArray, List.getElem_cons_succ, List.getElem_cons_zero]
              refine wpAnyH_ready (rs := [11]) (by kernel_rfl) (by simp) ?_
              refine AllReadyH.cons rfl (fun K hK => ?_) AllReadyH.nil
              go_simp
              go_at_call 21; refine (G2.out _ (by exact WS.rat_out Z.out.2.1 s5' (by simp; omega))).mono ?_; rintro e v2 ⟨rfl, R9, s6⟩; have A9 := WS.at_stp a5 s6 (by simp; omega); have R9' := rw_cells R9; obtain ⟨r0, r1, r2, r3⟩ := R9'
              go_wp2_with fail
              refine hK.out _ _ ?_ (fun hHeld => ?_)
              · exact s6.cell hx' (by simp; omega)
              clear hK K
              try simp only [Act.put, List.setIfInBounds_toArray, List.set_cons_zero, List.set_cons_succ, List.getElem_toArray, List.getElem_cons_succ, List.getElem_cons_zero]
              have hHeld2 : v2.cell? ⟨b, off + k, none⟩ = some (.int .i64 x) ∧ v2.cell? ⟨gr, 0, none⟩ = some (.int .i64 s2.base) ∧ v2.cell? ⟨gr, 1, none⟩ = some (.int .i64 s2.steps) := ⟨hHeld, r0, r1⟩
              refine wpAnyH_mono (S' := fun w' => w'.cell? ⟨b, off + k, none⟩ = some (.int .i64 x) ∧ w'.cell? ⟨gr, 0, none⟩ = some (.int .i64 s2.base) ∧ w'.cell? ⟨gr, 1, none⟩ = some (.int .i64 s2.steps)) (fun _ h => h.1) _ _ _ _ ?_
              clear hHeld
              refine wpAnyH_take (i := 12) (v := ?v12) rfl (by kernel_rfl) (by kernel_rfl) (by kernel_rfl) (fun _ _ _ h => h) (Or.inl ⟨by rfl, ?h12⟩) (by assumption) ?_
              case h12 => (intro wS hSw; (try dsimp only at hSw); go_simp; (try with_reducible rfl))
              try simp only [Act.put, List.setIfInBounds_toArray, List.set_cons_zero, List.set_cons_succ, List.getElem_toArray, List.getElem_cons_succ, List.getElem_cons_zero]
              refine wpAnyH_take (i := 13) (v := ?v13) rfl (by kernel_rfl) (by kernel_rfl) (by kernel_rfl) (fun _ _ _ h => h) (Or.inl ⟨by rfl, ?h13⟩) (by assumption) ?_
              case h13 => (intro wS hSw; (try dsimp only at hSw); go_simp; (try with_reducible rfl))
              try simp only [Act.put, List.setIfInBounds_toArray, List.set_cons_zero, List.set_cons_succ, List.getElem_toArray, List.getElem_cons_succ, List.getElem_cons_zero]
              refine wpAnyH_take (i := 14) (v := ?v14) rfl (by kernel_rfl) (by kernel_rfl) (by kernel_rfl) (fun _ _ _ h => h) (Or.inl ⟨by rfl, ?h14⟩) (by assumption) ?_
              case h14 => (intro wS hSw; (try dsimp only at hSw); go_simp; (try with_reducible rfl))
              try simp only [Act.put, List.setIfInBounds_toArray, List.set_cons_zero, List.set_cons_succ, List.getElem_toArray, List.getElem_cons_succ, List.getElem_cons_zero]
              refine wpAnyH_take (i := 16) (v := ?v16) rfl (by kernel_rfl) (by kernel_rfl) (by kernel_rfl) (fun _ _ _ h => h) (Or.inl ⟨by rfl, ?h16⟩) (by assumption) ?_
              case h16 => (intro wS hSw; (try dsimp only at hSw); go_simp; (try with_reducible rfl))
              try simp only [Act.put, List.setIfInBounds_toArray, List.set_cons_zero, List.set_cons_succ, List.getElem_toArray, List.getElem_cons_succ, List.getElem_cons_zero]
              refine wpAnyH_take (i := 17) (v := ?v17) rfl (by kernel_rfl) (by kernel_rfl) (by kernel_rfl) (fun _ _ _ h => h) (Or.inl ⟨by rfl, ?h17⟩) (by assumption) ?_
              case h17 => (intro wS hSw; (try dsimp only at hSw); go_simp; (try with_reducible rfl))
              try simp only [Act.put, List.setIfInBounds_toArray, List.set_cons_zero, List.set_cons_succ, List.getElem_toArray, List.getElem_cons_succ, List.getElem_cons_zero]
              refine wpAnyH_take (i := 18) (v := ?v18) rfl (by kernel_rfl) (by kernel_rfl) (by kernel_rfl) (fun _ _ _ h => h) (Or.inl ⟨by rfl, ?h18⟩) (by assumption) ?_
              case h18 => (intro wS hSw; (try dsimp only at hSw); go_simp; (try with_reducible rfl))
              try simp only [Act.put, List.setIfInBounds_toArray, List.set_cons_zero, List.set_cons_succ, List.getElem_toArray, List.getElem_cons_succ, List.getElem_cons_zero]
              refine wpAnyH_take (i := 19) (v := ?v19) rfl (by kernel_rfl) (by kernel_rfl) (by kernel_rfl) (fun _ _ _ h => h) (Or.inl ⟨by rfl, ?h19⟩) (by assumption) ?_
              case h19 => (intro wS hSw; (try dsimp only at hSw); go_simp; (try with_reducible rfl))
              try simp only [Act.put, List.setIfInBounds_toArray, List.set_cons_zero, List.set_cons_succ, List.getElem_toArray, List.getElem_cons_succ, List.getElem_cons_zero]
              refine wpAnyH_ready (rs := [15]) (by kernel_rfl) (by simp) ?_
              refine AllReadyH.cons rfl (fun K hK => ?_) AllReadyH.nil
              go_simp
              go_at_call 10; refine (base_any g2 _ _ A9).mono ?_; rintro e v9 ⟨rfl, rfl⟩
              go_wp2_with fail
              refine hK.out _ _ ?_ (fun hHeld => ?_)
              · exact hHeld2
              clear hK K
              try simp only [Act.put, List.setIfInBounds_toArray, List.set_cons_zero, List.set_cons_succ, List.getElem_toArray, List.getElem_cons_succ, List.getElem_cons_zero]
              clear hHeld2
              refine wpAnyH_take (i := 20) (v := ?v20) rfl (by kernel_rfl) (by kernel_rfl) (by kernel_rfl) (fun _ _ _ h => h) (Or.inl ⟨by rfl, ?h20⟩) (by assumption) ?_
              case h20 => (intro wS hSw; (try dsimp only at hSw); go_simp; (try with_reducible rfl))
              try simp only [Act.put, List.setIfInBounds_toArray, List.set_cons_zero, List.set_cons_succ, List.getElem_toArray, List.getElem_cons_succ, List.getElem_cons_zero]
              refine wpAnyH_take (i := 21) (v := ?v21) rfl (by kernel_rfl) (by kernel_rfl) (by kernel_rfl) (fun _ _ _ h => h) (Or.inl ⟨by rfl, ?h21⟩) (by assumption) ?_
              case h21 => (intro wS hSw; (try dsimp only at hSw); go_simp; (try with_reducible rfl))
              try simp only [Act.put, List.setIfInBounds_toArray, List.set_cons_zero, List.set_cons_succ, List.getElem_toArray, List.getElem_cons_succ, List.getElem_cons_zero]
              refine wpAnyH_take (i := 22) (v := ?v22) rfl (by kernel_rfl) (by kernel_rfl) (by kernel_rfl) (fun _ _ _ h => h) (Or.inl ⟨by rfl, ?h22⟩) (by assumption) ?_
              case h22 => (intro wS hSw; (try dsimp only at hSw); go_simp; (try with_reducible rfl))
              try simp only [Act.put, List.setIfInBounds_toArray, List.set_cons_zero, List.set_cons_succ, List.getElem_toArray, List.getElem_cons_succ, List.getElem_cons_zero]
              refine wpAnyH_take (i := 23) (v := ?v23) rfl (by kernel_rfl) (by kernel_rfl) (by kernel_rfl) (fun _ _ _ h => h) (Or.inl ⟨by rfl, ?h23⟩) (by assumption) ?_
              case h23 => (intro wS hSw; (try dsimp only at hSw); go_simp; (try with_reducible rfl))
              try simp only [Act.put, List.setIfInBounds_toArray, List.set_cons_zero, List.set_cons_succ, List.getElem_toArray, List.getElem_cons_succ, List.getElem_cons_zero]
              refine wpAnyH_take (i := 25) (v := ?v25) rfl (by kernel_rfl) (by kernel_rfl) (by kernel_rfl) (fun _ _ _ h => h) (Or.inl ⟨by rfl, ?h25⟩) (by assumption) ?_
              case h25 => (intro wS hSw; (try dsimp only at hSw); go_simp; (try with_reducible rfl))
              try simp only [Act.put, List.setIfInBounds_toArray, List.set_cons_zero, List.set_cons_succ, List.getElem_toArray, List.getElem_cons_succ, List.getElem_cons_zero]
              refine wpAnyH_take (i := 26) (v := ?v26) rfl (by kernel_rfl) (by kernel_rfl) (by kernel_rfl) (fun _ _ _ h => h) (Or.inl ⟨by rfl, ?h26⟩) (by assumption) ?_
              case h26 => (intro wS hSw; (try dsimp only at hSw); go_simp; (try with_reducible rfl))
              try simp only [Act.put, List.setIfInBounds_toArray, List.set_cons_zero, List.set_cons_succ, List.getElem_toArray, List.getElem_cons_succ, List.getElem_cons_zero]
              refine wpAnyH_take (i := 27) (v := ?v27) rfl (by kernel_rfl) (by kernel_rfl) (by kernel_rfl) (fun _ _ _ h => h) (Or.inl ⟨by rfl, ?h27⟩) (by assumption) ?_
              case h27 => (intro wS hSw; (try dsimp only at hSw); go_simp; (try with_reducible rfl))
              try simp only [Act.put, List.setIfInBounds_toArray, List.set_cons_zero, List.set_cons_succ, List.getElem_toArray, List.getElem_cons_succ, List.getElem_cons_zero]
              refine wpAnyH_take (i := 28) (v := ?v28) rfl (by kernel_rfl) (by kernel_rfl) (by kernel_rfl) (fun _ _ _ h => h) (Or.inl ⟨by rfl, ?h28⟩) (by assumption) ?_
              case h28 => (intro wS hSw; (try dsimp only at hSw); go_simp; (try with_reducible rfl))
              try simp only [Act.put, List.setIfInBounds_toArray, List.set_cons_zero, List.set_cons_succ, List.getElem_toArray, List.getElem_cons_succ, List.getElem_cons_zero]
              refine wpAnyH_ready (rs := [24]) (by kernel_rfl) (by simp) ?_
              refine AllReadyH.cons rfl (fun K hK => ?_) AllReadyH.nil
              go_simp
              go_at_call 11; refine (steps_any g2 _ _ A9).mono ?_; rintro e v9 ⟨rfl, rfl⟩
              go_wp2_with fail
              refine hK.out _ _ ?_ (fun hHeld => ?_)
              · exact hHeld
              clear hK K
              try simp only [Act.put, List.setIfInBounds_toArray, List.set_cons_zero, List.set_cons_succ, List.getElem_toArray, List.getElem_cons_succ, List.getElem_cons_zero]
              refine wpAnyH_take (i := 29) (v := ?v29) rfl (by kernel_rfl) (by kernel_rfl) (by kernel_rfl) (fun _ _ _ h => h) (Or.inl ⟨by rfl, ?h29⟩) (by assumption) ?_
              case h29 => (intro wS hSw; (try dsimp only at hSw); go_simp; (try with_reducible rfl))
              try simp only [Act.put, List.setIfInBounds_toArray, List.set_cons_zero, List.set_cons_succ, List.getElem_toArray, List.getElem_cons_succ, List.getElem_cons_zero]
              refine wpAnyH_take (i := 30) (v := ?v30) rfl (by kernel_rfl) (by kernel_rfl) (by kernel_rfl) (fun _ _ _ h => h) (Or.inl ⟨by rfl, ?h30⟩) (by assumption) ?_
              case h30 => (intro wS hSw; (try dsimp only at hSw); go_simp; (try with_reducible rfl))
              try simp only [Act.put, List.setIfInBounds_toArray, List.set_cons_zero, List.set_cons_succ, List.getElem_toArray, List.getElem_cons_succ, List.getElem_cons_zero]
              refine wpAnyH_done (by kernel_rfl) ?_ _
              go_wp2_with fail
              go_meet
              exact ⟨rfl, Lib.hid (And.intro A9 (And.intro R9 ((Z.out.2.2.far s5' (.inr hg)).far s6 (.inr hgr0))))⟩
            case rest =>
              clear AT RT TT H4 G1 G2 gcs hx
              obtain ⟨W5, hW5⟩ : ∃ W5, W5 = wc := ⟨_, rfl⟩
              subst hW5
              obtain ⟨rfl, Z⟩ := hcut
              have NX : Hid (∀ w', Stp [] W5 w' → Hid (s2.at w' g2 ∧ s2.rat w' gr ∧ s2.ok ∧ (w.heap.size ≤ g2 ∧ g2 ≠ gr) ∧ Stp [] w w')) := fun w' hs => ⟨WS.at_stp Z.out.1 hs (by simp), WS.rat_stp Z.out.2.1 hs, ok2, ⟨hg, hne⟩, Z.out.2.2.trans hs⟩
              go_wp2_with fail
              go_loopw [13] (fun i wr => ∃ j : Nat, j ≤ m ∧ j ≤ 4 ∧ i = .int .i64 j ∧ Hid (Stp [] W5 wr)) (fun i _ => m - (intOf i).toNat)
              case atStart => exact ⟨0, Nat.zero_le _, by omega, rfl, Lib.hid (Stp.refl _ _)⟩
              case round =>
                obtain ⟨j, hj, hj4, rfl, HT⟩ := hrel
                by_cases hjm : j < m
                · by_cases h4 : j = 4
                  · have h4' : ¬ (j : Int) < 4 := by omega
                    clear h4 hj4
                    go_wp2_with fail
                    have N1 := NX.out _ HT.out
                    go_roundw
                    case rel => exact ⟨k + 1, g2, s2, by omega, by omega, by go_num, rfl, by omega, N1⟩
                    case measure => simp [intOf]; omega
                  · have hj40 : (j : Int) < 4 := by omega
                    have hjmi : (j : Int) < (m : Int) := by omega
                    obtain ⟨u, hu⟩ : ∃ u, (k + j) % m = u := ⟨_, rfl⟩
                    have hum : u < m := by rw [← hu]; exact Nat.mod_lt _ (by omega)
                    have htm : ((k : Int) + (j : Int)).tmod (m : Int) = (u : Int) := by
                      rw [← hu, Int.tmod_eq_emod_of_nonneg (by omega)]
                      simp
                    have hm0 : ((m : Int) == 0) = false := by simp; omega
                    have hmne : (m : Int) ≠ 0 := by omega
                    have hu0 : (0 : Int) ≤ (u : Int) := by omega
                    have hui : (u : Int) < (m : Int) := by omega
                    clear hu
                    obtain ⟨b2, off2, rfl, hbb2, hcell2⟩ := DT.out.1.form (by omega) (by omega)
                    have hul : u < t.length := by rw [DT.out.2.1]; exact hum
                    have hy : wr.cell? ⟨b2, off2 + u, none⟩ = some (.int .i64 t[u]) := (Z.out.2.2.trans HT.out).cell (hcell2 u _ (by rw [List.getElem?_map, List.getElem?_eq_getElem hul]; rfl)) (by simp)
                    have hyb := DT.out.2.2 t[u] (List.getElem_mem _)
                    clear hcell2
                    generalize t[u] = y at *
                    obtain ⟨y0, y1⟩ := hyb
                    have N1 := NX.out _ HT.out
                    have AT := N1.out.1
                    have RT := N1.out.2.1
                    clear N1
                    go_wp2_with fail
                    refine (when_any g2 s2 y _ AT ok2 ⟨y0, y1⟩).mono ?_
                    rintro e v1 ⟨rfl, s6⟩
                    have AT1 := WS.at_stp AT s6 (by simp)
                    have RT1 := WS.rat_stp RT s6
                    go_wp2_with fail
                    refine (rwwhen_any gr s2 y _ RT1 ok2 ⟨y0, y1⟩).mono ?_
                    rintro e v2 ⟨rfl, s7⟩
                    have AT2 := WS.at_stp AT1 s7 (by simp)
                    have RT2 := WS.rat_stp RT1 s7
                    have s67 := s6.trans s7
                    generalize s2.whenS y = wv at *
                    obtain ⟨wa, wb⟩ := wv
                    clear AT RT AT1 RT1 hy
                    go_wp2_with fail
                    refine (at_any g2 s2 y _ AT2 ok2 ⟨y0, y1⟩).mono ?_
                    rintro e v3 ⟨rfl, n3, rfl⟩
                    have RT3 : s2.rat (v2.drewN n3) gr := RT2
                    go_wp2_with fail
                    refine (rwat_any gr s2 y _ RT3 ok2 ⟨y0, y1⟩).mono ?_
                    rintro e v4 ⟨rfl, s8⟩
                    have s8' : Stp [] v2 v4 := s8.of_drewN
                    go_wp2_with fail
                    go_roundw
                    case rel => exact ⟨j + 1, by omega, by omega, by go_num, Lib.hid ((HT.out.trans s67).trans s8')⟩
                    case measure => simp [intOf]; omega
                · obtain rfl : j = m := by omega
                  go_wp2_with fail
                  have N1 := NX.out _ HT.out
                  go_roundw
                  case rel => exact ⟨k + 1, g2, s2, by omega, by omega, by go_num, rfl, by omega, N1⟩
                  case measure => simp [intOf]; omega
      · obtain rfl : k = n := by omega
        go_wp2_with fail
        refine (alive_any _).mono ?_
        rintro e w3 ⟨rfl, s3⟩
        go_wp2_with fail
        go_ret
        exact ⟨rfl, H.out.2.2.2.2.trans s3⟩
  · have hb : a < 0 ∨ 4611686018427387904 < a := by omega
    clear h0
    refine (new_bad _ _ hb).mono ?_
    rintro e w1 ⟨rfl, rfl⟩
    go_wp2_with fail
    refine (rwnew_bad _ _ hb).mono ?_
    rintro e w2 ⟨rfl, rfl⟩
    go_wp2_with fail
    refine (alive_any _).mono ?_
    rintro e w3 ⟨rfl, s3⟩
    go_wp2_with fail
    go_ret
    exact ⟨rfl, s3⟩
end Go.Proofs.Ytejcckjakhllpaa
