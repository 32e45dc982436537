/- LeapMost: a vote is what more than half of those that are sure say; for any votes. -/
import Derived.Test.YtkdpndoamepcbaaLeapG
import Derived.Deep.RegionLaw
namespace Go.Proofs.Ytkdpndoamepcbaa
open Go.RowKit
set_option linter.unusedVariables false
set_option linter.unusedSimpArgs false

theorem byte_info : (Try.prog.info? 5).map (fun i => (i.zero, i.size, i.bytes)) = some (some (.int .u8 0), 1, 1) := by kernel_rfl
theorem cntB_app (b : Int) (l m : List Int) : cntB b (l ++ m) = cntB b l + cntB b m := by
  unfold cntB
  rw [List.filter_append, List.length_append]
  omega
theorem voteS_of {l m : List Int} (h0 : cntB 0 l = cntB 0 m) (h1 : cntB 1 l = cntB 1 m) (h2 : cntB 2 l = cntB 2 m) : voteS l = voteS m := by
  unfold voteS
  rw [h0, h1, h2]
theorem vote_turned (l : List Int) (k : Nat) : voteS ((([3] ++ l.drop k) ++ l.take k) ++ [3, 3, 3, 3]) = voteS l := by
  have e : ∀ b : Int, b ≠ 3 → cntB b ((([3] ++ l.drop k) ++ l.take k) ++ [3, 3, 3, 3]) = cntB b l := fun b hb => by
    rw [cntB_app, cntB_app, cntB_app]
    have : cntB b l = cntB b (l.take k) + cntB b (l.drop k) := by rw [← cntB_app, List.take_append_drop]
    have z1 : cntB b [3] = 0 := by unfold cntB; simp [Ne.symm hb]
    have z4 : cntB b [3, 3, 3, 3] = 0 := by unfold cntB; simp [Ne.symm hb]
    omega
  exact voteS_of (e 0 (by decide)) (e 1 (by decide)) (e 2 (by decide))
theorem voteS_fst (l : List Int) : 0 ≤ (voteS l).1 ∧ (voteS l).1 ≤ 2 ∧ ((voteS l).2 = false → (voteS l).1 = 0) := by
  unfold voteS
  (repeat' split) <;> simp
theorem voteS_most (l : List Int) (h : (voteS l).2 = true) : cntB 0 l + cntB 1 l + cntB 2 l < 2 * cntB (voteS l).1 l := by
  revert h
  unfold voteS
  (repeat' split) <;> simp <;> assumption
theorem voteS_more (l : List Int) (h : (voteS l).2 = true) : voteS (l ++ [(voteS l).1]) = voteS l := by
  have c0 := (cntB_bd 0 l).1
  have c1 := (cntB_bd 1 l).1
  have c2 := (cntB_bd 2 l).1
  have s0 := cntB_snoc 0 l
  have s1 := cntB_snoc 1 l
  have s2 := cntB_snoc 2 l
  revert h
  unfold voteS
  simp only [s0, s1, s2]
  (repeat' split) <;> simp <;> omega

theorem row_take {w : World} {A : Option Addr} {n m : Nat} {xs : List Value} {G : List Nat} (h : RowIn w A n 1 xs G) (hm : m ≤ n) : RowIn w A m 1 (xs.take m) G := by
  refine ⟨by have := h.1; simp; omega, fun hn => ?_⟩
  obtain ⟨b, off, e, hb, hg, hc⟩ := h.2 (by omega)
  exact ⟨b, off, e, hb, hg, fun j u hu => hc j u (by
    rw [List.getElem?_take] at hu
    split at hu
    · exact hu
    · cases hu)⟩
theorem Reads.zero_ {w : World} {B size : Nat} {A : Option Addr} : Reads w B size A 0 [] := ⟨by simp, fun h => absurd h (by omega)⟩
theorem own_built (W : World) (e : TypeId) (cs : Array Value) (m : Nat) (h : cs.size = m) (hm : m ≤ maxLen) : (W.alloc (.cells cs e)).ownsRow W.heap.size e 1 (.slice (some ⟨W.heap.size, 0, none⟩) m m) m cs.toList :=
  ⟨by simp [h], .inr ⟨W.heap.size, m, cs, rfl, Nat.le_refl _, heap_alloc_new W _, Nat.le_refl _, hm, by omega, by rw [List.take_of_length_le (by simp [h])]⟩⟩
def mods (l : List Int) : List Int := l.map (· % 4)
theorem mods_len (l : List Int) : (mods l).length = l.length := by simp [mods]
theorem mods_bd {l : List Int} : ∀ x ∈ mods l, 0 ≤ x ∧ x ≤ 3 := by
  intro x hx
  obtain ⟨y, _, rfl⟩ := List.mem_map.mp hx
  omega
theorem grown_built {w1 w2 : World} {cs : Array Value} {e : TypeId} {n m : Nat} (h : (w1.alloc (.cells cs e)).drew.grownBy w2 (Value.slice (some ⟨w1.heap.size, 0, none⟩) n m).ownBlock) : w1.heap.size ≤ w2.heap.size ∧ (∀ size A n xs, Reads w1 w1.heap.size size A n xs → Reads w2 w1.heap.size size A n xs) ∧ Stp [] w1 w2 := by
  have h1 : ∀ g, (Value.slice (some ⟨w1.heap.size, 0, none⟩) n m).ownBlock = some g → w1.heap.size = g := by
    intro g hg
    simpa [Value.ownBlock] using hg
  have hs : w1.heap.size ≤ (w1.alloc (.cells cs e)).heap.size := ((Stp.refl [] w1).alloc _).size
  refine ⟨Nat.le_trans hs h.size, fun size A n xs hr => ?_, ?_⟩
  · exact (show Reads (w1.alloc (.cells cs e)).drew w1.heap.size size A n xs from hr.alloc (Nat.le_refl _) _).grown h hs (fun g hg => by rw [h1 g hg]; exact Nat.le_refl _)
  · exact (show Stp [] w1 (w1.alloc (.cells cs e)).drew from ((Stp.refl [] w1).alloc _).drew).grown h (fun g hg => .inr (by rw [h1 g hg]; exact Nat.le_refl _))
theorem vote_row (V : List Int) (k : Nat) (hk : V.length = k) (hk60 : k ≤ 60) (hb : ∀ x ∈ V, 0 ≤ x ∧ x ≤ 255) (rn : Nat) (w : World) (A : Option Addr) (n c : Nat) (xs : List Value) (h : RowIn w A n 1 xs []) (hxs : xs = (([.int .u8 3] ++ (V.drop rn).map (Value.int .u8) ++ (V.take rn).map (Value.int .u8)) ++ [.int .u8 3, .int .u8 3, .int .u8 3, .int .u8 3])) :
    Calls Try.prog 10 #[.slice A n c] w fun e w' => e = .returned (.tuple #[.int .u8 (voteS V).1, .bool (voteS V).2]) ∧ Stp [] w w' := by
  have e : (([.int .u8 3] ++ (V.drop rn).map (Value.int .u8) ++ (V.take rn).map (Value.int .u8)) ++ [.int .u8 3, .int .u8 3, .int .u8 3, .int .u8 3] : List Value) = ((([3] ++ V.drop rn) ++ V.take rn) ++ [3, 3, 3, 3]).map (Value.int .u8) := by simp
  rw [hxs, e] at h
  have hl := h.1
  rw [List.length_map, Nat.mul_one] at hl
  have hn : n ≤ 200 := by
    rw [← hl]
    simp
    omega
  have := vote_any A n c _ w h hl (by omega) (fun x hx => by
    rcases List.mem_append.mp hx with hx | hx
    · rcases List.mem_append.mp hx with hx | hx
      · rcases List.mem_append.mp hx with hx | hx
        · simp at hx; omega
        · exact hb x (List.mem_of_mem_drop hx)
      · exact hb x (List.mem_of_mem_take hx)
    · simp at hx; omega)
  rw [vote_turned] at this
  exact this
theorem vote_plus (V : List Int) (k : Nat) (hk : V.length = k) (hk60 : k ≤ 60) (hb : ∀ x ∈ V, 0 ≤ x ∧ x ≤ 255) (va : Int) (hv : 0 ≤ va ∧ va ≤ 2) (w : World) (A : Option Addr) (n c : Nat) (xs : List Value) (h : RowIn w A n 1 xs []) (hxs : xs = V.map (Value.int .u8) ++ [.int .u8 va]) :
    Calls Try.prog 10 #[.slice A n c] w fun e w' => e = .returned (.tuple #[.int .u8 (voteS (V ++ [va])).1, .bool (voteS (V ++ [va])).2]) ∧ Stp [] w w' := by
  have e : (V.map (Value.int .u8) ++ [.int .u8 va] : List Value) = (V ++ [va]).map (Value.int .u8) := by simp
  rw [hxs, e] at h
  have hl := h.1
  rw [List.length_map, Nat.mul_one] at hl
  exact vote_any A n c _ w h hl (by rw [← hl]; simp; omega) (fun x hx => by
    rcases List.mem_append.mp hx with hx | hx
    · exact hb x hx
    · simp at hx; omega)
theorem cnt_round {l : List Int} {k : Nat} (hk : k < l.length) (b : Int) : cntB b (l.take (k + 1)) = if l[k] = b then cntB b (l.take k) + 1 else cntB b (l.take k) := by
  have := cntB_snoc b (l.take k) l[k]
  rw [← List.take_succ_eq_append_getElem hk] at this
  rw [this]
  split <;> omega
theorem mod_snoc (l : List Int) (k : Nat) (h : k < l.length) : (mods (l.take (k + 1))).map (Value.int .u8) = (mods (l.take k)).map (Value.int .u8) ++ [.int .u8 (l[k] % 4)] := by
  unfold mods
  rw [List.take_succ_eq_append_getElem h, List.map_append, List.map_append]
  rfl

set_option maxRecDepth 100000 in
set_option maxHeartbeats 2000000 in
theorem leapMost_walk (A : Option Addr) (n c : Nat) (l : List Int) (at_ : Int) (w : World) (hr : Reads w w.heap.size 1 A n (l.map (Value.int .u8))) (hl : l.length = n) (hn : n * 1 ≤ 140737488351232) (hb : ∀ x ∈ l, 0 ≤ x ∧ x ≤ 255) (ha : 0 ≤ at_ ∧ at_ ≤ 255) :
    Calls Try.prog 4 #[.slice A n c, .int .u8 at_] w fun e w' => e = .returned (.bool true) ∧ Stp [] w w' := by
  have P := Lib.hid (And.intro (RowIn.of_reads (G := []) hr (Nat.le_refl _) (by simp) (by decide)) (And.intro hl hb))
  obtain ⟨i0, hi, hz0, hz1, hz2⟩ := info_parts byte_info
  clear hr hl hb
  go_enter Try.func4, Try.ntmps4
  go_wp2_with fail
  go_loopw [5, 6] (fun v i wr => ∃ k : Nat, k ≤ n ∧ k ≤ 60 ∧ i = .int .i64 k ∧ wr.ownsRow w.heap.size 5 1 v k ((mods (l.take k)).map (Value.int .u8)) ∧ Stp [] w wr) (fun _ i _ => n - (intOf i).toNat)
  case atStart => exact ⟨0, by omega, by omega, rfl, World.ownsRow_nil _ _ _ _, Stp.refl _ _⟩
  case round =>
    obtain ⟨k, hk, hk60, rfl, hown, ht⟩ := hrel
    have HT := Lib.hid (And.intro hown ht)
    clear hown
    by_cases hlt : k < n ∧ k < 60
    · obtain ⟨hlt, h60⟩ := hlt
      obtain ⟨b, off, rfl, hbb, hbg, hcell⟩ := P.out.1.2 (by omega)
      have hkl : k < l.length := by have := P.out.2.1; omega
      have hc : wr.cell? ⟨b, off + k, none⟩ = some (.int .u8 l[k]) := ht.cell (hcell k _ (by rw [List.getElem?_map, List.getElem?_eq_getElem hkl]; rfl)) (by simp)
      have hbk := P.out.2.2 l[k] (List.getElem_mem _)
      have hs : (mods (l.take (k + 1))).map (Value.int .u8) = (mods (l.take k)).map (Value.int .u8) ++ [.int .u8 (l[k] % 4)] := by
        exact mod_snoc l k hkl
      have HS := Lib.hid hs
      clear hcell ht hs
      generalize l[k] = x at *
      obtain ⟨b0, b1⟩ := hbk
      go_wp2_with (at_builtin; refine wpList_append_own _ rfl _ _ 22 rfl w.heap.size 5 i0 (.int .u8 0) 1 1 Try.underlying22 hi hz0 hz1 hz2 rfl (by decide) _ _ _ rfl (HT.out.1.alloc _) ⟨wr.heap.size, 0, none⟩ 1 1 [.int .u8 (x % 4)] rfl rfl ?c1 ?c2 ?c3 ?c4 ?c5 ?_)
      case c1 =>
        intro j u hj
        match j, hj with
        | 0, hj => simp at hj; subst hj; simp [Addr.add]
      case c2 => intro u hu; simp at hu; subst hu; rfl
      case c3 => unfold maxLen; omega
      case c4 => omega
      case c5 => have := HT.out.2.size; (try simp); omega
      · intro v' w2 hown' hgrow _
        have R := Lib.hid (And.intro (show w2.ownsRow w.heap.size 5 1 v' (k + 1) ((mods (l.take (k + 1))).map (Value.int .u8)) by
          rw [HS.out]
          exact hown') (show Stp [] w w2 from (HT.out.2.alloc _).grown hgrow (fun k hk => .inr (own_base HT.out.1 hk))))
        clear hown' hgrow HT hc
        go_wp2_with fail
        go_roundw
        case rel => exact ⟨k + 1, by omega, by omega, by go_num, R.out.1, R.out.2⟩
        case measure => simp [intOf]; omega
    · have hkn : (¬ k < n ∨ k < n ∧ ¬ k < 60) ∧ (k = n ∨ k = 60) := by omega
      obtain ⟨V, hV⟩ : ∃ V, mods (l.take k) = V := ⟨_, rfl⟩
      have hVl : V.length = k := by rw [← hV, mods_len]; have := P.out.2.1; simp; omega
      have hVb : ∀ x ∈ V, 0 ≤ x ∧ x ≤ 255 := by
        intro x hx
        rw [← hV] at hx
        have := mods_bd x hx
        omega
      have hown := HT.out.1
      rw [hV] at hown
      have hV3 : ∀ x ∈ V, 0 ≤ x ∧ x ≤ 3 := by
        intro x hx
        rw [← hV] at hx
        exact mods_bd x hx
      have T := Lib.hid HT.out.2
      have OW := Lib.hid hown
      obtain ⟨A2, c2, rfl, k1, k2, hrow⟩ := own_form (G := []) hown (by simp)
      have OD1 : ∀ (m : Nat), (∀ u ∈ (V.drop m).map (Value.int .u8), u.oneCell' = true) ∧ (∀ u ∈ (V.take m).map (Value.int .u8), u.oneCell' = true) := fun m => ⟨fun u hu => by obtain ⟨y, _, rfl⟩ := List.mem_map.mp hu; rfl, fun u hu => by obtain ⟨y, _, rfl⟩ := List.mem_map.mp hu; rfl⟩
      have OD2 := Lib.hid OD1
      clear OD1
      have VV := Lib.hid (And.intro hVl (And.intro hVb (And.intro hV3 hrow)))
      obtain ⟨⟨va, vb⟩, hva⟩ : ∃ p, voteS V = p := ⟨_, rfl⟩
      have HVA := Lib.hid hva
      have v1 := voteS_fst V
      have v2 := voteS_most V
      have v3 := voteS_more V
      rw [hva] at v1 v2 v3
      have VM := Lib.hid v2
      have VN := Lib.hid v3
      clear v2 v3
      obtain ⟨v10, v11, v12⟩ := v1
      simp only at v10 v11 v12
      have hc := hkn.1
      unfold maxLen at k2
      clear HT hown hV hVl hVb hV3 hrow hkn ht hlt hva
      have VO : Hid (∀ w' A n c, RowIn w' A n 1 (V.map (Value.int .u8)) [] → n = k → Calls Try.prog 10 #[.slice A n c] w' fun e w'' => e = .returned (.tuple #[.int .u8 va, .bool vb]) ∧ Stp [] w' w'') := by
        intro w' A n c h1 h2
        have := vote_any A n c V w' h1 (by rw [VV.out.1, h2]) (by omega) VV.out.2.1
        rw [HVA.out] at this
        exact this
      rcases hc with h | ⟨h, h2⟩
      rotate_left
      · rcases A2 with _ | ad
        · obtain ⟨b, off, e, _⟩ := VV.out.2.2.2.2 (by omega)
          cases e
        · obtain ⟨rn, hr⟩ : ∃ r : Nat, at_ % (k : Int) = r := ⟨(at_ % (k : Int)).toNat, by
            have := Int.emod_nonneg at_ (show (k : Int) ≠ 0 by omega)
            omega⟩
          have r1 : rn < k := by have := Int.emod_lt_of_pos at_ (show (0:Int) < k by omega); omega
          have r2 : rn ≤ k := by omega
          have r3 : ¬ c2 = rn := by omega
          have r4 : rn ≤ c2 := by omega
          have k0 : 0 < k := by omega
          have RA : Hid (∀ w', Stp [] wr w' → Reads w' w'.heap.size 1 (some (ad.add rn)) (k - rn) ((V.drop rn).map (Value.int .u8))) := fun w' s => by
            have := ((VV.out.2.2.2.stp s).reads).cut (k := rn) (cap := c2) r2 k1
            rw [if_neg r3, Nat.mul_one, ← List.map_drop] at this
            exact this
          have RB : Hid (∀ w', Stp [] wr w' → Reads w' w'.heap.size 1 (some ad) rn ((V.take rn).map (Value.int .u8))) := fun w' s => by
            have := (row_take (VV.out.2.2.2.stp s) r2).reads
            rw [← List.map_take] at this
            exact this
          go_wp2_with fail
          refine (VO.out _ _ _ _ VV.out.2.2.2 rfl).mono ?_
          rintro e w1 ⟨rfl, s1⟩
          have RD := Lib.hid (And.intro (RA.out _ s1) (RB.out _ s1))
          go_wp2_with fail
          rw [hr]
          go_region_law (first
            | (refine step_append_any _ rfl (.tmp 49) (.tmp 52) 22 rfl w1.heap.size 5 i0 (.int .u8 0) 1 1 Try.underlying22 hi hz0 hz1 hz2 rfl (by decide) _ 1 [.int .u8 3] rfl (own_built w1 _ _ 1 rfl (by decide)) w1.heap.size _ (k - rn) _ ((V.drop rn).map (Value.int .u8)) rfl (RD.out.1.alloc (Nat.le_refl _) _) (OD2.out _).1 (by unfold maxLen; omega) (by omega) (by simp [World.drew]) ?_; intro v2 w2 hown2 hgrow2 hblk2)
            | (refine step_append_any _ rfl (.tmp 53) (.tmp 56) 22 rfl w1.heap.size 5 i0 (.int .u8 0) 1 1 Try.underlying22 hi hz0 hz1 hz2 rfl (by decide) _ (1 + (k - rn)) _ rfl hown2 w1.heap.size _ rn _ ((V.take rn).map (Value.int .u8)) rfl ((grown_built hgrow2).2.1 _ _ _ _ RD.out.2) (OD2.out _).2 (by unfold maxLen; omega) (by omega) (grown_built hgrow2).1 ?_; intro v3 w3 hown3 hgrow3 hblk3))
          have s3 : Stp [] w1 w3 := (grown_built hgrow2).2.2.grown hgrow3 (fun g hg => .inr (own_base hown2 hg))
          clear hgrow2 hgrow3 hblk2 hblk3 hown2
          have H3 := Lib.hid (And.intro hown3 s3)
          clear hown3 s3
          go_wp2_with (at_builtin; refine wpList_append_own _ rfl _ _ 22 rfl w1.heap.size 5 i0 (.int .u8 0) 1 1 Try.underlying22 hi hz0 hz1 hz2 rfl (by decide) _ _ _ rfl (H3.out.1.alloc _) ⟨w3.heap.size, 0, none⟩ 4 4 [.int .u8 3, .int .u8 3, .int .u8 3, .int .u8 3] rfl rfl ?c1 ?c2 ?c3 ?c4 ?c5 ?_)
          case c1 =>
            intro j u hj
            match j, hj with
            | 0, hj => simp at hj; subst hj; simp [Addr.add]
            | 1, hj => simp at hj; subst hj; simp [Addr.add]
            | 2, hj => simp at hj; subst hj; simp [Addr.add]
            | 3, hj => simp at hj; subst hj; simp [Addr.add]
          case c2 => intro u hu; simp at hu; subst hu; rfl
          case c3 => unfold maxLen; omega
          case c4 => omega
          case c5 => have := H3.out.2.size; (try simp); omega
          intro v4 w4 hown4 hgrow4 _
          have s4 : Stp [] w1 w4 := (H3.out.2.alloc _).grown hgrow4 (fun g hg => .inr (own_base H3.out.1 hg))
          have S4 := Lib.hid s4
          obtain ⟨A4, c4, rfl, k14, k24, row4⟩ := own_form (G := []) hown4 (by simp)
          have V4 := Lib.hid (vote_row V _ VV.out.1 hk60 VV.out.2.1 rn _ A4 _ c4 _ row4 (by first | (simp [hV0]; done) | (simp; done)))
          clear hown4 hgrow4 s4 row4
          go_wp2_with fail
          refine V4.out.mono ?_
          rintro e w5 ⟨rfl, s5⟩
          have s05 : Stp [] wr w5 := (s1.trans S4.out).trans s5
          have own5 := own_stp OW.out s05 (by simp)
          have row5 := VV.out.2.2.2.stp s05
          have P5 := Lib.hid (And.intro own5 (And.intro row5 (T.out.trans s05)))
          clear own5 row5 s05 s5 S4 V4 H3 s1 RD
          rw [HVA.out]
          rcases vb with _ | _
          · obtain rfl : va = 0 := v12 rfl
            go_wp2_with fail
            go_loop [13, 14, 15] (fun sa al i => ∃ j : Nat, j ≤ k ∧ i = .int .i64 j ∧ al = .int .i64 (cntB 0 (V.take j) + cntB 1 (V.take j) + cntB 2 (V.take j)) ∧ sa = .int .i64 (cntB 0 (V.take j))) (fun _ _ i => k - (intOf i).toNat)
            case atStart => exact ⟨0, Nat.zero_le _, rfl, rfl, rfl⟩
            case round =>
              obtain ⟨j, hj, rfl, rfl, rfl⟩ := hrel
              by_cases hlt : j < k
              · obtain ⟨b, off, e, hbb, hbg, hcell⟩ := P5.out.2.1.2 (by omega)
                cases e
                have hjl : j < V.length := by rw [VV.out.1]; exact hlt
                have hc : w5.cell? ⟨b, off + j, none⟩ = some (.int .u8 V[j]) := hcell j _ (by rw [List.getElem?_map, List.getElem?_eq_getElem hjl]; rfl)
                have hbk := VV.out.2.2.1 V[j] (List.getElem_mem _)
                have s0 := cnt_round hjl 0
                have s1 := cnt_round hjl 1
                have s2 := cnt_round hjl 2
                have sa := cnt_round hjl 0
                have g0 := cntB_bd 0 (V.take j)
                have g1 := cntB_bd 1 (V.take j)
                have g2 := cntB_bd 2 (V.take j)
                have ga := cntB_bd 0 (V.take j)
                have htk : (V.take j).length ≤ 60 := by simp; omega
                generalize V[j] = x at *
                obtain ⟨q, hq⟩ : ∃ q, cntB 0 (V.take j) + cntB 1 (V.take j) + cntB 2 (V.take j) = q := ⟨_, rfl⟩
                obtain ⟨p, hp⟩ : ∃ p, cntB 0 (V.take j) = p := ⟨_, rfl⟩
                obtain ⟨x0, x3⟩ := hbk
                have hs : cntB 0 (V.take (j + 1)) + cntB 1 (V.take (j + 1)) + cntB 2 (V.take (j + 1)) = if x < 3 then q + 1 else q := by
                  rw [s0, s1, s2]
                  (repeat' split) <;> omega
                rw [hq, hp]
                rw [hp] at sa ga
                have SS := Lib.hid (And.intro hs sa)
                have q0 : 0 ≤ q := by omega
                have q1 : q ≤ 180 := by omega
                have p0 : 0 ≤ p := by omega
                have p1 : p ≤ 60 := by omega
                clear s0 s1 s2 sa g0 g1 g2 ga htk hs hq hp hcell hjl
                by_cases h3 : x < 3 <;> by_cases hx : x = 0
                · have X := Lib.hid (show cntB 0 (V.take (j + 1)) + cntB 1 (V.take (j + 1)) + cntB 2 (V.take (j + 1)) = q + 1 ∧ cntB 0 (V.take (j + 1)) = p + 1 from ⟨by rw [SS.out.1, if_pos h3], by rw [SS.out.2, if_pos hx]⟩)
                  clear SS
                  subst hx
                  go_wp2_with fail
                  go_round
                  case rel => exact ⟨j + 1, by omega, by go_num, by rw [X.out.1], by rw [X.out.2]⟩
                  case measure => simp [intOf]; omega
                · have X := Lib.hid (show cntB 0 (V.take (j + 1)) + cntB 1 (V.take (j + 1)) + cntB 2 (V.take (j + 1)) = q + 1 ∧ cntB 0 (V.take (j + 1)) = p from ⟨by rw [SS.out.1, if_pos h3], by rw [SS.out.2, if_neg hx]⟩)
                  clear SS
                  have hx1 : (x == 0) = false := by simpa using hx
                  clear hx
                  go_wp2_with fail
                  go_round
                  case rel => exact ⟨j + 1, by omega, by go_num, by rw [X.out.1], by rw [X.out.2]⟩
                  case measure => simp [intOf]; omega
                · exfalso; omega
                · have X := Lib.hid (show cntB 0 (V.take (j + 1)) + cntB 1 (V.take (j + 1)) + cntB 2 (V.take (j + 1)) = q ∧ cntB 0 (V.take (j + 1)) = p from ⟨by rw [SS.out.1, if_neg h3], by rw [SS.out.2, if_neg hx]⟩)
                  clear SS
                  have hx1 : (x == 0) = false := by simpa using hx
                  clear hx
                  go_wp2_with fail
                  go_round
                  case rel => exact ⟨j + 1, by omega, by go_num, by rw [X.out.1], by rw [X.out.2]⟩
                  case measure => simp [intOf]; omega
              · have hjk : j = k := by omega
                subst hjk
                rw [List.take_of_length_le (l := V) (by rw [VV.out.1]; omega)]
                have g0 := cntB_bd 0 V
                have g1 := cntB_bd 1 V
                have g2 := cntB_bd 2 V
                have ga := cntB_bd 0 V
                rw [VV.out.1] at g0 g1 g2 ga
                have VM2 := VM.out
                have VP := fun w A n c xs h hx => vote_plus V _ VV.out.1 hk60 VV.out.2.1 0 (by omega) w A n c xs h hx
                have VN2 := VN.out
                obtain ⟨⟨vc, vd⟩, hvc⟩ : ∃ p, voteS (V ++ [0]) = p := ⟨_, rfl⟩
                rw [hvc] at VP VN2
                have VP2 := Lib.hid VP
                obtain ⟨q, hq⟩ : ∃ q, cntB 0 V + cntB 1 V + cntB 2 V = q := ⟨_, rfl⟩
                obtain ⟨p, hp⟩ : ∃ p, cntB 0 V = p := ⟨_, rfl⟩
                simp only [hq, hp] at VM2 ⊢
                have q0 : 0 ≤ q := by omega
                have q1 : q ≤ 180 := by omega
                have p0 : 0 ≤ p := by omega
                have p1 : p ≤ 60 := by omega
                rw [hp] at ga
                clear VM2 VN2
                clear g0 g1 g2 ga hq hp VP hvc
                go_wp2_with (at_builtin; refine wpList_append_own _ rfl _ _ 22 rfl w.heap.size 5 i0 (.int .u8 0) 1 1 Try.underlying22 hi hz0 hz1 hz2 rfl (by decide) _ _ _ rfl (P5.out.1.alloc _) ⟨w5.heap.size, 0, none⟩ 1 1 [.int .u8 0] rfl rfl ?e9_1 ?e9_2 ?e9_3 ?e9_4 ?e9_5 ?_)
                any_goals (first | (case e9_2 => first | rfl | (intro u hu; simp at hu; subst hu; rfl)) | skip)
                any_goals (first | (case e9_3 => unfold maxLen; omega) | skip)
                any_goals (first | (case e9_4 => omega) | skip)
                any_goals (first | (case e9_5 => have := P5.out.2.2.size; (try simp); omega) | skip)
                any_goals (first | (case e9_1 => first | (simp [Addr.add]; done) | (intro j u hj; match j, hj with | 0, hj => (simp at hj; subst hj; simp [Addr.add]))) | skip)
                intro v6 w6 hown6 hgrow6 _
                have s6 : Stp [] w w6 := (P5.out.2.2.alloc _).grown hgrow6 (fun g hg => .inr (own_base OW.out hg))
                have S6 := Lib.hid s6
                obtain ⟨A6, c6, rfl, k16, k26, row6⟩ := own_form (G := []) hown6 (by simp)
                have V6 := Lib.hid (VP2.out _ A6 _ c6 _ row6 (by first | rfl | (simp [hV0]; done) | (simp; done)))
                clear hown6 hgrow6 s6 row6
                go_wp2_with fail
                refine V6.out.mono ?_
                rintro e w7 ⟨rfl, s7⟩
                go_wp2_with fail
                refine (alive_any _).mono ?_
                rintro e w8 ⟨rfl, s8⟩
                go_wp2_with fail
                go_ret
                exact ⟨rfl, (S6.out.trans s7).trans s8⟩
          · clear v12
            go_wp2_with fail
            go_loop [13, 14, 15] (fun sa al i => ∃ j : Nat, j ≤ k ∧ i = .int .i64 j ∧ al = .int .i64 (cntB 0 (V.take j) + cntB 1 (V.take j) + cntB 2 (V.take j)) ∧ sa = .int .i64 (cntB va (V.take j))) (fun _ _ i => k - (intOf i).toNat)
            case atStart => exact ⟨0, Nat.zero_le _, rfl, rfl, rfl⟩
            case round =>
              obtain ⟨j, hj, rfl, rfl, rfl⟩ := hrel
              by_cases hlt : j < k
              · obtain ⟨b, off, e, hbb, hbg, hcell⟩ := P5.out.2.1.2 (by omega)
                cases e
                have hjl : j < V.length := by rw [VV.out.1]; exact hlt
                have hc : w5.cell? ⟨b, off + j, none⟩ = some (.int .u8 V[j]) := hcell j _ (by rw [List.getElem?_map, List.getElem?_eq_getElem hjl]; rfl)
                have hbk := VV.out.2.2.1 V[j] (List.getElem_mem _)
                have s0 := cnt_round hjl 0
                have s1 := cnt_round hjl 1
                have s2 := cnt_round hjl 2
                have sa := cnt_round hjl va
                have g0 := cntB_bd 0 (V.take j)
                have g1 := cntB_bd 1 (V.take j)
                have g2 := cntB_bd 2 (V.take j)
                have ga := cntB_bd va (V.take j)
                have htk : (V.take j).length ≤ 60 := by simp; omega
                generalize V[j] = x at *
                obtain ⟨q, hq⟩ : ∃ q, cntB 0 (V.take j) + cntB 1 (V.take j) + cntB 2 (V.take j) = q := ⟨_, rfl⟩
                obtain ⟨p, hp⟩ : ∃ p, cntB va (V.take j) = p := ⟨_, rfl⟩
                obtain ⟨x0, x3⟩ := hbk
                have hs : cntB 0 (V.take (j + 1)) + cntB 1 (V.take (j + 1)) + cntB 2 (V.take (j + 1)) = if x < 3 then q + 1 else q := by
                  rw [s0, s1, s2]
                  (repeat' split) <;> omega
                rw [hq, hp]
                rw [hp] at sa ga
                have SS := Lib.hid (And.intro hs sa)
                have q0 : 0 ≤ q := by omega
                have q1 : q ≤ 180 := by omega
                have p0 : 0 ≤ p := by omega
                have p1 : p ≤ 60 := by omega
                clear s0 s1 s2 sa g0 g1 g2 ga htk hs hq hp hcell hjl
                by_cases h3 : x < 3 <;> by_cases hx : x = va
                · have X := Lib.hid (show cntB 0 (V.take (j + 1)) + cntB 1 (V.take (j + 1)) + cntB 2 (V.take (j + 1)) = q + 1 ∧ cntB va (V.take (j + 1)) = p + 1 from ⟨by rw [SS.out.1, if_pos h3], by rw [SS.out.2, if_pos hx]⟩)
                  clear SS
                  subst hx
                  go_wp2_with fail
                  go_round
                  case rel => exact ⟨j + 1, by omega, by go_num, by rw [X.out.1], by rw [X.out.2]⟩
                  case measure => simp [intOf]; omega
                · have X := Lib.hid (show cntB 0 (V.take (j + 1)) + cntB 1 (V.take (j + 1)) + cntB 2 (V.take (j + 1)) = q + 1 ∧ cntB va (V.take (j + 1)) = p from ⟨by rw [SS.out.1, if_pos h3], by rw [SS.out.2, if_neg hx]⟩)
                  clear SS
                  have hx1 : (x == va) = false := by simpa using hx
                  clear hx
                  go_wp2_with fail
                  go_round
                  case rel => exact ⟨j + 1, by omega, by go_num, by rw [X.out.1], by rw [X.out.2]⟩
                  case measure => simp [intOf]; omega
                · exfalso; omega
                · have X := Lib.hid (show cntB 0 (V.take (j + 1)) + cntB 1 (V.take (j + 1)) + cntB 2 (V.take (j + 1)) = q ∧ cntB va (V.take (j + 1)) = p from ⟨by rw [SS.out.1, if_neg h3], by rw [SS.out.2, if_neg hx]⟩)
                  clear SS
                  have hx1 : (x == va) = false := by simpa using hx
                  clear hx
                  go_wp2_with fail
                  go_round
                  case rel => exact ⟨j + 1, by omega, by go_num, by rw [X.out.1], by rw [X.out.2]⟩
                  case measure => simp [intOf]; omega
              · have hjk : j = k := by omega
                subst hjk
                rw [List.take_of_length_le (l := V) (by rw [VV.out.1]; omega)]
                have g0 := cntB_bd 0 V
                have g1 := cntB_bd 1 V
                have g2 := cntB_bd 2 V
                have ga := cntB_bd va V
                rw [VV.out.1] at g0 g1 g2 ga
                have VM2 := VM.out
                have VP := fun w A n c xs h hx => vote_plus V _ VV.out.1 hk60 VV.out.2.1 va (by omega) w A n c xs h hx
                have VN2 := VN.out
                obtain ⟨⟨vc, vd⟩, hvc⟩ : ∃ p, voteS (V ++ [va]) = p := ⟨_, rfl⟩
                rw [hvc] at VP VN2
                have VP2 := Lib.hid VP
                obtain ⟨q, hq⟩ : ∃ q, cntB 0 V + cntB 1 V + cntB 2 V = q := ⟨_, rfl⟩
                obtain ⟨p, hp⟩ : ∃ p, cntB va V = p := ⟨_, rfl⟩
                simp only [hq, hp] at VM2 ⊢
                have q0 : 0 ≤ q := by omega
                have q1 : q ≤ 180 := by omega
                have p0 : 0 ≤ p := by omega
                have p1 : p ≤ 60 := by omega
                rw [hp] at ga
                have hm : q < 2 * p := (by first | exact VM2 trivial | exact VM2 rfl | exact VM2)
                have vn3 : vc = va ∧ vd = true := by simpa using VN2
                obtain ⟨vn4, vn5⟩ := vn3
                have vn6 := vn4.symm
                clear vn4
                subst vn6
                subst vn5
                clear VM2 VN2
                clear g0 g1 g2 ga hq hp VP hvc
                go_wp2_with (at_builtin; refine wpList_append_own _ rfl _ _ 22 rfl w.heap.size 5 i0 (.int .u8 0) 1 1 Try.underlying22 hi hz0 hz1 hz2 rfl (by decide) _ _ _ rfl (P5.out.1.alloc _) ⟨w5.heap.size, 0, none⟩ 1 1 [.int .u8 va] rfl rfl ?e10_1 ?e10_2 ?e10_3 ?e10_4 ?e10_5 ?_)
                any_goals (first | (case e10_2 => first | rfl | (intro u hu; simp at hu; subst hu; rfl)) | skip)
                any_goals (first | (case e10_3 => unfold maxLen; omega) | skip)
                any_goals (first | (case e10_4 => omega) | skip)
                any_goals (first | (case e10_5 => have := P5.out.2.2.size; (try simp); omega) | skip)
                any_goals (first | (case e10_1 => first | (simp [Addr.add]; done) | (intro j u hj; match j, hj with | 0, hj => (simp at hj; subst hj; simp [Addr.add]))) | skip)
                intro v6 w6 hown6 hgrow6 _
                have s6 : Stp [] w w6 := (P5.out.2.2.alloc _).grown hgrow6 (fun g hg => .inr (own_base OW.out hg))
                have S6 := Lib.hid s6
                obtain ⟨A6, c6, rfl, k16, k26, row6⟩ := own_form (G := []) hown6 (by simp)
                have V6 := Lib.hid (VP2.out _ A6 _ c6 _ row6 (by first | rfl | (simp [hV0]; done) | (simp; done)))
                clear hown6 hgrow6 s6 row6
                go_wp2_with fail
                refine V6.out.mono ?_
                rintro e w7 ⟨rfl, s7⟩
                go_wp2_with fail
                refine (alive_any _).mono ?_
                rintro e w8 ⟨rfl, s8⟩
                go_wp2_with fail
                go_ret
                exact ⟨rfl, (S6.out.trans s7).trans s8⟩
      all_goals
        rcases A2 with _ | ad
        · have hk0 : k = 0 := by
            rcases Nat.eq_zero_or_pos k with h0 | h0
            · exact h0
            · obtain ⟨b, off, e, _⟩ := VV.out.2.2.2.2 h0
              cases e
          have hV0 : V = [] := List.eq_nil_of_length_eq_zero (by rw [VV.out.1, hk0])
          subst hk0
          obtain ⟨rn, hr⟩ : ∃ rn, rn = 0 := ⟨_, rfl⟩
          have RA : Hid (∀ w', Stp [] wr w' → Reads w' w'.heap.size 1 none 0 ((V.drop rn).map (Value.int .u8))) := fun w' _ => by subst hV0; simp; exact Reads.none_
          have RB : Hid (∀ w', Stp [] wr w' → Reads w' w'.heap.size 1 none 0 ((V.take rn).map (Value.int .u8))) := fun w' _ => by subst hV0; simp; exact Reads.none_
          go_wp2_with fail
          refine (VO.out _ _ _ _ VV.out.2.2.2 rfl).mono ?_
          rintro e w1 ⟨rfl, s1⟩
          have RD := Lib.hid (And.intro (RA.out _ s1) (RB.out _ s1))
          go_wp2_with fail
          go_region_law (first
            | (refine step_append_any _ rfl (.tmp 49) (.tmp 52) 22 rfl w1.heap.size 5 i0 (.int .u8 0) 1 1 Try.underlying22 hi hz0 hz1 hz2 rfl (by decide) _ 1 [.int .u8 3] rfl (own_built w1 _ _ 1 rfl (by decide)) w1.heap.size _ 0 _ ((V.drop rn).map (Value.int .u8)) rfl (RD.out.1.alloc (Nat.le_refl _) _) (OD2.out _).1 (by unfold maxLen; omega) (by omega) (by simp [World.drew]) ?_; intro v2 w2 hown2 hgrow2 hblk2)
            | (refine step_append_any _ rfl (.tmp 53) (.tmp 56) 22 rfl w1.heap.size 5 i0 (.int .u8 0) 1 1 Try.underlying22 hi hz0 hz1 hz2 rfl (by decide) _ (1 + 0) _ rfl hown2 w1.heap.size _ 0 _ ((V.take rn).map (Value.int .u8)) rfl ((grown_built hgrow2).2.1 _ _ _ _ RD.out.2) (OD2.out _).2 (by unfold maxLen; omega) (by omega) (grown_built hgrow2).1 ?_; intro v3 w3 hown3 hgrow3 hblk3))
          have s3 : Stp [] w1 w3 := (grown_built hgrow2).2.2.grown hgrow3 (fun g hg => .inr (own_base hown2 hg))
          clear hgrow2 hgrow3 hblk2 hblk3 hown2
          have H3 := Lib.hid (And.intro hown3 s3)
          clear hown3 s3
          go_wp2_with (at_builtin; refine wpList_append_own _ rfl _ _ 22 rfl w1.heap.size 5 i0 (.int .u8 0) 1 1 Try.underlying22 hi hz0 hz1 hz2 rfl (by decide) _ _ _ rfl (H3.out.1.alloc _) ⟨w3.heap.size, 0, none⟩ 4 4 [.int .u8 3, .int .u8 3, .int .u8 3, .int .u8 3] rfl rfl ?c1 ?c2 ?c3 ?c4 ?c5 ?_)
          case c1 =>
            intro j u hj
            match j, hj with
            | 0, hj => simp at hj; subst hj; simp [Addr.add]
            | 1, hj => simp at hj; subst hj; simp [Addr.add]
            | 2, hj => simp at hj; subst hj; simp [Addr.add]
            | 3, hj => simp at hj; subst hj; simp [Addr.add]
          case c2 => intro u hu; simp at hu; subst hu; rfl
          case c3 => unfold maxLen; omega
          case c4 => omega
          case c5 => have := H3.out.2.size; (try simp); omega
          intro v4 w4 hown4 hgrow4 _
          have s4 : Stp [] w1 w4 := (H3.out.2.alloc _).grown hgrow4 (fun g hg => .inr (own_base H3.out.1 hg))
          have S4 := Lib.hid s4
          obtain ⟨A4, c4, rfl, k14, k24, row4⟩ := own_form (G := []) hown4 (by simp)
          have V4 := Lib.hid (vote_row V _ VV.out.1 hk60 VV.out.2.1 rn _ A4 _ c4 _ row4 (by first | (simp [hV0]; done) | (simp; done)))
          clear hown4 hgrow4 s4 row4
          go_wp2_with fail
          refine V4.out.mono ?_
          rintro e w5 ⟨rfl, s5⟩
          have s05 : Stp [] wr w5 := (s1.trans S4.out).trans s5
          have own5 := own_stp OW.out s05 (by simp)
          have row5 := VV.out.2.2.2.stp s05
          have P5 := Lib.hid (And.intro own5 (And.intro row5 (T.out.trans s05)))
          clear own5 row5 s05 s5 S4 V4 H3 s1 RD
          rw [HVA.out]
          rcases vb with _ | _
          · obtain rfl : va = 0 := v12 rfl
            go_wp2_with fail
            go_loop [13, 14, 15] (fun sa al i => ∃ j : Nat, j ≤ 0 ∧ i = .int .i64 j ∧ al = .int .i64 (cntB 0 (V.take j) + cntB 1 (V.take j) + cntB 2 (V.take j)) ∧ sa = .int .i64 (cntB 0 (V.take j))) (fun _ _ i => 0 - (intOf i).toNat)
            case atStart => exact ⟨0, Nat.zero_le _, rfl, rfl, rfl⟩
            case round =>
              obtain ⟨j, hj, rfl, rfl, rfl⟩ := hrel
              by_cases hlt : j < 0
              · exact absurd hlt (by omega)

              · have hjk : j = 0 := by omega
                subst hjk
                rw [List.take_of_length_le (l := V) (by rw [VV.out.1]; omega)]
                have g0 := cntB_bd 0 V
                have g1 := cntB_bd 1 V
                have g2 := cntB_bd 2 V
                have ga := cntB_bd 0 V
                rw [VV.out.1] at g0 g1 g2 ga
                have VM2 := VM.out
                have VP := fun w A n c xs h hx => vote_plus V _ VV.out.1 hk60 VV.out.2.1 0 (by omega) w A n c xs h hx
                have VN2 := VN.out
                obtain ⟨⟨vc, vd⟩, hvc⟩ : ∃ p, voteS (V ++ [0]) = p := ⟨_, rfl⟩
                rw [hvc] at VP VN2
                have VP2 := Lib.hid VP
                obtain ⟨q, hq⟩ : ∃ q, cntB 0 V + cntB 1 V + cntB 2 V = q := ⟨_, rfl⟩
                obtain ⟨p, hp⟩ : ∃ p, cntB 0 V = p := ⟨_, rfl⟩
                simp only [hq, hp] at VM2 ⊢
                have q0 : 0 ≤ q := by omega
                have q1 : q ≤ 180 := by omega
                have p0 : 0 ≤ p := by omega
                have p1 : p ≤ 60 := by omega
                rw [hp] at ga
                clear VM2 VN2
                clear g0 g1 g2 ga hq hp VP hvc
                go_wp2_with (at_builtin; refine wpList_append_own _ rfl _ _ 22 rfl w.heap.size 5 i0 (.int .u8 0) 1 1 Try.underlying22 hi hz0 hz1 hz2 rfl (by decide) _ _ _ rfl (P5.out.1.alloc _) ⟨w5.heap.size, 0, none⟩ 1 1 [.int .u8 0] rfl rfl ?e1_1 ?e1_2 ?e1_3 ?e1_4 ?e1_5 ?_)
                any_goals (first | (case e1_2 => first | rfl | (intro u hu; simp at hu; subst hu; rfl)) | skip)
                any_goals (first | (case e1_3 => unfold maxLen; omega) | skip)
                any_goals (first | (case e1_4 => omega) | skip)
                any_goals (first | (case e1_5 => have := P5.out.2.2.size; (try simp); omega) | skip)
                any_goals (first | (case e1_1 => first | (simp [Addr.add]; done) | (intro j u hj; match j, hj with | 0, hj => (simp at hj; subst hj; simp [Addr.add]))) | skip)
                intro v6 w6 hown6 hgrow6 _
                have s6 : Stp [] w w6 := (P5.out.2.2.alloc _).grown hgrow6 (fun g hg => .inr (own_base OW.out hg))
                have S6 := Lib.hid s6
                obtain ⟨A6, c6, rfl, k16, k26, row6⟩ := own_form (G := []) hown6 (by simp)
                have V6 := Lib.hid (VP2.out _ A6 _ c6 _ row6 (by first | rfl | (simp [hV0]; done) | (simp; done)))
                clear hown6 hgrow6 s6 row6
                go_wp2_with fail
                refine V6.out.mono ?_
                rintro e w7 ⟨rfl, s7⟩
                go_wp2_with fail
                refine (alive_any _).mono ?_
                rintro e w8 ⟨rfl, s8⟩
                go_wp2_with fail
                go_ret
                exact ⟨rfl, (S6.out.trans s7).trans s8⟩
          · clear v12
            go_wp2_with fail
            go_loop [13, 14, 15] (fun sa al i => ∃ j : Nat, j ≤ 0 ∧ i = .int .i64 j ∧ al = .int .i64 (cntB 0 (V.take j) + cntB 1 (V.take j) + cntB 2 (V.take j)) ∧ sa = .int .i64 (cntB va (V.take j))) (fun _ _ i => 0 - (intOf i).toNat)
            case atStart => exact ⟨0, Nat.zero_le _, rfl, rfl, rfl⟩
            case round =>
              obtain ⟨j, hj, rfl, rfl, rfl⟩ := hrel
              by_cases hlt : j < 0
              · exact absurd hlt (by omega)

              · have hjk : j = 0 := by omega
                subst hjk
                rw [List.take_of_length_le (l := V) (by rw [VV.out.1]; omega)]
                have g0 := cntB_bd 0 V
                have g1 := cntB_bd 1 V
                have g2 := cntB_bd 2 V
                have ga := cntB_bd va V
                rw [VV.out.1] at g0 g1 g2 ga
                have VM2 := VM.out
                have VP := fun w A n c xs h hx => vote_plus V _ VV.out.1 hk60 VV.out.2.1 va (by omega) w A n c xs h hx
                have VN2 := VN.out
                obtain ⟨⟨vc, vd⟩, hvc⟩ : ∃ p, voteS (V ++ [va]) = p := ⟨_, rfl⟩
                rw [hvc] at VP VN2
                have VP2 := Lib.hid VP
                obtain ⟨q, hq⟩ : ∃ q, cntB 0 V + cntB 1 V + cntB 2 V = q := ⟨_, rfl⟩
                obtain ⟨p, hp⟩ : ∃ p, cntB va V = p := ⟨_, rfl⟩
                simp only [hq, hp] at VM2 ⊢
                have q0 : 0 ≤ q := by omega
                have q1 : q ≤ 180 := by omega
                have p0 : 0 ≤ p := by omega
                have p1 : p ≤ 60 := by omega
                rw [hp] at ga
                have hm : q < 2 * p := (by first | exact VM2 trivial | exact VM2 rfl | exact VM2)
                have vn3 : vc = va ∧ vd = true := by simpa using VN2
                obtain ⟨vn4, vn5⟩ := vn3
                have vn6 := vn4.symm
                clear vn4
                subst vn6
                subst vn5
                clear VM2 VN2
                clear g0 g1 g2 ga hq hp VP hvc
                go_wp2_with (at_builtin; refine wpList_append_own _ rfl _ _ 22 rfl w.heap.size 5 i0 (.int .u8 0) 1 1 Try.underlying22 hi hz0 hz1 hz2 rfl (by decide) _ _ _ rfl (P5.out.1.alloc _) ⟨w5.heap.size, 0, none⟩ 1 1 [.int .u8 va] rfl rfl ?e2_1 ?e2_2 ?e2_3 ?e2_4 ?e2_5 ?_)
                any_goals (first | (case e2_2 => first | rfl | (intro u hu; simp at hu; subst hu; rfl)) | skip)
                any_goals (first | (case e2_3 => unfold maxLen; omega) | skip)
                any_goals (first | (case e2_4 => omega) | skip)
                any_goals (first | (case e2_5 => have := P5.out.2.2.size; (try simp); omega) | skip)
                any_goals (first | (case e2_1 => first | (simp [Addr.add]; done) | (intro j u hj; match j, hj with | 0, hj => (simp at hj; subst hj; simp [Addr.add]))) | skip)
                intro v6 w6 hown6 hgrow6 _
                have s6 : Stp [] w w6 := (P5.out.2.2.alloc _).grown hgrow6 (fun g hg => .inr (own_base OW.out hg))
                have S6 := Lib.hid s6
                obtain ⟨A6, c6, rfl, k16, k26, row6⟩ := own_form (G := []) hown6 (by simp)
                have V6 := Lib.hid (VP2.out _ A6 _ c6 _ row6 (by first | rfl | (simp [hV0]; done) | (simp; done)))
                clear hown6 hgrow6 s6 row6
                go_wp2_with fail
                refine V6.out.mono ?_
                rintro e w7 ⟨rfl, s7⟩
                go_wp2_with fail
                refine (alive_any _).mono ?_
                rintro e w8 ⟨rfl, s8⟩
                go_wp2_with fail
                go_ret
                exact ⟨rfl, (S6.out.trans s7).trans s8⟩
        · by_cases hk0 : k = 0
          · have hV0 : V = [] := List.eq_nil_of_length_eq_zero (by rw [VV.out.1, hk0])
            subst hk0
            obtain ⟨rn, hr⟩ : ∃ rn, rn = 0 := ⟨_, rfl⟩
            have RA : Hid (∀ w', Stp [] wr w' → ∀ A, Reads w' w'.heap.size 1 A 0 ((V.drop rn).map (Value.int .u8))) := fun w' _ A => by subst hV0; simp; exact Reads.zero_
            have RB : Hid (∀ w', Stp [] wr w' → ∀ A, Reads w' w'.heap.size 1 A 0 ((V.take rn).map (Value.int .u8))) := fun w' _ A => by subst hV0; simp; exact Reads.zero_
            rcases Nat.eq_zero_or_pos c2 with hc0 | hc0
            · subst hc0
              go_wp2_with fail
              refine (VO.out _ _ _ _ VV.out.2.2.2 rfl).mono ?_
              rintro e w1 ⟨rfl, s1⟩
              have RD := Lib.hid (And.intro (RA.out _ s1) (RB.out _ s1))
              go_wp2_with fail
              go_region_law (first
                | (refine step_append_any _ rfl (.tmp 49) (.tmp 52) 22 rfl w1.heap.size 5 i0 (.int .u8 0) 1 1 Try.underlying22 hi hz0 hz1 hz2 rfl (by decide) _ 1 [.int .u8 3] rfl (own_built w1 _ _ 1 rfl (by decide)) w1.heap.size _ 0 _ ((V.drop rn).map (Value.int .u8)) rfl ((RD.out.1 _).alloc (Nat.le_refl _) _) (OD2.out _).1 (by unfold maxLen; omega) (by omega) (by simp [World.drew]) ?_; intro v2 w2 hown2 hgrow2 hblk2)
                | (refine step_append_any _ rfl (.tmp 53) (.tmp 56) 22 rfl w1.heap.size 5 i0 (.int .u8 0) 1 1 Try.underlying22 hi hz0 hz1 hz2 rfl (by decide) _ (1 + 0) _ rfl hown2 w1.heap.size _ 0 _ ((V.take rn).map (Value.int .u8)) rfl ((grown_built hgrow2).2.1 _ _ _ _ (RD.out.2 _)) (OD2.out _).2 (by unfold maxLen; omega) (by omega) (grown_built hgrow2).1 ?_; intro v3 w3 hown3 hgrow3 hblk3))
              have s3 : Stp [] w1 w3 := (grown_built hgrow2).2.2.grown hgrow3 (fun g hg => .inr (own_base hown2 hg))
              clear hgrow2 hgrow3 hblk2 hblk3 hown2
              have H3 := Lib.hid (And.intro hown3 s3)
              clear hown3 s3
              go_wp2_with (at_builtin; refine wpList_append_own _ rfl _ _ 22 rfl w1.heap.size 5 i0 (.int .u8 0) 1 1 Try.underlying22 hi hz0 hz1 hz2 rfl (by decide) _ _ _ rfl (H3.out.1.alloc _) ⟨w3.heap.size, 0, none⟩ 4 4 [.int .u8 3, .int .u8 3, .int .u8 3, .int .u8 3] rfl rfl ?c1 ?c2 ?c3 ?c4 ?c5 ?_)
              case c1 =>
                intro j u hj
                match j, hj with
                | 0, hj => simp at hj; subst hj; simp [Addr.add]
                | 1, hj => simp at hj; subst hj; simp [Addr.add]
                | 2, hj => simp at hj; subst hj; simp [Addr.add]
                | 3, hj => simp at hj; subst hj; simp [Addr.add]
              case c2 => intro u hu; simp at hu; subst hu; rfl
              case c3 => unfold maxLen; omega
              case c4 => omega
              case c5 => have := H3.out.2.size; (try simp); omega
              intro v4 w4 hown4 hgrow4 _
              have s4 : Stp [] w1 w4 := (H3.out.2.alloc _).grown hgrow4 (fun g hg => .inr (own_base H3.out.1 hg))
              have S4 := Lib.hid s4
              obtain ⟨A4, c4, rfl, k14, k24, row4⟩ := own_form (G := []) hown4 (by simp)
              have V4 := Lib.hid (vote_row V _ VV.out.1 hk60 VV.out.2.1 rn _ A4 _ c4 _ row4 (by first | (simp [hV0]; done) | (simp; done)))
              clear hown4 hgrow4 s4 row4
              go_wp2_with fail
              refine V4.out.mono ?_
              rintro e w5 ⟨rfl, s5⟩
              have s05 : Stp [] wr w5 := (s1.trans S4.out).trans s5
              have own5 := own_stp OW.out s05 (by simp)
              have row5 := VV.out.2.2.2.stp s05
              have P5 := Lib.hid (And.intro own5 (And.intro row5 (T.out.trans s05)))
              clear own5 row5 s05 s5 S4 V4 H3 s1 RD
              rw [HVA.out]
              rcases vb with _ | _
              · obtain rfl : va = 0 := v12 rfl
                go_wp2_with fail
                go_loop [13, 14, 15] (fun sa al i => ∃ j : Nat, j ≤ 0 ∧ i = .int .i64 j ∧ al = .int .i64 (cntB 0 (V.take j) + cntB 1 (V.take j) + cntB 2 (V.take j)) ∧ sa = .int .i64 (cntB 0 (V.take j))) (fun _ _ i => 0 - (intOf i).toNat)
                case atStart => exact ⟨0, Nat.zero_le _, rfl, rfl, rfl⟩
                case round =>
                  obtain ⟨j, hj, rfl, rfl, rfl⟩ := hrel
                  by_cases hlt : j < 0
                  · exact absurd hlt (by omega)

                  · have hjk : j = 0 := by omega
                    subst hjk
                    rw [List.take_of_length_le (l := V) (by rw [VV.out.1]; omega)]
                    have g0 := cntB_bd 0 V
                    have g1 := cntB_bd 1 V
                    have g2 := cntB_bd 2 V
                    have ga := cntB_bd 0 V
                    rw [VV.out.1] at g0 g1 g2 ga
                    have VM2 := VM.out
                    have VP := fun w A n c xs h hx => vote_plus V _ VV.out.1 hk60 VV.out.2.1 0 (by omega) w A n c xs h hx
                    have VN2 := VN.out
                    obtain ⟨⟨vc, vd⟩, hvc⟩ : ∃ p, voteS (V ++ [0]) = p := ⟨_, rfl⟩
                    rw [hvc] at VP VN2
                    have VP2 := Lib.hid VP
                    obtain ⟨q, hq⟩ : ∃ q, cntB 0 V + cntB 1 V + cntB 2 V = q := ⟨_, rfl⟩
                    obtain ⟨p, hp⟩ : ∃ p, cntB 0 V = p := ⟨_, rfl⟩
                    simp only [hq, hp] at VM2 ⊢
                    have q0 : 0 ≤ q := by omega
                    have q1 : q ≤ 180 := by omega
                    have p0 : 0 ≤ p := by omega
                    have p1 : p ≤ 60 := by omega
                    rw [hp] at ga
                    clear VM2 VN2
                    clear g0 g1 g2 ga hq hp VP hvc
                    go_wp2_with (at_builtin; refine wpList_append_own _ rfl _ _ 22 rfl w.heap.size 5 i0 (.int .u8 0) 1 1 Try.underlying22 hi hz0 hz1 hz2 rfl (by decide) _ _ _ rfl (P5.out.1.alloc _) ⟨w5.heap.size, 0, none⟩ 1 1 [.int .u8 0] rfl rfl ?e3_1 ?e3_2 ?e3_3 ?e3_4 ?e3_5 ?_)
                    any_goals (first | (case e3_2 => first | rfl | (intro u hu; simp at hu; subst hu; rfl)) | skip)
                    any_goals (first | (case e3_3 => unfold maxLen; omega) | skip)
                    any_goals (first | (case e3_4 => omega) | skip)
                    any_goals (first | (case e3_5 => have := P5.out.2.2.size; (try simp); omega) | skip)
                    any_goals (first | (case e3_1 => first | (simp [Addr.add]; done) | (intro j u hj; match j, hj with | 0, hj => (simp at hj; subst hj; simp [Addr.add]))) | skip)
                    intro v6 w6 hown6 hgrow6 _
                    have s6 : Stp [] w w6 := (P5.out.2.2.alloc _).grown hgrow6 (fun g hg => .inr (own_base OW.out hg))
                    have S6 := Lib.hid s6
                    obtain ⟨A6, c6, rfl, k16, k26, row6⟩ := own_form (G := []) hown6 (by simp)
                    have V6 := Lib.hid (VP2.out _ A6 _ c6 _ row6 (by first | rfl | (simp [hV0]; done) | (simp; done)))
                    clear hown6 hgrow6 s6 row6
                    go_wp2_with fail
                    refine V6.out.mono ?_
                    rintro e w7 ⟨rfl, s7⟩
                    go_wp2_with fail
                    refine (alive_any _).mono ?_
                    rintro e w8 ⟨rfl, s8⟩
                    go_wp2_with fail
                    go_ret
                    exact ⟨rfl, (S6.out.trans s7).trans s8⟩
              · clear v12
                go_wp2_with fail
                go_loop [13, 14, 15] (fun sa al i => ∃ j : Nat, j ≤ 0 ∧ i = .int .i64 j ∧ al = .int .i64 (cntB 0 (V.take j) + cntB 1 (V.take j) + cntB 2 (V.take j)) ∧ sa = .int .i64 (cntB va (V.take j))) (fun _ _ i => 0 - (intOf i).toNat)
                case atStart => exact ⟨0, Nat.zero_le _, rfl, rfl, rfl⟩
                case round =>
                  obtain ⟨j, hj, rfl, rfl, rfl⟩ := hrel
                  by_cases hlt : j < 0
                  · exact absurd hlt (by omega)

                  · have hjk : j = 0 := by omega
                    subst hjk
                    rw [List.take_of_length_le (l := V) (by rw [VV.out.1]; omega)]
                    have g0 := cntB_bd 0 V
                    have g1 := cntB_bd 1 V
                    have g2 := cntB_bd 2 V
                    have ga := cntB_bd va V
                    rw [VV.out.1] at g0 g1 g2 ga
                    have VM2 := VM.out
                    have VP := fun w A n c xs h hx => vote_plus V _ VV.out.1 hk60 VV.out.2.1 va (by omega) w A n c xs h hx
                    have VN2 := VN.out
                    obtain ⟨⟨vc, vd⟩, hvc⟩ : ∃ p, voteS (V ++ [va]) = p := ⟨_, rfl⟩
                    rw [hvc] at VP VN2
                    have VP2 := Lib.hid VP
                    obtain ⟨q, hq⟩ : ∃ q, cntB 0 V + cntB 1 V + cntB 2 V = q := ⟨_, rfl⟩
                    obtain ⟨p, hp⟩ : ∃ p, cntB va V = p := ⟨_, rfl⟩
                    simp only [hq, hp] at VM2 ⊢
                    have q0 : 0 ≤ q := by omega
                    have q1 : q ≤ 180 := by omega
                    have p0 : 0 ≤ p := by omega
                    have p1 : p ≤ 60 := by omega
                    rw [hp] at ga
                    have hm : q < 2 * p := (by first | exact VM2 trivial | exact VM2 rfl | exact VM2)
                    have vn3 : vc = va ∧ vd = true := by simpa using VN2
                    obtain ⟨vn4, vn5⟩ := vn3
                    have vn6 := vn4.symm
                    clear vn4
                    subst vn6
                    subst vn5
                    clear VM2 VN2
                    clear g0 g1 g2 ga hq hp VP hvc
                    go_wp2_with (at_builtin; refine wpList_append_own _ rfl _ _ 22 rfl w.heap.size 5 i0 (.int .u8 0) 1 1 Try.underlying22 hi hz0 hz1 hz2 rfl (by decide) _ _ _ rfl (P5.out.1.alloc _) ⟨w5.heap.size, 0, none⟩ 1 1 [.int .u8 va] rfl rfl ?e4_1 ?e4_2 ?e4_3 ?e4_4 ?e4_5 ?_)
                    any_goals (first | (case e4_2 => first | rfl | (intro u hu; simp at hu; subst hu; rfl)) | skip)
                    any_goals (first | (case e4_3 => unfold maxLen; omega) | skip)
                    any_goals (first | (case e4_4 => omega) | skip)
                    any_goals (first | (case e4_5 => have := P5.out.2.2.size; (try simp); omega) | skip)
                    any_goals (first | (case e4_1 => first | (simp [Addr.add]; done) | (intro j u hj; match j, hj with | 0, hj => (simp at hj; subst hj; simp [Addr.add]))) | skip)
                    intro v6 w6 hown6 hgrow6 _
                    have s6 : Stp [] w w6 := (P5.out.2.2.alloc _).grown hgrow6 (fun g hg => .inr (own_base OW.out hg))
                    have S6 := Lib.hid s6
                    obtain ⟨A6, c6, rfl, k16, k26, row6⟩ := own_form (G := []) hown6 (by simp)
                    have V6 := Lib.hid (VP2.out _ A6 _ c6 _ row6 (by first | rfl | (simp [hV0]; done) | (simp; done)))
                    clear hown6 hgrow6 s6 row6
                    go_wp2_with fail
                    refine V6.out.mono ?_
                    rintro e w7 ⟨rfl, s7⟩
                    go_wp2_with fail
                    refine (alive_any _).mono ?_
                    rintro e w8 ⟨rfl, s8⟩
                    go_wp2_with fail
                    go_ret
                    exact ⟨rfl, (S6.out.trans s7).trans s8⟩
            · have hcn : ¬ c2 = 0 := by omega
              go_wp2_with fail
              refine (VO.out _ _ _ _ VV.out.2.2.2 rfl).mono ?_
              rintro e w1 ⟨rfl, s1⟩
              have RD := Lib.hid (And.intro (RA.out _ s1) (RB.out _ s1))
              go_wp2_with fail
              go_region_law (first
                | (refine step_append_any _ rfl (.tmp 49) (.tmp 52) 22 rfl w1.heap.size 5 i0 (.int .u8 0) 1 1 Try.underlying22 hi hz0 hz1 hz2 rfl (by decide) _ 1 [.int .u8 3] rfl (own_built w1 _ _ 1 rfl (by decide)) w1.heap.size _ 0 _ ((V.drop rn).map (Value.int .u8)) rfl ((RD.out.1 _).alloc (Nat.le_refl _) _) (OD2.out _).1 (by unfold maxLen; omega) (by omega) (by simp [World.drew]) ?_; intro v2 w2 hown2 hgrow2 hblk2)
                | (refine step_append_any _ rfl (.tmp 53) (.tmp 56) 22 rfl w1.heap.size 5 i0 (.int .u8 0) 1 1 Try.underlying22 hi hz0 hz1 hz2 rfl (by decide) _ (1 + 0) _ rfl hown2 w1.heap.size _ 0 _ ((V.take rn).map (Value.int .u8)) rfl ((grown_built hgrow2).2.1 _ _ _ _ (RD.out.2 _)) (OD2.out _).2 (by unfold maxLen; omega) (by omega) (grown_built hgrow2).1 ?_; intro v3 w3 hown3 hgrow3 hblk3))
              have s3 : Stp [] w1 w3 := (grown_built hgrow2).2.2.grown hgrow3 (fun g hg => .inr (own_base hown2 hg))
              clear hgrow2 hgrow3 hblk2 hblk3 hown2
              have H3 := Lib.hid (And.intro hown3 s3)
              clear hown3 s3
              go_wp2_with (at_builtin; refine wpList_append_own _ rfl _ _ 22 rfl w1.heap.size 5 i0 (.int .u8 0) 1 1 Try.underlying22 hi hz0 hz1 hz2 rfl (by decide) _ _ _ rfl (H3.out.1.alloc _) ⟨w3.heap.size, 0, none⟩ 4 4 [.int .u8 3, .int .u8 3, .int .u8 3, .int .u8 3] rfl rfl ?c1 ?c2 ?c3 ?c4 ?c5 ?_)
              case c1 =>
                intro j u hj
                match j, hj with
                | 0, hj => simp at hj; subst hj; simp [Addr.add]
                | 1, hj => simp at hj; subst hj; simp [Addr.add]
                | 2, hj => simp at hj; subst hj; simp [Addr.add]
                | 3, hj => simp at hj; subst hj; simp [Addr.add]
              case c2 => intro u hu; simp at hu; subst hu; rfl
              case c3 => unfold maxLen; omega
              case c4 => omega
              case c5 => have := H3.out.2.size; (try simp); omega
              intro v4 w4 hown4 hgrow4 _
              have s4 : Stp [] w1 w4 := (H3.out.2.alloc _).grown hgrow4 (fun g hg => .inr (own_base H3.out.1 hg))
              have S4 := Lib.hid s4
              obtain ⟨A4, c4, rfl, k14, k24, row4⟩ := own_form (G := []) hown4 (by simp)
              have V4 := Lib.hid (vote_row V _ VV.out.1 hk60 VV.out.2.1 rn _ A4 _ c4 _ row4 (by first | (simp [hV0]; done) | (simp; done)))
              clear hown4 hgrow4 s4 row4
              go_wp2_with fail
              refine V4.out.mono ?_
              rintro e w5 ⟨rfl, s5⟩
              have s05 : Stp [] wr w5 := (s1.trans S4.out).trans s5
              have own5 := own_stp OW.out s05 (by simp)
              have row5 := VV.out.2.2.2.stp s05
              have P5 := Lib.hid (And.intro own5 (And.intro row5 (T.out.trans s05)))
              clear own5 row5 s05 s5 S4 V4 H3 s1 RD
              rw [HVA.out]
              rcases vb with _ | _
              · obtain rfl : va = 0 := v12 rfl
                go_wp2_with fail
                go_loop [13, 14, 15] (fun sa al i => ∃ j : Nat, j ≤ 0 ∧ i = .int .i64 j ∧ al = .int .i64 (cntB 0 (V.take j) + cntB 1 (V.take j) + cntB 2 (V.take j)) ∧ sa = .int .i64 (cntB 0 (V.take j))) (fun _ _ i => 0 - (intOf i).toNat)
                case atStart => exact ⟨0, Nat.zero_le _, rfl, rfl, rfl⟩
                case round =>
                  obtain ⟨j, hj, rfl, rfl, rfl⟩ := hrel
                  by_cases hlt : j < 0
                  · exact absurd hlt (by omega)

                  · have hjk : j = 0 := by omega
                    subst hjk
                    rw [List.take_of_length_le (l := V) (by rw [VV.out.1]; omega)]
                    have g0 := cntB_bd 0 V
                    have g1 := cntB_bd 1 V
                    have g2 := cntB_bd 2 V
                    have ga := cntB_bd 0 V
                    rw [VV.out.1] at g0 g1 g2 ga
                    have VM2 := VM.out
                    have VP := fun w A n c xs h hx => vote_plus V _ VV.out.1 hk60 VV.out.2.1 0 (by omega) w A n c xs h hx
                    have VN2 := VN.out
                    obtain ⟨⟨vc, vd⟩, hvc⟩ : ∃ p, voteS (V ++ [0]) = p := ⟨_, rfl⟩
                    rw [hvc] at VP VN2
                    have VP2 := Lib.hid VP
                    obtain ⟨q, hq⟩ : ∃ q, cntB 0 V + cntB 1 V + cntB 2 V = q := ⟨_, rfl⟩
                    obtain ⟨p, hp⟩ : ∃ p, cntB 0 V = p := ⟨_, rfl⟩
                    simp only [hq, hp] at VM2 ⊢
                    have q0 : 0 ≤ q := by omega
                    have q1 : q ≤ 180 := by omega
                    have p0 : 0 ≤ p := by omega
                    have p1 : p ≤ 60 := by omega
                    rw [hp] at ga
                    clear VM2 VN2
                    clear g0 g1 g2 ga hq hp VP hvc
                    go_wp2_with (at_builtin; refine wpList_append_own _ rfl _ _ 22 rfl w.heap.size 5 i0 (.int .u8 0) 1 1 Try.underlying22 hi hz0 hz1 hz2 rfl (by decide) _ _ _ rfl (P5.out.1.alloc _) ⟨w5.heap.size, 0, none⟩ 1 1 [.int .u8 0] rfl rfl ?e5_1 ?e5_2 ?e5_3 ?e5_4 ?e5_5 ?_)
                    any_goals (first | (case e5_2 => first | rfl | (intro u hu; simp at hu; subst hu; rfl)) | skip)
                    any_goals (first | (case e5_3 => unfold maxLen; omega) | skip)
                    any_goals (first | (case e5_4 => omega) | skip)
                    any_goals (first | (case e5_5 => have := P5.out.2.2.size; (try simp); omega) | skip)
                    any_goals (first | (case e5_1 => first | (simp [Addr.add]; done) | (intro j u hj; match j, hj with | 0, hj => (simp at hj; subst hj; simp [Addr.add]))) | skip)
                    intro v6 w6 hown6 hgrow6 _
                    have s6 : Stp [] w w6 := (P5.out.2.2.alloc _).grown hgrow6 (fun g hg => .inr (own_base OW.out hg))
                    have S6 := Lib.hid s6
                    obtain ⟨A6, c6, rfl, k16, k26, row6⟩ := own_form (G := []) hown6 (by simp)
                    have V6 := Lib.hid (VP2.out _ A6 _ c6 _ row6 (by first | rfl | (simp [hV0]; done) | (simp; done)))
                    clear hown6 hgrow6 s6 row6
                    go_wp2_with fail
                    refine V6.out.mono ?_
                    rintro e w7 ⟨rfl, s7⟩
                    go_wp2_with fail
                    refine (alive_any _).mono ?_
                    rintro e w8 ⟨rfl, s8⟩
                    go_wp2_with fail
                    go_ret
                    exact ⟨rfl, (S6.out.trans s7).trans s8⟩
              · clear v12
                go_wp2_with fail
                go_loop [13, 14, 15] (fun sa al i => ∃ j : Nat, j ≤ 0 ∧ i = .int .i64 j ∧ al = .int .i64 (cntB 0 (V.take j) + cntB 1 (V.take j) + cntB 2 (V.take j)) ∧ sa = .int .i64 (cntB va (V.take j))) (fun _ _ i => 0 - (intOf i).toNat)
                case atStart => exact ⟨0, Nat.zero_le _, rfl, rfl, rfl⟩
                case round =>
                  obtain ⟨j, hj, rfl, rfl, rfl⟩ := hrel
                  by_cases hlt : j < 0
                  · exact absurd hlt (by omega)

                  · have hjk : j = 0 := by omega
                    subst hjk
                    rw [List.take_of_length_le (l := V) (by rw [VV.out.1]; omega)]
                    have g0 := cntB_bd 0 V
                    have g1 := cntB_bd 1 V
                    have g2 := cntB_bd 2 V
                    have ga := cntB_bd va V
                    rw [VV.out.1] at g0 g1 g2 ga
                    have VM2 := VM.out
                    have VP := fun w A n c xs h hx => vote_plus V _ VV.out.1 hk60 VV.out.2.1 va (by omega) w A n c xs h hx
                    have VN2 := VN.out
                    obtain ⟨⟨vc, vd⟩, hvc⟩ : ∃ p, voteS (V ++ [va]) = p := ⟨_, rfl⟩
                    rw [hvc] at VP VN2
                    have VP2 := Lib.hid VP
                    obtain ⟨q, hq⟩ : ∃ q, cntB 0 V + cntB 1 V + cntB 2 V = q := ⟨_, rfl⟩
                    obtain ⟨p, hp⟩ : ∃ p, cntB va V = p := ⟨_, rfl⟩
                    simp only [hq, hp] at VM2 ⊢
                    have q0 : 0 ≤ q := by omega
                    have q1 : q ≤ 180 := by omega
                    have p0 : 0 ≤ p := by omega
                    have p1 : p ≤ 60 := by omega
                    rw [hp] at ga
                    have hm : q < 2 * p := (by first | exact VM2 trivial | exact VM2 rfl | exact VM2)
                    have vn3 : vc = va ∧ vd = true := by simpa using VN2
                    obtain ⟨vn4, vn5⟩ := vn3
                    have vn6 := vn4.symm
                    clear vn4
                    subst vn6
                    subst vn5
                    clear VM2 VN2
                    clear g0 g1 g2 ga hq hp VP hvc
                    go_wp2_with (at_builtin; refine wpList_append_own _ rfl _ _ 22 rfl w.heap.size 5 i0 (.int .u8 0) 1 1 Try.underlying22 hi hz0 hz1 hz2 rfl (by decide) _ _ _ rfl (P5.out.1.alloc _) ⟨w5.heap.size, 0, none⟩ 1 1 [.int .u8 va] rfl rfl ?e6_1 ?e6_2 ?e6_3 ?e6_4 ?e6_5 ?_)
                    any_goals (first | (case e6_2 => first | rfl | (intro u hu; simp at hu; subst hu; rfl)) | skip)
                    any_goals (first | (case e6_3 => unfold maxLen; omega) | skip)
                    any_goals (first | (case e6_4 => omega) | skip)
                    any_goals (first | (case e6_5 => have := P5.out.2.2.size; (try simp); omega) | skip)
                    any_goals (first | (case e6_1 => first | (simp [Addr.add]; done) | (intro j u hj; match j, hj with | 0, hj => (simp at hj; subst hj; simp [Addr.add]))) | skip)
                    intro v6 w6 hown6 hgrow6 _
                    have s6 : Stp [] w w6 := (P5.out.2.2.alloc _).grown hgrow6 (fun g hg => .inr (own_base OW.out hg))
                    have S6 := Lib.hid s6
                    obtain ⟨A6, c6, rfl, k16, k26, row6⟩ := own_form (G := []) hown6 (by simp)
                    have V6 := Lib.hid (VP2.out _ A6 _ c6 _ row6 (by first | rfl | (simp [hV0]; done) | (simp; done)))
                    clear hown6 hgrow6 s6 row6
                    go_wp2_with fail
                    refine V6.out.mono ?_
                    rintro e w7 ⟨rfl, s7⟩
                    go_wp2_with fail
                    refine (alive_any _).mono ?_
                    rintro e w8 ⟨rfl, s8⟩
                    go_wp2_with fail
                    go_ret
                    exact ⟨rfl, (S6.out.trans s7).trans s8⟩
          · obtain ⟨rn, hr⟩ : ∃ r : Nat, at_ % (k : Int) = r := ⟨(at_ % (k : Int)).toNat, by
              have := Int.emod_nonneg at_ (show (k : Int) ≠ 0 by omega)
              omega⟩
            have r1 : rn < k := by have := Int.emod_lt_of_pos at_ (show (0:Int) < k by omega); omega
            have r2 : rn ≤ k := by omega
            have r3 : ¬ c2 = rn := by omega
            have r4 : rn ≤ c2 := by omega
            have k0 : 0 < k := by omega
            have RA : Hid (∀ w', Stp [] wr w' → Reads w' w'.heap.size 1 (some (ad.add rn)) (k - rn) ((V.drop rn).map (Value.int .u8))) := fun w' s => by
              have := ((VV.out.2.2.2.stp s).reads).cut (k := rn) (cap := c2) r2 k1
              rw [if_neg r3, Nat.mul_one, ← List.map_drop] at this
              exact this
            have RB : Hid (∀ w', Stp [] wr w' → Reads w' w'.heap.size 1 (some ad) rn ((V.take rn).map (Value.int .u8))) := fun w' s => by
              have := (row_take (VV.out.2.2.2.stp s) r2).reads
              rw [← List.map_take] at this
              exact this
            go_wp2_with fail
            refine (VO.out _ _ _ _ VV.out.2.2.2 rfl).mono ?_
            rintro e w1 ⟨rfl, s1⟩
            have RD := Lib.hid (And.intro (RA.out _ s1) (RB.out _ s1))
            go_wp2_with fail
            rw [hr]
            go_region_law (first
              | (refine step_append_any _ rfl (.tmp 49) (.tmp 52) 22 rfl w1.heap.size 5 i0 (.int .u8 0) 1 1 Try.underlying22 hi hz0 hz1 hz2 rfl (by decide) _ 1 [.int .u8 3] rfl (own_built w1 _ _ 1 rfl (by decide)) w1.heap.size _ (k - rn) _ ((V.drop rn).map (Value.int .u8)) rfl (RD.out.1.alloc (Nat.le_refl _) _) (OD2.out _).1 (by unfold maxLen; omega) (by omega) (by simp [World.drew]) ?_; intro v2 w2 hown2 hgrow2 hblk2)
              | (refine step_append_any _ rfl (.tmp 53) (.tmp 56) 22 rfl w1.heap.size 5 i0 (.int .u8 0) 1 1 Try.underlying22 hi hz0 hz1 hz2 rfl (by decide) _ (1 + (k - rn)) _ rfl hown2 w1.heap.size _ rn _ ((V.take rn).map (Value.int .u8)) rfl ((grown_built hgrow2).2.1 _ _ _ _ RD.out.2) (OD2.out _).2 (by unfold maxLen; omega) (by omega) (grown_built hgrow2).1 ?_; intro v3 w3 hown3 hgrow3 hblk3))
            have s3 : Stp [] w1 w3 := (grown_built hgrow2).2.2.grown hgrow3 (fun g hg => .inr (own_base hown2 hg))
            clear hgrow2 hgrow3 hblk2 hblk3 hown2
            have H3 := Lib.hid (And.intro hown3 s3)
            clear hown3 s3
            go_wp2_with (at_builtin; refine wpList_append_own _ rfl _ _ 22 rfl w1.heap.size 5 i0 (.int .u8 0) 1 1 Try.underlying22 hi hz0 hz1 hz2 rfl (by decide) _ _ _ rfl (H3.out.1.alloc _) ⟨w3.heap.size, 0, none⟩ 4 4 [.int .u8 3, .int .u8 3, .int .u8 3, .int .u8 3] rfl rfl ?c1 ?c2 ?c3 ?c4 ?c5 ?_)
            case c1 =>
              intro j u hj
              match j, hj with
              | 0, hj => simp at hj; subst hj; simp [Addr.add]
              | 1, hj => simp at hj; subst hj; simp [Addr.add]
              | 2, hj => simp at hj; subst hj; simp [Addr.add]
              | 3, hj => simp at hj; subst hj; simp [Addr.add]
            case c2 => intro u hu; simp at hu; subst hu; rfl
            case c3 => unfold maxLen; omega
            case c4 => omega
            case c5 => have := H3.out.2.size; (try simp); omega
            intro v4 w4 hown4 hgrow4 _
            have s4 : Stp [] w1 w4 := (H3.out.2.alloc _).grown hgrow4 (fun g hg => .inr (own_base H3.out.1 hg))
            have S4 := Lib.hid s4
            obtain ⟨A4, c4, rfl, k14, k24, row4⟩ := own_form (G := []) hown4 (by simp)
            have V4 := Lib.hid (vote_row V _ VV.out.1 hk60 VV.out.2.1 rn _ A4 _ c4 _ row4 (by first | (simp [hV0]; done) | (simp; done)))
            clear hown4 hgrow4 s4 row4
            go_wp2_with fail
            refine V4.out.mono ?_
            rintro e w5 ⟨rfl, s5⟩
            have s05 : Stp [] wr w5 := (s1.trans S4.out).trans s5
            have own5 := own_stp OW.out s05 (by simp)
            have row5 := VV.out.2.2.2.stp s05
            have P5 := Lib.hid (And.intro own5 (And.intro row5 (T.out.trans s05)))
            clear own5 row5 s05 s5 S4 V4 H3 s1 RD
            rw [HVA.out]
            rcases vb with _ | _
            · obtain rfl : va = 0 := v12 rfl
              go_wp2_with fail
              go_loop [13, 14, 15] (fun sa al i => ∃ j : Nat, j ≤ k ∧ i = .int .i64 j ∧ al = .int .i64 (cntB 0 (V.take j) + cntB 1 (V.take j) + cntB 2 (V.take j)) ∧ sa = .int .i64 (cntB 0 (V.take j))) (fun _ _ i => k - (intOf i).toNat)
              case atStart => exact ⟨0, Nat.zero_le _, rfl, rfl, rfl⟩
              case round =>
                obtain ⟨j, hj, rfl, rfl, rfl⟩ := hrel
                by_cases hlt : j < k
                · obtain ⟨b, off, e, hbb, hbg, hcell⟩ := P5.out.2.1.2 (by omega)
                  cases e
                  have hjl : j < V.length := by rw [VV.out.1]; exact hlt
                  have hc : w5.cell? ⟨b, off + j, none⟩ = some (.int .u8 V[j]) := hcell j _ (by rw [List.getElem?_map, List.getElem?_eq_getElem hjl]; rfl)
                  have hbk := VV.out.2.2.1 V[j] (List.getElem_mem _)
                  have s0 := cnt_round hjl 0
                  have s1 := cnt_round hjl 1
                  have s2 := cnt_round hjl 2
                  have sa := cnt_round hjl 0
                  have g0 := cntB_bd 0 (V.take j)
                  have g1 := cntB_bd 1 (V.take j)
                  have g2 := cntB_bd 2 (V.take j)
                  have ga := cntB_bd 0 (V.take j)
                  have htk : (V.take j).length ≤ 60 := by simp; omega
                  generalize V[j] = x at *
                  obtain ⟨q, hq⟩ : ∃ q, cntB 0 (V.take j) + cntB 1 (V.take j) + cntB 2 (V.take j) = q := ⟨_, rfl⟩
                  obtain ⟨p, hp⟩ : ∃ p, cntB 0 (V.take j) = p := ⟨_, rfl⟩
                  obtain ⟨x0, x3⟩ := hbk
                  have hs : cntB 0 (V.take (j + 1)) + cntB 1 (V.take (j + 1)) + cntB 2 (V.take (j + 1)) = if x < 3 then q + 1 else q := by
                    rw [s0, s1, s2]
                    (repeat' split) <;> omega
                  rw [hq, hp]
                  rw [hp] at sa ga
                  have SS := Lib.hid (And.intro hs sa)
                  have q0 : 0 ≤ q := by omega
                  have q1 : q ≤ 180 := by omega
                  have p0 : 0 ≤ p := by omega
                  have p1 : p ≤ 60 := by omega
                  clear s0 s1 s2 sa g0 g1 g2 ga htk hs hq hp hcell hjl
                  by_cases h3 : x < 3 <;> by_cases hx : x = 0
                  · have X := Lib.hid (show cntB 0 (V.take (j + 1)) + cntB 1 (V.take (j + 1)) + cntB 2 (V.take (j + 1)) = q + 1 ∧ cntB 0 (V.take (j + 1)) = p + 1 from ⟨by rw [SS.out.1, if_pos h3], by rw [SS.out.2, if_pos hx]⟩)
                    clear SS
                    subst hx
                    go_wp2_with fail
                    go_round
                    case rel => exact ⟨j + 1, by omega, by go_num, by rw [X.out.1], by rw [X.out.2]⟩
                    case measure => simp [intOf]; omega
                  · have X := Lib.hid (show cntB 0 (V.take (j + 1)) + cntB 1 (V.take (j + 1)) + cntB 2 (V.take (j + 1)) = q + 1 ∧ cntB 0 (V.take (j + 1)) = p from ⟨by rw [SS.out.1, if_pos h3], by rw [SS.out.2, if_neg hx]⟩)
                    clear SS
                    have hx1 : (x == 0) = false := by simpa using hx
                    clear hx
                    go_wp2_with fail
                    go_round
                    case rel => exact ⟨j + 1, by omega, by go_num, by rw [X.out.1], by rw [X.out.2]⟩
                    case measure => simp [intOf]; omega
                  · exfalso; omega
                  · have X := Lib.hid (show cntB 0 (V.take (j + 1)) + cntB 1 (V.take (j + 1)) + cntB 2 (V.take (j + 1)) = q ∧ cntB 0 (V.take (j + 1)) = p from ⟨by rw [SS.out.1, if_neg h3], by rw [SS.out.2, if_neg hx]⟩)
                    clear SS
                    have hx1 : (x == 0) = false := by simpa using hx
                    clear hx
                    go_wp2_with fail
                    go_round
                    case rel => exact ⟨j + 1, by omega, by go_num, by rw [X.out.1], by rw [X.out.2]⟩
                    case measure => simp [intOf]; omega
                · have hjk : j = k := by omega
                  subst hjk
                  rw [List.take_of_length_le (l := V) (by rw [VV.out.1]; omega)]
                  have g0 := cntB_bd 0 V
                  have g1 := cntB_bd 1 V
                  have g2 := cntB_bd 2 V
                  have ga := cntB_bd 0 V
                  rw [VV.out.1] at g0 g1 g2 ga
                  have VM2 := VM.out
                  have VP := fun w A n c xs h hx => vote_plus V _ VV.out.1 hk60 VV.out.2.1 0 (by omega) w A n c xs h hx
                  have VN2 := VN.out
                  obtain ⟨⟨vc, vd⟩, hvc⟩ : ∃ p, voteS (V ++ [0]) = p := ⟨_, rfl⟩
                  rw [hvc] at VP VN2
                  have VP2 := Lib.hid VP
                  obtain ⟨q, hq⟩ : ∃ q, cntB 0 V + cntB 1 V + cntB 2 V = q := ⟨_, rfl⟩
                  obtain ⟨p, hp⟩ : ∃ p, cntB 0 V = p := ⟨_, rfl⟩
                  simp only [hq, hp] at VM2 ⊢
                  have q0 : 0 ≤ q := by omega
                  have q1 : q ≤ 180 := by omega
                  have p0 : 0 ≤ p := by omega
                  have p1 : p ≤ 60 := by omega
                  rw [hp] at ga
                  clear VM2 VN2
                  clear g0 g1 g2 ga hq hp VP hvc
                  go_wp2_with (at_builtin; refine wpList_append_own _ rfl _ _ 22 rfl w.heap.size 5 i0 (.int .u8 0) 1 1 Try.underlying22 hi hz0 hz1 hz2 rfl (by decide) _ _ _ rfl (P5.out.1.alloc _) ⟨w5.heap.size, 0, none⟩ 1 1 [.int .u8 0] rfl rfl ?e7_1 ?e7_2 ?e7_3 ?e7_4 ?e7_5 ?_)
                  any_goals (first | (case e7_2 => first | rfl | (intro u hu; simp at hu; subst hu; rfl)) | skip)
                  any_goals (first | (case e7_3 => unfold maxLen; omega) | skip)
                  any_goals (first | (case e7_4 => omega) | skip)
                  any_goals (first | (case e7_5 => have := P5.out.2.2.size; (try simp); omega) | skip)
                  any_goals (first | (case e7_1 => first | (simp [Addr.add]; done) | (intro j u hj; match j, hj with | 0, hj => (simp at hj; subst hj; simp [Addr.add]))) | skip)
                  intro v6 w6 hown6 hgrow6 _
                  have s6 : Stp [] w w6 := (P5.out.2.2.alloc _).grown hgrow6 (fun g hg => .inr (own_base OW.out hg))
                  have S6 := Lib.hid s6
                  obtain ⟨A6, c6, rfl, k16, k26, row6⟩ := own_form (G := []) hown6 (by simp)
                  have V6 := Lib.hid (VP2.out _ A6 _ c6 _ row6 (by first | rfl | (simp [hV0]; done) | (simp; done)))
                  clear hown6 hgrow6 s6 row6
                  go_wp2_with fail
                  refine V6.out.mono ?_
                  rintro e w7 ⟨rfl, s7⟩
                  go_wp2_with fail
                  refine (alive_any _).mono ?_
                  rintro e w8 ⟨rfl, s8⟩
                  go_wp2_with fail
                  go_ret
                  exact ⟨rfl, (S6.out.trans s7).trans s8⟩
            · clear v12
              go_wp2_with fail
              go_loop [13, 14, 15] (fun sa al i => ∃ j : Nat, j ≤ k ∧ i = .int .i64 j ∧ al = .int .i64 (cntB 0 (V.take j) + cntB 1 (V.take j) + cntB 2 (V.take j)) ∧ sa = .int .i64 (cntB va (V.take j))) (fun _ _ i => k - (intOf i).toNat)
              case atStart => exact ⟨0, Nat.zero_le _, rfl, rfl, rfl⟩
              case round =>
                obtain ⟨j, hj, rfl, rfl, rfl⟩ := hrel
                by_cases hlt : j < k
                · obtain ⟨b, off, e, hbb, hbg, hcell⟩ := P5.out.2.1.2 (by omega)
                  cases e
                  have hjl : j < V.length := by rw [VV.out.1]; exact hlt
                  have hc : w5.cell? ⟨b, off + j, none⟩ = some (.int .u8 V[j]) := hcell j _ (by rw [List.getElem?_map, List.getElem?_eq_getElem hjl]; rfl)
                  have hbk := VV.out.2.2.1 V[j] (List.getElem_mem _)
                  have s0 := cnt_round hjl 0
                  have s1 := cnt_round hjl 1
                  have s2 := cnt_round hjl 2
                  have sa := cnt_round hjl va
                  have g0 := cntB_bd 0 (V.take j)
                  have g1 := cntB_bd 1 (V.take j)
                  have g2 := cntB_bd 2 (V.take j)
                  have ga := cntB_bd va (V.take j)
                  have htk : (V.take j).length ≤ 60 := by simp; omega
                  generalize V[j] = x at *
                  obtain ⟨q, hq⟩ : ∃ q, cntB 0 (V.take j) + cntB 1 (V.take j) + cntB 2 (V.take j) = q := ⟨_, rfl⟩
                  obtain ⟨p, hp⟩ : ∃ p, cntB va (V.take j) = p := ⟨_, rfl⟩
                  obtain ⟨x0, x3⟩ := hbk
                  have hs : cntB 0 (V.take (j + 1)) + cntB 1 (V.take (j + 1)) + cntB 2 (V.take (j + 1)) = if x < 3 then q + 1 else q := by
                    rw [s0, s1, s2]
                    (repeat' split) <;> omega
                  rw [hq, hp]
                  rw [hp] at sa ga
                  have SS := Lib.hid (And.intro hs sa)
                  have q0 : 0 ≤ q := by omega
                  have q1 : q ≤ 180 := by omega
                  have p0 : 0 ≤ p := by omega
                  have p1 : p ≤ 60 := by omega
                  clear s0 s1 s2 sa g0 g1 g2 ga htk hs hq hp hcell hjl
                  by_cases h3 : x < 3 <;> by_cases hx : x = va
                  · have X := Lib.hid (show cntB 0 (V.take (j + 1)) + cntB 1 (V.take (j + 1)) + cntB 2 (V.take (j + 1)) = q + 1 ∧ cntB va (V.take (j + 1)) = p + 1 from ⟨by rw [SS.out.1, if_pos h3], by rw [SS.out.2, if_pos hx]⟩)
                    clear SS
                    subst hx
                    go_wp2_with fail
                    go_round
                    case rel => exact ⟨j + 1, by omega, by go_num, by rw [X.out.1], by rw [X.out.2]⟩
                    case measure => simp [intOf]; omega
                  · have X := Lib.hid (show cntB 0 (V.take (j + 1)) + cntB 1 (V.take (j + 1)) + cntB 2 (V.take (j + 1)) = q + 1 ∧ cntB va (V.take (j + 1)) = p from ⟨by rw [SS.out.1, if_pos h3], by rw [SS.out.2, if_neg hx]⟩)
                    clear SS
                    have hx1 : (x == va) = false := by simpa using hx
                    clear hx
                    go_wp2_with fail
                    go_round
                    case rel => exact ⟨j + 1, by omega, by go_num, by rw [X.out.1], by rw [X.out.2]⟩
                    case measure => simp [intOf]; omega
                  · exfalso; omega
                  · have X := Lib.hid (show cntB 0 (V.take (j + 1)) + cntB 1 (V.take (j + 1)) + cntB 2 (V.take (j + 1)) = q ∧ cntB va (V.take (j + 1)) = p from ⟨by rw [SS.out.1, if_neg h3], by rw [SS.out.2, if_neg hx]⟩)
                    clear SS
                    have hx1 : (x == va) = false := by simpa using hx
                    clear hx
                    go_wp2_with fail
                    go_round
                    case rel => exact ⟨j + 1, by omega, by go_num, by rw [X.out.1], by rw [X.out.2]⟩
                    case measure => simp [intOf]; omega
                · have hjk : j = k := by omega
                  subst hjk
                  rw [List.take_of_length_le (l := V) (by rw [VV.out.1]; omega)]
                  have g0 := cntB_bd 0 V
                  have g1 := cntB_bd 1 V
                  have g2 := cntB_bd 2 V
                  have ga := cntB_bd va V
                  rw [VV.out.1] at g0 g1 g2 ga
                  have VM2 := VM.out
                  have VP := fun w A n c xs h hx => vote_plus V _ VV.out.1 hk60 VV.out.2.1 va (by omega) w A n c xs h hx
                  have VN2 := VN.out
                  obtain ⟨⟨vc, vd⟩, hvc⟩ : ∃ p, voteS (V ++ [va]) = p := ⟨_, rfl⟩
                  rw [hvc] at VP VN2
                  have VP2 := Lib.hid VP
                  obtain ⟨q, hq⟩ : ∃ q, cntB 0 V + cntB 1 V + cntB 2 V = q := ⟨_, rfl⟩
                  obtain ⟨p, hp⟩ : ∃ p, cntB va V = p := ⟨_, rfl⟩
                  simp only [hq, hp] at VM2 ⊢
                  have q0 : 0 ≤ q := by omega
                  have q1 : q ≤ 180 := by omega
                  have p0 : 0 ≤ p := by omega
                  have p1 : p ≤ 60 := by omega
                  rw [hp] at ga
                  have hm : q < 2 * p := (by first | exact VM2 trivial | exact VM2 rfl | exact VM2)
                  have vn3 : vc = va ∧ vd = true := by simpa using VN2
                  obtain ⟨vn4, vn5⟩ := vn3
                  have vn6 := vn4.symm
                  clear vn4
                  subst vn6
                  subst vn5
                  clear VM2 VN2
                  clear g0 g1 g2 ga hq hp VP hvc
                  go_wp2_with (at_builtin; refine wpList_append_own _ rfl _ _ 22 rfl w.heap.size 5 i0 (.int .u8 0) 1 1 Try.underlying22 hi hz0 hz1 hz2 rfl (by decide) _ _ _ rfl (P5.out.1.alloc _) ⟨w5.heap.size, 0, none⟩ 1 1 [.int .u8 va] rfl rfl ?e8_1 ?e8_2 ?e8_3 ?e8_4 ?e8_5 ?_)
                  any_goals (first | (case e8_2 => first | rfl | (intro u hu; simp at hu; subst hu; rfl)) | skip)
                  any_goals (first | (case e8_3 => unfold maxLen; omega) | skip)
                  any_goals (first | (case e8_4 => omega) | skip)
                  any_goals (first | (case e8_5 => have := P5.out.2.2.size; (try simp); omega) | skip)
                  any_goals (first | (case e8_1 => first | (simp [Addr.add]; done) | (intro j u hj; match j, hj with | 0, hj => (simp at hj; subst hj; simp [Addr.add]))) | skip)
                  intro v6 w6 hown6 hgrow6 _
                  have s6 : Stp [] w w6 := (P5.out.2.2.alloc _).grown hgrow6 (fun g hg => .inr (own_base OW.out hg))
                  have S6 := Lib.hid s6
                  obtain ⟨A6, c6, rfl, k16, k26, row6⟩ := own_form (G := []) hown6 (by simp)
                  have V6 := Lib.hid (VP2.out _ A6 _ c6 _ row6 (by first | rfl | (simp [hV0]; done) | (simp; done)))
                  clear hown6 hgrow6 s6 row6
                  go_wp2_with fail
                  refine V6.out.mono ?_
                  rintro e w7 ⟨rfl, s7⟩
                  go_wp2_with fail
                  refine (alive_any _).mono ?_
                  rintro e w8 ⟨rfl, s8⟩
                  go_wp2_with fail
                  go_ret
                  exact ⟨rfl, (S6.out.trans s7).trans s8⟩
end Go.Proofs.Ytkdpndoamepcbaa
