/- leap: Add of both where New answers a table, with the blocks that the rows keep out of; Copy. -/
import Derived.Test.YtkdpndoamepcbaaLeapY
import Derived.Deep.RegionHeld3
namespace Go.Proofs.Ytkdpndoamepcbaa
open Go.RowKit
set_option linter.unusedVariables false
set_option linter.unusedSimpArgs false

/-- A table in memory whose row lies in none of the blocks G. -/
def LT.atG (c : LT) (w : World) (g : Nat) (G : List Nat) : Prop :=
  ∃ (A : Option Addr) (cp : Nat), w.heap[g]? = some (.cells #[.slice A c.L.length cp, .int .i64 c.ex, .int .i64 c.base, .bool true] 67 (0, 0)) ∧ c.L.length ≤ cp ∧ cp ≤ maxLen ∧ RowIn w A c.L.length 2 (pcells c.L) G
def LT.ratG (c : LT) (w : World) (g : Nat) (G : List Nat) : Prop :=
  ∃ (A : Option Addr) (cp : Nat), w.heap[g]? = some (.cells #[.slice A c.L.length cp, .int .i64 c.ex, .int .i64 c.base] 54 (0, 0)) ∧ c.L.length ≤ cp ∧ cp ≤ maxLen ∧ RowIn w A c.L.length 2 (pcells c.L) G
theorem RowIn.out1 {w w' : World} {A : Option Addr} {n size : Nat} {xs : List Value} {G : List Nat} {k : Nat} (h : RowIn w A n size xs G) (hk : k ∈ G) (hs : Stp [k] w w') : RowIn w' A n size xs G :=
  ⟨h.1, fun hn => by
    obtain ⟨b, off, e, hb, hg, hc⟩ := h.2 hn
    refine ⟨b, off, e, Nat.lt_of_lt_of_le hb hs.size, hg, fun j u hu => hs.cell (hc j u hu) ?_⟩
    simp
    rintro rfl
    exact hg hk⟩
theorem LT.atG.at {c : LT} {w : World} {g : Nat} {G : List Nat} (h : c.atG w g G) (hg : g ∈ G) : c.at w g := by
  obtain ⟨A, cp, h1, h2, h3, h4⟩ := h
  exact ⟨A, cp, h1, h2, h3, h4.less (by simpa using hg)⟩
theorem LT.ratG.rat {c : LT} {w : World} {g : Nat} {G : List Nat} (h : c.ratG w g G) (hg : g ∈ G) : c.rat w g := by
  obtain ⟨A, cp, h1, h2, h3, h4⟩ := h
  exact ⟨A, cp, h1, h2, h3, h4.less (by simpa using hg)⟩
theorem LT.atG.out1 {c : LT} {w w' : World} {g k : Nat} {G : List Nat} (h : c.atG w g G) (hk : k ∈ G) (hne : g ≠ k) (hs : Stp [k] w w') : c.atG w' g G := by
  obtain ⟨A, cp, h1, h2, h3, h4⟩ := h
  exact ⟨A, cp, hs.at h1 (by simpa using hne), h2, h3, h4.out1 hk hs⟩
theorem LT.ratG.out1 {c : LT} {w w' : World} {g k : Nat} {G : List Nat} (h : c.ratG w g G) (hk : k ∈ G) (hne : g ≠ k) (hs : Stp [k] w w') : c.ratG w' g G := by
  obtain ⟨A, cp, h1, h2, h3, h4⟩ := h
  exact ⟨A, cp, hs.at h1 (by simpa using hne), h2, h3, h4.out1 hk hs⟩
theorem row_stp {w w' : World} {A : Option Addr} {n size : Nat} {xs : List Value} {G : List Nat} (h : RowIn w A n size xs G) (hs : Stp [] w w') : RowIn w' A n size xs G :=
  ⟨h.1, fun hn => by
    obtain ⟨b, off, e, hb, hg, hc⟩ := h.2 hn
    exact ⟨b, off, e, Nat.lt_of_lt_of_le hb hs.size, hg, fun j u hu => hs.cell (hc j u hu) (by simp)⟩⟩
theorem LT.atG.stp {c : LT} {w w' : World} {g : Nat} {G : List Nat} (h : c.atG w g G) (hs : Stp [] w w') : c.atG w' g G := by
  obtain ⟨A, cp, h1, h2, h3, h4⟩ := h
  exact ⟨A, cp, hs.at h1 (by simp), h2, h3, row_stp h4 hs⟩
theorem LT.ratG.stp {c : LT} {w w' : World} {g : Nat} {G : List Nat} (h : c.ratG w g G) (hs : Stp [] w w') : c.ratG w' g G := by
  obtain ⟨A, cp, h1, h2, h3, h4⟩ := h
  exact ⟨A, cp, hs.at h1 (by simp), h2, h3, row_stp h4 hs⟩

set_option maxHeartbeats 2000000 in
theorem ladd_okG (g : Nat) (G : List Nat) (hG : g ∈ G) (c : LT) (y1 y2 ex : Int) (w : World) (h : c.at w g) (ok : c.ok) (ok2 : (c.more y1 y2 ex).ok) (hge : c.ex ≤ ex) (hB : ∀ k, k ∈ G → k < w.heap.size) :
    Calls Try.prog 23 #[.pointer (some ⟨g, 0, none⟩), .agg #[.int .i64 y1, .int .i64 y2], .int .i64 ex] w fun e w' => e = .returned (.int .i64 0) ∧ (c.more y1 y2 ex).atG w' g G ∧ Stp [g] w w' := by
  have HBG := Lib.hid (And.intro hB hG)
  clear hB hG
  have NW := Lib.hid (fun (w : World) (A : Option Addr) (cp : Nat) (hr : RowIn w A (c.L.length + 1) 2 (pcells c.L ++ [.int .i64 y1, .int .i64 y2]) []) => (show Calls Try.prog 18 #[.slice A (c.L.length + 1) cp, .int .i64 ex, .int .i64 c.base] w (MadeLeapF (c.more y1 y2 ex) w) from lnew_fresh A (c.L.length + 1) cp (c.more y1 y2 ex) w (by rw [show pcells (c.more y1 y2 ex).L = pcells c.L ++ [.int .i64 y1, .int .i64 y2] from pcells_append c.L [(y1, y2)]]; exact hr) (by simp [LT.more]) ok2))
  clear ok2
  have hcex := ok.e1
  obtain ⟨A, cp, h0, h1, h2, h3, h4, h5, h6⟩ := h.cells
  have hg := h.lt
  have P := Lib.hid (And.intro h ok)
  have z0 := fun o => (World.cell?_alloc_lt w o ⟨g, 0, none⟩ hg).trans h0
  have z1 := fun o => (World.cell?_alloc_lt w o ⟨g, 1, none⟩ hg).trans h1
  have z2 := fun o => (World.cell?_alloc_lt w o ⟨g, 2, none⟩ hg).trans h2
  have z3 := fun o => (World.cell?_alloc_lt w o ⟨g, 3, none⟩ hg).trans h3
  go_enter Try.func23, Try.ntmps23
  go_wp2_with fail
  refine (lnone_ptr _ _ (by first | exact h3 | exact z3 _)).mono ?_
  rintro e w1 ⟨rfl, rfl⟩
  go_wp2_with fail
  have LI := Lib.hid (fun w h => llist_any g c w h (by have := ok.leaps.len; omega))
  have AL := Lib.hid (h.alloc (.cells #[.int .i64 y1, .int .i64 y2] 34))
  obtain ⟨i0, hi, hz0, hz1, hz2⟩ := info_parts leap_info
  have Z := Lib.hid (And.intro z0 (And.intro z1 (And.intro z2 z3)))
  have hb := Blk.new w 34 #[.int .i64 y1, .int .i64 y2]
  have b0 : (w.alloc (.cells #[.int .i64 y1, .int .i64 y2] 34)).cell? ⟨w.heap.size, 0, none⟩ = some (.int .i64 y1) := hb.cell 0
  have b1 : (w.alloc (.cells #[.int .i64 y1, .int .i64 y2] 34)).cell? ⟨w.heap.size, 1, none⟩ = some (.int .i64 y2) := hb.cell 1
  have x1' := z1 (.cells #[.int .i64 y1, .int .i64 y2] 34)
  have y2' := z2 (.cells #[.int .i64 y1, .int .i64 y2] 34)
  generalize hW : w.alloc (.cells #[.int .i64 y1, .int .i64 y2] 34) = W at *
  clear z0 z1 z2 z3 h0 h1 h2 h3 hb
  have wW : Stp [] w W := by
    rw [← hW]
    exact (Stp.refl _ _).alloc _
  have hl32 := ok.leaps.len
  have K : ∀ w', Stp [] W w' → w'.cell? ⟨g, 2, none⟩ = some (.int .i64 c.base) ∧ w'.cell? ⟨w.heap.size, 0, none⟩ = some (.int .i64 y1) ∧ w'.cell? ⟨w.heap.size, 1, none⟩ = some (.int .i64 y2) ∧ Stp [] W w' := fun w' st => ⟨st.cell y2' (by simp), st.cell b0 (by simp), st.cell b1 (by simp), st⟩
  go_region_held3 (fun w' => w'.cell? ⟨g, 2, none⟩ = some (.int .i64 c.base) ∧ w'.cell? ⟨w.heap.size, 0, none⟩ = some (.int .i64 y1) ∧ w'.cell? ⟨w.heap.size, 1, none⟩ = some (.int .i64 y2) ∧ Stp [] W w')
    (first | (go_split_ands; refine K _ ?_; first | assumption | exact (Stp.refl _ _).drew | exact Stp.refl _ _ | exact Stp.trans (by assumption) s9 | exact Stp.trans (by assumption) s11 | exact Stp.alloc (by assumption) _ | exact Stp.grown (by assumption) grow10 (fun k hk => .inr (own_base own9 hk)) | exact Stp.grown (by assumption) grow10 (fun k hk => .inr (Nat.le_trans (Nat.le_trans (Nat.le_succ _) (by simp [World.drew])) (own_base own9 hk))) | exact Stp.grown (Stp.alloc (by assumption) _) grow10 (fun k hk => .inr (own_base own9 hk))))
    (first
      | (go_at_call 21; (with_reducible refine (LI.out _ (by first | exact AL.out | exact AL.out.drew | exact AL.out.alloc _ | exact (AL.out.alloc _).drew | (refine AL.out.stp ?_; assumption))).mono ?_); rintro e w9 ⟨v9, rfl, own9, s9⟩)
      | (refine step_append_any _ rfl (.tmp 13) (.tmp 15) 30 rfl _ 34 i0 (.agg #[.int .i64 0, .int .i64 0]) 2 16 Try.underlying30 hi hz0 hz1 hz2 rfl (by decide) v9 c.L.length (pcells c.L) rfl (own9.alloc _) _ _ 1 1 [.int .i64 y1, .int .i64 y2] rfl (reads_built w9 y1 y2) (two_one y1 y2) (by unfold maxLen; omega) (by omega) (Nat.le_trans s9.size ((Stp.refl [] w9).alloc _).size) ?_; intro v10 w10 own10 grow10 _; obtain ⟨A10, c10, rfl, k10, k11, row10⟩ := own_form (G := []) own10 (by simp))
      | (go_at_call 18; (with_reducible refine (NW.out _ _ _ row10).mono ?_); rintro e w11 ⟨g11, A11, c11, rfl, a11, k11', k12, r11, f11, s11, z11⟩)
      | (refine step_append_any _ rfl (.tmp 13) (.tmp 15) 30 rfl _ 34 i0 (.agg #[.int .i64 0, .int .i64 0]) 2 16 Try.underlying30 hi hz0 hz1 hz2 rfl (by decide) v9 c.L.length (pcells c.L) rfl own9 _ _ 1 1 [.int .i64 y1, .int .i64 y2] rfl (by exact ((reads_built W y1 y2).drew).stp (G := []) s9 (by simp [World.drew]) (by simp)) (two_one y1 y2) (by unfold maxLen; omega) (by omega) s9.size ?_; intro v10 w10 own10 grow10 _; obtain ⟨A10, c10, rfl, k10, k11, row10⟩ := own_form (G := []) own10 (by simp)))
  all_goals
    have sW : Stp [] W w11 := by first | assumption | (go_split_ands; assumption)
    have e1 := sW.cell x1' (by simp)
    have hd : decide (ex < c.ex) = false := decide_eq_false (by omega)
    obtain ⟨Ax, cpx, hx, _⟩ := P.out.1.stp (wW.trans sW)
    have hxc0 := cell_at hx 0
    have hxc2 := cell_at hx 2
    have hxc3 := cell_at hx 3
    have hxf0 := free_at hx 0
    have hxf1 := free_at hx 1
    have hxf2 := free_at hx 2
    have hxf3 := free_at hx 3
    have m0 := cell_at a11 0
    have m1 := cell_at a11 1
    have m2 := cell_at a11 2
    have m3 := cell_at a11 3
    have fin := set_at (set_at (set_at (set_at hx 0 (.slice A11 (c.more y1 y2 ex).L.length c11)) 1 (.int .i64 (c.more y1 y2 ex).ex)) 2 (.int .i64 (c.more y1 y2 ex).base)) 3 (.bool true)
    have gs : Stp [g] w11 ((((w11.setCell ⟨g, 0, none⟩ (.slice A11 (c.more y1 y2 ex).L.length c11)).setCell ⟨g, 1, none⟩ (.int .i64 (c.more y1 y2 ex).ex)).setCell ⟨g, 2, none⟩ (.int .i64 (c.more y1 y2 ex).base)).setCell ⟨g, 3, none⟩ (.bool true)) :=
      ((((Stp.refl _ _).setCell (p := ⟨g, 0, none⟩) (.inl (by simp)) _).setCell (p := ⟨g, 1, none⟩) (.inl (by simp)) _).setCell (p := ⟨g, 2, none⟩) (.inl (by simp)) _).setCell (p := ⟨g, 3, none⟩) (.inl (by simp)) _
    have rg : RowIn w11 A11 (c.more y1 y2 ex).L.length 2 (pcells (c.more y1 y2 ex).L) G := by
      refine ⟨r11.1, fun hn => ?_⟩
      obtain ⟨b, off, e, hb, _, hc⟩ := r11.2 hn
      refine ⟨b, off, e, hb, fun hk => ?_, hc⟩
      have hkl := HBG.out.1 _ hk
      have f1 := (f11 _ e).1
      simp only at f1
      have f2 := wW.size
      have f3 := s9.size
      have f4 := grow10.size
      simp at f2 f3 f4
      omega
    have FIN := Lib.hid (And.intro fin (And.intro gs (And.intro (rg.out1 HBG.out.2 gs) (And.intro k11' (And.intro k12 (wW.trans sW))))))
    clear fin gs rg r11 hx a11 own9 own10 s9 s11 grow10 row10 f11 k11' k12 NW LI
    generalize hM : c.more y1 y2 ex = M at *
    obtain ⟨ML, Mex, Mb⟩ := M
    simp only at m0 m1 m2 m3 FIN
    go_wp2_with fail
    go_ret
    exact ⟨rfl, by rw [hM]; exact ⟨A11, c11, FIN.out.1, FIN.out.2.2.2.1, FIN.out.2.2.2.2.1, FIN.out.2.2.1⟩, FIN.out.2.2.2.2.2.of_nil.trans FIN.out.2.1⟩
set_option maxHeartbeats 2000000 in
theorem radd_okG (g : Nat) (G : List Nat) (hG : g ∈ G) (c : LT) (y1 y2 ex : Int) (w : World) (h : c.rat w g) (ok : c.ok) (ok2 : (c.more y1 y2 ex).ok) (hge : c.ex ≤ ex) (hB : ∀ k, k ∈ G → k < w.heap.size) :
    Calls Try.prog 24 #[.pointer (some ⟨g, 0, none⟩), .agg #[.int .i64 y1, .int .i64 y2], .int .i64 ex] w fun e w' => e = .returned (.int .i64 0) ∧ (c.more y1 y2 ex).ratG w' g G ∧ Stp [g] w w' := by
  have HBG := Lib.hid (And.intro hB hG)
  clear hB hG
  have NW := Lib.hid (fun (w : World) (A : Option Addr) (cp : Nat) (hr : RowIn w A (c.L.length + 1) 2 (pcells c.L ++ [.int .i64 y1, .int .i64 y2]) []) => (show Calls Try.prog 19 #[.slice A (c.L.length + 1) cp, .int .i64 ex, .int .i64 c.base] w (MadeRefF (c.more y1 y2 ex) w) from rlnew_ok A (c.L.length + 1) cp (c.more y1 y2 ex) w (by rw [show pcells (c.more y1 y2 ex).L = pcells c.L ++ [.int .i64 y1, .int .i64 y2] from pcells_append c.L [(y1, y2)]]; exact hr) (by simp [LT.more]) ok2))
  clear ok2
  have hcex := ok.e1
  have hh := Lib.hid h
  obtain ⟨A, cp, h0, h1, h2, h4, h5, h6⟩ := h.cells
  have hg := h.lt
  have hl32 := ok.leaps.len
  obtain ⟨i0, hi, hz0, hz1, hz2⟩ := info_parts leap_info
  have RR := Lib.hid (h6.reads)
  clear h6
  go_enter Try.func24, Try.ntmps24
  go_wp2_with (at_builtin; refine wpList_append_any _ rfl _ _ 30 rfl (w.heap.size + 1) 34 i0 (.agg #[.int .i64 0, .int .i64 0]) 2 16 Try.underlying30 hi hz0 hz1 hz2 rfl (by decide) _ 0 [] rfl (World.ownsRow_nil _ _ _ _) w.heap.size A c.L.length cp (pcells c.L) rfl (by first | exact RR.out | exact RR.out.alloc (Nat.le_refl _) _) (pcells_one c.L) (by unfold maxLen; omega) (by omega) (by first | exact Nat.le_refl _ | simp) ?_)
  intro v1 w1 own1 grow1 _
  have szW : (w.alloc (.cells #[.int .i64 y1, .int .i64 y2] 34)).heap.size = w.heap.size + 1 := by simp
  have bW := Blk.new w 34 #[.int .i64 y1, .int .i64 y2]
  have wW := (Stp.refl [] w).alloc (.cells #[.int .i64 y1, .int .i64 y2] 34)
  generalize w.alloc (.cells #[.int .i64 y1, .int .i64 y2] 34) = W at *
  have st1 : Stp [] W w1 := (Stp.refl [] W).grown grow1 (fun k hk => by simp [Value.ownBlock] at hk)
  have g2 := wW.cell h2 (by simp)
  have x1' := wW.cell h1 (by simp)
  have b0 : W.cell? ⟨w.heap.size, 0, none⟩ = some (.int .i64 y1) := bW.cell 0
  have b1 : W.cell? ⟨w.heap.size, 1, none⟩ = some (.int .i64 y2) := bW.cell 1
  have K : ∀ w', Stp [] W w' → w'.cell? ⟨g, 2, none⟩ = some (.int .i64 c.base) ∧ w'.cell? ⟨w.heap.size, 0, none⟩ = some (.int .i64 y1) ∧ w'.cell? ⟨w.heap.size, 1, none⟩ = some (.int .i64 y2) ∧ Stp [] W w' := fun w' st => ⟨st.cell g2 (by simp), st.cell b0 (by simp), st.cell b1 (by simp), st⟩
  obtain ⟨g2', b0', b1', _⟩ := K w1 st1
  have OWND := Lib.hid (show w1.drew.ownsRow (w.heap.size + 1) 34 2 v1 c.L.length (pcells c.L) from own1)
  have szd : w.heap.size + 1 ≤ w1.drew.heap.size := by have := st1.size; show _ ≤ w1.heap.size; omega
  clear grow1 RR h0 h2 g2 b0 b1 bW
  go_wp2_with fail
  go_region_held3 (fun w' => w'.cell? ⟨g, 2, none⟩ = some (.int .i64 c.base) ∧ w'.cell? ⟨w.heap.size, 0, none⟩ = some (.int .i64 y1) ∧ w'.cell? ⟨w.heap.size, 1, none⟩ = some (.int .i64 y2) ∧ Stp [] W w')
    (first | (go_split_ands; refine K _ ?_; first | assumption | exact st1.drew | exact Stp.trans (by assumption) s11 | exact Stp.alloc (by assumption) _ | exact Stp.alloc st1.drew _ | exact Stp.grown (Stp.alloc st1.drew _) grow10 (fun k hk => .inr (by have := own_base own1 hk; omega)) | exact Stp.grown (Stp.alloc (by assumption) _) grow10 (fun k hk => .inr (by have := own_base own1 hk; omega)) | exact Stp.grown (by assumption) grow10 (fun k hk => .inr (by have := own_base own1 hk; omega))))
    (first
      | (refine step_append_any _ rfl (.tmp 17) (.tmp 19) 30 rfl (w.heap.size + 1) 34 i0 (.agg #[.int .i64 0, .int .i64 0]) 2 16 Try.underlying30 hi hz0 hz1 hz2 rfl (by decide) v1 c.L.length (pcells c.L) rfl (by exact (OWND.out.alloc _)) _ _ 1 1 [.int .i64 y1, .int .i64 y2] rfl (by exact (reads_built w1.drew y1 y2)) (two_one y1 y2) (by unfold maxLen; omega) (by omega) (Nat.le_trans szd ((Stp.refl [] w1.drew).alloc _).size) ?_; intro v10 w10 own10 grow10 _; have ob10 := fun k hk => own_base (k := k) own10 hk; obtain ⟨A10, c10, rfl, k10, k11, row10⟩ := own_form (G := []) own10 (by simp))
      | (go_at_call 19; (with_reducible refine (NW.out _ _ _ row10).mono ?_); rintro e w11 ⟨g11, A11, c11, rfl, a11, k11', k12, r11, f11, s11, z11⟩))
  all_goals
    have sW : Stp [] W w11 := by first | assumption | (go_split_ands; assumption)
    have hd : decide (ex < c.ex) = false := decide_eq_false (by omega)
    obtain ⟨Ax, cpx, hx, _⟩ := hh.out.stp (wW.trans sW)
    have hxc0 := cell_at hx 0
    have hxc1 := cell_at hx 1
    have hxf0 := free_at hx 0
    have hxf1 := free_at hx 1
    have m0 := cell_at a11 0
    have fin := set_at (set_at hx 0 (.slice A11 (c.more y1 y2 ex).L.length c11)) 1 (.int .i64 ex)
    have gs : Stp [g] w11 ((w11.setCell ⟨g, 0, none⟩ (.slice A11 (c.more y1 y2 ex).L.length c11)).setCell ⟨g, 1, none⟩ (.int .i64 ex)) :=
      ((Stp.refl _ _).setCell (p := ⟨g, 0, none⟩) (.inl (by simp)) _).setCell (p := ⟨g, 1, none⟩) (.inl (by simp)) _
    have rg : RowIn w11 A11 (c.more y1 y2 ex).L.length 2 (pcells (c.more y1 y2 ex).L) G := by
      refine ⟨r11.1, fun hn => ?_⟩
      obtain ⟨b, off, e, hb, _, hc⟩ := r11.2 hn
      refine ⟨b, off, e, hb, fun hk => ?_, hc⟩
      have hkl := HBG.out.1 _ hk
      have f1 := (f11 _ e).1
      simp only at f1
      have f4 := grow10.size
      have f5 := ((Stp.refl [] w1.drew).alloc (.cells #[.int .i64 y1, .int .i64 y2] 34)).size
      have f6 := (((Stp.refl [] w1).alloc (.cells #[.int .i64 y1, .int .i64 y2] 34)).drew).size
      have f7 := st1.size
      omega
    have FIN := Lib.hid (And.intro fin (And.intro gs (And.intro (rg.out1 HBG.out.2 gs) (And.intro k11' (And.intro k12 (wW.trans sW))))))
    clear fin gs rg r11 hx a11 own1 own10 s11 grow10 row10 f11 k11' k12 NW
    generalize hM : c.more y1 y2 ex = M at *
    have hMx : M.ex = ex := by rw [← hM]; rfl
    have hMb : M.base = c.base := by rw [← hM]; rfl
    generalize hML : M.L.length = nM at *
    have HM := Lib.hid (And.intro hMx (And.intro hMb hML))
    clear hMx hMb hML
    go_wp2_with fail
    go_ret
    refine ⟨rfl, ?_, FIN.out.2.2.2.2.2.of_nil.trans FIN.out.2.1⟩
    rw [hM]
    exact ⟨A11, c11, by rw [HM.out.2.2, HM.out.1, HM.out.2.1]; exact FIN.out.1, by rw [HM.out.2.2]; exact FIN.out.2.2.2.1, FIN.out.2.2.2.2.1, by rw [HM.out.2.2]; exact FIN.out.2.2.1⟩

set_option maxHeartbeats 1000000 in
theorem lcopy_any (g : Nat) (c : LT) (w : World) (h : c.at w g) (ok : c.ok) :
    Calls Try.prog 22 #[.pointer (some ⟨g, 0, none⟩)] w fun e w' => ∃ g', e = .returned (.pointer (some ⟨g', 0, none⟩)) ∧ c.at w' g' ∧ Stp [] w w' ∧ w.heap.size ≤ g' := by
  obtain ⟨A, cp, h0, h1, h2, h3, h4, h5, h6⟩ := h.cells
  have LI := Lib.hid (fun w h => llist_any g c w h (by have := ok.leaps.len; omega))
  have AL := Lib.hid h
  have K : ∀ w', Stp [] w w' → w'.cell? ⟨g, 1, none⟩ = some (.int .i64 c.ex) ∧ w'.cell? ⟨g, 2, none⟩ = some (.int .i64 c.base) ∧ Stp [] w w' := fun w' st => ⟨st.cell h1 (by simp), st.cell h2 (by simp), st⟩
  clear h0 h6
  go_enter Try.func22, Try.ntmps22
  go_wp2_with fail
  refine (lnone_ptr _ _ (by exact h3)).mono ?_
  rintro e w1 ⟨rfl, rfl⟩
  go_wp2_with fail
  go_region_held3 (fun w' => w'.cell? ⟨g, 1, none⟩ = some (.int .i64 c.ex) ∧ w'.cell? ⟨g, 2, none⟩ = some (.int .i64 c.base) ∧ Stp [] w1 w')
    (first | (go_split_ands; refine K _ ?_; first | assumption | exact (Stp.refl _ _).drew | exact Stp.refl _ _ | exact Stp.trans (by assumption) s9 | exact Stp.alloc (by assumption) _))
    ((go_at_call 21; (with_reducible refine (LI.out _ (by first | exact AL.out | exact AL.out.drew)).mono ?_); rintro e w9 ⟨v9, rfl, own9, s9⟩; have ob9 := fun k hk => own_base (k := k) own9 hk; obtain ⟨A9, c9, rfl, k9, k9', row9⟩ := own_form (G := []) own9 (by simp)))
  all_goals
    have sW : Stp [] w1 w9 := by first | exact s9 | assumption | (exact ⟨s9.os, s9.tape, s9.output, s9.size, s9.block⟩)
    have F := Lib.hid (show c.at (w9.alloc (.cells #[.slice A9 c.L.length c9, .int .i64 c.ex, .int .i64 c.base, .bool true] 67)) w9.heap.size from ⟨A9, c9, new_at _ _, k9, k9', ⟨row9.1, fun hn => by
      obtain ⟨b, off, e, hb, _, hc⟩ := (row9.alloc _).2 hn
      obtain ⟨b', off', e', hb', _⟩ := row9.2 hn
      rw [e] at e'
      have eb : b = b' := congrArg Addr.block (Option.some.inj e')
      exact ⟨b, off, e, hb, by simp; omega, hc⟩⟩⟩)
    clear own9 row9
    go_wp2_with fail
    go_ret
    exact ⟨w9.heap.size, rfl, F.out, sW.alloc _, sW.size⟩
end Go.Proofs.Ytkdpndoamepcbaa
