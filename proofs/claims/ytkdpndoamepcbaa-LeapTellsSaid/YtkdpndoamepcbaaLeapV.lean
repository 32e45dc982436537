/- leap: the document's Add. -/
import Derived.Test.YtkdpndoamepcbaaLeapU
import Derived.Deep.RegionHeld3
namespace Go.Proofs.Ytkdpndoamepcbaa
open Go.RowKit
set_option linter.unusedVariables false
set_option linter.unusedSimpArgs false

set_option maxHeartbeats 2000000 in
theorem radd_err (g : Nat) (c : LT) (y1 y2 ex er : Int) (w : World) (her : er ≠ 0) (h : c.rat w g) (ok : c.ok) (NW : Hid (∀ w A cp, RowIn w A (c.L.length + 1) 2 (pcells c.L ++ [.int .i64 y1, .int .i64 y2]) [] → Calls Try.prog 19 #[.slice A (c.L.length + 1) cp, .int .i64 ex, .int .i64 c.base] w fun e w' => e = .returned (.tuple #[.pointer none, .int .i64 er]) ∧ Stp [] w w')) :
    Calls Try.prog 24 #[.pointer (some ⟨g, 0, none⟩), .agg #[.int .i64 y1, .int .i64 y2], .int .i64 ex] w fun e w' => e = .returned (.int .i64 er) ∧ Stp [] w w' := by
  have hne1 : (er == 0) = false := by simp [her]
  have hne2 : (er != 0) = true := by simp [her]
  obtain ⟨A, cp, h0, h1, h2, h4, h5, h6⟩ := h.cells
  have hg := h.lt
  have hl32 := ok.leaps.len
  obtain ⟨i0, hi, hz0, hz1, hz2⟩ := info_parts leap_info
  have RR := Lib.hid (h6.reads)
  clear h6
  go_enter Try.func24, Try.ntmps24
  go_wp2_with (at_builtin; refine wpList_append_any _ rfl _ _ 30 rfl (w.heap.size + 1) 34 i0 (.agg #[.int .i64 0, .int .i64 0]) 2 16 Try.underlying30 hi hz0 hz1 hz2 rfl (by decide) _ 0 [] rfl (World.ownsRow_nil _ _ _ _) w.heap.size A c.L.length cp (pcells c.L) rfl (by first | exact RR.out | exact RR.out.alloc (Nat.le_refl _) _) (pcells_one c.L) (by unfold maxLen; omega) (by omega) (by first | exact Nat.le_refl _ | simp) ?_)
  intro v1 w1 own1 grow1 _
  have szW : (w.alloc (.cells #[.int .i64 y1, .int .i64 y2] 34)).heap.size = w.heap.size + 1 := by simp
  have bW := Blk.new w 34 #[.int .i64 y1, .int .i64 y2]
  have wW := (Stp.refl [] w).alloc (.cells #[.int .i64 y1, .int .i64 y2] 34)
  generalize w.alloc (.cells #[.int .i64 y1, .int .i64 y2] 34) = W at *
  have st1 : Stp [] W w1 := (Stp.refl [] W).grown grow1 (fun k hk => by simp [Value.ownBlock] at hk)
  have g2 := wW.cell h2 (by simp)
  have b0 : W.cell? ⟨w.heap.size, 0, none⟩ = some (.int .i64 y1) := bW.cell 0
  have b1 : W.cell? ⟨w.heap.size, 1, none⟩ = some (.int .i64 y2) := bW.cell 1
  have K : ∀ w', Stp [] W w' → w'.cell? ⟨g, 2, none⟩ = some (.int .i64 c.base) ∧ w'.cell? ⟨w.heap.size, 0, none⟩ = some (.int .i64 y1) ∧ w'.cell? ⟨w.heap.size, 1, none⟩ = some (.int .i64 y2) ∧ Stp [] W w' := fun w' st => ⟨st.cell g2 (by simp), st.cell b0 (by simp), st.cell b1 (by simp), st⟩
  obtain ⟨g2', b0', b1', _⟩ := K w1 st1
  have OWND := Lib.hid (show w1.drew.ownsRow (w.heap.size + 1) 34 2 v1 c.L.length (pcells c.L) from own1)
  have szd : w.heap.size + 1 ≤ w1.drew.heap.size := by have := st1.size; show _ ≤ w1.heap.size; omega
  clear grow1 RR h0 h2 g2 b0 b1 bW
  go_wp2_with fail
  go_region_held3 (fun w' => w'.cell? ⟨g, 2, none⟩ = some (.int .i64 c.base) ∧ w'.cell? ⟨w.heap.size, 0, none⟩ = some (.int .i64 y1) ∧ w'.cell? ⟨w.heap.size, 1, none⟩ = some (.int .i64 y2) ∧ Stp [] W w')
    (first | (go_split_ands; refine K _ ?_; first | assumption | exact st1.drew | exact Stp.trans (by assumption) s11 | exact Stp.alloc (by assumption) _ | exact Stp.alloc st1.drew _ | exact Stp.grown (Stp.alloc st1.drew _) grow10 (fun k hk => .inr (by have := own_base own1 hk; omega)) | exact Stp.grown (Stp.alloc (by assumption) _) grow10 (fun k hk => .inr (by have := own_base own1 hk; omega)) | exact Stp.grown (by assumption) grow10 (fun k hk => .inr (by have := own_base own1 hk; omega))))
    (first
      | (refine step_append_any _ rfl (.tmp 17) (.tmp 19) 30 rfl (w.heap.size + 1) 34 i0 (.agg #[.int .i64 0, .int .i64 0]) 2 16 Try.underlying30 hi hz0 hz1 hz2 rfl (by decide) v1 c.L.length (pcells c.L) rfl (by exact (OWND.out.alloc _)) _ _ 1 1 [.int .i64 y1, .int .i64 y2] rfl (by exact (reads_built w1.drew y1 y2)) (two_one y1 y2) (by unfold maxLen; omega) (by omega) (Nat.le_trans szd ((Stp.refl [] w1.drew).alloc _).size) ?_; intro v10 w10 own10 grow10 _; have ob10 := fun k hk => own_base (k := k) own10 hk; obtain ⟨A10, c10, rfl, k10, k11, row10⟩ := own_form (G := []) own10 (by simp))
      | (go_at_call 19; (with_reducible refine (NW.out _ _ _ row10).mono ?_); rintro e w11 ⟨rfl, s11⟩))
  all_goals
    have sW : Stp [] W w11 := by first | assumption | (go_split_ands; assumption)
    go_wp2_with fail
    go_ret
    exact ⟨rfl, wW.trans sW⟩
set_option maxHeartbeats 2000000 in
theorem radd_late (g : Nat) (c : LT) (y1 y2 ex : Int) (w : World) (h : c.rat w g) (ok : c.ok) (ok2 : (c.more y1 y2 ex).ok) (hlt : ex < c.ex) :
    Calls Try.prog 24 #[.pointer (some ⟨g, 0, none⟩), .agg #[.int .i64 y1, .int .i64 y2], .int .i64 ex] w fun e w' => e = .returned (.int .i64 1) ∧ Stp [] w w' := by
  have NW := Lib.hid (fun (w : World) (A : Option Addr) (cp : Nat) (hr : RowIn w A (c.L.length + 1) 2 (pcells c.L ++ [.int .i64 y1, .int .i64 y2]) []) => (show Calls Try.prog 19 #[.slice A (c.L.length + 1) cp, .int .i64 ex, .int .i64 c.base] w (MadeRefF (c.more y1 y2 ex) w) from rlnew_ok A (c.L.length + 1) cp (c.more y1 y2 ex) w (by rw [show pcells (c.more y1 y2 ex).L = pcells c.L ++ [.int .i64 y1, .int .i64 y2] from pcells_append c.L [(y1, y2)]]; exact hr) (by simp [LT.more]) ok2))
  clear ok2
  have hcex := ok.e1
  have hh := Lib.hid h
  obtain ⟨A, cp, h0, h1, h2, h4, h5, h6⟩ := h.cells
  have hg := h.lt
  have hl32 := ok.leaps.len
  obtain ⟨i0, hi, hz0, hz1, hz2⟩ := info_parts leap_info
  have RR := Lib.hid (h6.reads)
  clear h6
  go_enter Try.func24, Try.ntmps24
  go_wp2_with (at_builtin; refine wpList_append_any _ rfl _ _ 30 rfl (w.heap.size + 1) 34 i0 (.agg #[.int .i64 0, .int .i64 0]) 2 16 Try.underlying30 hi hz0 hz1 hz2 rfl (by decide) _ 0 [] rfl (World.ownsRow_nil _ _ _ _) w.heap.size A c.L.length cp (pcells c.L) rfl (by first | exact RR.out | exact RR.out.alloc (Nat.le_refl _) _) (pcells_one c.L) (by unfold maxLen; omega) (by omega) (by first | exact Nat.le_refl _ | simp) ?_)
  intro v1 w1 own1 grow1 _
  have szW : (w.alloc (.cells #[.int .i64 y1, .int .i64 y2] 34)).heap.size = w.heap.size + 1 := by simp
  have bW := Blk.new w 34 #[.int .i64 y1, .int .i64 y2]
  have wW := (Stp.refl [] w).alloc (.cells #[.int .i64 y1, .int .i64 y2] 34)
  generalize w.alloc (.cells #[.int .i64 y1, .int .i64 y2] 34) = W at *
  have st1 : Stp [] W w1 := (Stp.refl [] W).grown grow1 (fun k hk => by simp [Value.ownBlock] at hk)
  have g2 := wW.cell h2 (by simp)
  have x1' := wW.cell h1 (by simp)
  have b0 : W.cell? ⟨w.heap.size, 0, none⟩ = some (.int .i64 y1) := bW.cell 0
  have b1 : W.cell? ⟨w.heap.size, 1, none⟩ = some (.int .i64 y2) := bW.cell 1
  have K : ∀ w', Stp [] W w' → w'.cell? ⟨g, 2, none⟩ = some (.int .i64 c.base) ∧ w'.cell? ⟨w.heap.size, 0, none⟩ = some (.int .i64 y1) ∧ w'.cell? ⟨w.heap.size, 1, none⟩ = some (.int .i64 y2) ∧ Stp [] W w' := fun w' st => ⟨st.cell g2 (by simp), st.cell b0 (by simp), st.cell b1 (by simp), st⟩
  obtain ⟨g2', b0', b1', _⟩ := K w1 st1
  have OWND := Lib.hid (show w1.drew.ownsRow (w.heap.size + 1) 34 2 v1 c.L.length (pcells c.L) from own1)
  have szd : w.heap.size + 1 ≤ w1.drew.heap.size := by have := st1.size; show _ ≤ w1.heap.size; omega
  clear grow1 RR h0 h2 g2 b0 b1 bW
  go_wp2_with fail
  go_region_held3 (fun w' => w'.cell? ⟨g, 2, none⟩ = some (.int .i64 c.base) ∧ w'.cell? ⟨w.heap.size, 0, none⟩ = some (.int .i64 y1) ∧ w'.cell? ⟨w.heap.size, 1, none⟩ = some (.int .i64 y2) ∧ Stp [] W w')
    (first | (go_split_ands; refine K _ ?_; first | assumption | exact st1.drew | exact Stp.trans (by assumption) s11 | exact Stp.alloc (by assumption) _ | exact Stp.alloc st1.drew _ | exact Stp.grown (Stp.alloc st1.drew _) grow10 (fun k hk => .inr (by have := own_base own1 hk; omega)) | exact Stp.grown (Stp.alloc (by assumption) _) grow10 (fun k hk => .inr (by have := own_base own1 hk; omega)) | exact Stp.grown (by assumption) grow10 (fun k hk => .inr (by have := own_base own1 hk; omega))))
    (first
      | (refine step_append_any _ rfl (.tmp 17) (.tmp 19) 30 rfl (w.heap.size + 1) 34 i0 (.agg #[.int .i64 0, .int .i64 0]) 2 16 Try.underlying30 hi hz0 hz1 hz2 rfl (by decide) v1 c.L.length (pcells c.L) rfl (by exact (OWND.out.alloc _)) _ _ 1 1 [.int .i64 y1, .int .i64 y2] rfl (by exact (reads_built w1.drew y1 y2)) (two_one y1 y2) (by unfold maxLen; omega) (by omega) (Nat.le_trans szd ((Stp.refl [] w1.drew).alloc _).size) ?_; intro v10 w10 own10 grow10 _; have ob10 := fun k hk => own_base (k := k) own10 hk; obtain ⟨A10, c10, rfl, k10, k11, row10⟩ := own_form (G := []) own10 (by simp))
      | (go_at_call 19; (with_reducible refine (NW.out _ _ _ row10).mono ?_); rintro e w11 ⟨g11, A11, c11, rfl, a11, k11', k12, r11, f11, s11, z11⟩))
  all_goals
    have sW : Stp [] W w11 := by first | assumption | (go_split_ands; assumption)
    have e1 := sW.cell x1' (by simp)
    have hd : decide (ex < c.ex) = true := decide_eq_true hlt
    go_wp2_with fail
    go_ret
    exact ⟨rfl, wW.trans sW⟩
set_option maxHeartbeats 2000000 in
theorem radd_ok (g : Nat) (c : LT) (y1 y2 ex : Int) (w : World) (h : c.rat w g) (ok : c.ok) (ok2 : (c.more y1 y2 ex).ok) (hge : c.ex ≤ ex) :
    Calls Try.prog 24 #[.pointer (some ⟨g, 0, none⟩), .agg #[.int .i64 y1, .int .i64 y2], .int .i64 ex] w fun e w' => e = .returned (.int .i64 0) ∧ (c.more y1 y2 ex).rat w' g ∧ Stp [g] w w' := by
  have NW := Lib.hid (fun (w : World) (A : Option Addr) (cp : Nat) (hr : RowIn w A (c.L.length + 1) 2 (pcells c.L ++ [.int .i64 y1, .int .i64 y2]) []) => (show Calls Try.prog 19 #[.slice A (c.L.length + 1) cp, .int .i64 ex, .int .i64 c.base] w (MadeRefF (c.more y1 y2 ex) w) from rlnew_ok A (c.L.length + 1) cp (c.more y1 y2 ex) w (by rw [show pcells (c.more y1 y2 ex).L = pcells c.L ++ [.int .i64 y1, .int .i64 y2] from pcells_append c.L [(y1, y2)]]; exact hr) (by simp [LT.more]) ok2))
  clear ok2
  have hcex := ok.e1
  have hh := Lib.hid h
  obtain ⟨A, cp, h0, h1, h2, h4, h5, h6⟩ := h.cells
  have hg := h.lt
  have hl32 := ok.leaps.len
  obtain ⟨i0, hi, hz0, hz1, hz2⟩ := info_parts leap_info
  have RR := Lib.hid (h6.reads)
  clear h6
  go_enter Try.func24, Try.ntmps24
  go_wp2_with (at_builtin; refine wpList_append_any _ rfl _ _ 30 rfl (w.heap.size + 1) 34 i0 (.agg #[.int .i64 0, .int .i64 0]) 2 16 Try.underlying30 hi hz0 hz1 hz2 rfl (by decide) _ 0 [] rfl (World.ownsRow_nil _ _ _ _) w.heap.size A c.L.length cp (pcells c.L) rfl (by first | exact RR.out | exact RR.out.alloc (Nat.le_refl _) _) (pcells_one c.L) (by unfold maxLen; omega) (by omega) (by first | exact Nat.le_refl _ | simp) ?_)
  intro v1 w1 own1 grow1 _
  have szW : (w.alloc (.cells #[.int .i64 y1, .int .i64 y2] 34)).heap.size = w.heap.size + 1 := by simp
  have bW := Blk.new w 34 #[.int .i64 y1, .int .i64 y2]
  have wW := (Stp.refl [] w).alloc (.cells #[.int .i64 y1, .int .i64 y2] 34)
  generalize w.alloc (.cells #[.int .i64 y1, .int .i64 y2] 34) = W at *
  have st1 : Stp [] W w1 := (Stp.refl [] W).grown grow1 (fun k hk => by simp [Value.ownBlock] at hk)
  have g2 := wW.cell h2 (by simp)
  have x1' := wW.cell h1 (by simp)
  have b0 : W.cell? ⟨w.heap.size, 0, none⟩ = some (.int .i64 y1) := bW.cell 0
  have b1 : W.cell? ⟨w.heap.size, 1, none⟩ = some (.int .i64 y2) := bW.cell 1
  have K : ∀ w', Stp [] W w' → w'.cell? ⟨g, 2, none⟩ = some (.int .i64 c.base) ∧ w'.cell? ⟨w.heap.size, 0, none⟩ = some (.int .i64 y1) ∧ w'.cell? ⟨w.heap.size, 1, none⟩ = some (.int .i64 y2) ∧ Stp [] W w' := fun w' st => ⟨st.cell g2 (by simp), st.cell b0 (by simp), st.cell b1 (by simp), st⟩
  obtain ⟨g2', b0', b1', _⟩ := K w1 st1
  have OWND := Lib.hid (show w1.drew.ownsRow (w.heap.size + 1) 34 2 v1 c.L.length (pcells c.L) from own1)
  have szd : w.heap.size + 1 ≤ w1.drew.heap.size := by have := st1.size; show _ ≤ w1.heap.size; omega
  clear grow1 RR h0 h2 g2 b0 b1 bW
  go_wp2_with fail
  go_region_held3 (fun w' => w'.cell? ⟨g, 2, none⟩ = some (.int .i64 c.base) ∧ w'.cell? ⟨w.heap.size, 0, none⟩ = some (.int .i64 y1) ∧ w'.cell? ⟨w.heap.size, 1, none⟩ = some (.int .i64 y2) ∧ Stp [] W w')
    (first | (go_split_ands; refine K _ ?_; first | assumption | exact st1.drew | exact Stp.trans (by assumption) s11 | exact Stp.alloc (by assumption) _ | exact Stp.alloc st1.drew _ | exact Stp.grown (Stp.alloc st1.drew _) grow10 (fun k hk => .inr (by have := own_base own1 hk; omega)) | exact Stp.grown (Stp.alloc (by assumption) _) grow10 (fun k hk => .inr (by have := own_base own1 hk; omega)) | exact Stp.grown (by assumption) grow10 (fun k hk => .inr (by have := own_base own1 hk; omega))))
    (first
      | (refine step_append_any _ rfl (.tmp 17) (.tmp 19) 30 rfl (w.heap.size + 1) 34 i0 (.agg #[.int .i64 0, .int .i64 0]) 2 16 Try.underlying30 hi hz0 hz1 hz2 rfl (by decide) v1 c.L.length (pcells c.L) rfl (by exact (OWND.out.alloc _)) _ _ 1 1 [.int .i64 y1, .int .i64 y2] rfl (by exact (reads_built w1.drew y1 y2)) (two_one y1 y2) (by unfold maxLen; omega) (by omega) (Nat.le_trans szd ((Stp.refl [] w1.drew).alloc _).size) ?_; intro v10 w10 own10 grow10 _; have ob10 := fun k hk => own_base (k := k) own10 hk; obtain ⟨A10, c10, rfl, k10, k11, row10⟩ := own_form (G := []) own10 (by simp))
      | (go_at_call 19; (with_reducible refine (NW.out _ _ _ row10).mono ?_); rintro e w11 ⟨g11, A11, c11, rfl, a11, k11', k12, r11, f11, s11, z11⟩))
  all_goals
    have sW : Stp [] W w11 := by first | assumption | (go_split_ands; assumption)
    have hd : decide (ex < c.ex) = false := decide_eq_false (by omega)
    obtain ⟨Ax, cpx, hx, _⟩ := hh.out.stp (wW.trans sW)
    have hxc0 := cell_at hx 0
    have hxc1 := cell_at hx 1
    have hxf0 := free_at hx 0
    have hxf1 := free_at hx 1
    have m0 := cell_at a11 0
    have fin := set_at (set_at hx 0 (.slice A11 (c.more y1 y2 ex).L.length c11)) 1 (.int .i64 ex)
    have gs : Stp [g] w11 ((w11.setCell ⟨g, 0, none⟩ (.slice A11 (c.more y1 y2 ex).L.length c11)).setCell ⟨g, 1, none⟩ (.int .i64 ex)) :=
      ((Stp.refl _ _).setCell (p := ⟨g, 0, none⟩) (.inl (by simp)) _).setCell (p := ⟨g, 1, none⟩) (.inl (by simp)) _
    have rg : RowIn w11 A11 (c.more y1 y2 ex).L.length 2 (pcells (c.more y1 y2 ex).L) [g] := by
      refine ⟨r11.1, fun hn => ?_⟩
      obtain ⟨b, off, e, hb, _, hc⟩ := r11.2 hn
      refine ⟨b, off, e, hb, ?_, hc⟩
      have f1 := (f11 _ e).1
      simp only at f1
      have f4 := grow10.size
      have f5 := ((Stp.refl [] w1.drew).alloc (.cells #[.int .i64 y1, .int .i64 y2] 34)).size
      have f6 := (((Stp.refl [] w1).alloc (.cells #[.int .i64 y1, .int .i64 y2] 34)).drew).size
      have f7 := st1.size
      simp
      omega
    have FIN := Lib.hid (And.intro fin (And.intro gs (And.intro (rg.stp gs) (And.intro k11' (And.intro k12 (wW.trans sW))))))
    clear fin gs rg r11 hx a11 own1 own10 s11 grow10 row10 f11 k11' k12 NW
    generalize hM : c.more y1 y2 ex = M at *
    have hMx : M.ex = ex := by rw [← hM]; rfl
    have hMb : M.base = c.base := by rw [← hM]; rfl
    generalize hML : M.L.length = nM at *
    have HM := Lib.hid (And.intro hMx (And.intro hMb hML))
    clear hMx hMb hML
    go_wp2_with fail
    go_ret
    refine ⟨rfl, ?_, FIN.out.2.2.2.2.2.of_nil.trans FIN.out.2.1⟩
    rw [hM]
    exact ⟨A11, c11, by rw [HM.out.2.2, HM.out.1, HM.out.2.1]; exact FIN.out.1, by rw [HM.out.2.2]; exact FIN.out.2.2.2.1, FIN.out.2.2.2.2.1, by rw [HM.out.2.2]; exact FIN.out.2.2.1⟩
end Go.Proofs.Ytkdpndoamepcbaa
