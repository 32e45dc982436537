/- The row of the law LeapTells, out of its walk. No condition of ours: every input. -/
import Derived.Test.YtkdpndoamepcbaaRows
import Derived.Test.YtkdpndoamepcbaaOpen
import Derived.Test.YtkdpndoamepcbaaOpenC
import Derived.Test.YtkdpndoamepcbaaLeapTells
import Derived.WalkKit
import Derived.ProofKit
import Derived.OpenShut
import Derived.ShutString
import Derived.ChangeOld
import Derived.Below
import Derived.SizedLaws
import Derived.Lib.SmallJoins
namespace Go.Proofs.Ytkdpndoamepcbaa.leapTells
open Go.ChangeShapes Go.WideShapes Go.ChangeAt Go.RowKit
open Go.ChangeMaps (open_string shut_string)
set_option linter.unusedVariables false
theorem own : ownKnob Try.prog.godebug = none := by kernel_rfl
theorem laidOut : laidOutB Try.prog = true := by kernel_rfl
set_option maxRecDepth 100000 in
theorem lifted (os : Os) (started : os.Started) (H : Type) (enc : TypeId × Value → H) :
    ReturnsInHanded {} Try.checked os 7 .any (Rows.leapTellsSpec.pre6 enc Try.prog Try.f7 Rows.leapTellsRow.domain false) (Rows.leapTellsSpec.post enc Try.prog Try.f7 false true false false) := by
  refine returnsInHanded_of_change_sized (C := Try.checked) own started (by kernel_rfl) Try.func7
    (ChangeSpec.witness6 (enc := enc) (C := Try.checked) false ⟨#[], #[.slice none 0 0, .int .i64 0, .int .i64 0, .slice none 0 0, .slice none 0 0], []⟩ 8 (by kernel_rfl) (by kernel_rfl) (by kernel_rfl) (by kernel_rfl)) ?_
  intro W base args ds gs before hval0 hW hcnd hsz0 _
  have hsz : (DataW.weightsEach Try.prog (Try.f7.params.toList ++ Rows.leapTellsSpec.plain.varTypes Try.prog) (ds ++ gs)).all (· ≤ reachBytes) = true := hsz0
  have hval : ∀ (j : Nat) t v, Try.f7.params[j]? = some t → args[j]? = some v → Value.okWide Try.prog W .any base t v := hval0
  have hW' := hW
  obtain ⟨p, q, hA0, hV, rfl, hfz, hnd⟩ := hW
  have hA : DataW.TrodAll enc Try.prog W 0 (fun _ => true) true Try.f7.params.toList args.toList ds p := hA0
  rw [Try.params7] at hA hval hsz
  obtain ⟨v0, vs0, d0, ds0, p0, q0, hargs, rfl, rfl, h0, r0⟩ := trodAll_cons hA
  obtain ⟨v1, vs1, d1, ds1, p1, q1, rfl, rfl, rfl, h1, r1⟩ := trodAll_cons r0
  obtain ⟨v2, vs2, d2, ds2, p2, q2, rfl, rfl, rfl, h2, r2⟩ := trodAll_cons r1
  obtain ⟨v3, vs3, d3, ds3, p3, q3, rfl, rfl, rfl, h3, r3⟩ := trodAll_cons r2
  obtain ⟨v4, vs4, d4, ds4, p4, q4, rfl, rfl, rfl, h4, r4⟩ := trodAll_cons r3
  obtain ⟨rfl, rfl, rfl⟩ := trodAll_nil r4
  obtain rfl : args = #[v0, v1, v2, v3, v4] := by cases args; simp_all
  obtain ⟨rfl, rfl⟩ := trodVars_none hV
  have k0 := h0
  have lt0 : ∀ x ∈ p0, x.block < W.heap.size := by obtain ⟨m, hm⟩ := k0; exact DataW.trod_lt m _ _ _ hm
  obtain ⟨a0, len0, cap0, rfl⟩ := okWide_slice Try.underlying30 (hval 0 30 v0 rfl rfl)
  obtain ⟨l0, ll0, lq0, lr0, ls0⟩ := open_list (α := Int × Int) (Q := fun x => (-9223372036854775808 ≤ x.1 ∧ x.1 ≤ 9223372036854775807) ∧ (-9223372036854775808 ≤ x.2 ∧ x.2 ≤ 9223372036854775807)) (B := 16) (fun x => [.int .i64 x.1, .int .i64 x.2]) hsz (j := 0) (t := 30) rfl rfl Try.underlying30 Try.underlying34 (by kernel_rfl) (by kernel_rfl) (by kernel_rfl) (fun _ => rfl) (by decide) (by
    intro n ys f hf
    obtain ⟨v0, y0, g0, _, t0⟩ := hf 0 _ rfl
    obtain ⟨v1, y1, g1, _, t1⟩ := hf 1 _ rfl
    obtain ⟨b0, e0, _, u0⟩ := DataW.trod_int Try.underlying2 t0
    simp at e0
    subst e0
    obtain ⟨b1, e1, _, u1⟩ := DataW.trod_int Try.underlying3 t1
    simp at e1
    subst e1
    refine ⟨(b0, b1), ⟨bounds_i64 u0, bounds_i64 u1⟩, fun j u hu => ?_⟩
    match j, hu with
    | 0, hu => simp at hu; subst hu; exact g0
    | 1, hu => simp at hu; subst hu; exact g1) k0 lt0
  obtain ⟨a1, rfl, rfl, rfl, w1⟩ := open_int Try.underlying2 (hval 1 2 v1 rfl rfl) h1
  obtain ⟨a2, rfl, rfl, rfl, w2⟩ := open_int Try.underlying3 (hval 2 3 v2 rfl rfl) h2
  have k3 := h3
  have lt3 : ∀ x ∈ p3, x.block < W.heap.size := by obtain ⟨m, hm⟩ := k3; exact DataW.trod_lt m _ _ _ hm
  obtain ⟨a3, len3, cap3, rfl⟩ := okWide_slice Try.underlying44 (hval 3 44 v3 rfl rfl)
  obtain ⟨l3, ll3, lq3, lr3, ls3⟩ := open_nums (B := 8) hsz (j := 3) (t := 44) rfl rfl Try.underlying44 Try.underlying2 (by kernel_rfl) (by kernel_rfl) k3 lt3
  have k4 := h4
  have lt4 : ∀ x ∈ p4, x.block < W.heap.size := by obtain ⟨m, hm⟩ := k4; exact DataW.trod_lt m _ _ _ hm
  obtain ⟨a4, len4, cap4, rfl⟩ := okWide_slice Try.underlying30 (hval 4 30 v4 rfl rfl)
  obtain ⟨l4, ll4, lq4, lr4, ls4⟩ := open_list (α := Int × Int) (Q := fun x => (-9223372036854775808 ≤ x.1 ∧ x.1 ≤ 9223372036854775807) ∧ (-9223372036854775808 ≤ x.2 ∧ x.2 ≤ 9223372036854775807)) (B := 16) (fun x => [.int .i64 x.1, .int .i64 x.2]) hsz (j := 4) (t := 30) rfl rfl Try.underlying30 Try.underlying34 (by kernel_rfl) (by kernel_rfl) (by kernel_rfl) (fun _ => rfl) (by decide) (by
    intro n ys f hf
    obtain ⟨v0, y0, g0, _, t0⟩ := hf 0 _ rfl
    obtain ⟨v1, y1, g1, _, t1⟩ := hf 1 _ rfl
    obtain ⟨b0, e0, _, u0⟩ := DataW.trod_int Try.underlying2 t0
    simp at e0
    subst e0
    obtain ⟨b1, e1, _, u1⟩ := DataW.trod_int Try.underlying3 t1
    simp at e1
    subst e1
    refine ⟨(b0, b1), ⟨bounds_i64 u0, bounds_i64 u1⟩, fun j u hu => ?_⟩
    match j, hu with
    | 0, hu => simp at hu; subst hu; exact g0
    | 1, hu => simp at hu; subst hu; exact g1) k4 lt4
  clear hA0 hval0 hsz0 hsz
  refine (leapTells_walk a0 len0 cap0 l0 a1 a2 a3 len3 cap3 l3 a4 len4 cap4 l4 W (open_cap Try.underlying30 k0) lr0 ll0 ls0 lq0 (bounds_i64 w1) (bounds_i64 w2) lr3 ll3 ls3 (fun x hx => bounds_i64 (lq3 x hx)) lr4 ll4 ls4 lq4).mono fun e W' ⟨he, hst⟩ => ?_
  subst he
  have bel : Below W.heap.size W W' := hst.below (Nat.le_refl _) (by simp)
  exact ⟨_, rfl, _, _, _, [], _, [], hW', trodAll_mk1 (shut_bool (by first | exact Try.underlying4 | exact Try.underlying3 | exact Try.underlying5 | exact Try.underlying6 | exact Try.underlying2) _), (trodAll_cons_mk (Below.trod laidOut (by kernel_rfl) (of_decide_eq_true (by kernel_rfl)) k0 bel lt0) (trodAll_cons_mk (shut_int Try.underlying2 w1) (trodAll_cons_mk (shut_int Try.underlying3 w2) (trodAll_cons_mk (Below.trod laidOut (by kernel_rfl) (of_decide_eq_true (by kernel_rfl)) k3 bel lt3) (trodAll_cons_mk (Below.trod laidOut (by kernel_rfl) (of_decide_eq_true (by kernel_rfl)) k4 bel lt4) trodAll_mk0))))), rfl, bel.frame _, fun h => by cases h⟩
theorem over : Rows.leapTellsRow.holds Try.pinned (OpenSpec.ofChange Rows.leapTellsSpec) :=
  OpenClaim.holds_of_wide 7 Try.f7 rfl rfl rfl rfl rfl rfl rfl ⟨rfl, rfl, rfl, rfl, rfl⟩ rfl rfl rfl rfl rfl (by kernel_rfl) Try.func7 (by kernel_rfl)
    (of_decide_eq_true (by kernel_rfl)) (by unfold Func.isWrapper; first | (rw [if_pos (by decide +kernel)]; kernel_rfl) | (rw [if_neg (by decide +kernel)]; exact ⟨rfl, rfl⟩))
    (fun os started H enc _ => lifted os started H enc)
theorem proved : Rows.LeapTellsSaid := over
end Go.Proofs.Ytkdpndoamepcbaa.leapTells
namespace Go.Proofs.Ytkdpndoamepcbaa
/-- The row, under a short name, for the claim. -/
theorem leapTells_holds : Rows.LeapTellsSaid := leapTells.proved
end Go.Proofs.Ytkdpndoamepcbaa
#print axioms Go.Proofs.Ytkdpndoamepcbaa.leapTells_holds
