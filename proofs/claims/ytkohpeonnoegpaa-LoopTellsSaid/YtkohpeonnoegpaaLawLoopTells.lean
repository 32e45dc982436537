/- The row of the law LoopTells, out of its walk. No condition of ours: every input. -/
import Derived.Test.YtkohpeonnoegpaaRows
import Derived.Test.YtkohpeonnoegpaaOpen
import Derived.Test.YtkohpeonnoegpaaLoopTells
import Derived.WalkKit
import Derived.ProofKit
import Derived.OpenShut
import Derived.ShutString
import Derived.ChangeOld
import Derived.Below
import Derived.SizedLaws
import Derived.Lib.SmallJoins
namespace Go.Proofs.Ytkohpeonnoegpaa.loopTells
open Go.ChangeShapes Go.WideShapes Go.ChangeAt Go.RowKit
open Go.ChangeMaps (open_string shut_string)
set_option linter.unusedVariables false
theorem own : ownKnob Try.prog.godebug = none := by kernel_rfl
theorem laidOut : laidOutB Try.prog = true := by kernel_rfl
set_option maxRecDepth 100000 in
theorem lifted (os : Os) (started : os.Started) (H : Type) (enc : TypeId × Value → H) :
    ReturnsInHanded {} Try.checked os 6 .any (Rows.loopTellsSpec.pre6 enc Try.prog Try.f6 Rows.loopTellsRow.domain false) (Rows.loopTellsSpec.post enc Try.prog Try.f6 false true false false) := by
  refine returnsInHanded_of_change_sized (C := Try.checked) own started (by kernel_rfl) Try.func6
    (ChangeSpec.witness6 (enc := enc) (C := Try.checked) false ⟨#[], #[.slice none 0 0], []⟩ 8 (by kernel_rfl) (by kernel_rfl) (by kernel_rfl) (by kernel_rfl)) ?_
  intro W base args ds gs before hval0 hW hcnd hsz0 _
  have hsz : (DataW.weightsEach Try.prog (Try.f6.params.toList ++ Rows.loopTellsSpec.plain.varTypes Try.prog) (ds ++ gs)).all (· ≤ reachBytes) = true := hsz0
  have hval : ∀ (j : Nat) t v, Try.f6.params[j]? = some t → args[j]? = some v → Value.okWide Try.prog W .any base t v := hval0
  have hW' := hW
  obtain ⟨p, q, hA0, hV, rfl, hfz, hnd⟩ := hW
  have hA : DataW.TrodAll enc Try.prog W 0 (fun _ => true) true Try.f6.params.toList args.toList ds p := hA0
  rw [Try.params6] at hA hval hsz
  obtain ⟨v0, vs0, d0, ds0, p0, q0, hargs, rfl, rfl, h0, r0⟩ := trodAll_cons hA
  obtain ⟨rfl, rfl, rfl⟩ := trodAll_nil r0
  obtain rfl : args = #[v0] := by cases args; simp_all
  obtain ⟨rfl, rfl⟩ := trodVars_none hV
  have k0 := h0
  have lt0 : ∀ x ∈ p0, x.block < W.heap.size := by obtain ⟨m, hm⟩ := k0; exact DataW.trod_lt m _ _ _ hm
  obtain ⟨a0, len0, cap0, rfl⟩ := okWide_slice Try.underlying33 (hval 0 33 v0 rfl rfl)
  obtain ⟨l0, ll0, lq0, lr0, ls0⟩ := open_list (α := Int × Int × Int × Int) (Q := fun x => (-9223372036854775808 ≤ x.1 ∧ x.1 ≤ 9223372036854775807) ∧ (-9223372036854775808 ≤ x.2.1 ∧ x.2.1 ≤ 9223372036854775807) ∧ (-9223372036854775808 ≤ x.2.2.1 ∧ x.2.2.1 ≤ 9223372036854775807) ∧ (-9223372036854775808 ≤ x.2.2.2 ∧ x.2.2.2 ≤ 9223372036854775807)) (B := 32) (fun x => [.int .i64 x.1, .int .i64 x.2.1, .int .i64 x.2.2.1, .int .i64 x.2.2.2]) hsz (j := 0) (t := 33) rfl rfl Try.underlying33 Try.underlying35 (by kernel_rfl) (by kernel_rfl) (by kernel_rfl) (fun _ => rfl) (by decide) (by
    intro n ys f hf
    obtain ⟨v0, y0, g0, _, t0⟩ := hf 0 _ rfl
    obtain ⟨v1, y1, g1, _, t1⟩ := hf 1 _ rfl
    obtain ⟨v2, y2, g2, _, t2⟩ := hf 2 _ rfl
    obtain ⟨v3, y3, g3, _, t3⟩ := hf 3 _ rfl
    obtain ⟨b0, e0, _, u0⟩ := DataW.trod_int Try.underlying3 t0
    simp at e0
    subst e0
    obtain ⟨b1, e1, _, u1⟩ := DataW.trod_int Try.underlying2 t1
    simp at e1
    subst e1
    obtain ⟨b2, e2, _, u2⟩ := DataW.trod_int Try.underlying2 t2
    simp at e2
    subst e2
    obtain ⟨b3, e3, _, u3⟩ := DataW.trod_int Try.underlying2 t3
    simp at e3
    subst e3
    refine ⟨(b0, b1, b2, b3), ⟨bounds_i64 u0, bounds_i64 u1, bounds_i64 u2, bounds_i64 u3⟩, fun j u hu => ?_⟩
    match j, hu with
    | 0, hu => simp at hu; subst hu; exact g0
    | 1, hu => simp at hu; subst hu; exact g1
    | 2, hu => simp at hu; subst hu; exact g2
    | 3, hu => simp at hu; subst hu; exact g3) k0 lt0
  clear hA0 hval0 hsz0 hsz
  refine (loopTells_walk a0 len0 cap0 l0 W lr0 ll0 ls0 lq0).mono fun e W' ⟨he, hst⟩ => ?_
  subst he
  have bel : Below W.heap.size W W' := hst.below (Nat.le_refl _) (by simp)
  exact ⟨_, rfl, _, _, _, [], _, [], hW', trodAll_mk1 (shut_bool (by first | exact Try.underlying4 | exact Try.underlying3 | exact Try.underlying5 | exact Try.underlying6 | exact Try.underlying2) _), (trodAll_cons_mk (Below.trod laidOut (by kernel_rfl) (of_decide_eq_true (by kernel_rfl)) k0 bel lt0) trodAll_mk0), rfl, bel.frame _, fun h => by cases h⟩
theorem over : Rows.loopTellsRow.holds Try.pinned (OpenSpec.ofChange Rows.loopTellsSpec) :=
  OpenClaim.holds_of_wide 6 Try.f6 rfl rfl rfl rfl rfl rfl rfl ⟨rfl, rfl, rfl, rfl, rfl⟩ rfl rfl rfl rfl rfl (by kernel_rfl) Try.func6 (by kernel_rfl)
    (of_decide_eq_true (by kernel_rfl)) (by unfold Func.isWrapper; first | (rw [if_pos (by decide +kernel)]; kernel_rfl) | (rw [if_neg (by decide +kernel)]; exact ⟨rfl, rfl⟩))
    (fun os started H enc _ => lifted os started H enc)
theorem proved : Rows.LoopTellsSaid := over
end Go.Proofs.Ytkohpeonnoegpaa.loopTells
namespace Go.Proofs.Ytkohpeonnoegpaa
/-- The row, under a short name, for the claim. -/
theorem loopTells_holds : Rows.LoopTellsSaid := loopTells.proved
end Go.Proofs.Ytkohpeonnoegpaa
#print axioms Go.Proofs.Ytkohpeonnoegpaa.loopTells_holds
