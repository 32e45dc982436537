/- The row of the law SmearTells, out of its walk. No condition of ours: every input. -/
import Derived.Test.YtbjjfjgomkmdhaaRows
import Derived.Test.YtbjjfjgomkmdhaaOpen
import Derived.Test.YtbjjfjgomkmdhaaOpenC
import Derived.Test.YtbjjfjgomkmdhaaSmearTells
import Derived.WalkKit
import Derived.ProofKit
import Derived.OpenShut
import Derived.ShutString
import Derived.ChangeOld
import Derived.Below
import Derived.SizedLaws
import Derived.Lib.SmallJoins
namespace Go.Proofs.Ytbjjfjgomkmdhaa.smearTells
open Go.ChangeShapes Go.WideShapes Go.ChangeAt Go.RowKit
open Go.ChangeMaps (open_string shut_string)
set_option linter.unusedVariables false
theorem own : ownKnob Try.prog.godebug = none := by kernel_rfl
theorem laidOut : laidOutB Try.prog = true := by kernel_rfl
set_option maxRecDepth 100000 in
theorem lifted (os : Os) (started : os.Started) (H : Type) (enc : TypeId × Value → H) :
    ReturnsInHanded {} Try.checked os 6 .any (Rows.smearTellsSpec.pre6 enc Try.prog Try.f6 Rows.smearTellsRow.domain false) (Rows.smearTellsSpec.post enc Try.prog Try.f6 false true false false) := by
  refine returnsInHanded_of_change_sized (C := Try.checked) own started (by kernel_rfl) Try.func6
    (ChangeSpec.witness6 (enc := enc) (C := Try.checked) false ⟨#[], #[.slice none 0 0, .slice none 0 0], []⟩ 8 (by kernel_rfl) (by kernel_rfl) (by kernel_rfl) (by kernel_rfl)) ?_
  intro W base args ds gs before hval0 hW hcnd hsz0 _
  have hsz : (DataW.weightsEach Try.prog (Try.f6.params.toList ++ Rows.smearTellsSpec.plain.varTypes Try.prog) (ds ++ gs)).all (· ≤ reachBytes) = true := hsz0
  have hval : ∀ (j : Nat) t v, Try.f6.params[j]? = some t → args[j]? = some v → Value.okWide Try.prog W .any base t v := hval0
  have hW' := hW
  obtain ⟨p, q, hA0, hV, rfl, hfz, hnd⟩ := hW
  have hA : DataW.TrodAll enc Try.prog W 0 (fun _ => true) true Try.f6.params.toList args.toList ds p := hA0
  rw [Try.params6] at hA hval hsz
  obtain ⟨v0, vs0, d0, ds0, p0, q0, hargs, rfl, rfl, h0, r0⟩ := trodAll_cons hA
  obtain ⟨v1, vs1, d1, ds1, p1, q1, rfl, rfl, rfl, h1, r1⟩ := trodAll_cons r0
  obtain ⟨rfl, rfl, rfl⟩ := trodAll_nil r1
  obtain rfl : args = #[v0, v1] := by cases args; simp_all
  obtain ⟨rfl, rfl⟩ := trodVars_none hV
  have k0 := h0
  have lt0 : ∀ x ∈ p0, x.block < W.heap.size := by obtain ⟨m, hm⟩ := k0; exact DataW.trod_lt m _ _ _ hm
  obtain ⟨a0, len0, cap0, rfl⟩ := okWide_slice Try.underlying24 (hval 0 24 v0 rfl rfl)
  obtain ⟨l0, ll0, lq0, lr0, ls0⟩ := open_list (α := Int × Int) (Q := fun x => (-9223372036854775808 ≤ x.1 ∧ x.1 ≤ 9223372036854775807) ∧ (-9223372036854775808 ≤ x.2 ∧ x.2 ≤ 9223372036854775807)) (B := 16) (fun x => [.int .i64 x.1, .int .i64 x.2]) hsz (j := 0) (t := 24) rfl rfl Try.underlying24 Try.underlying30 (by kernel_rfl) (by kernel_rfl) (by kernel_rfl) (fun _ => rfl) (by decide) (by
    intro n ys f hf
    obtain ⟨v0, y0, g0, _, t0⟩ := hf 0 _ rfl
    obtain ⟨v1, y1, g1, _, t1⟩ := hf 1 _ rfl
    obtain ⟨b0, e0, _, u0⟩ := DataW.trod_int Try.underlying2 t0
    simp at e0
    subst e0
    obtain ⟨b1, e1, _, u1⟩ := DataW.trod_int Try.underlying3 t1
    simp at e1
    subst e1
    refine ⟨(b0, b1), ⟨bounds_i64 u0, bounds_i64 u1⟩, fun j u hu => ?_⟩
    match j, hu with
    | 0, hu => simp at hu; subst hu; exact g0
    | 1, hu => simp at hu; subst hu; exact g1) k0 lt0
  have k1 := h1
  have lt1 : ∀ x ∈ p1, x.block < W.heap.size := by obtain ⟨m, hm⟩ := k1; exact DataW.trod_lt m _ _ _ hm
  obtain ⟨a1, len1, cap1, rfl⟩ := okWide_slice Try.underlying39 (hval 1 39 v1 rfl rfl)
  obtain ⟨l1, ll1, lq1, lr1, ls1⟩ := open_nums (B := 8) hsz (j := 1) (t := 39) rfl rfl Try.underlying39 Try.underlying2 (by kernel_rfl) (by kernel_rfl) k1 lt1
  clear hA0 hval0 hsz0 hsz
  refine (smearTells_walk a0 len0 cap0 l0 a1 len1 cap1 l1 W (open_cap Try.underlying24 k0) lr0 ll0 ls0 lq0 lr1 ll1 ls1 (fun x hx => bounds_i64 (lq1 x hx))).mono fun e W' ⟨he, hst⟩ => ?_
  subst he
  have bel : Below W.heap.size W W' := hst.below (Nat.le_refl _) (by simp)
  exact ⟨_, rfl, _, _, _, [], _, [], hW', trodAll_mk1 (shut_bool (by first | exact Try.underlying4 | exact Try.underlying3 | exact Try.underlying5 | exact Try.underlying6 | exact Try.underlying2) _), (trodAll_cons_mk (Below.trod laidOut (by kernel_rfl) (of_decide_eq_true (by kernel_rfl)) k0 bel lt0) (trodAll_cons_mk (Below.trod laidOut (by kernel_rfl) (of_decide_eq_true (by kernel_rfl)) k1 bel lt1) trodAll_mk0)), rfl, bel.frame _, fun h => by cases h⟩
theorem over : Rows.smearTellsRow.holds Try.pinned (OpenSpec.ofChange Rows.smearTellsSpec) :=
  OpenClaim.holds_of_wide 6 Try.f6 rfl rfl rfl rfl rfl rfl rfl ⟨rfl, rfl, rfl, rfl, rfl⟩ rfl rfl rfl rfl rfl (by kernel_rfl) Try.func6 (by kernel_rfl)
    (of_decide_eq_true (by kernel_rfl)) (by unfold Func.isWrapper; first | (rw [if_pos (by decide +kernel)]; kernel_rfl) | (rw [if_neg (by decide +kernel)]; exact ⟨rfl, rfl⟩))
    (fun os started H enc _ => lifted os started H enc)
theorem proved : Rows.SmearTellsSaid := over
end Go.Proofs.Ytbjjfjgomkmdhaa.smearTells
namespace Go.Proofs.Ytbjjfjgomkmdhaa
/-- The row, under a short name, for the claim. -/
theorem smearTells_holds : Rows.SmearTellsSaid := smearTells.proved
end Go.Proofs.Ytbjjfjgomkmdhaa
#print axioms Go.Proofs.Ytbjjfjgomkmdhaa.smearTells_holds
