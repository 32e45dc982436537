/-
  No cell of these rows narrows 'for every input' (looked for: loops, veiled, ifaces, maps, wideKeys, modest, calm, conditions, laid).
  DERIVED. THE GIVEN ROWS OF THIS SEAT. 5 by the template 'for every input the law returns true; each argument reads behind the call as it read before'; 0 by the template 'total and deterministic' (their statements: YtkohpeonnoegpaaTotals.lean).
  GIVEN WITH THE SEED: the statements are not yours to turn. If you find one false, say at which input.
  Laid BY PROGRAM, IN A SANDBOX (cutbox-rows.mjs): the forced cells as the released guide's own fill.sh prints them over the translation 29aabd390da39d49… (all of the seat's roots in one cut). By AI agents, Wed Nov 11 2026. No macro, syntax, notation, axiom, sorry.
-/
import Derived.Test.YtkohpeonnoegpaaChecked
import GoSem.Claim
import GoSem.ClaimJoined
import GoSem.ClaimMapViews
import Derived.JoinedTies
import Derived.KernelRfl
namespace Go.Proofs.Ytkohpeonnoegpaa
/- THE CELL 'sum', in the pinned program and in every row, IS THE sha256 OF THE DUMP (.gsa) THAT YtkohpeonnoegpaaProg.lean LOADS. Nothing in Lean hashes anything: it is a label: what it is worth is what the hold of that sum in a sandbox is worth. -/
noncomputable def Try.pinned : Pinned := { name := "ytkohpeonnoegpaa", sum := "29aabd390da39d49ae6e2640909b1d25e304b3109d4fdb3b4b93723aa24a3b5a", checked := Try.checked }
namespace Rows
def none {H : Type} : Left H := { results := [], args := [] }

/-- 'ephemerislaw26.LoopLeft': WHATEVER THE INPUT: true; the input reads as it did. -/
def loopLeftSpec : ChangeSpec := { name := "loopLeft", fn := fun _ => fun
  | [d1, d2] => { results := [.lit (.bool true)], args := [d1, d2] }
  | _ => none }
def loopLeftRow : OpenClaim := { program := "ytkohpeonnoegpaa", sum := "29aabd390da39d49ae6e2640909b1d25e304b3109d4fdb3b4b93723aa24a3b5a", func := "ephemeris/ephemerislaw26.LoopLeft", spec := "loopLeft", unfollowed := true, recurses := true, named := ["math/bits.divideError", "math/bits.overflowError"], apart := false }
def LoopLeftSaid : Prop := loopLeftRow.holds Try.pinned (OpenSpec.ofChange loopLeftSpec)

/-- ITS FALSE NEIGHBOUR: 'it returns false'. Refute it at one input. -/
def loopLeftWrong : ChangeSpec := { name := "loopLeft", fn := fun _ => fun
  | [d1, d2] => { results := [.lit (.bool false)], args := [d1, d2] }
  | _ => none }
def LoopLeftWrongFalsely : Prop := loopLeftRow.holds Try.pinned (OpenSpec.ofChange loopLeftWrong)

/-- 'ephemerislaw26.LoopComes': WHATEVER THE INPUT: true; the input reads as it did. -/
def loopComesSpec : ChangeSpec := { name := "loopComes", fn := fun _ => fun
  | [d1, d2] => { results := [.lit (.bool true)], args := [d1, d2] }
  | _ => none }
def loopComesRow : OpenClaim := { program := "ytkohpeonnoegpaa", sum := "29aabd390da39d49ae6e2640909b1d25e304b3109d4fdb3b4b93723aa24a3b5a", func := "ephemeris/ephemerislaw26.LoopComes", spec := "loopComes", unfollowed := true, recurses := true, named := ["math/bits.divideError", "math/bits.overflowError"], apart := false }
def LoopComesSaid : Prop := loopComesRow.holds Try.pinned (OpenSpec.ofChange loopComesSpec)

/-- ITS FALSE NEIGHBOUR: 'it returns false'. Refute it at one input. -/
def loopComesWrong : ChangeSpec := { name := "loopComes", fn := fun _ => fun
  | [d1, d2] => { results := [.lit (.bool false)], args := [d1, d2] }
  | _ => none }
def LoopComesWrongFalsely : Prop := loopComesRow.holds Try.pinned (OpenSpec.ofChange loopComesWrong)

/-- 'ephemerislaw26.LoopBounds': WHATEVER THE INPUT: true; the input reads as it did. -/
def loopBoundsSpec : ChangeSpec := { name := "loopBounds", fn := fun _ => fun
  | [d] => { results := [.lit (.bool true)], args := [d] }
  | _ => none }
def loopBoundsRow : OpenClaim := { program := "ytkohpeonnoegpaa", sum := "29aabd390da39d49ae6e2640909b1d25e304b3109d4fdb3b4b93723aa24a3b5a", func := "ephemeris/ephemerislaw26.LoopBounds", spec := "loopBounds", unfollowed := true, recurses := true, named := ["math/bits.divideError", "math/bits.overflowError"], apart := false }
def LoopBoundsSaid : Prop := loopBoundsRow.holds Try.pinned (OpenSpec.ofChange loopBoundsSpec)

/-- ITS FALSE NEIGHBOUR: 'it returns false'. Refute it at one input. -/
def loopBoundsWrong : ChangeSpec := { name := "loopBounds", fn := fun _ => fun
  | [d] => { results := [.lit (.bool false)], args := [d] }
  | _ => none }
def LoopBoundsWrongFalsely : Prop := loopBoundsRow.holds Try.pinned (OpenSpec.ofChange loopBoundsWrong)

/-- 'ephemerislaw26.LoopTells': WHATEVER THE INPUT: true; the input reads as it did. -/
def loopTellsSpec : ChangeSpec := { name := "loopTells", fn := fun _ => fun
  | [d] => { results := [.lit (.bool true)], args := [d] }
  | _ => none }
def loopTellsRow : OpenClaim := { program := "ytkohpeonnoegpaa", sum := "29aabd390da39d49ae6e2640909b1d25e304b3109d4fdb3b4b93723aa24a3b5a", func := "ephemeris/ephemerislaw26.LoopTells", spec := "loopTells", unfollowed := true, recurses := true, named := ["math/bits.divideError", "math/bits.overflowError"], apart := false }
def LoopTellsSaid : Prop := loopTellsRow.holds Try.pinned (OpenSpec.ofChange loopTellsSpec)

/-- ITS FALSE NEIGHBOUR: 'it returns false'. Refute it at one input. -/
def loopTellsWrong : ChangeSpec := { name := "loopTells", fn := fun _ => fun
  | [d] => { results := [.lit (.bool false)], args := [d] }
  | _ => none }
def LoopTellsWrongFalsely : Prop := loopTellsRow.holds Try.pinned (OpenSpec.ofChange loopTellsWrong)

/-- 'ephemerislaw26.LoopKnown': WHATEVER THE INPUT: true; the input reads as it did. -/
def loopKnownSpec : ChangeSpec := { name := "loopKnown", fn := fun _ => fun
  | [] => { results := [.lit (.bool true)], args := [] }
  | _ => none }
def loopKnownRow : OpenClaim := { program := "ytkohpeonnoegpaa", sum := "29aabd390da39d49ae6e2640909b1d25e304b3109d4fdb3b4b93723aa24a3b5a", func := "ephemeris/ephemerislaw26.LoopKnown", spec := "loopKnown", unfollowed := true, recurses := true, named := ["math/bits.divideError", "math/bits.overflowError"], apart := false }
def LoopKnownSaid : Prop := loopKnownRow.holds Try.pinned (OpenSpec.ofChange loopKnownSpec)

/-- ITS FALSE NEIGHBOUR: 'it returns false'. Refute it at one input. -/
def loopKnownWrong : ChangeSpec := { name := "loopKnown", fn := fun _ => fun
  | [] => { results := [.lit (.bool false)], args := [] }
  | _ => none }
def LoopKnownWrongFalsely : Prop := loopKnownRow.holds Try.pinned (OpenSpec.ofChange loopKnownWrong)

/- THE SECOND FORM. 'bulk': how many values and letters a reading holds, each counted each time it is reached (what is shared counts as often as it is met; a slice's spare places count too). A statement '..UptoSaid' is the law's where the arguments, and the package variables that the reading takes, are together of bulk at most 1048576: NARROWER than '..Said'. Prove '..Said' where nothing that the law and all that it calls make is longer than what came in: it says more and counts as full. Else prove '..UptoSaid'. A law counts once. -/
mutual
def uptoBulk {H : Type} : DataW H → Nat
  | .lit (.string bytes) => bytes.length + 1
  | .lit _ => 1
  | .nil => 1
  | .ptr d => uptoBulk d + 1
  | .slice elems spare => uptoBulkAll elems + uptoBulkAll spare + 1
  | .agg parts => uptoBulkAll parts + 1
  | .iface _ d => uptoBulk d + 1
  | .map entries => uptoBulkEntries entries + 1
  | .held _ => 1
def uptoBulkAll {H : Type} : List (DataW H) → Nat
  | [] => 0
  | d :: r => uptoBulk d + uptoBulkAll r
def uptoBulkEntries {H : Type} : List (Lit × DataW H) → Nat
  | [] => 0
  | x :: r => uptoBulkEntry x + uptoBulkEntries r
def uptoBulkEntry {H : Type} : Lit × DataW H → Nat
  | (.string bytes, d) => bytes.length + uptoBulk d + 1
  | (_, d) => uptoBulk d + 1
 end
def uptoSmall : (H : Type) → List (DataW H) → Bool := fun _ ds => decide (uptoBulkAll ds ≤ 1048576)
def OpenSpec.upto (s : _root_.Go.ChangeSpec) : _root_.Go.OpenSpec := { _root_.Go.OpenSpec.ofChange s with cond := some uptoSmall }

/-- 'ephemerislaw26.LoopLeft', WHERE WHAT IT READS IS OF BULK AT MOST 1048576: true; the input reads as it did. -/
def loopLeftUptoRow : OpenClaim := { program := "ytkohpeonnoegpaa", sum := "29aabd390da39d49ae6e2640909b1d25e304b3109d4fdb3b4b93723aa24a3b5a", func := "ephemeris/ephemerislaw26.LoopLeft", spec := "loopLeft", unfollowed := true, recurses := true, named := ["math/bits.divideError", "math/bits.overflowError"], apart := false, narrowed := true }
def LoopLeftUptoSaid : Prop := loopLeftUptoRow.holds Try.pinned (OpenSpec.upto loopLeftSpec)

/-- 'ephemerislaw26.LoopComes', WHERE WHAT IT READS IS OF BULK AT MOST 1048576: true; the input reads as it did. -/
def loopComesUptoRow : OpenClaim := { program := "ytkohpeonnoegpaa", sum := "29aabd390da39d49ae6e2640909b1d25e304b3109d4fdb3b4b93723aa24a3b5a", func := "ephemeris/ephemerislaw26.LoopComes", spec := "loopComes", unfollowed := true, recurses := true, named := ["math/bits.divideError", "math/bits.overflowError"], apart := false, narrowed := true }
def LoopComesUptoSaid : Prop := loopComesUptoRow.holds Try.pinned (OpenSpec.upto loopComesSpec)

/-- 'ephemerislaw26.LoopBounds', WHERE WHAT IT READS IS OF BULK AT MOST 1048576: true; the input reads as it did. -/
def loopBoundsUptoRow : OpenClaim := { program := "ytkohpeonnoegpaa", sum := "29aabd390da39d49ae6e2640909b1d25e304b3109d4fdb3b4b93723aa24a3b5a", func := "ephemeris/ephemerislaw26.LoopBounds", spec := "loopBounds", unfollowed := true, recurses := true, named := ["math/bits.divideError", "math/bits.overflowError"], apart := false, narrowed := true }
def LoopBoundsUptoSaid : Prop := loopBoundsUptoRow.holds Try.pinned (OpenSpec.upto loopBoundsSpec)

/-- 'ephemerislaw26.LoopTells', WHERE WHAT IT READS IS OF BULK AT MOST 1048576: true; the input reads as it did. -/
def loopTellsUptoRow : OpenClaim := { program := "ytkohpeonnoegpaa", sum := "29aabd390da39d49ae6e2640909b1d25e304b3109d4fdb3b4b93723aa24a3b5a", func := "ephemeris/ephemerislaw26.LoopTells", spec := "loopTells", unfollowed := true, recurses := true, named := ["math/bits.divideError", "math/bits.overflowError"], apart := false, narrowed := true }
def LoopTellsUptoSaid : Prop := loopTellsUptoRow.holds Try.pinned (OpenSpec.upto loopTellsSpec)

/-- 'ephemerislaw26.LoopKnown', WHERE WHAT IT READS IS OF BULK AT MOST 1048576: true; the input reads as it did. -/
def loopKnownUptoRow : OpenClaim := { program := "ytkohpeonnoegpaa", sum := "29aabd390da39d49ae6e2640909b1d25e304b3109d4fdb3b4b93723aa24a3b5a", func := "ephemeris/ephemerislaw26.LoopKnown", spec := "loopKnown", unfollowed := true, recurses := true, named := ["math/bits.divideError", "math/bits.overflowError"], apart := false, narrowed := true }
def LoopKnownUptoSaid : Prop := loopKnownUptoRow.holds Try.pinned (OpenSpec.upto loopKnownSpec)

end Rows
end Go.Proofs.Ytkohpeonnoegpaa
