/-
  No cell of these rows narrows 'for every input' (looked for: loops, veiled, ifaces, maps, wideKeys, modest, calm, conditions, laid).
  DERIVED. THE GIVEN ROWS OF THIS SEAT. 7 by the template 'for every input the law returns true; each argument reads behind the call as it read before'; 0 by the template 'total and deterministic' (their statements: YtmfjknpkogebmaaTotals.lean).
  GIVEN WITH THE SEED: the statements are not yours to turn. If you find one false, say at which input.
  Laid BY PROGRAM, IN A SANDBOX (cutbox-rows.mjs): the forced cells as the released guide's own fill.sh prints them over the translation c3bf7465867dd8de… (all of the seat's roots in one cut). By AI agents, Wed Nov 11 2026. No macro, syntax, notation, axiom, sorry.
-/
import Derived.Test.YtmfjknpkogebmaaChecked
import GoSem.Claim
import GoSem.ClaimJoined
import GoSem.ClaimMapViews
import Derived.JoinedTies
import Derived.KernelRfl
namespace Go.Proofs.Ytmfjknpkogebmaa
/- THE CELL 'sum', in the pinned program and in every row, IS THE sha256 OF THE DUMP (.gsa) THAT YtmfjknpkogebmaaProg.lean LOADS. Nothing in Lean hashes anything: it is a label: what it is worth is what the hold of that sum in a sandbox is worth. -/
noncomputable def Try.pinned : Pinned := { name := "ytmfjknpkogebmaa", sum := "c3bf7465867dd8de0fc3edc01c518d1daae9c023f959d6a23a93077b1967cd74", checked := Try.checked }
namespace Rows
def none {H : Type} : Left H := { results := [], args := [] }

/-- 'ephemerislaw11.MonoMirror': WHATEVER THE INPUT: true; the input reads as it did. -/
def monoMirrorSpec : ChangeSpec := { name := "monoMirror", fn := fun _ => fun
  | [d1, d2, d3] => { results := [.lit (.bool true)], args := [d1, d2, d3] }
  | _ => none }
def monoMirrorRow : OpenClaim := { program := "ytmfjknpkogebmaa", sum := "c3bf7465867dd8de0fc3edc01c518d1daae9c023f959d6a23a93077b1967cd74", func := "ephemeris/ephemerislaw11.MonoMirror", spec := "monoMirror", unfollowed := true, recurses := true, named := ["math/bits.divideError", "math/bits.overflowError"], apart := false }
def MonoMirrorSaid : Prop := monoMirrorRow.holds Try.pinned (OpenSpec.ofChange monoMirrorSpec)

/-- ITS FALSE NEIGHBOUR: 'it returns false'. Refute it at one input. -/
def monoMirrorWrong : ChangeSpec := { name := "monoMirror", fn := fun _ => fun
  | [d1, d2, d3] => { results := [.lit (.bool false)], args := [d1, d2, d3] }
  | _ => none }
def MonoMirrorWrongFalsely : Prop := monoMirrorRow.holds Try.pinned (OpenSpec.ofChange monoMirrorWrong)

/-- 'ephemerislaw11.MonoForward': WHATEVER THE INPUT: true; the input reads as it did. -/
def monoForwardSpec : ChangeSpec := { name := "monoForward", fn := fun _ => fun
  | [d] => { results := [.lit (.bool true)], args := [d] }
  | _ => none }
def monoForwardRow : OpenClaim := { program := "ytmfjknpkogebmaa", sum := "c3bf7465867dd8de0fc3edc01c518d1daae9c023f959d6a23a93077b1967cd74", func := "ephemeris/ephemerislaw11.MonoForward", spec := "monoForward", unfollowed := true, recurses := true, named := ["math/bits.divideError", "math/bits.overflowError"], apart := false }
def MonoForwardSaid : Prop := monoForwardRow.holds Try.pinned (OpenSpec.ofChange monoForwardSpec)

/-- ITS FALSE NEIGHBOUR: 'it returns false'. Refute it at one input. -/
def monoForwardWrong : ChangeSpec := { name := "monoForward", fn := fun _ => fun
  | [d] => { results := [.lit (.bool false)], args := [d] }
  | _ => none }
def MonoForwardWrongFalsely : Prop := monoForwardRow.holds Try.pinned (OpenSpec.ofChange monoForwardWrong)

/-- 'ephemerislaw11.MonoParts': WHATEVER THE INPUT: true; the input reads as it did. -/
def monoPartsSpec : ChangeSpec := { name := "monoParts", fn := fun _ => fun
  | [d1, d2] => { results := [.lit (.bool true)], args := [d1, d2] }
  | _ => none }
def monoPartsRow : OpenClaim := { program := "ytmfjknpkogebmaa", sum := "c3bf7465867dd8de0fc3edc01c518d1daae9c023f959d6a23a93077b1967cd74", func := "ephemeris/ephemerislaw11.MonoParts", spec := "monoParts", unfollowed := true, recurses := true, named := ["math/bits.divideError", "math/bits.overflowError"], apart := false }
def MonoPartsSaid : Prop := monoPartsRow.holds Try.pinned (OpenSpec.ofChange monoPartsSpec)

/-- ITS FALSE NEIGHBOUR: 'it returns false'. Refute it at one input. -/
def monoPartsWrong : ChangeSpec := { name := "monoParts", fn := fun _ => fun
  | [d1, d2] => { results := [.lit (.bool false)], args := [d1, d2] }
  | _ => none }
def MonoPartsWrongFalsely : Prop := monoPartsRow.holds Try.pinned (OpenSpec.ofChange monoPartsWrong)

/-- 'ephemerislaw11.MonoPlays': WHATEVER THE INPUT: true; the input reads as it did. -/
def monoPlaysSpec : ChangeSpec := { name := "monoPlays", fn := fun _ => fun
  | [d] => { results := [.lit (.bool true)], args := [d] }
  | _ => none }
def monoPlaysRow : OpenClaim := { program := "ytmfjknpkogebmaa", sum := "c3bf7465867dd8de0fc3edc01c518d1daae9c023f959d6a23a93077b1967cd74", func := "ephemeris/ephemerislaw11.MonoPlays", spec := "monoPlays", unfollowed := true, recurses := true, named := ["math/bits.divideError", "math/bits.overflowError"], apart := false }
def MonoPlaysSaid : Prop := monoPlaysRow.holds Try.pinned (OpenSpec.ofChange monoPlaysSpec)

/-- ITS FALSE NEIGHBOUR: 'it returns false'. Refute it at one input. -/
def monoPlaysWrong : ChangeSpec := { name := "monoPlays", fn := fun _ => fun
  | [d] => { results := [.lit (.bool false)], args := [d] }
  | _ => none }
def MonoPlaysWrongFalsely : Prop := monoPlaysRow.holds Try.pinned (OpenSpec.ofChange monoPlaysWrong)

/-- 'ephemerislaw11.MonoAhead': WHATEVER THE INPUT: true; the input reads as it did. -/
def monoAheadSpec : ChangeSpec := { name := "monoAhead", fn := fun _ => fun
  | [d1, d2] => { results := [.lit (.bool true)], args := [d1, d2] }
  | _ => none }
def monoAheadRow : OpenClaim := { program := "ytmfjknpkogebmaa", sum := "c3bf7465867dd8de0fc3edc01c518d1daae9c023f959d6a23a93077b1967cd74", func := "ephemeris/ephemerislaw11.MonoAhead", spec := "monoAhead", unfollowed := true, recurses := true, named := ["math/bits.divideError", "math/bits.overflowError"], apart := false }
def MonoAheadSaid : Prop := monoAheadRow.holds Try.pinned (OpenSpec.ofChange monoAheadSpec)

/-- ITS FALSE NEIGHBOUR: 'it returns false'. Refute it at one input. -/
def monoAheadWrong : ChangeSpec := { name := "monoAhead", fn := fun _ => fun
  | [d1, d2] => { results := [.lit (.bool false)], args := [d1, d2] }
  | _ => none }
def MonoAheadWrongFalsely : Prop := monoAheadRow.holds Try.pinned (OpenSpec.ofChange monoAheadWrong)

/-- 'ephemerislaw11.MonoUntil': WHATEVER THE INPUT: true; the input reads as it did. -/
def monoUntilSpec : ChangeSpec := { name := "monoUntil", fn := fun _ => fun
  | [d1, d2, d3] => { results := [.lit (.bool true)], args := [d1, d2, d3] }
  | _ => none }
def monoUntilRow : OpenClaim := { program := "ytmfjknpkogebmaa", sum := "c3bf7465867dd8de0fc3edc01c518d1daae9c023f959d6a23a93077b1967cd74", func := "ephemeris/ephemerislaw11.MonoUntil", spec := "monoUntil", unfollowed := true, recurses := true, named := ["math/bits.divideError", "math/bits.overflowError"], apart := false }
def MonoUntilSaid : Prop := monoUntilRow.holds Try.pinned (OpenSpec.ofChange monoUntilSpec)

/-- ITS FALSE NEIGHBOUR: 'it returns false'. Refute it at one input. -/
def monoUntilWrong : ChangeSpec := { name := "monoUntil", fn := fun _ => fun
  | [d1, d2, d3] => { results := [.lit (.bool false)], args := [d1, d2, d3] }
  | _ => none }
def MonoUntilWrongFalsely : Prop := monoUntilRow.holds Try.pinned (OpenSpec.ofChange monoUntilWrong)

/-- 'ephemerislaw11.MonoKnown': WHATEVER THE INPUT: true; the input reads as it did. -/
def monoKnownSpec : ChangeSpec := { name := "monoKnown", fn := fun _ => fun
  | [] => { results := [.lit (.bool true)], args := [] }
  | _ => none }
def monoKnownRow : OpenClaim := { program := "ytmfjknpkogebmaa", sum := "c3bf7465867dd8de0fc3edc01c518d1daae9c023f959d6a23a93077b1967cd74", func := "ephemeris/ephemerislaw11.MonoKnown", spec := "monoKnown", unfollowed := true, recurses := true, named := ["math/bits.divideError", "math/bits.overflowError"], apart := false }
def MonoKnownSaid : Prop := monoKnownRow.holds Try.pinned (OpenSpec.ofChange monoKnownSpec)

/-- ITS FALSE NEIGHBOUR: 'it returns false'. Refute it at one input. -/
def monoKnownWrong : ChangeSpec := { name := "monoKnown", fn := fun _ => fun
  | [] => { results := [.lit (.bool false)], args := [] }
  | _ => none }
def MonoKnownWrongFalsely : Prop := monoKnownRow.holds Try.pinned (OpenSpec.ofChange monoKnownWrong)

/- THE SECOND FORM. 'bulk': how many values and letters a reading holds, each counted each time it is reached (what is shared counts as often as it is met; a slice's spare places count too). A statement '..UptoSaid' is the law's where the arguments, and the package variables that the reading takes, are together of bulk at most 1048576: NARROWER than '..Said'. Prove '..Said' where nothing that the law and all that it calls make is longer than what came in: it says more and counts as full. Else prove '..UptoSaid'. A law counts once. -/
mutual
def uptoBulk {H : Type} : DataW H → Nat
  | .lit (.string bytes) => bytes.length + 1
  | .lit _ => 1
  | .nil => 1
  | .ptr d => uptoBulk d + 1
  | .slice elems spare => uptoBulkAll elems + uptoBulkAll spare + 1
  | .agg parts => uptoBulkAll parts + 1
  | .iface _ d => uptoBulk d + 1
  | .map entries => uptoBulkEntries entries + 1
  | .held _ => 1
def uptoBulkAll {H : Type} : List (DataW H) → Nat
  | [] => 0
  | d :: r => uptoBulk d + uptoBulkAll r
def uptoBulkEntries {H : Type} : List (Lit × DataW H) → Nat
  | [] => 0
  | x :: r => uptoBulkEntry x + uptoBulkEntries r
def uptoBulkEntry {H : Type} : Lit × DataW H → Nat
  | (.string bytes, d) => bytes.length + uptoBulk d + 1
  | (_, d) => uptoBulk d + 1
 end
def uptoSmall : (H : Type) → List (DataW H) → Bool := fun _ ds => decide (uptoBulkAll ds ≤ 1048576)
def OpenSpec.upto (s : _root_.Go.ChangeSpec) : _root_.Go.OpenSpec := { _root_.Go.OpenSpec.ofChange s with cond := some uptoSmall }

/-- 'ephemerislaw11.MonoMirror', WHERE WHAT IT READS IS OF BULK AT MOST 1048576: true; the input reads as it did. -/
def monoMirrorUptoRow : OpenClaim := { program := "ytmfjknpkogebmaa", sum := "c3bf7465867dd8de0fc3edc01c518d1daae9c023f959d6a23a93077b1967cd74", func := "ephemeris/ephemerislaw11.MonoMirror", spec := "monoMirror", unfollowed := true, recurses := true, named := ["math/bits.divideError", "math/bits.overflowError"], apart := false, narrowed := true }
def MonoMirrorUptoSaid : Prop := monoMirrorUptoRow.holds Try.pinned (OpenSpec.upto monoMirrorSpec)

/-- 'ephemerislaw11.MonoForward', WHERE WHAT IT READS IS OF BULK AT MOST 1048576: true; the input reads as it did. -/
def monoForwardUptoRow : OpenClaim := { program := "ytmfjknpkogebmaa", sum := "c3bf7465867dd8de0fc3edc01c518d1daae9c023f959d6a23a93077b1967cd74", func := "ephemeris/ephemerislaw11.MonoForward", spec := "monoForward", unfollowed := true, recurses := true, named := ["math/bits.divideError", "math/bits.overflowError"], apart := false, narrowed := true }
def MonoForwardUptoSaid : Prop := monoForwardUptoRow.holds Try.pinned (OpenSpec.upto monoForwardSpec)

/-- 'ephemerislaw11.MonoParts', WHERE WHAT IT READS IS OF BULK AT MOST 1048576: true; the input reads as it did. -/
def monoPartsUptoRow : OpenClaim := { program := "ytmfjknpkogebmaa", sum := "c3bf7465867dd8de0fc3edc01c518d1daae9c023f959d6a23a93077b1967cd74", func := "ephemeris/ephemerislaw11.MonoParts", spec := "monoParts", unfollowed := true, recurses := true, named := ["math/bits.divideError", "math/bits.overflowError"], apart := false, narrowed := true }
def MonoPartsUptoSaid : Prop := monoPartsUptoRow.holds Try.pinned (OpenSpec.upto monoPartsSpec)

/-- 'ephemerislaw11.MonoPlays', WHERE WHAT IT READS IS OF BULK AT MOST 1048576: true; the input reads as it did. -/
def monoPlaysUptoRow : OpenClaim := { program := "ytmfjknpkogebmaa", sum := "c3bf7465867dd8de0fc3edc01c518d1daae9c023f959d6a23a93077b1967cd74", func := "ephemeris/ephemerislaw11.MonoPlays", spec := "monoPlays", unfollowed := true, recurses := true, named := ["math/bits.divideError", "math/bits.overflowError"], apart := false, narrowed := true }
def MonoPlaysUptoSaid : Prop := monoPlaysUptoRow.holds Try.pinned (OpenSpec.upto monoPlaysSpec)

/-- 'ephemerislaw11.MonoAhead', WHERE WHAT IT READS IS OF BULK AT MOST 1048576: true; the input reads as it did. -/
def monoAheadUptoRow : OpenClaim := { program := "ytmfjknpkogebmaa", sum := "c3bf7465867dd8de0fc3edc01c518d1daae9c023f959d6a23a93077b1967cd74", func := "ephemeris/ephemerislaw11.MonoAhead", spec := "monoAhead", unfollowed := true, recurses := true, named := ["math/bits.divideError", "math/bits.overflowError"], apart := false, narrowed := true }
def MonoAheadUptoSaid : Prop := monoAheadUptoRow.holds Try.pinned (OpenSpec.upto monoAheadSpec)

/-- 'ephemerislaw11.MonoUntil', WHERE WHAT IT READS IS OF BULK AT MOST 1048576: true; the input reads as it did. -/
def monoUntilUptoRow : OpenClaim := { program := "ytmfjknpkogebmaa", sum := "c3bf7465867dd8de0fc3edc01c518d1daae9c023f959d6a23a93077b1967cd74", func := "ephemeris/ephemerislaw11.MonoUntil", spec := "monoUntil", unfollowed := true, recurses := true, named := ["math/bits.divideError", "math/bits.overflowError"], apart := false, narrowed := true }
def MonoUntilUptoSaid : Prop := monoUntilUptoRow.holds Try.pinned (OpenSpec.upto monoUntilSpec)

/-- 'ephemerislaw11.MonoKnown', WHERE WHAT IT READS IS OF BULK AT MOST 1048576: true; the input reads as it did. -/
def monoKnownUptoRow : OpenClaim := { program := "ytmfjknpkogebmaa", sum := "c3bf7465867dd8de0fc3edc01c518d1daae9c023f959d6a23a93077b1967cd74", func := "ephemeris/ephemerislaw11.MonoKnown", spec := "monoKnown", unfollowed := true, recurses := true, named := ["math/bits.divideError", "math/bits.overflowError"], apart := false, narrowed := true }
def MonoKnownUptoSaid : Prop := monoKnownUptoRow.holds Try.pinned (OpenSpec.upto monoKnownSpec)

end Rows
end Go.Proofs.Ytmfjknpkogebmaa
