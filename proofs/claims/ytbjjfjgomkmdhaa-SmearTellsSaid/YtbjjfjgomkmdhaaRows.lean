/-
  No cell of these rows narrows 'for every input' (looked for: loops, veiled, ifaces, maps, wideKeys, modest, calm, conditions, laid).
  DERIVED. THE GIVEN ROWS OF THIS SEAT. 7 by the template 'for every input the law returns true; each argument reads behind the call as it read before'; 0 by the template 'total and deterministic' (their statements: YtbjjfjgomkmdhaaTotals.lean).
  GIVEN WITH THE SEED: the statements are not yours to turn. If you find one false, say at which input.
  Laid BY PROGRAM, IN A SANDBOX (cutbox-rows.mjs): the forced cells as the released guide's own fill.sh prints them over the translation 8165116db6e87328… (all of the seat's roots in one cut). By AI agents, Wed Nov 11 2026. No macro, syntax, notation, axiom, sorry.
-/
import Derived.Test.YtbjjfjgomkmdhaaChecked
import GoSem.Claim
import GoSem.ClaimJoined
import GoSem.ClaimMapViews
import Derived.JoinedTies
import Derived.KernelRfl
namespace Go.Proofs.Ytbjjfjgomkmdhaa
/- THE CELL 'sum', in the pinned program and in every row, IS THE sha256 OF THE DUMP (.gsa) THAT YtbjjfjgomkmdhaaProg.lean LOADS. Nothing in Lean hashes anything: it is a label: what it is worth is what the hold of that sum in a sandbox is worth. -/
noncomputable def Try.pinned : Pinned := { name := "ytbjjfjgomkmdhaa", sum := "8165116db6e87328941dcfb4b15d1fb1d8a241c05627f690a3e262c7d6845e4f", checked := Try.checked }
namespace Rows
def none {H : Type} : Left H := { results := [], args := [] }

/-- 'ephemerislaw15.SmearForward': WHATEVER THE INPUT: true; the input reads as it did. -/
def smearForwardSpec : ChangeSpec := { name := "smearForward", fn := fun _ => fun
  | [d1, d2, d3] => { results := [.lit (.bool true)], args := [d1, d2, d3] }
  | _ => none }
def smearForwardRow : OpenClaim := { program := "ytbjjfjgomkmdhaa", sum := "8165116db6e87328941dcfb4b15d1fb1d8a241c05627f690a3e262c7d6845e4f", func := "ephemeris/ephemerislaw15.SmearForward", spec := "smearForward", unfollowed := true, recurses := true, named := ["math/bits.divideError", "math/bits.overflowError"], apart := false }
def SmearForwardSaid : Prop := smearForwardRow.holds Try.pinned (OpenSpec.ofChange smearForwardSpec)

/-- ITS FALSE NEIGHBOUR: 'it returns false'. Refute it at one input. -/
def smearForwardWrong : ChangeSpec := { name := "smearForward", fn := fun _ => fun
  | [d1, d2, d3] => { results := [.lit (.bool false)], args := [d1, d2, d3] }
  | _ => none }
def SmearForwardWrongFalsely : Prop := smearForwardRow.holds Try.pinned (OpenSpec.ofChange smearForwardWrong)

/-- 'ephemerislaw15.SmearDays': WHATEVER THE INPUT: true; the input reads as it did. -/
def smearDaysSpec : ChangeSpec := { name := "smearDays", fn := fun _ => fun
  | [d1, d2] => { results := [.lit (.bool true)], args := [d1, d2] }
  | _ => none }
def smearDaysRow : OpenClaim := { program := "ytbjjfjgomkmdhaa", sum := "8165116db6e87328941dcfb4b15d1fb1d8a241c05627f690a3e262c7d6845e4f", func := "ephemeris/ephemerislaw15.SmearDays", spec := "smearDays", unfollowed := true, recurses := true, named := ["math/bits.divideError", "math/bits.overflowError"], apart := false }
def SmearDaysSaid : Prop := smearDaysRow.holds Try.pinned (OpenSpec.ofChange smearDaysSpec)

/-- ITS FALSE NEIGHBOUR: 'it returns false'. Refute it at one input. -/
def smearDaysWrong : ChangeSpec := { name := "smearDays", fn := fun _ => fun
  | [d1, d2] => { results := [.lit (.bool false)], args := [d1, d2] }
  | _ => none }
def SmearDaysWrongFalsely : Prop := smearDaysRow.holds Try.pinned (OpenSpec.ofChange smearDaysWrong)

/-- 'ephemerislaw15.SmearMirror': WHATEVER THE INPUT: true; the input reads as it did. -/
def smearMirrorSpec : ChangeSpec := { name := "smearMirror", fn := fun _ => fun
  | [d1, d2] => { results := [.lit (.bool true)], args := [d1, d2] }
  | _ => none }
def smearMirrorRow : OpenClaim := { program := "ytbjjfjgomkmdhaa", sum := "8165116db6e87328941dcfb4b15d1fb1d8a241c05627f690a3e262c7d6845e4f", func := "ephemeris/ephemerislaw15.SmearMirror", spec := "smearMirror", unfollowed := true, recurses := true, named := ["math/bits.divideError", "math/bits.overflowError"], apart := false }
def SmearMirrorSaid : Prop := smearMirrorRow.holds Try.pinned (OpenSpec.ofChange smearMirrorSpec)

/-- ITS FALSE NEIGHBOUR: 'it returns false'. Refute it at one input. -/
def smearMirrorWrong : ChangeSpec := { name := "smearMirror", fn := fun _ => fun
  | [d1, d2] => { results := [.lit (.bool false)], args := [d1, d2] }
  | _ => none }
def SmearMirrorWrongFalsely : Prop := smearMirrorRow.holds Try.pinned (OpenSpec.ofChange smearMirrorWrong)

/-- 'ephemerislaw15.SmearTells': WHATEVER THE INPUT: true; the input reads as it did. -/
def smearTellsSpec : ChangeSpec := { name := "smearTells", fn := fun _ => fun
  | [d1, d2] => { results := [.lit (.bool true)], args := [d1, d2] }
  | _ => none }
def smearTellsRow : OpenClaim := { program := "ytbjjfjgomkmdhaa", sum := "8165116db6e87328941dcfb4b15d1fb1d8a241c05627f690a3e262c7d6845e4f", func := "ephemeris/ephemerislaw15.SmearTells", spec := "smearTells", unfollowed := true, recurses := true, named := ["math/bits.divideError", "math/bits.overflowError"], apart := false }
def SmearTellsSaid : Prop := smearTellsRow.holds Try.pinned (OpenSpec.ofChange smearTellsSpec)

/-- ITS FALSE NEIGHBOUR: 'it returns false'. Refute it at one input. -/
def smearTellsWrong : ChangeSpec := { name := "smearTells", fn := fun _ => fun
  | [d1, d2] => { results := [.lit (.bool false)], args := [d1, d2] }
  | _ => none }
def SmearTellsWrongFalsely : Prop := smearTellsRow.holds Try.pinned (OpenSpec.ofChange smearTellsWrong)

/-- 'ephemerislaw15.SmearBacks': WHATEVER THE INPUT: true; the input reads as it did. -/
def smearBacksSpec : ChangeSpec := { name := "smearBacks", fn := fun _ => fun
  | [d1, d2] => { results := [.lit (.bool true)], args := [d1, d2] }
  | _ => none }
def smearBacksRow : OpenClaim := { program := "ytbjjfjgomkmdhaa", sum := "8165116db6e87328941dcfb4b15d1fb1d8a241c05627f690a3e262c7d6845e4f", func := "ephemeris/ephemerislaw15.SmearBacks", spec := "smearBacks", unfollowed := true, recurses := true, named := ["math/bits.divideError", "math/bits.overflowError"], apart := false }
def SmearBacksSaid : Prop := smearBacksRow.holds Try.pinned (OpenSpec.ofChange smearBacksSpec)

/-- ITS FALSE NEIGHBOUR: 'it returns false'. Refute it at one input. -/
def smearBacksWrong : ChangeSpec := { name := "smearBacks", fn := fun _ => fun
  | [d1, d2] => { results := [.lit (.bool false)], args := [d1, d2] }
  | _ => none }
def SmearBacksWrongFalsely : Prop := smearBacksRow.holds Try.pinned (OpenSpec.ofChange smearBacksWrong)

/-- 'ephemerislaw15.SmearThere': WHATEVER THE INPUT: true; the input reads as it did. -/
def smearThereSpec : ChangeSpec := { name := "smearThere", fn := fun _ => fun
  | [d1, d2] => { results := [.lit (.bool true)], args := [d1, d2] }
  | _ => none }
def smearThereRow : OpenClaim := { program := "ytbjjfjgomkmdhaa", sum := "8165116db6e87328941dcfb4b15d1fb1d8a241c05627f690a3e262c7d6845e4f", func := "ephemeris/ephemerislaw15.SmearThere", spec := "smearThere", unfollowed := true, recurses := true, named := ["math/bits.divideError", "math/bits.overflowError"], apart := false }
def SmearThereSaid : Prop := smearThereRow.holds Try.pinned (OpenSpec.ofChange smearThereSpec)

/-- ITS FALSE NEIGHBOUR: 'it returns false'. Refute it at one input. -/
def smearThereWrong : ChangeSpec := { name := "smearThere", fn := fun _ => fun
  | [d1, d2] => { results := [.lit (.bool false)], args := [d1, d2] }
  | _ => none }
def SmearThereWrongFalsely : Prop := smearThereRow.holds Try.pinned (OpenSpec.ofChange smearThereWrong)

/-- 'ephemerislaw15.SmearKnown': WHATEVER THE INPUT: true; the input reads as it did. -/
def smearKnownSpec : ChangeSpec := { name := "smearKnown", fn := fun _ => fun
  | [] => { results := [.lit (.bool true)], args := [] }
  | _ => none }
def smearKnownRow : OpenClaim := { program := "ytbjjfjgomkmdhaa", sum := "8165116db6e87328941dcfb4b15d1fb1d8a241c05627f690a3e262c7d6845e4f", func := "ephemeris/ephemerislaw15.SmearKnown", spec := "smearKnown", unfollowed := true, recurses := true, named := ["math/bits.divideError", "math/bits.overflowError"], apart := false }
def SmearKnownSaid : Prop := smearKnownRow.holds Try.pinned (OpenSpec.ofChange smearKnownSpec)

/-- ITS FALSE NEIGHBOUR: 'it returns false'. Refute it at one input. -/
def smearKnownWrong : ChangeSpec := { name := "smearKnown", fn := fun _ => fun
  | [] => { results := [.lit (.bool false)], args := [] }
  | _ => none }
def SmearKnownWrongFalsely : Prop := smearKnownRow.holds Try.pinned (OpenSpec.ofChange smearKnownWrong)

/- THE SECOND FORM. 'bulk': how many values and letters a reading holds, each counted each time it is reached (what is shared counts as often as it is met; a slice's spare places count too). A statement '..UptoSaid' is the law's where the arguments, and the package variables that the reading takes, are together of bulk at most 1048576: NARROWER than '..Said'. Prove '..Said' where nothing that the law and all that it calls make is longer than what came in: it says more and counts as full. Else prove '..UptoSaid'. A law counts once. -/
mutual
def uptoBulk {H : Type} : DataW H → Nat
  | .lit (.string bytes) => bytes.length + 1
  | .lit _ => 1
  | .nil => 1
  | .ptr d => uptoBulk d + 1
  | .slice elems spare => uptoBulkAll elems + uptoBulkAll spare + 1
  | .agg parts => uptoBulkAll parts + 1
  | .iface _ d => uptoBulk d + 1
  | .map entries => uptoBulkEntries entries + 1
  | .held _ => 1
def uptoBulkAll {H : Type} : List (DataW H) → Nat
  | [] => 0
  | d :: r => uptoBulk d + uptoBulkAll r
def uptoBulkEntries {H : Type} : List (Lit × DataW H) → Nat
  | [] => 0
  | x :: r => uptoBulkEntry x + uptoBulkEntries r
def uptoBulkEntry {H : Type} : Lit × DataW H → Nat
  | (.string bytes, d) => bytes.length + uptoBulk d + 1
  | (_, d) => uptoBulk d + 1
 end
def uptoSmall : (H : Type) → List (DataW H) → Bool := fun _ ds => decide (uptoBulkAll ds ≤ 1048576)
def OpenSpec.upto (s : _root_.Go.ChangeSpec) : _root_.Go.OpenSpec := { _root_.Go.OpenSpec.ofChange s with cond := some uptoSmall }

/-- 'ephemerislaw15.SmearForward', WHERE WHAT IT READS IS OF BULK AT MOST 1048576: true; the input reads as it did. -/
def smearForwardUptoRow : OpenClaim := { program := "ytbjjfjgomkmdhaa", sum := "8165116db6e87328941dcfb4b15d1fb1d8a241c05627f690a3e262c7d6845e4f", func := "ephemeris/ephemerislaw15.SmearForward", spec := "smearForward", unfollowed := true, recurses := true, named := ["math/bits.divideError", "math/bits.overflowError"], apart := false, narrowed := true }
def SmearForwardUptoSaid : Prop := smearForwardUptoRow.holds Try.pinned (OpenSpec.upto smearForwardSpec)

/-- 'ephemerislaw15.SmearDays', WHERE WHAT IT READS IS OF BULK AT MOST 1048576: true; the input reads as it did. -/
def smearDaysUptoRow : OpenClaim := { program := "ytbjjfjgomkmdhaa", sum := "8165116db6e87328941dcfb4b15d1fb1d8a241c05627f690a3e262c7d6845e4f", func := "ephemeris/ephemerislaw15.SmearDays", spec := "smearDays", unfollowed := true, recurses := true, named := ["math/bits.divideError", "math/bits.overflowError"], apart := false, narrowed := true }
def SmearDaysUptoSaid : Prop := smearDaysUptoRow.holds Try.pinned (OpenSpec.upto smearDaysSpec)

/-- 'ephemerislaw15.SmearMirror', WHERE WHAT IT READS IS OF BULK AT MOST 1048576: true; the input reads as it did. -/
def smearMirrorUptoRow : OpenClaim := { program := "ytbjjfjgomkmdhaa", sum := "8165116db6e87328941dcfb4b15d1fb1d8a241c05627f690a3e262c7d6845e4f", func := "ephemeris/ephemerislaw15.SmearMirror", spec := "smearMirror", unfollowed := true, recurses := true, named := ["math/bits.divideError", "math/bits.overflowError"], apart := false, narrowed := true }
def SmearMirrorUptoSaid : Prop := smearMirrorUptoRow.holds Try.pinned (OpenSpec.upto smearMirrorSpec)

/-- 'ephemerislaw15.SmearTells', WHERE WHAT IT READS IS OF BULK AT MOST 1048576: true; the input reads as it did. -/
def smearTellsUptoRow : OpenClaim := { program := "ytbjjfjgomkmdhaa", sum := "8165116db6e87328941dcfb4b15d1fb1d8a241c05627f690a3e262c7d6845e4f", func := "ephemeris/ephemerislaw15.SmearTells", spec := "smearTells", unfollowed := true, recurses := true, named := ["math/bits.divideError", "math/bits.overflowError"], apart := false, narrowed := true }
def SmearTellsUptoSaid : Prop := smearTellsUptoRow.holds Try.pinned (OpenSpec.upto smearTellsSpec)

/-- 'ephemerislaw15.SmearBacks', WHERE WHAT IT READS IS OF BULK AT MOST 1048576: true; the input reads as it did. -/
def smearBacksUptoRow : OpenClaim := { program := "ytbjjfjgomkmdhaa", sum := "8165116db6e87328941dcfb4b15d1fb1d8a241c05627f690a3e262c7d6845e4f", func := "ephemeris/ephemerislaw15.SmearBacks", spec := "smearBacks", unfollowed := true, recurses := true, named := ["math/bits.divideError", "math/bits.overflowError"], apart := false, narrowed := true }
def SmearBacksUptoSaid : Prop := smearBacksUptoRow.holds Try.pinned (OpenSpec.upto smearBacksSpec)

/-- 'ephemerislaw15.SmearThere', WHERE WHAT IT READS IS OF BULK AT MOST 1048576: true; the input reads as it did. -/
def smearThereUptoRow : OpenClaim := { program := "ytbjjfjgomkmdhaa", sum := "8165116db6e87328941dcfb4b15d1fb1d8a241c05627f690a3e262c7d6845e4f", func := "ephemeris/ephemerislaw15.SmearThere", spec := "smearThere", unfollowed := true, recurses := true, named := ["math/bits.divideError", "math/bits.overflowError"], apart := false, narrowed := true }
def SmearThereUptoSaid : Prop := smearThereUptoRow.holds Try.pinned (OpenSpec.upto smearThereSpec)

/-- 'ephemerislaw15.SmearKnown', WHERE WHAT IT READS IS OF BULK AT MOST 1048576: true; the input reads as it did. -/
def smearKnownUptoRow : OpenClaim := { program := "ytbjjfjgomkmdhaa", sum := "8165116db6e87328941dcfb4b15d1fb1d8a241c05627f690a3e262c7d6845e4f", func := "ephemeris/ephemerislaw15.SmearKnown", spec := "smearKnown", unfollowed := true, recurses := true, named := ["math/bits.divideError", "math/bits.overflowError"], apart := false, narrowed := true }
def SmearKnownUptoSaid : Prop := smearKnownUptoRow.holds Try.pinned (OpenSpec.upto smearKnownSpec)

end Rows
end Go.Proofs.Ytbjjfjgomkmdhaa
