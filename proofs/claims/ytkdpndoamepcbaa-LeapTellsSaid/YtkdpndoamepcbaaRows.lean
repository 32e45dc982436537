/-
  No cell of these rows narrows 'for every input' (looked for: loops, veiled, ifaces, maps, wideKeys, modest, calm, conditions, laid).
  DERIVED. THE GIVEN ROWS OF THIS SEAT. 7 by the template 'for every input the law returns true; each argument reads behind the call as it read before'; 0 by the template 'total and deterministic' (their statements: YtkdpndoamepcbaaTotals.lean).
  GIVEN WITH THE SEED: the statements are not yours to turn. If you find one false, say at which input.
  Laid BY PROGRAM, IN A SANDBOX (cutbox-rows.mjs): the forced cells as the released guide's own fill.sh prints them over the translation 14febe81d015d7e0… (all of the seat's roots in one cut). By AI agents, Wed Nov 11 2026. No macro, syntax, notation, axiom, sorry.
-/
import Derived.Test.YtkdpndoamepcbaaChecked
import GoSem.Claim
import GoSem.ClaimJoined
import GoSem.ClaimMapViews
import Derived.JoinedTies
import Derived.KernelRfl
namespace Go.Proofs.Ytkdpndoamepcbaa
/- THE CELL 'sum', in the pinned program and in every row, IS THE sha256 OF THE DUMP (.gsa) THAT YtkdpndoamepcbaaProg.lean LOADS. Nothing in Lean hashes anything: it is a label: what it is worth is what the hold of that sum in a sandbox is worth. -/
noncomputable def Try.pinned : Pinned := { name := "ytkdpndoamepcbaa", sum := "14febe81d015d7e0e0046067ccd74f20670286587e41bb6a33e4bfdbcdcb06e9", checked := Try.checked }
namespace Rows
def none {H : Type} : Left H := { results := [], args := [] }

/-- 'ephemerislaw16.LeapVotes': WHATEVER THE INPUT: true; the input reads as it did. -/
def leapVotesSpec : ChangeSpec := { name := "leapVotes", fn := fun _ => fun
  | [d] => { results := [.lit (.bool true)], args := [d] }
  | _ => none }
def leapVotesRow : OpenClaim := { program := "ytkdpndoamepcbaa", sum := "14febe81d015d7e0e0046067ccd74f20670286587e41bb6a33e4bfdbcdcb06e9", func := "ephemeris/ephemerislaw16.LeapVotes", spec := "leapVotes", unfollowed := true, recurses := true, apart := false }
def LeapVotesSaid : Prop := leapVotesRow.holds Try.pinned (OpenSpec.ofChange leapVotesSpec)

/-- ITS FALSE NEIGHBOUR: 'it returns false'. Refute it at one input. -/
def leapVotesWrong : ChangeSpec := { name := "leapVotes", fn := fun _ => fun
  | [d] => { results := [.lit (.bool false)], args := [d] }
  | _ => none }
def LeapVotesWrongFalsely : Prop := leapVotesRow.holds Try.pinned (OpenSpec.ofChange leapVotesWrong)

/-- 'ephemerislaw16.LeapMost': WHATEVER THE INPUT: true; the input reads as it did. -/
def leapMostSpec : ChangeSpec := { name := "leapMost", fn := fun _ => fun
  | [d1, d2] => { results := [.lit (.bool true)], args := [d1, d2] }
  | _ => none }
def leapMostRow : OpenClaim := { program := "ytkdpndoamepcbaa", sum := "14febe81d015d7e0e0046067ccd74f20670286587e41bb6a33e4bfdbcdcb06e9", func := "ephemeris/ephemerislaw16.LeapMost", spec := "leapMost", unfollowed := true, recurses := true, apart := false }
def LeapMostSaid : Prop := leapMostRow.holds Try.pinned (OpenSpec.ofChange leapMostSpec)

/-- ITS FALSE NEIGHBOUR: 'it returns false'. Refute it at one input. -/
def leapMostWrong : ChangeSpec := { name := "leapMost", fn := fun _ => fun
  | [d1, d2] => { results := [.lit (.bool false)], args := [d1, d2] }
  | _ => none }
def LeapMostWrongFalsely : Prop := leapMostRow.holds Try.pinned (OpenSpec.ofChange leapMostWrong)

/-- 'ephemerislaw16.LeapLabels': WHATEVER THE INPUT: true; the input reads as it did. -/
def leapLabelsSpec : ChangeSpec := { name := "leapLabels", fn := fun _ => fun
  | [d1, d2, d3, d4, d5] => { results := [.lit (.bool true)], args := [d1, d2, d3, d4, d5] }
  | _ => none }
def leapLabelsRow : OpenClaim := { program := "ytkdpndoamepcbaa", sum := "14febe81d015d7e0e0046067ccd74f20670286587e41bb6a33e4bfdbcdcb06e9", func := "ephemeris/ephemerislaw16.LeapLabels", spec := "leapLabels", unfollowed := true, recurses := true, apart := false }
def LeapLabelsSaid : Prop := leapLabelsRow.holds Try.pinned (OpenSpec.ofChange leapLabelsSpec)

/-- ITS FALSE NEIGHBOUR: 'it returns false'. Refute it at one input. -/
def leapLabelsWrong : ChangeSpec := { name := "leapLabels", fn := fun _ => fun
  | [d1, d2, d3, d4, d5] => { results := [.lit (.bool false)], args := [d1, d2, d3, d4, d5] }
  | _ => none }
def LeapLabelsWrongFalsely : Prop := leapLabelsRow.holds Try.pinned (OpenSpec.ofChange leapLabelsWrong)

/-- 'ephemerislaw16.LeapSteps': WHATEVER THE INPUT: true; the input reads as it did. -/
def leapStepsSpec : ChangeSpec := { name := "leapSteps", fn := fun _ => fun
  | [d1, d2] => { results := [.lit (.bool true)], args := [d1, d2] }
  | _ => none }
def leapStepsRow : OpenClaim := { program := "ytkdpndoamepcbaa", sum := "14febe81d015d7e0e0046067ccd74f20670286587e41bb6a33e4bfdbcdcb06e9", func := "ephemeris/ephemerislaw16.LeapSteps", spec := "leapSteps", unfollowed := true, recurses := true, apart := false }
def LeapStepsSaid : Prop := leapStepsRow.holds Try.pinned (OpenSpec.ofChange leapStepsSpec)

/-- ITS FALSE NEIGHBOUR: 'it returns false'. Refute it at one input. -/
def leapStepsWrong : ChangeSpec := { name := "leapSteps", fn := fun _ => fun
  | [d1, d2] => { results := [.lit (.bool false)], args := [d1, d2] }
  | _ => none }
def LeapStepsWrongFalsely : Prop := leapStepsRow.holds Try.pinned (OpenSpec.ofChange leapStepsWrong)

/-- 'ephemerislaw16.LeapTells': WHATEVER THE INPUT: true; the input reads as it did. -/
def leapTellsSpec : ChangeSpec := { name := "leapTells", fn := fun _ => fun
  | [d1, d2, d3, d4, d5] => { results := [.lit (.bool true)], args := [d1, d2, d3, d4, d5] }
  | _ => none }
def leapTellsRow : OpenClaim := { program := "ytkdpndoamepcbaa", sum := "14febe81d015d7e0e0046067ccd74f20670286587e41bb6a33e4bfdbcdcb06e9", func := "ephemeris/ephemerislaw16.LeapTells", spec := "leapTells", unfollowed := true, recurses := true, apart := false }
def LeapTellsSaid : Prop := leapTellsRow.holds Try.pinned (OpenSpec.ofChange leapTellsSpec)

/-- ITS FALSE NEIGHBOUR: 'it returns false'. Refute it at one input. -/
def leapTellsWrong : ChangeSpec := { name := "leapTells", fn := fun _ => fun
  | [d1, d2, d3, d4, d5] => { results := [.lit (.bool false)], args := [d1, d2, d3, d4, d5] }
  | _ => none }
def LeapTellsWrongFalsely : Prop := leapTellsRow.holds Try.pinned (OpenSpec.ofChange leapTellsWrong)

/-- 'ephemerislaw16.LeapSmeared': WHATEVER THE INPUT: true; the input reads as it did. -/
def leapSmearedSpec : ChangeSpec := { name := "leapSmeared", fn := fun _ => fun
  | [d1, d2, d3, d4] => { results := [.lit (.bool true)], args := [d1, d2, d3, d4] }
  | _ => none }
def leapSmearedRow : OpenClaim := { program := "ytkdpndoamepcbaa", sum := "14febe81d015d7e0e0046067ccd74f20670286587e41bb6a33e4bfdbcdcb06e9", func := "ephemeris/ephemerislaw16.LeapSmeared", spec := "leapSmeared", unfollowed := true, recurses := true, named := ["math/bits.divideError", "math/bits.overflowError"], apart := false }
def LeapSmearedSaid : Prop := leapSmearedRow.holds Try.pinned (OpenSpec.ofChange leapSmearedSpec)

/-- ITS FALSE NEIGHBOUR: 'it returns false'. Refute it at one input. -/
def leapSmearedWrong : ChangeSpec := { name := "leapSmeared", fn := fun _ => fun
  | [d1, d2, d3, d4] => { results := [.lit (.bool false)], args := [d1, d2, d3, d4] }
  | _ => none }
def LeapSmearedWrongFalsely : Prop := leapSmearedRow.holds Try.pinned (OpenSpec.ofChange leapSmearedWrong)

/-- 'ephemerislaw16.LeapKnown': WHATEVER THE INPUT: true; the input reads as it did. -/
def leapKnownSpec : ChangeSpec := { name := "leapKnown", fn := fun _ => fun
  | [] => { results := [.lit (.bool true)], args := [] }
  | _ => none }
def leapKnownRow : OpenClaim := { program := "ytkdpndoamepcbaa", sum := "14febe81d015d7e0e0046067ccd74f20670286587e41bb6a33e4bfdbcdcb06e9", func := "ephemeris/ephemerislaw16.LeapKnown", spec := "leapKnown", unfollowed := true, recurses := true, apart := false }
def LeapKnownSaid : Prop := leapKnownRow.holds Try.pinned (OpenSpec.ofChange leapKnownSpec)

/-- ITS FALSE NEIGHBOUR: 'it returns false'. Refute it at one input. -/
def leapKnownWrong : ChangeSpec := { name := "leapKnown", fn := fun _ => fun
  | [] => { results := [.lit (.bool false)], args := [] }
  | _ => none }
def LeapKnownWrongFalsely : Prop := leapKnownRow.holds Try.pinned (OpenSpec.ofChange leapKnownWrong)

/- THE SECOND FORM. 'bulk': how many values and letters a reading holds, each counted each time it is reached (what is shared counts as often as it is met; a slice's spare places count too). A statement '..UptoSaid' is the law's where the arguments, and the package variables that the reading takes, are together of bulk at most 1048576: NARROWER than '..Said'. Prove '..Said' where nothing that the law and all that it calls make is longer than what came in: it says more and counts as full. Else prove '..UptoSaid'. A law counts once. -/
mutual
def uptoBulk {H : Type} : DataW H → Nat
  | .lit (.string bytes) => bytes.length + 1
  | .lit _ => 1
  | .nil => 1
  | .ptr d => uptoBulk d + 1
  | .slice elems spare => uptoBulkAll elems + uptoBulkAll spare + 1
  | .agg parts => uptoBulkAll parts + 1
  | .iface _ d => uptoBulk d + 1
  | .map entries => uptoBulkEntries entries + 1
  | .held _ => 1
def uptoBulkAll {H : Type} : List (DataW H) → Nat
  | [] => 0
  | d :: r => uptoBulk d + uptoBulkAll r
def uptoBulkEntries {H : Type} : List (Lit × DataW H) → Nat
  | [] => 0
  | x :: r => uptoBulkEntry x + uptoBulkEntries r
def uptoBulkEntry {H : Type} : Lit × DataW H → Nat
  | (.string bytes, d) => bytes.length + uptoBulk d + 1
  | (_, d) => uptoBulk d + 1
 end
def uptoSmall : (H : Type) → List (DataW H) → Bool := fun _ ds => decide (uptoBulkAll ds ≤ 1048576)
def OpenSpec.upto (s : _root_.Go.ChangeSpec) : _root_.Go.OpenSpec := { _root_.Go.OpenSpec.ofChange s with cond := some uptoSmall }

/-- 'ephemerislaw16.LeapVotes', WHERE WHAT IT READS IS OF BULK AT MOST 1048576: true; the input reads as it did. -/
def leapVotesUptoRow : OpenClaim := { program := "ytkdpndoamepcbaa", sum := "14febe81d015d7e0e0046067ccd74f20670286587e41bb6a33e4bfdbcdcb06e9", func := "ephemeris/ephemerislaw16.LeapVotes", spec := "leapVotes", unfollowed := true, recurses := true, apart := false, narrowed := true }
def LeapVotesUptoSaid : Prop := leapVotesUptoRow.holds Try.pinned (OpenSpec.upto leapVotesSpec)

/-- 'ephemerislaw16.LeapMost', WHERE WHAT IT READS IS OF BULK AT MOST 1048576: true; the input reads as it did. -/
def leapMostUptoRow : OpenClaim := { program := "ytkdpndoamepcbaa", sum := "14febe81d015d7e0e0046067ccd74f20670286587e41bb6a33e4bfdbcdcb06e9", func := "ephemeris/ephemerislaw16.LeapMost", spec := "leapMost", unfollowed := true, recurses := true, apart := false, narrowed := true }
def LeapMostUptoSaid : Prop := leapMostUptoRow.holds Try.pinned (OpenSpec.upto leapMostSpec)

/-- 'ephemerislaw16.LeapLabels', WHERE WHAT IT READS IS OF BULK AT MOST 1048576: true; the input reads as it did. -/
def leapLabelsUptoRow : OpenClaim := { program := "ytkdpndoamepcbaa", sum := "14febe81d015d7e0e0046067ccd74f20670286587e41bb6a33e4bfdbcdcb06e9", func := "ephemeris/ephemerislaw16.LeapLabels", spec := "leapLabels", unfollowed := true, recurses := true, apart := false, narrowed := true }
def LeapLabelsUptoSaid : Prop := leapLabelsUptoRow.holds Try.pinned (OpenSpec.upto leapLabelsSpec)

/-- 'ephemerislaw16.LeapSteps', WHERE WHAT IT READS IS OF BULK AT MOST 1048576: true; the input reads as it did. -/
def leapStepsUptoRow : OpenClaim := { program := "ytkdpndoamepcbaa", sum := "14febe81d015d7e0e0046067ccd74f20670286587e41bb6a33e4bfdbcdcb06e9", func := "ephemeris/ephemerislaw16.LeapSteps", spec := "leapSteps", unfollowed := true, recurses := true, apart := false, narrowed := true }
def LeapStepsUptoSaid : Prop := leapStepsUptoRow.holds Try.pinned (OpenSpec.upto leapStepsSpec)

/-- 'ephemerislaw16.LeapTells', WHERE WHAT IT READS IS OF BULK AT MOST 1048576: true; the input reads as it did. -/
def leapTellsUptoRow : OpenClaim := { program := "ytkdpndoamepcbaa", sum := "14febe81d015d7e0e0046067ccd74f20670286587e41bb6a33e4bfdbcdcb06e9", func := "ephemeris/ephemerislaw16.LeapTells", spec := "leapTells", unfollowed := true, recurses := true, apart := false, narrowed := true }
def LeapTellsUptoSaid : Prop := leapTellsUptoRow.holds Try.pinned (OpenSpec.upto leapTellsSpec)

/-- 'ephemerislaw16.LeapSmeared', WHERE WHAT IT READS IS OF BULK AT MOST 1048576: true; the input reads as it did. -/
def leapSmearedUptoRow : OpenClaim := { program := "ytkdpndoamepcbaa", sum := "14febe81d015d7e0e0046067ccd74f20670286587e41bb6a33e4bfdbcdcb06e9", func := "ephemeris/ephemerislaw16.LeapSmeared", spec := "leapSmeared", unfollowed := true, recurses := true, named := ["math/bits.divideError", "math/bits.overflowError"], apart := false, narrowed := true }
def LeapSmearedUptoSaid : Prop := leapSmearedUptoRow.holds Try.pinned (OpenSpec.upto leapSmearedSpec)

/-- 'ephemerislaw16.LeapKnown', WHERE WHAT IT READS IS OF BULK AT MOST 1048576: true; the input reads as it did. -/
def leapKnownUptoRow : OpenClaim := { program := "ytkdpndoamepcbaa", sum := "14febe81d015d7e0e0046067ccd74f20670286587e41bb6a33e4bfdbcdcb06e9", func := "ephemeris/ephemerislaw16.LeapKnown", spec := "leapKnown", unfollowed := true, recurses := true, apart := false, narrowed := true }
def LeapKnownUptoSaid : Prop := leapKnownUptoRow.holds Try.pinned (OpenSpec.upto leapKnownSpec)

end Rows
end Go.Proofs.Ytkdpndoamepcbaa
