/-
  No cell of these rows narrows 'for every input' (looked for: loops, veiled, ifaces, maps, wideKeys, modest, calm, conditions, laid).
  DERIVED. THE GIVEN ROWS OF THIS SEAT. 7 by the template 'for every input the law returns true; each argument reads behind the call as it read before'; 0 by the template 'total and deterministic' (their statements: YtdiknijbjmhacaaTotals.lean).
  GIVEN WITH THE SEED: the statements are not yours to turn. If you find one false, say at which input.
  Laid BY PROGRAM, IN A SANDBOX (cutbox-rows.mjs): the forced cells as the released guide's own fill.sh prints them over the translation 0943d51c8dc0d68e… (all of the seat's roots in one cut). By AI agents, Wed Nov 11 2026. No macro, syntax, notation, axiom, sorry.
-/
import Derived.Test.YtdiknijbjmhacaaChecked
import GoSem.Claim
import GoSem.ClaimJoined
import GoSem.ClaimMapViews
import Derived.JoinedTies
import Derived.KernelRfl
namespace Go.Proofs.Ytdiknijbjmhacaa
/- THE CELL 'sum', in the pinned program and in every row, IS THE sha256 OF THE DUMP (.gsa) THAT YtdiknijbjmhacaaProg.lean LOADS. Nothing in Lean hashes anything: it is a label: what it is worth is what the hold of that sum in a sandbox is worth. -/
noncomputable def Try.pinned : Pinned := { name := "ytdiknijbjmhacaa", sum := "0943d51c8dc0d68e708f772bf64aadab310df109f7d564607f32aa5be1afee57", checked := Try.checked }
namespace Rows
def none {H : Type} : Left H := { results := [], args := [] }

/-- 'planispherelaw41.ClipMatchesReference': WHATEVER THE INPUT: true; the input reads as it did. -/
def clipMatchesReferenceSpec : ChangeSpec := { name := "clipMatchesReference", fn := fun _ => fun
  | [d1, d2] => { results := [.lit (.bool true)], args := [d1, d2] }
  | _ => none }
def clipMatchesReferenceRow : OpenClaim := { program := "ytdiknijbjmhacaa", sum := "0943d51c8dc0d68e708f772bf64aadab310df109f7d564607f32aa5be1afee57", func := "planisphere/planispherelaw41.ClipMatchesReference", spec := "clipMatchesReference", unfollowed := true, recurses := true, apart := false }
def ClipMatchesReferenceSaid : Prop := clipMatchesReferenceRow.holds Try.pinned (OpenSpec.ofChange clipMatchesReferenceSpec)

/-- ITS FALSE NEIGHBOUR: 'it returns false'. Refute it at one input. -/
def clipMatchesReferenceWrong : ChangeSpec := { name := "clipMatchesReference", fn := fun _ => fun
  | [d1, d2] => { results := [.lit (.bool false)], args := [d1, d2] }
  | _ => none }
def ClipMatchesReferenceWrongFalsely : Prop := clipMatchesReferenceRow.holds Try.pinned (OpenSpec.ofChange clipMatchesReferenceWrong)

/-- 'planispherelaw41.ClipInside': WHATEVER THE INPUT: true; the input reads as it did. -/
def clipInsideSpec : ChangeSpec := { name := "clipInside", fn := fun _ => fun
  | [d1, d2] => { results := [.lit (.bool true)], args := [d1, d2] }
  | _ => none }
def clipInsideRow : OpenClaim := { program := "ytdiknijbjmhacaa", sum := "0943d51c8dc0d68e708f772bf64aadab310df109f7d564607f32aa5be1afee57", func := "planisphere/planispherelaw41.ClipInside", spec := "clipInside", unfollowed := true, recurses := true, apart := false }
def ClipInsideSaid : Prop := clipInsideRow.holds Try.pinned (OpenSpec.ofChange clipInsideSpec)

/-- ITS FALSE NEIGHBOUR: 'it returns false'. Refute it at one input. -/
def clipInsideWrong : ChangeSpec := { name := "clipInside", fn := fun _ => fun
  | [d1, d2] => { results := [.lit (.bool false)], args := [d1, d2] }
  | _ => none }
def ClipInsideWrongFalsely : Prop := clipInsideRow.holds Try.pinned (OpenSpec.ofChange clipInsideWrong)

/-- 'planispherelaw41.ClipWhole': WHATEVER THE INPUT: true; the input reads as it did. -/
def clipWholeSpec : ChangeSpec := { name := "clipWhole", fn := fun _ => fun
  | [d1, d2] => { results := [.lit (.bool true)], args := [d1, d2] }
  | _ => none }
def clipWholeRow : OpenClaim := { program := "ytdiknijbjmhacaa", sum := "0943d51c8dc0d68e708f772bf64aadab310df109f7d564607f32aa5be1afee57", func := "planisphere/planispherelaw41.ClipWhole", spec := "clipWhole", unfollowed := true, recurses := true, apart := false }
def ClipWholeSaid : Prop := clipWholeRow.holds Try.pinned (OpenSpec.ofChange clipWholeSpec)

/-- ITS FALSE NEIGHBOUR: 'it returns false'. Refute it at one input. -/
def clipWholeWrong : ChangeSpec := { name := "clipWhole", fn := fun _ => fun
  | [d1, d2] => { results := [.lit (.bool false)], args := [d1, d2] }
  | _ => none }
def ClipWholeWrongFalsely : Prop := clipWholeRow.holds Try.pinned (OpenSpec.ofChange clipWholeWrong)

/-- 'planispherelaw41.ClipAgain': WHATEVER THE INPUT: true; the input reads as it did. -/
def clipAgainSpec : ChangeSpec := { name := "clipAgain", fn := fun _ => fun
  | [d1, d2] => { results := [.lit (.bool true)], args := [d1, d2] }
  | _ => none }
def clipAgainRow : OpenClaim := { program := "ytdiknijbjmhacaa", sum := "0943d51c8dc0d68e708f772bf64aadab310df109f7d564607f32aa5be1afee57", func := "planisphere/planispherelaw41.ClipAgain", spec := "clipAgain", unfollowed := true, recurses := true, apart := false }
def ClipAgainSaid : Prop := clipAgainRow.holds Try.pinned (OpenSpec.ofChange clipAgainSpec)

/-- ITS FALSE NEIGHBOUR: 'it returns false'. Refute it at one input. -/
def clipAgainWrong : ChangeSpec := { name := "clipAgain", fn := fun _ => fun
  | [d1, d2] => { results := [.lit (.bool false)], args := [d1, d2] }
  | _ => none }
def ClipAgainWrongFalsely : Prop := clipAgainRow.holds Try.pinned (OpenSpec.ofChange clipAgainWrong)

/-- 'planispherelaw41.ClipCorners': WHATEVER THE INPUT: true; the input reads as it did. -/
def clipCornersSpec : ChangeSpec := { name := "clipCorners", fn := fun _ => fun
  | [d1, d2] => { results := [.lit (.bool true)], args := [d1, d2] }
  | _ => none }
def clipCornersRow : OpenClaim := { program := "ytdiknijbjmhacaa", sum := "0943d51c8dc0d68e708f772bf64aadab310df109f7d564607f32aa5be1afee57", func := "planisphere/planispherelaw41.ClipCorners", spec := "clipCorners", unfollowed := true, recurses := true, apart := false }
def ClipCornersSaid : Prop := clipCornersRow.holds Try.pinned (OpenSpec.ofChange clipCornersSpec)

/-- ITS FALSE NEIGHBOUR: 'it returns false'. Refute it at one input. -/
def clipCornersWrong : ChangeSpec := { name := "clipCorners", fn := fun _ => fun
  | [d1, d2] => { results := [.lit (.bool false)], args := [d1, d2] }
  | _ => none }
def ClipCornersWrongFalsely : Prop := clipCornersRow.holds Try.pinned (OpenSpec.ofChange clipCornersWrong)

/-- 'planispherelaw41.ClipBackwards': WHATEVER THE INPUT: true; the input reads as it did. -/
def clipBackwardsSpec : ChangeSpec := { name := "clipBackwards", fn := fun _ => fun
  | [d1, d2] => { results := [.lit (.bool true)], args := [d1, d2] }
  | _ => none }
def clipBackwardsRow : OpenClaim := { program := "ytdiknijbjmhacaa", sum := "0943d51c8dc0d68e708f772bf64aadab310df109f7d564607f32aa5be1afee57", func := "planisphere/planispherelaw41.ClipBackwards", spec := "clipBackwards", unfollowed := true, recurses := true, apart := false }
def ClipBackwardsSaid : Prop := clipBackwardsRow.holds Try.pinned (OpenSpec.ofChange clipBackwardsSpec)

/-- ITS FALSE NEIGHBOUR: 'it returns false'. Refute it at one input. -/
def clipBackwardsWrong : ChangeSpec := { name := "clipBackwards", fn := fun _ => fun
  | [d1, d2] => { results := [.lit (.bool false)], args := [d1, d2] }
  | _ => none }
def ClipBackwardsWrongFalsely : Prop := clipBackwardsRow.holds Try.pinned (OpenSpec.ofChange clipBackwardsWrong)

/-- 'planispherelaw41.ClipMoved': WHATEVER THE INPUT: true; the input reads as it did. -/
def clipMovedSpec : ChangeSpec := { name := "clipMoved", fn := fun _ => fun
  | [d1, d2, d3] => { results := [.lit (.bool true)], args := [d1, d2, d3] }
  | _ => none }
def clipMovedRow : OpenClaim := { program := "ytdiknijbjmhacaa", sum := "0943d51c8dc0d68e708f772bf64aadab310df109f7d564607f32aa5be1afee57", func := "planisphere/planispherelaw41.ClipMoved", spec := "clipMoved", unfollowed := true, recurses := true, apart := false }
def ClipMovedSaid : Prop := clipMovedRow.holds Try.pinned (OpenSpec.ofChange clipMovedSpec)

/-- ITS FALSE NEIGHBOUR: 'it returns false'. Refute it at one input. -/
def clipMovedWrong : ChangeSpec := { name := "clipMoved", fn := fun _ => fun
  | [d1, d2, d3] => { results := [.lit (.bool false)], args := [d1, d2, d3] }
  | _ => none }
def ClipMovedWrongFalsely : Prop := clipMovedRow.holds Try.pinned (OpenSpec.ofChange clipMovedWrong)

/- THE SECOND FORM. 'bulk': how many values and letters a reading holds, each counted each time it is reached (what is shared counts as often as it is met; a slice's spare places count too). A statement '..UptoSaid' is the law's where the arguments, and the package variables that the reading takes, are together of bulk at most 1048576: NARROWER than '..Said'. Prove '..Said' where nothing that the law and all that it calls make is longer than what came in: it says more and counts as full. Else prove '..UptoSaid'. A law counts once. -/
mutual
def uptoBulk {H : Type} : DataW H → Nat
  | .lit (.string bytes) => bytes.length + 1
  | .lit _ => 1
  | .nil => 1
  | .ptr d => uptoBulk d + 1
  | .slice elems spare => uptoBulkAll elems + uptoBulkAll spare + 1
  | .agg parts => uptoBulkAll parts + 1
  | .iface _ d => uptoBulk d + 1
  | .map entries => uptoBulkEntries entries + 1
  | .held _ => 1
def uptoBulkAll {H : Type} : List (DataW H) → Nat
  | [] => 0
  | d :: r => uptoBulk d + uptoBulkAll r
def uptoBulkEntries {H : Type} : List (Lit × DataW H) → Nat
  | [] => 0
  | x :: r => uptoBulkEntry x + uptoBulkEntries r
def uptoBulkEntry {H : Type} : Lit × DataW H → Nat
  | (.string bytes, d) => bytes.length + uptoBulk d + 1
  | (_, d) => uptoBulk d + 1
 end
def uptoSmall : (H : Type) → List (DataW H) → Bool := fun _ ds => decide (uptoBulkAll ds ≤ 1048576)
def OpenSpec.upto (s : _root_.Go.ChangeSpec) : _root_.Go.OpenSpec := { _root_.Go.OpenSpec.ofChange s with cond := some uptoSmall }

/-- 'planispherelaw41.ClipMatchesReference', WHERE WHAT IT READS IS OF BULK AT MOST 1048576: true; the input reads as it did. -/
def clipMatchesReferenceUptoRow : OpenClaim := { program := "ytdiknijbjmhacaa", sum := "0943d51c8dc0d68e708f772bf64aadab310df109f7d564607f32aa5be1afee57", func := "planisphere/planispherelaw41.ClipMatchesReference", spec := "clipMatchesReference", unfollowed := true, recurses := true, apart := false, narrowed := true }
def ClipMatchesReferenceUptoSaid : Prop := clipMatchesReferenceUptoRow.holds Try.pinned (OpenSpec.upto clipMatchesReferenceSpec)

/-- 'planispherelaw41.ClipInside', WHERE WHAT IT READS IS OF BULK AT MOST 1048576: true; the input reads as it did. -/
def clipInsideUptoRow : OpenClaim := { program := "ytdiknijbjmhacaa", sum := "0943d51c8dc0d68e708f772bf64aadab310df109f7d564607f32aa5be1afee57", func := "planisphere/planispherelaw41.ClipInside", spec := "clipInside", unfollowed := true, recurses := true, apart := false, narrowed := true }
def ClipInsideUptoSaid : Prop := clipInsideUptoRow.holds Try.pinned (OpenSpec.upto clipInsideSpec)

/-- 'planispherelaw41.ClipWhole', WHERE WHAT IT READS IS OF BULK AT MOST 1048576: true; the input reads as it did. -/
def clipWholeUptoRow : OpenClaim := { program := "ytdiknijbjmhacaa", sum := "0943d51c8dc0d68e708f772bf64aadab310df109f7d564607f32aa5be1afee57", func := "planisphere/planispherelaw41.ClipWhole", spec := "clipWhole", unfollowed := true, recurses := true, apart := false, narrowed := true }
def ClipWholeUptoSaid : Prop := clipWholeUptoRow.holds Try.pinned (OpenSpec.upto clipWholeSpec)

/-- 'planispherelaw41.ClipAgain', WHERE WHAT IT READS IS OF BULK AT MOST 1048576: true; the input reads as it did. -/
def clipAgainUptoRow : OpenClaim := { program := "ytdiknijbjmhacaa", sum := "0943d51c8dc0d68e708f772bf64aadab310df109f7d564607f32aa5be1afee57", func := "planisphere/planispherelaw41.ClipAgain", spec := "clipAgain", unfollowed := true, recurses := true, apart := false, narrowed := true }
def ClipAgainUptoSaid : Prop := clipAgainUptoRow.holds Try.pinned (OpenSpec.upto clipAgainSpec)

/-- 'planispherelaw41.ClipCorners', WHERE WHAT IT READS IS OF BULK AT MOST 1048576: true; the input reads as it did. -/
def clipCornersUptoRow : OpenClaim := { program := "ytdiknijbjmhacaa", sum := "0943d51c8dc0d68e708f772bf64aadab310df109f7d564607f32aa5be1afee57", func := "planisphere/planispherelaw41.ClipCorners", spec := "clipCorners", unfollowed := true, recurses := true, apart := false, narrowed := true }
def ClipCornersUptoSaid : Prop := clipCornersUptoRow.holds Try.pinned (OpenSpec.upto clipCornersSpec)

/-- 'planispherelaw41.ClipBackwards', WHERE WHAT IT READS IS OF BULK AT MOST 1048576: true; the input reads as it did. -/
def clipBackwardsUptoRow : OpenClaim := { program := "ytdiknijbjmhacaa", sum := "0943d51c8dc0d68e708f772bf64aadab310df109f7d564607f32aa5be1afee57", func := "planisphere/planispherelaw41.ClipBackwards", spec := "clipBackwards", unfollowed := true, recurses := true, apart := false, narrowed := true }
def ClipBackwardsUptoSaid : Prop := clipBackwardsUptoRow.holds Try.pinned (OpenSpec.upto clipBackwardsSpec)

/-- 'planispherelaw41.ClipMoved', WHERE WHAT IT READS IS OF BULK AT MOST 1048576: true; the input reads as it did. -/
def clipMovedUptoRow : OpenClaim := { program := "ytdiknijbjmhacaa", sum := "0943d51c8dc0d68e708f772bf64aadab310df109f7d564607f32aa5be1afee57", func := "planisphere/planispherelaw41.ClipMoved", spec := "clipMoved", unfollowed := true, recurses := true, apart := false, narrowed := true }
def ClipMovedUptoSaid : Prop := clipMovedUptoRow.holds Try.pinned (OpenSpec.upto clipMovedSpec)

end Rows
end Go.Proofs.Ytdiknijbjmhacaa
