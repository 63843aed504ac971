/-
  No cell of these rows narrows 'for every input' (looked for: loops, veiled, ifaces, maps, wideKeys, modest, calm, conditions, laid).
  DERIVED. THE GIVEN ROWS OF THIS SEAT. 6 by the template 'for every input the law returns true; each argument reads behind the call as it read before'; 0 by the template 'total and deterministic' (their statements: YtkklpmfjbkapiaaTotals.lean).
  GIVEN WITH THE SEED: the statements are not yours to turn. If you find one false, say at which input.
  Laid BY PROGRAM, IN A SANDBOX (cutbox-rows.mjs): the forced cells as the released guide's own fill.sh prints them over the translation 51c99a8d99cf88b7… (all of the seat's roots in one cut). By AI agents, Wed Nov 11 2026. No macro, syntax, notation, axiom, sorry.
-/
import Derived.Test.YtkklpmfjbkapiaaChecked
import GoSem.Claim
import GoSem.ClaimJoined
import GoSem.ClaimMapViews
import Derived.JoinedTies
import Derived.KernelRfl
namespace Go.Proofs.Ytkklpmfjbkapiaa
/- THE CELL 'sum', in the pinned program and in every row, IS THE sha256 OF THE DUMP (.gsa) THAT YtkklpmfjbkapiaaProg.lean LOADS. Nothing in Lean hashes anything: it is a label: what it is worth is what the hold of that sum in a sandbox is worth. -/
noncomputable def Try.pinned : Pinned := { name := "ytkklpmfjbkapiaa", sum := "51c99a8d99cf88b7667603c69f64159bd56e7849d2f26b86dbe51ae9b7092019", checked := Try.checked }
namespace Rows
def none {H : Type} : Left H := { results := [], args := [] }

/-- 'planispherelaw25.SequenceMatchesReference': WHATEVER THE INPUT: true; the input reads as it did. -/
def sequenceMatchesReferenceSpec : ChangeSpec := { name := "sequenceMatchesReference", fn := fun _ => fun
  | [d1, d2, d3] => { results := [.lit (.bool true)], args := [d1, d2, d3] }
  | _ => none }
def sequenceMatchesReferenceRow : OpenClaim := { program := "ytkklpmfjbkapiaa", sum := "51c99a8d99cf88b7667603c69f64159bd56e7849d2f26b86dbe51ae9b7092019", func := "planisphere/planispherelaw25.SequenceMatchesReference", spec := "sequenceMatchesReference", unfollowed := true, recurses := true, apart := false }
def SequenceMatchesReferenceSaid : Prop := sequenceMatchesReferenceRow.holds Try.pinned (OpenSpec.ofChange sequenceMatchesReferenceSpec)

/-- ITS FALSE NEIGHBOUR: 'it returns false'. Refute it at one input. -/
def sequenceMatchesReferenceWrong : ChangeSpec := { name := "sequenceMatchesReference", fn := fun _ => fun
  | [d1, d2, d3] => { results := [.lit (.bool false)], args := [d1, d2, d3] }
  | _ => none }
def SequenceMatchesReferenceWrongFalsely : Prop := sequenceMatchesReferenceRow.holds Try.pinned (OpenSpec.ofChange sequenceMatchesReferenceWrong)

/-- 'planispherelaw25.SequenceLong': WHATEVER THE INPUT: true; the input reads as it did. -/
def sequenceLongSpec : ChangeSpec := { name := "sequenceLong", fn := fun _ => fun
  | [d1, d2] => { results := [.lit (.bool true)], args := [d1, d2] }
  | _ => none }
def sequenceLongRow : OpenClaim := { program := "ytkklpmfjbkapiaa", sum := "51c99a8d99cf88b7667603c69f64159bd56e7849d2f26b86dbe51ae9b7092019", func := "planisphere/planispherelaw25.SequenceLong", spec := "sequenceLong", unfollowed := true, recurses := true, apart := false }
def SequenceLongSaid : Prop := sequenceLongRow.holds Try.pinned (OpenSpec.ofChange sequenceLongSpec)

/-- ITS FALSE NEIGHBOUR: 'it returns false'. Refute it at one input. -/
def sequenceLongWrong : ChangeSpec := { name := "sequenceLong", fn := fun _ => fun
  | [d1, d2] => { results := [.lit (.bool false)], args := [d1, d2] }
  | _ => none }
def SequenceLongWrongFalsely : Prop := sequenceLongRow.holds Try.pinned (OpenSpec.ofChange sequenceLongWrong)

/-- 'planispherelaw25.SequenceLongest': WHATEVER THE INPUT: true; the input reads as it did. -/
def sequenceLongestSpec : ChangeSpec := { name := "sequenceLongest", fn := fun _ => fun
  | [d1, d2, d3] => { results := [.lit (.bool true)], args := [d1, d2, d3] }
  | _ => none }
def sequenceLongestRow : OpenClaim := { program := "ytkklpmfjbkapiaa", sum := "51c99a8d99cf88b7667603c69f64159bd56e7849d2f26b86dbe51ae9b7092019", func := "planisphere/planispherelaw25.SequenceLongest", spec := "sequenceLongest", unfollowed := true, recurses := true, apart := false }
def SequenceLongestSaid : Prop := sequenceLongestRow.holds Try.pinned (OpenSpec.ofChange sequenceLongestSpec)

/-- ITS FALSE NEIGHBOUR: 'it returns false'. Refute it at one input. -/
def sequenceLongestWrong : ChangeSpec := { name := "sequenceLongest", fn := fun _ => fun
  | [d1, d2, d3] => { results := [.lit (.bool false)], args := [d1, d2, d3] }
  | _ => none }
def SequenceLongestWrongFalsely : Prop := sequenceLongestRow.holds Try.pinned (OpenSpec.ofChange sequenceLongestWrong)

/-- 'planispherelaw25.SequenceSides': WHATEVER THE INPUT: true; the input reads as it did. -/
def sequenceSidesSpec : ChangeSpec := { name := "sequenceSides", fn := fun _ => fun
  | [d1, d2, d3] => { results := [.lit (.bool true)], args := [d1, d2, d3] }
  | _ => none }
def sequenceSidesRow : OpenClaim := { program := "ytkklpmfjbkapiaa", sum := "51c99a8d99cf88b7667603c69f64159bd56e7849d2f26b86dbe51ae9b7092019", func := "planisphere/planispherelaw25.SequenceSides", spec := "sequenceSides", unfollowed := true, recurses := true, apart := false }
def SequenceSidesSaid : Prop := sequenceSidesRow.holds Try.pinned (OpenSpec.ofChange sequenceSidesSpec)

/-- ITS FALSE NEIGHBOUR: 'it returns false'. Refute it at one input. -/
def sequenceSidesWrong : ChangeSpec := { name := "sequenceSides", fn := fun _ => fun
  | [d1, d2, d3] => { results := [.lit (.bool false)], args := [d1, d2, d3] }
  | _ => none }
def SequenceSidesWrongFalsely : Prop := sequenceSidesRow.holds Try.pinned (OpenSpec.ofChange sequenceSidesWrong)

/-- 'planispherelaw25.SequenceElements': WHATEVER THE INPUT: true; the input reads as it did. -/
def sequenceElementsSpec : ChangeSpec := { name := "sequenceElements", fn := fun _ => fun
  | [d1, d2, d3] => { results := [.lit (.bool true)], args := [d1, d2, d3] }
  | _ => none }
def sequenceElementsRow : OpenClaim := { program := "ytkklpmfjbkapiaa", sum := "51c99a8d99cf88b7667603c69f64159bd56e7849d2f26b86dbe51ae9b7092019", func := "planisphere/planispherelaw25.SequenceElements", spec := "sequenceElements", unfollowed := true, recurses := true, apart := false }
def SequenceElementsSaid : Prop := sequenceElementsRow.holds Try.pinned (OpenSpec.ofChange sequenceElementsSpec)

/-- ITS FALSE NEIGHBOUR: 'it returns false'. Refute it at one input. -/
def sequenceElementsWrong : ChangeSpec := { name := "sequenceElements", fn := fun _ => fun
  | [d1, d2, d3] => { results := [.lit (.bool false)], args := [d1, d2, d3] }
  | _ => none }
def SequenceElementsWrongFalsely : Prop := sequenceElementsRow.holds Try.pinned (OpenSpec.ofChange sequenceElementsWrong)

/-- 'planispherelaw25.SequenceApart': WHATEVER THE INPUT: true; the input reads as it did. -/
def sequenceApartSpec : ChangeSpec := { name := "sequenceApart", fn := fun _ => fun
  | [d1, d2, d3, d4, d5] => { results := [.lit (.bool true)], args := [d1, d2, d3, d4, d5] }
  | _ => none }
def sequenceApartRow : OpenClaim := { program := "ytkklpmfjbkapiaa", sum := "51c99a8d99cf88b7667603c69f64159bd56e7849d2f26b86dbe51ae9b7092019", func := "planisphere/planispherelaw25.SequenceApart", spec := "sequenceApart", unfollowed := true, recurses := true, apart := false }
def SequenceApartSaid : Prop := sequenceApartRow.holds Try.pinned (OpenSpec.ofChange sequenceApartSpec)

/-- ITS FALSE NEIGHBOUR: 'it returns false'. Refute it at one input. -/
def sequenceApartWrong : ChangeSpec := { name := "sequenceApart", fn := fun _ => fun
  | [d1, d2, d3, d4, d5] => { results := [.lit (.bool false)], args := [d1, d2, d3, d4, d5] }
  | _ => none }
def SequenceApartWrongFalsely : Prop := sequenceApartRow.holds Try.pinned (OpenSpec.ofChange sequenceApartWrong)

/- THE SECOND FORM. 'bulk': how many values and letters a reading holds, each counted each time it is reached (what is shared counts as often as it is met; a slice's spare places count too). A statement '..UptoSaid' is the law's where the arguments, and the package variables that the reading takes, are together of bulk at most 1048576: NARROWER than '..Said'. Prove '..Said' where nothing that the law and all that it calls make is longer than what came in: it says more and counts as full. Else prove '..UptoSaid'. A law counts once. -/
mutual
def uptoBulk {H : Type} : DataW H → Nat
  | .lit (.string bytes) => bytes.length + 1
  | .lit _ => 1
  | .nil => 1
  | .ptr d => uptoBulk d + 1
  | .slice elems spare => uptoBulkAll elems + uptoBulkAll spare + 1
  | .agg parts => uptoBulkAll parts + 1
  | .iface _ d => uptoBulk d + 1
  | .map entries => uptoBulkEntries entries + 1
  | .held _ => 1
def uptoBulkAll {H : Type} : List (DataW H) → Nat
  | [] => 0
  | d :: r => uptoBulk d + uptoBulkAll r
def uptoBulkEntries {H : Type} : List (Lit × DataW H) → Nat
  | [] => 0
  | x :: r => uptoBulkEntry x + uptoBulkEntries r
def uptoBulkEntry {H : Type} : Lit × DataW H → Nat
  | (.string bytes, d) => bytes.length + uptoBulk d + 1
  | (_, d) => uptoBulk d + 1
 end
def uptoSmall : (H : Type) → List (DataW H) → Bool := fun _ ds => decide (uptoBulkAll ds ≤ 1048576)
def OpenSpec.upto (s : _root_.Go.ChangeSpec) : _root_.Go.OpenSpec := { _root_.Go.OpenSpec.ofChange s with cond := some uptoSmall }

/-- 'planispherelaw25.SequenceMatchesReference', WHERE WHAT IT READS IS OF BULK AT MOST 1048576: true; the input reads as it did. -/
def sequenceMatchesReferenceUptoRow : OpenClaim := { program := "ytkklpmfjbkapiaa", sum := "51c99a8d99cf88b7667603c69f64159bd56e7849d2f26b86dbe51ae9b7092019", func := "planisphere/planispherelaw25.SequenceMatchesReference", spec := "sequenceMatchesReference", unfollowed := true, recurses := true, apart := false, narrowed := true }
def SequenceMatchesReferenceUptoSaid : Prop := sequenceMatchesReferenceUptoRow.holds Try.pinned (OpenSpec.upto sequenceMatchesReferenceSpec)

/-- 'planispherelaw25.SequenceLong', WHERE WHAT IT READS IS OF BULK AT MOST 1048576: true; the input reads as it did. -/
def sequenceLongUptoRow : OpenClaim := { program := "ytkklpmfjbkapiaa", sum := "51c99a8d99cf88b7667603c69f64159bd56e7849d2f26b86dbe51ae9b7092019", func := "planisphere/planispherelaw25.SequenceLong", spec := "sequenceLong", unfollowed := true, recurses := true, apart := false, narrowed := true }
def SequenceLongUptoSaid : Prop := sequenceLongUptoRow.holds Try.pinned (OpenSpec.upto sequenceLongSpec)

/-- 'planispherelaw25.SequenceLongest', WHERE WHAT IT READS IS OF BULK AT MOST 1048576: true; the input reads as it did. -/
def sequenceLongestUptoRow : OpenClaim := { program := "ytkklpmfjbkapiaa", sum := "51c99a8d99cf88b7667603c69f64159bd56e7849d2f26b86dbe51ae9b7092019", func := "planisphere/planispherelaw25.SequenceLongest", spec := "sequenceLongest", unfollowed := true, recurses := true, apart := false, narrowed := true }
def SequenceLongestUptoSaid : Prop := sequenceLongestUptoRow.holds Try.pinned (OpenSpec.upto sequenceLongestSpec)

/-- 'planispherelaw25.SequenceSides', WHERE WHAT IT READS IS OF BULK AT MOST 1048576: true; the input reads as it did. -/
def sequenceSidesUptoRow : OpenClaim := { program := "ytkklpmfjbkapiaa", sum := "51c99a8d99cf88b7667603c69f64159bd56e7849d2f26b86dbe51ae9b7092019", func := "planisphere/planispherelaw25.SequenceSides", spec := "sequenceSides", unfollowed := true, recurses := true, apart := false, narrowed := true }
def SequenceSidesUptoSaid : Prop := sequenceSidesUptoRow.holds Try.pinned (OpenSpec.upto sequenceSidesSpec)

/-- 'planispherelaw25.SequenceElements', WHERE WHAT IT READS IS OF BULK AT MOST 1048576: true; the input reads as it did. -/
def sequenceElementsUptoRow : OpenClaim := { program := "ytkklpmfjbkapiaa", sum := "51c99a8d99cf88b7667603c69f64159bd56e7849d2f26b86dbe51ae9b7092019", func := "planisphere/planispherelaw25.SequenceElements", spec := "sequenceElements", unfollowed := true, recurses := true, apart := false, narrowed := true }
def SequenceElementsUptoSaid : Prop := sequenceElementsUptoRow.holds Try.pinned (OpenSpec.upto sequenceElementsSpec)

/-- 'planispherelaw25.SequenceApart', WHERE WHAT IT READS IS OF BULK AT MOST 1048576: true; the input reads as it did. -/
def sequenceApartUptoRow : OpenClaim := { program := "ytkklpmfjbkapiaa", sum := "51c99a8d99cf88b7667603c69f64159bd56e7849d2f26b86dbe51ae9b7092019", func := "planisphere/planispherelaw25.SequenceApart", spec := "sequenceApart", unfollowed := true, recurses := true, apart := false, narrowed := true }
def SequenceApartUptoSaid : Prop := sequenceApartUptoRow.holds Try.pinned (OpenSpec.upto sequenceApartSpec)

end Rows
end Go.Proofs.Ytkklpmfjbkapiaa
