/-
  No cell of these rows narrows 'for every input' (looked for: loops, veiled, ifaces, maps, wideKeys, modest, calm, conditions, laid).
  DERIVED. THE GIVEN ROWS OF THIS SEAT. 6 by the template 'for every input the law returns true; each argument reads behind the call as it read before'; 0 by the template 'total and deterministic' (their statements: YtfhgidbmeifflaaTotals.lean).
  GIVEN WITH THE SEED: the statements are not yours to turn. If you find one false, say at which input.
  Laid BY PROGRAM, IN A SANDBOX (cutbox-rows.mjs): the forced cells as the released guide's own fill.sh prints them over the translation 45b729e141f9cfd3… (all of the seat's roots in one cut). By AI agents, Wed Nov 11 2026. No macro, syntax, notation, axiom, sorry.
-/
import Derived.Test.YtfhgidbmeifflaaChecked
import GoSem.Claim
import GoSem.ClaimJoined
import GoSem.ClaimMapViews
import Derived.JoinedTies
import Derived.KernelRfl
namespace Go.Proofs.Ytfhgidbmeifflaa
/- THE CELL 'sum', in the pinned program and in every row, IS THE sha256 OF THE DUMP (.gsa) THAT YtfhgidbmeifflaaProg.lean LOADS. Nothing in Lean hashes anything: it is a label: what it is worth is what the hold of that sum in a sandbox is worth. -/
noncomputable def Try.pinned : Pinned := { name := "ytfhgidbmeifflaa", sum := "45b729e141f9cfd33ea96b12c470c74837429d0d59c4859204b2c42961155d0c", checked := Try.checked }
namespace Rows
def none {H : Type} : Left H := { results := [], args := [] }

/-- 'planispherelaw48.SnapshotMatchesReference': WHATEVER THE INPUT: true; the input reads as it did. -/
def snapshotMatchesReferenceSpec : ChangeSpec := { name := "snapshotMatchesReference", fn := fun _ => fun
  | [d1, d2] => { results := [.lit (.bool true)], args := [d1, d2] }
  | _ => none }
def snapshotMatchesReferenceRow : OpenClaim := { program := "ytfhgidbmeifflaa", sum := "45b729e141f9cfd33ea96b12c470c74837429d0d59c4859204b2c42961155d0c", func := "planisphere/planispherelaw48.SnapshotMatchesReference", spec := "snapshotMatchesReference", unfollowed := true, recurses := true, apart := false }
def SnapshotMatchesReferenceSaid : Prop := snapshotMatchesReferenceRow.holds Try.pinned (OpenSpec.ofChange snapshotMatchesReferenceSpec)

/-- ITS FALSE NEIGHBOUR: 'it returns false'. Refute it at one input. -/
def snapshotMatchesReferenceWrong : ChangeSpec := { name := "snapshotMatchesReference", fn := fun _ => fun
  | [d1, d2] => { results := [.lit (.bool false)], args := [d1, d2] }
  | _ => none }
def SnapshotMatchesReferenceWrongFalsely : Prop := snapshotMatchesReferenceRow.holds Try.pinned (OpenSpec.ofChange snapshotMatchesReferenceWrong)

/-- 'planispherelaw48.SnapshotIsolated': WHATEVER THE INPUT: true; the input reads as it did. -/
def snapshotIsolatedSpec : ChangeSpec := { name := "snapshotIsolated", fn := fun _ => fun
  | [d1, d2, d3] => { results := [.lit (.bool true)], args := [d1, d2, d3] }
  | _ => none }
def snapshotIsolatedRow : OpenClaim := { program := "ytfhgidbmeifflaa", sum := "45b729e141f9cfd33ea96b12c470c74837429d0d59c4859204b2c42961155d0c", func := "planisphere/planispherelaw48.SnapshotIsolated", spec := "snapshotIsolated", unfollowed := true, recurses := true, apart := false }
def SnapshotIsolatedSaid : Prop := snapshotIsolatedRow.holds Try.pinned (OpenSpec.ofChange snapshotIsolatedSpec)

/-- ITS FALSE NEIGHBOUR: 'it returns false'. Refute it at one input. -/
def snapshotIsolatedWrong : ChangeSpec := { name := "snapshotIsolated", fn := fun _ => fun
  | [d1, d2, d3] => { results := [.lit (.bool false)], args := [d1, d2, d3] }
  | _ => none }
def SnapshotIsolatedWrongFalsely : Prop := snapshotIsolatedRow.holds Try.pinned (OpenSpec.ofChange snapshotIsolatedWrong)

/-- 'planispherelaw48.SnapshotCollects': WHATEVER THE INPUT: true; the input reads as it did. -/
def snapshotCollectsSpec : ChangeSpec := { name := "snapshotCollects", fn := fun _ => fun
  | [d1, d2] => { results := [.lit (.bool true)], args := [d1, d2] }
  | _ => none }
def snapshotCollectsRow : OpenClaim := { program := "ytfhgidbmeifflaa", sum := "45b729e141f9cfd33ea96b12c470c74837429d0d59c4859204b2c42961155d0c", func := "planisphere/planispherelaw48.SnapshotCollects", spec := "snapshotCollects", unfollowed := true, recurses := true, apart := false }
def SnapshotCollectsSaid : Prop := snapshotCollectsRow.holds Try.pinned (OpenSpec.ofChange snapshotCollectsSpec)

/-- ITS FALSE NEIGHBOUR: 'it returns false'. Refute it at one input. -/
def snapshotCollectsWrong : ChangeSpec := { name := "snapshotCollects", fn := fun _ => fun
  | [d1, d2] => { results := [.lit (.bool false)], args := [d1, d2] }
  | _ => none }
def SnapshotCollectsWrongFalsely : Prop := snapshotCollectsRow.holds Try.pinned (OpenSpec.ofChange snapshotCollectsWrong)

/-- 'planispherelaw48.SnapshotForgets': WHATEVER THE INPUT: true; the input reads as it did. -/
def snapshotForgetsSpec : ChangeSpec := { name := "snapshotForgets", fn := fun _ => fun
  | [d1, d2, d3, d4] => { results := [.lit (.bool true)], args := [d1, d2, d3, d4] }
  | _ => none }
def snapshotForgetsRow : OpenClaim := { program := "ytfhgidbmeifflaa", sum := "45b729e141f9cfd33ea96b12c470c74837429d0d59c4859204b2c42961155d0c", func := "planisphere/planispherelaw48.SnapshotForgets", spec := "snapshotForgets", unfollowed := true, recurses := true, apart := false }
def SnapshotForgetsSaid : Prop := snapshotForgetsRow.holds Try.pinned (OpenSpec.ofChange snapshotForgetsSpec)

/-- ITS FALSE NEIGHBOUR: 'it returns false'. Refute it at one input. -/
def snapshotForgetsWrong : ChangeSpec := { name := "snapshotForgets", fn := fun _ => fun
  | [d1, d2, d3, d4] => { results := [.lit (.bool false)], args := [d1, d2, d3, d4] }
  | _ => none }
def SnapshotForgetsWrongFalsely : Prop := snapshotForgetsRow.holds Try.pinned (OpenSpec.ofChange snapshotForgetsWrong)

/-- 'planispherelaw48.SnapshotRemoved': WHATEVER THE INPUT: true; the input reads as it did. -/
def snapshotRemovedSpec : ChangeSpec := { name := "snapshotRemoved", fn := fun _ => fun
  | [d1, d2, d3, d4] => { results := [.lit (.bool true)], args := [d1, d2, d3, d4] }
  | _ => none }
def snapshotRemovedRow : OpenClaim := { program := "ytfhgidbmeifflaa", sum := "45b729e141f9cfd33ea96b12c470c74837429d0d59c4859204b2c42961155d0c", func := "planisphere/planispherelaw48.SnapshotRemoved", spec := "snapshotRemoved", unfollowed := true, recurses := true, apart := false }
def SnapshotRemovedSaid : Prop := snapshotRemovedRow.holds Try.pinned (OpenSpec.ofChange snapshotRemovedSpec)

/-- ITS FALSE NEIGHBOUR: 'it returns false'. Refute it at one input. -/
def snapshotRemovedWrong : ChangeSpec := { name := "snapshotRemoved", fn := fun _ => fun
  | [d1, d2, d3, d4] => { results := [.lit (.bool false)], args := [d1, d2, d3, d4] }
  | _ => none }
def SnapshotRemovedWrongFalsely : Prop := snapshotRemovedRow.holds Try.pinned (OpenSpec.ofChange snapshotRemovedWrong)

/-- 'planispherelaw48.SnapshotRefuses': WHATEVER THE INPUT: true; the input reads as it did. -/
def snapshotRefusesSpec : ChangeSpec := { name := "snapshotRefuses", fn := fun _ => fun
  | [d1, d2, d3] => { results := [.lit (.bool true)], args := [d1, d2, d3] }
  | _ => none }
def snapshotRefusesRow : OpenClaim := { program := "ytfhgidbmeifflaa", sum := "45b729e141f9cfd33ea96b12c470c74837429d0d59c4859204b2c42961155d0c", func := "planisphere/planispherelaw48.SnapshotRefuses", spec := "snapshotRefuses", unfollowed := true, recurses := true, apart := false }
def SnapshotRefusesSaid : Prop := snapshotRefusesRow.holds Try.pinned (OpenSpec.ofChange snapshotRefusesSpec)

/-- ITS FALSE NEIGHBOUR: 'it returns false'. Refute it at one input. -/
def snapshotRefusesWrong : ChangeSpec := { name := "snapshotRefuses", fn := fun _ => fun
  | [d1, d2, d3] => { results := [.lit (.bool false)], args := [d1, d2, d3] }
  | _ => none }
def SnapshotRefusesWrongFalsely : Prop := snapshotRefusesRow.holds Try.pinned (OpenSpec.ofChange snapshotRefusesWrong)

/- THE SECOND FORM. 'bulk': how many values and letters a reading holds, each counted each time it is reached (what is shared counts as often as it is met; a slice's spare places count too). A statement '..UptoSaid' is the law's where the arguments, and the package variables that the reading takes, are together of bulk at most 1048576: NARROWER than '..Said'. Prove '..Said' where nothing that the law and all that it calls make is longer than what came in: it says more and counts as full. Else prove '..UptoSaid'. A law counts once. -/
mutual
def uptoBulk {H : Type} : DataW H → Nat
  | .lit (.string bytes) => bytes.length + 1
  | .lit _ => 1
  | .nil => 1
  | .ptr d => uptoBulk d + 1
  | .slice elems spare => uptoBulkAll elems + uptoBulkAll spare + 1
  | .agg parts => uptoBulkAll parts + 1
  | .iface _ d => uptoBulk d + 1
  | .map entries => uptoBulkEntries entries + 1
  | .held _ => 1
def uptoBulkAll {H : Type} : List (DataW H) → Nat
  | [] => 0
  | d :: r => uptoBulk d + uptoBulkAll r
def uptoBulkEntries {H : Type} : List (Lit × DataW H) → Nat
  | [] => 0
  | x :: r => uptoBulkEntry x + uptoBulkEntries r
def uptoBulkEntry {H : Type} : Lit × DataW H → Nat
  | (.string bytes, d) => bytes.length + uptoBulk d + 1
  | (_, d) => uptoBulk d + 1
 end
def uptoSmall : (H : Type) → List (DataW H) → Bool := fun _ ds => decide (uptoBulkAll ds ≤ 1048576)
def OpenSpec.upto (s : _root_.Go.ChangeSpec) : _root_.Go.OpenSpec := { _root_.Go.OpenSpec.ofChange s with cond := some uptoSmall }

/-- 'planispherelaw48.SnapshotMatchesReference', WHERE WHAT IT READS IS OF BULK AT MOST 1048576: true; the input reads as it did. -/
def snapshotMatchesReferenceUptoRow : OpenClaim := { program := "ytfhgidbmeifflaa", sum := "45b729e141f9cfd33ea96b12c470c74837429d0d59c4859204b2c42961155d0c", func := "planisphere/planispherelaw48.SnapshotMatchesReference", spec := "snapshotMatchesReference", unfollowed := true, recurses := true, apart := false, narrowed := true }
def SnapshotMatchesReferenceUptoSaid : Prop := snapshotMatchesReferenceUptoRow.holds Try.pinned (OpenSpec.upto snapshotMatchesReferenceSpec)

/-- 'planispherelaw48.SnapshotIsolated', WHERE WHAT IT READS IS OF BULK AT MOST 1048576: true; the input reads as it did. -/
def snapshotIsolatedUptoRow : OpenClaim := { program := "ytfhgidbmeifflaa", sum := "45b729e141f9cfd33ea96b12c470c74837429d0d59c4859204b2c42961155d0c", func := "planisphere/planispherelaw48.SnapshotIsolated", spec := "snapshotIsolated", unfollowed := true, recurses := true, apart := false, narrowed := true }
def SnapshotIsolatedUptoSaid : Prop := snapshotIsolatedUptoRow.holds Try.pinned (OpenSpec.upto snapshotIsolatedSpec)

/-- 'planispherelaw48.SnapshotCollects', WHERE WHAT IT READS IS OF BULK AT MOST 1048576: true; the input reads as it did. -/
def snapshotCollectsUptoRow : OpenClaim := { program := "ytfhgidbmeifflaa", sum := "45b729e141f9cfd33ea96b12c470c74837429d0d59c4859204b2c42961155d0c", func := "planisphere/planispherelaw48.SnapshotCollects", spec := "snapshotCollects", unfollowed := true, recurses := true, apart := false, narrowed := true }
def SnapshotCollectsUptoSaid : Prop := snapshotCollectsUptoRow.holds Try.pinned (OpenSpec.upto snapshotCollectsSpec)

/-- 'planispherelaw48.SnapshotForgets', WHERE WHAT IT READS IS OF BULK AT MOST 1048576: true; the input reads as it did. -/
def snapshotForgetsUptoRow : OpenClaim := { program := "ytfhgidbmeifflaa", sum := "45b729e141f9cfd33ea96b12c470c74837429d0d59c4859204b2c42961155d0c", func := "planisphere/planispherelaw48.SnapshotForgets", spec := "snapshotForgets", unfollowed := true, recurses := true, apart := false, narrowed := true }
def SnapshotForgetsUptoSaid : Prop := snapshotForgetsUptoRow.holds Try.pinned (OpenSpec.upto snapshotForgetsSpec)

/-- 'planispherelaw48.SnapshotRemoved', WHERE WHAT IT READS IS OF BULK AT MOST 1048576: true; the input reads as it did. -/
def snapshotRemovedUptoRow : OpenClaim := { program := "ytfhgidbmeifflaa", sum := "45b729e141f9cfd33ea96b12c470c74837429d0d59c4859204b2c42961155d0c", func := "planisphere/planispherelaw48.SnapshotRemoved", spec := "snapshotRemoved", unfollowed := true, recurses := true, apart := false, narrowed := true }
def SnapshotRemovedUptoSaid : Prop := snapshotRemovedUptoRow.holds Try.pinned (OpenSpec.upto snapshotRemovedSpec)

/-- 'planispherelaw48.SnapshotRefuses', WHERE WHAT IT READS IS OF BULK AT MOST 1048576: true; the input reads as it did. -/
def snapshotRefusesUptoRow : OpenClaim := { program := "ytfhgidbmeifflaa", sum := "45b729e141f9cfd33ea96b12c470c74837429d0d59c4859204b2c42961155d0c", func := "planisphere/planispherelaw48.SnapshotRefuses", spec := "snapshotRefuses", unfollowed := true, recurses := true, apart := false, narrowed := true }
def SnapshotRefusesUptoSaid : Prop := snapshotRefusesUptoRow.holds Try.pinned (OpenSpec.upto snapshotRefusesSpec)

end Rows
end Go.Proofs.Ytfhgidbmeifflaa
