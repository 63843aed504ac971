/-
  DERIVED. GIVEN WITH THE SEED: THE CARDS: each row of YtfgodkhgcmgckaaDoorRows.lean that lists a variable, with what it lists TIED to the program's text (the seventh form; the later family's looks); each row that meets fmt, with fmt's text TOLD by the authors' own Lean function (tested against real Go, not proved from fmt's source: count such statements apart). THE CARD IS WHAT COUNTS. Prove the row's statement (the work); the ties are given (YtfgodkhgcmgckaaDoorTie.lean); close each card by the builder's one call (the guide's Derived/Test/ToyasCard.lean, 'card_holds'). Laid BY PROGRAM, IN A SANDBOX (cutbox-door.mjs). By AI agents, Wed Nov 11 2026. No macro, syntax, notation, axiom, sorry.
-/
import Derived.Test.YtfgodkhgcmgckaaDoorRows
import GoSem.ClaimSeven
namespace Go.Proofs.YtfgodkhgcmgckaaDoor
namespace Rows

/-- THE TIED CARD OF 'planispherelaw01.DigestMatchesReference'. -/
def digestMatchesReferenceCard : Claim7 := { stood := { row := digestMatchesReferenceRow, standIns := [], harness := (true, "14b007bbcec311c2825ec3d06dabb3d902569aa1668ff365238b33a3264dbd7d"), looks := false }, kinds := [], alts := [], laidByText := true, laidKinds := [.data, .data, .data, .data, .pinned], laidTests := true, laidLooks := .later }
def DigestMatchesReferenceCardSaid : Prop := Claim7.holds Tryd.pinned (.plain (OpenSpec.ofChange digestMatchesReferenceSpec)) digestMatchesReferenceCard

/-- THE TIED CARD OF 'planispherelaw01.DigestForm'. -/
def digestFormCard : Claim7 := { stood := { row := digestFormRow, standIns := [], harness := (true, "14b007bbcec311c2825ec3d06dabb3d902569aa1668ff365238b33a3264dbd7d"), looks := false }, kinds := [], alts := [], laidByText := true, laidKinds := [.data, .data, .data, .data, .pinned], laidTests := true, laidLooks := .later }
def DigestFormCardSaid : Prop := Claim7.holds Tryd.pinned (.plain (OpenSpec.ofChange digestFormSpec)) digestFormCard

/-- THE TIED CARD OF 'planispherelaw01.DigestShort'. -/
def digestShortCard : Claim7 := { stood := { row := digestShortRow, standIns := [], harness := (true, "14b007bbcec311c2825ec3d06dabb3d902569aa1668ff365238b33a3264dbd7d"), looks := false }, kinds := [], alts := [], laidByText := true, laidKinds := [.data, .data, .data, .data, .pinned], laidTests := true, laidLooks := .later }
def DigestShortCardSaid : Prop := Claim7.holds Tryd.pinned (.plain (OpenSpec.ofChange digestShortSpec)) digestShortCard

/-- THE TIED CARD OF 'planispherelaw01.DigestBlock'. -/
def digestBlockCard : Claim7 := { stood := { row := digestBlockRow, standIns := [], harness := (true, "14b007bbcec311c2825ec3d06dabb3d902569aa1668ff365238b33a3264dbd7d"), looks := false }, kinds := [], alts := [], laidByText := true, laidKinds := [.data, .data, .data, .data, .pinned], laidTests := true, laidLooks := .later }
def DigestBlockCardSaid : Prop := Claim7.holds Tryd.pinned (.plain (OpenSpec.ofChange digestBlockSpec)) digestBlockCard

/-- THE TIED CARD OF 'planispherelaw01.DigestLists'. -/
def digestListsCard : Claim7 := { stood := { row := digestListsRow, standIns := [], harness := (true, "14b007bbcec311c2825ec3d06dabb3d902569aa1668ff365238b33a3264dbd7d"), looks := false }, kinds := [], alts := [], laidByText := true, laidKinds := [.data, .data, .data, .data, .pinned], laidTests := true, laidLooks := .later }
def DigestListsCardSaid : Prop := Claim7.holds Tryd.pinned (.plain (OpenSpec.ofChange digestListsSpec)) digestListsCard

/-- THE SECOND FORM's CARD OF 'planispherelaw01.DigestMatchesReference'. -/
def digestMatchesReferenceUptoCard : Claim7 := { stood := { row := digestMatchesReferenceUptoRow, standIns := [], harness := (true, "14b007bbcec311c2825ec3d06dabb3d902569aa1668ff365238b33a3264dbd7d"), looks := false }, kinds := [], alts := [], laidByText := true, laidKinds := [.data, .data, .data, .data, .pinned], laidTests := true, laidLooks := .later }
def DigestMatchesReferenceUptoCardSaid : Prop := Claim7.holds Tryd.pinned (.plain (OpenSpec.upto digestMatchesReferenceSpec)) digestMatchesReferenceUptoCard

/-- THE SECOND FORM's CARD OF 'planispherelaw01.DigestForm'. -/
def digestFormUptoCard : Claim7 := { stood := { row := digestFormUptoRow, standIns := [], harness := (true, "14b007bbcec311c2825ec3d06dabb3d902569aa1668ff365238b33a3264dbd7d"), looks := false }, kinds := [], alts := [], laidByText := true, laidKinds := [.data, .data, .data, .data, .pinned], laidTests := true, laidLooks := .later }
def DigestFormUptoCardSaid : Prop := Claim7.holds Tryd.pinned (.plain (OpenSpec.upto digestFormSpec)) digestFormUptoCard

/-- THE SECOND FORM's CARD OF 'planispherelaw01.DigestShort'. -/
def digestShortUptoCard : Claim7 := { stood := { row := digestShortUptoRow, standIns := [], harness := (true, "14b007bbcec311c2825ec3d06dabb3d902569aa1668ff365238b33a3264dbd7d"), looks := false }, kinds := [], alts := [], laidByText := true, laidKinds := [.data, .data, .data, .data, .pinned], laidTests := true, laidLooks := .later }
def DigestShortUptoCardSaid : Prop := Claim7.holds Tryd.pinned (.plain (OpenSpec.upto digestShortSpec)) digestShortUptoCard

/-- THE SECOND FORM's CARD OF 'planispherelaw01.DigestBlock'. -/
def digestBlockUptoCard : Claim7 := { stood := { row := digestBlockUptoRow, standIns := [], harness := (true, "14b007bbcec311c2825ec3d06dabb3d902569aa1668ff365238b33a3264dbd7d"), looks := false }, kinds := [], alts := [], laidByText := true, laidKinds := [.data, .data, .data, .data, .pinned], laidTests := true, laidLooks := .later }
def DigestBlockUptoCardSaid : Prop := Claim7.holds Tryd.pinned (.plain (OpenSpec.upto digestBlockSpec)) digestBlockUptoCard

/-- THE SECOND FORM's CARD OF 'planispherelaw01.DigestLists'. -/
def digestListsUptoCard : Claim7 := { stood := { row := digestListsUptoRow, standIns := [], harness := (true, "14b007bbcec311c2825ec3d06dabb3d902569aa1668ff365238b33a3264dbd7d"), looks := false }, kinds := [], alts := [], laidByText := true, laidKinds := [.data, .data, .data, .data, .pinned], laidTests := true, laidLooks := .later }
def DigestListsUptoCardSaid : Prop := Claim7.holds Tryd.pinned (.plain (OpenSpec.upto digestListsSpec)) digestListsUptoCard
end Rows
end Go.Proofs.YtfgodkhgcmgckaaDoor
