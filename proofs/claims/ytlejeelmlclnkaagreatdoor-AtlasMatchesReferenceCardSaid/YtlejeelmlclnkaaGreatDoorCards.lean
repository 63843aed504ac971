/-
  DERIVED. GIVEN WITH THE SEED: THE CARDS: each row of YtlejeelmlclnkaaGreatDoorRows.lean that lists a variable, with what it lists TIED to the program's text (the seventh form; the later family's looks); each row that meets fmt, with fmt's text TOLD by the authors' own Lean function (tested against real Go, not proved from fmt's source: count such statements apart). THE CARD IS WHAT COUNTS. Prove the row's statement (the work); the ties are given (YtlejeelmlclnkaaGreatDoorTie.lean); close each card by the builder's one call (the guide's Derived/Test/ToyasCard.lean, 'card_holds'). Laid BY PROGRAM, IN A SANDBOX (cutbox-door.mjs). By AI agents, Wed Nov 11 2026. No macro, syntax, notation, axiom, sorry.
-/
import Derived.Test.YtlejeelmlclnkaaGreatDoorRows
import GoSem.ClaimSeven
namespace Go.Proofs.YtlejeelmlclnkaaGreatDoor
namespace Rows

/-- THE TIED CARD OF 'planispherelaw12.AtlasDiffs'. -/
def atlasDiffsCard : Claim7 := { stood := { row := atlasDiffsRow, standIns := [], harness := (true, "4446bfa458c4ebda1cab94b1f93e637eb031f49469088c104b0c2b4c422ead5f"), looks := false }, kinds := [], alts := [], laidByText := true, laidKinds := [.data, .data, .data, .data, .pinned], laidTests := true, laidLooks := .later }
def AtlasDiffsCardSaid : Prop := Claim7.holds Tryz.pinned (.plain (OpenSpec.ofChange atlasDiffsSpec)) atlasDiffsCard

/-- THE TIED CARD OF 'planispherelaw12.AtlasPatches'. -/
def atlasPatchesCard : Claim7 := { stood := { row := atlasPatchesRow, standIns := [], harness := (true, "4446bfa458c4ebda1cab94b1f93e637eb031f49469088c104b0c2b4c422ead5f"), looks := false }, kinds := [], alts := [], laidByText := true, laidKinds := [.data, .data, .data, .data, .pinned], laidTests := true, laidLooks := .later }
def AtlasPatchesCardSaid : Prop := Claim7.holds Tryz.pinned (.plain (OpenSpec.ofChange atlasPatchesSpec)) atlasPatchesCard

/-- THE TIED CARD OF 'planispherelaw12.AtlasDigests'. -/
def atlasDigestsCard : Claim7 := { stood := { row := atlasDigestsRow, standIns := [], harness := (true, "4446bfa458c4ebda1cab94b1f93e637eb031f49469088c104b0c2b4c422ead5f"), looks := false }, kinds := [], alts := [], laidByText := true, laidKinds := [.data, .data, .data, .data, .pinned], laidTests := true, laidLooks := .later }
def AtlasDigestsCardSaid : Prop := Claim7.holds Tryz.pinned (.plain (OpenSpec.ofChange atlasDigestsSpec)) atlasDigestsCard

/-- THE TIED CARD OF 'planispherelaw12.AtlasOrders'. -/
def atlasOrdersCard : Claim7 := { stood := { row := atlasOrdersRow, standIns := [], harness := (true, "4446bfa458c4ebda1cab94b1f93e637eb031f49469088c104b0c2b4c422ead5f"), looks := false }, kinds := [], alts := [], laidByText := true, laidKinds := [.data, .data, .data, .data, .pinned], laidTests := true, laidLooks := .later }
def AtlasOrdersCardSaid : Prop := Claim7.holds Tryz.pinned (.plain (OpenSpec.ofChange atlasOrdersSpec)) atlasOrdersCard

/-- THE TIED CARD OF 'planispherelaw12.AtlasMatchesReference'. -/
def atlasMatchesReferenceCard : Claim7 := { stood := { row := atlasMatchesReferenceRow, standIns := [], harness := (true, "4446bfa458c4ebda1cab94b1f93e637eb031f49469088c104b0c2b4c422ead5f"), looks := false }, kinds := [], alts := [], laidByText := true, laidKinds := [.data, .data, .data, .data, .pinned], laidTests := true, laidLooks := .later }
def AtlasMatchesReferenceCardSaid : Prop := Claim7.holds Tryz.pinned (.plain (OpenSpec.ofChange atlasMatchesReferenceSpec)) atlasMatchesReferenceCard

/-- THE TIED CARD OF 'planispherelaw12.AtlasPuts'. -/
def atlasPutsCard : Claim7 := { stood := { row := atlasPutsRow, standIns := [], harness := (true, "4446bfa458c4ebda1cab94b1f93e637eb031f49469088c104b0c2b4c422ead5f"), looks := false }, kinds := [], alts := [], laidByText := true, laidKinds := [.data, .data, .data, .data, .pinned], laidTests := true, laidLooks := .later }
def AtlasPutsCardSaid : Prop := Claim7.holds Tryz.pinned (.plain (OpenSpec.ofChange atlasPutsSpec)) atlasPutsCard

/-- THE TIED CARD OF 'planispherelaw12.AtlasRefers'. -/
def atlasRefersCard : Claim7 := { stood := { row := atlasRefersRow, standIns := [], harness := (true, "4446bfa458c4ebda1cab94b1f93e637eb031f49469088c104b0c2b4c422ead5f"), looks := false }, kinds := [], alts := [], laidByText := true, laidKinds := [.data, .data, .data, .data, .pinned], laidTests := true, laidLooks := .later }
def AtlasRefersCardSaid : Prop := Claim7.holds Tryz.pinned (.plain (OpenSpec.ofChange atlasRefersSpec)) atlasRefersCard

/-- THE SECOND FORM's CARD OF 'planispherelaw12.AtlasDiffs'. -/
def atlasDiffsUptoCard : Claim7 := { stood := { row := atlasDiffsUptoRow, standIns := [], harness := (true, "4446bfa458c4ebda1cab94b1f93e637eb031f49469088c104b0c2b4c422ead5f"), looks := false }, kinds := [], alts := [], laidByText := true, laidKinds := [.data, .data, .data, .data, .pinned], laidTests := true, laidLooks := .later }
def AtlasDiffsUptoCardSaid : Prop := Claim7.holds Tryz.pinned (.plain (OpenSpec.upto atlasDiffsSpec)) atlasDiffsUptoCard

/-- THE SECOND FORM's CARD OF 'planispherelaw12.AtlasPatches'. -/
def atlasPatchesUptoCard : Claim7 := { stood := { row := atlasPatchesUptoRow, standIns := [], harness := (true, "4446bfa458c4ebda1cab94b1f93e637eb031f49469088c104b0c2b4c422ead5f"), looks := false }, kinds := [], alts := [], laidByText := true, laidKinds := [.data, .data, .data, .data, .pinned], laidTests := true, laidLooks := .later }
def AtlasPatchesUptoCardSaid : Prop := Claim7.holds Tryz.pinned (.plain (OpenSpec.upto atlasPatchesSpec)) atlasPatchesUptoCard

/-- THE SECOND FORM's CARD OF 'planispherelaw12.AtlasDigests'. -/
def atlasDigestsUptoCard : Claim7 := { stood := { row := atlasDigestsUptoRow, standIns := [], harness := (true, "4446bfa458c4ebda1cab94b1f93e637eb031f49469088c104b0c2b4c422ead5f"), looks := false }, kinds := [], alts := [], laidByText := true, laidKinds := [.data, .data, .data, .data, .pinned], laidTests := true, laidLooks := .later }
def AtlasDigestsUptoCardSaid : Prop := Claim7.holds Tryz.pinned (.plain (OpenSpec.upto atlasDigestsSpec)) atlasDigestsUptoCard

/-- THE SECOND FORM's CARD OF 'planispherelaw12.AtlasOrders'. -/
def atlasOrdersUptoCard : Claim7 := { stood := { row := atlasOrdersUptoRow, standIns := [], harness := (true, "4446bfa458c4ebda1cab94b1f93e637eb031f49469088c104b0c2b4c422ead5f"), looks := false }, kinds := [], alts := [], laidByText := true, laidKinds := [.data, .data, .data, .data, .pinned], laidTests := true, laidLooks := .later }
def AtlasOrdersUptoCardSaid : Prop := Claim7.holds Tryz.pinned (.plain (OpenSpec.upto atlasOrdersSpec)) atlasOrdersUptoCard

/-- THE SECOND FORM's CARD OF 'planispherelaw12.AtlasMatchesReference'. -/
def atlasMatchesReferenceUptoCard : Claim7 := { stood := { row := atlasMatchesReferenceUptoRow, standIns := [], harness := (true, "4446bfa458c4ebda1cab94b1f93e637eb031f49469088c104b0c2b4c422ead5f"), looks := false }, kinds := [], alts := [], laidByText := true, laidKinds := [.data, .data, .data, .data, .pinned], laidTests := true, laidLooks := .later }
def AtlasMatchesReferenceUptoCardSaid : Prop := Claim7.holds Tryz.pinned (.plain (OpenSpec.upto atlasMatchesReferenceSpec)) atlasMatchesReferenceUptoCard

/-- THE SECOND FORM's CARD OF 'planispherelaw12.AtlasPuts'. -/
def atlasPutsUptoCard : Claim7 := { stood := { row := atlasPutsUptoRow, standIns := [], harness := (true, "4446bfa458c4ebda1cab94b1f93e637eb031f49469088c104b0c2b4c422ead5f"), looks := false }, kinds := [], alts := [], laidByText := true, laidKinds := [.data, .data, .data, .data, .pinned], laidTests := true, laidLooks := .later }
def AtlasPutsUptoCardSaid : Prop := Claim7.holds Tryz.pinned (.plain (OpenSpec.upto atlasPutsSpec)) atlasPutsUptoCard

/-- THE SECOND FORM's CARD OF 'planispherelaw12.AtlasRefers'. -/
def atlasRefersUptoCard : Claim7 := { stood := { row := atlasRefersUptoRow, standIns := [], harness := (true, "4446bfa458c4ebda1cab94b1f93e637eb031f49469088c104b0c2b4c422ead5f"), looks := false }, kinds := [], alts := [], laidByText := true, laidKinds := [.data, .data, .data, .data, .pinned], laidTests := true, laidLooks := .later }
def AtlasRefersUptoCardSaid : Prop := Claim7.holds Tryz.pinned (.plain (OpenSpec.upto atlasRefersSpec)) atlasRefersUptoCard
end Rows
end Go.Proofs.YtlejeelmlclnkaaGreatDoor
