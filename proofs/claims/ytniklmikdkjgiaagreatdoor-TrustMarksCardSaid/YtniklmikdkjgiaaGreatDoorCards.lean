/-
  DERIVED. GIVEN WITH THE SEED: THE CARDS: each row of YtniklmikdkjgiaaGreatDoorRows.lean that lists a variable, with what it lists TIED to the program's text (the seventh form; the later family's looks); each row that meets fmt, with fmt's text TOLD by the authors' own Lean function (tested against real Go, not proved from fmt's source: count such statements apart). THE CARD IS WHAT COUNTS. Prove the row's statement (the work); the ties are given (YtniklmikdkjgiaaGreatDoorTie.lean); close each card by the builder's one call (the guide's Derived/Test/ToyasCard.lean, 'card_holds'). Laid BY PROGRAM, IN A SANDBOX (cutbox-door.mjs). By AI agents, Wed Nov 11 2026. No macro, syntax, notation, axiom, sorry.
-/
import Derived.Test.YtniklmikdkjgiaaGreatDoorRows
import GoSem.ClaimSeven
namespace Go.Proofs.YtniklmikdkjgiaaGreatDoor
namespace Rows

/-- THE TIED CARD OF 'planispherelaw49.PrivacyMatchesReference'. -/
def privacyMatchesReferenceCard : Claim7 := { stood := { row := privacyMatchesReferenceRow, standIns := [], harness := (true, "e9b95bf607bfcd4528a56b9f5111ec734dd3cd10391ae553815f0691ff1f9a07"), looks := true }, kinds := [], alts := [], laidByText := true, laidKinds := [.data, .data, .data, .data, .pinned], laidTests := true, laidLooks := .later }
def PrivacyMatchesReferenceCardSaid : Prop := Claim7.holds Tryz.pinned (.plain (OpenSpec.ofChange privacyMatchesReferenceSpec)) privacyMatchesReferenceCard

/-- THE TIED CARD OF 'planispherelaw49.PrivacyLeaves'. -/
def privacyLeavesCard : Claim7 := { stood := { row := privacyLeavesRow, standIns := [], harness := (true, "e9b95bf607bfcd4528a56b9f5111ec734dd3cd10391ae553815f0691ff1f9a07"), looks := true }, kinds := [], alts := [], laidByText := true, laidKinds := [.data, .data, .data, .data, .pinned], laidTests := true, laidLooks := .later }
def PrivacyLeavesCardSaid : Prop := Claim7.holds Tryz.pinned (.plain (OpenSpec.ofChange privacyLeavesSpec)) privacyLeavesCard

/-- THE TIED CARD OF 'planispherelaw49.PrivacyOrder'. -/
def privacyOrderCard : Claim7 := { stood := { row := privacyOrderRow, standIns := [], harness := (true, "e9b95bf607bfcd4528a56b9f5111ec734dd3cd10391ae553815f0691ff1f9a07"), looks := true }, kinds := [], alts := [], laidByText := true, laidKinds := [.data, .data, .data, .data, .pinned], laidTests := true, laidLooks := .later }
def PrivacyOrderCardSaid : Prop := Claim7.holds Tryz.pinned (.plain (OpenSpec.ofChange privacyOrderSpec)) privacyOrderCard

/-- THE TIED CARD OF 'planispherelaw29.ModerateMatchesReference'. -/
def moderateMatchesReferenceCard : Claim7 := { stood := { row := moderateMatchesReferenceRow, standIns := [], harness := (true, "e9b95bf607bfcd4528a56b9f5111ec734dd3cd10391ae553815f0691ff1f9a07"), looks := true }, kinds := [], alts := [], laidByText := true, laidKinds := [.data, .data, .data, .data, .pinned], laidTests := true, laidLooks := .later }
def ModerateMatchesReferenceCardSaid : Prop := Claim7.holds Tryz.pinned (.plain (OpenSpec.ofChange moderateMatchesReferenceSpec)) moderateMatchesReferenceCard

/-- THE TIED CARD OF 'planispherelaw29.ModerateLast'. -/
def moderateLastCard : Claim7 := { stood := { row := moderateLastRow, standIns := [], harness := (true, "e9b95bf607bfcd4528a56b9f5111ec734dd3cd10391ae553815f0691ff1f9a07"), looks := true }, kinds := [], alts := [], laidByText := true, laidKinds := [.data, .data, .data, .data, .pinned], laidTests := true, laidLooks := .later }
def ModerateLastCardSaid : Prop := Claim7.holds Tryz.pinned (.plain (OpenSpec.ofChange moderateLastSpec)) moderateLastCard

/-- THE TIED CARD OF 'planispherelaw29.ModerateOthers'. -/
def moderateOthersCard : Claim7 := { stood := { row := moderateOthersRow, standIns := [], harness := (true, "e9b95bf607bfcd4528a56b9f5111ec734dd3cd10391ae553815f0691ff1f9a07"), looks := true }, kinds := [], alts := [], laidByText := true, laidKinds := [.data, .data, .data, .data, .pinned], laidTests := true, laidLooks := .later }
def ModerateOthersCardSaid : Prop := Claim7.holds Tryz.pinned (.plain (OpenSpec.ofChange moderateOthersSpec)) moderateOthersCard

/-- THE TIED CARD OF 'planispherelaw29.ModeratePlain'. -/
def moderatePlainCard : Claim7 := { stood := { row := moderatePlainRow, standIns := [], harness := (true, "e9b95bf607bfcd4528a56b9f5111ec734dd3cd10391ae553815f0691ff1f9a07"), looks := true }, kinds := [], alts := [], laidByText := true, laidKinds := [.data, .data, .data, .data, .pinned], laidTests := true, laidLooks := .later }
def ModeratePlainCardSaid : Prop := Claim7.holds Tryz.pinned (.plain (OpenSpec.ofChange moderatePlainSpec)) moderatePlainCard

/-- THE TIED CARD OF 'planispherelaw29.ModerateBeginnings'. -/
def moderateBeginningsCard : Claim7 := { stood := { row := moderateBeginningsRow, standIns := [], harness := (true, "e9b95bf607bfcd4528a56b9f5111ec734dd3cd10391ae553815f0691ff1f9a07"), looks := true }, kinds := [], alts := [], laidByText := true, laidKinds := [.data, .data, .data, .data, .pinned], laidTests := true, laidLooks := .later }
def ModerateBeginningsCardSaid : Prop := Claim7.holds Tryz.pinned (.plain (OpenSpec.ofChange moderateBeginningsSpec)) moderateBeginningsCard

/-- THE TIED CARD OF 'planispherelaw49.PrivacyRemoves'. -/
def privacyRemovesCard : Claim7 := { stood := { row := privacyRemovesRow, standIns := [], harness := (true, "e9b95bf607bfcd4528a56b9f5111ec734dd3cd10391ae553815f0691ff1f9a07"), looks := true }, kinds := [], alts := [], laidByText := true, laidKinds := [.data, .data, .data, .data, .pinned], laidTests := true, laidLooks := .later }
def PrivacyRemovesCardSaid : Prop := Claim7.holds Tryz.pinned (.plain (OpenSpec.ofChange privacyRemovesSpec)) privacyRemovesCard

/-- THE TIED CARD OF 'planispherelaw30.TrustMonotone'. -/
def trustMonotoneCard : Claim7 := { stood := { row := trustMonotoneRow, standIns := [], harness := (true, "e9b95bf607bfcd4528a56b9f5111ec734dd3cd10391ae553815f0691ff1f9a07"), looks := true }, kinds := [], alts := [], laidByText := true, laidKinds := [.data, .data, .data, .data, .pinned], laidTests := true, laidLooks := .later }
def TrustMonotoneCardSaid : Prop := Claim7.holds Tryz.pinned (.plain (OpenSpec.ofChange trustMonotoneSpec)) trustMonotoneCard

/-- THE TIED CARD OF 'planispherelaw30.TrustOthers'. -/
def trustOthersCard : Claim7 := { stood := { row := trustOthersRow, standIns := [], harness := (true, "e9b95bf607bfcd4528a56b9f5111ec734dd3cd10391ae553815f0691ff1f9a07"), looks := true }, kinds := [], alts := [], laidByText := true, laidKinds := [.data, .data, .data, .data, .pinned], laidTests := true, laidLooks := .later }
def TrustOthersCardSaid : Prop := Claim7.holds Tryz.pinned (.plain (OpenSpec.ofChange trustOthersSpec)) trustOthersCard

/-- THE TIED CARD OF 'planispherelaw30.TrustMarks'. -/
def trustMarksCard : Claim7 := { stood := { row := trustMarksRow, standIns := [], harness := (true, "e9b95bf607bfcd4528a56b9f5111ec734dd3cd10391ae553815f0691ff1f9a07"), looks := true }, kinds := [], alts := [], laidByText := true, laidKinds := [.data, .data, .data, .data, .pinned], laidTests := true, laidLooks := .later }
def TrustMarksCardSaid : Prop := Claim7.holds Tryz.pinned (.plain (OpenSpec.ofChange trustMarksSpec)) trustMarksCard

/-- THE SECOND FORM's CARD OF 'planispherelaw49.PrivacyMatchesReference'. -/
def privacyMatchesReferenceUptoCard : Claim7 := { stood := { row := privacyMatchesReferenceUptoRow, standIns := [], harness := (true, "e9b95bf607bfcd4528a56b9f5111ec734dd3cd10391ae553815f0691ff1f9a07"), looks := true }, kinds := [], alts := [], laidByText := true, laidKinds := [.data, .data, .data, .data, .pinned], laidTests := true, laidLooks := .later }
def PrivacyMatchesReferenceUptoCardSaid : Prop := Claim7.holds Tryz.pinned (.plain (OpenSpec.upto privacyMatchesReferenceSpec)) privacyMatchesReferenceUptoCard

/-- THE SECOND FORM's CARD OF 'planispherelaw49.PrivacyLeaves'. -/
def privacyLeavesUptoCard : Claim7 := { stood := { row := privacyLeavesUptoRow, standIns := [], harness := (true, "e9b95bf607bfcd4528a56b9f5111ec734dd3cd10391ae553815f0691ff1f9a07"), looks := true }, kinds := [], alts := [], laidByText := true, laidKinds := [.data, .data, .data, .data, .pinned], laidTests := true, laidLooks := .later }
def PrivacyLeavesUptoCardSaid : Prop := Claim7.holds Tryz.pinned (.plain (OpenSpec.upto privacyLeavesSpec)) privacyLeavesUptoCard

/-- THE SECOND FORM's CARD OF 'planispherelaw49.PrivacyOrder'. -/
def privacyOrderUptoCard : Claim7 := { stood := { row := privacyOrderUptoRow, standIns := [], harness := (true, "e9b95bf607bfcd4528a56b9f5111ec734dd3cd10391ae553815f0691ff1f9a07"), looks := true }, kinds := [], alts := [], laidByText := true, laidKinds := [.data, .data, .data, .data, .pinned], laidTests := true, laidLooks := .later }
def PrivacyOrderUptoCardSaid : Prop := Claim7.holds Tryz.pinned (.plain (OpenSpec.upto privacyOrderSpec)) privacyOrderUptoCard

/-- THE SECOND FORM's CARD OF 'planispherelaw29.ModerateMatchesReference'. -/
def moderateMatchesReferenceUptoCard : Claim7 := { stood := { row := moderateMatchesReferenceUptoRow, standIns := [], harness := (true, "e9b95bf607bfcd4528a56b9f5111ec734dd3cd10391ae553815f0691ff1f9a07"), looks := true }, kinds := [], alts := [], laidByText := true, laidKinds := [.data, .data, .data, .data, .pinned], laidTests := true, laidLooks := .later }
def ModerateMatchesReferenceUptoCardSaid : Prop := Claim7.holds Tryz.pinned (.plain (OpenSpec.upto moderateMatchesReferenceSpec)) moderateMatchesReferenceUptoCard

/-- THE SECOND FORM's CARD OF 'planispherelaw29.ModerateLast'. -/
def moderateLastUptoCard : Claim7 := { stood := { row := moderateLastUptoRow, standIns := [], harness := (true, "e9b95bf607bfcd4528a56b9f5111ec734dd3cd10391ae553815f0691ff1f9a07"), looks := true }, kinds := [], alts := [], laidByText := true, laidKinds := [.data, .data, .data, .data, .pinned], laidTests := true, laidLooks := .later }
def ModerateLastUptoCardSaid : Prop := Claim7.holds Tryz.pinned (.plain (OpenSpec.upto moderateLastSpec)) moderateLastUptoCard

/-- THE SECOND FORM's CARD OF 'planispherelaw29.ModerateOthers'. -/
def moderateOthersUptoCard : Claim7 := { stood := { row := moderateOthersUptoRow, standIns := [], harness := (true, "e9b95bf607bfcd4528a56b9f5111ec734dd3cd10391ae553815f0691ff1f9a07"), looks := true }, kinds := [], alts := [], laidByText := true, laidKinds := [.data, .data, .data, .data, .pinned], laidTests := true, laidLooks := .later }
def ModerateOthersUptoCardSaid : Prop := Claim7.holds Tryz.pinned (.plain (OpenSpec.upto moderateOthersSpec)) moderateOthersUptoCard

/-- THE SECOND FORM's CARD OF 'planispherelaw29.ModeratePlain'. -/
def moderatePlainUptoCard : Claim7 := { stood := { row := moderatePlainUptoRow, standIns := [], harness := (true, "e9b95bf607bfcd4528a56b9f5111ec734dd3cd10391ae553815f0691ff1f9a07"), looks := true }, kinds := [], alts := [], laidByText := true, laidKinds := [.data, .data, .data, .data, .pinned], laidTests := true, laidLooks := .later }
def ModeratePlainUptoCardSaid : Prop := Claim7.holds Tryz.pinned (.plain (OpenSpec.upto moderatePlainSpec)) moderatePlainUptoCard

/-- THE SECOND FORM's CARD OF 'planispherelaw29.ModerateBeginnings'. -/
def moderateBeginningsUptoCard : Claim7 := { stood := { row := moderateBeginningsUptoRow, standIns := [], harness := (true, "e9b95bf607bfcd4528a56b9f5111ec734dd3cd10391ae553815f0691ff1f9a07"), looks := true }, kinds := [], alts := [], laidByText := true, laidKinds := [.data, .data, .data, .data, .pinned], laidTests := true, laidLooks := .later }
def ModerateBeginningsUptoCardSaid : Prop := Claim7.holds Tryz.pinned (.plain (OpenSpec.upto moderateBeginningsSpec)) moderateBeginningsUptoCard

/-- THE SECOND FORM's CARD OF 'planispherelaw49.PrivacyRemoves'. -/
def privacyRemovesUptoCard : Claim7 := { stood := { row := privacyRemovesUptoRow, standIns := [], harness := (true, "e9b95bf607bfcd4528a56b9f5111ec734dd3cd10391ae553815f0691ff1f9a07"), looks := true }, kinds := [], alts := [], laidByText := true, laidKinds := [.data, .data, .data, .data, .pinned], laidTests := true, laidLooks := .later }
def PrivacyRemovesUptoCardSaid : Prop := Claim7.holds Tryz.pinned (.plain (OpenSpec.upto privacyRemovesSpec)) privacyRemovesUptoCard

/-- THE SECOND FORM's CARD OF 'planispherelaw30.TrustMonotone'. -/
def trustMonotoneUptoCard : Claim7 := { stood := { row := trustMonotoneUptoRow, standIns := [], harness := (true, "e9b95bf607bfcd4528a56b9f5111ec734dd3cd10391ae553815f0691ff1f9a07"), looks := true }, kinds := [], alts := [], laidByText := true, laidKinds := [.data, .data, .data, .data, .pinned], laidTests := true, laidLooks := .later }
def TrustMonotoneUptoCardSaid : Prop := Claim7.holds Tryz.pinned (.plain (OpenSpec.upto trustMonotoneSpec)) trustMonotoneUptoCard

/-- THE SECOND FORM's CARD OF 'planispherelaw30.TrustOthers'. -/
def trustOthersUptoCard : Claim7 := { stood := { row := trustOthersUptoRow, standIns := [], harness := (true, "e9b95bf607bfcd4528a56b9f5111ec734dd3cd10391ae553815f0691ff1f9a07"), looks := true }, kinds := [], alts := [], laidByText := true, laidKinds := [.data, .data, .data, .data, .pinned], laidTests := true, laidLooks := .later }
def TrustOthersUptoCardSaid : Prop := Claim7.holds Tryz.pinned (.plain (OpenSpec.upto trustOthersSpec)) trustOthersUptoCard

/-- THE SECOND FORM's CARD OF 'planispherelaw30.TrustMarks'. -/
def trustMarksUptoCard : Claim7 := { stood := { row := trustMarksUptoRow, standIns := [], harness := (true, "e9b95bf607bfcd4528a56b9f5111ec734dd3cd10391ae553815f0691ff1f9a07"), looks := true }, kinds := [], alts := [], laidByText := true, laidKinds := [.data, .data, .data, .data, .pinned], laidTests := true, laidLooks := .later }
def TrustMarksUptoCardSaid : Prop := Claim7.holds Tryz.pinned (.plain (OpenSpec.upto trustMarksSpec)) trustMarksUptoCard
end Rows
end Go.Proofs.YtniklmikdkjgiaaGreatDoor
