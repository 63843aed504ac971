/-
  DERIVED. GIVEN WITH THE SEED: THE CARDS: each row of YthceonkdmcidcaaDoorRows.lean that lists a variable, with what it lists TIED to the program's text (the seventh form; the later family's looks); each row that meets fmt, with fmt's text TOLD by the authors' own Lean function (tested against real Go, not proved from fmt's source: count such statements apart). THE CARD IS WHAT COUNTS. Prove the row's statement (the work); the ties are given (YthceonkdmcidcaaDoorTie.lean); close each card by the builder's one call (the guide's Derived/Test/ToyasCard.lean, 'card_holds'). Laid BY PROGRAM, IN A SANDBOX (cutbox-door.mjs). By AI agents, Wed Nov 11 2026. No macro, syntax, notation, axiom, sorry.
-/
import Derived.Test.YthceonkdmcidcaaDoorRows
import GoSem.ClaimSeven
namespace Go.Proofs.YthceonkdmcidcaaDoor
namespace Rows

/-- THE TIED CARD OF 'planispherelaw02.SealMatchesReference'. -/
def sealMatchesReferenceCard : Claim7 := { stood := { row := sealMatchesReferenceRow, standIns := [], harness := (true, "6d5d7972ca4e263bfb0721841e50fb06729b738574f455735d72852207e78489"), looks := false }, kinds := [], alts := [], laidByText := true, laidKinds := [.data, .data, .data, .data, .pinned], laidTests := true, laidLooks := .later }
def SealMatchesReferenceCardSaid : Prop := Claim7.holds Tryd.pinned (.plain (OpenSpec.ofChange sealMatchesReferenceSpec)) sealMatchesReferenceCard

/-- THE TIED CARD OF 'planispherelaw02.SealVerifies'. -/
def sealVerifiesCard : Claim7 := { stood := { row := sealVerifiesRow, standIns := [], harness := (true, "6d5d7972ca4e263bfb0721841e50fb06729b738574f455735d72852207e78489"), looks := false }, kinds := [], alts := [], laidByText := true, laidKinds := [.data, .data, .data, .data, .pinned], laidTests := true, laidLooks := .later }
def SealVerifiesCardSaid : Prop := Claim7.holds Tryd.pinned (.plain (OpenSpec.ofChange sealVerifiesSpec)) sealVerifiesCard

/-- THE TIED CARD OF 'planispherelaw02.SealSound'. -/
def sealSoundCard : Claim7 := { stood := { row := sealSoundRow, standIns := [], harness := (true, "6d5d7972ca4e263bfb0721841e50fb06729b738574f455735d72852207e78489"), looks := false }, kinds := [], alts := [], laidByText := true, laidKinds := [.data, .data, .data, .data, .pinned], laidTests := true, laidLooks := .later }
def SealSoundCardSaid : Prop := Claim7.holds Tryd.pinned (.plain (OpenSpec.ofChange sealSoundSpec)) sealSoundCard

/-- THE TIED CARD OF 'planispherelaw02.SealBinds'. -/
def sealBindsCard : Claim7 := { stood := { row := sealBindsRow, standIns := [], harness := (true, "6d5d7972ca4e263bfb0721841e50fb06729b738574f455735d72852207e78489"), looks := false }, kinds := [], alts := [], laidByText := true, laidKinds := [.data, .data, .data, .data, .pinned], laidTests := true, laidLooks := .later }
def SealBindsCardSaid : Prop := Claim7.holds Tryd.pinned (.plain (OpenSpec.ofChange sealBindsSpec)) sealBindsCard

/-- THE TIED CARD OF 'planispherelaw02.SealChanges'. -/
def sealChangesCard : Claim7 := { stood := { row := sealChangesRow, standIns := [], harness := (true, "6d5d7972ca4e263bfb0721841e50fb06729b738574f455735d72852207e78489"), looks := false }, kinds := [], alts := [], laidByText := true, laidKinds := [.data, .data, .data, .data, .pinned], laidTests := true, laidLooks := .later }
def SealChangesCardSaid : Prop := Claim7.holds Tryd.pinned (.plain (OpenSpec.ofChange sealChangesSpec)) sealChangesCard

/-- THE TIED CARD OF 'planispherelaw02.SealSecrets'. -/
def sealSecretsCard : Claim7 := { stood := { row := sealSecretsRow, standIns := [], harness := (true, "6d5d7972ca4e263bfb0721841e50fb06729b738574f455735d72852207e78489"), looks := false }, kinds := [], alts := [], laidByText := true, laidKinds := [.data, .data, .data, .data, .pinned], laidTests := true, laidLooks := .later }
def SealSecretsCardSaid : Prop := Claim7.holds Tryd.pinned (.plain (OpenSpec.ofChange sealSecretsSpec)) sealSecretsCard

/-- THE TIED CARD OF 'planispherelaw02.SealForm'. -/
def sealFormCard : Claim7 := { stood := { row := sealFormRow, standIns := [], harness := (true, "6d5d7972ca4e263bfb0721841e50fb06729b738574f455735d72852207e78489"), looks := false }, kinds := [], alts := [], laidByText := true, laidKinds := [.data, .data, .data, .data, .pinned], laidTests := true, laidLooks := .later }
def SealFormCardSaid : Prop := Claim7.holds Tryd.pinned (.plain (OpenSpec.ofChange sealFormSpec)) sealFormCard

/-- THE SECOND FORM's CARD OF 'planispherelaw02.SealMatchesReference'. -/
def sealMatchesReferenceUptoCard : Claim7 := { stood := { row := sealMatchesReferenceUptoRow, standIns := [], harness := (true, "6d5d7972ca4e263bfb0721841e50fb06729b738574f455735d72852207e78489"), looks := false }, kinds := [], alts := [], laidByText := true, laidKinds := [.data, .data, .data, .data, .pinned], laidTests := true, laidLooks := .later }
def SealMatchesReferenceUptoCardSaid : Prop := Claim7.holds Tryd.pinned (.plain (OpenSpec.upto sealMatchesReferenceSpec)) sealMatchesReferenceUptoCard

/-- THE SECOND FORM's CARD OF 'planispherelaw02.SealVerifies'. -/
def sealVerifiesUptoCard : Claim7 := { stood := { row := sealVerifiesUptoRow, standIns := [], harness := (true, "6d5d7972ca4e263bfb0721841e50fb06729b738574f455735d72852207e78489"), looks := false }, kinds := [], alts := [], laidByText := true, laidKinds := [.data, .data, .data, .data, .pinned], laidTests := true, laidLooks := .later }
def SealVerifiesUptoCardSaid : Prop := Claim7.holds Tryd.pinned (.plain (OpenSpec.upto sealVerifiesSpec)) sealVerifiesUptoCard

/-- THE SECOND FORM's CARD OF 'planispherelaw02.SealSound'. -/
def sealSoundUptoCard : Claim7 := { stood := { row := sealSoundUptoRow, standIns := [], harness := (true, "6d5d7972ca4e263bfb0721841e50fb06729b738574f455735d72852207e78489"), looks := false }, kinds := [], alts := [], laidByText := true, laidKinds := [.data, .data, .data, .data, .pinned], laidTests := true, laidLooks := .later }
def SealSoundUptoCardSaid : Prop := Claim7.holds Tryd.pinned (.plain (OpenSpec.upto sealSoundSpec)) sealSoundUptoCard

/-- THE SECOND FORM's CARD OF 'planispherelaw02.SealBinds'. -/
def sealBindsUptoCard : Claim7 := { stood := { row := sealBindsUptoRow, standIns := [], harness := (true, "6d5d7972ca4e263bfb0721841e50fb06729b738574f455735d72852207e78489"), looks := false }, kinds := [], alts := [], laidByText := true, laidKinds := [.data, .data, .data, .data, .pinned], laidTests := true, laidLooks := .later }
def SealBindsUptoCardSaid : Prop := Claim7.holds Tryd.pinned (.plain (OpenSpec.upto sealBindsSpec)) sealBindsUptoCard

/-- THE SECOND FORM's CARD OF 'planispherelaw02.SealChanges'. -/
def sealChangesUptoCard : Claim7 := { stood := { row := sealChangesUptoRow, standIns := [], harness := (true, "6d5d7972ca4e263bfb0721841e50fb06729b738574f455735d72852207e78489"), looks := false }, kinds := [], alts := [], laidByText := true, laidKinds := [.data, .data, .data, .data, .pinned], laidTests := true, laidLooks := .later }
def SealChangesUptoCardSaid : Prop := Claim7.holds Tryd.pinned (.plain (OpenSpec.upto sealChangesSpec)) sealChangesUptoCard

/-- THE SECOND FORM's CARD OF 'planispherelaw02.SealSecrets'. -/
def sealSecretsUptoCard : Claim7 := { stood := { row := sealSecretsUptoRow, standIns := [], harness := (true, "6d5d7972ca4e263bfb0721841e50fb06729b738574f455735d72852207e78489"), looks := false }, kinds := [], alts := [], laidByText := true, laidKinds := [.data, .data, .data, .data, .pinned], laidTests := true, laidLooks := .later }
def SealSecretsUptoCardSaid : Prop := Claim7.holds Tryd.pinned (.plain (OpenSpec.upto sealSecretsSpec)) sealSecretsUptoCard

/-- THE SECOND FORM's CARD OF 'planispherelaw02.SealForm'. -/
def sealFormUptoCard : Claim7 := { stood := { row := sealFormUptoRow, standIns := [], harness := (true, "6d5d7972ca4e263bfb0721841e50fb06729b738574f455735d72852207e78489"), looks := false }, kinds := [], alts := [], laidByText := true, laidKinds := [.data, .data, .data, .data, .pinned], laidTests := true, laidLooks := .later }
def SealFormUptoCardSaid : Prop := Claim7.holds Tryd.pinned (.plain (OpenSpec.upto sealFormSpec)) sealFormUptoCard
end Rows
end Go.Proofs.YthceonkdmcidcaaDoor
