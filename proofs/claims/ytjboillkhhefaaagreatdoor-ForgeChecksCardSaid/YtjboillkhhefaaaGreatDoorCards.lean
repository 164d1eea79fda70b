/-
  DERIVED. GIVEN WITH THE SEED: THE CARDS: each row of YtjboillkhhefaaaGreatDoorRows.lean that lists a variable, with what it lists TIED to the program's text (the seventh form; the later family's looks); each row that meets fmt, with fmt's text TOLD by the authors' own Lean function (tested against real Go, not proved from fmt's source: count such statements apart). THE CARD IS WHAT COUNTS. Prove the row's statement (the work); the ties are given (YtjboillkhhefaaaGreatDoorTie.lean); close each card by the builder's one call (the guide's Derived/Test/ToyasCard.lean, 'card_holds'). Laid BY PROGRAM, IN A SANDBOX (cutbox-door.mjs). By AI agents, Wed Nov 11 2026. No macro, syntax, notation, axiom, sorry.
-/
import Derived.Test.YtjboillkhhefaaaGreatDoorRows
import GoSem.ClaimSeven
namespace Go.Proofs.YtjboillkhhefaaaGreatDoor
namespace Rows

/-- THE TIED CARD OF 'anabranchlaw40.ForgeChecks'. -/
def forgeChecksCard : Claim7 := { stood := { row := forgeChecksRow, standIns := [], harness := (true, "78d8e8b32ff1c3258da19b190bd5d17b82b9046438c362e3a41b5a6e0e45f64b"), looks := true }, kinds := [], alts := [], laidByText := true, laidKinds := [.handle], laidTests := true, laidLooks := .later }
def ForgeChecksCardSaid : Prop := Claim7.holds Tryz.pinned (.plain (OpenSpec.ofChange forgeChecksSpec)) forgeChecksCard

/-- THE TIED CARD OF 'anabranchlaw40.ForgeBytes'. -/
def forgeBytesCard : Claim7 := { stood := { row := forgeBytesRow, standIns := [], harness := (true, "78d8e8b32ff1c3258da19b190bd5d17b82b9046438c362e3a41b5a6e0e45f64b"), looks := true }, kinds := [], alts := [], laidByText := true, laidKinds := [.handle], laidTests := true, laidLooks := .later }
def ForgeBytesCardSaid : Prop := Claim7.holds Tryz.pinned (.plain (OpenSpec.ofChange forgeBytesSpec)) forgeBytesCard

/-- THE TIED CARD OF 'anabranchlaw40.ForgeNone'. -/
def forgeNoneCard : Claim7 := { stood := { row := forgeNoneRow, standIns := [], harness := (true, "78d8e8b32ff1c3258da19b190bd5d17b82b9046438c362e3a41b5a6e0e45f64b"), looks := true }, kinds := [], alts := [], laidByText := true, laidKinds := [.handle], laidTests := true, laidLooks := .later }
def ForgeNoneCardSaid : Prop := Claim7.holds Tryz.pinned (.plain (OpenSpec.ofChange forgeNoneSpec)) forgeNoneCard

/-- THE TIED CARD OF 'anabranchlaw40.ForgeJoins'. -/
def forgeJoinsCard : Claim7 := { stood := { row := forgeJoinsRow, standIns := [], harness := (true, "78d8e8b32ff1c3258da19b190bd5d17b82b9046438c362e3a41b5a6e0e45f64b"), looks := true }, kinds := [], alts := [], laidByText := true, laidKinds := [.handle], laidTests := true, laidLooks := .later }
def ForgeJoinsCardSaid : Prop := Claim7.holds Tryz.pinned (.plain (OpenSpec.ofChange forgeJoinsSpec)) forgeJoinsCard

/-- THE TIED CARD OF 'anabranchlaw40.ForgeGenuine'. -/
def forgeGenuineCard : Claim7 := { stood := { row := forgeGenuineRow, standIns := [], harness := (true, "78d8e8b32ff1c3258da19b190bd5d17b82b9046438c362e3a41b5a6e0e45f64b"), looks := true }, kinds := [], alts := [], laidByText := true, laidKinds := [.handle], laidTests := true, laidLooks := .later }
def ForgeGenuineCardSaid : Prop := Claim7.holds Tryz.pinned (.plain (OpenSpec.ofChange forgeGenuineSpec)) forgeGenuineCard

/-- THE SECOND FORM's CARD OF 'anabranchlaw40.ForgeChecks'. -/
def forgeChecksUptoCard : Claim7 := { stood := { row := forgeChecksUptoRow, standIns := [], harness := (true, "78d8e8b32ff1c3258da19b190bd5d17b82b9046438c362e3a41b5a6e0e45f64b"), looks := true }, kinds := [], alts := [], laidByText := true, laidKinds := [.handle], laidTests := true, laidLooks := .later }
def ForgeChecksUptoCardSaid : Prop := Claim7.holds Tryz.pinned (.plain (OpenSpec.upto forgeChecksSpec)) forgeChecksUptoCard

/-- THE SECOND FORM's CARD OF 'anabranchlaw40.ForgeBytes'. -/
def forgeBytesUptoCard : Claim7 := { stood := { row := forgeBytesUptoRow, standIns := [], harness := (true, "78d8e8b32ff1c3258da19b190bd5d17b82b9046438c362e3a41b5a6e0e45f64b"), looks := true }, kinds := [], alts := [], laidByText := true, laidKinds := [.handle], laidTests := true, laidLooks := .later }
def ForgeBytesUptoCardSaid : Prop := Claim7.holds Tryz.pinned (.plain (OpenSpec.upto forgeBytesSpec)) forgeBytesUptoCard

/-- THE SECOND FORM's CARD OF 'anabranchlaw40.ForgeNone'. -/
def forgeNoneUptoCard : Claim7 := { stood := { row := forgeNoneUptoRow, standIns := [], harness := (true, "78d8e8b32ff1c3258da19b190bd5d17b82b9046438c362e3a41b5a6e0e45f64b"), looks := true }, kinds := [], alts := [], laidByText := true, laidKinds := [.handle], laidTests := true, laidLooks := .later }
def ForgeNoneUptoCardSaid : Prop := Claim7.holds Tryz.pinned (.plain (OpenSpec.upto forgeNoneSpec)) forgeNoneUptoCard

/-- THE SECOND FORM's CARD OF 'anabranchlaw40.ForgeJoins'. -/
def forgeJoinsUptoCard : Claim7 := { stood := { row := forgeJoinsUptoRow, standIns := [], harness := (true, "78d8e8b32ff1c3258da19b190bd5d17b82b9046438c362e3a41b5a6e0e45f64b"), looks := true }, kinds := [], alts := [], laidByText := true, laidKinds := [.handle], laidTests := true, laidLooks := .later }
def ForgeJoinsUptoCardSaid : Prop := Claim7.holds Tryz.pinned (.plain (OpenSpec.upto forgeJoinsSpec)) forgeJoinsUptoCard

/-- THE SECOND FORM's CARD OF 'anabranchlaw40.ForgeGenuine'. -/
def forgeGenuineUptoCard : Claim7 := { stood := { row := forgeGenuineUptoRow, standIns := [], harness := (true, "78d8e8b32ff1c3258da19b190bd5d17b82b9046438c362e3a41b5a6e0e45f64b"), looks := true }, kinds := [], alts := [], laidByText := true, laidKinds := [.handle], laidTests := true, laidLooks := .later }
def ForgeGenuineUptoCardSaid : Prop := Claim7.holds Tryz.pinned (.plain (OpenSpec.upto forgeGenuineSpec)) forgeGenuineUptoCard
end Rows
end Go.Proofs.YtjboillkhhefaaaGreatDoor
