/-
  DERIVED. GIVEN WITH THE SEED: THE CARDS: each row of YtlcbehhbfglgaaaGreatDoorRows.lean that lists a variable, with what it lists TIED to the program's text (the seventh form; the later family's looks); each row that meets fmt, with fmt's text TOLD by the authors' own Lean function (tested against real Go, not proved from fmt's source: count such statements apart). THE CARD IS WHAT COUNTS. Prove the row's statement (the work); the ties are given (YtlcbehhbfglgaaaGreatDoorTie.lean); close each card by the builder's one call (the guide's Derived/Test/ToyasCard.lean, 'card_holds'). Laid BY PROGRAM, IN A SANDBOX (cutbox-door.mjs). By AI agents, Wed Nov 11 2026. No macro, syntax, notation, axiom, sorry.
-/
import Derived.Test.YtlcbehhbfglgaaaGreatDoorRows
import GoSem.ClaimSeven
namespace Go.Proofs.YtlcbehhbfglgaaaGreatDoor
namespace Rows

/-- THE TIED CARD OF 'rollupslaw.Views'. -/
def viewsCard : Claim7 := { stood := { row := viewsRow, standIns := [], harness := (true, "5f9b553737c49c39154d28e759f7273cb416c972bbacf44aba8fd4c471e003d3"), looks := true }, kinds := [], alts := [], goes := true, laidByText := true, laidKinds := [.handle], laidTests := true, laidLooks := .later }
def ViewsCardSaid : Prop := Claim7.holds Tryz.pinned (.plain (OpenSpec.ofChange viewsSpec)) viewsCard

/-- THE TIED CARD OF 'rollupslaw.All'. -/
def allCard : Claim7 := { stood := { row := allRow, standIns := [], harness := (true, "5f9b553737c49c39154d28e759f7273cb416c972bbacf44aba8fd4c471e003d3"), looks := true }, kinds := [], alts := [], goes := true, laidByText := true, laidKinds := [.handle], laidTests := true, laidLooks := .later }
def AllCardSaid : Prop := Claim7.holds Tryz.pinned (.plain (OpenSpec.ofChange allSpec)) allCard

/-- THE TIED CARD OF 'rollupskeep.Middle'. -/
def middleCard : Claim7 := { stood := { row := middleRow, standIns := [], harness := (true, "5f9b553737c49c39154d28e759f7273cb416c972bbacf44aba8fd4c471e003d3"), looks := true }, kinds := [], alts := [], goes := true, laidByText := true, laidKinds := [.handle], laidTests := true, laidLooks := .later }
def MiddleCardSaid : Prop := Claim7.holds Tryz.pinned (.plain (OpenSpec.ofChange middleSpec)) middleCard

/-- THE TIED CARD OF 'rollupskeep.Viewless'. -/
def viewlessCard : Claim7 := { stood := { row := viewlessRow, standIns := [], harness := (true, "5f9b553737c49c39154d28e759f7273cb416c972bbacf44aba8fd4c471e003d3"), looks := true }, kinds := [], alts := [], goes := true, laidByText := true, laidKinds := [.handle], laidTests := true, laidLooks := .later }
def ViewlessCardSaid : Prop := Claim7.holds Tryz.pinned (.plain (OpenSpec.ofChange viewlessSpec)) viewlessCard

/-- THE TIED CARD OF 'rollupskeep.Whole'. -/
def wholeCard : Claim7 := { stood := { row := wholeRow, standIns := [], harness := (true, "5f9b553737c49c39154d28e759f7273cb416c972bbacf44aba8fd4c471e003d3"), looks := true }, kinds := [], alts := [], goes := true, laidByText := true, laidKinds := [.handle], laidTests := true, laidLooks := .later }
def WholeCardSaid : Prop := Claim7.holds Tryz.pinned (.plain (OpenSpec.ofChange wholeSpec)) wholeCard

/-- THE TIED CARD OF 'rollupskeep.Bytes'. -/
def bytesCard : Claim7 := { stood := { row := bytesRow, standIns := [], harness := (true, "5f9b553737c49c39154d28e759f7273cb416c972bbacf44aba8fd4c471e003d3"), looks := true }, kinds := [], alts := [], goes := true, laidByText := true, laidKinds := [.handle], laidTests := true, laidLooks := .later }
def BytesCardSaid : Prop := Claim7.holds Tryz.pinned (.plain (OpenSpec.ofChange bytesSpec)) bytesCard

/-- THE TIED CARD OF 'rollupskeep.Back'. -/
def backCard : Claim7 := { stood := { row := backRow, standIns := [], harness := (true, "5f9b553737c49c39154d28e759f7273cb416c972bbacf44aba8fd4c471e003d3"), looks := true }, kinds := [], alts := [], goes := true, laidByText := true, laidKinds := [.handle], laidTests := true, laidLooks := .later }
def BackCardSaid : Prop := Claim7.holds Tryz.pinned (.plain (OpenSpec.ofChange backSpec)) backCard

/-- THE TIED CARD OF 'rollupslaw.Ingests'. -/
def ingestsCard : Claim7 := { stood := { row := ingestsRow, standIns := [], harness := (true, "5f9b553737c49c39154d28e759f7273cb416c972bbacf44aba8fd4c471e003d3"), looks := true }, kinds := [], alts := [], goes := true, laidByText := true, laidKinds := [.handle], laidTests := true, laidLooks := .later }
def IngestsCardSaid : Prop := Claim7.holds Tryz.pinned (.plain (OpenSpec.ofChange ingestsSpec)) ingestsCard

/-- THE SECOND FORM's CARD OF 'rollupslaw.Views'. -/
def viewsUptoCard : Claim7 := { stood := { row := viewsUptoRow, standIns := [], harness := (true, "5f9b553737c49c39154d28e759f7273cb416c972bbacf44aba8fd4c471e003d3"), looks := true }, kinds := [], alts := [], goes := true, laidByText := true, laidKinds := [.handle], laidTests := true, laidLooks := .later }
def ViewsUptoCardSaid : Prop := Claim7.holds Tryz.pinned (.plain (OpenSpec.upto viewsSpec)) viewsUptoCard

/-- THE SECOND FORM's CARD OF 'rollupslaw.All'. -/
def allUptoCard : Claim7 := { stood := { row := allUptoRow, standIns := [], harness := (true, "5f9b553737c49c39154d28e759f7273cb416c972bbacf44aba8fd4c471e003d3"), looks := true }, kinds := [], alts := [], goes := true, laidByText := true, laidKinds := [.handle], laidTests := true, laidLooks := .later }
def AllUptoCardSaid : Prop := Claim7.holds Tryz.pinned (.plain (OpenSpec.upto allSpec)) allUptoCard

/-- THE SECOND FORM's CARD OF 'rollupskeep.Middle'. -/
def middleUptoCard : Claim7 := { stood := { row := middleUptoRow, standIns := [], harness := (true, "5f9b553737c49c39154d28e759f7273cb416c972bbacf44aba8fd4c471e003d3"), looks := true }, kinds := [], alts := [], goes := true, laidByText := true, laidKinds := [.handle], laidTests := true, laidLooks := .later }
def MiddleUptoCardSaid : Prop := Claim7.holds Tryz.pinned (.plain (OpenSpec.upto middleSpec)) middleUptoCard

/-- THE SECOND FORM's CARD OF 'rollupskeep.Viewless'. -/
def viewlessUptoCard : Claim7 := { stood := { row := viewlessUptoRow, standIns := [], harness := (true, "5f9b553737c49c39154d28e759f7273cb416c972bbacf44aba8fd4c471e003d3"), looks := true }, kinds := [], alts := [], goes := true, laidByText := true, laidKinds := [.handle], laidTests := true, laidLooks := .later }
def ViewlessUptoCardSaid : Prop := Claim7.holds Tryz.pinned (.plain (OpenSpec.upto viewlessSpec)) viewlessUptoCard

/-- THE SECOND FORM's CARD OF 'rollupskeep.Whole'. -/
def wholeUptoCard : Claim7 := { stood := { row := wholeUptoRow, standIns := [], harness := (true, "5f9b553737c49c39154d28e759f7273cb416c972bbacf44aba8fd4c471e003d3"), looks := true }, kinds := [], alts := [], goes := true, laidByText := true, laidKinds := [.handle], laidTests := true, laidLooks := .later }
def WholeUptoCardSaid : Prop := Claim7.holds Tryz.pinned (.plain (OpenSpec.upto wholeSpec)) wholeUptoCard

/-- THE SECOND FORM's CARD OF 'rollupskeep.Bytes'. -/
def bytesUptoCard : Claim7 := { stood := { row := bytesUptoRow, standIns := [], harness := (true, "5f9b553737c49c39154d28e759f7273cb416c972bbacf44aba8fd4c471e003d3"), looks := true }, kinds := [], alts := [], goes := true, laidByText := true, laidKinds := [.handle], laidTests := true, laidLooks := .later }
def BytesUptoCardSaid : Prop := Claim7.holds Tryz.pinned (.plain (OpenSpec.upto bytesSpec)) bytesUptoCard

/-- THE SECOND FORM's CARD OF 'rollupskeep.Back'. -/
def backUptoCard : Claim7 := { stood := { row := backUptoRow, standIns := [], harness := (true, "5f9b553737c49c39154d28e759f7273cb416c972bbacf44aba8fd4c471e003d3"), looks := true }, kinds := [], alts := [], goes := true, laidByText := true, laidKinds := [.handle], laidTests := true, laidLooks := .later }
def BackUptoCardSaid : Prop := Claim7.holds Tryz.pinned (.plain (OpenSpec.upto backSpec)) backUptoCard

/-- THE SECOND FORM's CARD OF 'rollupslaw.Ingests'. -/
def ingestsUptoCard : Claim7 := { stood := { row := ingestsUptoRow, standIns := [], harness := (true, "5f9b553737c49c39154d28e759f7273cb416c972bbacf44aba8fd4c471e003d3"), looks := true }, kinds := [], alts := [], goes := true, laidByText := true, laidKinds := [.handle], laidTests := true, laidLooks := .later }
def IngestsUptoCardSaid : Prop := Claim7.holds Tryz.pinned (.plain (OpenSpec.upto ingestsSpec)) ingestsUptoCard
end Rows
end Go.Proofs.YtlcbehhbfglgaaaGreatDoor
