/-
  DERIVED. GIVEN WITH THE SEED: THE CARDS: each row of YtpbnigpdpkfpaaaGreatDoorRows.lean that lists a variable, with what it lists TIED to the program's text (the seventh form; the later family's looks); each row that meets fmt, with fmt's text TOLD by the authors' own Lean function (tested against real Go, not proved from fmt's source: count such statements apart). THE CARD IS WHAT COUNTS. Prove the row's statement (the work); the ties are given (YtpbnigpdpkfpaaaGreatDoorTie.lean); close each card by the builder's one call (the guide's Derived/Test/ToyasCard.lean, 'card_holds'). Laid BY PROGRAM, IN A SANDBOX (cutbox-door.mjs). By AI agents, Wed Nov 11 2026. No macro, syntax, notation, axiom, sorry.
-/
import Derived.Test.YtpbnigpdpkfpaaaGreatDoorRows
import GoSem.ClaimSeven
namespace Go.Proofs.YtpbnigpdpkfpaaaGreatDoor
namespace Rows

/-- THE TIED CARD OF 'colporteurlaw6.ObjectAll'. -/
def objectAllCard : Claim7 := { stood := { row := objectAllRow, standIns := [], harness := (true, "947c12fce838673b0a5c4e5c861f5640aadb5e1f68ebef8f83e4c610744d6fb8"), looks := true }, kinds := [], alts := [], laidByText := true, laidKinds := [.data, .data, .data, .data, .sentinel, .sentinel, .pinned], laidTests := true, laidLooks := .later }
def ObjectAllCardSaid : Prop := Claim7.holds Tryz.pinned (.plain (OpenSpec.ofChange objectAllSpec)) objectAllCard

/-- THE TIED CARD OF 'colporteurlaw9.VaryEdges'. -/
def varyEdgesCard : Claim7 := { stood := { row := varyEdgesRow, standIns := [], harness := (true, "947c12fce838673b0a5c4e5c861f5640aadb5e1f68ebef8f83e4c610744d6fb8"), looks := true }, kinds := [], alts := [], laidByText := true, laidKinds := [.data, .data, .data, .data, .sentinel, .sentinel, .pinned], laidTests := true, laidLooks := .later }
def VaryEdgesCardSaid : Prop := Claim7.holds Tryz.pinned (.plain (OpenSpec.ofChange varyEdgesSpec)) varyEdgesCard

/-- THE TIED CARD OF 'colporteurlaw9.DeltaParts'. -/
def deltaPartsCard : Claim7 := { stood := { row := deltaPartsRow, standIns := [], harness := (true, "947c12fce838673b0a5c4e5c861f5640aadb5e1f68ebef8f83e4c610744d6fb8"), looks := true }, kinds := [], alts := [], laidByText := true, laidKinds := [.data, .data, .data, .data, .sentinel, .sentinel, .pinned], laidTests := true, laidLooks := .later }
def DeltaPartsCardSaid : Prop := Claim7.holds Tryz.pinned (.plain (OpenSpec.ofChange deltaPartsSpec)) deltaPartsCard

/-- THE TIED CARD OF 'colporteurlaw9.PackMany'. -/
def packManyCard : Claim7 := { stood := { row := packManyRow, standIns := [], harness := (true, "947c12fce838673b0a5c4e5c861f5640aadb5e1f68ebef8f83e4c610744d6fb8"), looks := true }, kinds := [], alts := [], laidByText := true, laidKinds := [.data, .data, .data, .data, .sentinel, .sentinel, .pinned], laidTests := true, laidLooks := .later }
def PackManyCardSaid : Prop := Claim7.holds Tryz.pinned (.plain (OpenSpec.ofChange packManySpec)) packManyCard

/-- THE TIED CARD OF 'colporteurlaw9.DeltaMake'. -/
def deltaMakeCard : Claim7 := { stood := { row := deltaMakeRow, standIns := [], harness := (true, "947c12fce838673b0a5c4e5c861f5640aadb5e1f68ebef8f83e4c610744d6fb8"), looks := true }, kinds := [], alts := [], laidByText := true, laidKinds := [.data, .data, .data, .data, .sentinel, .sentinel, .pinned], laidTests := true, laidLooks := .later }
def DeltaMakeCardSaid : Prop := Claim7.holds Tryz.pinned (.plain (OpenSpec.ofChange deltaMakeSpec)) deltaMakeCard

/-- THE TIED CARD OF 'colporteurlaw9.PackLoop'. -/
def packLoopCard : Claim7 := { stood := { row := packLoopRow, standIns := [], harness := (true, "947c12fce838673b0a5c4e5c861f5640aadb5e1f68ebef8f83e4c610744d6fb8"), looks := true }, kinds := [], alts := [], laidByText := true, laidKinds := [.data, .data, .data, .data, .sentinel, .sentinel, .pinned], laidTests := true, laidLooks := .later }
def PackLoopCardSaid : Prop := Claim7.holds Tryz.pinned (.plain (OpenSpec.ofChange packLoopSpec)) packLoopCard

/-- THE TIED CARD OF 'colporteurlaw9.PackNone'. -/
def packNoneCard : Claim7 := { stood := { row := packNoneRow, standIns := [], harness := (true, "947c12fce838673b0a5c4e5c861f5640aadb5e1f68ebef8f83e4c610744d6fb8"), looks := true }, kinds := [], alts := [], laidByText := true, laidKinds := [.data, .data, .data, .data, .sentinel, .sentinel, .pinned], laidTests := true, laidLooks := .later }
def PackNoneCardSaid : Prop := Claim7.holds Tryz.pinned (.plain (OpenSpec.ofChange packNoneSpec)) packNoneCard

/-- THE TIED CARD OF 'colporteurlaw9.DeltaSelf'. -/
def deltaSelfCard : Claim7 := { stood := { row := deltaSelfRow, standIns := [], harness := (true, "947c12fce838673b0a5c4e5c861f5640aadb5e1f68ebef8f83e4c610744d6fb8"), looks := true }, kinds := [], alts := [], laidByText := true, laidKinds := [.data, .data, .data, .data, .sentinel, .sentinel, .pinned], laidTests := true, laidLooks := .later }
def DeltaSelfCardSaid : Prop := Claim7.holds Tryz.pinned (.plain (OpenSpec.ofChange deltaSelfSpec)) deltaSelfCard

/-- THE TIED CARD OF 'colporteurlaw9.PackBehind'. -/
def packBehindCard : Claim7 := { stood := { row := packBehindRow, standIns := [], harness := (true, "947c12fce838673b0a5c4e5c861f5640aadb5e1f68ebef8f83e4c610744d6fb8"), looks := true }, kinds := [], alts := [], laidByText := true, laidKinds := [.data, .data, .data, .data, .sentinel, .sentinel, .pinned], laidTests := true, laidLooks := .later }
def PackBehindCardSaid : Prop := Claim7.holds Tryz.pinned (.plain (OpenSpec.ofChange packBehindSpec)) packBehindCard

/-- THE TIED CARD OF 'colporteurlaw9.PackKind'. -/
def packKindCard : Claim7 := { stood := { row := packKindRow, standIns := [], harness := (true, "947c12fce838673b0a5c4e5c861f5640aadb5e1f68ebef8f83e4c610744d6fb8"), looks := true }, kinds := [], alts := [], laidByText := true, laidKinds := [.data, .data, .data, .data, .sentinel, .sentinel, .pinned], laidTests := true, laidLooks := .later }
def PackKindCardSaid : Prop := Claim7.holds Tryz.pinned (.plain (OpenSpec.ofChange packKindSpec)) packKindCard

/-- THE TIED CARD OF 'colporteurlaw9.ThinAll'. -/
def thinAllCard : Claim7 := { stood := { row := thinAllRow, standIns := [], harness := (true, "947c12fce838673b0a5c4e5c861f5640aadb5e1f68ebef8f83e4c610744d6fb8"), looks := true }, kinds := [], alts := [], laidByText := true, laidKinds := [.data, .data, .data, .data, .sentinel, .sentinel, .pinned], laidTests := true, laidLooks := .later }
def ThinAllCardSaid : Prop := Claim7.holds Tryz.pinned (.plain (OpenSpec.ofChange thinAllSpec)) thinAllCard

/-- THE TIED CARD OF 'colporteurlaw9.ThinSame'. -/
def thinSameCard : Claim7 := { stood := { row := thinSameRow, standIns := [], harness := (true, "947c12fce838673b0a5c4e5c861f5640aadb5e1f68ebef8f83e4c610744d6fb8"), looks := true }, kinds := [], alts := [], laidByText := true, laidKinds := [.data, .data, .data, .data, .sentinel, .sentinel, .pinned], laidTests := true, laidLooks := .later }
def ThinSameCardSaid : Prop := Claim7.holds Tryz.pinned (.plain (OpenSpec.ofChange thinSameSpec)) thinSameCard

/-- THE SECOND FORM's CARD OF 'colporteurlaw6.ObjectAll'. -/
def objectAllUptoCard : Claim7 := { stood := { row := objectAllUptoRow, standIns := [], harness := (true, "947c12fce838673b0a5c4e5c861f5640aadb5e1f68ebef8f83e4c610744d6fb8"), looks := true }, kinds := [], alts := [], laidByText := true, laidKinds := [.data, .data, .data, .data, .sentinel, .sentinel, .pinned], laidTests := true, laidLooks := .later }
def ObjectAllUptoCardSaid : Prop := Claim7.holds Tryz.pinned (.plain (OpenSpec.upto objectAllSpec)) objectAllUptoCard

/-- THE SECOND FORM's CARD OF 'colporteurlaw9.VaryEdges'. -/
def varyEdgesUptoCard : Claim7 := { stood := { row := varyEdgesUptoRow, standIns := [], harness := (true, "947c12fce838673b0a5c4e5c861f5640aadb5e1f68ebef8f83e4c610744d6fb8"), looks := true }, kinds := [], alts := [], laidByText := true, laidKinds := [.data, .data, .data, .data, .sentinel, .sentinel, .pinned], laidTests := true, laidLooks := .later }
def VaryEdgesUptoCardSaid : Prop := Claim7.holds Tryz.pinned (.plain (OpenSpec.upto varyEdgesSpec)) varyEdgesUptoCard

/-- THE SECOND FORM's CARD OF 'colporteurlaw9.DeltaParts'. -/
def deltaPartsUptoCard : Claim7 := { stood := { row := deltaPartsUptoRow, standIns := [], harness := (true, "947c12fce838673b0a5c4e5c861f5640aadb5e1f68ebef8f83e4c610744d6fb8"), looks := true }, kinds := [], alts := [], laidByText := true, laidKinds := [.data, .data, .data, .data, .sentinel, .sentinel, .pinned], laidTests := true, laidLooks := .later }
def DeltaPartsUptoCardSaid : Prop := Claim7.holds Tryz.pinned (.plain (OpenSpec.upto deltaPartsSpec)) deltaPartsUptoCard

/-- THE SECOND FORM's CARD OF 'colporteurlaw9.PackMany'. -/
def packManyUptoCard : Claim7 := { stood := { row := packManyUptoRow, standIns := [], harness := (true, "947c12fce838673b0a5c4e5c861f5640aadb5e1f68ebef8f83e4c610744d6fb8"), looks := true }, kinds := [], alts := [], laidByText := true, laidKinds := [.data, .data, .data, .data, .sentinel, .sentinel, .pinned], laidTests := true, laidLooks := .later }
def PackManyUptoCardSaid : Prop := Claim7.holds Tryz.pinned (.plain (OpenSpec.upto packManySpec)) packManyUptoCard

/-- THE SECOND FORM's CARD OF 'colporteurlaw9.DeltaMake'. -/
def deltaMakeUptoCard : Claim7 := { stood := { row := deltaMakeUptoRow, standIns := [], harness := (true, "947c12fce838673b0a5c4e5c861f5640aadb5e1f68ebef8f83e4c610744d6fb8"), looks := true }, kinds := [], alts := [], laidByText := true, laidKinds := [.data, .data, .data, .data, .sentinel, .sentinel, .pinned], laidTests := true, laidLooks := .later }
def DeltaMakeUptoCardSaid : Prop := Claim7.holds Tryz.pinned (.plain (OpenSpec.upto deltaMakeSpec)) deltaMakeUptoCard

/-- THE SECOND FORM's CARD OF 'colporteurlaw9.PackLoop'. -/
def packLoopUptoCard : Claim7 := { stood := { row := packLoopUptoRow, standIns := [], harness := (true, "947c12fce838673b0a5c4e5c861f5640aadb5e1f68ebef8f83e4c610744d6fb8"), looks := true }, kinds := [], alts := [], laidByText := true, laidKinds := [.data, .data, .data, .data, .sentinel, .sentinel, .pinned], laidTests := true, laidLooks := .later }
def PackLoopUptoCardSaid : Prop := Claim7.holds Tryz.pinned (.plain (OpenSpec.upto packLoopSpec)) packLoopUptoCard

/-- THE SECOND FORM's CARD OF 'colporteurlaw9.PackNone'. -/
def packNoneUptoCard : Claim7 := { stood := { row := packNoneUptoRow, standIns := [], harness := (true, "947c12fce838673b0a5c4e5c861f5640aadb5e1f68ebef8f83e4c610744d6fb8"), looks := true }, kinds := [], alts := [], laidByText := true, laidKinds := [.data, .data, .data, .data, .sentinel, .sentinel, .pinned], laidTests := true, laidLooks := .later }
def PackNoneUptoCardSaid : Prop := Claim7.holds Tryz.pinned (.plain (OpenSpec.upto packNoneSpec)) packNoneUptoCard

/-- THE SECOND FORM's CARD OF 'colporteurlaw9.DeltaSelf'. -/
def deltaSelfUptoCard : Claim7 := { stood := { row := deltaSelfUptoRow, standIns := [], harness := (true, "947c12fce838673b0a5c4e5c861f5640aadb5e1f68ebef8f83e4c610744d6fb8"), looks := true }, kinds := [], alts := [], laidByText := true, laidKinds := [.data, .data, .data, .data, .sentinel, .sentinel, .pinned], laidTests := true, laidLooks := .later }
def DeltaSelfUptoCardSaid : Prop := Claim7.holds Tryz.pinned (.plain (OpenSpec.upto deltaSelfSpec)) deltaSelfUptoCard

/-- THE SECOND FORM's CARD OF 'colporteurlaw9.PackBehind'. -/
def packBehindUptoCard : Claim7 := { stood := { row := packBehindUptoRow, standIns := [], harness := (true, "947c12fce838673b0a5c4e5c861f5640aadb5e1f68ebef8f83e4c610744d6fb8"), looks := true }, kinds := [], alts := [], laidByText := true, laidKinds := [.data, .data, .data, .data, .sentinel, .sentinel, .pinned], laidTests := true, laidLooks := .later }
def PackBehindUptoCardSaid : Prop := Claim7.holds Tryz.pinned (.plain (OpenSpec.upto packBehindSpec)) packBehindUptoCard

/-- THE SECOND FORM's CARD OF 'colporteurlaw9.PackKind'. -/
def packKindUptoCard : Claim7 := { stood := { row := packKindUptoRow, standIns := [], harness := (true, "947c12fce838673b0a5c4e5c861f5640aadb5e1f68ebef8f83e4c610744d6fb8"), looks := true }, kinds := [], alts := [], laidByText := true, laidKinds := [.data, .data, .data, .data, .sentinel, .sentinel, .pinned], laidTests := true, laidLooks := .later }
def PackKindUptoCardSaid : Prop := Claim7.holds Tryz.pinned (.plain (OpenSpec.upto packKindSpec)) packKindUptoCard

/-- THE SECOND FORM's CARD OF 'colporteurlaw9.ThinAll'. -/
def thinAllUptoCard : Claim7 := { stood := { row := thinAllUptoRow, standIns := [], harness := (true, "947c12fce838673b0a5c4e5c861f5640aadb5e1f68ebef8f83e4c610744d6fb8"), looks := true }, kinds := [], alts := [], laidByText := true, laidKinds := [.data, .data, .data, .data, .sentinel, .sentinel, .pinned], laidTests := true, laidLooks := .later }
def ThinAllUptoCardSaid : Prop := Claim7.holds Tryz.pinned (.plain (OpenSpec.upto thinAllSpec)) thinAllUptoCard

/-- THE SECOND FORM's CARD OF 'colporteurlaw9.ThinSame'. -/
def thinSameUptoCard : Claim7 := { stood := { row := thinSameUptoRow, standIns := [], harness := (true, "947c12fce838673b0a5c4e5c861f5640aadb5e1f68ebef8f83e4c610744d6fb8"), looks := true }, kinds := [], alts := [], laidByText := true, laidKinds := [.data, .data, .data, .data, .sentinel, .sentinel, .pinned], laidTests := true, laidLooks := .later }
def ThinSameUptoCardSaid : Prop := Claim7.holds Tryz.pinned (.plain (OpenSpec.upto thinSameSpec)) thinSameUptoCard
end Rows
end Go.Proofs.YtpbnigpdpkfpaaaGreatDoor
