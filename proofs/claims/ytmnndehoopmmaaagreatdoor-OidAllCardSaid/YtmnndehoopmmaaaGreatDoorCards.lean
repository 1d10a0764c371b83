/-
  DERIVED. GIVEN WITH THE SEED: THE CARDS: each row of YtmnndehoopmmaaaGreatDoorRows.lean that lists a variable, with what it lists TIED to the program's text (the seventh form; the later family's looks); each row that meets fmt, with fmt's text TOLD by the authors' own Lean function (tested against real Go, not proved from fmt's source: count such statements apart). THE CARD IS WHAT COUNTS. Prove the row's statement (the work); the ties are given (YtmnndehoopmmaaaGreatDoorTie.lean); close each card by the builder's one call (the guide's Derived/Test/ToyasCard.lean, 'card_holds'). Laid BY PROGRAM, IN A SANDBOX (cutbox-door.mjs). By AI agents, Wed Nov 11 2026. No macro, syntax, notation, axiom, sorry.
-/
import Derived.Test.YtmnndehoopmmaaaGreatDoorRows
import GoSem.ClaimSeven
namespace Go.Proofs.YtmnndehoopmmaaaGreatDoor
namespace Rows

/-- THE TIED CARD OF 'colporteurlaw1.LineDigits'. -/
def lineDigitsCard : Claim7 := { stood := { row := lineDigitsRow, standIns := [], harness := (true, "6f59ab7a00d3cf06040e7bd7cea1c9bfcf0d310a27987686a6d88fad60fd38b3"), looks := true }, kinds := [], alts := [], laidByText := true, laidKinds := [.data, .data, .data, .data, .sentinel, .sentinel, .pinned], laidTests := true, laidLooks := .later }
def LineDigitsCardSaid : Prop := Claim7.holds Tryz.pinned (.plain (OpenSpec.ofChange lineDigitsSpec)) lineDigitsCard

/-- THE TIED CARD OF 'colporteurlaw1.WhenBits'. -/
def whenBitsCard : Claim7 := { stood := { row := whenBitsRow, standIns := [], harness := (true, "6f59ab7a00d3cf06040e7bd7cea1c9bfcf0d310a27987686a6d88fad60fd38b3"), looks := true }, kinds := [], alts := [], laidByText := true, laidKinds := [.data, .data, .data, .data, .sentinel, .sentinel, .pinned], laidTests := true, laidLooks := .later }
def WhenBitsCardSaid : Prop := Claim7.holds Tryz.pinned (.plain (OpenSpec.ofChange whenBitsSpec)) whenBitsCard

/-- THE TIED CARD OF 'colporteurlaw1.WhenAll'. -/
def whenAllCard : Claim7 := { stood := { row := whenAllRow, standIns := [], harness := (true, "6f59ab7a00d3cf06040e7bd7cea1c9bfcf0d310a27987686a6d88fad60fd38b3"), looks := true }, kinds := [], alts := [], laidByText := true, laidKinds := [.data, .data, .data, .data, .sentinel, .sentinel, .pinned], laidTests := true, laidLooks := .later }
def WhenAllCardSaid : Prop := Claim7.holds Tryz.pinned (.plain (OpenSpec.ofChange whenAllSpec)) whenAllCard

/-- THE TIED CARD OF 'colporteurlaw1.WhenHuge'. -/
def whenHugeCard : Claim7 := { stood := { row := whenHugeRow, standIns := [], harness := (true, "6f59ab7a00d3cf06040e7bd7cea1c9bfcf0d310a27987686a6d88fad60fd38b3"), looks := true }, kinds := [], alts := [], laidByText := true, laidKinds := [.data, .data, .data, .data, .sentinel, .sentinel, .pinned], laidTests := true, laidLooks := .later }
def WhenHugeCardSaid : Prop := Claim7.holds Tryz.pinned (.plain (OpenSpec.ofChange whenHugeSpec)) whenHugeCard

/-- THE TIED CARD OF 'colporteurlaw1.OidSort'. -/
def oidSortCard : Claim7 := { stood := { row := oidSortRow, standIns := [], harness := (true, "6f59ab7a00d3cf06040e7bd7cea1c9bfcf0d310a27987686a6d88fad60fd38b3"), looks := true }, kinds := [], alts := [], laidByText := true, laidKinds := [.data, .data, .data, .data, .sentinel, .sentinel, .pinned], laidTests := true, laidLooks := .later }
def OidSortCardSaid : Prop := Claim7.holds Tryz.pinned (.plain (OpenSpec.ofChange oidSortSpec)) oidSortCard

/-- THE TIED CARD OF 'colporteurlaw1.OidAll'. -/
def oidAllCard : Claim7 := { stood := { row := oidAllRow, standIns := [], harness := (true, "6f59ab7a00d3cf06040e7bd7cea1c9bfcf0d310a27987686a6d88fad60fd38b3"), looks := true }, kinds := [], alts := [], laidByText := true, laidKinds := [.data, .data, .data, .data, .sentinel, .sentinel, .pinned], laidTests := true, laidLooks := .later }
def OidAllCardSaid : Prop := Claim7.holds Tryz.pinned (.plain (OpenSpec.ofChange oidAllSpec)) oidAllCard

/-- THE TIED CARD OF 'colporteurlaw1.LineNone'. -/
def lineNoneCard : Claim7 := { stood := { row := lineNoneRow, standIns := [], harness := (true, "6f59ab7a00d3cf06040e7bd7cea1c9bfcf0d310a27987686a6d88fad60fd38b3"), looks := true }, kinds := [], alts := [], laidByText := true, laidKinds := [.data, .data, .data, .data, .sentinel, .sentinel, .pinned], laidTests := true, laidLooks := .later }
def LineNoneCardSaid : Prop := Claim7.holds Tryz.pinned (.plain (OpenSpec.ofChange lineNoneSpec)) lineNoneCard

/-- THE SECOND FORM's CARD OF 'colporteurlaw1.LineDigits'. -/
def lineDigitsUptoCard : Claim7 := { stood := { row := lineDigitsUptoRow, standIns := [], harness := (true, "6f59ab7a00d3cf06040e7bd7cea1c9bfcf0d310a27987686a6d88fad60fd38b3"), looks := true }, kinds := [], alts := [], laidByText := true, laidKinds := [.data, .data, .data, .data, .sentinel, .sentinel, .pinned], laidTests := true, laidLooks := .later }
def LineDigitsUptoCardSaid : Prop := Claim7.holds Tryz.pinned (.plain (OpenSpec.upto lineDigitsSpec)) lineDigitsUptoCard

/-- THE SECOND FORM's CARD OF 'colporteurlaw1.WhenBits'. -/
def whenBitsUptoCard : Claim7 := { stood := { row := whenBitsUptoRow, standIns := [], harness := (true, "6f59ab7a00d3cf06040e7bd7cea1c9bfcf0d310a27987686a6d88fad60fd38b3"), looks := true }, kinds := [], alts := [], laidByText := true, laidKinds := [.data, .data, .data, .data, .sentinel, .sentinel, .pinned], laidTests := true, laidLooks := .later }
def WhenBitsUptoCardSaid : Prop := Claim7.holds Tryz.pinned (.plain (OpenSpec.upto whenBitsSpec)) whenBitsUptoCard

/-- THE SECOND FORM's CARD OF 'colporteurlaw1.WhenAll'. -/
def whenAllUptoCard : Claim7 := { stood := { row := whenAllUptoRow, standIns := [], harness := (true, "6f59ab7a00d3cf06040e7bd7cea1c9bfcf0d310a27987686a6d88fad60fd38b3"), looks := true }, kinds := [], alts := [], laidByText := true, laidKinds := [.data, .data, .data, .data, .sentinel, .sentinel, .pinned], laidTests := true, laidLooks := .later }
def WhenAllUptoCardSaid : Prop := Claim7.holds Tryz.pinned (.plain (OpenSpec.upto whenAllSpec)) whenAllUptoCard

/-- THE SECOND FORM's CARD OF 'colporteurlaw1.WhenHuge'. -/
def whenHugeUptoCard : Claim7 := { stood := { row := whenHugeUptoRow, standIns := [], harness := (true, "6f59ab7a00d3cf06040e7bd7cea1c9bfcf0d310a27987686a6d88fad60fd38b3"), looks := true }, kinds := [], alts := [], laidByText := true, laidKinds := [.data, .data, .data, .data, .sentinel, .sentinel, .pinned], laidTests := true, laidLooks := .later }
def WhenHugeUptoCardSaid : Prop := Claim7.holds Tryz.pinned (.plain (OpenSpec.upto whenHugeSpec)) whenHugeUptoCard

/-- THE SECOND FORM's CARD OF 'colporteurlaw1.OidSort'. -/
def oidSortUptoCard : Claim7 := { stood := { row := oidSortUptoRow, standIns := [], harness := (true, "6f59ab7a00d3cf06040e7bd7cea1c9bfcf0d310a27987686a6d88fad60fd38b3"), looks := true }, kinds := [], alts := [], laidByText := true, laidKinds := [.data, .data, .data, .data, .sentinel, .sentinel, .pinned], laidTests := true, laidLooks := .later }
def OidSortUptoCardSaid : Prop := Claim7.holds Tryz.pinned (.plain (OpenSpec.upto oidSortSpec)) oidSortUptoCard

/-- THE SECOND FORM's CARD OF 'colporteurlaw1.OidAll'. -/
def oidAllUptoCard : Claim7 := { stood := { row := oidAllUptoRow, standIns := [], harness := (true, "6f59ab7a00d3cf06040e7bd7cea1c9bfcf0d310a27987686a6d88fad60fd38b3"), looks := true }, kinds := [], alts := [], laidByText := true, laidKinds := [.data, .data, .data, .data, .sentinel, .sentinel, .pinned], laidTests := true, laidLooks := .later }
def OidAllUptoCardSaid : Prop := Claim7.holds Tryz.pinned (.plain (OpenSpec.upto oidAllSpec)) oidAllUptoCard

/-- THE SECOND FORM's CARD OF 'colporteurlaw1.LineNone'. -/
def lineNoneUptoCard : Claim7 := { stood := { row := lineNoneUptoRow, standIns := [], harness := (true, "6f59ab7a00d3cf06040e7bd7cea1c9bfcf0d310a27987686a6d88fad60fd38b3"), looks := true }, kinds := [], alts := [], laidByText := true, laidKinds := [.data, .data, .data, .data, .sentinel, .sentinel, .pinned], laidTests := true, laidLooks := .later }
def LineNoneUptoCardSaid : Prop := Claim7.holds Tryz.pinned (.plain (OpenSpec.upto lineNoneSpec)) lineNoneUptoCard
end Rows
end Go.Proofs.YtmnndehoopmmaaaGreatDoor
