/-
  DERIVED. GIVEN WITH THE SEED: THE CARDS: each row of YtcomibocajjhoaaGreatDoorRows.lean that lists a variable, with what it lists TIED to the program's text (the seventh form; the later family's looks); each row that meets fmt, with fmt's text TOLD by the authors' own Lean function (tested against real Go, not proved from fmt's source: count such statements apart). THE CARD IS WHAT COUNTS. Prove the row's statement (the work); the ties are given (YtcomibocajjhoaaGreatDoorTie.lean); close each card by the builder's one call (the guide's Derived/Test/ToyasCard.lean, 'card_holds'). Laid BY PROGRAM, IN A SANDBOX (cutbox-door.mjs). By AI agents, Wed Nov 11 2026. No macro, syntax, notation, axiom, sorry.
-/
import Derived.Test.YtcomibocajjhoaaGreatDoorRows
import GoSem.ClaimSeven
namespace Go.Proofs.YtcomibocajjhoaaGreatDoor
namespace Rows

/-- THE TIED CARD OF 'colporteurlaw6.TreeName'. -/
def treeNameCard : Claim7 := { stood := { row := treeNameRow, standIns := [], harness := (true, "ac5fe40ee6f77f900bf86530e320d2a323af30f12feac56d339f047fdc2beba2"), looks := true }, kinds := [], alts := [], laidByText := true, laidKinds := [.data, .data, .data, .data, .sentinel, .sentinel, .pinned], laidTests := true, laidLooks := .later }
def TreeNameCardSaid : Prop := Claim7.holds Tryz.pinned (.plain (OpenSpec.ofChange treeNameSpec)) treeNameCard

/-- THE TIED CARD OF 'colporteurlaw6.CommitWhen'. -/
def commitWhenCard : Claim7 := { stood := { row := commitWhenRow, standIns := [], harness := (true, "ac5fe40ee6f77f900bf86530e320d2a323af30f12feac56d339f047fdc2beba2"), looks := true }, kinds := [], alts := [], laidByText := true, laidKinds := [.data, .data, .data, .data, .sentinel, .sentinel, .pinned], laidTests := true, laidLooks := .later }
def CommitWhenCardSaid : Prop := Claim7.holds Tryz.pinned (.plain (OpenSpec.ofChange commitWhenSpec)) commitWhenCard

/-- THE TIED CARD OF 'colporteurlaw6.TreeFull'. -/
def treeFullCard : Claim7 := { stood := { row := treeFullRow, standIns := [], harness := (true, "ac5fe40ee6f77f900bf86530e320d2a323af30f12feac56d339f047fdc2beba2"), looks := true }, kinds := [], alts := [], laidByText := true, laidKinds := [.data, .data, .data, .data, .sentinel, .sentinel, .pinned], laidTests := true, laidLooks := .later }
def TreeFullCardSaid : Prop := Claim7.holds Tryz.pinned (.plain (OpenSpec.ofChange treeFullSpec)) treeFullCard

/-- THE TIED CARD OF 'colporteurlaw6.CommitNote'. -/
def commitNoteCard : Claim7 := { stood := { row := commitNoteRow, standIns := [], harness := (true, "ac5fe40ee6f77f900bf86530e320d2a323af30f12feac56d339f047fdc2beba2"), looks := true }, kinds := [], alts := [], laidByText := true, laidKinds := [.data, .data, .data, .data, .sentinel, .sentinel, .pinned], laidTests := true, laidLooks := .later }
def CommitNoteCardSaid : Prop := Claim7.holds Tryz.pinned (.plain (OpenSpec.ofChange commitNoteSpec)) commitNoteCard

/-- THE TIED CARD OF 'colporteurlaw6.TreePath'. -/
def treePathCard : Claim7 := { stood := { row := treePathRow, standIns := [], harness := (true, "ac5fe40ee6f77f900bf86530e320d2a323af30f12feac56d339f047fdc2beba2"), looks := true }, kinds := [], alts := [], laidByText := true, laidKinds := [.data, .data, .data, .data, .sentinel, .sentinel, .pinned], laidTests := true, laidLooks := .later }
def TreePathCardSaid : Prop := Claim7.holds Tryz.pinned (.plain (OpenSpec.ofChange treePathSpec)) treePathCard

/-- THE TIED CARD OF 'colporteurlaw6.TreeOrder'. -/
def treeOrderCard : Claim7 := { stood := { row := treeOrderRow, standIns := [], harness := (true, "ac5fe40ee6f77f900bf86530e320d2a323af30f12feac56d339f047fdc2beba2"), looks := true }, kinds := [], alts := [], laidByText := true, laidKinds := [.data, .data, .data, .data, .sentinel, .sentinel, .pinned], laidTests := true, laidLooks := .later }
def TreeOrderCardSaid : Prop := Claim7.holds Tryz.pinned (.plain (OpenSpec.ofChange treeOrderSpec)) treeOrderCard

/-- THE TIED CARD OF 'colporteurlaw6.CommitParents'. -/
def commitParentsCard : Claim7 := { stood := { row := commitParentsRow, standIns := [], harness := (true, "ac5fe40ee6f77f900bf86530e320d2a323af30f12feac56d339f047fdc2beba2"), looks := true }, kinds := [], alts := [], laidByText := true, laidKinds := [.data, .data, .data, .data, .sentinel, .sentinel, .pinned], laidTests := true, laidLooks := .later }
def CommitParentsCardSaid : Prop := Claim7.holds Tryz.pinned (.plain (OpenSpec.ofChange commitParentsSpec)) commitParentsCard

/-- THE TIED CARD OF 'colporteurlaw6.TreeAll'. -/
def treeAllCard : Claim7 := { stood := { row := treeAllRow, standIns := [], harness := (true, "ac5fe40ee6f77f900bf86530e320d2a323af30f12feac56d339f047fdc2beba2"), looks := true }, kinds := [], alts := [], laidByText := true, laidKinds := [.data, .data, .data, .data, .sentinel, .sentinel, .pinned], laidTests := true, laidLooks := .later }
def TreeAllCardSaid : Prop := Claim7.holds Tryz.pinned (.plain (OpenSpec.ofChange treeAllSpec)) treeAllCard

/-- THE SECOND FORM's CARD OF 'colporteurlaw6.TreeName'. -/
def treeNameUptoCard : Claim7 := { stood := { row := treeNameUptoRow, standIns := [], harness := (true, "ac5fe40ee6f77f900bf86530e320d2a323af30f12feac56d339f047fdc2beba2"), looks := true }, kinds := [], alts := [], laidByText := true, laidKinds := [.data, .data, .data, .data, .sentinel, .sentinel, .pinned], laidTests := true, laidLooks := .later }
def TreeNameUptoCardSaid : Prop := Claim7.holds Tryz.pinned (.plain (OpenSpec.upto treeNameSpec)) treeNameUptoCard

/-- THE SECOND FORM's CARD OF 'colporteurlaw6.CommitWhen'. -/
def commitWhenUptoCard : Claim7 := { stood := { row := commitWhenUptoRow, standIns := [], harness := (true, "ac5fe40ee6f77f900bf86530e320d2a323af30f12feac56d339f047fdc2beba2"), looks := true }, kinds := [], alts := [], laidByText := true, laidKinds := [.data, .data, .data, .data, .sentinel, .sentinel, .pinned], laidTests := true, laidLooks := .later }
def CommitWhenUptoCardSaid : Prop := Claim7.holds Tryz.pinned (.plain (OpenSpec.upto commitWhenSpec)) commitWhenUptoCard

/-- THE SECOND FORM's CARD OF 'colporteurlaw6.TreeFull'. -/
def treeFullUptoCard : Claim7 := { stood := { row := treeFullUptoRow, standIns := [], harness := (true, "ac5fe40ee6f77f900bf86530e320d2a323af30f12feac56d339f047fdc2beba2"), looks := true }, kinds := [], alts := [], laidByText := true, laidKinds := [.data, .data, .data, .data, .sentinel, .sentinel, .pinned], laidTests := true, laidLooks := .later }
def TreeFullUptoCardSaid : Prop := Claim7.holds Tryz.pinned (.plain (OpenSpec.upto treeFullSpec)) treeFullUptoCard

/-- THE SECOND FORM's CARD OF 'colporteurlaw6.CommitNote'. -/
def commitNoteUptoCard : Claim7 := { stood := { row := commitNoteUptoRow, standIns := [], harness := (true, "ac5fe40ee6f77f900bf86530e320d2a323af30f12feac56d339f047fdc2beba2"), looks := true }, kinds := [], alts := [], laidByText := true, laidKinds := [.data, .data, .data, .data, .sentinel, .sentinel, .pinned], laidTests := true, laidLooks := .later }
def CommitNoteUptoCardSaid : Prop := Claim7.holds Tryz.pinned (.plain (OpenSpec.upto commitNoteSpec)) commitNoteUptoCard

/-- THE SECOND FORM's CARD OF 'colporteurlaw6.TreePath'. -/
def treePathUptoCard : Claim7 := { stood := { row := treePathUptoRow, standIns := [], harness := (true, "ac5fe40ee6f77f900bf86530e320d2a323af30f12feac56d339f047fdc2beba2"), looks := true }, kinds := [], alts := [], laidByText := true, laidKinds := [.data, .data, .data, .data, .sentinel, .sentinel, .pinned], laidTests := true, laidLooks := .later }
def TreePathUptoCardSaid : Prop := Claim7.holds Tryz.pinned (.plain (OpenSpec.upto treePathSpec)) treePathUptoCard

/-- THE SECOND FORM's CARD OF 'colporteurlaw6.TreeOrder'. -/
def treeOrderUptoCard : Claim7 := { stood := { row := treeOrderUptoRow, standIns := [], harness := (true, "ac5fe40ee6f77f900bf86530e320d2a323af30f12feac56d339f047fdc2beba2"), looks := true }, kinds := [], alts := [], laidByText := true, laidKinds := [.data, .data, .data, .data, .sentinel, .sentinel, .pinned], laidTests := true, laidLooks := .later }
def TreeOrderUptoCardSaid : Prop := Claim7.holds Tryz.pinned (.plain (OpenSpec.upto treeOrderSpec)) treeOrderUptoCard

/-- THE SECOND FORM's CARD OF 'colporteurlaw6.CommitParents'. -/
def commitParentsUptoCard : Claim7 := { stood := { row := commitParentsUptoRow, standIns := [], harness := (true, "ac5fe40ee6f77f900bf86530e320d2a323af30f12feac56d339f047fdc2beba2"), looks := true }, kinds := [], alts := [], laidByText := true, laidKinds := [.data, .data, .data, .data, .sentinel, .sentinel, .pinned], laidTests := true, laidLooks := .later }
def CommitParentsUptoCardSaid : Prop := Claim7.holds Tryz.pinned (.plain (OpenSpec.upto commitParentsSpec)) commitParentsUptoCard

/-- THE SECOND FORM's CARD OF 'colporteurlaw6.TreeAll'. -/
def treeAllUptoCard : Claim7 := { stood := { row := treeAllUptoRow, standIns := [], harness := (true, "ac5fe40ee6f77f900bf86530e320d2a323af30f12feac56d339f047fdc2beba2"), looks := true }, kinds := [], alts := [], laidByText := true, laidKinds := [.data, .data, .data, .data, .sentinel, .sentinel, .pinned], laidTests := true, laidLooks := .later }
def TreeAllUptoCardSaid : Prop := Claim7.holds Tryz.pinned (.plain (OpenSpec.upto treeAllSpec)) treeAllUptoCard
end Rows
end Go.Proofs.YtcomibocajjhoaaGreatDoor
