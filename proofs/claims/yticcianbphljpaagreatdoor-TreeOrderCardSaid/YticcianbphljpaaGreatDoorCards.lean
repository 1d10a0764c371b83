/-
  DERIVED. GIVEN WITH THE SEED: THE CARDS: each row of YticcianbphljpaaGreatDoorRows.lean that lists a variable, with what it lists TIED to the program's text (the seventh form; the later family's looks); each row that meets fmt, with fmt's text TOLD by the authors' own Lean function (tested against real Go, not proved from fmt's source: count such statements apart). THE CARD IS WHAT COUNTS. Prove the row's statement (the work); the ties are given (YticcianbphljpaaGreatDoorTie.lean); close each card by the builder's one call (the guide's Derived/Test/ToyasCard.lean, 'card_holds'). Laid BY PROGRAM, IN A SANDBOX (cutbox-door.mjs). By AI agents, Wed Nov 11 2026. No macro, syntax, notation, axiom, sorry.
-/
import Derived.Test.YticcianbphljpaaGreatDoorRows
import GoSem.ClaimSeven
namespace Go.Proofs.YticcianbphljpaaGreatDoor
namespace Rows

/-- THE TIED CARD OF 'colporteurlaw6.TreeOrder'. -/
def treeOrderCard : Claim7 := { stood := { row := treeOrderRow, standIns := [], harness := (true, "a04f3e13de93d9f260f715071d2c9d152b55cb9d1f3bfd372f21fd453612c5c3"), looks := true }, kinds := [], alts := [], laidByText := true, laidKinds := [.data, .data, .data, .data, .sentinel, .sentinel, .pinned], laidTests := true, laidLooks := .later }
def TreeOrderCardSaid : Prop := Claim7.holds Tryz.pinned (.plain (OpenSpec.ofChange treeOrderSpec)) treeOrderCard

/-- THE TIED CARD OF 'colporteurlaw6.CommitParents'. -/
def commitParentsCard : Claim7 := { stood := { row := commitParentsRow, standIns := [], harness := (true, "a04f3e13de93d9f260f715071d2c9d152b55cb9d1f3bfd372f21fd453612c5c3"), looks := true }, kinds := [], alts := [], laidByText := true, laidKinds := [.data, .data, .data, .data, .sentinel, .sentinel, .pinned], laidTests := true, laidLooks := .later }
def CommitParentsCardSaid : Prop := Claim7.holds Tryz.pinned (.plain (OpenSpec.ofChange commitParentsSpec)) commitParentsCard

/-- THE TIED CARD OF 'colporteurlaw6.TreeTurn'. -/
def treeTurnCard : Claim7 := { stood := { row := treeTurnRow, standIns := [], harness := (true, "a04f3e13de93d9f260f715071d2c9d152b55cb9d1f3bfd372f21fd453612c5c3"), looks := true }, kinds := [], alts := [], laidByText := true, laidKinds := [.data, .data, .data, .data, .sentinel, .sentinel, .pinned], laidTests := true, laidLooks := .later }
def TreeTurnCardSaid : Prop := Claim7.holds Tryz.pinned (.plain (OpenSpec.ofChange treeTurnSpec)) treeTurnCard

/-- THE TIED CARD OF 'colporteurlaw6.CommitAll'. -/
def commitAllCard : Claim7 := { stood := { row := commitAllRow, standIns := [], harness := (true, "a04f3e13de93d9f260f715071d2c9d152b55cb9d1f3bfd372f21fd453612c5c3"), looks := true }, kinds := [], alts := [], laidByText := true, laidKinds := [.data, .data, .data, .data, .sentinel, .sentinel, .pinned], laidTests := true, laidLooks := .later }
def CommitAllCardSaid : Prop := Claim7.holds Tryz.pinned (.plain (OpenSpec.ofChange commitAllSpec)) commitAllCard

/-- THE TIED CARD OF 'colporteurlaw6.CommitTurn'. -/
def commitTurnCard : Claim7 := { stood := { row := commitTurnRow, standIns := [], harness := (true, "a04f3e13de93d9f260f715071d2c9d152b55cb9d1f3bfd372f21fd453612c5c3"), looks := true }, kinds := [], alts := [], laidByText := true, laidKinds := [.data, .data, .data, .data, .sentinel, .sentinel, .pinned], laidTests := true, laidLooks := .later }
def CommitTurnCardSaid : Prop := Claim7.holds Tryz.pinned (.plain (OpenSpec.ofChange commitTurnSpec)) commitTurnCard

/-- THE TIED CARD OF 'colporteurlaw6.ObjectBig'. -/
def objectBigCard : Claim7 := { stood := { row := objectBigRow, standIns := [], harness := (true, "a04f3e13de93d9f260f715071d2c9d152b55cb9d1f3bfd372f21fd453612c5c3"), looks := true }, kinds := [], alts := [], laidByText := true, laidKinds := [.data, .data, .data, .data, .sentinel, .sentinel, .pinned], laidTests := true, laidLooks := .later }
def ObjectBigCardSaid : Prop := Claim7.holds Tryz.pinned (.plain (OpenSpec.ofChange objectBigSpec)) objectBigCard

/-- THE TIED CARD OF 'colporteurlaw6.ObjectZero'. -/
def objectZeroCard : Claim7 := { stood := { row := objectZeroRow, standIns := [], harness := (true, "a04f3e13de93d9f260f715071d2c9d152b55cb9d1f3bfd372f21fd453612c5c3"), looks := true }, kinds := [], alts := [], laidByText := true, laidKinds := [.data, .data, .data, .data, .sentinel, .sentinel, .pinned], laidTests := true, laidLooks := .later }
def ObjectZeroCardSaid : Prop := Claim7.holds Tryz.pinned (.plain (OpenSpec.ofChange objectZeroSpec)) objectZeroCard

/-- THE TIED CARD OF 'colporteurlaw6.ObjectOwn'. -/
def objectOwnCard : Claim7 := { stood := { row := objectOwnRow, standIns := [], harness := (true, "a04f3e13de93d9f260f715071d2c9d152b55cb9d1f3bfd372f21fd453612c5c3"), looks := true }, kinds := [], alts := [], laidByText := true, laidKinds := [.data, .data, .data, .data, .sentinel, .sentinel, .pinned], laidTests := true, laidLooks := .later }
def ObjectOwnCardSaid : Prop := Claim7.holds Tryz.pinned (.plain (OpenSpec.ofChange objectOwnSpec)) objectOwnCard

/-- THE TIED CARD OF 'colporteurlaw6.ObjectAll'. -/
def objectAllCard : Claim7 := { stood := { row := objectAllRow, standIns := [], harness := (true, "a04f3e13de93d9f260f715071d2c9d152b55cb9d1f3bfd372f21fd453612c5c3"), looks := true }, kinds := [], alts := [], laidByText := true, laidKinds := [.data, .data, .data, .data, .sentinel, .sentinel, .pinned], laidTests := true, laidLooks := .later }
def ObjectAllCardSaid : Prop := Claim7.holds Tryz.pinned (.plain (OpenSpec.ofChange objectAllSpec)) objectAllCard

/-- THE TIED CARD OF 'colporteurlaw6.ObjectNone'. -/
def objectNoneCard : Claim7 := { stood := { row := objectNoneRow, standIns := [], harness := (true, "a04f3e13de93d9f260f715071d2c9d152b55cb9d1f3bfd372f21fd453612c5c3"), looks := true }, kinds := [], alts := [], laidByText := true, laidKinds := [.data, .data, .data, .data, .sentinel, .sentinel, .pinned], laidTests := true, laidLooks := .later }
def ObjectNoneCardSaid : Prop := Claim7.holds Tryz.pinned (.plain (OpenSpec.ofChange objectNoneSpec)) objectNoneCard

/-- THE SECOND FORM's CARD OF 'colporteurlaw6.TreeOrder'. -/
def treeOrderUptoCard : Claim7 := { stood := { row := treeOrderUptoRow, standIns := [], harness := (true, "a04f3e13de93d9f260f715071d2c9d152b55cb9d1f3bfd372f21fd453612c5c3"), looks := true }, kinds := [], alts := [], laidByText := true, laidKinds := [.data, .data, .data, .data, .sentinel, .sentinel, .pinned], laidTests := true, laidLooks := .later }
def TreeOrderUptoCardSaid : Prop := Claim7.holds Tryz.pinned (.plain (OpenSpec.upto treeOrderSpec)) treeOrderUptoCard

/-- THE SECOND FORM's CARD OF 'colporteurlaw6.CommitParents'. -/
def commitParentsUptoCard : Claim7 := { stood := { row := commitParentsUptoRow, standIns := [], harness := (true, "a04f3e13de93d9f260f715071d2c9d152b55cb9d1f3bfd372f21fd453612c5c3"), looks := true }, kinds := [], alts := [], laidByText := true, laidKinds := [.data, .data, .data, .data, .sentinel, .sentinel, .pinned], laidTests := true, laidLooks := .later }
def CommitParentsUptoCardSaid : Prop := Claim7.holds Tryz.pinned (.plain (OpenSpec.upto commitParentsSpec)) commitParentsUptoCard

/-- THE SECOND FORM's CARD OF 'colporteurlaw6.TreeTurn'. -/
def treeTurnUptoCard : Claim7 := { stood := { row := treeTurnUptoRow, standIns := [], harness := (true, "a04f3e13de93d9f260f715071d2c9d152b55cb9d1f3bfd372f21fd453612c5c3"), looks := true }, kinds := [], alts := [], laidByText := true, laidKinds := [.data, .data, .data, .data, .sentinel, .sentinel, .pinned], laidTests := true, laidLooks := .later }
def TreeTurnUptoCardSaid : Prop := Claim7.holds Tryz.pinned (.plain (OpenSpec.upto treeTurnSpec)) treeTurnUptoCard

/-- THE SECOND FORM's CARD OF 'colporteurlaw6.CommitAll'. -/
def commitAllUptoCard : Claim7 := { stood := { row := commitAllUptoRow, standIns := [], harness := (true, "a04f3e13de93d9f260f715071d2c9d152b55cb9d1f3bfd372f21fd453612c5c3"), looks := true }, kinds := [], alts := [], laidByText := true, laidKinds := [.data, .data, .data, .data, .sentinel, .sentinel, .pinned], laidTests := true, laidLooks := .later }
def CommitAllUptoCardSaid : Prop := Claim7.holds Tryz.pinned (.plain (OpenSpec.upto commitAllSpec)) commitAllUptoCard

/-- THE SECOND FORM's CARD OF 'colporteurlaw6.CommitTurn'. -/
def commitTurnUptoCard : Claim7 := { stood := { row := commitTurnUptoRow, standIns := [], harness := (true, "a04f3e13de93d9f260f715071d2c9d152b55cb9d1f3bfd372f21fd453612c5c3"), looks := true }, kinds := [], alts := [], laidByText := true, laidKinds := [.data, .data, .data, .data, .sentinel, .sentinel, .pinned], laidTests := true, laidLooks := .later }
def CommitTurnUptoCardSaid : Prop := Claim7.holds Tryz.pinned (.plain (OpenSpec.upto commitTurnSpec)) commitTurnUptoCard

/-- THE SECOND FORM's CARD OF 'colporteurlaw6.ObjectBig'. -/
def objectBigUptoCard : Claim7 := { stood := { row := objectBigUptoRow, standIns := [], harness := (true, "a04f3e13de93d9f260f715071d2c9d152b55cb9d1f3bfd372f21fd453612c5c3"), looks := true }, kinds := [], alts := [], laidByText := true, laidKinds := [.data, .data, .data, .data, .sentinel, .sentinel, .pinned], laidTests := true, laidLooks := .later }
def ObjectBigUptoCardSaid : Prop := Claim7.holds Tryz.pinned (.plain (OpenSpec.upto objectBigSpec)) objectBigUptoCard

/-- THE SECOND FORM's CARD OF 'colporteurlaw6.ObjectZero'. -/
def objectZeroUptoCard : Claim7 := { stood := { row := objectZeroUptoRow, standIns := [], harness := (true, "a04f3e13de93d9f260f715071d2c9d152b55cb9d1f3bfd372f21fd453612c5c3"), looks := true }, kinds := [], alts := [], laidByText := true, laidKinds := [.data, .data, .data, .data, .sentinel, .sentinel, .pinned], laidTests := true, laidLooks := .later }
def ObjectZeroUptoCardSaid : Prop := Claim7.holds Tryz.pinned (.plain (OpenSpec.upto objectZeroSpec)) objectZeroUptoCard

/-- THE SECOND FORM's CARD OF 'colporteurlaw6.ObjectOwn'. -/
def objectOwnUptoCard : Claim7 := { stood := { row := objectOwnUptoRow, standIns := [], harness := (true, "a04f3e13de93d9f260f715071d2c9d152b55cb9d1f3bfd372f21fd453612c5c3"), looks := true }, kinds := [], alts := [], laidByText := true, laidKinds := [.data, .data, .data, .data, .sentinel, .sentinel, .pinned], laidTests := true, laidLooks := .later }
def ObjectOwnUptoCardSaid : Prop := Claim7.holds Tryz.pinned (.plain (OpenSpec.upto objectOwnSpec)) objectOwnUptoCard

/-- THE SECOND FORM's CARD OF 'colporteurlaw6.ObjectAll'. -/
def objectAllUptoCard : Claim7 := { stood := { row := objectAllUptoRow, standIns := [], harness := (true, "a04f3e13de93d9f260f715071d2c9d152b55cb9d1f3bfd372f21fd453612c5c3"), looks := true }, kinds := [], alts := [], laidByText := true, laidKinds := [.data, .data, .data, .data, .sentinel, .sentinel, .pinned], laidTests := true, laidLooks := .later }
def ObjectAllUptoCardSaid : Prop := Claim7.holds Tryz.pinned (.plain (OpenSpec.upto objectAllSpec)) objectAllUptoCard

/-- THE SECOND FORM's CARD OF 'colporteurlaw6.ObjectNone'. -/
def objectNoneUptoCard : Claim7 := { stood := { row := objectNoneUptoRow, standIns := [], harness := (true, "a04f3e13de93d9f260f715071d2c9d152b55cb9d1f3bfd372f21fd453612c5c3"), looks := true }, kinds := [], alts := [], laidByText := true, laidKinds := [.data, .data, .data, .data, .sentinel, .sentinel, .pinned], laidTests := true, laidLooks := .later }
def ObjectNoneUptoCardSaid : Prop := Claim7.holds Tryz.pinned (.plain (OpenSpec.upto objectNoneSpec)) objectNoneUptoCard
end Rows
end Go.Proofs.YticcianbphljpaaGreatDoor
