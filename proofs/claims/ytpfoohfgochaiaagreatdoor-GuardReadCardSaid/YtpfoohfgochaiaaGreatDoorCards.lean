/-
  DERIVED. GIVEN WITH THE SEED: THE CARDS: each row of YtpfoohfgochaiaaGreatDoorRows.lean that lists a variable, with what it lists TIED to the program's text (the seventh form; the later family's looks); each row that meets fmt, with fmt's text TOLD by the authors' own Lean function (tested against real Go, not proved from fmt's source: count such statements apart). THE CARD IS WHAT COUNTS. Prove the row's statement (the work); the ties are given (YtpfoohfgochaiaaGreatDoorTie.lean); close each card by the builder's one call (the guide's Derived/Test/ToyasCard.lean, 'card_holds'). Laid BY PROGRAM, IN A SANDBOX (cutbox-door.mjs). By AI agents, Wed Nov 11 2026. No macro, syntax, notation, axiom, sorry.
-/
import Derived.Test.YtpfoohfgochaiaaGreatDoorRows
import GoSem.ClaimSeven
namespace Go.Proofs.YtpfoohfgochaiaaGreatDoor
namespace Rows

/-- THE TIED CARD OF 'colporteurlaw1.ShaAll'. -/
def shaAllCard : Claim7 := { stood := { row := shaAllRow, standIns := [], harness := (true, "589c7bec5ddeb8b72b8ecd8983c6dc1fabe5e23b3e33113f7832a6450cc9617e"), looks := true }, kinds := [], alts := [], laidByText := true, laidKinds := [.data, .data, .data, .data, .sentinel, .sentinel, .pinned], laidTests := true, laidLooks := .later }
def ShaAllCardSaid : Prop := Claim7.holds Tryz.pinned (.plain (OpenSpec.ofChange shaAllSpec)) shaAllCard

/-- THE TIED CARD OF 'colporteurlaw1.ShaLong'. -/
def shaLongCard : Claim7 := { stood := { row := shaLongRow, standIns := [], harness := (true, "589c7bec5ddeb8b72b8ecd8983c6dc1fabe5e23b3e33113f7832a6450cc9617e"), looks := true }, kinds := [], alts := [], laidByText := true, laidKinds := [.data, .data, .data, .data, .sentinel, .sentinel, .pinned], laidTests := true, laidLooks := .later }
def ShaLongCardSaid : Prop := Claim7.holds Tryz.pinned (.plain (OpenSpec.ofChange shaLongSpec)) shaLongCard

/-- THE TIED CARD OF 'colporteurlaw1.GuardDo'. -/
def guardDoCard : Claim7 := { stood := { row := guardDoRow, standIns := [], harness := (true, "589c7bec5ddeb8b72b8ecd8983c6dc1fabe5e23b3e33113f7832a6450cc9617e"), looks := true }, kinds := [], alts := [], laidByText := true, laidKinds := [.data, .data, .data, .data, .sentinel, .sentinel, .pinned], laidTests := true, laidLooks := .later }
def GuardDoCardSaid : Prop := Claim7.holds Tryz.pinned (.plain (OpenSpec.ofChange guardDoSpec)) guardDoCard

/-- THE TIED CARD OF 'colporteurlaw1.GuardRead'. -/
def guardReadCard : Claim7 := { stood := { row := guardReadRow, standIns := [], harness := (true, "589c7bec5ddeb8b72b8ecd8983c6dc1fabe5e23b3e33113f7832a6450cc9617e"), looks := true }, kinds := [], alts := [], laidByText := true, laidKinds := [.data, .data, .data, .data, .sentinel, .sentinel, .pinned], laidTests := true, laidLooks := .later }
def GuardReadCardSaid : Prop := Claim7.holds Tryz.pinned (.plain (OpenSpec.ofChange guardReadSpec)) guardReadCard

/-- THE TIED CARD OF 'colporteurlaw1.WhenSize'. -/
def whenSizeCard : Claim7 := { stood := { row := whenSizeRow, standIns := [], harness := (true, "589c7bec5ddeb8b72b8ecd8983c6dc1fabe5e23b3e33113f7832a6450cc9617e"), looks := true }, kinds := [], alts := [], laidByText := true, laidKinds := [.data, .data, .data, .data, .sentinel, .sentinel, .pinned], laidTests := true, laidLooks := .later }
def WhenSizeCardSaid : Prop := Claim7.holds Tryz.pinned (.plain (OpenSpec.ofChange whenSizeSpec)) whenSizeCard

/-- THE TIED CARD OF 'colporteurlaw1.LineMany'. -/
def lineManyCard : Claim7 := { stood := { row := lineManyRow, standIns := [], harness := (true, "589c7bec5ddeb8b72b8ecd8983c6dc1fabe5e23b3e33113f7832a6450cc9617e"), looks := true }, kinds := [], alts := [], laidByText := true, laidKinds := [.data, .data, .data, .data, .sentinel, .sentinel, .pinned], laidTests := true, laidLooks := .later }
def LineManyCardSaid : Prop := Claim7.holds Tryz.pinned (.plain (OpenSpec.ofChange lineManySpec)) lineManyCard

/-- THE TIED CARD OF 'colporteurlaw1.ShaOwn'. -/
def shaOwnCard : Claim7 := { stood := { row := shaOwnRow, standIns := [], harness := (true, "589c7bec5ddeb8b72b8ecd8983c6dc1fabe5e23b3e33113f7832a6450cc9617e"), looks := true }, kinds := [], alts := [], laidByText := true, laidKinds := [.data, .data, .data, .data, .sentinel, .sentinel, .pinned], laidTests := true, laidLooks := .later }
def ShaOwnCardSaid : Prop := Claim7.holds Tryz.pinned (.plain (OpenSpec.ofChange shaOwnSpec)) shaOwnCard

/-- THE TIED CARD OF 'colporteurlaw1.GuardNest'. -/
def guardNestCard : Claim7 := { stood := { row := guardNestRow, standIns := [], harness := (true, "589c7bec5ddeb8b72b8ecd8983c6dc1fabe5e23b3e33113f7832a6450cc9617e"), looks := true }, kinds := [], alts := [], laidByText := true, laidKinds := [.data, .data, .data, .data, .sentinel, .sentinel, .pinned], laidTests := true, laidLooks := .later }
def GuardNestCardSaid : Prop := Claim7.holds Tryz.pinned (.plain (OpenSpec.ofChange guardNestSpec)) guardNestCard

/-- THE TIED CARD OF 'colporteurlaw1.GuardOwn'. -/
def guardOwnCard : Claim7 := { stood := { row := guardOwnRow, standIns := [], harness := (true, "589c7bec5ddeb8b72b8ecd8983c6dc1fabe5e23b3e33113f7832a6450cc9617e"), looks := true }, kinds := [], alts := [], laidByText := true, laidKinds := [.data, .data, .data, .data, .sentinel, .sentinel, .pinned], laidTests := true, laidLooks := .later }
def GuardOwnCardSaid : Prop := Claim7.holds Tryz.pinned (.plain (OpenSpec.ofChange guardOwnSpec)) guardOwnCard

/-- THE TIED CARD OF 'colporteurlaw1.WhenNorm'. -/
def whenNormCard : Claim7 := { stood := { row := whenNormRow, standIns := [], harness := (true, "589c7bec5ddeb8b72b8ecd8983c6dc1fabe5e23b3e33113f7832a6450cc9617e"), looks := true }, kinds := [], alts := [], laidByText := true, laidKinds := [.data, .data, .data, .data, .sentinel, .sentinel, .pinned], laidTests := true, laidLooks := .later }
def WhenNormCardSaid : Prop := Claim7.holds Tryz.pinned (.plain (OpenSpec.ofChange whenNormSpec)) whenNormCard

/-- THE TIED CARD OF 'colporteurlaw1.LineEdge'. -/
def lineEdgeCard : Claim7 := { stood := { row := lineEdgeRow, standIns := [], harness := (true, "589c7bec5ddeb8b72b8ecd8983c6dc1fabe5e23b3e33113f7832a6450cc9617e"), looks := true }, kinds := [], alts := [], laidByText := true, laidKinds := [.data, .data, .data, .data, .sentinel, .sentinel, .pinned], laidTests := true, laidLooks := .later }
def LineEdgeCardSaid : Prop := Claim7.holds Tryz.pinned (.plain (OpenSpec.ofChange lineEdgeSpec)) lineEdgeCard

/-- THE TIED CARD OF 'colporteurlaw1.LineDigits'. -/
def lineDigitsCard : Claim7 := { stood := { row := lineDigitsRow, standIns := [], harness := (true, "589c7bec5ddeb8b72b8ecd8983c6dc1fabe5e23b3e33113f7832a6450cc9617e"), looks := true }, kinds := [], alts := [], laidByText := true, laidKinds := [.data, .data, .data, .data, .sentinel, .sentinel, .pinned], laidTests := true, laidLooks := .later }
def LineDigitsCardSaid : Prop := Claim7.holds Tryz.pinned (.plain (OpenSpec.ofChange lineDigitsSpec)) lineDigitsCard

/-- THE TIED CARD OF 'colporteurlaw1.WhenOrder'. -/
def whenOrderCard : Claim7 := { stood := { row := whenOrderRow, standIns := [], harness := (true, "589c7bec5ddeb8b72b8ecd8983c6dc1fabe5e23b3e33113f7832a6450cc9617e"), looks := true }, kinds := [], alts := [], laidByText := true, laidKinds := [.data, .data, .data, .data, .sentinel, .sentinel, .pinned], laidTests := true, laidLooks := .later }
def WhenOrderCardSaid : Prop := Claim7.holds Tryz.pinned (.plain (OpenSpec.ofChange whenOrderSpec)) whenOrderCard

/-- THE TIED CARD OF 'colporteurlaw1.OidHex'. -/
def oidHexCard : Claim7 := { stood := { row := oidHexRow, standIns := [], harness := (true, "589c7bec5ddeb8b72b8ecd8983c6dc1fabe5e23b3e33113f7832a6450cc9617e"), looks := true }, kinds := [], alts := [], laidByText := true, laidKinds := [.data, .data, .data, .data, .sentinel, .sentinel, .pinned], laidTests := true, laidLooks := .later }
def OidHexCardSaid : Prop := Claim7.holds Tryz.pinned (.plain (OpenSpec.ofChange oidHexSpec)) oidHexCard

/-- THE TIED CARD OF 'colporteurlaw1.WhenBits'. -/
def whenBitsCard : Claim7 := { stood := { row := whenBitsRow, standIns := [], harness := (true, "589c7bec5ddeb8b72b8ecd8983c6dc1fabe5e23b3e33113f7832a6450cc9617e"), looks := true }, kinds := [], alts := [], laidByText := true, laidKinds := [.data, .data, .data, .data, .sentinel, .sentinel, .pinned], laidTests := true, laidLooks := .later }
def WhenBitsCardSaid : Prop := Claim7.holds Tryz.pinned (.plain (OpenSpec.ofChange whenBitsSpec)) whenBitsCard

/-- THE TIED CARD OF 'colporteurlaw1.WhenAll'. -/
def whenAllCard : Claim7 := { stood := { row := whenAllRow, standIns := [], harness := (true, "589c7bec5ddeb8b72b8ecd8983c6dc1fabe5e23b3e33113f7832a6450cc9617e"), looks := true }, kinds := [], alts := [], laidByText := true, laidKinds := [.data, .data, .data, .data, .sentinel, .sentinel, .pinned], laidTests := true, laidLooks := .later }
def WhenAllCardSaid : Prop := Claim7.holds Tryz.pinned (.plain (OpenSpec.ofChange whenAllSpec)) whenAllCard

/-- THE TIED CARD OF 'colporteurlaw1.WhenHuge'. -/
def whenHugeCard : Claim7 := { stood := { row := whenHugeRow, standIns := [], harness := (true, "589c7bec5ddeb8b72b8ecd8983c6dc1fabe5e23b3e33113f7832a6450cc9617e"), looks := true }, kinds := [], alts := [], laidByText := true, laidKinds := [.data, .data, .data, .data, .sentinel, .sentinel, .pinned], laidTests := true, laidLooks := .later }
def WhenHugeCardSaid : Prop := Claim7.holds Tryz.pinned (.plain (OpenSpec.ofChange whenHugeSpec)) whenHugeCard

/-- THE TIED CARD OF 'colporteurlaw1.OidSort'. -/
def oidSortCard : Claim7 := { stood := { row := oidSortRow, standIns := [], harness := (true, "589c7bec5ddeb8b72b8ecd8983c6dc1fabe5e23b3e33113f7832a6450cc9617e"), looks := true }, kinds := [], alts := [], laidByText := true, laidKinds := [.data, .data, .data, .data, .sentinel, .sentinel, .pinned], laidTests := true, laidLooks := .later }
def OidSortCardSaid : Prop := Claim7.holds Tryz.pinned (.plain (OpenSpec.ofChange oidSortSpec)) oidSortCard

/-- THE TIED CARD OF 'colporteurlaw1.OidAll'. -/
def oidAllCard : Claim7 := { stood := { row := oidAllRow, standIns := [], harness := (true, "589c7bec5ddeb8b72b8ecd8983c6dc1fabe5e23b3e33113f7832a6450cc9617e"), looks := true }, kinds := [], alts := [], laidByText := true, laidKinds := [.data, .data, .data, .data, .sentinel, .sentinel, .pinned], laidTests := true, laidLooks := .later }
def OidAllCardSaid : Prop := Claim7.holds Tryz.pinned (.plain (OpenSpec.ofChange oidAllSpec)) oidAllCard

/-- THE TIED CARD OF 'colporteurlaw1.LineNone'. -/
def lineNoneCard : Claim7 := { stood := { row := lineNoneRow, standIns := [], harness := (true, "589c7bec5ddeb8b72b8ecd8983c6dc1fabe5e23b3e33113f7832a6450cc9617e"), looks := true }, kinds := [], alts := [], laidByText := true, laidKinds := [.data, .data, .data, .data, .sentinel, .sentinel, .pinned], laidTests := true, laidLooks := .later }
def LineNoneCardSaid : Prop := Claim7.holds Tryz.pinned (.plain (OpenSpec.ofChange lineNoneSpec)) lineNoneCard

/-- THE SECOND FORM's CARD OF 'colporteurlaw1.ShaAll'. -/
def shaAllUptoCard : Claim7 := { stood := { row := shaAllUptoRow, standIns := [], harness := (true, "589c7bec5ddeb8b72b8ecd8983c6dc1fabe5e23b3e33113f7832a6450cc9617e"), looks := true }, kinds := [], alts := [], laidByText := true, laidKinds := [.data, .data, .data, .data, .sentinel, .sentinel, .pinned], laidTests := true, laidLooks := .later }
def ShaAllUptoCardSaid : Prop := Claim7.holds Tryz.pinned (.plain (OpenSpec.upto shaAllSpec)) shaAllUptoCard

/-- THE SECOND FORM's CARD OF 'colporteurlaw1.ShaLong'. -/
def shaLongUptoCard : Claim7 := { stood := { row := shaLongUptoRow, standIns := [], harness := (true, "589c7bec5ddeb8b72b8ecd8983c6dc1fabe5e23b3e33113f7832a6450cc9617e"), looks := true }, kinds := [], alts := [], laidByText := true, laidKinds := [.data, .data, .data, .data, .sentinel, .sentinel, .pinned], laidTests := true, laidLooks := .later }
def ShaLongUptoCardSaid : Prop := Claim7.holds Tryz.pinned (.plain (OpenSpec.upto shaLongSpec)) shaLongUptoCard

/-- THE SECOND FORM's CARD OF 'colporteurlaw1.GuardDo'. -/
def guardDoUptoCard : Claim7 := { stood := { row := guardDoUptoRow, standIns := [], harness := (true, "589c7bec5ddeb8b72b8ecd8983c6dc1fabe5e23b3e33113f7832a6450cc9617e"), looks := true }, kinds := [], alts := [], laidByText := true, laidKinds := [.data, .data, .data, .data, .sentinel, .sentinel, .pinned], laidTests := true, laidLooks := .later }
def GuardDoUptoCardSaid : Prop := Claim7.holds Tryz.pinned (.plain (OpenSpec.upto guardDoSpec)) guardDoUptoCard

/-- THE SECOND FORM's CARD OF 'colporteurlaw1.GuardRead'. -/
def guardReadUptoCard : Claim7 := { stood := { row := guardReadUptoRow, standIns := [], harness := (true, "589c7bec5ddeb8b72b8ecd8983c6dc1fabe5e23b3e33113f7832a6450cc9617e"), looks := true }, kinds := [], alts := [], laidByText := true, laidKinds := [.data, .data, .data, .data, .sentinel, .sentinel, .pinned], laidTests := true, laidLooks := .later }
def GuardReadUptoCardSaid : Prop := Claim7.holds Tryz.pinned (.plain (OpenSpec.upto guardReadSpec)) guardReadUptoCard

/-- THE SECOND FORM's CARD OF 'colporteurlaw1.WhenSize'. -/
def whenSizeUptoCard : Claim7 := { stood := { row := whenSizeUptoRow, standIns := [], harness := (true, "589c7bec5ddeb8b72b8ecd8983c6dc1fabe5e23b3e33113f7832a6450cc9617e"), looks := true }, kinds := [], alts := [], laidByText := true, laidKinds := [.data, .data, .data, .data, .sentinel, .sentinel, .pinned], laidTests := true, laidLooks := .later }
def WhenSizeUptoCardSaid : Prop := Claim7.holds Tryz.pinned (.plain (OpenSpec.upto whenSizeSpec)) whenSizeUptoCard

/-- THE SECOND FORM's CARD OF 'colporteurlaw1.LineMany'. -/
def lineManyUptoCard : Claim7 := { stood := { row := lineManyUptoRow, standIns := [], harness := (true, "589c7bec5ddeb8b72b8ecd8983c6dc1fabe5e23b3e33113f7832a6450cc9617e"), looks := true }, kinds := [], alts := [], laidByText := true, laidKinds := [.data, .data, .data, .data, .sentinel, .sentinel, .pinned], laidTests := true, laidLooks := .later }
def LineManyUptoCardSaid : Prop := Claim7.holds Tryz.pinned (.plain (OpenSpec.upto lineManySpec)) lineManyUptoCard

/-- THE SECOND FORM's CARD OF 'colporteurlaw1.ShaOwn'. -/
def shaOwnUptoCard : Claim7 := { stood := { row := shaOwnUptoRow, standIns := [], harness := (true, "589c7bec5ddeb8b72b8ecd8983c6dc1fabe5e23b3e33113f7832a6450cc9617e"), looks := true }, kinds := [], alts := [], laidByText := true, laidKinds := [.data, .data, .data, .data, .sentinel, .sentinel, .pinned], laidTests := true, laidLooks := .later }
def ShaOwnUptoCardSaid : Prop := Claim7.holds Tryz.pinned (.plain (OpenSpec.upto shaOwnSpec)) shaOwnUptoCard

/-- THE SECOND FORM's CARD OF 'colporteurlaw1.GuardNest'. -/
def guardNestUptoCard : Claim7 := { stood := { row := guardNestUptoRow, standIns := [], harness := (true, "589c7bec5ddeb8b72b8ecd8983c6dc1fabe5e23b3e33113f7832a6450cc9617e"), looks := true }, kinds := [], alts := [], laidByText := true, laidKinds := [.data, .data, .data, .data, .sentinel, .sentinel, .pinned], laidTests := true, laidLooks := .later }
def GuardNestUptoCardSaid : Prop := Claim7.holds Tryz.pinned (.plain (OpenSpec.upto guardNestSpec)) guardNestUptoCard

/-- THE SECOND FORM's CARD OF 'colporteurlaw1.GuardOwn'. -/
def guardOwnUptoCard : Claim7 := { stood := { row := guardOwnUptoRow, standIns := [], harness := (true, "589c7bec5ddeb8b72b8ecd8983c6dc1fabe5e23b3e33113f7832a6450cc9617e"), looks := true }, kinds := [], alts := [], laidByText := true, laidKinds := [.data, .data, .data, .data, .sentinel, .sentinel, .pinned], laidTests := true, laidLooks := .later }
def GuardOwnUptoCardSaid : Prop := Claim7.holds Tryz.pinned (.plain (OpenSpec.upto guardOwnSpec)) guardOwnUptoCard

/-- THE SECOND FORM's CARD OF 'colporteurlaw1.WhenNorm'. -/
def whenNormUptoCard : Claim7 := { stood := { row := whenNormUptoRow, standIns := [], harness := (true, "589c7bec5ddeb8b72b8ecd8983c6dc1fabe5e23b3e33113f7832a6450cc9617e"), looks := true }, kinds := [], alts := [], laidByText := true, laidKinds := [.data, .data, .data, .data, .sentinel, .sentinel, .pinned], laidTests := true, laidLooks := .later }
def WhenNormUptoCardSaid : Prop := Claim7.holds Tryz.pinned (.plain (OpenSpec.upto whenNormSpec)) whenNormUptoCard

/-- THE SECOND FORM's CARD OF 'colporteurlaw1.LineEdge'. -/
def lineEdgeUptoCard : Claim7 := { stood := { row := lineEdgeUptoRow, standIns := [], harness := (true, "589c7bec5ddeb8b72b8ecd8983c6dc1fabe5e23b3e33113f7832a6450cc9617e"), looks := true }, kinds := [], alts := [], laidByText := true, laidKinds := [.data, .data, .data, .data, .sentinel, .sentinel, .pinned], laidTests := true, laidLooks := .later }
def LineEdgeUptoCardSaid : Prop := Claim7.holds Tryz.pinned (.plain (OpenSpec.upto lineEdgeSpec)) lineEdgeUptoCard

/-- THE SECOND FORM's CARD OF 'colporteurlaw1.LineDigits'. -/
def lineDigitsUptoCard : Claim7 := { stood := { row := lineDigitsUptoRow, standIns := [], harness := (true, "589c7bec5ddeb8b72b8ecd8983c6dc1fabe5e23b3e33113f7832a6450cc9617e"), looks := true }, kinds := [], alts := [], laidByText := true, laidKinds := [.data, .data, .data, .data, .sentinel, .sentinel, .pinned], laidTests := true, laidLooks := .later }
def LineDigitsUptoCardSaid : Prop := Claim7.holds Tryz.pinned (.plain (OpenSpec.upto lineDigitsSpec)) lineDigitsUptoCard

/-- THE SECOND FORM's CARD OF 'colporteurlaw1.WhenOrder'. -/
def whenOrderUptoCard : Claim7 := { stood := { row := whenOrderUptoRow, standIns := [], harness := (true, "589c7bec5ddeb8b72b8ecd8983c6dc1fabe5e23b3e33113f7832a6450cc9617e"), looks := true }, kinds := [], alts := [], laidByText := true, laidKinds := [.data, .data, .data, .data, .sentinel, .sentinel, .pinned], laidTests := true, laidLooks := .later }
def WhenOrderUptoCardSaid : Prop := Claim7.holds Tryz.pinned (.plain (OpenSpec.upto whenOrderSpec)) whenOrderUptoCard

/-- THE SECOND FORM's CARD OF 'colporteurlaw1.OidHex'. -/
def oidHexUptoCard : Claim7 := { stood := { row := oidHexUptoRow, standIns := [], harness := (true, "589c7bec5ddeb8b72b8ecd8983c6dc1fabe5e23b3e33113f7832a6450cc9617e"), looks := true }, kinds := [], alts := [], laidByText := true, laidKinds := [.data, .data, .data, .data, .sentinel, .sentinel, .pinned], laidTests := true, laidLooks := .later }
def OidHexUptoCardSaid : Prop := Claim7.holds Tryz.pinned (.plain (OpenSpec.upto oidHexSpec)) oidHexUptoCard

/-- THE SECOND FORM's CARD OF 'colporteurlaw1.WhenBits'. -/
def whenBitsUptoCard : Claim7 := { stood := { row := whenBitsUptoRow, standIns := [], harness := (true, "589c7bec5ddeb8b72b8ecd8983c6dc1fabe5e23b3e33113f7832a6450cc9617e"), looks := true }, kinds := [], alts := [], laidByText := true, laidKinds := [.data, .data, .data, .data, .sentinel, .sentinel, .pinned], laidTests := true, laidLooks := .later }
def WhenBitsUptoCardSaid : Prop := Claim7.holds Tryz.pinned (.plain (OpenSpec.upto whenBitsSpec)) whenBitsUptoCard

/-- THE SECOND FORM's CARD OF 'colporteurlaw1.WhenAll'. -/
def whenAllUptoCard : Claim7 := { stood := { row := whenAllUptoRow, standIns := [], harness := (true, "589c7bec5ddeb8b72b8ecd8983c6dc1fabe5e23b3e33113f7832a6450cc9617e"), looks := true }, kinds := [], alts := [], laidByText := true, laidKinds := [.data, .data, .data, .data, .sentinel, .sentinel, .pinned], laidTests := true, laidLooks := .later }
def WhenAllUptoCardSaid : Prop := Claim7.holds Tryz.pinned (.plain (OpenSpec.upto whenAllSpec)) whenAllUptoCard

/-- THE SECOND FORM's CARD OF 'colporteurlaw1.WhenHuge'. -/
def whenHugeUptoCard : Claim7 := { stood := { row := whenHugeUptoRow, standIns := [], harness := (true, "589c7bec5ddeb8b72b8ecd8983c6dc1fabe5e23b3e33113f7832a6450cc9617e"), looks := true }, kinds := [], alts := [], laidByText := true, laidKinds := [.data, .data, .data, .data, .sentinel, .sentinel, .pinned], laidTests := true, laidLooks := .later }
def WhenHugeUptoCardSaid : Prop := Claim7.holds Tryz.pinned (.plain (OpenSpec.upto whenHugeSpec)) whenHugeUptoCard

/-- THE SECOND FORM's CARD OF 'colporteurlaw1.OidSort'. -/
def oidSortUptoCard : Claim7 := { stood := { row := oidSortUptoRow, standIns := [], harness := (true, "589c7bec5ddeb8b72b8ecd8983c6dc1fabe5e23b3e33113f7832a6450cc9617e"), looks := true }, kinds := [], alts := [], laidByText := true, laidKinds := [.data, .data, .data, .data, .sentinel, .sentinel, .pinned], laidTests := true, laidLooks := .later }
def OidSortUptoCardSaid : Prop := Claim7.holds Tryz.pinned (.plain (OpenSpec.upto oidSortSpec)) oidSortUptoCard

/-- THE SECOND FORM's CARD OF 'colporteurlaw1.OidAll'. -/
def oidAllUptoCard : Claim7 := { stood := { row := oidAllUptoRow, standIns := [], harness := (true, "589c7bec5ddeb8b72b8ecd8983c6dc1fabe5e23b3e33113f7832a6450cc9617e"), looks := true }, kinds := [], alts := [], laidByText := true, laidKinds := [.data, .data, .data, .data, .sentinel, .sentinel, .pinned], laidTests := true, laidLooks := .later }
def OidAllUptoCardSaid : Prop := Claim7.holds Tryz.pinned (.plain (OpenSpec.upto oidAllSpec)) oidAllUptoCard

/-- THE SECOND FORM's CARD OF 'colporteurlaw1.LineNone'. -/
def lineNoneUptoCard : Claim7 := { stood := { row := lineNoneUptoRow, standIns := [], harness := (true, "589c7bec5ddeb8b72b8ecd8983c6dc1fabe5e23b3e33113f7832a6450cc9617e"), looks := true }, kinds := [], alts := [], laidByText := true, laidKinds := [.data, .data, .data, .data, .sentinel, .sentinel, .pinned], laidTests := true, laidLooks := .later }
def LineNoneUptoCardSaid : Prop := Claim7.holds Tryz.pinned (.plain (OpenSpec.upto lineNoneSpec)) lineNoneUptoCard
end Rows
end Go.Proofs.YtpfoohfgochaiaaGreatDoor
