/-
  DERIVED. GIVEN WITH THE SEED: THE CARDS: each row of YtaecafagmncmiaaDoorRows.lean that lists a variable, with what it lists TIED to the program's text (the seventh form; the later family's looks); each row that meets fmt, with fmt's text TOLD by the authors' own Lean function (tested against real Go, not proved from fmt's source: count such statements apart). THE CARD IS WHAT COUNTS. Prove the row's statement (the work); the ties are given (YtaecafagmncmiaaDoorTie.lean); close each card by the builder's one call (the guide's Derived/Test/ToyasCard.lean, 'card_holds'). Laid BY PROGRAM, IN A SANDBOX (cutbox-door.mjs). By AI agents, Wed Nov 11 2026. No macro, syntax, notation, axiom, sorry.
-/
import Derived.Test.YtaecafagmncmiaaDoorRows
import GoSem.ClaimSeven
namespace Go.Proofs.YtaecafagmncmiaaDoor
namespace Rows

/-- THE TIED CARD OF 'palinodelaw20.RowsRead'. -/
def rowsReadCard : Claim7 := { stood := { row := rowsReadRow, standIns := [], harness := (true, "e1dd532d47e19edffdf89c078c44a48b6a18853c677e1be8afde9fae0fbd83b6"), looks := true }, kinds := [], alts := [], laidByText := true, laidKinds := [.data, .pinned], laidTests := true, laidLooks := .later }
def RowsReadCardSaid : Prop := Claim7.holds Tryd.pinned (.plain (OpenSpec.ofChange rowsReadSpec)) rowsReadCard

/-- THE TIED CARD OF 'palinodelaw20.RowsDiff'. -/
def rowsDiffCard : Claim7 := { stood := { row := rowsDiffRow, standIns := [], harness := (true, "e1dd532d47e19edffdf89c078c44a48b6a18853c677e1be8afde9fae0fbd83b6"), looks := true }, kinds := [], alts := [], laidByText := true, laidKinds := [.data, .pinned], laidTests := true, laidLooks := .later }
def RowsDiffCardSaid : Prop := Claim7.holds Tryd.pinned (.plain (OpenSpec.ofChange rowsDiffSpec)) rowsDiffCard

/-- THE TIED CARD OF 'palinodelaw20.RowsBack'. -/
def rowsBackCard : Claim7 := { stood := { row := rowsBackRow, standIns := [], harness := (true, "e1dd532d47e19edffdf89c078c44a48b6a18853c677e1be8afde9fae0fbd83b6"), looks := true }, kinds := [], alts := [], laidByText := true, laidKinds := [.data, .pinned], laidTests := true, laidLooks := .later }
def RowsBackCardSaid : Prop := Claim7.holds Tryd.pinned (.plain (OpenSpec.ofChange rowsBackSpec)) rowsBackCard

/-- THE TIED CARD OF 'palinodelaw20.RowsApart'. -/
def rowsApartCard : Claim7 := { stood := { row := rowsApartRow, standIns := [], harness := (true, "e1dd532d47e19edffdf89c078c44a48b6a18853c677e1be8afde9fae0fbd83b6"), looks := true }, kinds := [], alts := [], laidByText := true, laidKinds := [.data, .pinned], laidTests := true, laidLooks := .later }
def RowsApartCardSaid : Prop := Claim7.holds Tryd.pinned (.plain (OpenSpec.ofChange rowsApartSpec)) rowsApartCard

/-- THE TIED CARD OF 'palinodelaw20.RowsMake'. -/
def rowsMakeCard : Claim7 := { stood := { row := rowsMakeRow, standIns := [], harness := (true, "e1dd532d47e19edffdf89c078c44a48b6a18853c677e1be8afde9fae0fbd83b6"), looks := true }, kinds := [], alts := [], laidByText := true, laidKinds := [.data, .pinned], laidTests := true, laidLooks := .later }
def RowsMakeCardSaid : Prop := Claim7.holds Tryd.pinned (.plain (OpenSpec.ofChange rowsMakeSpec)) rowsMakeCard

/-- THE TIED CARD OF 'palinodelaw20.RowsOrder'. -/
def rowsOrderCard : Claim7 := { stood := { row := rowsOrderRow, standIns := [], harness := (true, "e1dd532d47e19edffdf89c078c44a48b6a18853c677e1be8afde9fae0fbd83b6"), looks := true }, kinds := [], alts := [], laidByText := true, laidKinds := [.data, .pinned], laidTests := true, laidLooks := .later }
def RowsOrderCardSaid : Prop := Claim7.holds Tryd.pinned (.plain (OpenSpec.ofChange rowsOrderSpec)) rowsOrderCard

/-- THE TIED CARD OF 'palinodelaw20.RowsOut'. -/
def rowsOutCard : Claim7 := { stood := { row := rowsOutRow, standIns := [], harness := (true, "e1dd532d47e19edffdf89c078c44a48b6a18853c677e1be8afde9fae0fbd83b6"), looks := true }, kinds := [], alts := [], laidByText := true, laidKinds := [.data, .pinned], laidTests := true, laidLooks := .later }
def RowsOutCardSaid : Prop := Claim7.holds Tryd.pinned (.plain (OpenSpec.ofChange rowsOutSpec)) rowsOutCard

/-- THE TIED CARD OF 'palinodelaw20.RowsOf'. -/
def rowsOfCard : Claim7 := { stood := { row := rowsOfRow, standIns := [], harness := (true, "e1dd532d47e19edffdf89c078c44a48b6a18853c677e1be8afde9fae0fbd83b6"), looks := true }, kinds := [], alts := [], laidByText := true, laidKinds := [.data, .pinned], laidTests := true, laidLooks := .later }
def RowsOfCardSaid : Prop := Claim7.holds Tryd.pinned (.plain (OpenSpec.ofChange rowsOfSpec)) rowsOfCard

/-- THE SECOND FORM's CARD OF 'palinodelaw20.RowsRead'. -/
def rowsReadUptoCard : Claim7 := { stood := { row := rowsReadUptoRow, standIns := [], harness := (true, "e1dd532d47e19edffdf89c078c44a48b6a18853c677e1be8afde9fae0fbd83b6"), looks := true }, kinds := [], alts := [], laidByText := true, laidKinds := [.data, .pinned], laidTests := true, laidLooks := .later }
def RowsReadUptoCardSaid : Prop := Claim7.holds Tryd.pinned (.plain (OpenSpec.upto rowsReadSpec)) rowsReadUptoCard

/-- THE SECOND FORM's CARD OF 'palinodelaw20.RowsDiff'. -/
def rowsDiffUptoCard : Claim7 := { stood := { row := rowsDiffUptoRow, standIns := [], harness := (true, "e1dd532d47e19edffdf89c078c44a48b6a18853c677e1be8afde9fae0fbd83b6"), looks := true }, kinds := [], alts := [], laidByText := true, laidKinds := [.data, .pinned], laidTests := true, laidLooks := .later }
def RowsDiffUptoCardSaid : Prop := Claim7.holds Tryd.pinned (.plain (OpenSpec.upto rowsDiffSpec)) rowsDiffUptoCard

/-- THE SECOND FORM's CARD OF 'palinodelaw20.RowsBack'. -/
def rowsBackUptoCard : Claim7 := { stood := { row := rowsBackUptoRow, standIns := [], harness := (true, "e1dd532d47e19edffdf89c078c44a48b6a18853c677e1be8afde9fae0fbd83b6"), looks := true }, kinds := [], alts := [], laidByText := true, laidKinds := [.data, .pinned], laidTests := true, laidLooks := .later }
def RowsBackUptoCardSaid : Prop := Claim7.holds Tryd.pinned (.plain (OpenSpec.upto rowsBackSpec)) rowsBackUptoCard

/-- THE SECOND FORM's CARD OF 'palinodelaw20.RowsApart'. -/
def rowsApartUptoCard : Claim7 := { stood := { row := rowsApartUptoRow, standIns := [], harness := (true, "e1dd532d47e19edffdf89c078c44a48b6a18853c677e1be8afde9fae0fbd83b6"), looks := true }, kinds := [], alts := [], laidByText := true, laidKinds := [.data, .pinned], laidTests := true, laidLooks := .later }
def RowsApartUptoCardSaid : Prop := Claim7.holds Tryd.pinned (.plain (OpenSpec.upto rowsApartSpec)) rowsApartUptoCard

/-- THE SECOND FORM's CARD OF 'palinodelaw20.RowsMake'. -/
def rowsMakeUptoCard : Claim7 := { stood := { row := rowsMakeUptoRow, standIns := [], harness := (true, "e1dd532d47e19edffdf89c078c44a48b6a18853c677e1be8afde9fae0fbd83b6"), looks := true }, kinds := [], alts := [], laidByText := true, laidKinds := [.data, .pinned], laidTests := true, laidLooks := .later }
def RowsMakeUptoCardSaid : Prop := Claim7.holds Tryd.pinned (.plain (OpenSpec.upto rowsMakeSpec)) rowsMakeUptoCard

/-- THE SECOND FORM's CARD OF 'palinodelaw20.RowsOrder'. -/
def rowsOrderUptoCard : Claim7 := { stood := { row := rowsOrderUptoRow, standIns := [], harness := (true, "e1dd532d47e19edffdf89c078c44a48b6a18853c677e1be8afde9fae0fbd83b6"), looks := true }, kinds := [], alts := [], laidByText := true, laidKinds := [.data, .pinned], laidTests := true, laidLooks := .later }
def RowsOrderUptoCardSaid : Prop := Claim7.holds Tryd.pinned (.plain (OpenSpec.upto rowsOrderSpec)) rowsOrderUptoCard

/-- THE SECOND FORM's CARD OF 'palinodelaw20.RowsOut'. -/
def rowsOutUptoCard : Claim7 := { stood := { row := rowsOutUptoRow, standIns := [], harness := (true, "e1dd532d47e19edffdf89c078c44a48b6a18853c677e1be8afde9fae0fbd83b6"), looks := true }, kinds := [], alts := [], laidByText := true, laidKinds := [.data, .pinned], laidTests := true, laidLooks := .later }
def RowsOutUptoCardSaid : Prop := Claim7.holds Tryd.pinned (.plain (OpenSpec.upto rowsOutSpec)) rowsOutUptoCard

/-- THE SECOND FORM's CARD OF 'palinodelaw20.RowsOf'. -/
def rowsOfUptoCard : Claim7 := { stood := { row := rowsOfUptoRow, standIns := [], harness := (true, "e1dd532d47e19edffdf89c078c44a48b6a18853c677e1be8afde9fae0fbd83b6"), looks := true }, kinds := [], alts := [], laidByText := true, laidKinds := [.data, .pinned], laidTests := true, laidLooks := .later }
def RowsOfUptoCardSaid : Prop := Claim7.holds Tryd.pinned (.plain (OpenSpec.upto rowsOfSpec)) rowsOfUptoCard
end Rows
end Go.Proofs.YtaecafagmncmiaaDoor
