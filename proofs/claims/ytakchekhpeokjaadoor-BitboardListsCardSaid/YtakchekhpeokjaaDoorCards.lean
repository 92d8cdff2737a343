/-
  DERIVED. GIVEN WITH THE SEED: THE CARDS: each row of YtakchekhpeokjaaDoorRows.lean that lists a variable, with what it lists TIED to the program's text (the seventh form; the later family's looks); each row that meets fmt, with fmt's text TOLD by the authors' own Lean function (tested against real Go, not proved from fmt's source: count such statements apart). THE CARD IS WHAT COUNTS. Prove the row's statement (the work); the ties are given (YtakchekhpeokjaaDoorTie.lean); close each card by the builder's one call (the guide's Derived/Test/ToyasCard.lean, 'card_holds'). Laid BY PROGRAM, IN A SANDBOX (cutbox-door.mjs). By AI agents, Wed Nov 11 2026. No macro, syntax, notation, axiom, sorry.
-/
import Derived.Test.YtakchekhpeokjaaDoorRows
import GoSem.ClaimSeven
namespace Go.Proofs.YtakchekhpeokjaaDoor
namespace Rows

/-- THE TIED CARD OF 'tempolaw05.BitboardShifts'. -/
def bitboardShiftsCard : Claim7 := { stood := { row := bitboardShiftsRow, standIns := [], harness := (true, "ec190c0f56bcfa634445267325fbee0df36960eda8f55086a1898ae19502e795"), looks := false }, kinds := [], alts := [], laidByText := true, laidKinds := [.data], laidTests := true, laidLooks := .later }
def BitboardShiftsCardSaid : Prop := Claim7.holds Tryd.pinned (.plain (OpenSpec.ofChange bitboardShiftsSpec)) bitboardShiftsCard

/-- THE TIED CARD OF 'tempolaw05.BitboardLoops'. -/
def bitboardLoopsCard : Claim7 := { stood := { row := bitboardLoopsRow, standIns := [], harness := (true, "ec190c0f56bcfa634445267325fbee0df36960eda8f55086a1898ae19502e795"), looks := false }, kinds := [], alts := [], laidByText := true, laidKinds := [.data], laidTests := true, laidLooks := .later }
def BitboardLoopsCardSaid : Prop := Claim7.holds Tryd.pinned (.plain (OpenSpec.ofChange bitboardLoopsSpec)) bitboardLoopsCard

/-- THE TIED CARD OF 'tempolaw05.BitboardSets'. -/
def bitboardSetsCard : Claim7 := { stood := { row := bitboardSetsRow, standIns := [], harness := (true, "ec190c0f56bcfa634445267325fbee0df36960eda8f55086a1898ae19502e795"), looks := false }, kinds := [], alts := [], laidByText := true, laidKinds := [.data], laidTests := true, laidLooks := .later }
def BitboardSetsCardSaid : Prop := Claim7.holds Tryd.pinned (.plain (OpenSpec.ofChange bitboardSetsSpec)) bitboardSetsCard

/-- THE TIED CARD OF 'tempolaw05.BitboardTurns'. -/
def bitboardTurnsCard : Claim7 := { stood := { row := bitboardTurnsRow, standIns := [], harness := (true, "ec190c0f56bcfa634445267325fbee0df36960eda8f55086a1898ae19502e795"), looks := false }, kinds := [], alts := [], laidByText := true, laidKinds := [.data], laidTests := true, laidLooks := .later }
def BitboardTurnsCardSaid : Prop := Claim7.holds Tryd.pinned (.plain (OpenSpec.ofChange bitboardTurnsSpec)) bitboardTurnsCard

/-- THE TIED CARD OF 'tempolaw05.BitboardRefuses'. -/
def bitboardRefusesCard : Claim7 := { stood := { row := bitboardRefusesRow, standIns := [], harness := (true, "ec190c0f56bcfa634445267325fbee0df36960eda8f55086a1898ae19502e795"), looks := false }, kinds := [], alts := [], laidByText := true, laidKinds := [.data], laidTests := true, laidLooks := .later }
def BitboardRefusesCardSaid : Prop := Claim7.holds Tryd.pinned (.plain (OpenSpec.ofChange bitboardRefusesSpec)) bitboardRefusesCard

/-- THE TIED CARD OF 'tempolaw05.BitboardSquares'. -/
def bitboardSquaresCard : Claim7 := { stood := { row := bitboardSquaresRow, standIns := [], harness := (true, "ec190c0f56bcfa634445267325fbee0df36960eda8f55086a1898ae19502e795"), looks := false }, kinds := [], alts := [], laidByText := true, laidKinds := [.data], laidTests := true, laidLooks := .later }
def BitboardSquaresCardSaid : Prop := Claim7.holds Tryd.pinned (.plain (OpenSpec.ofChange bitboardSquaresSpec)) bitboardSquaresCard

/-- THE TIED CARD OF 'tempolaw05.BitboardTexts'. -/
def bitboardTextsCard : Claim7 := { stood := { row := bitboardTextsRow, standIns := [], harness := (true, "ec190c0f56bcfa634445267325fbee0df36960eda8f55086a1898ae19502e795"), looks := false }, kinds := [], alts := [], laidByText := true, laidKinds := [.data, .data, .pinned], laidTests := true, laidLooks := .later }
def BitboardTextsCardSaid : Prop := Claim7.holds Tryd.pinned (.plain (OpenSpec.ofChange bitboardTextsSpec)) bitboardTextsCard

/-- THE TIED CARD OF 'tempolaw05.BitboardLists'. -/
def bitboardListsCard : Claim7 := { stood := { row := bitboardListsRow, standIns := [], harness := (true, "ec190c0f56bcfa634445267325fbee0df36960eda8f55086a1898ae19502e795"), looks := false }, kinds := [], alts := [], laidByText := true, laidKinds := [.data, .data, .pinned], laidTests := true, laidLooks := .later }
def BitboardListsCardSaid : Prop := Claim7.holds Tryd.pinned (.plain (OpenSpec.ofChange bitboardListsSpec)) bitboardListsCard

/-- THE SECOND FORM's CARD OF 'tempolaw05.BitboardShifts'. -/
def bitboardShiftsUptoCard : Claim7 := { stood := { row := bitboardShiftsUptoRow, standIns := [], harness := (true, "ec190c0f56bcfa634445267325fbee0df36960eda8f55086a1898ae19502e795"), looks := false }, kinds := [], alts := [], laidByText := true, laidKinds := [.data], laidTests := true, laidLooks := .later }
def BitboardShiftsUptoCardSaid : Prop := Claim7.holds Tryd.pinned (.plain (OpenSpec.upto bitboardShiftsSpec)) bitboardShiftsUptoCard

/-- THE SECOND FORM's CARD OF 'tempolaw05.BitboardLoops'. -/
def bitboardLoopsUptoCard : Claim7 := { stood := { row := bitboardLoopsUptoRow, standIns := [], harness := (true, "ec190c0f56bcfa634445267325fbee0df36960eda8f55086a1898ae19502e795"), looks := false }, kinds := [], alts := [], laidByText := true, laidKinds := [.data], laidTests := true, laidLooks := .later }
def BitboardLoopsUptoCardSaid : Prop := Claim7.holds Tryd.pinned (.plain (OpenSpec.upto bitboardLoopsSpec)) bitboardLoopsUptoCard

/-- THE SECOND FORM's CARD OF 'tempolaw05.BitboardSets'. -/
def bitboardSetsUptoCard : Claim7 := { stood := { row := bitboardSetsUptoRow, standIns := [], harness := (true, "ec190c0f56bcfa634445267325fbee0df36960eda8f55086a1898ae19502e795"), looks := false }, kinds := [], alts := [], laidByText := true, laidKinds := [.data], laidTests := true, laidLooks := .later }
def BitboardSetsUptoCardSaid : Prop := Claim7.holds Tryd.pinned (.plain (OpenSpec.upto bitboardSetsSpec)) bitboardSetsUptoCard

/-- THE SECOND FORM's CARD OF 'tempolaw05.BitboardTurns'. -/
def bitboardTurnsUptoCard : Claim7 := { stood := { row := bitboardTurnsUptoRow, standIns := [], harness := (true, "ec190c0f56bcfa634445267325fbee0df36960eda8f55086a1898ae19502e795"), looks := false }, kinds := [], alts := [], laidByText := true, laidKinds := [.data], laidTests := true, laidLooks := .later }
def BitboardTurnsUptoCardSaid : Prop := Claim7.holds Tryd.pinned (.plain (OpenSpec.upto bitboardTurnsSpec)) bitboardTurnsUptoCard

/-- THE SECOND FORM's CARD OF 'tempolaw05.BitboardRefuses'. -/
def bitboardRefusesUptoCard : Claim7 := { stood := { row := bitboardRefusesUptoRow, standIns := [], harness := (true, "ec190c0f56bcfa634445267325fbee0df36960eda8f55086a1898ae19502e795"), looks := false }, kinds := [], alts := [], laidByText := true, laidKinds := [.data], laidTests := true, laidLooks := .later }
def BitboardRefusesUptoCardSaid : Prop := Claim7.holds Tryd.pinned (.plain (OpenSpec.upto bitboardRefusesSpec)) bitboardRefusesUptoCard

/-- THE SECOND FORM's CARD OF 'tempolaw05.BitboardSquares'. -/
def bitboardSquaresUptoCard : Claim7 := { stood := { row := bitboardSquaresUptoRow, standIns := [], harness := (true, "ec190c0f56bcfa634445267325fbee0df36960eda8f55086a1898ae19502e795"), looks := false }, kinds := [], alts := [], laidByText := true, laidKinds := [.data], laidTests := true, laidLooks := .later }
def BitboardSquaresUptoCardSaid : Prop := Claim7.holds Tryd.pinned (.plain (OpenSpec.upto bitboardSquaresSpec)) bitboardSquaresUptoCard

/-- THE SECOND FORM's CARD OF 'tempolaw05.BitboardTexts'. -/
def bitboardTextsUptoCard : Claim7 := { stood := { row := bitboardTextsUptoRow, standIns := [], harness := (true, "ec190c0f56bcfa634445267325fbee0df36960eda8f55086a1898ae19502e795"), looks := false }, kinds := [], alts := [], laidByText := true, laidKinds := [.data, .data, .pinned], laidTests := true, laidLooks := .later }
def BitboardTextsUptoCardSaid : Prop := Claim7.holds Tryd.pinned (.plain (OpenSpec.upto bitboardTextsSpec)) bitboardTextsUptoCard

/-- THE SECOND FORM's CARD OF 'tempolaw05.BitboardLists'. -/
def bitboardListsUptoCard : Claim7 := { stood := { row := bitboardListsUptoRow, standIns := [], harness := (true, "ec190c0f56bcfa634445267325fbee0df36960eda8f55086a1898ae19502e795"), looks := false }, kinds := [], alts := [], laidByText := true, laidKinds := [.data, .data, .pinned], laidTests := true, laidLooks := .later }
def BitboardListsUptoCardSaid : Prop := Claim7.holds Tryd.pinned (.plain (OpenSpec.upto bitboardListsSpec)) bitboardListsUptoCard
end Rows
end Go.Proofs.YtakchekhpeokjaaDoor
