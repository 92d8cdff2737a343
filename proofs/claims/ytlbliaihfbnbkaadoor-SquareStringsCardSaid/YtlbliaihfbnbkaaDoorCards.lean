/-
  DERIVED. GIVEN WITH THE SEED: THE CARDS: each row of YtlbliaihfbnbkaaDoorRows.lean that lists a variable, with what it lists TIED to the program's text (the seventh form; the later family's looks); each row that meets fmt, with fmt's text TOLD by the authors' own Lean function (tested against real Go, not proved from fmt's source: count such statements apart). THE CARD IS WHAT COUNTS. Prove the row's statement (the work); the ties are given (YtlbliaihfbnbkaaDoorTie.lean); close each card by the builder's one call (the guide's Derived/Test/ToyasCard.lean, 'card_holds'). Laid BY PROGRAM, IN A SANDBOX (cutbox-door.mjs). By AI agents, Wed Nov 11 2026. No macro, syntax, notation, axiom, sorry.
-/
import Derived.Test.YtlbliaihfbnbkaaDoorRows
import GoSem.ClaimSeven
namespace Go.Proofs.YtlbliaihfbnbkaaDoor
namespace Rows

/-- THE TIED CARD OF 'tempolaw07.SquareNumbers'. -/
def squareNumbersCard : Claim7 := { stood := { row := squareNumbersRow, standIns := [], harness := (true, "ba2ed30cd7972f9685918a749d9a374b882054da237ae6a07710157052ac1822"), looks := false }, kinds := [], alts := [], laidByText := true, laidKinds := [.data, .pinned], laidTests := true, laidLooks := .later }
def SquareNumbersCardSaid : Prop := Claim7.holds Tryd.pinned (.plain (OpenSpec.ofChange squareNumbersSpec)) squareNumbersCard

/-- THE TIED CARD OF 'tempolaw07.SquareStrings'. -/
def squareStringsCard : Claim7 := { stood := { row := squareStringsRow, standIns := [], harness := (true, "ba2ed30cd7972f9685918a749d9a374b882054da237ae6a07710157052ac1822"), looks := false }, kinds := [], alts := [], laidByText := true, laidKinds := [.data, .pinned], laidTests := true, laidLooks := .later }
def SquareStringsCardSaid : Prop := Claim7.holds Tryd.pinned (.plain (OpenSpec.ofChange squareStringsSpec)) squareStringsCard

/-- THE TIED CARD OF 'tempolaw07.SquareNames'. -/
def squareNamesCard : Claim7 := { stood := { row := squareNamesRow, standIns := [], harness := (true, "ba2ed30cd7972f9685918a749d9a374b882054da237ae6a07710157052ac1822"), looks := false }, kinds := [], alts := [], laidByText := true, laidKinds := [.data, .pinned], laidTests := true, laidLooks := .later }
def SquareNamesCardSaid : Prop := Claim7.holds Tryd.pinned (.plain (OpenSpec.ofChange squareNamesSpec)) squareNamesCard

/-- THE TIED CARD OF 'tempolaw07.SquareReads'. -/
def squareReadsCard : Claim7 := { stood := { row := squareReadsRow, standIns := [], harness := (true, "ba2ed30cd7972f9685918a749d9a374b882054da237ae6a07710157052ac1822"), looks := false }, kinds := [], alts := [], laidByText := true, laidKinds := [.data, .pinned], laidTests := true, laidLooks := .later }
def SquareReadsCardSaid : Prop := Claim7.holds Tryd.pinned (.plain (OpenSpec.ofChange squareReadsSpec)) squareReadsCard

/-- THE TIED CARD OF 'tempolaw07.SquareFlips'. -/
def squareFlipsCard : Claim7 := { stood := { row := squareFlipsRow, standIns := [], harness := (true, "ba2ed30cd7972f9685918a749d9a374b882054da237ae6a07710157052ac1822"), looks := false }, kinds := [], alts := [], laidByText := true, laidKinds := [.data, .pinned], laidTests := true, laidLooks := .later }
def SquareFlipsCardSaid : Prop := Claim7.holds Tryd.pinned (.plain (OpenSpec.ofChange squareFlipsSpec)) squareFlipsCard

/-- THE TIED CARD OF 'tempolaw07.SquareNone'. -/
def squareNoneCard : Claim7 := { stood := { row := squareNoneRow, standIns := [], harness := (true, "ba2ed30cd7972f9685918a749d9a374b882054da237ae6a07710157052ac1822"), looks := false }, kinds := [], alts := [], laidByText := true, laidKinds := [.data, .pinned], laidTests := true, laidLooks := .later }
def SquareNoneCardSaid : Prop := Claim7.holds Tryd.pinned (.plain (OpenSpec.ofChange squareNoneSpec)) squareNoneCard

/-- THE TIED CARD OF 'tempolaw07.SquareLists'. -/
def squareListsCard : Claim7 := { stood := { row := squareListsRow, standIns := [], harness := (true, "ba2ed30cd7972f9685918a749d9a374b882054da237ae6a07710157052ac1822"), looks := false }, kinds := [], alts := [], laidByText := true, laidKinds := [.data, .pinned], laidTests := true, laidLooks := .later }
def SquareListsCardSaid : Prop := Claim7.holds Tryd.pinned (.plain (OpenSpec.ofChange squareListsSpec)) squareListsCard

/-- THE SECOND FORM's CARD OF 'tempolaw07.SquareNumbers'. -/
def squareNumbersUptoCard : Claim7 := { stood := { row := squareNumbersUptoRow, standIns := [], harness := (true, "ba2ed30cd7972f9685918a749d9a374b882054da237ae6a07710157052ac1822"), looks := false }, kinds := [], alts := [], laidByText := true, laidKinds := [.data, .pinned], laidTests := true, laidLooks := .later }
def SquareNumbersUptoCardSaid : Prop := Claim7.holds Tryd.pinned (.plain (OpenSpec.upto squareNumbersSpec)) squareNumbersUptoCard

/-- THE SECOND FORM's CARD OF 'tempolaw07.SquareStrings'. -/
def squareStringsUptoCard : Claim7 := { stood := { row := squareStringsUptoRow, standIns := [], harness := (true, "ba2ed30cd7972f9685918a749d9a374b882054da237ae6a07710157052ac1822"), looks := false }, kinds := [], alts := [], laidByText := true, laidKinds := [.data, .pinned], laidTests := true, laidLooks := .later }
def SquareStringsUptoCardSaid : Prop := Claim7.holds Tryd.pinned (.plain (OpenSpec.upto squareStringsSpec)) squareStringsUptoCard

/-- THE SECOND FORM's CARD OF 'tempolaw07.SquareNames'. -/
def squareNamesUptoCard : Claim7 := { stood := { row := squareNamesUptoRow, standIns := [], harness := (true, "ba2ed30cd7972f9685918a749d9a374b882054da237ae6a07710157052ac1822"), looks := false }, kinds := [], alts := [], laidByText := true, laidKinds := [.data, .pinned], laidTests := true, laidLooks := .later }
def SquareNamesUptoCardSaid : Prop := Claim7.holds Tryd.pinned (.plain (OpenSpec.upto squareNamesSpec)) squareNamesUptoCard

/-- THE SECOND FORM's CARD OF 'tempolaw07.SquareReads'. -/
def squareReadsUptoCard : Claim7 := { stood := { row := squareReadsUptoRow, standIns := [], harness := (true, "ba2ed30cd7972f9685918a749d9a374b882054da237ae6a07710157052ac1822"), looks := false }, kinds := [], alts := [], laidByText := true, laidKinds := [.data, .pinned], laidTests := true, laidLooks := .later }
def SquareReadsUptoCardSaid : Prop := Claim7.holds Tryd.pinned (.plain (OpenSpec.upto squareReadsSpec)) squareReadsUptoCard

/-- THE SECOND FORM's CARD OF 'tempolaw07.SquareFlips'. -/
def squareFlipsUptoCard : Claim7 := { stood := { row := squareFlipsUptoRow, standIns := [], harness := (true, "ba2ed30cd7972f9685918a749d9a374b882054da237ae6a07710157052ac1822"), looks := false }, kinds := [], alts := [], laidByText := true, laidKinds := [.data, .pinned], laidTests := true, laidLooks := .later }
def SquareFlipsUptoCardSaid : Prop := Claim7.holds Tryd.pinned (.plain (OpenSpec.upto squareFlipsSpec)) squareFlipsUptoCard

/-- THE SECOND FORM's CARD OF 'tempolaw07.SquareNone'. -/
def squareNoneUptoCard : Claim7 := { stood := { row := squareNoneUptoRow, standIns := [], harness := (true, "ba2ed30cd7972f9685918a749d9a374b882054da237ae6a07710157052ac1822"), looks := false }, kinds := [], alts := [], laidByText := true, laidKinds := [.data, .pinned], laidTests := true, laidLooks := .later }
def SquareNoneUptoCardSaid : Prop := Claim7.holds Tryd.pinned (.plain (OpenSpec.upto squareNoneSpec)) squareNoneUptoCard

/-- THE SECOND FORM's CARD OF 'tempolaw07.SquareLists'. -/
def squareListsUptoCard : Claim7 := { stood := { row := squareListsUptoRow, standIns := [], harness := (true, "ba2ed30cd7972f9685918a749d9a374b882054da237ae6a07710157052ac1822"), looks := false }, kinds := [], alts := [], laidByText := true, laidKinds := [.data, .pinned], laidTests := true, laidLooks := .later }
def SquareListsUptoCardSaid : Prop := Claim7.holds Tryd.pinned (.plain (OpenSpec.upto squareListsSpec)) squareListsUptoCard
end Rows
end Go.Proofs.YtlbliaihfbnbkaaDoor
