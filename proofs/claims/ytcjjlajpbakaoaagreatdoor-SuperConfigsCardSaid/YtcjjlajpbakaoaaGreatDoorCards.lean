/-
  DERIVED. GIVEN WITH THE SEED: THE CARDS: each row of YtcjjlajpbakaoaaGreatDoorRows.lean that lists a variable, with what it lists TIED to the program's text (the seventh form; the later family's looks); each row that meets fmt, with fmt's text TOLD by the authors' own Lean function (tested against real Go, not proved from fmt's source: count such statements apart). THE CARD IS WHAT COUNTS. Prove the row's statement (the work); the ties are given (YtcjjlajpbakaoaaGreatDoorTie.lean); close each card by the builder's one call (the guide's Derived/Test/ToyasCard.lean, 'card_holds'). Laid BY PROGRAM, IN A SANDBOX (cutbox-door.mjs). By AI agents, Wed Nov 11 2026. No macro, syntax, notation, axiom, sorry.
-/
import Derived.Test.YtcjjlajpbakaoaaGreatDoorRows
import GoSem.ClaimSeven
namespace Go.Proofs.YtcjjlajpbakaoaaGreatDoor
namespace Rows

/-- THE TIED CARD OF 'tempolaw36.SuperConfigs'. -/
def superConfigsCard : Claim7 := { stood := { row := superConfigsRow, standIns := [], harness := (true, "07f2962f405ea89f1583ac3fd8322ee12033071d1fe044101e359191743dbf56"), looks := true }, kinds := [], alts := [], laidByText := true, laidKinds := [.data, .data, .data, .data, .sentinel, .sentinel, .data, .pinned], laidTests := true, laidLooks := .later }
def SuperConfigsCardSaid : Prop := Claim7.holds Tryz.pinned (.plain (OpenSpec.ofChange superConfigsSpec)) superConfigsCard

/-- THE TIED CARD OF 'tempolaw36.SuperCodes'. -/
def superCodesCard : Claim7 := { stood := { row := superCodesRow, standIns := [], harness := (true, "07f2962f405ea89f1583ac3fd8322ee12033071d1fe044101e359191743dbf56"), looks := true }, kinds := [], alts := [], laidByText := true, laidKinds := [.data, .data, .data, .data, .sentinel, .sentinel, .data, .pinned], laidTests := true, laidLooks := .later }
def SuperCodesCardSaid : Prop := Claim7.holds Tryz.pinned (.plain (OpenSpec.ofChange superCodesSpec)) superCodesCard

/-- THE TIED CARD OF 'tempolaw36.SuperNil'. -/
def superNilCard : Claim7 := { stood := { row := superNilRow, standIns := [], harness := (true, "07f2962f405ea89f1583ac3fd8322ee12033071d1fe044101e359191743dbf56"), looks := true }, kinds := [], alts := [], laidByText := true, laidKinds := [.data, .data, .data, .data, .sentinel, .sentinel, .data, .pinned], laidTests := true, laidLooks := .later }
def SuperNilCardSaid : Prop := Claim7.holds Tryz.pinned (.plain (OpenSpec.ofChange superNilSpec)) superNilCard

/-- THE TIED CARD OF 'tempolaw36.SuperBack'. -/
def superBackCard : Claim7 := { stood := { row := superBackRow, standIns := [], harness := (true, "07f2962f405ea89f1583ac3fd8322ee12033071d1fe044101e359191743dbf56"), looks := true }, kinds := [], alts := [], laidByText := true, laidKinds := [.data, .data, .data, .data, .sentinel, .sentinel, .data, .pinned], laidTests := true, laidLooks := .later }
def SuperBackCardSaid : Prop := Claim7.holds Tryz.pinned (.plain (OpenSpec.ofChange superBackSpec)) superBackCard

/-- THE TIED CARD OF 'tempolaw36.SuperReads'. -/
def superReadsCard : Claim7 := { stood := { row := superReadsRow, standIns := [], harness := (true, "07f2962f405ea89f1583ac3fd8322ee12033071d1fe044101e359191743dbf56"), looks := true }, kinds := [], alts := [], laidByText := true, laidKinds := [.data, .data, .data, .data, .sentinel, .sentinel, .data, .pinned], laidTests := true, laidLooks := .later }
def SuperReadsCardSaid : Prop := Claim7.holds Tryz.pinned (.plain (OpenSpec.ofChange superReadsSpec)) superReadsCard

/-- THE TIED CARD OF 'tempolaw36.SuperLayouts'. -/
def superLayoutsCard : Claim7 := { stood := { row := superLayoutsRow, standIns := [], harness := (true, "07f2962f405ea89f1583ac3fd8322ee12033071d1fe044101e359191743dbf56"), looks := true }, kinds := [], alts := [], laidByText := true, laidKinds := [.data, .data, .data, .data, .sentinel, .sentinel, .data, .pinned], laidTests := true, laidLooks := .later }
def SuperLayoutsCardSaid : Prop := Claim7.holds Tryz.pinned (.plain (OpenSpec.ofChange superLayoutsSpec)) superLayoutsCard

/-- THE TIED CARD OF 'tempolaw36.SuperTorn'. -/
def superTornCard : Claim7 := { stood := { row := superTornRow, standIns := [], harness := (true, "07f2962f405ea89f1583ac3fd8322ee12033071d1fe044101e359191743dbf56"), looks := true }, kinds := [], alts := [], laidByText := true, laidKinds := [.data, .data, .data, .data, .sentinel, .sentinel, .data, .pinned], laidTests := true, laidLooks := .later }
def SuperTornCardSaid : Prop := Claim7.holds Tryz.pinned (.plain (OpenSpec.ofChange superTornSpec)) superTornCard

/-- THE TIED CARD OF 'tempolaw36.SuperRefuses'. -/
def superRefusesCard : Claim7 := { stood := { row := superRefusesRow, standIns := [], harness := (true, "07f2962f405ea89f1583ac3fd8322ee12033071d1fe044101e359191743dbf56"), looks := true }, kinds := [], alts := [], laidByText := true, laidKinds := [.data, .data, .data, .data, .sentinel, .sentinel, .data, .pinned], laidTests := true, laidLooks := .later }
def SuperRefusesCardSaid : Prop := Claim7.holds Tryz.pinned (.plain (OpenSpec.ofChange superRefusesSpec)) superRefusesCard

/-- THE TIED CARD OF 'tempolaw36.SuperTurns'. -/
def superTurnsCard : Claim7 := { stood := { row := superTurnsRow, standIns := [], harness := (true, "07f2962f405ea89f1583ac3fd8322ee12033071d1fe044101e359191743dbf56"), looks := true }, kinds := [], alts := [], laidByText := true, laidKinds := [.data, .data, .data, .data, .sentinel, .sentinel, .data, .pinned], laidTests := true, laidLooks := .later }
def SuperTurnsCardSaid : Prop := Claim7.holds Tryz.pinned (.plain (OpenSpec.ofChange superTurnsSpec)) superTurnsCard

/-- THE TIED CARD OF 'tempolaw36.SuperPlays'. -/
def superPlaysCard : Claim7 := { stood := { row := superPlaysRow, standIns := [], harness := (true, "07f2962f405ea89f1583ac3fd8322ee12033071d1fe044101e359191743dbf56"), looks := true }, kinds := [], alts := [], laidByText := true, laidKinds := [.data, .data, .data, .data, .sentinel, .sentinel, .data, .pinned], laidTests := true, laidLooks := .later }
def SuperPlaysCardSaid : Prop := Claim7.holds Tryz.pinned (.plain (OpenSpec.ofChange superPlaysSpec)) superPlaysCard

/-- THE SECOND FORM's CARD OF 'tempolaw36.SuperConfigs'. -/
def superConfigsUptoCard : Claim7 := { stood := { row := superConfigsUptoRow, standIns := [], harness := (true, "07f2962f405ea89f1583ac3fd8322ee12033071d1fe044101e359191743dbf56"), looks := true }, kinds := [], alts := [], laidByText := true, laidKinds := [.data, .data, .data, .data, .sentinel, .sentinel, .data, .pinned], laidTests := true, laidLooks := .later }
def SuperConfigsUptoCardSaid : Prop := Claim7.holds Tryz.pinned (.plain (OpenSpec.upto superConfigsSpec)) superConfigsUptoCard

/-- THE SECOND FORM's CARD OF 'tempolaw36.SuperCodes'. -/
def superCodesUptoCard : Claim7 := { stood := { row := superCodesUptoRow, standIns := [], harness := (true, "07f2962f405ea89f1583ac3fd8322ee12033071d1fe044101e359191743dbf56"), looks := true }, kinds := [], alts := [], laidByText := true, laidKinds := [.data, .data, .data, .data, .sentinel, .sentinel, .data, .pinned], laidTests := true, laidLooks := .later }
def SuperCodesUptoCardSaid : Prop := Claim7.holds Tryz.pinned (.plain (OpenSpec.upto superCodesSpec)) superCodesUptoCard

/-- THE SECOND FORM's CARD OF 'tempolaw36.SuperNil'. -/
def superNilUptoCard : Claim7 := { stood := { row := superNilUptoRow, standIns := [], harness := (true, "07f2962f405ea89f1583ac3fd8322ee12033071d1fe044101e359191743dbf56"), looks := true }, kinds := [], alts := [], laidByText := true, laidKinds := [.data, .data, .data, .data, .sentinel, .sentinel, .data, .pinned], laidTests := true, laidLooks := .later }
def SuperNilUptoCardSaid : Prop := Claim7.holds Tryz.pinned (.plain (OpenSpec.upto superNilSpec)) superNilUptoCard

/-- THE SECOND FORM's CARD OF 'tempolaw36.SuperBack'. -/
def superBackUptoCard : Claim7 := { stood := { row := superBackUptoRow, standIns := [], harness := (true, "07f2962f405ea89f1583ac3fd8322ee12033071d1fe044101e359191743dbf56"), looks := true }, kinds := [], alts := [], laidByText := true, laidKinds := [.data, .data, .data, .data, .sentinel, .sentinel, .data, .pinned], laidTests := true, laidLooks := .later }
def SuperBackUptoCardSaid : Prop := Claim7.holds Tryz.pinned (.plain (OpenSpec.upto superBackSpec)) superBackUptoCard

/-- THE SECOND FORM's CARD OF 'tempolaw36.SuperReads'. -/
def superReadsUptoCard : Claim7 := { stood := { row := superReadsUptoRow, standIns := [], harness := (true, "07f2962f405ea89f1583ac3fd8322ee12033071d1fe044101e359191743dbf56"), looks := true }, kinds := [], alts := [], laidByText := true, laidKinds := [.data, .data, .data, .data, .sentinel, .sentinel, .data, .pinned], laidTests := true, laidLooks := .later }
def SuperReadsUptoCardSaid : Prop := Claim7.holds Tryz.pinned (.plain (OpenSpec.upto superReadsSpec)) superReadsUptoCard

/-- THE SECOND FORM's CARD OF 'tempolaw36.SuperLayouts'. -/
def superLayoutsUptoCard : Claim7 := { stood := { row := superLayoutsUptoRow, standIns := [], harness := (true, "07f2962f405ea89f1583ac3fd8322ee12033071d1fe044101e359191743dbf56"), looks := true }, kinds := [], alts := [], laidByText := true, laidKinds := [.data, .data, .data, .data, .sentinel, .sentinel, .data, .pinned], laidTests := true, laidLooks := .later }
def SuperLayoutsUptoCardSaid : Prop := Claim7.holds Tryz.pinned (.plain (OpenSpec.upto superLayoutsSpec)) superLayoutsUptoCard

/-- THE SECOND FORM's CARD OF 'tempolaw36.SuperTorn'. -/
def superTornUptoCard : Claim7 := { stood := { row := superTornUptoRow, standIns := [], harness := (true, "07f2962f405ea89f1583ac3fd8322ee12033071d1fe044101e359191743dbf56"), looks := true }, kinds := [], alts := [], laidByText := true, laidKinds := [.data, .data, .data, .data, .sentinel, .sentinel, .data, .pinned], laidTests := true, laidLooks := .later }
def SuperTornUptoCardSaid : Prop := Claim7.holds Tryz.pinned (.plain (OpenSpec.upto superTornSpec)) superTornUptoCard

/-- THE SECOND FORM's CARD OF 'tempolaw36.SuperRefuses'. -/
def superRefusesUptoCard : Claim7 := { stood := { row := superRefusesUptoRow, standIns := [], harness := (true, "07f2962f405ea89f1583ac3fd8322ee12033071d1fe044101e359191743dbf56"), looks := true }, kinds := [], alts := [], laidByText := true, laidKinds := [.data, .data, .data, .data, .sentinel, .sentinel, .data, .pinned], laidTests := true, laidLooks := .later }
def SuperRefusesUptoCardSaid : Prop := Claim7.holds Tryz.pinned (.plain (OpenSpec.upto superRefusesSpec)) superRefusesUptoCard

/-- THE SECOND FORM's CARD OF 'tempolaw36.SuperTurns'. -/
def superTurnsUptoCard : Claim7 := { stood := { row := superTurnsUptoRow, standIns := [], harness := (true, "07f2962f405ea89f1583ac3fd8322ee12033071d1fe044101e359191743dbf56"), looks := true }, kinds := [], alts := [], laidByText := true, laidKinds := [.data, .data, .data, .data, .sentinel, .sentinel, .data, .pinned], laidTests := true, laidLooks := .later }
def SuperTurnsUptoCardSaid : Prop := Claim7.holds Tryz.pinned (.plain (OpenSpec.upto superTurnsSpec)) superTurnsUptoCard

/-- THE SECOND FORM's CARD OF 'tempolaw36.SuperPlays'. -/
def superPlaysUptoCard : Claim7 := { stood := { row := superPlaysUptoRow, standIns := [], harness := (true, "07f2962f405ea89f1583ac3fd8322ee12033071d1fe044101e359191743dbf56"), looks := true }, kinds := [], alts := [], laidByText := true, laidKinds := [.data, .data, .data, .data, .sentinel, .sentinel, .data, .pinned], laidTests := true, laidLooks := .later }
def SuperPlaysUptoCardSaid : Prop := Claim7.holds Tryz.pinned (.plain (OpenSpec.upto superPlaysSpec)) superPlaysUptoCard
end Rows
end Go.Proofs.YtcjjlajpbakaoaaGreatDoor
