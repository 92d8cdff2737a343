/-
  NARROWER THAN 'FOR EVERY INPUT', by the rows' own cells (each row's printed sentence says how): BitboardShifts: laid · BitboardLoops: laid · BitboardSets: laid · BitboardTurns: laid · BitboardRefuses: laid · BitboardSquares: laid · BitboardTexts: laid · BitboardLists: laid.
  DERIVED. THE GIVEN ROWS OF THIS SEAT. 8 by the template 'for every input the law returns true; each argument reads behind the call as it read before'; 0 by the template 'total and deterministic' (their statements: YtakchekhpeokjaaDoorTotals.lean).
  GIVEN WITH THE SEED: the statements are not yours to turn. If you find one false, say at which input.
  Laid BY PROGRAM, IN A SANDBOX (cutbox-rows.mjs): the forced cells as the released guide's own fill.sh prints them over the translation c4a1a52677746bb0… (all of the seat's roots in one cut). By AI agents, Wed Nov 11 2026. No macro, syntax, notation, axiom, sorry.
-/
import Derived.Test.YtakchekhpeokjaaDoorChecked
import GoSem.PinnedTables
import GoSem.Claim
import GoSem.ClaimJoined
import GoSem.ClaimMapViews
import Derived.JoinedTies
import Derived.KernelRfl
namespace Go.Proofs.YtakchekhpeokjaaDoor
/- THE CELL 'sum', in the pinned program and in every row, IS THE sha256 OF THE DUMP (.gsa) THAT YtakchekhpeokjaaDoorProg.lean LOADS. Nothing in Lean hashes anything: it is a label: what it is worth is what the hold of that sum in a sandbox is worth. -/
noncomputable def Tryd.pinned : Pinned := { name := "ytakchekhpeokjaadoor", sum := "c4a1a52677746bb02cfe204192b77b4c83288d4575988e43ed2ea2b932022cba", checked := Tryd.checked }
namespace Rows
def none {H : Type} : Left H := { results := [], args := [] }

/- WHAT THE LISTED PACKAGE-LEVEL VARIABLES READ AS WHEN THE CALL BEGINS. Each datum BY PROGRAM (the guide's laid-datum.mjs) off the statement by which the dump's own 'gosem.cut.vars' lays the variable. In a bare row this is a premise. The card (YtakchekhpeokjaaDoorCards.lean) ties it to the program's text. -/
def laid_math_bits_deBruijn64tab {H : Type} : DataW H := .agg [.lit (.int .u8 0), .lit (.int .u8 1), .lit (.int .u8 56), .lit (.int .u8 2), .lit (.int .u8 57), .lit (.int .u8 49), .lit (.int .u8 28), .lit (.int .u8 3), .lit (.int .u8 61), .lit (.int .u8 58), .lit (.int .u8 42), .lit (.int .u8 50), .lit (.int .u8 38), .lit (.int .u8 29), .lit (.int .u8 17), .lit (.int .u8 4), .lit (.int .u8 62), .lit (.int .u8 47), .lit (.int .u8 59), .lit (.int .u8 36), .lit (.int .u8 45), .lit (.int .u8 43), .lit (.int .u8 51), .lit (.int .u8 22), .lit (.int .u8 53), .lit (.int .u8 39), .lit (.int .u8 33), .lit (.int .u8 30), .lit (.int .u8 24), .lit (.int .u8 18), .lit (.int .u8 12), .lit (.int .u8 5), .lit (.int .u8 63), .lit (.int .u8 55), .lit (.int .u8 48), .lit (.int .u8 27), .lit (.int .u8 60), .lit (.int .u8 41), .lit (.int .u8 37), .lit (.int .u8 16), .lit (.int .u8 46), .lit (.int .u8 35), .lit (.int .u8 44), .lit (.int .u8 21), .lit (.int .u8 52), .lit (.int .u8 32), .lit (.int .u8 23), .lit (.int .u8 11), .lit (.int .u8 54), .lit (.int .u8 26), .lit (.int .u8 40), .lit (.int .u8 15), .lit (.int .u8 34), .lit (.int .u8 20), .lit (.int .u8 31), .lit (.int .u8 10), .lit (.int .u8 25), .lit (.int .u8 14), .lit (.int .u8 19), .lit (.int .u8 9), .lit (.int .u8 13), .lit (.int .u8 8), .lit (.int .u8 7), .lit (.int .u8 6)]
def laid_unicode_utf8_acceptRanges {H : Type} : DataW H := .agg [.agg [.lit (.int .u8 128), .lit (.int .u8 191)], .agg [.lit (.int .u8 160), .lit (.int .u8 191)], .agg [.lit (.int .u8 128), .lit (.int .u8 159)], .agg [.lit (.int .u8 144), .lit (.int .u8 191)], .agg [.lit (.int .u8 128), .lit (.int .u8 143)], .agg [.lit (.int .u8 0), .lit (.int .u8 0)], .agg [.lit (.int .u8 0), .lit (.int .u8 0)], .agg [.lit (.int .u8 0), .lit (.int .u8 0)], .agg [.lit (.int .u8 0), .lit (.int .u8 0)], .agg [.lit (.int .u8 0), .lit (.int .u8 0)], .agg [.lit (.int .u8 0), .lit (.int .u8 0)], .agg [.lit (.int .u8 0), .lit (.int .u8 0)], .agg [.lit (.int .u8 0), .lit (.int .u8 0)], .agg [.lit (.int .u8 0), .lit (.int .u8 0)], .agg [.lit (.int .u8 0), .lit (.int .u8 0)], .agg [.lit (.int .u8 0), .lit (.int .u8 0)]]
/-- One of Go's own tables, pinned by name: the form's constant. -/
def laid_unicode_utf8_first : DataW Unit := Go.Pinned.utf8First

/-- 'tempolaw05.BitboardShifts': WHATEVER THE INPUT: true; the input reads as it did. -/
def bitboardShiftsSpec : ChangeSpec := { name := "bitboardShifts", fn := fun _ => fun
  | [d1, d2, d3] => { results := [.lit (.bool true)], args := [d1, d2, d3] }
  | _ => none }
def bitboardShiftsRow : OpenClaim := { program := "ytakchekhpeokjaadoor", sum := "c4a1a52677746bb02cfe204192b77b4c83288d4575988e43ed2ea2b932022cba", func := "tempo/tempolaw05.BitboardShifts", spec := "bitboardShifts", inPlace := ["internal/abi.NoEscape", "internal/bytealg.MakeNoZero"], unfollowed := true, recurses := true, named := ["math/bits.deBruijn64tab"], apart := false, laid := [("math/bits.deBruijn64tab", laid_math_bits_deBruijn64tab)] }
def BitboardShiftsSaid : Prop := bitboardShiftsRow.holds Tryd.pinned (OpenSpec.ofChange bitboardShiftsSpec)

/-- ITS FALSE NEIGHBOUR: 'it returns false'. Refute it at one input. -/
def bitboardShiftsWrong : ChangeSpec := { name := "bitboardShifts", fn := fun _ => fun
  | [d1, d2, d3] => { results := [.lit (.bool false)], args := [d1, d2, d3] }
  | _ => none }
def BitboardShiftsWrongFalsely : Prop := bitboardShiftsRow.holds Tryd.pinned (OpenSpec.ofChange bitboardShiftsWrong)

/-- 'tempolaw05.BitboardLoops': WHATEVER THE INPUT: true; the input reads as it did. -/
def bitboardLoopsSpec : ChangeSpec := { name := "bitboardLoops", fn := fun _ => fun
  | [d1, d2] => { results := [.lit (.bool true)], args := [d1, d2] }
  | _ => none }
def bitboardLoopsRow : OpenClaim := { program := "ytakchekhpeokjaadoor", sum := "c4a1a52677746bb02cfe204192b77b4c83288d4575988e43ed2ea2b932022cba", func := "tempo/tempolaw05.BitboardLoops", spec := "bitboardLoops", inPlace := ["internal/abi.NoEscape", "internal/bytealg.MakeNoZero"], unfollowed := true, recurses := true, named := ["math/bits.deBruijn64tab"], apart := false, laid := [("math/bits.deBruijn64tab", laid_math_bits_deBruijn64tab)] }
def BitboardLoopsSaid : Prop := bitboardLoopsRow.holds Tryd.pinned (OpenSpec.ofChange bitboardLoopsSpec)

/-- ITS FALSE NEIGHBOUR: 'it returns false'. Refute it at one input. -/
def bitboardLoopsWrong : ChangeSpec := { name := "bitboardLoops", fn := fun _ => fun
  | [d1, d2] => { results := [.lit (.bool false)], args := [d1, d2] }
  | _ => none }
def BitboardLoopsWrongFalsely : Prop := bitboardLoopsRow.holds Tryd.pinned (OpenSpec.ofChange bitboardLoopsWrong)

/-- 'tempolaw05.BitboardSets': WHATEVER THE INPUT: true; the input reads as it did. -/
def bitboardSetsSpec : ChangeSpec := { name := "bitboardSets", fn := fun _ => fun
  | [d1, d2, d3, d4] => { results := [.lit (.bool true)], args := [d1, d2, d3, d4] }
  | _ => none }
def bitboardSetsRow : OpenClaim := { program := "ytakchekhpeokjaadoor", sum := "c4a1a52677746bb02cfe204192b77b4c83288d4575988e43ed2ea2b932022cba", func := "tempo/tempolaw05.BitboardSets", spec := "bitboardSets", inPlace := ["internal/abi.NoEscape", "internal/bytealg.MakeNoZero"], unfollowed := true, recurses := true, named := ["math/bits.deBruijn64tab"], apart := false, laid := [("math/bits.deBruijn64tab", laid_math_bits_deBruijn64tab)] }
def BitboardSetsSaid : Prop := bitboardSetsRow.holds Tryd.pinned (OpenSpec.ofChange bitboardSetsSpec)

/-- ITS FALSE NEIGHBOUR: 'it returns false'. Refute it at one input. -/
def bitboardSetsWrong : ChangeSpec := { name := "bitboardSets", fn := fun _ => fun
  | [d1, d2, d3, d4] => { results := [.lit (.bool false)], args := [d1, d2, d3, d4] }
  | _ => none }
def BitboardSetsWrongFalsely : Prop := bitboardSetsRow.holds Tryd.pinned (OpenSpec.ofChange bitboardSetsWrong)

/-- 'tempolaw05.BitboardTurns': WHATEVER THE INPUT: true; the input reads as it did. -/
def bitboardTurnsSpec : ChangeSpec := { name := "bitboardTurns", fn := fun _ => fun
  | [d1, d2] => { results := [.lit (.bool true)], args := [d1, d2] }
  | _ => none }
def bitboardTurnsRow : OpenClaim := { program := "ytakchekhpeokjaadoor", sum := "c4a1a52677746bb02cfe204192b77b4c83288d4575988e43ed2ea2b932022cba", func := "tempo/tempolaw05.BitboardTurns", spec := "bitboardTurns", inPlace := ["internal/abi.NoEscape", "internal/bytealg.MakeNoZero"], unfollowed := true, recurses := true, named := ["math/bits.deBruijn64tab"], apart := false, laid := [("math/bits.deBruijn64tab", laid_math_bits_deBruijn64tab)] }
def BitboardTurnsSaid : Prop := bitboardTurnsRow.holds Tryd.pinned (OpenSpec.ofChange bitboardTurnsSpec)

/-- ITS FALSE NEIGHBOUR: 'it returns false'. Refute it at one input. -/
def bitboardTurnsWrong : ChangeSpec := { name := "bitboardTurns", fn := fun _ => fun
  | [d1, d2] => { results := [.lit (.bool false)], args := [d1, d2] }
  | _ => none }
def BitboardTurnsWrongFalsely : Prop := bitboardTurnsRow.holds Tryd.pinned (OpenSpec.ofChange bitboardTurnsWrong)

/-- 'tempolaw05.BitboardRefuses': WHATEVER THE INPUT: true; the input reads as it did. -/
def bitboardRefusesSpec : ChangeSpec := { name := "bitboardRefuses", fn := fun _ => fun
  | [d1, d2] => { results := [.lit (.bool true)], args := [d1, d2] }
  | _ => none }
def bitboardRefusesRow : OpenClaim := { program := "ytakchekhpeokjaadoor", sum := "c4a1a52677746bb02cfe204192b77b4c83288d4575988e43ed2ea2b932022cba", func := "tempo/tempolaw05.BitboardRefuses", spec := "bitboardRefuses", inPlace := ["internal/abi.NoEscape", "internal/bytealg.MakeNoZero"], unfollowed := true, recurses := true, named := ["math/bits.deBruijn64tab"], apart := false, laid := [("math/bits.deBruijn64tab", laid_math_bits_deBruijn64tab)] }
def BitboardRefusesSaid : Prop := bitboardRefusesRow.holds Tryd.pinned (OpenSpec.ofChange bitboardRefusesSpec)

/-- ITS FALSE NEIGHBOUR: 'it returns false'. Refute it at one input. -/
def bitboardRefusesWrong : ChangeSpec := { name := "bitboardRefuses", fn := fun _ => fun
  | [d1, d2] => { results := [.lit (.bool false)], args := [d1, d2] }
  | _ => none }
def BitboardRefusesWrongFalsely : Prop := bitboardRefusesRow.holds Tryd.pinned (OpenSpec.ofChange bitboardRefusesWrong)

/-- 'tempolaw05.BitboardSquares': WHATEVER THE INPUT: true; the input reads as it did. -/
def bitboardSquaresSpec : ChangeSpec := { name := "bitboardSquares", fn := fun _ => fun
  | [d] => { results := [.lit (.bool true)], args := [d] }
  | _ => none }
def bitboardSquaresRow : OpenClaim := { program := "ytakchekhpeokjaadoor", sum := "c4a1a52677746bb02cfe204192b77b4c83288d4575988e43ed2ea2b932022cba", func := "tempo/tempolaw05.BitboardSquares", spec := "bitboardSquares", inPlace := ["internal/abi.NoEscape", "internal/bytealg.MakeNoZero"], unfollowed := true, recurses := true, named := ["math/bits.deBruijn64tab"], apart := false, laid := [("math/bits.deBruijn64tab", laid_math_bits_deBruijn64tab)] }
def BitboardSquaresSaid : Prop := bitboardSquaresRow.holds Tryd.pinned (OpenSpec.ofChange bitboardSquaresSpec)

/-- ITS FALSE NEIGHBOUR: 'it returns false'. Refute it at one input. -/
def bitboardSquaresWrong : ChangeSpec := { name := "bitboardSquares", fn := fun _ => fun
  | [d] => { results := [.lit (.bool false)], args := [d] }
  | _ => none }
def BitboardSquaresWrongFalsely : Prop := bitboardSquaresRow.holds Tryd.pinned (OpenSpec.ofChange bitboardSquaresWrong)

/-- 'tempolaw05.BitboardTexts': WHATEVER THE INPUT: true; the input reads as it did. -/
def bitboardTextsSpec : ChangeSpec := { name := "bitboardTexts", fn := fun _ => fun
  | [d1, d2, d3] => { results := [.lit (.bool true)], args := [d1, d2, d3] }
  | _ => none }
def bitboardTextsRow : OpenClaim := { program := "ytakchekhpeokjaadoor", sum := "c4a1a52677746bb02cfe204192b77b4c83288d4575988e43ed2ea2b932022cba", func := "tempo/tempolaw05.BitboardTexts", spec := "bitboardTexts", inPlace := ["internal/abi.NoEscape", "internal/bytealg.MakeNoZero", "internal/bytealg.CountString", "internal/bytealg.IndexByteString", "internal/bytealg.IndexString"], unfollowed := true, recurses := true, named := ["math/bits.deBruijn64tab", "unicode/utf8.first", "unicode/utf8.acceptRanges", "internal/bytealg.MaxLen"], apart := false, laid := [("math/bits.deBruijn64tab", laid_math_bits_deBruijn64tab), ("unicode/utf8.acceptRanges", laid_unicode_utf8_acceptRanges), ("unicode/utf8.first", laid_unicode_utf8_first)] }
def BitboardTextsSaid : Prop := bitboardTextsRow.holds Tryd.pinned (OpenSpec.ofChange bitboardTextsSpec)

/-- ITS FALSE NEIGHBOUR: 'it returns false'. Refute it at one input. -/
def bitboardTextsWrong : ChangeSpec := { name := "bitboardTexts", fn := fun _ => fun
  | [d1, d2, d3] => { results := [.lit (.bool false)], args := [d1, d2, d3] }
  | _ => none }
def BitboardTextsWrongFalsely : Prop := bitboardTextsRow.holds Tryd.pinned (OpenSpec.ofChange bitboardTextsWrong)

/-- 'tempolaw05.BitboardLists': WHATEVER THE INPUT: true; the input reads as it did. -/
def bitboardListsSpec : ChangeSpec := { name := "bitboardLists", fn := fun _ => fun
  | [d1, d2, d3] => { results := [.lit (.bool true)], args := [d1, d2, d3] }
  | _ => none }
def bitboardListsRow : OpenClaim := { program := "ytakchekhpeokjaadoor", sum := "c4a1a52677746bb02cfe204192b77b4c83288d4575988e43ed2ea2b932022cba", func := "tempo/tempolaw05.BitboardLists", spec := "bitboardLists", inPlace := ["internal/abi.NoEscape", "internal/bytealg.MakeNoZero", "internal/bytealg.CountString", "internal/bytealg.IndexByteString", "internal/bytealg.IndexString"], unfollowed := true, recurses := true, named := ["math/bits.deBruijn64tab", "unicode/utf8.first", "unicode/utf8.acceptRanges", "internal/bytealg.MaxLen"], apart := false, laid := [("math/bits.deBruijn64tab", laid_math_bits_deBruijn64tab), ("unicode/utf8.acceptRanges", laid_unicode_utf8_acceptRanges), ("unicode/utf8.first", laid_unicode_utf8_first)] }
def BitboardListsSaid : Prop := bitboardListsRow.holds Tryd.pinned (OpenSpec.ofChange bitboardListsSpec)

/-- ITS FALSE NEIGHBOUR: 'it returns false'. Refute it at one input. -/
def bitboardListsWrong : ChangeSpec := { name := "bitboardLists", fn := fun _ => fun
  | [d1, d2, d3] => { results := [.lit (.bool false)], args := [d1, d2, d3] }
  | _ => none }
def BitboardListsWrongFalsely : Prop := bitboardListsRow.holds Tryd.pinned (OpenSpec.ofChange bitboardListsWrong)

/- THE SECOND FORM. 'bulk': how many values and letters a reading holds, each counted each time it is reached (what is shared counts as often as it is met; a slice's spare places count too). A statement '..UptoSaid' is the law's where the arguments, and the package variables that the reading takes, are together of bulk at most 1048576: NARROWER than '..Said'. Prove '..Said' where nothing that the law and all that it calls make is longer than what came in: it says more and counts as full. Else prove '..UptoSaid'. A law counts once. -/
mutual
def uptoBulk {H : Type} : DataW H → Nat
  | .lit (.string bytes) => bytes.length + 1
  | .lit _ => 1
  | .nil => 1
  | .ptr d => uptoBulk d + 1
  | .slice elems spare => uptoBulkAll elems + uptoBulkAll spare + 1
  | .agg parts => uptoBulkAll parts + 1
  | .iface _ d => uptoBulk d + 1
  | .map entries => uptoBulkEntries entries + 1
  | .held _ => 1
def uptoBulkAll {H : Type} : List (DataW H) → Nat
  | [] => 0
  | d :: r => uptoBulk d + uptoBulkAll r
def uptoBulkEntries {H : Type} : List (Lit × DataW H) → Nat
  | [] => 0
  | x :: r => uptoBulkEntry x + uptoBulkEntries r
def uptoBulkEntry {H : Type} : Lit × DataW H → Nat
  | (.string bytes, d) => bytes.length + uptoBulk d + 1
  | (_, d) => uptoBulk d + 1
 end
def uptoSmall : (H : Type) → List (DataW H) → Bool := fun _ ds => decide (uptoBulkAll ds ≤ 1048576)
def OpenSpec.upto (s : _root_.Go.ChangeSpec) : _root_.Go.OpenSpec := { _root_.Go.OpenSpec.ofChange s with cond := some uptoSmall }

/-- 'tempolaw05.BitboardShifts', WHERE WHAT IT READS IS OF BULK AT MOST 1048576: true; the input reads as it did. -/
def bitboardShiftsUptoRow : OpenClaim := { program := "ytakchekhpeokjaadoor", sum := "c4a1a52677746bb02cfe204192b77b4c83288d4575988e43ed2ea2b932022cba", func := "tempo/tempolaw05.BitboardShifts", spec := "bitboardShifts", inPlace := ["internal/abi.NoEscape", "internal/bytealg.MakeNoZero"], unfollowed := true, recurses := true, named := ["math/bits.deBruijn64tab"], apart := false, laid := [("math/bits.deBruijn64tab", laid_math_bits_deBruijn64tab)], narrowed := true }
def BitboardShiftsUptoSaid : Prop := bitboardShiftsUptoRow.holds Tryd.pinned (OpenSpec.upto bitboardShiftsSpec)

/-- 'tempolaw05.BitboardLoops', WHERE WHAT IT READS IS OF BULK AT MOST 1048576: true; the input reads as it did. -/
def bitboardLoopsUptoRow : OpenClaim := { program := "ytakchekhpeokjaadoor", sum := "c4a1a52677746bb02cfe204192b77b4c83288d4575988e43ed2ea2b932022cba", func := "tempo/tempolaw05.BitboardLoops", spec := "bitboardLoops", inPlace := ["internal/abi.NoEscape", "internal/bytealg.MakeNoZero"], unfollowed := true, recurses := true, named := ["math/bits.deBruijn64tab"], apart := false, laid := [("math/bits.deBruijn64tab", laid_math_bits_deBruijn64tab)], narrowed := true }
def BitboardLoopsUptoSaid : Prop := bitboardLoopsUptoRow.holds Tryd.pinned (OpenSpec.upto bitboardLoopsSpec)

/-- 'tempolaw05.BitboardSets', WHERE WHAT IT READS IS OF BULK AT MOST 1048576: true; the input reads as it did. -/
def bitboardSetsUptoRow : OpenClaim := { program := "ytakchekhpeokjaadoor", sum := "c4a1a52677746bb02cfe204192b77b4c83288d4575988e43ed2ea2b932022cba", func := "tempo/tempolaw05.BitboardSets", spec := "bitboardSets", inPlace := ["internal/abi.NoEscape", "internal/bytealg.MakeNoZero"], unfollowed := true, recurses := true, named := ["math/bits.deBruijn64tab"], apart := false, laid := [("math/bits.deBruijn64tab", laid_math_bits_deBruijn64tab)], narrowed := true }
def BitboardSetsUptoSaid : Prop := bitboardSetsUptoRow.holds Tryd.pinned (OpenSpec.upto bitboardSetsSpec)

/-- 'tempolaw05.BitboardTurns', WHERE WHAT IT READS IS OF BULK AT MOST 1048576: true; the input reads as it did. -/
def bitboardTurnsUptoRow : OpenClaim := { program := "ytakchekhpeokjaadoor", sum := "c4a1a52677746bb02cfe204192b77b4c83288d4575988e43ed2ea2b932022cba", func := "tempo/tempolaw05.BitboardTurns", spec := "bitboardTurns", inPlace := ["internal/abi.NoEscape", "internal/bytealg.MakeNoZero"], unfollowed := true, recurses := true, named := ["math/bits.deBruijn64tab"], apart := false, laid := [("math/bits.deBruijn64tab", laid_math_bits_deBruijn64tab)], narrowed := true }
def BitboardTurnsUptoSaid : Prop := bitboardTurnsUptoRow.holds Tryd.pinned (OpenSpec.upto bitboardTurnsSpec)

/-- 'tempolaw05.BitboardRefuses', WHERE WHAT IT READS IS OF BULK AT MOST 1048576: true; the input reads as it did. -/
def bitboardRefusesUptoRow : OpenClaim := { program := "ytakchekhpeokjaadoor", sum := "c4a1a52677746bb02cfe204192b77b4c83288d4575988e43ed2ea2b932022cba", func := "tempo/tempolaw05.BitboardRefuses", spec := "bitboardRefuses", inPlace := ["internal/abi.NoEscape", "internal/bytealg.MakeNoZero"], unfollowed := true, recurses := true, named := ["math/bits.deBruijn64tab"], apart := false, laid := [("math/bits.deBruijn64tab", laid_math_bits_deBruijn64tab)], narrowed := true }
def BitboardRefusesUptoSaid : Prop := bitboardRefusesUptoRow.holds Tryd.pinned (OpenSpec.upto bitboardRefusesSpec)

/-- 'tempolaw05.BitboardSquares', WHERE WHAT IT READS IS OF BULK AT MOST 1048576: true; the input reads as it did. -/
def bitboardSquaresUptoRow : OpenClaim := { program := "ytakchekhpeokjaadoor", sum := "c4a1a52677746bb02cfe204192b77b4c83288d4575988e43ed2ea2b932022cba", func := "tempo/tempolaw05.BitboardSquares", spec := "bitboardSquares", inPlace := ["internal/abi.NoEscape", "internal/bytealg.MakeNoZero"], unfollowed := true, recurses := true, named := ["math/bits.deBruijn64tab"], apart := false, laid := [("math/bits.deBruijn64tab", laid_math_bits_deBruijn64tab)], narrowed := true }
def BitboardSquaresUptoSaid : Prop := bitboardSquaresUptoRow.holds Tryd.pinned (OpenSpec.upto bitboardSquaresSpec)

/-- 'tempolaw05.BitboardTexts', WHERE WHAT IT READS IS OF BULK AT MOST 1048576: true; the input reads as it did. -/
def bitboardTextsUptoRow : OpenClaim := { program := "ytakchekhpeokjaadoor", sum := "c4a1a52677746bb02cfe204192b77b4c83288d4575988e43ed2ea2b932022cba", func := "tempo/tempolaw05.BitboardTexts", spec := "bitboardTexts", inPlace := ["internal/abi.NoEscape", "internal/bytealg.MakeNoZero", "internal/bytealg.CountString", "internal/bytealg.IndexByteString", "internal/bytealg.IndexString"], unfollowed := true, recurses := true, named := ["math/bits.deBruijn64tab", "unicode/utf8.first", "unicode/utf8.acceptRanges", "internal/bytealg.MaxLen"], apart := false, laid := [("math/bits.deBruijn64tab", laid_math_bits_deBruijn64tab), ("unicode/utf8.acceptRanges", laid_unicode_utf8_acceptRanges), ("unicode/utf8.first", laid_unicode_utf8_first)], narrowed := true }
def BitboardTextsUptoSaid : Prop := bitboardTextsUptoRow.holds Tryd.pinned (OpenSpec.upto bitboardTextsSpec)

/-- 'tempolaw05.BitboardLists', WHERE WHAT IT READS IS OF BULK AT MOST 1048576: true; the input reads as it did. -/
def bitboardListsUptoRow : OpenClaim := { program := "ytakchekhpeokjaadoor", sum := "c4a1a52677746bb02cfe204192b77b4c83288d4575988e43ed2ea2b932022cba", func := "tempo/tempolaw05.BitboardLists", spec := "bitboardLists", inPlace := ["internal/abi.NoEscape", "internal/bytealg.MakeNoZero", "internal/bytealg.CountString", "internal/bytealg.IndexByteString", "internal/bytealg.IndexString"], unfollowed := true, recurses := true, named := ["math/bits.deBruijn64tab", "unicode/utf8.first", "unicode/utf8.acceptRanges", "internal/bytealg.MaxLen"], apart := false, laid := [("math/bits.deBruijn64tab", laid_math_bits_deBruijn64tab), ("unicode/utf8.acceptRanges", laid_unicode_utf8_acceptRanges), ("unicode/utf8.first", laid_unicode_utf8_first)], narrowed := true }
def BitboardListsUptoSaid : Prop := bitboardListsUptoRow.holds Tryd.pinned (OpenSpec.upto bitboardListsSpec)

end Rows
end Go.Proofs.YtakchekhpeokjaaDoor
