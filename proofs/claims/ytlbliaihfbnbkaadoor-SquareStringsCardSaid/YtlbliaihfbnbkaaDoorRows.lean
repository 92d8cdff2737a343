/-
  NARROWER THAN 'FOR EVERY INPUT', by the rows' own cells (each row's printed sentence says how): SquareNumbers: laid · SquareStrings: laid · SquareNames: laid · SquareReads: laid · SquareFlips: laid · SquareNone: laid · SquareLists: laid.
  DERIVED. THE GIVEN ROWS OF THIS SEAT. 7 by the template 'for every input the law returns true; each argument reads behind the call as it read before'; 0 by the template 'total and deterministic' (their statements: YtlbliaihfbnbkaaDoorTotals.lean).
  GIVEN WITH THE SEED: the statements are not yours to turn. If you find one false, say at which input.
  Laid BY PROGRAM, IN A SANDBOX (cutbox-rows.mjs): the forced cells as the released guide's own fill.sh prints them over the translation b233d43cb7d8d790… (all of the seat's roots in one cut). By AI agents, Wed Nov 11 2026. No macro, syntax, notation, axiom, sorry.
-/
import Derived.Test.YtlbliaihfbnbkaaDoorChecked
import GoSem.PinnedTables
import GoSem.Claim
import GoSem.ClaimJoined
import GoSem.ClaimMapViews
import Derived.JoinedTies
import Derived.KernelRfl
namespace Go.Proofs.YtlbliaihfbnbkaaDoor
/- THE CELL 'sum', in the pinned program and in every row, IS THE sha256 OF THE DUMP (.gsa) THAT YtlbliaihfbnbkaaDoorProg.lean LOADS. Nothing in Lean hashes anything: it is a label: what it is worth is what the hold of that sum in a sandbox is worth. -/
noncomputable def Tryd.pinned : Pinned := { name := "ytlbliaihfbnbkaadoor", sum := "b233d43cb7d8d7905d580c49718a683ba670748feb0496ed51f0b033a0ea14db", checked := Tryd.checked }
namespace Rows
def none {H : Type} : Left H := { results := [], args := [] }

/- WHAT THE LISTED PACKAGE-LEVEL VARIABLES READ AS WHEN THE CALL BEGINS. Each datum BY PROGRAM (the guide's laid-datum.mjs) off the statement by which the dump's own 'gosem.cut.vars' lays the variable. In a bare row this is a premise. The card (YtlbliaihfbnbkaaDoorCards.lean) ties it to the program's text. -/
def laid_unicode_utf8_acceptRanges {H : Type} : DataW H := .agg [.agg [.lit (.int .u8 128), .lit (.int .u8 191)], .agg [.lit (.int .u8 160), .lit (.int .u8 191)], .agg [.lit (.int .u8 128), .lit (.int .u8 159)], .agg [.lit (.int .u8 144), .lit (.int .u8 191)], .agg [.lit (.int .u8 128), .lit (.int .u8 143)], .agg [.lit (.int .u8 0), .lit (.int .u8 0)], .agg [.lit (.int .u8 0), .lit (.int .u8 0)], .agg [.lit (.int .u8 0), .lit (.int .u8 0)], .agg [.lit (.int .u8 0), .lit (.int .u8 0)], .agg [.lit (.int .u8 0), .lit (.int .u8 0)], .agg [.lit (.int .u8 0), .lit (.int .u8 0)], .agg [.lit (.int .u8 0), .lit (.int .u8 0)], .agg [.lit (.int .u8 0), .lit (.int .u8 0)], .agg [.lit (.int .u8 0), .lit (.int .u8 0)], .agg [.lit (.int .u8 0), .lit (.int .u8 0)], .agg [.lit (.int .u8 0), .lit (.int .u8 0)]]
/-- One of Go's own tables, pinned by name: the form's constant. -/
def laid_unicode_utf8_first : DataW Unit := Go.Pinned.utf8First

/-- 'tempolaw07.SquareNumbers': WHATEVER THE INPUT: true; the input reads as it did. -/
def squareNumbersSpec : ChangeSpec := { name := "squareNumbers", fn := fun _ => fun
  | [d1, d2, d3] => { results := [.lit (.bool true)], args := [d1, d2, d3] }
  | _ => none }
def squareNumbersRow : OpenClaim := { program := "ytlbliaihfbnbkaadoor", sum := "b233d43cb7d8d7905d580c49718a683ba670748feb0496ed51f0b033a0ea14db", func := "tempo/tempolaw07.SquareNumbers", spec := "squareNumbers", inPlace := ["internal/bytealg.IndexByteString", "internal/bytealg.IndexString"], unfollowed := true, recurses := true, named := ["unicode/utf8.first", "unicode/utf8.acceptRanges", "internal/bytealg.MaxLen"], apart := false, laid := [("unicode/utf8.acceptRanges", laid_unicode_utf8_acceptRanges), ("unicode/utf8.first", laid_unicode_utf8_first)] }
def SquareNumbersSaid : Prop := squareNumbersRow.holds Tryd.pinned (OpenSpec.ofChange squareNumbersSpec)

/-- ITS FALSE NEIGHBOUR: 'it returns false'. Refute it at one input. -/
def squareNumbersWrong : ChangeSpec := { name := "squareNumbers", fn := fun _ => fun
  | [d1, d2, d3] => { results := [.lit (.bool false)], args := [d1, d2, d3] }
  | _ => none }
def SquareNumbersWrongFalsely : Prop := squareNumbersRow.holds Tryd.pinned (OpenSpec.ofChange squareNumbersWrong)

/-- 'tempolaw07.SquareStrings': WHATEVER THE INPUT: true; the input reads as it did. -/
def squareStringsSpec : ChangeSpec := { name := "squareStrings", fn := fun _ => fun
  | [d] => { results := [.lit (.bool true)], args := [d] }
  | _ => none }
def squareStringsRow : OpenClaim := { program := "ytlbliaihfbnbkaadoor", sum := "b233d43cb7d8d7905d580c49718a683ba670748feb0496ed51f0b033a0ea14db", func := "tempo/tempolaw07.SquareStrings", spec := "squareStrings", inPlace := ["internal/bytealg.IndexByteString", "internal/bytealg.IndexString"], unfollowed := true, recurses := true, named := ["unicode/utf8.first", "unicode/utf8.acceptRanges", "internal/bytealg.MaxLen"], apart := false, laid := [("unicode/utf8.acceptRanges", laid_unicode_utf8_acceptRanges), ("unicode/utf8.first", laid_unicode_utf8_first)] }
def SquareStringsSaid : Prop := squareStringsRow.holds Tryd.pinned (OpenSpec.ofChange squareStringsSpec)

/-- ITS FALSE NEIGHBOUR: 'it returns false'. Refute it at one input. -/
def squareStringsWrong : ChangeSpec := { name := "squareStrings", fn := fun _ => fun
  | [d] => { results := [.lit (.bool false)], args := [d] }
  | _ => none }
def SquareStringsWrongFalsely : Prop := squareStringsRow.holds Tryd.pinned (OpenSpec.ofChange squareStringsWrong)

/-- 'tempolaw07.SquareNames': WHATEVER THE INPUT: true; the input reads as it did. -/
def squareNamesSpec : ChangeSpec := { name := "squareNames", fn := fun _ => fun
  | [d1, d2] => { results := [.lit (.bool true)], args := [d1, d2] }
  | _ => none }
def squareNamesRow : OpenClaim := { program := "ytlbliaihfbnbkaadoor", sum := "b233d43cb7d8d7905d580c49718a683ba670748feb0496ed51f0b033a0ea14db", func := "tempo/tempolaw07.SquareNames", spec := "squareNames", inPlace := ["internal/bytealg.IndexByteString", "internal/bytealg.IndexString"], unfollowed := true, recurses := true, named := ["unicode/utf8.first", "unicode/utf8.acceptRanges", "internal/bytealg.MaxLen"], apart := false, laid := [("unicode/utf8.acceptRanges", laid_unicode_utf8_acceptRanges), ("unicode/utf8.first", laid_unicode_utf8_first)] }
def SquareNamesSaid : Prop := squareNamesRow.holds Tryd.pinned (OpenSpec.ofChange squareNamesSpec)

/-- ITS FALSE NEIGHBOUR: 'it returns false'. Refute it at one input. -/
def squareNamesWrong : ChangeSpec := { name := "squareNames", fn := fun _ => fun
  | [d1, d2] => { results := [.lit (.bool false)], args := [d1, d2] }
  | _ => none }
def SquareNamesWrongFalsely : Prop := squareNamesRow.holds Tryd.pinned (OpenSpec.ofChange squareNamesWrong)

/-- 'tempolaw07.SquareReads': WHATEVER THE INPUT: true; the input reads as it did. -/
def squareReadsSpec : ChangeSpec := { name := "squareReads", fn := fun _ => fun
  | [d] => { results := [.lit (.bool true)], args := [d] }
  | _ => none }
def squareReadsRow : OpenClaim := { program := "ytlbliaihfbnbkaadoor", sum := "b233d43cb7d8d7905d580c49718a683ba670748feb0496ed51f0b033a0ea14db", func := "tempo/tempolaw07.SquareReads", spec := "squareReads", inPlace := ["internal/bytealg.IndexByteString", "internal/bytealg.IndexString"], unfollowed := true, recurses := true, named := ["unicode/utf8.first", "unicode/utf8.acceptRanges", "internal/bytealg.MaxLen"], apart := false, laid := [("unicode/utf8.acceptRanges", laid_unicode_utf8_acceptRanges), ("unicode/utf8.first", laid_unicode_utf8_first)] }
def SquareReadsSaid : Prop := squareReadsRow.holds Tryd.pinned (OpenSpec.ofChange squareReadsSpec)

/-- ITS FALSE NEIGHBOUR: 'it returns false'. Refute it at one input. -/
def squareReadsWrong : ChangeSpec := { name := "squareReads", fn := fun _ => fun
  | [d] => { results := [.lit (.bool false)], args := [d] }
  | _ => none }
def SquareReadsWrongFalsely : Prop := squareReadsRow.holds Tryd.pinned (OpenSpec.ofChange squareReadsWrong)

/-- 'tempolaw07.SquareFlips': WHATEVER THE INPUT: true; the input reads as it did. -/
def squareFlipsSpec : ChangeSpec := { name := "squareFlips", fn := fun _ => fun
  | [d] => { results := [.lit (.bool true)], args := [d] }
  | _ => none }
def squareFlipsRow : OpenClaim := { program := "ytlbliaihfbnbkaadoor", sum := "b233d43cb7d8d7905d580c49718a683ba670748feb0496ed51f0b033a0ea14db", func := "tempo/tempolaw07.SquareFlips", spec := "squareFlips", inPlace := ["internal/bytealg.IndexByteString", "internal/bytealg.IndexString"], unfollowed := true, recurses := true, named := ["unicode/utf8.first", "unicode/utf8.acceptRanges", "internal/bytealg.MaxLen"], apart := false, laid := [("unicode/utf8.acceptRanges", laid_unicode_utf8_acceptRanges), ("unicode/utf8.first", laid_unicode_utf8_first)] }
def SquareFlipsSaid : Prop := squareFlipsRow.holds Tryd.pinned (OpenSpec.ofChange squareFlipsSpec)

/-- ITS FALSE NEIGHBOUR: 'it returns false'. Refute it at one input. -/
def squareFlipsWrong : ChangeSpec := { name := "squareFlips", fn := fun _ => fun
  | [d] => { results := [.lit (.bool false)], args := [d] }
  | _ => none }
def SquareFlipsWrongFalsely : Prop := squareFlipsRow.holds Tryd.pinned (OpenSpec.ofChange squareFlipsWrong)

/-- 'tempolaw07.SquareNone': WHATEVER THE INPUT: true; the input reads as it did. -/
def squareNoneSpec : ChangeSpec := { name := "squareNone", fn := fun _ => fun
  | [d] => { results := [.lit (.bool true)], args := [d] }
  | _ => none }
def squareNoneRow : OpenClaim := { program := "ytlbliaihfbnbkaadoor", sum := "b233d43cb7d8d7905d580c49718a683ba670748feb0496ed51f0b033a0ea14db", func := "tempo/tempolaw07.SquareNone", spec := "squareNone", inPlace := ["internal/bytealg.IndexByteString", "internal/bytealg.IndexString"], unfollowed := true, recurses := true, named := ["unicode/utf8.first", "unicode/utf8.acceptRanges", "internal/bytealg.MaxLen"], apart := false, laid := [("unicode/utf8.acceptRanges", laid_unicode_utf8_acceptRanges), ("unicode/utf8.first", laid_unicode_utf8_first)] }
def SquareNoneSaid : Prop := squareNoneRow.holds Tryd.pinned (OpenSpec.ofChange squareNoneSpec)

/-- ITS FALSE NEIGHBOUR: 'it returns false'. Refute it at one input. -/
def squareNoneWrong : ChangeSpec := { name := "squareNone", fn := fun _ => fun
  | [d] => { results := [.lit (.bool false)], args := [d] }
  | _ => none }
def SquareNoneWrongFalsely : Prop := squareNoneRow.holds Tryd.pinned (OpenSpec.ofChange squareNoneWrong)

/-- 'tempolaw07.SquareLists': WHATEVER THE INPUT: true; the input reads as it did. -/
def squareListsSpec : ChangeSpec := { name := "squareLists", fn := fun _ => fun
  | [d1, d2, d3] => { results := [.lit (.bool true)], args := [d1, d2, d3] }
  | _ => none }
def squareListsRow : OpenClaim := { program := "ytlbliaihfbnbkaadoor", sum := "b233d43cb7d8d7905d580c49718a683ba670748feb0496ed51f0b033a0ea14db", func := "tempo/tempolaw07.SquareLists", spec := "squareLists", inPlace := ["internal/abi.NoEscape", "internal/bytealg.MakeNoZero", "internal/bytealg.IndexByteString", "internal/bytealg.IndexString", "slices.overlaps[string]"], unfollowed := true, recurses := true, named := ["unicode/utf8.first", "unicode/utf8.acceptRanges", "internal/bytealg.MaxLen"], apart := false, laid := [("unicode/utf8.acceptRanges", laid_unicode_utf8_acceptRanges), ("unicode/utf8.first", laid_unicode_utf8_first)] }
def SquareListsSaid : Prop := squareListsRow.holds Tryd.pinned (OpenSpec.ofChange squareListsSpec)

/-- ITS FALSE NEIGHBOUR: 'it returns false'. Refute it at one input. -/
def squareListsWrong : ChangeSpec := { name := "squareLists", fn := fun _ => fun
  | [d1, d2, d3] => { results := [.lit (.bool false)], args := [d1, d2, d3] }
  | _ => none }
def SquareListsWrongFalsely : Prop := squareListsRow.holds Tryd.pinned (OpenSpec.ofChange squareListsWrong)

/- THE SECOND FORM. 'bulk': how many values and letters a reading holds, each counted each time it is reached (what is shared counts as often as it is met; a slice's spare places count too). A statement '..UptoSaid' is the law's where the arguments, and the package variables that the reading takes, are together of bulk at most 1048576: NARROWER than '..Said'. Prove '..Said' where nothing that the law and all that it calls make is longer than what came in: it says more and counts as full. Else prove '..UptoSaid'. A law counts once. -/
mutual
def uptoBulk {H : Type} : DataW H → Nat
  | .lit (.string bytes) => bytes.length + 1
  | .lit _ => 1
  | .nil => 1
  | .ptr d => uptoBulk d + 1
  | .slice elems spare => uptoBulkAll elems + uptoBulkAll spare + 1
  | .agg parts => uptoBulkAll parts + 1
  | .iface _ d => uptoBulk d + 1
  | .map entries => uptoBulkEntries entries + 1
  | .held _ => 1
def uptoBulkAll {H : Type} : List (DataW H) → Nat
  | [] => 0
  | d :: r => uptoBulk d + uptoBulkAll r
def uptoBulkEntries {H : Type} : List (Lit × DataW H) → Nat
  | [] => 0
  | x :: r => uptoBulkEntry x + uptoBulkEntries r
def uptoBulkEntry {H : Type} : Lit × DataW H → Nat
  | (.string bytes, d) => bytes.length + uptoBulk d + 1
  | (_, d) => uptoBulk d + 1
 end
def uptoSmall : (H : Type) → List (DataW H) → Bool := fun _ ds => decide (uptoBulkAll ds ≤ 1048576)
def OpenSpec.upto (s : _root_.Go.ChangeSpec) : _root_.Go.OpenSpec := { _root_.Go.OpenSpec.ofChange s with cond := some uptoSmall }

/-- 'tempolaw07.SquareNumbers', WHERE WHAT IT READS IS OF BULK AT MOST 1048576: true; the input reads as it did. -/
def squareNumbersUptoRow : OpenClaim := { program := "ytlbliaihfbnbkaadoor", sum := "b233d43cb7d8d7905d580c49718a683ba670748feb0496ed51f0b033a0ea14db", func := "tempo/tempolaw07.SquareNumbers", spec := "squareNumbers", inPlace := ["internal/bytealg.IndexByteString", "internal/bytealg.IndexString"], unfollowed := true, recurses := true, named := ["unicode/utf8.first", "unicode/utf8.acceptRanges", "internal/bytealg.MaxLen"], apart := false, laid := [("unicode/utf8.acceptRanges", laid_unicode_utf8_acceptRanges), ("unicode/utf8.first", laid_unicode_utf8_first)], narrowed := true }
def SquareNumbersUptoSaid : Prop := squareNumbersUptoRow.holds Tryd.pinned (OpenSpec.upto squareNumbersSpec)

/-- 'tempolaw07.SquareStrings', WHERE WHAT IT READS IS OF BULK AT MOST 1048576: true; the input reads as it did. -/
def squareStringsUptoRow : OpenClaim := { program := "ytlbliaihfbnbkaadoor", sum := "b233d43cb7d8d7905d580c49718a683ba670748feb0496ed51f0b033a0ea14db", func := "tempo/tempolaw07.SquareStrings", spec := "squareStrings", inPlace := ["internal/bytealg.IndexByteString", "internal/bytealg.IndexString"], unfollowed := true, recurses := true, named := ["unicode/utf8.first", "unicode/utf8.acceptRanges", "internal/bytealg.MaxLen"], apart := false, laid := [("unicode/utf8.acceptRanges", laid_unicode_utf8_acceptRanges), ("unicode/utf8.first", laid_unicode_utf8_first)], narrowed := true }
def SquareStringsUptoSaid : Prop := squareStringsUptoRow.holds Tryd.pinned (OpenSpec.upto squareStringsSpec)

/-- 'tempolaw07.SquareNames', WHERE WHAT IT READS IS OF BULK AT MOST 1048576: true; the input reads as it did. -/
def squareNamesUptoRow : OpenClaim := { program := "ytlbliaihfbnbkaadoor", sum := "b233d43cb7d8d7905d580c49718a683ba670748feb0496ed51f0b033a0ea14db", func := "tempo/tempolaw07.SquareNames", spec := "squareNames", inPlace := ["internal/bytealg.IndexByteString", "internal/bytealg.IndexString"], unfollowed := true, recurses := true, named := ["unicode/utf8.first", "unicode/utf8.acceptRanges", "internal/bytealg.MaxLen"], apart := false, laid := [("unicode/utf8.acceptRanges", laid_unicode_utf8_acceptRanges), ("unicode/utf8.first", laid_unicode_utf8_first)], narrowed := true }
def SquareNamesUptoSaid : Prop := squareNamesUptoRow.holds Tryd.pinned (OpenSpec.upto squareNamesSpec)

/-- 'tempolaw07.SquareReads', WHERE WHAT IT READS IS OF BULK AT MOST 1048576: true; the input reads as it did. -/
def squareReadsUptoRow : OpenClaim := { program := "ytlbliaihfbnbkaadoor", sum := "b233d43cb7d8d7905d580c49718a683ba670748feb0496ed51f0b033a0ea14db", func := "tempo/tempolaw07.SquareReads", spec := "squareReads", inPlace := ["internal/bytealg.IndexByteString", "internal/bytealg.IndexString"], unfollowed := true, recurses := true, named := ["unicode/utf8.first", "unicode/utf8.acceptRanges", "internal/bytealg.MaxLen"], apart := false, laid := [("unicode/utf8.acceptRanges", laid_unicode_utf8_acceptRanges), ("unicode/utf8.first", laid_unicode_utf8_first)], narrowed := true }
def SquareReadsUptoSaid : Prop := squareReadsUptoRow.holds Tryd.pinned (OpenSpec.upto squareReadsSpec)

/-- 'tempolaw07.SquareFlips', WHERE WHAT IT READS IS OF BULK AT MOST 1048576: true; the input reads as it did. -/
def squareFlipsUptoRow : OpenClaim := { program := "ytlbliaihfbnbkaadoor", sum := "b233d43cb7d8d7905d580c49718a683ba670748feb0496ed51f0b033a0ea14db", func := "tempo/tempolaw07.SquareFlips", spec := "squareFlips", inPlace := ["internal/bytealg.IndexByteString", "internal/bytealg.IndexString"], unfollowed := true, recurses := true, named := ["unicode/utf8.first", "unicode/utf8.acceptRanges", "internal/bytealg.MaxLen"], apart := false, laid := [("unicode/utf8.acceptRanges", laid_unicode_utf8_acceptRanges), ("unicode/utf8.first", laid_unicode_utf8_first)], narrowed := true }
def SquareFlipsUptoSaid : Prop := squareFlipsUptoRow.holds Tryd.pinned (OpenSpec.upto squareFlipsSpec)

/-- 'tempolaw07.SquareNone', WHERE WHAT IT READS IS OF BULK AT MOST 1048576: true; the input reads as it did. -/
def squareNoneUptoRow : OpenClaim := { program := "ytlbliaihfbnbkaadoor", sum := "b233d43cb7d8d7905d580c49718a683ba670748feb0496ed51f0b033a0ea14db", func := "tempo/tempolaw07.SquareNone", spec := "squareNone", inPlace := ["internal/bytealg.IndexByteString", "internal/bytealg.IndexString"], unfollowed := true, recurses := true, named := ["unicode/utf8.first", "unicode/utf8.acceptRanges", "internal/bytealg.MaxLen"], apart := false, laid := [("unicode/utf8.acceptRanges", laid_unicode_utf8_acceptRanges), ("unicode/utf8.first", laid_unicode_utf8_first)], narrowed := true }
def SquareNoneUptoSaid : Prop := squareNoneUptoRow.holds Tryd.pinned (OpenSpec.upto squareNoneSpec)

/-- 'tempolaw07.SquareLists', WHERE WHAT IT READS IS OF BULK AT MOST 1048576: true; the input reads as it did. -/
def squareListsUptoRow : OpenClaim := { program := "ytlbliaihfbnbkaadoor", sum := "b233d43cb7d8d7905d580c49718a683ba670748feb0496ed51f0b033a0ea14db", func := "tempo/tempolaw07.SquareLists", spec := "squareLists", inPlace := ["internal/abi.NoEscape", "internal/bytealg.MakeNoZero", "internal/bytealg.IndexByteString", "internal/bytealg.IndexString", "slices.overlaps[string]"], unfollowed := true, recurses := true, named := ["unicode/utf8.first", "unicode/utf8.acceptRanges", "internal/bytealg.MaxLen"], apart := false, laid := [("unicode/utf8.acceptRanges", laid_unicode_utf8_acceptRanges), ("unicode/utf8.first", laid_unicode_utf8_first)], narrowed := true }
def SquareListsUptoSaid : Prop := squareListsUptoRow.holds Tryd.pinned (OpenSpec.upto squareListsSpec)

end Rows
end Go.Proofs.YtlbliaihfbnbkaaDoor
