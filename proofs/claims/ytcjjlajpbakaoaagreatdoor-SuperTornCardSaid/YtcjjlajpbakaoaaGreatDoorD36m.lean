/-
  SUPERBLOCK (chapter 36): what the laws' rows share: the tables in the world, what the row's list gives, the witness's world.
-/
import Derived.Test.YtcjjlajpbakaoaaGreatDoorD36a
import Derived.Test.YtcjjlajpbakaoaaGreatDoorVap5
import Derived.Test.YtcjjlajpbakaoaaGreatDoorCards
import Derived.Test.YtcjjlajpbakaoaaGreatDoorTie
import Derived.WalkKit
import Derived.ProofKit
import Derived.OpenShut
import Derived.Deep.DeepHandedRow
import Derived.Lib.LaidTab
namespace Go.Proofs.YtcjjlajpbakaoaaGreatDoor
open Go.Va Go.ChangeShapes Go.WideShapes Go.ChangeAt Go.RowKit

theorem own : ownKnob Tryz.prog.godebug = Option.none := by kernel_rfl
theorem ninth : ((((begin Tryz.prog (fun _ _ => 0) default).world.heap[8]?).bind Obj.row?).isSome) = true := by kernel_rfl
theorem globs : Tryz.prog.globals.size = 9 := by kernel_rfl
def laid36 : List (String × DataW Unit) := Rows.superLayoutsRow.laid
theorem hands36 : (laid36.filter fun x => x.2.handleName?.isSome) = [] := by kernel_rfl
theorem in0 : (laidTabs Tryz.prog laid36)[4]? = some (0, [wordV [115, 116, 97, 110, 100, 97, 114, 100], wordV [122, 101, 114, 111], wordV [115, 101, 101, 100, 101, 100]]) := by kernel_rfl
theorem in1 : (laidTabs Tryz.prog laid36)[2]? = some (1, pow10L.map fun n => .int .u64 n) := by kernel_rfl

theorem tabs_of {W : World} (h : W.ShapedOpen Tryz.prog) (hL : laidMetH Tryz.prog laid36 W) : Tabs 9 tabs W := by
  have hL' : laidMet Tryz.prog laid36 W := by
    unfold laidMetH at hL
    rw [hands36] at hL
    exact hL
  obtain ⟨h1, _⟩ := h
  have h3 := ninth
  rw [Option.isSome_iff_exists] at h3
  obtain ⟨⟨zero, t⟩, h3⟩ := h3
  obtain ⟨cs, h4, _⟩ := h1 8 zero t (by rw [globs]; decide) h3
  rw [Array.getElem?_eq_some_iff] at h4
  obtain ⟨h5, _⟩ := h4
  refine ⟨by omega, fun x hx => laidTabs_met hL' x ?_⟩
  rcases List.mem_cons.1 hx with rfl | hx
  · exact List.mem_of_getElem? in0
  · rw [List.mem_singleton.1 hx]
    exact List.mem_of_getElem? in1

def lay (c : Array Value) : Obj → Obj
  | .cells _ t frozen => .cells c t frozen
  | o => o
noncomputable def flat (t : TypeId) (d : DataW Unit) : Array Value := ((flatD Tryz.prog 20 t d).getD []).toArray
noncomputable def gType (g : Nat) : TypeId := ((Tryz.prog.globals[g]?).map (·.type)).getD 0
noncomputable def low : Nat := (World.holding Tryz.prog default ⟨#[], #[], []⟩).heap.size
def rangeS : ByteArray := ⟨#[118, 97, 108, 117, 101, 32, 111, 117, 116, 32, 111, 102, 32, 114, 97, 110, 103, 101]⟩
def syntaxS : ByteArray := ⟨#[105, 110, 118, 97, 108, 105, 100, 32, 115, 121, 110, 116, 97, 120]⟩
/-- A WORLD FOR THE WITNESS: the settled one, with the tables in their blocks and the two errors behind all. -/
noncomputable def laidWorld (os : Os) : World :=
  let w0 := World.holding Tryz.prog os ⟨#[.cells #[.string rangeS] 214, .cells #[.string syntaxS] 214], #[], []⟩
  { w0 with heap := (((((((w0.heap.modify 0 (lay (flat (gType 0) Rows.laid_tempo_super_words))).modify 1 (lay (flat (gType 1) Rows.laid_internal_strconv_uint64pow10))).modify 2 (lay #[.iface 212 (.pointer (some ⟨low + 1, 0, none⟩))])).modify 3 (lay #[.iface 212 (.pointer (some ⟨low, 0, none⟩))])).modify 5 (lay (flat (gType 5) Rows.laid_math_bits_deBruijn32tab))).modify 6 (lay (flat (gType 6) Rows.laid_math_bits_deBruijn64tab))).modify 7 (lay (flat (gType 7) Rows.laid_unicode_utf8_first))).modify 8 (lay (flat (gType 8) Rows.laid_unicode_utf8_acceptRanges)) }
theorem laid_met (os : Os) (args : Array Value) : laidMet Tryz.prog laid36 ((laidWorld os).forCall (fun _ _ => 0) ⟨#[], args, []⟩).memory :=
  laidMet_of_run' 8 (by kernel_rfl) (by kernel_rfl)

end Go.Proofs.YtcjjlajpbakaoaaGreatDoor
