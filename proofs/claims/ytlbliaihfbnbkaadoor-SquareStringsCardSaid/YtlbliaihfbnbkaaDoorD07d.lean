/-
  SQUARE (chapter 07): what the laws' rows share: the tables' world, and the heap's size.
-/
import Derived.Test.YtlbliaihfbnbkaaDoorD07b
import Derived.Test.YtlbliaihfbnbkaaDoorVap4
import Derived.Test.YtlbliaihfbnbkaaDoorCards
import Derived.Test.YtlbliaihfbnbkaaDoorTie
import Derived.WalkKit
import Derived.ProofKit
import Derived.OpenShut
import Derived.Deep.DeepHandedRow
import Derived.Lib.LaidTab
namespace Go.Proofs.YtlbliaihfbnbkaaDoor
open Go.Va Go.ChangeShapes Go.WideShapes Go.ChangeAt Go.RowKit

theorem own : ownKnob Tryd.prog.godebug = Option.none := by kernel_rfl

theorem third : ((((begin Tryd.prog (fun _ _ => 0) default).world.heap[2]?).bind Obj.row?).isSome) = true := by kernel_rfl
theorem globs : Tryd.prog.globals.size = 3 := by kernel_rfl

theorem tabs_of {W : World} (h : W.ShapedOpen Tryd.prog) : Tabs 3 [] W := by
  obtain ⟨h1, _⟩ := h
  have h3 := third
  refine ⟨?_, fun x hx => by cases hx⟩
  rw [Option.isSome_iff_exists] at h3
  obtain ⟨⟨zero, t⟩, h3⟩ := h3
  obtain ⟨cs, h4, _⟩ := h1 2 zero t (by rw [globs]; decide) h3
  rw [Array.getElem?_eq_some_iff] at h4
  obtain ⟨h5, _⟩ := h4
  omega

def acceptCells : Array Value := #[.int .u8 128, .int .u8 191, .int .u8 160, .int .u8 191, .int .u8 128, .int .u8 159, .int .u8 144, .int .u8 191, .int .u8 128, .int .u8 143,
  .int .u8 0, .int .u8 0, .int .u8 0, .int .u8 0, .int .u8 0, .int .u8 0, .int .u8 0, .int .u8 0, .int .u8 0, .int .u8 0, .int .u8 0, .int .u8 0, .int .u8 0, .int .u8 0, .int .u8 0, .int .u8 0, .int .u8 0, .int .u8 0, .int .u8 0, .int .u8 0, .int .u8 0, .int .u8 0]

def litOf : DataW Unit → Value
  | .lit (.int k n) => .int k n
  | _ => .bool false
def litsOf : DataW Unit → List Value
  | .agg ds => ds.map litOf
  | _ => []
def lay (c : Array Value) : Obj → Obj
  | .cells _ t frozen => .cells c t frozen
  | o => o

/-- A WORLD FOR THE WITNESS: the settled one, with the tables in their blocks. -/
noncomputable def laidWorld (os : Os) : World :=
  { World.holding Tryd.prog os ⟨#[], #[], []⟩ with heap := ((World.holding Tryd.prog os ⟨#[], #[], []⟩).heap.modify 1 (lay (litsOf Rows.laid_unicode_utf8_first).toArray)).modify 2 (lay acceptCells) }

end Go.Proofs.YtlbliaihfbnbkaaDoor
