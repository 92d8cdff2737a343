/-
  BITBOARD (chapter 05): what the laws' rows share: the table's world, what the row's list gives.
-/
import Derived.Test.YtakchekhpeokjaaDoorD05c
import Derived.Test.YtakchekhpeokjaaDoorVap4
import Derived.Test.YtakchekhpeokjaaDoorCards
import Derived.Test.YtakchekhpeokjaaDoorTie
import Derived.WalkKit
import Derived.ProofKit
import Derived.OpenShut
import Derived.Deep.DeepHandedRow
import Derived.Lib.LaidTab
namespace Go.Proofs.YtakchekhpeokjaaDoor
open Go.Va Go.ChangeShapes Go.WideShapes Go.ChangeAt Go.RowKit

theorem own : ownKnob Tryd.prog.godebug = Option.none := by kernel_rfl
theorem fourth : ((((begin Tryd.prog (fun _ _ => 0) default).world.heap[3]?).bind Obj.row?).isSome) = true := by kernel_rfl
theorem globs : Tryd.prog.globals.size = 4 := by kernel_rfl
theorem gTab : Tryd.prog.globalNamed "math/bits.deBruijn64tab" = some 0 := by kernel_rfl
theorem gTabType : (Tryd.prog.globals[0]?).map (·.type) = some 80 := by kernel_rfl
theorem cells80 : Tryd.prog.cellsOf 80 = 64 := by kernel_rfl
theorem cells5 : Tryd.prog.cellsOf 5 = 1 := by kernel_rfl
def tabL : List Int := [0, 1, 56, 2, 57, 49, 28, 3, 61, 58, 42, 50, 38, 29, 17, 4, 62, 47, 59, 36, 45, 43, 51, 22, 53, 39, 33, 30, 24, 18, 12, 5, 63, 55, 48, 27, 60, 41, 37, 16, 46, 35, 44, 21, 52, 32, 23, 11, 54, 26, 40, 15, 34, 20, 31, 10, 25, 14, 19, 9, 13, 8, 7, 6]

theorem table {W : World} (h : laidMetH Tryd.prog [("math/bits.deBruijn64tab", Rows.laid_math_bits_deBruijn64tab)] W) : Lib.TabIs Tryd.prog W "math/bits.deBruijn64tab" .u8 tabL :=
  Lib.tabIs_of_head (rest := []) gTab gTabType Tryd.underlying80 Tryd.underlying5 cells5 cells80 h

theorem tabs_of {W : World} (h : W.ShapedOpen Tryd.prog) (hL : laidMetH Tryd.prog [("math/bits.deBruijn64tab", Rows.laid_math_bits_deBruijn64tab)] W) : Tabs 4 tabs W := by
  obtain ⟨h1, _⟩ := h
  have h3 := fourth
  rw [Option.isSome_iff_exists] at h3
  obtain ⟨⟨zero, t⟩, h3⟩ := h3
  obtain ⟨cs, h4, _⟩ := h1 3 zero t (by rw [globs]; decide) h3
  rw [Array.getElem?_eq_some_iff] at h4
  obtain ⟨h5, _⟩ := h4
  have ht := table hL
  refine ⟨by omega, fun x hx => ?_⟩
  have hx : x = (0, tabL.map fun n => Value.int .u8 n) := by
    have : tabs = [(0, tabL.map fun n => Value.int .u8 n)] := rfl
    rw [this] at hx
    simpa using hx
  subst hx
  have cell : ∀ i (hi : i < tabL.length), W.cell? ⟨0, i, none⟩ = some (.int .u8 tabL[i]) := fun i hi => by
    have := ht.cell gTab i hi
    rw [List.getD_eq_getElem?_getD, List.getElem?_eq_getElem hi] at this
    exact this
  have h0 := cell 0 (by decide)
  unfold World.cell? at h0
  dsimp only at h0
  cases hh : W.heap[0]? with
  | none => rw [hh] at h0; cases h0
  | some o =>
    cases o with
    | cells C ty fr =>
      refine ⟨C, ty, fr, rfl, fun i hi => ?_⟩
      have hi' : i < tabL.length := by simpa using hi
      have := cell i hi'
      unfold World.cell? at this
      dsimp only at this
      rw [hh] at this
      simpa using this
    | _ => rw [hh] at h0; cases h0

def lay (c : Array Value) : Obj → Obj
  | .cells _ t frozen => .cells c t frozen
  | o => o
/-- A WORLD FOR THE WITNESS: the settled one, with the table in its block. -/
noncomputable def laidWorld (os : Os) : World :=
  { World.holding Tryd.prog os ⟨#[], #[], []⟩ with heap := (World.holding Tryd.prog os ⟨#[], #[], []⟩).heap.modify 0 (lay (tabL.map fun n => Value.int .u8 n).toArray) }

end Go.Proofs.YtakchekhpeokjaaDoor
