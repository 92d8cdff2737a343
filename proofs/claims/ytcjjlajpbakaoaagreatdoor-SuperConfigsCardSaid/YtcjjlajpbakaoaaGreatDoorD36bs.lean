/-
  SUPERBLOCK (chapter 36): bytes as strings.
-/
import Derived.Test.YtcjjlajpbakaoaaGreatDoorD36au
namespace Go.Proofs.YtcjjlajpbakaoaaGreatDoor
open Go.Va

/-- The bytes as a string. -/
def sB (l : List UInt8) : ByteArray := ⟨l.toArray⟩
theorem und37 : Tryz.prog.underlying 37 = some (.slice 5) := by kernel_rfl
theorem und9 : Tryz.prog.underlying 9 = some .string := by kernel_rfl
theorem strB (l : List UInt8) : strL Tryz.prog 37 9 (bys l) 1 = some (.string (sB l)) := by
  unfold strL
  rw [und37, und9]
  dsimp only
  rw [und5, bytesOf_bys]
  rfl
theorem sB_eq (l m : List UInt8) : ((sB l).toList == (sB m).toList) = (l == m) := by
  rw [ByteArray.toList_eq, ByteArray.toList_eq]
  rfl


end Go.Proofs.YtcjjlajpbakaoaaGreatDoor
