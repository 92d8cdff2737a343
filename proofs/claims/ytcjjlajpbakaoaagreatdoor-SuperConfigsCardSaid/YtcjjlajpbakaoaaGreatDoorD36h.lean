/-
  SUPERBLOCK (chapter 36): works replaced.
-/
import Derived.Test.YtcjjlajpbakaoaaGreatDoorD36g
namespace Go.Proofs.YtcjjlajpbakaoaaGreatDoor
open Go.Va

def k13 : List Value → Option Value
  | [] => some (.bool true)
  | _ => none
theorem k13_ok : KOk Tryz.prog 9 tabs 13 k13 := by
  intro args v h
  unfold k13 at h
  split at h
  · cases h; exact works_pure
  · cases h
def t6 : Ktab := (13, k13) :: t3
theorem t6_ok : TOk Tryz.prog 9 tabs t6 := ⟨k13_ok, t3_ok⟩

end Go.Proofs.YtcjjlajpbakaoaaGreatDoor
