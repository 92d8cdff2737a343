/-
  SUPERBLOCK (chapter 36): slices.Equal replaced.
-/
import Derived.Test.YtcjjlajpbakaoaaGreatDoorD36ad
import Derived.Test.YtcjjlajpbakaoaaGreatDoorPart3
namespace Go.Proofs.YtcjjlajpbakaoaaGreatDoor
open Go.Va

def k111 : List Value → Option Value
  | [a, b] => (match asB a, asB b with
    | some l, some m => some (.bool (l == m))
    | _, _ => none)
  | _ => none
theorem k111_ok : KOk Tryz.prog 9 tabs 111 k111 := by
  intro args v h
  unfold k111 at h
  split at h
  · rename_i a b
    split at h
    · rename_i l m hl hm
      cases h
      rcases asB_spec hl with ⟨ea, el⟩ | ⟨g, _, ea, hb⟩ <;> rcases asB_spec hm with ⟨eb, em⟩ | ⟨g', _, eb, hb'⟩
      · subst ea el eb em; exact p111_nn
      · subst ea el eb
        have := p111_nl (bys m) m.length g'
        cases m <;> exact this
      · subst ea eb em
        have := p111_ln (bys l) l.length g
        cases l <;> exact this
      · subst ea eb; exact p111_ll l m g g' (by omega)
    · cases h
  · cases h
def t15 : Ktab := (111, k111) :: (57, k57) :: (61, k61) :: t13
theorem t15_ok : TOk Tryz.prog 9 tabs t15 := ⟨k111_ok, k57_ok, k61_ok, t13_ok⟩

end Go.Proofs.YtcjjlajpbakaoaaGreatDoor
