/-
  SUPERBLOCK (chapter 36): frame.Stamp replaced.
-/
import Derived.Test.YtcjjlajpbakaoaaGreatDoorD36s
namespace Go.Proofs.YtcjjlajpbakaoaaGreatDoor
open Go.Va

def k56 : List Value → Option Value
  | [.int .i64 e, v] => (match asL v, asB v with
    | some _, some l => bif decide (1 ≤ e) && decide (e ≤ 1099511627776) && Nat.beq l.length 29 then some (.tuple #[L (bys (stampL e.toNat l)) 128 1 1, .int .i64 0]) else none
    | _, _ => none)
  | _ => none
theorem k56_ok : KOk Tryz.prog 9 tabs 56 k56 := by
  intro args u h
  unfold k56 at h
  split at h
  · rename_i e v
    split at h
    · rename_i x l hL hB
      rcases asB_spec hB with ⟨rfl, _⟩ | ⟨g, _, rfl, _⟩
      · cases hL
      · cases hb : (decide (1 ≤ e) && decide (e ≤ 1099511627776) && Nat.beq l.length 29) with
        | false => rw [hb] at h; cases h
        | true =>
          rw [hb, cond_true] at h
          cases h
          simp only [Bool.and_eq_true, decide_eq_true_eq] at hb
          obtain ⟨⟨h1, h2⟩, h3⟩ := hb
          have h3 := Nat.eq_of_beq_eq_true h3
          obtain ⟨k, rfl⟩ := Int.eq_ofNat_of_zero_le (show 0 ≤ e by omega)
          rw [Int.toNat_natCast, h3]
          exact p56 k (by omega) (by omega) l h3 g
    · cases h
  · cases h
def t12 : Ktab := (56, k56) :: t11
theorem t12_ok : TOk Tryz.prog 9 tabs t12 := ⟨k56_ok, t11_ok⟩

end Go.Proofs.YtcjjlajpbakaoaaGreatDoor
