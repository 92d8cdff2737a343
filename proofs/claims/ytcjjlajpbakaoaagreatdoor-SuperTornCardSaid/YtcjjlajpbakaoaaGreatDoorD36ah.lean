/-
  SUPERBLOCK (chapter 36): Unstamp and Unseal replaced.
-/
import Derived.Test.YtcjjlajpbakaoaaGreatDoorD36ag
namespace Go.Proofs.YtcjjlajpbakaoaaGreatDoor
open Go.Va

def k62 : List Value → Option Value
  | [v, .int .i64 e] => (match asL v, asB v with
    | some _, some l => bif decide (1 ≤ e) && decide (e ≤ 1099511627776) && Nat.ble 128 l.length && Nat.blt l.length 1000000 then
        some (bif stamped e.toNat l then .tuple #[L (bys ((l.drop 8).take 112)) 112 1 0, .int .i64 0] else .tuple #[.slice none 0 0, .int .i64 13]) else none
    | _, _ => none)
  | _ => none
theorem k62_ok : KOk Tryz.prog 9 tabs 62 k62 := by
  intro args u h
  unfold k62 at h
  split at h
  · rename_i v e
    split at h
    · rename_i x l hL hB
      rcases asB_spec hB with ⟨rfl, _⟩ | ⟨g, hg, rfl, _⟩
      · cases hL
      · cases hb : (decide (1 ≤ e) && decide (e ≤ 1099511627776) && Nat.ble 128 l.length && Nat.blt l.length 1000000) with
        | false => rw [hb] at h; cases h
        | true =>
          rw [hb, cond_true] at h
          cases h
          simp only [Bool.and_eq_true, decide_eq_true_eq] at hb
          obtain ⟨⟨⟨h0, h1⟩, h2⟩, h3⟩ := hb
          have h2 : 128 ≤ l.length := Nat.ble_eq ▸ h2
          have h3 := blt_iff.1 h3
          obtain ⟨k, rfl⟩ := Int.eq_ofNat_of_zero_le (show 0 ≤ e by omega)
          rw [Int.toNat_natCast]
          exact p62 l k g hg (by omega) (by omega) h2 h3
    · cases h
  · cases h
def k63 : List Value → Option Value
  | [v] => (match asL v, asB v with
    | some _, some l => bif Nat.beq l.length 29 then some (bif sealL (l.take 25) == l then .tuple #[L (bys (l.take 25)) 25 1 0, .int .i64 0] else .tuple #[.slice none 0 0, .int .i64 12]) else none
    | _, _ => none)
  | _ => none
theorem k63_ok : KOk Tryz.prog 9 tabs 63 k63 := by
  intro args u h
  unfold k63 at h
  split at h
  · rename_i v
    split at h
    · rename_i x l hL hB
      rcases asB_spec hB with ⟨rfl, _⟩ | ⟨g, hg, rfl, _⟩
      · cases hL
      · cases hb : Nat.beq l.length 29 with
        | false => rw [hb] at h; cases h
        | true =>
          rw [hb, cond_true] at h
          cases h
          have h29 := Nat.eq_of_beq_eq_true hb
          rw [h29]
          exact p63 l g hg h29
    · cases h
  · cases h
def t16 : Ktab := (62, k62) :: (63, k63) :: (61, k61) :: t13
theorem t16_ok : TOk Tryz.prog 9 tabs t16 := ⟨k62_ok, k63_ok, k61_ok, t13_ok⟩

end Go.Proofs.YtcjjlajpbakaoaaGreatDoor
