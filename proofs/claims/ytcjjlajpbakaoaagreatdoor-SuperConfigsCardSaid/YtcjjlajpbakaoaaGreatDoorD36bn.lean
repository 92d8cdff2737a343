/-
  SUPERBLOCK (chapter 36): Parse replaced; what it answers is valid.
-/
import Derived.Test.YtcjjlajpbakaoaaGreatDoorD36bm
import Derived.Test.YtcjjlajpbakaoaaGreatDoorD36au
namespace Go.Proofs.YtcjjlajpbakaoaaGreatDoor
open Go.Va

def k18 : List Value → Option Value
  | [.string s] => bif Nat.blt s.size 100000 then some (parV s) else none
  | _ => none
theorem k18_ok : KOk Tryz.prog 9 tabs 18 k18 := by
  intro args u h
  unfold k18 at h
  split at h
  · rename_i s
    cases hb : Nat.blt s.size 100000 with
    | false => rw [hb] at h; cases h
    | true =>
      rw [hb, cond_true] at h
      cases h
      exact p18 s (blt_iff.1 hb)
  · cases h
def tR : Ktab := (25, k25) :: (18, k18) :: (16, k16) :: t13
theorem tR_ok : TOk Tryz.prog 9 tabs tR := ⟨k25_ok, k18_ok, k16_ok, t13_ok⟩
def tRv : Ktab := (18, k18) :: (16, k16) :: t13
theorem tRv_ok : TOk Tryz.prog 9 tabs tRv := ⟨k18_ok, k16_ok, t13_ok⟩

theorem finV_spec (s : ByteArray) (a b c d x : Int) : finV s a b c d x = e8 ∨ (finV s a b c d x = .tuple #[cfg a b c d x, .int .i64 0] ∧ chk a b c d x = true ∧ (textS a.toNat b.toNat c.toNat d.toNat x.toNat).toList = s.toList) := by
  unfold finV
  cases h : (chk a b c d x && ((textS a.toNat b.toNat c.toNat d.toNat x.toNat).toList == s.toList)) with
  | false => exact .inl rfl
  | true =>
    rw [Bool.and_eq_true] at h
    exact .inr ⟨rfl, h.1, eq_of_beq h.2⟩
/-- What is decoded from a string is valid, and the string is its own. -/
theorem par_spec (s : ByteArray) : parV s = e8 ∨ ∃ a b c d x : Nat, parV s = .tuple #[cfg a b c d x, .int .i64 0] ∧ chk a b c d x = true ∧ x < 18446744073709551616 ∧ (textS a b c d x).toList = s.toList := by
  have key : ∀ (a b c d : Int) (x : Nat), x < 18446744073709551616 → finV s a b c d x = e8 ∨ ∃ a' b' c' d' x' : Nat, finV s a b c d x = .tuple #[cfg a' b' c' d' x', .int .i64 0] ∧ chk a' b' c' d' x' = true ∧ x' < 18446744073709551616 ∧ (textS a' b' c' d' x').toList = s.toList := by
    intro a b c d x hx
    rcases finV_spec s a b c d x with h | ⟨h1, h2, h3⟩
    · exact .inl h
    · obtain ⟨k1, k2, k3, k4, k5, k6, k7, k8, _⟩ := chk_spec h2
      obtain ⟨a', rfl⟩ := Int.eq_ofNat_of_zero_le (show 0 ≤ a by omega)
      obtain ⟨b', rfl⟩ := Int.eq_ofNat_of_zero_le (show 0 ≤ b by omega)
      obtain ⟨c', rfl⟩ := Int.eq_ofNat_of_zero_le (show 0 ≤ c by omega)
      obtain ⟨d', rfl⟩ := Int.eq_ofNat_of_zero_le (show 0 ≤ d by omega)
      simp only [Int.toNat_natCast] at h3
      exact .inr ⟨a', b', c', d', x, h1, h2, hx, h3⟩
  unfold parV
  generalize splS s sp = ps
  unfold parL
  split
  · split
    · split
      · split
        · rename_i x0 x1 x2 x3 r _ v0 _ _ v1 _ _ v2 _
          cases h : Nat.beq (tabN x3) 2 with
          | false =>
            rw [cond_false]
            exact key v0 v1 v2 (tabN x3 : Nat) 0 (by omega)
          | true =>
            rw [cond_true]
            split
            · split
              · rename_i u hu
                exact key v0 v1 v2 2 u (puB_lt hu)
              · exact .inl rfl
            · exact key v0 v1 v2 2 0 (by omega)
        · exact .inl rfl
      · exact .inl rfl
    · exact .inl rfl
  · exact .inl rfl

end Go.Proofs.YtcjjlajpbakaoaaGreatDoor
