/-
  SUPERBLOCK (chapter 36): super.Encode replaced.
-/
import Derived.Test.YtcjjlajpbakaoaaGreatDoorD36u
namespace Go.Proofs.YtcjjlajpbakaoaaGreatDoor
open Go.Va

def encV (e a b c d s : Int) : Value := bif vld e a b c d s then .tuple #[L (bys (encL e.toNat a.toNat b.toNat c.toNat d.toNat s.toNat)) 128 1 1, .int .i64 0] else .tuple #[.slice none 0 0, .int .i64 2]
theorem chk_spec {a b c d s : Int} (h : chk a b c d s = true) : 16 ≤ b ∧ b ≤ 1024 ∧ b + 18 ≤ a ∧ a ≤ 4096 ∧ 1 ≤ c ∧ c ≤ 64 ∧ 0 ≤ d ∧ d < 3 ∧ (d ≠ 2 → s = 0) := by
  unfold chk at h
  cases h0 : decide (b < 16) <;> rw [h0] at h <;> simp only [cond_true, cond_false] at h
  · cases h1 : decide (b > 1024) <;> rw [h1] at h <;> simp only [cond_true, cond_false] at h
    · simp only [decide_eq_false_iff_not] at h0 h1
      rw [wrap64 (n := b + 18) (by omega) (by omega)] at h
      cases h2 : decide (a < b + 18) <;> rw [h2] at h <;> simp only [cond_true, cond_false] at h
      · cases h3 : decide (a > 4096) <;> rw [h3] at h <;> simp only [cond_true, cond_false] at h
        · cases h4 : decide (c < 1) <;> rw [h4] at h <;> simp only [cond_true, cond_false] at h
          · cases h5 : decide (c > 64) <;> rw [h5] at h <;> simp only [cond_true, cond_false] at h
            · cases h6 : decide (d < 0) <;> rw [h6] at h <;> simp only [cond_true, cond_false] at h
              · cases h7 : decide (d ≥ 3) <;> rw [h7] at h <;> simp only [cond_true, cond_false] at h
                · simp only [decide_eq_false_iff_not] at h2 h3 h4 h5 h6 h7
                  refine ⟨by omega, by omega, by omega, by omega, by omega, by omega, by omega, by omega, fun hd => ?_⟩
                  rw [show (d != 2) = true from bne_iff_ne.2 hd, cond_true] at h
                  simpa using h
                · cases h
              · cases h
            · cases h
          · cases h
        · cases h
      · cases h
    · cases h
  · cases h
theorem p22 (e a b c d s : Int) (s0 : 0 ≤ s) (s1 : s < 18446744073709551616) : Pure Tryz.prog 9 tabs 22 [sup e a b c d s] (encV e a b c d s) := by
  unfold encV
  cases h : vld e a b c d s with
  | false => exact p22_no e a b c d s h
  | true =>
    rw [cond_true]
    unfold vld at h
    simp only [Bool.and_eq_true, decide_eq_true_eq] at h
    obtain ⟨⟨h1, h2⟩, h3⟩ := h
    obtain ⟨k1, k2, k3, k4, k5, k6, k7, k8, _⟩ := chk_spec h3
    obtain ⟨e', rfl⟩ := Int.eq_ofNat_of_zero_le (show 0 ≤ e by omega)
    obtain ⟨a', rfl⟩ := Int.eq_ofNat_of_zero_le (show 0 ≤ a by omega)
    obtain ⟨b', rfl⟩ := Int.eq_ofNat_of_zero_le (show 0 ≤ b by omega)
    obtain ⟨c', rfl⟩ := Int.eq_ofNat_of_zero_le (show 0 ≤ c by omega)
    obtain ⟨d', rfl⟩ := Int.eq_ofNat_of_zero_le (show 0 ≤ d by omega)
    obtain ⟨s', rfl⟩ := Int.eq_ofNat_of_zero_le s0
    simp only [Int.toNat_natCast]
    exact p22_yes e' a' b' c' d' s' (by omega) (by omega) h3 (by omega) (by omega) (by omega) (by omega) (by omega)
def k22 : List Value → Option Value
  | [.agg ⟨[.int .i64 e, .int .i64 a, .int .i64 b, .int .i64 c, .int .i64 d, .int .u64 s]⟩] => bif decide (0 ≤ s) && decide (s < 18446744073709551616) then some (encV e a b c d s) else none
  | _ => none
theorem k22_ok : KOk Tryz.prog 9 tabs 22 k22 := by
  intro args v h
  unfold k22 at h
  split at h
  · rename_i e a b c d s
    cases hb : (decide (0 ≤ s) && decide (s < 18446744073709551616)) with
    | false => rw [hb] at h; cases h
    | true =>
      rw [hb, cond_true] at h
      cases h
      simp only [Bool.and_eq_true, decide_eq_true_eq] at hb
      exact p22 e a b c d s hb.1 hb.2
  · cases h
def t13 : Ktab := (22, k22) :: t8
theorem t13_ok : TOk Tryz.prog 9 tabs t13 := ⟨k22_ok, t8_ok⟩
theorem ov13_22 (e a b c d s : Int) (s0 : 0 ≤ s) (s1 : s < 18446744073709551616) (lim : Nat) (σ : AS) : (envT t13).ov 22 [sup e a b c d s] lim σ = some (encV e a b c d s, σ) := by
  refine envK rfl rfl (show _ = [sup e a b c d s] from rfl) rfl ?_
  unfold t13
  rw [pfT_eq]
  show (bif decide (0 ≤ s) && decide (s < 18446744073709551616) then some (encV e a b c d s) else none) = _
  rw [decide_eq_true s0, decide_eq_true s1]
  rfl

end Go.Proofs.YtcjjlajpbakaoaaGreatDoor
