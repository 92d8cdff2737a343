/-
  BITBOARD (chapter 05): BitboardShifts is true: the loop, and the law.
-/
import Derived.Test.YtakchekhpeokjaaDoorC05l
namespace Go.Proofs.YtakchekhpeokjaaDoor
open Go.Va

theorem shift_out {s f r : Int} (hf : -100 ≤ f ∧ f ≤ 100) (hr : -100 ≤ r ∧ r ≤ 100) (h : ¬ (-7 ≤ f ∧ f ≤ 7 ∧ -7 ≤ r ∧ r ≤ 7)) : shiftS s f r = 0 := by
  have e : IntKind.i64.wrap (IntKind.i64.wrap (f + 8) - 1) = f + 7 := by
    rw [wrap64 (n := f + 8) (by omega) (by omega), wrap64 (by omega) (by omega)]; omega
  have e' : IntKind.i64.wrap (IntKind.i64.wrap (r + 8) - 1) = r + 7 := by
    rw [wrap64 (n := r + 8) (by omega) (by omega), wrap64 (by omega) (by omega)]; omega
  have : (inr (f + 7) 15 && inr (r + 7) 15) = false := by
    simp only [inr, Bool.and_eq_false_iff, decide_eq_false_iff_not]; omega
  unfold shiftS
  rw [e, e', this]; rfl

theorem has_shift (x : BitVec 64) {f r : Int} (hf : -100 ≤ f ∧ f ≤ 100) (hr : -100 ≤ r ∧ r ≤ 100) (i : Int) (h0 : 0 ≤ i) (h1 : i < 64) :
    hasS (shiftS (u x) f r) i = (inr (i % 8 - f) 8 && inr (i / 8 - r) 8 && hasS (u x) (8 * (i / 8 - r) + (i % 8 - f))) := by
  have hi : ((i.toNat : Nat) : Int) = i := by omega
  by_cases h : -7 ≤ f ∧ f ≤ 7 ∧ -7 ≤ r ∧ r ≤ 7
  · rw [shiftS_u x h.1 h.2.1 h.2.2.1 h.2.2.2, hasS_u _ _ h0 h1, shB_bit x h.1 h.2.1 h.2.2.1 h.2.2.2 _ (by omega), hi]
    cases hc : (inr (i % 8 - f) 8 && inr (i / 8 - r) 8) with
    | false => simp
    | true =>
      simp only [inr, Bool.and_eq_true, decide_eq_true_eq] at hc
      rw [Bool.true_and, Bool.true_and, hasS_u _ _ (by omega) (by omega)]
  · rw [shift_out hf hr h, ← u_zero, hasS_u _ _ h0 h1]
    have : (inr (i % 8 - f) 8 && inr (i / 8 - r) 8) = false := by
      simp only [inr, Bool.and_eq_false_iff, decide_eq_false_iff_not]; omega
    rw [this]; simp

theorem loop3 (x : BitVec 64) (f r : Int) (hf : -100 ≤ f ∧ f ≤ 100) (hr : -100 ≤ r ∧ r ≤ 100) : ∀ (d : Nat) (i : Int) (w : Nat → Value), 0 ≤ i → i + d = 64 →
    ∃ w', runW Tryd.prog env5 0 (.code ⟨3, none⟩ (.loop body3) (T3 (u x) f r (shiftS (u x) f r) i w) []) (base0 4 tabs) = some (.done (.exit 0) (E3 (u x) f r (shiftS (u x) f r) w') [], base0 4 tabs) := by
  intro d
  induction d with
  | zero =>
    intro i w h0 hd
    obtain ⟨w', h⟩ := end3 (u x) f r (shiftS (u x) f r) i w (decide_eq_false (by omega))
    exact ⟨w', loop_out (by intro h; cases h) h⟩
  | succ d ih =>
    intro i w h0 hd
    have e1 : i.tdiv 8 = i / 8 := Int.tdiv_eq_ediv_of_nonneg h0
    have e2 : i.tmod 8 = i % 8 := Int.tmod_eq_emod_of_nonneg h0
    have ex : xAt f i = i % 8 - f := by unfold xAt; rw [e2]; exact wrap64 (by omega) (by omega)
    have ey : yAt r i = i / 8 - r := by unfold yAt; rw [e1, wrap64 (n := i / 8) (by omega) (by omega)]; exact wrap64 (by omega) (by omega)
    have ef : fromAt f r i = 8 * (i / 8 - r) + (i % 8 - f) := by
      unfold fromAt; rw [ex, ey, wrap64 (n := 8 * (i / 8 - r)) (by omega) (by omega)]; exact wrap64 (by omega) (by omega)
    have hs := has_shift x hf hr i h0 (by omega)
    have hi : decide (i < 64) = true := decide_eq_true (by omega)
    have out : (inr (i % 8 - f) 8 && inr (i / 8 - r) 8) = false → (!(hasS (shiftS (u x) f r) i == false)) = false := by
      intro h; rw [hs, h]; rfl
    have step : Next3 (u x) f r (shiftS (u x) f r) i w := by
      by_cases a1 : xAt f i ≥ 0
      · by_cases a2 : xAt f i < 8
        · by_cases a3 : yAt r i ≥ 0
          · by_cases a4 : yAt r i < 8
            · refine n5 _ _ _ _ _ _ hi (decide_eq_true a1) (decide_eq_true a2) (decide_eq_true a3) (decide_eq_true a4) ?_
              rw [ef, hs, inr_true (by rw [← ex]; exact a1) (by rw [← ex]; exact a2), inr_true (by rw [← ey]; exact a3) (by rw [← ey]; exact a4)]
              simp
            · exact n4 _ _ _ _ _ _ hi (decide_eq_true a1) (decide_eq_true a2) (decide_eq_true a3) (decide_eq_false a4) (out (by rw [ey] at a4; simp only [inr, Bool.and_eq_false_iff, decide_eq_false_iff_not]; omega))
          · exact n3 _ _ _ _ _ _ hi (decide_eq_true a1) (decide_eq_true a2) (decide_eq_false a3) (out (by rw [ey] at a3; simp only [inr, Bool.and_eq_false_iff, decide_eq_false_iff_not]; omega))
        · exact n2 _ _ _ _ _ _ hi (decide_eq_true a1) (decide_eq_false a2) (out (by rw [ex] at a2; simp only [inr, Bool.and_eq_false_iff, decide_eq_false_iff_not]; omega))
      · exact n1 _ _ _ _ _ _ hi (decide_eq_false a1) (out (by rw [ex] at a1; simp only [inr, Bool.and_eq_false_iff, decide_eq_false_iff_not]; omega))
    obtain ⟨w1, h⟩ := step
    rw [wrap64 (by omega) (by omega)] at h
    obtain ⟨w', h'⟩ := ih (i + 1) w1 (by omega) (by omega)
    exact ⟨w', loop_next h h'⟩

end Go.Proofs.YtakchekhpeokjaaDoor
