/-
  BITBOARD (chapter 05): BitboardShifts is true: the law.
-/
import Derived.Test.YtakchekhpeokjaaDoorC05m
namespace Go.Proofs.YtakchekhpeokjaaDoor
open Go.Va

def numAt (a : Int) : Int := IntKind.i64.wrap (IntKind.i64.wrap (a.tmod 19) - 9)
theorem numAt_small {a : Int} (h0 : 0 ≤ a) : -9 ≤ numAt a ∧ numAt a ≤ 9 := by
  have e : a.tmod 19 = a % 19 := Int.tmod_eq_emod_of_nonneg h0
  unfold numAt
  rw [e, wrap64 (n := a % 19) (by omega) (by omega), wrap64 (by omega) (by omega)]
  omega

theorem shift_zero (x : BitVec 64) : shiftS (u x) 0 0 = u x := by
  rw [shiftS_u x (by omega) (by omega) (by omega) (by omega)]
  congr 1
  refine BitVec.eq_of_getLsbD_eq fun i hi => ?_
  rw [shB_bit x (by omega) (by omega) (by omega) (by omega) i hi, inr_true (by omega) (by omega), inr_true (by omega) (by omega), Bool.true_and, Bool.true_and]
  congr 1; omega

theorem shift_zero' {f r : Int} (hf : -100 ≤ f ∧ f ≤ 100) (hr : -100 ≤ r ∧ r ≤ 100) : shiftS 0 f r = 0 := by
  by_cases h : -7 ≤ f ∧ f ≤ 7 ∧ -7 ≤ r ∧ r ≤ 7
  · rw [← u_zero, shiftS_u _ h.1 h.2.1 h.2.2.1 h.2.2.2]
    congr 1
    refine BitVec.eq_of_getLsbD_eq fun i hi => ?_
    rw [shB_bit _ h.1 h.2.1 h.2.2.1 h.2.2.2 i hi]; simp
  · exact shift_out hf hr h

/-- First the files, then the ranks. -/
theorem shift_fr (x : BitVec 64) {f r : Int} (hf : -100 ≤ f ∧ f ≤ 100) (hr : -100 ≤ r ∧ r ≤ 100) : shiftS (shiftS (u x) f 0) 0 r = shiftS (u x) f r := by
  by_cases h1 : -7 ≤ f ∧ f ≤ 7
  · by_cases h2 : -7 ≤ r ∧ r ≤ 7
    · rw [shiftS_u x h1.1 h1.2 (by omega) (by omega), shiftS_u _ (by omega) (by omega) h2.1 h2.2, shiftS_u x h1.1 h1.2 h2.1 h2.2]
      congr 1
      refine BitVec.eq_of_getLsbD_eq fun i hi => ?_
      rw [shB_bit _ (by omega) (by omega) h2.1 h2.2 i hi, shB_bit _ h1.1 h1.2 h2.1 h2.2 i hi, inr_true (n := (i : Int) % 8 - 0) (by omega) (by omega), Bool.true_and]
      by_cases hy : 0 ≤ (i : Int) / 8 - r ∧ (i : Int) / 8 - r < 8
      · rw [inr_true hy.1 hy.2, Bool.true_and, Bool.and_true, shB_bit _ h1.1 h1.2 (by omega) (by omega) _ (by omega)]
        have hidx : (((8 * ((i : Int) / 8 - r) + ((i : Int) % 8 - 0)).toNat : Nat) : Int) = 8 * ((i : Int) / 8 - r) + (i : Int) % 8 := by omega
        rw [hidx, inr_true (n := (8 * ((i : Int) / 8 - r) + (i : Int) % 8) / 8 - 0) (by omega) (by omega), Bool.and_true]
        rw [show (8 * ((i : Int) / 8 - r) + (i : Int) % 8) % 8 = (i : Int) % 8 by omega, show (8 * ((i : Int) / 8 - r) + (i : Int) % 8) / 8 - 0 = (i : Int) / 8 - r by omega]
      · have : inr ((i : Int) / 8 - r) 8 = false := by simp only [inr, Bool.and_eq_false_iff, decide_eq_false_iff_not]; omega
        rw [this]; simp
    · rw [shift_out hf hr (by omega), shiftS_u x h1.1 h1.2 (by omega) (by omega), shift_out (by omega) hr (by omega)]
  · rw [shift_out hf hr (by omega), shift_out hf (by omega) (by omega), shift_zero' (by omega) hr]

/-- First the ranks, then the files. -/
theorem shift_rf (x : BitVec 64) {f r : Int} (hf : -100 ≤ f ∧ f ≤ 100) (hr : -100 ≤ r ∧ r ≤ 100) : shiftS (shiftS (u x) 0 r) f 0 = shiftS (u x) f r := by
  by_cases h2 : -7 ≤ r ∧ r ≤ 7
  · by_cases h1 : -7 ≤ f ∧ f ≤ 7
    · rw [shiftS_u x (by omega) (by omega) h2.1 h2.2, shiftS_u _ h1.1 h1.2 (by omega) (by omega), shiftS_u x h1.1 h1.2 h2.1 h2.2]
      congr 1
      refine BitVec.eq_of_getLsbD_eq fun i hi => ?_
      rw [shB_bit _ h1.1 h1.2 (by omega) (by omega) i hi, shB_bit _ h1.1 h1.2 h2.1 h2.2 i hi, inr_true (n := (i : Int) / 8 - 0) (by omega) (by omega), Bool.and_true]
      by_cases hy : 0 ≤ (i : Int) % 8 - f ∧ (i : Int) % 8 - f < 8
      · rw [inr_true hy.1 hy.2, Bool.true_and, Bool.true_and, shB_bit _ (by omega) (by omega) h2.1 h2.2 _ (by omega)]
        have hidx : (((8 * ((i : Int) / 8 - 0) + ((i : Int) % 8 - f)).toNat : Nat) : Int) = 8 * ((i : Int) / 8) + ((i : Int) % 8 - f) := by omega
        rw [hidx, inr_true (n := (8 * ((i : Int) / 8) + ((i : Int) % 8 - f)) % 8 - 0) (by omega) (by omega), Bool.true_and]
        rw [show (8 * ((i : Int) / 8) + ((i : Int) % 8 - f)) / 8 = (i : Int) / 8 by omega, show (8 * ((i : Int) / 8) + ((i : Int) % 8 - f)) % 8 - 0 = (i : Int) % 8 - f by omega]
      · have : inr ((i : Int) % 8 - f) 8 = false := by simp only [inr, Bool.and_eq_false_iff, decide_eq_false_iff_not]; omega
        rw [this]; simp
    · rw [shift_out hf hr (by omega), shiftS_u x (by omega) (by omega) h2.1 h2.2, shift_out hf (by omega) (by omega)]
  · rw [shift_out hf hr (by omega), shift_out (by omega) hr (by omega), shift_zero' hf (by omega)]

def w3 (s a b : Int) (j : Nat) : Value :=
  ([(0, Value.int .u64 s), (1, .int .u8 a), (2, .int .u8 b), (6, .bool false), (15, .int .u64 s), (16, .int .u8 a), (17, .int .u8 (a.tmod 19)), (18, .int .i64 (IntKind.i64.wrap (a.tmod 19))), (19, .int .i64 (numAt a)),
    (20, .int .u8 b), (21, .int .u8 (b.tmod 19)), (22, .int .i64 (IntKind.i64.wrap (b.tmod 19))), (23, .int .i64 (numAt b)), (24, .int .u64 s), (25, .int .i64 (numAt a)), (26, .int .i64 (numAt b)), (27, .int .u64 (shiftS s (numAt a) (numAt b)))].find? fun y => Nat.beq y.1 j).elim undef (·.2)

abbrev En (s f r v : Int) : Prop := enterA Tryd.prog env5 (runW Tryd.prog env5) 0 11 [.int .u64 s, .int .i64 f, .int .i64 r] (base0 4 tabs) = some (.int .u64 v, base0 4 tabs)

theorem law3 (s a b : Int) (h0 : 0 ≤ s) (h1 : s < 18446744073709551616) (ha : 0 ≤ a) (hb : 0 ≤ b) : Pure Tryd.prog 4 tabs 3 [.int .u64 s, .int .u8 a, .int .u8 b] (.bool true) := by
  have hsu : s = u (BitVec.ofInt 64 s) := u_of s h0 h1
  generalize BitVec.ofInt 64 s = x at hsu
  subst hsu
  have hf : -100 ≤ numAt a ∧ numAt a ≤ 100 := by have := numAt_small ha; omega
  have hr : -100 ≤ numAt b ∧ numAt b ≤ 100 := by have := numAt_small hb; omega
  have hz : (-100 : Int) ≤ 0 ∧ (0 : Int) ≤ 100 := by omega
  obtain ⟨w', hw'⟩ := loop3 x (numAt a) (numAt b) hf hr 64 0 (w3 (u x) a b) (by omega) (by omega)
  have g1 : (shiftS (u x) 0 0 == u x) = true := by rw [shift_zero, beq_self_eq_true]
  have g2 : (shiftS (shiftS (u x) (numAt a) 0) 0 (numAt b) == shiftS (u x) (numAt a) (numAt b)) = true := by rw [shift_fr x hf hr, beq_self_eq_true]
  have g3 : (shiftS (shiftS (u x) 0 (numAt b)) (numAt a) 0 == shiftS (u x) (numAt a) (numAt b)) = true := by rw [shift_rf x hf hr, beq_self_eq_true]
  exact pure5 (n := 200) [(16, .res (.int .u64 (shiftS (u x) (numAt a) (numAt b))) (base0 4 tabs)), (2, .skip (.done (.exit 0) (E3 (u x) (numAt a) (numAt b) (shiftS (u x) (numAt a) (numAt b)) w') []) (base0 4 tabs)),
      (1, .res (.int .u64 (shiftS (u x) 0 0)) (base0 4 tabs)), (2, .br true), (2, .res (.int .u64 (shiftS (u x) (numAt a) 0)) (base0 4 tabs)), (1, .res (.int .u64 (shiftS (shiftS (u x) (numAt a) 0) 0 (numAt b))) (base0 4 tabs)), (3, .br true),
      (2, .res (.int .u64 (shiftS (u x) 0 (numAt b))) (base0 4 tabs)), (1, .res (.int .u64 (shiftS (shiftS (u x) 0 (numAt b)) (numAt a) 0)) (base0 4 tabs)), (3, .br true)]
    [En (u x) (numAt a) (numAt b) (shiftS (u x) (numAt a) (numAt b)),
      runW Tryd.prog env5 0 (.code ⟨3, none⟩ (.loop body3) (T3 (u x) (numAt a) (numAt b) (shiftS (u x) (numAt a) (numAt b)) 0 (w3 (u x) a b)) []) (base0 4 tabs) = some (.done (.exit 0) (E3 (u x) (numAt a) (numAt b) (shiftS (u x) (numAt a) (numAt b)) w') [], base0 4 tabs),
      En (u x) 0 0 (shiftS (u x) 0 0), (shiftS (u x) 0 0 == u x) = true,
      En (u x) (numAt a) 0 (shiftS (u x) (numAt a) 0), En (shiftS (u x) (numAt a) 0) 0 (numAt b) (shiftS (shiftS (u x) (numAt a) 0) 0 (numAt b)), (shiftS (shiftS (u x) (numAt a) 0) 0 (numAt b) == shiftS (u x) (numAt a) (numAt b)) = true,
      En (u x) 0 (numAt b) (shiftS (u x) 0 (numAt b)), En (shiftS (u x) 0 (numAt b)) (numAt a) 0 (shiftS (shiftS (u x) 0 (numAt b)) (numAt a) 0), (shiftS (shiftS (u x) 0 (numAt b)) (numAt a) 0 == shiftS (u x) (numAt a) (numAt b)) = true]
    (by kernel_rfl) ⟨e11 _ _ _ hf hr, hw', e11 _ _ _ hz hz, g1, e11 _ _ _ hf hz, e11 _ _ _ hz hr, g2, e11 _ _ _ hz hr, e11 _ _ _ hf hz, g3⟩ rfl rfl

theorem law3' (s a b : Int) (h0 : IntKind.u64.min ≤ s) (h1 : s ≤ IntKind.u64.max) (h2 : IntKind.u8.min ≤ a) (_ : a ≤ IntKind.u8.max) (h4 : IntKind.u8.min ≤ b) (_ : b ≤ IntKind.u8.max) : Pure Tryd.prog 4 tabs 3 [.int .u64 s, .int .u8 a, .int .u8 b] (.bool true) := by
  have a0 : (0 : Int) ≤ s := h0
  have a1 : s ≤ 18446744073709551615 := h1
  exact law3 s a b a0 (by omega) h2 h4

end Go.Proofs.YtakchekhpeokjaaDoor
