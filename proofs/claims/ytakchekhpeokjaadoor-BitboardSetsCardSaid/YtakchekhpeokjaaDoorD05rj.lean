/-
  BITBOARD (chapter 05): the document's Shift, as a function of plain values.
-/
import Derived.Test.YtakchekhpeokjaaDoorD05ri
namespace Go.Proofs.YtakchekhpeokjaaDoor
open Go.Va

theorem inr15 {f : Int} (hf : -9223372036854775808 ≤ f ∧ f ≤ 9223372036854775807) : inr (IntKind.i64.wrap (IntKind.i64.wrap (f + 8) - 1)) 15 = decide (-7 ≤ f ∧ f ≤ 7) := by
  have a := wrap_mod (f + 8)
  have b := wrap_mod (IntKind.i64.wrap (f + 8) - 1)
  refine Bool.eq_iff_iff.2 ?_
  simp only [inr, Bool.and_eq_true, decide_eq_true_eq]
  omega
theorem shiftS_out {s f r : Int} (hf : -9223372036854775808 ≤ f ∧ f ≤ 9223372036854775807) (hr : -9223372036854775808 ≤ r ∧ r ≤ 9223372036854775807) (h : ¬ ((-7 ≤ f ∧ f ≤ 7) ∧ -7 ≤ r ∧ r ≤ 7)) : shiftS s f r = 0 := by
  unfold shiftS
  rw [inr15 hf, inr15 hr, show (decide (-7 ≤ f ∧ f ≤ 7) && decide (-7 ≤ r ∧ r ≤ 7)) = false from by
    rw [← Bool.decide_and]; exact decide_eq_false h, cond_false]

set_option maxRecDepth 100000 in
theorem p27 (x : BitVec 64) (f r : Int) (hf : -9223372036854775808 ≤ f ∧ f ≤ 9223372036854775807) (hr : -9223372036854775808 ≤ r ∧ r ≤ 9223372036854775807) : Pure Tryd.prog 4 tabs 27 [.int .u64 (u x), .int .i64 f, .int .i64 r] (.int .u64 (shiftS (u x) f r)) := by
  cases g0 : decide (f < -7) with
  | true =>
    rw [shiftS_out hf hr (by have := of_decide_eq_true g0; omega)]
    exact pureT t11_ok fns11 (n := 100) (v := .int .u64 0) [(2, .br true)] [_] (by kernel_rfl) g0 rfl (.int _ _)
  | false =>
  cases g1 : decide (f > 7) with
  | true =>
    rw [shiftS_out hf hr (by have := of_decide_eq_true g1; omega)]
    exact pureT t11_ok fns11 (n := 100) (v := .int .u64 0) [(2, .br false), (2, .br true)] [_, _] (by kernel_rfl) ⟨g0, g1⟩ rfl (.int _ _)
  | false =>
  cases g2 : decide (r < -7) with
  | true =>
    rw [shiftS_out hf hr (by have := of_decide_eq_true g2; omega)]
    exact pureT t11_ok fns11 (n := 100) (v := .int .u64 0) [(2, .br false), (2, .br false), (3, .br true)] [_, _, _] (by kernel_rfl) ⟨g0, g1, g2⟩ rfl (.int _ _)
  | false =>
  cases g3 : decide (r > 7) with
  | true =>
    rw [shiftS_out hf hr (by have := of_decide_eq_true g3; omega)]
    exact pureT t11_ok fns11 (n := 100) (v := .int .u64 0) [(2, .br false), (2, .br false), (3, .br false), (3, .br true)] [_, _, _, _] (by kernel_rfl) ⟨g0, g1, g2, g3⟩ rfl (.int _ _)
  | false =>
  have hf' : -7 ≤ f ∧ f ≤ 7 := by
    have := of_decide_eq_false g0; have := of_decide_eq_false g1; omega
  have hr' : -7 ≤ r ∧ r ≤ 7 := by
    have := of_decide_eq_false g2; have := of_decide_eq_false g3; omega
  have hl := bitsL_length x
  have hof := shift_of x hf' hr'
  have h26 := fun σ => ov11_26 x 0 σ
  cases hp : bitsL x with
  | nil =>
    rw [hp] at hof h26
    have h43 : ∀ σ, env11.ov 43 [.slice none 0 0] 0 σ = some (.tuple #[.int .u64 (shiftS (u x) f r), .int .i64 0], σ) := fun σ => by
      rw [ov11_43 (a' := .slice none 0 0) 0 σ rfl IsZ_nil, ← hof]; rfl
    exact pureT t11_ok fns11 (n := 100) (v := .int .u64 (shiftS (u x) f r)) [(2, .br false), (2, .br false), (3, .br false), (3, .br false), (4, .ov (.slice none 0 0)), (9, .ov (.tuple #[.int .u64 (shiftS (u x) f r), .int .i64 0]))] [_, _, _, _, _, _] (by kernel_rfl) ⟨g0, g1, g2, g3, h26, h43⟩ rfl (.int _ _)
  | cons a p =>
    rw [hp] at hof h26 hl
    have hz : (natZ (a :: p)).length = (a :: p).length := natZ_len _
    obtain ⟨w', h⟩ := loop27 (natZ (a :: p)) f r (a :: p).length hz hl (a :: p).length 0 (fun j => Go.Va.look [(0, Value.int .u64 (u x)), (6, .int .u64 0), (14, .int .i64 f), (15, .bool false), (16, .bool false), (17, .int .i64 f), (18, .bool false), (19, .bool false), (20, .bool false), (21, .int .i64 r), (22, .bool false), (23, .bool false), (24, .bool false), (25, .int .i64 r), (26, .bool false), (27, .bool false), (28, .int .u64 (u x)), (29, L (ints (a :: p)) (a :: p).length 1 0)] j undef) (by omega)
    rw [zs_natZ, show mvd f r ((natZ (a :: p)).take 0) = [] from rfl, show OV [] = .slice none 0 0 from rfl, show OS [] = base0 4 tabs from rfl, show ((0 : Nat) : Int) = 0 from rfl] at h
    have hlm := mvd_len f r (natZ (a :: p))
    generalize mvd f r (natZ (a :: p)) = m at h hof hlm
    cases m with
    | nil =>
      rw [show OV [] = .slice none 0 0 from rfl, show OS [] = base0 4 tabs from rfl] at h
      have h43 : ∀ σ, env11.ov 43 [.slice none 0 0] 0 σ = some (.tuple #[.int .u64 (shiftS (u x) f r), .int .i64 0], σ) := fun σ => by
        rw [ov11_43 (a' := .slice none 0 0) 0 σ rfl IsZ_nil, ← hof]; rfl
      exact pureT t11_ok fns11 (n := 100) (v := .int .u64 (shiftS (u x) f r)) [(2, .br false), (2, .br false), (3, .br false), (3, .br false), (4, .ov (L (ints (a :: p)) (a :: p).length 1 0)), (2, .skip (.done (.exit 0) (T27 f r (.slice none 0 0) (L (ints (a :: p)) (a :: p).length 1 0) (a :: p).length w') []) (base0 4 tabs)), (1, .ov (.tuple #[.int .u64 (shiftS (u x) f r), .int .i64 0]))]
        [_, _, _, _, _, _, _] (by kernel_rfl) ⟨g0, g1, g2, g3, h26, h, h43⟩ rfl (.int _ _)
    | cons b q =>
      rw [OV_cons, OS_cons] at h
      have hz : IsZ (L (zs (b :: q)) (b :: q).length 1 0) (b :: q) := .inr ⟨0, by simp, rfl, by omega⟩
      have h43 : ∀ σ, env11.ov 43 [L (zs (b :: q)) (b :: q).length 1 6] 0 σ = some (.tuple #[.int .u64 (shiftS (u x) f r), .int .i64 0], σ) := fun σ => by
        rw [ov11_43 (a' := L (zs (b :: q)) (b :: q).length 1 0) 0 σ rfl hz, hof]
      exact pureT t11_ok fns11 (n := 100) (v := .int .u64 (shiftS (u x) f r)) [(2, .br false), (2, .br false), (3, .br false), (3, .br false), (4, .ov (L (ints (a :: p)) (a :: p).length 1 0)), (2, .skip (.done (.exit 0) (T27 f r (L (zs (b :: q)) (b :: q).length 1 6) (L (ints (a :: p)) (a :: p).length 1 0) (a :: p).length w') []) (R1 (zs (b :: q)))), (1, .ov (.tuple #[.int .u64 (shiftS (u x) f r), .int .i64 0]))]
        [_, _, _, _, _, _, _] (by kernel_rfl) ⟨g0, g1, g2, g3, h26, h, h43⟩ rfl (.int _ _)
end Go.Proofs.YtakchekhpeokjaaDoor
