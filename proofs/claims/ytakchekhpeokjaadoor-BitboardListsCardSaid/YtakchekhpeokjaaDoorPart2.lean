/-
  The functions that the statement reaches: what they answer, part 2.
-/
import Derived.Test.YtakchekhpeokjaaDoorPart1

/-
  BITBOARD (chapter 05): what Shift answers.
-/
namespace Go.Proofs.YtakchekhpeokjaaDoor
open Go.Va

def stayFrom : Nat → Nat → Int → Int → Int
  | 0, _, _, acc => acc
  | n + 1, k, f, acc => stayFrom n (k + 1) f (bif inr (k + f) 8 then orS acc (shlS 72340172838076673 k) else acc)
/-- The files that stay on the board. -/
def stayS (f : Int) : Int := stayFrom 8 0 f 0
def byS (f r : Int) : Int := IntKind.i64.wrap (IntKind.i64.wrap (8 * r) + f)
def shiftS (s f r : Int) : Int :=
  bif inr (IntKind.i64.wrap (IntKind.i64.wrap (f + 8) - 1)) 15 && inr (IntKind.i64.wrap (IntKind.i64.wrap (r + 8) - 1)) 15 then
    (bif decide (byS f r ≥ 0) then shlS (andS s (stayS f)) (byS f r) else shrS (andS s (stayS f)) (IntKind.i64.wrap (0 - byS f r)))
  else 0

/-- A run that leaves the heap as it was. -/
theorem w5 {n : Nat} {f : FuncId} {args : List Value} {v : Value} (hs : List (Nat × Hint)) (ob : List Prop)
    (hr : whole (runH Tryd.prog env5 n 0 (.call f args) (base0 4 tabs) ⟨hs, []⟩) = some (.val v, base0 4 tabs, ob)) (ho : All ob) : runW Tryd.prog env5 0 (.call f args) (base0 4 tabs) = some (.val v, base0 4 tabs) :=
  runW_of_whole hr ho

theorem w11_out1 (s f r : Int) (h : decide (IntKind.i64.wrap (IntKind.i64.wrap (f + 8) - 1) ≥ 0) = false) : runW Tryd.prog env5 0 (.call 11 [.int .u64 s, .int .i64 f, .int .i64 r]) (base0 4 tabs) = some (.val (.int .u64 0), base0 4 tabs) :=
  w5 (n := 100) [(8, .br false)] [_] (by kernel_rfl) h
theorem w11_out2 (s f r : Int) (h : decide (IntKind.i64.wrap (IntKind.i64.wrap (f + 8) - 1) ≥ 0) = true) (g : decide (IntKind.i64.wrap (IntKind.i64.wrap (f + 8) - 1) < 15) = false) : runW Tryd.prog env5 0 (.call 11 [.int .u64 s, .int .i64 f, .int .i64 r]) (base0 4 tabs) = some (.val (.int .u64 0), base0 4 tabs) :=
  w5 (n := 100) [(8, .br true), (6, .br true)] [_, _] (by kernel_rfl) ⟨h, not_dec g⟩

theorem ge_of {z : Int} (h : decide (z ≥ 0) = true) : 0 ≤ z := of_decide_eq_true h
theorem byS_eq {f r : Int} (hf : -100 ≤ f ∧ f ≤ 100) (hr : -100 ≤ r ∧ r ≤ 100) : byS f r = 8 * r + f := by
  unfold byS
  rw [wrap64 (n := 8 * r) (by omega) (by omega), wrap64 (by omega) (by omega)]
theorem neg_by {f r : Int} (hf : -100 ≤ f ∧ f ≤ 100) (hr : -100 ≤ r ∧ r ≤ 100) (h : ¬ byS f r ≥ 0) : 0 ≤ IntKind.i64.wrap (0 - byS f r) := by
  rw [byS_eq hf hr] at h ⊢
  rw [wrap64 (by omega) (by omega)]; omega

theorem wrap_mod (n : Int) : (IntKind.i64.wrap n - n) % 18446744073709551616 = 0 ∧ -9223372036854775808 ≤ IntKind.i64.wrap n ∧ IntKind.i64.wrap n ≤ 9223372036854775807 := by
  generalize hw : IntKind.i64.wrap n = z
  unfold IntKind.wrap at hw
  simp only [IntKind.signed, Bool.true_and, IntKind.bits] at hw
  split at hw <;> rename_i h <;> simp only [ge_iff_le, decide_eq_true_eq] at h <;> omega
theorem small {r : Int} (hr : -9223372036854775808 ≤ r ∧ r ≤ 9223372036854775807) (h : decide (IntKind.i64.wrap (IntKind.i64.wrap (r + 8) - 1) ≥ 0) = true) (g : decide (IntKind.i64.wrap (IntKind.i64.wrap (r + 8) - 1) < 15) = true) : -100 ≤ r ∧ r ≤ 100 := by
  have h := of_decide_eq_true h
  have g := of_decide_eq_true g
  have a := wrap_mod (r + 8)
  have b := wrap_mod (IntKind.i64.wrap (r + 8) - 1)
  omega
theorem w11_m7 (s r : Int) (hr0 : -9223372036854775808 ≤ r ∧ r ≤ 9223372036854775807) : runW Tryd.prog env5 0 (.call 11 [.int .u64 s, .int .i64 (-7), .int .i64 r]) (base0 4 tabs) = some (.val (.int .u64 (shiftS s (-7) r)), base0 4 tabs) := by
  refine three (IntKind.i64.wrap (IntKind.i64.wrap (r + 8) - 1)) 15 (fun h => ?_) (fun h g => ?_) fun h g _ => ?_
  · rw [show shiftS s (-7) r = 0 by simp [shiftS, inr_neg h]]
    exact w5 (n := 100) [(23, .br false)] [decide (IntKind.i64.wrap (IntKind.i64.wrap (r + 8) - 1) ≥ 0) = false] (by kernel_rfl) h
  · rw [show shiftS s (-7) r = 0 by simp [shiftS, inr_big g]]
    exact w5 (n := 100) [(23, .br true), (7, .br true)] [_, _] (by kernel_rfl) ⟨h, not_dec g⟩
  · have hr := small hr0 h g
    have e : shiftS s (-7) r = bif decide (byS (-7) r ≥ 0) then shlS (andS s (stayS (-7))) (byS (-7) r) else shrS (andS s (stayS (-7))) (IntKind.i64.wrap (0 - byS (-7) r)) := by
      unfold shiftS
      rw [show inr (IntKind.i64.wrap (IntKind.i64.wrap ((-7) + 8) - 1)) 15 = true from rfl, inr_of h g]; rfl
    rw [e]
    cases hb : decide (byS (-7) r ≥ 0) with
    | true =>
      exact w5 (n := 100) [(23, .br true), (7, .br false), (168, .br true), (2, .ok)] [_, _, decide (byS (-7) r ≥ 0) = true, 0 ≤ byS (-7) r] (by kernel_rfl) ⟨h, not_dec' g, hb, ge_of hb⟩
    | false =>
      exact w5 (n := 100) [(23, .br true), (7, .br false), (168, .br false), (3, .ok)] [_, _, decide (byS (-7) r ≥ 0) = false, 0 ≤ IntKind.i64.wrap (0 - byS (-7) r)] (by kernel_rfl) ⟨h, not_dec' g, hb, neg_by (by omega) hr (of_decide_eq_false hb)⟩

theorem w11_m6 (s r : Int) (hr0 : -9223372036854775808 ≤ r ∧ r ≤ 9223372036854775807) : runW Tryd.prog env5 0 (.call 11 [.int .u64 s, .int .i64 (-6), .int .i64 r]) (base0 4 tabs) = some (.val (.int .u64 (shiftS s (-6) r)), base0 4 tabs) := by
  refine three (IntKind.i64.wrap (IntKind.i64.wrap (r + 8) - 1)) 15 (fun h => ?_) (fun h g => ?_) fun h g _ => ?_
  · rw [show shiftS s (-6) r = 0 by simp [shiftS, inr_neg h]]
    exact w5 (n := 100) [(23, .br false)] [decide (IntKind.i64.wrap (IntKind.i64.wrap (r + 8) - 1) ≥ 0) = false] (by kernel_rfl) h
  · rw [show shiftS s (-6) r = 0 by simp [shiftS, inr_big g]]
    exact w5 (n := 100) [(23, .br true), (7, .br true)] [_, _] (by kernel_rfl) ⟨h, not_dec g⟩
  · have hr := small hr0 h g
    have e : shiftS s (-6) r = bif decide (byS (-6) r ≥ 0) then shlS (andS s (stayS (-6))) (byS (-6) r) else shrS (andS s (stayS (-6))) (IntKind.i64.wrap (0 - byS (-6) r)) := by
      unfold shiftS
      rw [show inr (IntKind.i64.wrap (IntKind.i64.wrap ((-6) + 8) - 1)) 15 = true from rfl, inr_of h g]; rfl
    rw [e]
    cases hb : decide (byS (-6) r ≥ 0) with
    | true =>
      exact w5 (n := 100) [(23, .br true), (7, .br false), (176, .br true), (2, .ok)] [_, _, decide (byS (-6) r ≥ 0) = true, 0 ≤ byS (-6) r] (by kernel_rfl) ⟨h, not_dec' g, hb, ge_of hb⟩
    | false =>
      exact w5 (n := 100) [(23, .br true), (7, .br false), (176, .br false), (3, .ok)] [_, _, decide (byS (-6) r ≥ 0) = false, 0 ≤ IntKind.i64.wrap (0 - byS (-6) r)] (by kernel_rfl) ⟨h, not_dec' g, hb, neg_by (by omega) hr (of_decide_eq_false hb)⟩

theorem w11_m5 (s r : Int) (hr0 : -9223372036854775808 ≤ r ∧ r ≤ 9223372036854775807) : runW Tryd.prog env5 0 (.call 11 [.int .u64 s, .int .i64 (-5), .int .i64 r]) (base0 4 tabs) = some (.val (.int .u64 (shiftS s (-5) r)), base0 4 tabs) := by
  refine three (IntKind.i64.wrap (IntKind.i64.wrap (r + 8) - 1)) 15 (fun h => ?_) (fun h g => ?_) fun h g _ => ?_
  · rw [show shiftS s (-5) r = 0 by simp [shiftS, inr_neg h]]
    exact w5 (n := 100) [(23, .br false)] [decide (IntKind.i64.wrap (IntKind.i64.wrap (r + 8) - 1) ≥ 0) = false] (by kernel_rfl) h
  · rw [show shiftS s (-5) r = 0 by simp [shiftS, inr_big g]]
    exact w5 (n := 100) [(23, .br true), (7, .br true)] [_, _] (by kernel_rfl) ⟨h, not_dec g⟩
  · have hr := small hr0 h g
    have e : shiftS s (-5) r = bif decide (byS (-5) r ≥ 0) then shlS (andS s (stayS (-5))) (byS (-5) r) else shrS (andS s (stayS (-5))) (IntKind.i64.wrap (0 - byS (-5) r)) := by
      unfold shiftS
      rw [show inr (IntKind.i64.wrap (IntKind.i64.wrap ((-5) + 8) - 1)) 15 = true from rfl, inr_of h g]; rfl
    rw [e]
    cases hb : decide (byS (-5) r ≥ 0) with
    | true =>
      exact w5 (n := 100) [(23, .br true), (7, .br false), (184, .br true), (2, .ok)] [_, _, decide (byS (-5) r ≥ 0) = true, 0 ≤ byS (-5) r] (by kernel_rfl) ⟨h, not_dec' g, hb, ge_of hb⟩
    | false =>
      exact w5 (n := 100) [(23, .br true), (7, .br false), (184, .br false), (3, .ok)] [_, _, decide (byS (-5) r ≥ 0) = false, 0 ≤ IntKind.i64.wrap (0 - byS (-5) r)] (by kernel_rfl) ⟨h, not_dec' g, hb, neg_by (by omega) hr (of_decide_eq_false hb)⟩

theorem w11_m4 (s r : Int) (hr0 : -9223372036854775808 ≤ r ∧ r ≤ 9223372036854775807) : runW Tryd.prog env5 0 (.call 11 [.int .u64 s, .int .i64 (-4), .int .i64 r]) (base0 4 tabs) = some (.val (.int .u64 (shiftS s (-4) r)), base0 4 tabs) := by
  refine three (IntKind.i64.wrap (IntKind.i64.wrap (r + 8) - 1)) 15 (fun h => ?_) (fun h g => ?_) fun h g _ => ?_
  · rw [show shiftS s (-4) r = 0 by simp [shiftS, inr_neg h]]
    exact w5 (n := 100) [(23, .br false)] [decide (IntKind.i64.wrap (IntKind.i64.wrap (r + 8) - 1) ≥ 0) = false] (by kernel_rfl) h
  · rw [show shiftS s (-4) r = 0 by simp [shiftS, inr_big g]]
    exact w5 (n := 100) [(23, .br true), (7, .br true)] [_, _] (by kernel_rfl) ⟨h, not_dec g⟩
  · have hr := small hr0 h g
    have e : shiftS s (-4) r = bif decide (byS (-4) r ≥ 0) then shlS (andS s (stayS (-4))) (byS (-4) r) else shrS (andS s (stayS (-4))) (IntKind.i64.wrap (0 - byS (-4) r)) := by
      unfold shiftS
      rw [show inr (IntKind.i64.wrap (IntKind.i64.wrap ((-4) + 8) - 1)) 15 = true from rfl, inr_of h g]; rfl
    rw [e]
    cases hb : decide (byS (-4) r ≥ 0) with
    | true =>
      exact w5 (n := 100) [(23, .br true), (7, .br false), (192, .br true), (2, .ok)] [_, _, decide (byS (-4) r ≥ 0) = true, 0 ≤ byS (-4) r] (by kernel_rfl) ⟨h, not_dec' g, hb, ge_of hb⟩
    | false =>
      exact w5 (n := 100) [(23, .br true), (7, .br false), (192, .br false), (3, .ok)] [_, _, decide (byS (-4) r ≥ 0) = false, 0 ≤ IntKind.i64.wrap (0 - byS (-4) r)] (by kernel_rfl) ⟨h, not_dec' g, hb, neg_by (by omega) hr (of_decide_eq_false hb)⟩

theorem w11_m3 (s r : Int) (hr0 : -9223372036854775808 ≤ r ∧ r ≤ 9223372036854775807) : runW Tryd.prog env5 0 (.call 11 [.int .u64 s, .int .i64 (-3), .int .i64 r]) (base0 4 tabs) = some (.val (.int .u64 (shiftS s (-3) r)), base0 4 tabs) := by
  refine three (IntKind.i64.wrap (IntKind.i64.wrap (r + 8) - 1)) 15 (fun h => ?_) (fun h g => ?_) fun h g _ => ?_
  · rw [show shiftS s (-3) r = 0 by simp [shiftS, inr_neg h]]
    exact w5 (n := 100) [(23, .br false)] [decide (IntKind.i64.wrap (IntKind.i64.wrap (r + 8) - 1) ≥ 0) = false] (by kernel_rfl) h
  · rw [show shiftS s (-3) r = 0 by simp [shiftS, inr_big g]]
    exact w5 (n := 100) [(23, .br true), (7, .br true)] [_, _] (by kernel_rfl) ⟨h, not_dec g⟩
  · have hr := small hr0 h g
    have e : shiftS s (-3) r = bif decide (byS (-3) r ≥ 0) then shlS (andS s (stayS (-3))) (byS (-3) r) else shrS (andS s (stayS (-3))) (IntKind.i64.wrap (0 - byS (-3) r)) := by
      unfold shiftS
      rw [show inr (IntKind.i64.wrap (IntKind.i64.wrap ((-3) + 8) - 1)) 15 = true from rfl, inr_of h g]; rfl
    rw [e]
    cases hb : decide (byS (-3) r ≥ 0) with
    | true =>
      exact w5 (n := 100) [(23, .br true), (7, .br false), (200, .br true), (2, .ok)] [_, _, decide (byS (-3) r ≥ 0) = true, 0 ≤ byS (-3) r] (by kernel_rfl) ⟨h, not_dec' g, hb, ge_of hb⟩
    | false =>
      exact w5 (n := 100) [(23, .br true), (7, .br false), (200, .br false), (3, .ok)] [_, _, decide (byS (-3) r ≥ 0) = false, 0 ≤ IntKind.i64.wrap (0 - byS (-3) r)] (by kernel_rfl) ⟨h, not_dec' g, hb, neg_by (by omega) hr (of_decide_eq_false hb)⟩

theorem w11_m2 (s r : Int) (hr0 : -9223372036854775808 ≤ r ∧ r ≤ 9223372036854775807) : runW Tryd.prog env5 0 (.call 11 [.int .u64 s, .int .i64 (-2), .int .i64 r]) (base0 4 tabs) = some (.val (.int .u64 (shiftS s (-2) r)), base0 4 tabs) := by
  refine three (IntKind.i64.wrap (IntKind.i64.wrap (r + 8) - 1)) 15 (fun h => ?_) (fun h g => ?_) fun h g _ => ?_
  · rw [show shiftS s (-2) r = 0 by simp [shiftS, inr_neg h]]
    exact w5 (n := 100) [(23, .br false)] [decide (IntKind.i64.wrap (IntKind.i64.wrap (r + 8) - 1) ≥ 0) = false] (by kernel_rfl) h
  · rw [show shiftS s (-2) r = 0 by simp [shiftS, inr_big g]]
    exact w5 (n := 100) [(23, .br true), (7, .br true)] [_, _] (by kernel_rfl) ⟨h, not_dec g⟩
  · have hr := small hr0 h g
    have e : shiftS s (-2) r = bif decide (byS (-2) r ≥ 0) then shlS (andS s (stayS (-2))) (byS (-2) r) else shrS (andS s (stayS (-2))) (IntKind.i64.wrap (0 - byS (-2) r)) := by
      unfold shiftS
      rw [show inr (IntKind.i64.wrap (IntKind.i64.wrap ((-2) + 8) - 1)) 15 = true from rfl, inr_of h g]; rfl
    rw [e]
    cases hb : decide (byS (-2) r ≥ 0) with
    | true =>
      exact w5 (n := 100) [(23, .br true), (7, .br false), (208, .br true), (2, .ok)] [_, _, decide (byS (-2) r ≥ 0) = true, 0 ≤ byS (-2) r] (by kernel_rfl) ⟨h, not_dec' g, hb, ge_of hb⟩
    | false =>
      exact w5 (n := 100) [(23, .br true), (7, .br false), (208, .br false), (3, .ok)] [_, _, decide (byS (-2) r ≥ 0) = false, 0 ≤ IntKind.i64.wrap (0 - byS (-2) r)] (by kernel_rfl) ⟨h, not_dec' g, hb, neg_by (by omega) hr (of_decide_eq_false hb)⟩

theorem w11_m1 (s r : Int) (hr0 : -9223372036854775808 ≤ r ∧ r ≤ 9223372036854775807) : runW Tryd.prog env5 0 (.call 11 [.int .u64 s, .int .i64 (-1), .int .i64 r]) (base0 4 tabs) = some (.val (.int .u64 (shiftS s (-1) r)), base0 4 tabs) := by
  refine three (IntKind.i64.wrap (IntKind.i64.wrap (r + 8) - 1)) 15 (fun h => ?_) (fun h g => ?_) fun h g _ => ?_
  · rw [show shiftS s (-1) r = 0 by simp [shiftS, inr_neg h]]
    exact w5 (n := 100) [(23, .br false)] [decide (IntKind.i64.wrap (IntKind.i64.wrap (r + 8) - 1) ≥ 0) = false] (by kernel_rfl) h
  · rw [show shiftS s (-1) r = 0 by simp [shiftS, inr_big g]]
    exact w5 (n := 100) [(23, .br true), (7, .br true)] [_, _] (by kernel_rfl) ⟨h, not_dec g⟩
  · have hr := small hr0 h g
    have e : shiftS s (-1) r = bif decide (byS (-1) r ≥ 0) then shlS (andS s (stayS (-1))) (byS (-1) r) else shrS (andS s (stayS (-1))) (IntKind.i64.wrap (0 - byS (-1) r)) := by
      unfold shiftS
      rw [show inr (IntKind.i64.wrap (IntKind.i64.wrap ((-1) + 8) - 1)) 15 = true from rfl, inr_of h g]; rfl
    rw [e]
    cases hb : decide (byS (-1) r ≥ 0) with
    | true =>
      exact w5 (n := 100) [(23, .br true), (7, .br false), (216, .br true), (2, .ok)] [_, _, decide (byS (-1) r ≥ 0) = true, 0 ≤ byS (-1) r] (by kernel_rfl) ⟨h, not_dec' g, hb, ge_of hb⟩
    | false =>
      exact w5 (n := 100) [(23, .br true), (7, .br false), (216, .br false), (3, .ok)] [_, _, decide (byS (-1) r ≥ 0) = false, 0 ≤ IntKind.i64.wrap (0 - byS (-1) r)] (by kernel_rfl) ⟨h, not_dec' g, hb, neg_by (by omega) hr (of_decide_eq_false hb)⟩

theorem w11_p0 (s r : Int) (hr0 : -9223372036854775808 ≤ r ∧ r ≤ 9223372036854775807) : runW Tryd.prog env5 0 (.call 11 [.int .u64 s, .int .i64 0, .int .i64 r]) (base0 4 tabs) = some (.val (.int .u64 (shiftS s 0 r)), base0 4 tabs) := by
  refine three (IntKind.i64.wrap (IntKind.i64.wrap (r + 8) - 1)) 15 (fun h => ?_) (fun h g => ?_) fun h g _ => ?_
  · rw [show shiftS s 0 r = 0 by simp [shiftS, inr_neg h]]
    exact w5 (n := 100) [(23, .br false)] [decide (IntKind.i64.wrap (IntKind.i64.wrap (r + 8) - 1) ≥ 0) = false] (by kernel_rfl) h
  · rw [show shiftS s 0 r = 0 by simp [shiftS, inr_big g]]
    exact w5 (n := 100) [(23, .br true), (7, .br true)] [_, _] (by kernel_rfl) ⟨h, not_dec g⟩
  · have hr := small hr0 h g
    have e : shiftS s 0 r = bif decide (byS 0 r ≥ 0) then shlS (andS s (stayS 0)) (byS 0 r) else shrS (andS s (stayS 0)) (IntKind.i64.wrap (0 - byS 0 r)) := by
      unfold shiftS
      rw [show inr (IntKind.i64.wrap (IntKind.i64.wrap (0 + 8) - 1)) 15 = true from rfl, inr_of h g]; rfl
    rw [e]
    cases hb : decide (byS 0 r ≥ 0) with
    | true =>
      exact w5 (n := 100) [(23, .br true), (7, .br false), (224, .br true), (2, .ok)] [_, _, decide (byS 0 r ≥ 0) = true, 0 ≤ byS 0 r] (by kernel_rfl) ⟨h, not_dec' g, hb, ge_of hb⟩
    | false =>
      exact w5 (n := 100) [(23, .br true), (7, .br false), (224, .br false), (3, .ok)] [_, _, decide (byS 0 r ≥ 0) = false, 0 ≤ IntKind.i64.wrap (0 - byS 0 r)] (by kernel_rfl) ⟨h, not_dec' g, hb, neg_by (by omega) hr (of_decide_eq_false hb)⟩

theorem w11_p1 (s r : Int) (hr0 : -9223372036854775808 ≤ r ∧ r ≤ 9223372036854775807) : runW Tryd.prog env5 0 (.call 11 [.int .u64 s, .int .i64 1, .int .i64 r]) (base0 4 tabs) = some (.val (.int .u64 (shiftS s 1 r)), base0 4 tabs) := by
  refine three (IntKind.i64.wrap (IntKind.i64.wrap (r + 8) - 1)) 15 (fun h => ?_) (fun h g => ?_) fun h g _ => ?_
  · rw [show shiftS s 1 r = 0 by simp [shiftS, inr_neg h]]
    exact w5 (n := 100) [(23, .br false)] [decide (IntKind.i64.wrap (IntKind.i64.wrap (r + 8) - 1) ≥ 0) = false] (by kernel_rfl) h
  · rw [show shiftS s 1 r = 0 by simp [shiftS, inr_big g]]
    exact w5 (n := 100) [(23, .br true), (7, .br true)] [_, _] (by kernel_rfl) ⟨h, not_dec g⟩
  · have hr := small hr0 h g
    have e : shiftS s 1 r = bif decide (byS 1 r ≥ 0) then shlS (andS s (stayS 1)) (byS 1 r) else shrS (andS s (stayS 1)) (IntKind.i64.wrap (0 - byS 1 r)) := by
      unfold shiftS
      rw [show inr (IntKind.i64.wrap (IntKind.i64.wrap (1 + 8) - 1)) 15 = true from rfl, inr_of h g]; rfl
    rw [e]
    cases hb : decide (byS 1 r ≥ 0) with
    | true =>
      exact w5 (n := 100) [(23, .br true), (7, .br false), (219, .br true), (2, .ok)] [_, _, decide (byS 1 r ≥ 0) = true, 0 ≤ byS 1 r] (by kernel_rfl) ⟨h, not_dec' g, hb, ge_of hb⟩
    | false =>
      exact w5 (n := 100) [(23, .br true), (7, .br false), (219, .br false), (3, .ok)] [_, _, decide (byS 1 r ≥ 0) = false, 0 ≤ IntKind.i64.wrap (0 - byS 1 r)] (by kernel_rfl) ⟨h, not_dec' g, hb, neg_by (by omega) hr (of_decide_eq_false hb)⟩

theorem w11_p2 (s r : Int) (hr0 : -9223372036854775808 ≤ r ∧ r ≤ 9223372036854775807) : runW Tryd.prog env5 0 (.call 11 [.int .u64 s, .int .i64 2, .int .i64 r]) (base0 4 tabs) = some (.val (.int .u64 (shiftS s 2 r)), base0 4 tabs) := by
  refine three (IntKind.i64.wrap (IntKind.i64.wrap (r + 8) - 1)) 15 (fun h => ?_) (fun h g => ?_) fun h g _ => ?_
  · rw [show shiftS s 2 r = 0 by simp [shiftS, inr_neg h]]
    exact w5 (n := 100) [(23, .br false)] [decide (IntKind.i64.wrap (IntKind.i64.wrap (r + 8) - 1) ≥ 0) = false] (by kernel_rfl) h
  · rw [show shiftS s 2 r = 0 by simp [shiftS, inr_big g]]
    exact w5 (n := 100) [(23, .br true), (7, .br true)] [_, _] (by kernel_rfl) ⟨h, not_dec g⟩
  · have hr := small hr0 h g
    have e : shiftS s 2 r = bif decide (byS 2 r ≥ 0) then shlS (andS s (stayS 2)) (byS 2 r) else shrS (andS s (stayS 2)) (IntKind.i64.wrap (0 - byS 2 r)) := by
      unfold shiftS
      rw [show inr (IntKind.i64.wrap (IntKind.i64.wrap (2 + 8) - 1)) 15 = true from rfl, inr_of h g]; rfl
    rw [e]
    cases hb : decide (byS 2 r ≥ 0) with
    | true =>
      exact w5 (n := 100) [(23, .br true), (7, .br false), (214, .br true), (2, .ok)] [_, _, decide (byS 2 r ≥ 0) = true, 0 ≤ byS 2 r] (by kernel_rfl) ⟨h, not_dec' g, hb, ge_of hb⟩
    | false =>
      exact w5 (n := 100) [(23, .br true), (7, .br false), (214, .br false), (3, .ok)] [_, _, decide (byS 2 r ≥ 0) = false, 0 ≤ IntKind.i64.wrap (0 - byS 2 r)] (by kernel_rfl) ⟨h, not_dec' g, hb, neg_by (by omega) hr (of_decide_eq_false hb)⟩

theorem w11_p3 (s r : Int) (hr0 : -9223372036854775808 ≤ r ∧ r ≤ 9223372036854775807) : runW Tryd.prog env5 0 (.call 11 [.int .u64 s, .int .i64 3, .int .i64 r]) (base0 4 tabs) = some (.val (.int .u64 (shiftS s 3 r)), base0 4 tabs) := by
  refine three (IntKind.i64.wrap (IntKind.i64.wrap (r + 8) - 1)) 15 (fun h => ?_) (fun h g => ?_) fun h g _ => ?_
  · rw [show shiftS s 3 r = 0 by simp [shiftS, inr_neg h]]
    exact w5 (n := 100) [(23, .br false)] [decide (IntKind.i64.wrap (IntKind.i64.wrap (r + 8) - 1) ≥ 0) = false] (by kernel_rfl) h
  · rw [show shiftS s 3 r = 0 by simp [shiftS, inr_big g]]
    exact w5 (n := 100) [(23, .br true), (7, .br true)] [_, _] (by kernel_rfl) ⟨h, not_dec g⟩
  · have hr := small hr0 h g
    have e : shiftS s 3 r = bif decide (byS 3 r ≥ 0) then shlS (andS s (stayS 3)) (byS 3 r) else shrS (andS s (stayS 3)) (IntKind.i64.wrap (0 - byS 3 r)) := by
      unfold shiftS
      rw [show inr (IntKind.i64.wrap (IntKind.i64.wrap (3 + 8) - 1)) 15 = true from rfl, inr_of h g]; rfl
    rw [e]
    cases hb : decide (byS 3 r ≥ 0) with
    | true =>
      exact w5 (n := 100) [(23, .br true), (7, .br false), (209, .br true), (2, .ok)] [_, _, decide (byS 3 r ≥ 0) = true, 0 ≤ byS 3 r] (by kernel_rfl) ⟨h, not_dec' g, hb, ge_of hb⟩
    | false =>
      exact w5 (n := 100) [(23, .br true), (7, .br false), (209, .br false), (3, .ok)] [_, _, decide (byS 3 r ≥ 0) = false, 0 ≤ IntKind.i64.wrap (0 - byS 3 r)] (by kernel_rfl) ⟨h, not_dec' g, hb, neg_by (by omega) hr (of_decide_eq_false hb)⟩

theorem w11_p4 (s r : Int) (hr0 : -9223372036854775808 ≤ r ∧ r ≤ 9223372036854775807) : runW Tryd.prog env5 0 (.call 11 [.int .u64 s, .int .i64 4, .int .i64 r]) (base0 4 tabs) = some (.val (.int .u64 (shiftS s 4 r)), base0 4 tabs) := by
  refine three (IntKind.i64.wrap (IntKind.i64.wrap (r + 8) - 1)) 15 (fun h => ?_) (fun h g => ?_) fun h g _ => ?_
  · rw [show shiftS s 4 r = 0 by simp [shiftS, inr_neg h]]
    exact w5 (n := 100) [(23, .br false)] [decide (IntKind.i64.wrap (IntKind.i64.wrap (r + 8) - 1) ≥ 0) = false] (by kernel_rfl) h
  · rw [show shiftS s 4 r = 0 by simp [shiftS, inr_big g]]
    exact w5 (n := 100) [(23, .br true), (7, .br true)] [_, _] (by kernel_rfl) ⟨h, not_dec g⟩
  · have hr := small hr0 h g
    have e : shiftS s 4 r = bif decide (byS 4 r ≥ 0) then shlS (andS s (stayS 4)) (byS 4 r) else shrS (andS s (stayS 4)) (IntKind.i64.wrap (0 - byS 4 r)) := by
      unfold shiftS
      rw [show inr (IntKind.i64.wrap (IntKind.i64.wrap (4 + 8) - 1)) 15 = true from rfl, inr_of h g]; rfl
    rw [e]
    cases hb : decide (byS 4 r ≥ 0) with
    | true =>
      exact w5 (n := 100) [(23, .br true), (7, .br false), (204, .br true), (2, .ok)] [_, _, decide (byS 4 r ≥ 0) = true, 0 ≤ byS 4 r] (by kernel_rfl) ⟨h, not_dec' g, hb, ge_of hb⟩
    | false =>
      exact w5 (n := 100) [(23, .br true), (7, .br false), (204, .br false), (3, .ok)] [_, _, decide (byS 4 r ≥ 0) = false, 0 ≤ IntKind.i64.wrap (0 - byS 4 r)] (by kernel_rfl) ⟨h, not_dec' g, hb, neg_by (by omega) hr (of_decide_eq_false hb)⟩

theorem w11_p5 (s r : Int) (hr0 : -9223372036854775808 ≤ r ∧ r ≤ 9223372036854775807) : runW Tryd.prog env5 0 (.call 11 [.int .u64 s, .int .i64 5, .int .i64 r]) (base0 4 tabs) = some (.val (.int .u64 (shiftS s 5 r)), base0 4 tabs) := by
  refine three (IntKind.i64.wrap (IntKind.i64.wrap (r + 8) - 1)) 15 (fun h => ?_) (fun h g => ?_) fun h g _ => ?_
  · rw [show shiftS s 5 r = 0 by simp [shiftS, inr_neg h]]
    exact w5 (n := 100) [(23, .br false)] [decide (IntKind.i64.wrap (IntKind.i64.wrap (r + 8) - 1) ≥ 0) = false] (by kernel_rfl) h
  · rw [show shiftS s 5 r = 0 by simp [shiftS, inr_big g]]
    exact w5 (n := 100) [(23, .br true), (7, .br true)] [_, _] (by kernel_rfl) ⟨h, not_dec g⟩
  · have hr := small hr0 h g
    have e : shiftS s 5 r = bif decide (byS 5 r ≥ 0) then shlS (andS s (stayS 5)) (byS 5 r) else shrS (andS s (stayS 5)) (IntKind.i64.wrap (0 - byS 5 r)) := by
      unfold shiftS
      rw [show inr (IntKind.i64.wrap (IntKind.i64.wrap (5 + 8) - 1)) 15 = true from rfl, inr_of h g]; rfl
    rw [e]
    cases hb : decide (byS 5 r ≥ 0) with
    | true =>
      exact w5 (n := 100) [(23, .br true), (7, .br false), (199, .br true), (2, .ok)] [_, _, decide (byS 5 r ≥ 0) = true, 0 ≤ byS 5 r] (by kernel_rfl) ⟨h, not_dec' g, hb, ge_of hb⟩
    | false =>
      exact w5 (n := 100) [(23, .br true), (7, .br false), (199, .br false), (3, .ok)] [_, _, decide (byS 5 r ≥ 0) = false, 0 ≤ IntKind.i64.wrap (0 - byS 5 r)] (by kernel_rfl) ⟨h, not_dec' g, hb, neg_by (by omega) hr (of_decide_eq_false hb)⟩

theorem w11_p6 (s r : Int) (hr0 : -9223372036854775808 ≤ r ∧ r ≤ 9223372036854775807) : runW Tryd.prog env5 0 (.call 11 [.int .u64 s, .int .i64 6, .int .i64 r]) (base0 4 tabs) = some (.val (.int .u64 (shiftS s 6 r)), base0 4 tabs) := by
  refine three (IntKind.i64.wrap (IntKind.i64.wrap (r + 8) - 1)) 15 (fun h => ?_) (fun h g => ?_) fun h g _ => ?_
  · rw [show shiftS s 6 r = 0 by simp [shiftS, inr_neg h]]
    exact w5 (n := 100) [(23, .br false)] [decide (IntKind.i64.wrap (IntKind.i64.wrap (r + 8) - 1) ≥ 0) = false] (by kernel_rfl) h
  · rw [show shiftS s 6 r = 0 by simp [shiftS, inr_big g]]
    exact w5 (n := 100) [(23, .br true), (7, .br true)] [_, _] (by kernel_rfl) ⟨h, not_dec g⟩
  · have hr := small hr0 h g
    have e : shiftS s 6 r = bif decide (byS 6 r ≥ 0) then shlS (andS s (stayS 6)) (byS 6 r) else shrS (andS s (stayS 6)) (IntKind.i64.wrap (0 - byS 6 r)) := by
      unfold shiftS
      rw [show inr (IntKind.i64.wrap (IntKind.i64.wrap (6 + 8) - 1)) 15 = true from rfl, inr_of h g]; rfl
    rw [e]
    cases hb : decide (byS 6 r ≥ 0) with
    | true =>
      exact w5 (n := 100) [(23, .br true), (7, .br false), (194, .br true), (2, .ok)] [_, _, decide (byS 6 r ≥ 0) = true, 0 ≤ byS 6 r] (by kernel_rfl) ⟨h, not_dec' g, hb, ge_of hb⟩
    | false =>
      exact w5 (n := 100) [(23, .br true), (7, .br false), (194, .br false), (3, .ok)] [_, _, decide (byS 6 r ≥ 0) = false, 0 ≤ IntKind.i64.wrap (0 - byS 6 r)] (by kernel_rfl) ⟨h, not_dec' g, hb, neg_by (by omega) hr (of_decide_eq_false hb)⟩

theorem w11_p7 (s r : Int) (hr0 : -9223372036854775808 ≤ r ∧ r ≤ 9223372036854775807) : runW Tryd.prog env5 0 (.call 11 [.int .u64 s, .int .i64 7, .int .i64 r]) (base0 4 tabs) = some (.val (.int .u64 (shiftS s 7 r)), base0 4 tabs) := by
  refine three (IntKind.i64.wrap (IntKind.i64.wrap (r + 8) - 1)) 15 (fun h => ?_) (fun h g => ?_) fun h g _ => ?_
  · rw [show shiftS s 7 r = 0 by simp [shiftS, inr_neg h]]
    exact w5 (n := 100) [(23, .br false)] [decide (IntKind.i64.wrap (IntKind.i64.wrap (r + 8) - 1) ≥ 0) = false] (by kernel_rfl) h
  · rw [show shiftS s 7 r = 0 by simp [shiftS, inr_big g]]
    exact w5 (n := 100) [(23, .br true), (7, .br true)] [_, _] (by kernel_rfl) ⟨h, not_dec g⟩
  · have hr := small hr0 h g
    have e : shiftS s 7 r = bif decide (byS 7 r ≥ 0) then shlS (andS s (stayS 7)) (byS 7 r) else shrS (andS s (stayS 7)) (IntKind.i64.wrap (0 - byS 7 r)) := by
      unfold shiftS
      rw [show inr (IntKind.i64.wrap (IntKind.i64.wrap (7 + 8) - 1)) 15 = true from rfl, inr_of h g]; rfl
    rw [e]
    cases hb : decide (byS 7 r ≥ 0) with
    | true =>
      exact w5 (n := 100) [(23, .br true), (7, .br false), (189, .br true), (2, .ok)] [_, _, decide (byS 7 r ≥ 0) = true, 0 ≤ byS 7 r] (by kernel_rfl) ⟨h, not_dec' g, hb, ge_of hb⟩
    | false =>
      exact w5 (n := 100) [(23, .br true), (7, .br false), (189, .br false), (3, .ok)] [_, _, decide (byS 7 r ≥ 0) = false, 0 ≤ IntKind.i64.wrap (0 - byS 7 r)] (by kernel_rfl) ⟨h, not_dec' g, hb, neg_by (by omega) hr (of_decide_eq_false hb)⟩

end Go.Proofs.YtakchekhpeokjaaDoor
/-
  BITBOARD (chapter 05): Shift, of small numbers; its bits.
-/
namespace Go.Proofs.YtakchekhpeokjaaDoor
open Go.Va

theorem w11 (s f r : Int) (hf : -9223372036854775808 ≤ f ∧ f ≤ 9223372036854775807) (hr : -9223372036854775808 ≤ r ∧ r ≤ 9223372036854775807) : runW Tryd.prog env5 0 (.call 11 [.int .u64 s, .int .i64 f, .int .i64 r]) (base0 4 tabs) = some (.val (.int .u64 (shiftS s f r)), base0 4 tabs) := by
  have wa := wrap_mod (f + 8)
  have wb := wrap_mod (IntKind.i64.wrap (f + 8) - 1)
  by_cases h1 : IntKind.i64.wrap (IntKind.i64.wrap (f + 8) - 1) < 0
  · have h : decide (IntKind.i64.wrap (IntKind.i64.wrap (f + 8) - 1) ≥ 0) = false := decide_eq_false (by omega)
    rw [show shiftS s f r = 0 by simp [shiftS, inr_neg h]]
    exact w11_out1 s f r h
  by_cases h2 : 15 ≤ IntKind.i64.wrap (IntKind.i64.wrap (f + 8) - 1)
  · have h : decide (IntKind.i64.wrap (IntKind.i64.wrap (f + 8) - 1) ≥ 0) = true := decide_eq_true (by omega)
    have g : decide (IntKind.i64.wrap (IntKind.i64.wrap (f + 8) - 1) < 15) = false := decide_eq_false (by omega)
    rw [show shiftS s f r = 0 by simp [shiftS, inr_big g]]
    exact w11_out2 s f r h g
  have hc : f = -7 ∨ f = -6 ∨ f = -5 ∨ f = -4 ∨ f = -3 ∨ f = -2 ∨ f = -1 ∨ f = 0 ∨ f = 1 ∨ f = 2 ∨ f = 3 ∨ f = 4 ∨ f = 5 ∨ f = 6 ∨ f = 7 := by omega
  rcases hc with rfl | rfl | rfl | rfl | rfl | rfl | rfl | rfl | rfl | rfl | rfl | rfl | rfl | rfl | rfl
  · exact w11_m7 s r hr
  · exact w11_m6 s r hr
  · exact w11_m5 s r hr
  · exact w11_m4 s r hr
  · exact w11_m3 s r hr
  · exact w11_m2 s r hr
  · exact w11_m1 s r hr
  · exact w11_p0 s r hr
  · exact w11_p1 s r hr
  · exact w11_p2 s r hr
  · exact w11_p3 s r hr
  · exact w11_p4 s r hr
  · exact w11_p5 s r hr
  · exact w11_p6 s r hr
  · exact w11_p7 s r hr

/-- The files that stay, as bits. -/
def stayB (f : Int) : BitVec 64 := BitVec.ofInt 64 (stayS f)
def stayOk (f : Int) : Bool := decide (0 ≤ stayS f) && decide (stayS f < 18446744073709551616) && (List.range 64).all fun i => (stayB f).getLsbD i == inr ((i : Int) % 8 + f) 8
theorem stay_all : ((List.range 15).all fun k => stayOk ((k : Int) - 7)) = true := by decide +kernel

theorem stay_facts {f : Int} (h0 : -7 ≤ f) (h1 : f ≤ 7) : stayS f = u (stayB f) ∧ ∀ i, i < 64 → (stayB f).getLsbD i = inr ((i : Int) % 8 + f) 8 := by
  have h := List.all_eq_true.1 stay_all (f + 7).toNat (List.mem_range.2 (by omega))
  rw [show ((((f + 7).toNat : Nat) : Int) - 7) = f by omega] at h
  simp only [stayOk, Bool.and_eq_true, decide_eq_true_eq] at h
  exact ⟨u_of _ h.1.1 h.1.2, fun i hi => eq_of_beq (List.all_eq_true.1 h.2 i (List.mem_range.2 hi))⟩

/-- Shift, of bits. -/
def shB (x : BitVec 64) (f r : Int) : BitVec 64 := if 8 * r + f ≥ 0 then (x &&& stayB f) <<< (8 * r + f).toNat else (x &&& stayB f) >>> (-(8 * r + f)).toNat
theorem shiftS_u (x : BitVec 64) {f r : Int} (h0 : -7 ≤ f) (h1 : f ≤ 7) (g0 : -7 ≤ r) (g1 : r ≤ 7) : shiftS (u x) f r = u (shB x f r) := by
  have e : IntKind.i64.wrap (IntKind.i64.wrap (f + 8) - 1) = f + 7 := by
    rw [wrap64 (n := f + 8) (by omega) (by omega), wrap64 (by omega) (by omega)]; omega
  have e' : IntKind.i64.wrap (IntKind.i64.wrap (r + 8) - 1) = r + 7 := by
    rw [wrap64 (n := r + 8) (by omega) (by omega), wrap64 (by omega) (by omega)]; omega
  unfold shiftS shB
  rw [e, e', inr_true (by omega) (by omega), inr_true (by omega) (by omega), byS_eq (by omega) (by omega), (stay_facts h0 h1).1, andS_u]
  simp only [Bool.and_self, cond_true]
  by_cases hb : 8 * r + f ≥ 0
  · rw [decide_eq_true hb, cond_true, if_pos hb]
    have := shlS_u (x &&& stayB f) (8 * r + f).toNat (by omega)
    rw [show (((8 * r + f).toNat : Nat) : Int) = 8 * r + f by omega] at this
    exact this
  · rw [decide_eq_false hb, cond_false, if_neg hb, wrap64 (by omega) (by omega)]
    have := shrS_u (x &&& stayB f) (-(8 * r + f)).toNat (by omega)
    rw [show (((-(8 * r + f)).toNat : Nat) : Int) = 0 - (8 * r + f) by omega] at this
    exact this

/-- Where a square comes from. -/
theorem shB_bit (x : BitVec 64) {f r : Int} (h0 : -7 ≤ f) (h1 : f ≤ 7) (g0 : -7 ≤ r) (g1 : r ≤ 7) (j : Nat) (hj : j < 64) :
    (shB x f r).getLsbD j = (inr ((j : Int) % 8 - f) 8 && inr ((j : Int) / 8 - r) 8 && x.getLsbD (8 * ((j : Int) / 8 - r) + ((j : Int) % 8 - f)).toNat) := by
  have hst := (stay_facts h0 h1).2
  unfold shB
  by_cases hb : 8 * r + f ≥ 0
  · rw [if_pos hb, BitVec.getLsbD_shiftLeft, BitVec.getLsbD_and]
    by_cases hk : j < (8 * r + f).toNat
    · have : (inr ((j : Int) % 8 - f) 8 && inr ((j : Int) / 8 - r) 8) = false := by
        simp only [inr, Bool.and_eq_false_iff, decide_eq_false_iff_not]; omega
      simp [hk, this]
    · have hlt : j - (8 * r + f).toNat < 64 := by omega
      rw [hst _ hlt]
      have hidx : ((j - (8 * r + f).toNat : Nat) : Int) = j - (8 * r + f) := by omega
      by_cases hin : 0 ≤ ((j : Int) - (8 * r + f)) % 8 + f ∧ ((j : Int) - (8 * r + f)) % 8 + f < 8
      · have i1 : inr (((j - (8 * r + f).toNat : Nat) : Int) % 8 + f) 8 = true := inr_true (by rw [hidx]; omega) (by rw [hidx]; omega)
        have i2 : (inr ((j : Int) % 8 - f) 8 && inr ((j : Int) / 8 - r) 8) = true := by
          rw [inr_true (by omega) (by omega), inr_true (by omega) (by omega)]; rfl
        rw [i1, i2]
        simp [hj, hk]
        congr 1; omega
      · have i1 : inr (((j - (8 * r + f).toNat : Nat) : Int) % 8 + f) 8 = false := by
          rw [hidx]; simp only [inr, Bool.and_eq_false_iff, decide_eq_false_iff_not]; omega
        have i2 : (inr ((j : Int) % 8 - f) 8 && inr ((j : Int) / 8 - r) 8) = false := by
          simp only [inr, Bool.and_eq_false_iff, decide_eq_false_iff_not]; omega
        rw [i1, i2]; simp
  · rw [if_neg hb, BitVec.getLsbD_ushiftRight, BitVec.getLsbD_and]
    by_cases hk : (-(8 * r + f)).toNat + j < 64
    · rw [hst _ hk]
      have hidx : (((-(8 * r + f)).toNat + j : Nat) : Int) = j - (8 * r + f) := by omega
      by_cases hin : 0 ≤ ((j : Int) - (8 * r + f)) % 8 + f ∧ ((j : Int) - (8 * r + f)) % 8 + f < 8
      · have i1 : inr ((((-(8 * r + f)).toNat + j : Nat) : Int) % 8 + f) 8 = true := inr_true (by rw [hidx]; omega) (by rw [hidx]; omega)
        have i2 : (inr ((j : Int) % 8 - f) 8 && inr ((j : Int) / 8 - r) 8) = true := by
          rw [inr_true (by omega) (by omega), inr_true (by omega) (by omega)]; rfl
        rw [i1, i2]
        simp
        congr 1; omega
      · have i1 : inr ((((-(8 * r + f)).toNat + j : Nat) : Int) % 8 + f) 8 = false := by
          rw [hidx]; simp only [inr, Bool.and_eq_false_iff, decide_eq_false_iff_not]; omega
        have i2 : (inr ((j : Int) % 8 - f) 8 && inr ((j : Int) / 8 - r) 8) = false := by
          simp only [inr, Bool.and_eq_false_iff, decide_eq_false_iff_not]; omega
        rw [i1, i2]; simp
    · have i2 : (inr ((j : Int) % 8 - f) 8 && inr ((j : Int) / 8 - r) 8) = false := by
        simp only [inr, Bool.and_eq_false_iff, decide_eq_false_iff_not]; omega
      rw [i2, BitVec.getLsbD_of_ge x _ (by omega)]; simp

/-- The call, in a law. -/
theorem e11 (s f r : Int) (hf : -100 ≤ f ∧ f ≤ 100) (hr : -100 ≤ r ∧ r ≤ 100) : enterA Tryd.prog env5 (runW Tryd.prog env5) 0 11 [.int .u64 s, .int .i64 f, .int .i64 r] (base0 4 tabs) = some (.int .u64 (shiftS s f r), base0 4 tabs) := by
  unfold enterA
  rw [show env5.isOv 11 = false from rfl, cond_false, w11 s f r (by omega) (by omega)]

end Go.Proofs.YtakchekhpeokjaaDoor

/-
  BITBOARD (chapter 05): the bits of a number, from the lowest on; the lowest bit, and what is left without it.
-/
namespace Go.Proofs.YtakchekhpeokjaaDoor
open Go.Va

/-- The numbers of the bits from i on that are set. -/
def bitsFrom (x : BitVec 64) (i : Nat) : List Nat := (List.range' i (64 - i)).filter x.getLsbD
def bitsL (x : BitVec 64) : List Nat := (List.range 64).filter x.getLsbD
def lowB (x : BitVec 64) : BitVec 64 := x &&& -x
def restB (x : BitVec 64) : BitVec 64 := x &&& (x - 1#64)
def tz (x : BitVec 64) : Nat := (bitsL x).headD 64

theorem lowB_bit (x : BitVec 64) (i : Nat) (hi : i < 64) : (lowB x).getLsbD i = (x.getLsbD i && !decide (∃ j < i, x.getLsbD j = true)) := by
  unfold lowB
  rw [BitVec.getLsbD_and, BitVec.getLsbD_neg]
  cases hx : x.getLsbD i with
  | false => simp
  | true => simp [hi]
theorem restB_bit (x : BitVec 64) (i : Nat) (hi : i < 64) : (restB x).getLsbD i = (x.getLsbD i && decide (∃ j < i, x.getLsbD j = true)) := by
  unfold restB
  have : x - 1#64 = ~~~ (-x) := by
    rw [BitVec.not_neg]
  rw [BitVec.getLsbD_and, this, BitVec.getLsbD_not, BitVec.getLsbD_neg]
  cases hx : x.getLsbD i with
  | false => simp
  | true => simp [hi]

theorem bitsL_mem {x : BitVec 64} {i : Nat} : i ∈ bitsL x ↔ i < 64 ∧ x.getLsbD i = true := by
  unfold bitsL; rw [List.mem_filter, List.mem_range]
theorem bitsL_sorted (x : BitVec 64) : (bitsL x).Pairwise (· < ·) := List.Pairwise.filter _ List.pairwise_lt_range

/-- Sorted lists with the same members are the same. -/
theorem sorted_ext : ∀ {l m : List Nat}, l.Pairwise (· < ·) → m.Pairwise (· < ·) → (∀ i, i ∈ l ↔ i ∈ m) → l = m
  | [], [], _, _, _ => rfl
  | [], b :: m, _, _, h => by have := (h b).2 (by simp); cases this
  | a :: l, [], _, _, h => by have := (h a).1 (by simp); cases this
  | a :: l, b :: m, hl, hm, h => by
    rw [List.pairwise_cons] at hl hm
    have hab : a = b := by
      have h1 := (h a).1 (by simp)
      have h2 := (h b).2 (by simp)
      rcases List.mem_cons.1 h1 with h1 | h1
      · exact h1
      · rcases List.mem_cons.1 h2 with h2 | h2
        · exact h2.symm
        · have := hm.1 _ h1; have := hl.1 _ h2; omega
    subst hab
    congr 1
    refine sorted_ext hl.2 hm.2 fun i => ?_
    constructor
    · intro hi
      rcases List.mem_cons.1 ((h i).1 (List.mem_cons_of_mem _ hi)) with h3 | h3
      · have := hl.1 _ hi; omega
      · exact h3
    · intro hi
      rcases List.mem_cons.1 ((h i).2 (List.mem_cons_of_mem _ hi)) with h3 | h3
      · have := hm.1 _ hi; omega
      · exact h3

theorem bits_zero : bitsL 0#64 = [] := by
  unfold bitsL
  rw [List.filter_eq_nil_iff]
  intro i _
  simp
theorem bits_ne {x : BitVec 64} (h : bitsL x = []) : x = 0#64 := by
  refine BitVec.eq_of_getLsbD_eq fun i hi => ?_
  cases hx : x.getLsbD i with
  | false => simp
  | true => have : i ∈ bitsL x := bitsL_mem.2 ⟨hi, hx⟩; rw [h] at this; cases this

/-- The bits are the lowest one, and those of the rest. -/
theorem bits_cons {x : BitVec 64} (h : x ≠ 0#64) : bitsL x = tz x :: bitsL (restB x) := by
  cases hb : bitsL x with
  | nil => exact absurd (bits_ne hb) h
  | cons a l =>
    have hs := bitsL_sorted x
    rw [hb, List.pairwise_cons] at hs
    have ha : a < 64 ∧ x.getLsbD a = true := bitsL_mem.1 (by rw [hb]; simp)
    have htz : tz x = a := by unfold tz; rw [hb]; rfl
    rw [htz]
    congr 1
    refine sorted_ext hs.2 (bitsL_sorted _) fun i => ?_
    rw [bitsL_mem]
    constructor
    · intro hi
      have hi' : i ∈ bitsL x := by rw [hb]; exact List.mem_cons_of_mem _ hi
      obtain ⟨h1, h2⟩ := bitsL_mem.1 hi'
      refine ⟨h1, ?_⟩
      rw [restB_bit x i h1, h2, Bool.true_and, decide_eq_true_eq]
      exact ⟨a, hs.1 _ hi, ha.2⟩
    · rintro ⟨h1, h2⟩
      rw [restB_bit x i h1, Bool.and_eq_true, decide_eq_true_eq] at h2
      obtain ⟨h3, j, h4, h5⟩ := h2
      have hi : i ∈ bitsL x := bitsL_mem.2 ⟨h1, h3⟩
      rw [hb] at hi
      rcases List.mem_cons.1 hi with rfl | hi
      · have hj : j ∈ bitsL x := bitsL_mem.2 ⟨by omega, h5⟩
        rw [hb] at hj
        rcases List.mem_cons.1 hj with hj | hj
        · omega
        · have := hs.1 _ hj; omega
      · exact hi

theorem tz_spec {x : BitVec 64} (h : x ≠ 0#64) : tz x < 64 ∧ x.getLsbD (tz x) = true ∧ ∀ j, j < tz x → x.getLsbD j = false := by
  have hb := bits_cons h
  have hs := bitsL_sorted x
  rw [hb, List.pairwise_cons] at hs
  obtain ⟨h1, h2⟩ := bitsL_mem.1 (by rw [hb]; simp : tz x ∈ bitsL x)
  refine ⟨h1, h2, fun j hj => ?_⟩
  cases hx : x.getLsbD j with
  | false => rfl
  | true =>
    have hm : j ∈ bitsL x := bitsL_mem.2 ⟨by omega, hx⟩
    rw [hb] at hm
    rcases List.mem_cons.1 hm with hm | hm
    · omega
    · have := hs.1 _ hm; omega

/-- The lowest bit is a power of two. -/
theorem lowB_eq {x : BitVec 64} (h : x ≠ 0#64) : lowB x = 1#64 <<< tz x := by
  obtain ⟨h1, h2, h3⟩ := tz_spec h
  refine BitVec.eq_of_getLsbD_eq fun i hi => ?_
  rw [lowB_bit x i hi]
  have he : (1#64 <<< tz x).getLsbD i = decide (i = tz x) := by
    rw [BitVec.getLsbD_shiftLeft]
    by_cases e : i = tz x
    · subst e; simp [hi]
    · rw [decide_eq_false e]
      simp [hi]
      intro h4 h5
      omega
  rw [he]
  rcases Nat.lt_trichotomy i (tz x) with hlt | heq | hgt
  · rw [h3 i hlt, show decide (i = tz x) = false from decide_eq_false (by omega)]; rfl
  · rw [decide_eq_true heq]
    subst heq
    rw [h2]
    have : ¬ ∃ j < tz x, x.getLsbD j = true := by rintro ⟨j, hj, hx⟩; rw [h3 j hj] at hx; cases hx
    rw [decide_eq_false this]; rfl
  · have : ∃ j < i, x.getLsbD j = true := ⟨tz x, hgt, h2⟩
    rw [decide_eq_true this, show decide (i = tz x) = false from decide_eq_false (by omega)]
    simp

theorem bitsL_length (x : BitVec 64) : (bitsL x).length ≤ 64 := by
  unfold bitsL
  have := List.length_filter_le x.getLsbD (List.range 64)
  simpa using this

end Go.Proofs.YtakchekhpeokjaaDoor

/-
  BITBOARD (chapter 05): TrailingZeros64; an environment in which it is replaced, too.
-/
namespace Go.Proofs.YtakchekhpeokjaaDoor
open Go.Va

def deb (k : Nat) : Nat := (2 ^ k * 285870213051353865 % 18446744073709551616) / 288230376151711744
def tabN : List Nat := [0, 1, 56, 2, 57, 49, 28, 3, 61, 58, 42, 50, 38, 29, 17, 4, 62, 47, 59, 36, 45, 43, 51, 22, 53, 39, 33, 30, 24, 18, 12, 5, 63, 55, 48, 27, 60, 41, 37, 16, 46, 35, 44, 21, 52, 32, 23, 11, 54, 26, 40, 15, 34, 20, 31, 10, 25, 14, 19, 9, 13, 8, 7, 6]
theorem deb_all : ((List.range 64).all fun k => decide (deb k < 64) && decide (tabN[deb k]? = some k)) = true := by decide +kernel
theorem deb_tab {k : Nat} (h : k < 64) : deb k < 64 ∧ tabN[deb k]? = some k := by
  have := List.all_eq_true.1 deb_all k (List.mem_range.2 h)
  simp only [Bool.and_eq_true, decide_eq_true_eq] at this
  exact this
theorem tab_get (i : Nat) : (base0 4 tabs).cell? ⟨0, i, none⟩ = (tabN[i]?).map fun n : Nat => Value.int .u8 n := by
  show (tabN.map fun n : Nat => Value.int .u8 n)[i]? = _
  rw [List.getElem?_map]

theorem p52_zero : Pure Tryd.prog 4 tabs 52 [.int .u64 0] (.int .i64 64) := pure5 (n := 100) [] [] (by kernel_rfl) trivial rfl rfl
theorem low_eq {x : BitVec 64} (h : x ≠ 0#64) : IntKind.u64.wrap ((BitVec.ofInt IntKind.u64.bits (u x) &&& BitVec.ofInt IntKind.u64.bits (IntKind.u64.wrap (0 - u x))).toNat : Int) = ((2 ^ tz x : Nat) : Int) := by
  have hn : BitVec.ofInt 64 (IntKind.u64.wrap (0 - u x)) = -x := by
    refine BitVec.eq_of_toNat_eq ?_
    rw [BitVec.toNat_ofInt, BitVec.toNat_neg]
    unfold IntKind.wrap u
    simp only [IntKind.signed, Bool.false_and, Bool.false_eq_true, if_false]
    show ((0 - (x.toNat : Int)) % (2 ^ 64 : Int) % ((2 ^ 64 : Nat) : Int)).toNat = (2 ^ 64 - x.toNat) % 2 ^ 64
    have := x.isLt
    omega
  rw [ofInt_u, show BitVec.ofInt IntKind.u64.bits (IntKind.u64.wrap (0 - u x)) = -x from hn]
  refine (wrap_toNat (lowB x)).trans ?_
  rw [lowB_eq h]
  unfold u
  have hk := (tz_spec h).1
  rw [BitVec.toNat_shiftLeft, Nat.shiftLeft_eq]
  have : 2 ^ tz x < 2 ^ 64 := Nat.pow_lt_pow_right (by omega) hk
  rw [Nat.mod_eq_of_lt (by simpa using this)]
  simp
theorem deb_eq (k : Nat) : (IntKind.u64.wrap (((2 ^ k : Nat) : Int) * 285870213051353865)).fdiv (2 ^ min (Int.toNat 58) IntKind.u64.bits) = (deb k : Int) := by
  rw [show ((2 ^ k : Nat) : Int) * 285870213051353865 = ((2 ^ k * 285870213051353865 : Nat) : Int) by simp, wrap_nat, show (2 : Int) ^ min (Int.toNat 58) IntKind.u64.bits = ((288230376151711744 : Nat) : Int) from rfl, Int.fdiv_eq_ediv_of_nonneg _ (Int.natCast_nonneg _)]
  rw [← Int.natCast_ediv]
  rfl

theorem p52 (x : BitVec 64) : Pure Tryd.prog 4 tabs 52 [.int .u64 (u x)] (.int .i64 (tz x)) := by
  by_cases h : x = 0#64
  · subst h
    have : tz 0#64 = 64 := by unfold tz; rw [bits_zero]; rfl
    rw [this]
    exact p52_zero
  · have hk := (tz_spec h).1
    obtain ⟨d1, d2⟩ := deb_tab hk
    have hu : (u x == 0) = false := by
      rw [beq_eq_false_iff_ne]
      intro e
      exact h (u_inj (e.trans u_zero.symm))
    exact pure5 (n := 100) [(3, .br false), (3, .eq (.int .u64 ((2 ^ tz x : Nat) : Int))), (1, .eq (.int .u64 (deb (tz x)))), (0, .ok), (0, .is (.int .u8 (tz x))), (0, .eq (.int .i64 (tz x)))]
      [(u x == 0) = false, Value.int .u64 (IntKind.u64.wrap ((BitVec.ofInt IntKind.u64.bits (u x) &&& BitVec.ofInt IntKind.u64.bits (IntKind.u64.wrap (0 - u x))).toNat : Int)) = .int .u64 ((2 ^ tz x : Nat) : Int),
        Value.int .u64 ((IntKind.u64.wrap (((2 ^ tz x : Nat) : Int) * 285870213051353865)).fdiv (2 ^ min (Int.toNat 58) IntKind.u64.bits)) = .int .u64 (deb (tz x)), 0 ≤ (deb (tz x) : Int) ∧ (deb (tz x) : Int) < (64 : Nat),
        (base0 4 tabs).cell? ⟨0, 0 + (deb (tz x) : Int).toNat * 1, none⟩ = some (.int .u8 (tz x)), Value.int .i64 (IntKind.i64.wrap (tz x : Int)) = .int .i64 (tz x)]
      (by kernel_rfl) ⟨hu, by rw [low_eq h], by rw [deb_eq], by omega, by
        rw [show 0 + (deb (tz x) : Int).toNat * 1 = deb (tz x) by omega, tab_get, d2]; rfl, congrArg (Value.int .i64) (wrap64 (by omega) (by omega))⟩ rfl rfl

def inU (s : Int) : Bool := decide (0 ≤ s) && decide (s < 18446744073709551616)
theorem inU_u (x : BitVec 64) : inU (u x) = true := by
  unfold inU
  rw [decide_eq_true (u_nonneg x), decide_eq_true (u_lt x)]; rfl
theorem ofInt_inU {s : Int} (h : inU s = true) : s = u (BitVec.ofInt 64 s) := by
  unfold inU at h
  simp only [Bool.and_eq_true, decide_eq_true_eq] at h
  exact u_of s h.1 h.2
def k13 : List Value → Option Value
  | [] => some (.bool true)
  | _ => none
def k17 : List Value → Option Value
  | [.int .u64 s, .int .i64 n] => some (withV s n)
  | _ => none
def k19 : List Value → Option Value
  | [.int .u64 s, .int .i64 n] => some (wioV s n)
  | _ => none
def k12 : List Value → Option Value
  | [.int .u64 s, .int .i64 n] => some (.bool (hasS s n))
  | _ => none
def k34 : List Value → Option Value
  | [.int .i64 n] => some (fileV n)
  | _ => none
def k35 : List Value → Option Value
  | [.int .i64 n] => some (rankV n)
  | _ => none
def k28 : List Value → Option Value
  | [.int .u64 s] => some (.int .u64 (rbS s))
  | _ => none
def k30 : List Value → Option Value
  | [.int .u64 s] => some (.int .u64 (rbS (rvS s)))
  | _ => none
def k24 : List Value → Option Value
  | [.int .u64 s] => some (.int .i64 (lenS s))
  | _ => none
def k52 : List Value → Option Value
  | [.int .u64 s] => bif inU s then some (.int .i64 (tz (BitVec.ofInt 64 s))) else none
  | _ => none
theorem k52_u (x : BitVec 64) : k52 [.int .u64 (u x)] = some (.int .i64 (tz x)) := by
  unfold k52
  dsimp only
  rw [inU_u, cond_true, show BitVec.ofInt 64 (u x) = x from ofInt_u x]

def t6 : Ktab := [(13, k13), (17, k17), (19, k19), (12, k12), (34, k34), (35, k35), (28, k28), (30, k30), (24, k24), (52, k52)]
theorem t6_ok : TOk Tryd.prog 4 tabs t6 := by
  refine ⟨?_, ?_, ?_, ?_, ?_, ?_, ?_, ?_, ?_, ?_, trivial⟩ <;> intro args v h
  · unfold k13 at h; split at h <;> cases h; exact works_pure
  · unfold k17 at h; split at h <;> cases h; exact p17 _ _
  · unfold k19 at h; split at h <;> cases h; exact p19 _ _
  · unfold k12 at h; split at h <;> cases h; exact p12 _ _
  · unfold k34 at h; split at h <;> cases h; exact p34 _
  · unfold k35 at h; split at h <;> cases h; exact p35 _
  · unfold k28 at h; split at h <;> cases h; exact p28 _
  · unfold k30 at h; split at h <;> cases h; exact p30 _
  · unfold k24 at h; split at h <;> cases h; exact p24 _
  · unfold k52 at h
    split at h
    · rename_i s
      cases hs : inU s with
      | false => rw [hs] at h; cases h
      | true =>
        rw [hs] at h
        cases h
        have := p52 (BitVec.ofInt 64 s)
        rw [← ofInt_inU hs] at this
        exact this
    · cases h

/-- The environment of a table. -/
def envT (l : Ktab) : Env := mixEnv (isT l) (pfT l)
theorem pureT {l : Ktab} (hl : TOk Tryd.prog 4 tabs l) (hFn : fnB Tryd.prog 4 (envT l) okL = true) {n : Nat} {f : FuncId} {args : List Value} {v u : Value} (hs : List (Nat × Hint)) (ob : List Prop)
    (hr : upshot (runH Tryd.prog (envT l) n 0 (.call f args) (base0 4 tabs) ⟨hs, []⟩) = some (v, ob)) (ho : All ob) (hu : strip v = u) (hv : PF u) : Pure Tryd.prog 4 tabs f args u :=
  pureM (fun f args v _ h => pfT_pure hl f args v h) hFn hs ob hr ho hu hv

def env6 : Env := envT t6
set_option maxRecDepth 100000 in
theorem fns6 : fnB Tryd.prog 4 env6 okL = true := by kernel_rfl
theorem pfT_ne {g f : FuncId} {k : List Value → Option Value} {l : Ktab} {args : List Value} (h : Nat.beq g f = false) : pfT ((g, k) :: l) f args = pfT l f args := by
  show (bif Nat.beq g f then k args else pfT l f args) = _
  rw [h, cond_false]
theorem pfT_eq {f : FuncId} {k : List Value → Option Value} {l : Ktab} {args : List Value} : pfT ((f, k) :: l) f args = k args := by
  show (bif Nat.beq f f then k args else pfT l f args) = _
  rw [Nat.beq_refl, cond_true]
/-- What stands for TrailingZeros64. -/
theorem pf52 (args : List Value) : pfT t6 52 args = k52 args := by
  unfold t6
  rw [pfT_ne rfl, pfT_ne rfl, pfT_ne rfl, pfT_ne rfl, pfT_ne rfl, pfT_ne rfl, pfT_ne rfl, pfT_ne rfl, pfT_ne rfl, pfT_eq]
theorem envT_ov {l : Ktab} {f : FuncId} {args : List Value} {lim : Nat} {σ : AS} {v : Value} (h1 : Nat.beq f 76 = false) (h2 : Nat.beq f 81 = false) (h : pureOv (pfT l) f args σ = some (v, σ)) : (envT l).ov f args lim σ = some (v, σ) := by
  show (bif Nat.beq f 76 then noEscA args σ else bif Nat.beq f 81 then makeNoZeroA 5 args σ else pureOv (pfT l) f args σ) = _
  rw [h1, h2]
  exact h
theorem ov52 (x : BitVec 64) (lim : Nat) (σ : AS) : env6.ov 52 [.int .u64 (u x)] lim σ = some (.int .i64 (tz x), σ) := by
  refine envT_ov rfl rfl ?_
  have e : [Value.int .u64 (u x)].map strip = [Value.int .u64 (u x)] := by
    simp only [List.map_cons, List.map_nil]
    unfold strip
    rfl
  exact pureOv_of (by rw [e]; rfl) (by rw [e, pf52]; exact k52_u x)

end Go.Proofs.YtakchekhpeokjaaDoor

/-
  BITBOARD (chapter 05): what All and List answer.
-/
namespace Go.Proofs.YtakchekhpeokjaaDoor
open Go.Va

def subS (a b : Int) : Int := IntKind.u64.wrap (a - b)
noncomputable def body51 : Code := codeOf Tryd.prog 51 [.r, .b, .b]
noncomputable def loop15 : Code := codeOf Tryd.prog 15 [.r, .r, .r, .r, .l, .r, .b]
noncomputable def asg15 : Code := match loop15 with
  | .rangeFunc _ _ a _ => a
  | _ => .skip
noncomputable def bod15 : Code := match loop15 with
  | .rangeFunc _ _ _ b => b
  | _ => .skip
def P4 (n : Nat) : Value := .pointer (some ⟨n, 0, none⟩)
def F51 : Value := .func (.func 51) #[] #[P4 5]
/-- The loop's object. -/
noncomputable def lp15 (s : Int) : Go.Loop :=
  { state := .ready, pending := none, fn := 15, tmps := #[.int .u64 s, undef, .slice none 0 0, P4 4, F51, undef, .int .u64 s, F51, F51, .bool false, F51, undef, undef, undef, undef, undef, undef, undef, undef, undef],
    params := #[11], assign := asg15, body := bod15, defers := 6 }
noncomputable def S0 (s : Int) : AS := ((((base0 4 tabs).push (.cells [.slice none 0 0] true (none, some 31) none)).push (.cells [.int .u64 s] true (none, some 23) none)).push (.obj (.deferred (some [])))).push (.obj (.loop (lp15 s)))
noncomputable def S1 (s : Int) (c : List Value) (n : Nat) : AS := ((S0 s).put 4 (some (.cells [L c n 1 10] true (none, some 31) none))).push (.tail c.length 1 3)
def T51 (r : Int) (w : Nat → Value) : List Value := fillT 16 [(0, .func (.yield 7) #[] #[]), (1, P4 5), (3, .int .u64 r)] w

theorem next51_nil (s r : Int) (n : Int) (w : Nat → Value) (h1 : (r != 0) = true) (h2 : ∀ σ, env6.ov 52 [.int .u64 r] 0 σ = some (.int .i64 n, σ)) :
    ∃ w', runW Tryd.prog env6 0 (.code ⟨51, none⟩ body51 (T51 r w) []) (S0 s) = some (.done .normal (T51 (andS r (subS r 1)) w') [], S1 s [.int .i64 n] 1) :=
  seg 100 [(1, .br true), (3, .ov (.int .i64 n))] (m := 16) (js := [0, 1, 3]) (vs := [.func (.yield 7) #[] #[], P4 5, .int .u64 (andS r (subS r 1))])
    (ob := [(r != 0) = true, (∀ σ, env6.ov 52 [.int .u64 r] 0 σ = some (.int .i64 n, σ))]) (by kernel_rfl) ⟨h1, h2⟩
theorem next51 (s r : Int) (n : Int) (c : List Value) (m : Nat) (w : Nat → Value) (h1 : (r != 0) = true) (h2 : ∀ σ, env6.ov 52 [.int .u64 r] 0 σ = some (.int .i64 n, σ)) (h3 : c.length = m) (h4 : m < 99) :
    ∃ w', runW Tryd.prog env6 0 (.code ⟨51, none⟩ body51 (T51 r w) []) (S1 s c m) = some (.done .normal (T51 (andS r (subS r 1)) w') [], S1 s (c ++ [.int .i64 n]) (m + 1)) :=
  seg 100 [(1, .br true), (3, .ov (.int .i64 n)), (5, .ok), (3, .br false)] (m := 16) (js := [0, 1, 3]) (vs := [.func (.yield 7) #[] #[], P4 5, .int .u64 (andS r (subS r 1))])
    (ob := [(r != 0) = true, (∀ σ, env6.ov 52 [.int .u64 r] 0 σ = some (.int .i64 n, σ)), c.length = c.length ∧ (m + 1) * 8 ≤ 70368744177664, (((m + 1 : Nat) : Int) == 100) = false]) (by kernel_rfl)
    ⟨h1, h2, ⟨rfl, by omega⟩, beq_eq_false_iff_ne.2 (by intro e; have e : m + 1 = 100 := Int.ofNat.inj e; omega)⟩
theorem end51 (s : Int) (c : List Value) (m : Nat) (w : Nat → Value) :
    ∃ w', runW Tryd.prog env6 0 (.code ⟨51, none⟩ body51 (T51 0 w) []) (S1 s c m) = some (.done (.exit 0) (T51 0 w') [], S1 s c m) :=
  seg 100 [] (m := 16) (js := [0, 1, 3]) (vs := [.func (.yield 7) #[] #[], P4 5, .int .u64 0]) (ob := []) (by kernel_rfl) trivial

theorem rest_u (x : BitVec 64) : andS (u x) (subS (u x) 1) = u (restB x) := by
  have hn : BitVec.ofInt 64 (IntKind.u64.wrap (u x - 1)) = x - 1#64 := by
    refine BitVec.eq_of_toNat_eq ?_
    rw [BitVec.toNat_ofInt, BitVec.toNat_sub]
    unfold IntKind.wrap u
    simp only [IntKind.signed, Bool.false_and, Bool.false_eq_true, if_false]
    show (((x.toNat : Int) - 1) % (2 ^ 64 : Int) % ((2 ^ 64 : Nat) : Int)).toNat = (2 ^ 64 - (1#64).toNat + x.toNat) % 2 ^ 64
    have := x.isLt
    have h1 : (1#64).toNat = 1 := rfl
    omega
  unfold andS subS
  rw [ofInt_u, show BitVec.ofInt IntKind.u64.bits (IntKind.u64.wrap (u x - 1)) = x - 1#64 from hn]
  exact wrap_toNat (restB x)
theorem u_ne {x : BitVec 64} (h : x ≠ 0#64) : (u x != 0) = true := by
  rw [bne_iff_ne]
  intro e
  refine h (BitVec.eq_of_toNat_eq ?_)
  unfold u at e
  show x.toNat = 0
  omega
def ints (l : List Nat) : List Value := l.map fun n : Nat => .int .i64 n

theorem loop51 (s : Int) : ∀ (k : Nat) (x : BitVec 64) (c : List Value) (m : Nat) (w : Nat → Value), (bitsL x).length = k → c.length = m → m + k < 99 →
    ∃ w', runW Tryd.prog env6 0 (.code ⟨51, none⟩ (.loop body51) (T51 (u x) w) []) (S1 s c m) = some (.done (.exit 0) (T51 0 w') [], S1 s (c ++ ints (bitsL x)) (m + k)) := by
  intro k
  induction k with
  | zero =>
    intro x c m w h1 h2 h3
    have e := List.eq_nil_of_length_eq_zero h1
    rw [e, bits_ne e]
    obtain ⟨w', h⟩ := end51 s c m w
    refine ⟨w', ?_⟩
    rw [show c ++ ints [] = c from List.append_nil c]
    exact loop_out (by intro h; cases h) h
  | succ k ih =>
    intro x c m w h1 h2 h3
    have hx : x ≠ 0#64 := by
      intro e; rw [e, bits_zero] at h1; cases h1
    have hb := bits_cons hx
    rw [hb] at h1
    obtain ⟨w1, h⟩ := next51 s (u x) (tz x) c m w (u_ne hx) (fun σ => ov52 x 0 σ) h2 (by omega)
    rw [rest_u] at h
    obtain ⟨w', h'⟩ := ih (restB x) (c ++ [.int .i64 (tz x)]) (m + 1) w1 (by simpa using h1) (by simp [h2]) (by omega)
    refine ⟨w', ?_⟩
    rw [hb, show c ++ ints (tz x :: bitsL (restB x)) = c ++ [.int .i64 (tz x)] ++ ints (bitsL (restB x)) by simp [ints], show m + (k + 1) = m + 1 + k by omega]
    exact loop_next h h'
/-- From the start. -/
theorem loop51_all (s : Int) (x : BitVec 64) (w : Nat → Value) (hx : x ≠ 0#64) :
    ∃ w', runW Tryd.prog env6 0 (.code ⟨51, none⟩ (.loop body51) (T51 (u x) w) []) (S0 s) = some (.done (.exit 0) (T51 0 w') [], S1 s (ints (bitsL x)) (bitsL x).length) := by
  have hb := bits_cons hx
  obtain ⟨w1, h⟩ := next51_nil s (u x) (tz x) w (u_ne hx) (fun σ => ov52 x 0 σ)
  rw [rest_u] at h
  have hl := bitsL_length x
  rw [hb, List.length_cons] at hl
  obtain ⟨w', h'⟩ := loop51 s (bitsL (restB x)).length (restB x) [.int .i64 (tz x)] 1 w1 rfl rfl (by omega)
  refine ⟨w', ?_⟩
  rw [hb, show ints (tz x :: bitsL (restB x)) = [.int .i64 (tz x)] ++ ints (bitsL (restB x)) by simp [ints], List.length_cons, Nat.add_comm]
  exact loop_next h h'

/-- A list of squares, as the program keeps it. -/
def lstV (l : List Nat) : Value := match l with
  | [] => .slice none 0 0
  | l => L (ints l) l.length 1 0
theorem ints_PF (l : List Nat) : ∀ v ∈ ints l, PF v := PF_ints .i64 (fun n : Nat => (n : Int)) l
theorem lstV_PF (l : List Nat) : PF (lstV l) := by
  unfold lstV
  split
  · exact .sliceNone 0 0
  · exact PF_list (by omega) (ints_PF _)

theorem p15_zero : Pure Tryd.prog 4 tabs 15 [.int .u64 0] (.slice none 0 0) :=
  pureT t6_ok fns6 (n := 100) (v := .slice none 0 0) [] [] (by kernel_rfl) trivial rfl (.sliceNone 0 0)
theorem p15 (x : BitVec 64) : Pure Tryd.prog 4 tabs 15 [.int .u64 (u x)] (lstV (bitsL x)) := by
  by_cases hx : x = 0#64
  · subst hx
    rw [bits_zero]
    exact p15_zero
  · obtain ⟨w', h⟩ := loop51_all (u x) x (fun j => Go.Va.look [(4, Value.int .u64 (u x))] j undef) hx
    have hl : lstV (bitsL x) = L (ints (bitsL x)) (bitsL x).length 1 0 := by rw [bits_cons hx]; rfl
    rw [hl]
    exact pureT t6_ok fns6 (n := 1000) (v := L (ints (bitsL x)) (bitsL x).length 1 10) [(15, .skip (.done (.exit 0) (T51 0 w') []) (S1 (u x) (ints (bitsL x)) (bitsL x).length))] [_]
      (by kernel_rfl) h rfl (PF_list (by omega) (ints_PF _))
end Go.Proofs.YtakchekhpeokjaaDoor
