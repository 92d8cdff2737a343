/-
  BITBOARD (chapter 05): what Shift answers.
-/
import Derived.Test.YtakchekhpeokjaaDoorD05h
namespace Go.Proofs.YtakchekhpeokjaaDoor
open Go.Va

def stayFrom : Nat → Nat → Int → Int → Int
  | 0, _, _, acc => acc
  | n + 1, k, f, acc => stayFrom n (k + 1) f (bif inr (k + f) 8 then orS acc (shlS 72340172838076673 k) else acc)
/-- The files that stay on the board. -/
def stayS (f : Int) : Int := stayFrom 8 0 f 0
def byS (f r : Int) : Int := IntKind.i64.wrap (IntKind.i64.wrap (8 * r) + f)
def shiftS (s f r : Int) : Int :=
  bif inr (IntKind.i64.wrap (IntKind.i64.wrap (f + 8) - 1)) 15 && inr (IntKind.i64.wrap (IntKind.i64.wrap (r + 8) - 1)) 15 then
    (bif decide (byS f r ≥ 0) then shlS (andS s (stayS f)) (byS f r) else shrS (andS s (stayS f)) (IntKind.i64.wrap (0 - byS f r)))
  else 0

/-- A run that leaves the heap as it was. -/
theorem w5 {n : Nat} {f : FuncId} {args : List Value} {v : Value} (hs : List (Nat × Hint)) (ob : List Prop)
    (hr : whole (runH Tryd.prog env5 n 0 (.call f args) (base0 4 tabs) ⟨hs, []⟩) = some (.val v, base0 4 tabs, ob)) (ho : All ob) : runW Tryd.prog env5 0 (.call f args) (base0 4 tabs) = some (.val v, base0 4 tabs) :=
  runW_of_whole hr ho

theorem w11_out1 (s f r : Int) (h : decide (IntKind.i64.wrap (IntKind.i64.wrap (f + 8) - 1) ≥ 0) = false) : runW Tryd.prog env5 0 (.call 11 [.int .u64 s, .int .i64 f, .int .i64 r]) (base0 4 tabs) = some (.val (.int .u64 0), base0 4 tabs) :=
  w5 (n := 100) [(8, .br false)] [_] (by kernel_rfl) h
theorem w11_out2 (s f r : Int) (h : decide (IntKind.i64.wrap (IntKind.i64.wrap (f + 8) - 1) ≥ 0) = true) (g : decide (IntKind.i64.wrap (IntKind.i64.wrap (f + 8) - 1) < 15) = false) : runW Tryd.prog env5 0 (.call 11 [.int .u64 s, .int .i64 f, .int .i64 r]) (base0 4 tabs) = some (.val (.int .u64 0), base0 4 tabs) :=
  w5 (n := 100) [(8, .br true), (6, .br true)] [_, _] (by kernel_rfl) ⟨h, not_dec g⟩

theorem ge_of {z : Int} (h : decide (z ≥ 0) = true) : 0 ≤ z := of_decide_eq_true h
theorem byS_eq {f r : Int} (hf : -100 ≤ f ∧ f ≤ 100) (hr : -100 ≤ r ∧ r ≤ 100) : byS f r = 8 * r + f := by
  unfold byS
  rw [wrap64 (n := 8 * r) (by omega) (by omega), wrap64 (by omega) (by omega)]
theorem neg_by {f r : Int} (hf : -100 ≤ f ∧ f ≤ 100) (hr : -100 ≤ r ∧ r ≤ 100) (h : ¬ byS f r ≥ 0) : 0 ≤ IntKind.i64.wrap (0 - byS f r) := by
  rw [byS_eq hf hr] at h ⊢
  rw [wrap64 (by omega) (by omega)]; omega

theorem wrap_mod (n : Int) : (IntKind.i64.wrap n - n) % 18446744073709551616 = 0 ∧ -9223372036854775808 ≤ IntKind.i64.wrap n ∧ IntKind.i64.wrap n ≤ 9223372036854775807 := by
  generalize hw : IntKind.i64.wrap n = z
  unfold IntKind.wrap at hw
  simp only [IntKind.signed, Bool.true_and, IntKind.bits] at hw
  split at hw <;> rename_i h <;> simp only [ge_iff_le, decide_eq_true_eq] at h <;> omega
theorem small {r : Int} (hr : -9223372036854775808 ≤ r ∧ r ≤ 9223372036854775807) (h : decide (IntKind.i64.wrap (IntKind.i64.wrap (r + 8) - 1) ≥ 0) = true) (g : decide (IntKind.i64.wrap (IntKind.i64.wrap (r + 8) - 1) < 15) = true) : -100 ≤ r ∧ r ≤ 100 := by
  have h := of_decide_eq_true h
  have g := of_decide_eq_true g
  have a := wrap_mod (r + 8)
  have b := wrap_mod (IntKind.i64.wrap (r + 8) - 1)
  omega
theorem w11_m7 (s r : Int) (hr0 : -9223372036854775808 ≤ r ∧ r ≤ 9223372036854775807) : runW Tryd.prog env5 0 (.call 11 [.int .u64 s, .int .i64 (-7), .int .i64 r]) (base0 4 tabs) = some (.val (.int .u64 (shiftS s (-7) r)), base0 4 tabs) := by
  refine three (IntKind.i64.wrap (IntKind.i64.wrap (r + 8) - 1)) 15 (fun h => ?_) (fun h g => ?_) fun h g _ => ?_
  · rw [show shiftS s (-7) r = 0 by simp [shiftS, inr_neg h]]
    exact w5 (n := 100) [(23, .br false)] [decide (IntKind.i64.wrap (IntKind.i64.wrap (r + 8) - 1) ≥ 0) = false] (by kernel_rfl) h
  · rw [show shiftS s (-7) r = 0 by simp [shiftS, inr_big g]]
    exact w5 (n := 100) [(23, .br true), (7, .br true)] [_, _] (by kernel_rfl) ⟨h, not_dec g⟩
  · have hr := small hr0 h g
    have e : shiftS s (-7) r = bif decide (byS (-7) r ≥ 0) then shlS (andS s (stayS (-7))) (byS (-7) r) else shrS (andS s (stayS (-7))) (IntKind.i64.wrap (0 - byS (-7) r)) := by
      unfold shiftS
      rw [show inr (IntKind.i64.wrap (IntKind.i64.wrap ((-7) + 8) - 1)) 15 = true from rfl, inr_of h g]; rfl
    rw [e]
    cases hb : decide (byS (-7) r ≥ 0) with
    | true =>
      exact w5 (n := 100) [(23, .br true), (7, .br false), (168, .br true), (2, .ok)] [_, _, decide (byS (-7) r ≥ 0) = true, 0 ≤ byS (-7) r] (by kernel_rfl) ⟨h, not_dec' g, hb, ge_of hb⟩
    | false =>
      exact w5 (n := 100) [(23, .br true), (7, .br false), (168, .br false), (3, .ok)] [_, _, decide (byS (-7) r ≥ 0) = false, 0 ≤ IntKind.i64.wrap (0 - byS (-7) r)] (by kernel_rfl) ⟨h, not_dec' g, hb, neg_by (by omega) hr (of_decide_eq_false hb)⟩

theorem w11_m6 (s r : Int) (hr0 : -9223372036854775808 ≤ r ∧ r ≤ 9223372036854775807) : runW Tryd.prog env5 0 (.call 11 [.int .u64 s, .int .i64 (-6), .int .i64 r]) (base0 4 tabs) = some (.val (.int .u64 (shiftS s (-6) r)), base0 4 tabs) := by
  refine three (IntKind.i64.wrap (IntKind.i64.wrap (r + 8) - 1)) 15 (fun h => ?_) (fun h g => ?_) fun h g _ => ?_
  · rw [show shiftS s (-6) r = 0 by simp [shiftS, inr_neg h]]
    exact w5 (n := 100) [(23, .br false)] [decide (IntKind.i64.wrap (IntKind.i64.wrap (r + 8) - 1) ≥ 0) = false] (by kernel_rfl) h
  · rw [show shiftS s (-6) r = 0 by simp [shiftS, inr_big g]]
    exact w5 (n := 100) [(23, .br true), (7, .br true)] [_, _] (by kernel_rfl) ⟨h, not_dec g⟩
  · have hr := small hr0 h g
    have e : shiftS s (-6) r = bif decide (byS (-6) r ≥ 0) then shlS (andS s (stayS (-6))) (byS (-6) r) else shrS (andS s (stayS (-6))) (IntKind.i64.wrap (0 - byS (-6) r)) := by
      unfold shiftS
      rw [show inr (IntKind.i64.wrap (IntKind.i64.wrap ((-6) + 8) - 1)) 15 = true from rfl, inr_of h g]; rfl
    rw [e]
    cases hb : decide (byS (-6) r ≥ 0) with
    | true =>
      exact w5 (n := 100) [(23, .br true), (7, .br false), (176, .br true), (2, .ok)] [_, _, decide (byS (-6) r ≥ 0) = true, 0 ≤ byS (-6) r] (by kernel_rfl) ⟨h, not_dec' g, hb, ge_of hb⟩
    | false =>
      exact w5 (n := 100) [(23, .br true), (7, .br false), (176, .br false), (3, .ok)] [_, _, decide (byS (-6) r ≥ 0) = false, 0 ≤ IntKind.i64.wrap (0 - byS (-6) r)] (by kernel_rfl) ⟨h, not_dec' g, hb, neg_by (by omega) hr (of_decide_eq_false hb)⟩

theorem w11_m5 (s r : Int) (hr0 : -9223372036854775808 ≤ r ∧ r ≤ 9223372036854775807) : runW Tryd.prog env5 0 (.call 11 [.int .u64 s, .int .i64 (-5), .int .i64 r]) (base0 4 tabs) = some (.val (.int .u64 (shiftS s (-5) r)), base0 4 tabs) := by
  refine three (IntKind.i64.wrap (IntKind.i64.wrap (r + 8) - 1)) 15 (fun h => ?_) (fun h g => ?_) fun h g _ => ?_
  · rw [show shiftS s (-5) r = 0 by simp [shiftS, inr_neg h]]
    exact w5 (n := 100) [(23, .br false)] [decide (IntKind.i64.wrap (IntKind.i64.wrap (r + 8) - 1) ≥ 0) = false] (by kernel_rfl) h
  · rw [show shiftS s (-5) r = 0 by simp [shiftS, inr_big g]]
    exact w5 (n := 100) [(23, .br true), (7, .br true)] [_, _] (by kernel_rfl) ⟨h, not_dec g⟩
  · have hr := small hr0 h g
    have e : shiftS s (-5) r = bif decide (byS (-5) r ≥ 0) then shlS (andS s (stayS (-5))) (byS (-5) r) else shrS (andS s (stayS (-5))) (IntKind.i64.wrap (0 - byS (-5) r)) := by
      unfold shiftS
      rw [show inr (IntKind.i64.wrap (IntKind.i64.wrap ((-5) + 8) - 1)) 15 = true from rfl, inr_of h g]; rfl
    rw [e]
    cases hb : decide (byS (-5) r ≥ 0) with
    | true =>
      exact w5 (n := 100) [(23, .br true), (7, .br false), (184, .br true), (2, .ok)] [_, _, decide (byS (-5) r ≥ 0) = true, 0 ≤ byS (-5) r] (by kernel_rfl) ⟨h, not_dec' g, hb, ge_of hb⟩
    | false =>
      exact w5 (n := 100) [(23, .br true), (7, .br false), (184, .br false), (3, .ok)] [_, _, decide (byS (-5) r ≥ 0) = false, 0 ≤ IntKind.i64.wrap (0 - byS (-5) r)] (by kernel_rfl) ⟨h, not_dec' g, hb, neg_by (by omega) hr (of_decide_eq_false hb)⟩

theorem w11_m4 (s r : Int) (hr0 : -9223372036854775808 ≤ r ∧ r ≤ 9223372036854775807) : runW Tryd.prog env5 0 (.call 11 [.int .u64 s, .int .i64 (-4), .int .i64 r]) (base0 4 tabs) = some (.val (.int .u64 (shiftS s (-4) r)), base0 4 tabs) := by
  refine three (IntKind.i64.wrap (IntKind.i64.wrap (r + 8) - 1)) 15 (fun h => ?_) (fun h g => ?_) fun h g _ => ?_
  · rw [show shiftS s (-4) r = 0 by simp [shiftS, inr_neg h]]
    exact w5 (n := 100) [(23, .br false)] [decide (IntKind.i64.wrap (IntKind.i64.wrap (r + 8) - 1) ≥ 0) = false] (by kernel_rfl) h
  · rw [show shiftS s (-4) r = 0 by simp [shiftS, inr_big g]]
    exact w5 (n := 100) [(23, .br true), (7, .br true)] [_, _] (by kernel_rfl) ⟨h, not_dec g⟩
  · have hr := small hr0 h g
    have e : shiftS s (-4) r = bif decide (byS (-4) r ≥ 0) then shlS (andS s (stayS (-4))) (byS (-4) r) else shrS (andS s (stayS (-4))) (IntKind.i64.wrap (0 - byS (-4) r)) := by
      unfold shiftS
      rw [show inr (IntKind.i64.wrap (IntKind.i64.wrap ((-4) + 8) - 1)) 15 = true from rfl, inr_of h g]; rfl
    rw [e]
    cases hb : decide (byS (-4) r ≥ 0) with
    | true =>
      exact w5 (n := 100) [(23, .br true), (7, .br false), (192, .br true), (2, .ok)] [_, _, decide (byS (-4) r ≥ 0) = true, 0 ≤ byS (-4) r] (by kernel_rfl) ⟨h, not_dec' g, hb, ge_of hb⟩
    | false =>
      exact w5 (n := 100) [(23, .br true), (7, .br false), (192, .br false), (3, .ok)] [_, _, decide (byS (-4) r ≥ 0) = false, 0 ≤ IntKind.i64.wrap (0 - byS (-4) r)] (by kernel_rfl) ⟨h, not_dec' g, hb, neg_by (by omega) hr (of_decide_eq_false hb)⟩

theorem w11_m3 (s r : Int) (hr0 : -9223372036854775808 ≤ r ∧ r ≤ 9223372036854775807) : runW Tryd.prog env5 0 (.call 11 [.int .u64 s, .int .i64 (-3), .int .i64 r]) (base0 4 tabs) = some (.val (.int .u64 (shiftS s (-3) r)), base0 4 tabs) := by
  refine three (IntKind.i64.wrap (IntKind.i64.wrap (r + 8) - 1)) 15 (fun h => ?_) (fun h g => ?_) fun h g _ => ?_
  · rw [show shiftS s (-3) r = 0 by simp [shiftS, inr_neg h]]
    exact w5 (n := 100) [(23, .br false)] [decide (IntKind.i64.wrap (IntKind.i64.wrap (r + 8) - 1) ≥ 0) = false] (by kernel_rfl) h
  · rw [show shiftS s (-3) r = 0 by simp [shiftS, inr_big g]]
    exact w5 (n := 100) [(23, .br true), (7, .br true)] [_, _] (by kernel_rfl) ⟨h, not_dec g⟩
  · have hr := small hr0 h g
    have e : shiftS s (-3) r = bif decide (byS (-3) r ≥ 0) then shlS (andS s (stayS (-3))) (byS (-3) r) else shrS (andS s (stayS (-3))) (IntKind.i64.wrap (0 - byS (-3) r)) := by
      unfold shiftS
      rw [show inr (IntKind.i64.wrap (IntKind.i64.wrap ((-3) + 8) - 1)) 15 = true from rfl, inr_of h g]; rfl
    rw [e]
    cases hb : decide (byS (-3) r ≥ 0) with
    | true =>
      exact w5 (n := 100) [(23, .br true), (7, .br false), (200, .br true), (2, .ok)] [_, _, decide (byS (-3) r ≥ 0) = true, 0 ≤ byS (-3) r] (by kernel_rfl) ⟨h, not_dec' g, hb, ge_of hb⟩
    | false =>
      exact w5 (n := 100) [(23, .br true), (7, .br false), (200, .br false), (3, .ok)] [_, _, decide (byS (-3) r ≥ 0) = false, 0 ≤ IntKind.i64.wrap (0 - byS (-3) r)] (by kernel_rfl) ⟨h, not_dec' g, hb, neg_by (by omega) hr (of_decide_eq_false hb)⟩

theorem w11_m2 (s r : Int) (hr0 : -9223372036854775808 ≤ r ∧ r ≤ 9223372036854775807) : runW Tryd.prog env5 0 (.call 11 [.int .u64 s, .int .i64 (-2), .int .i64 r]) (base0 4 tabs) = some (.val (.int .u64 (shiftS s (-2) r)), base0 4 tabs) := by
  refine three (IntKind.i64.wrap (IntKind.i64.wrap (r + 8) - 1)) 15 (fun h => ?_) (fun h g => ?_) fun h g _ => ?_
  · rw [show shiftS s (-2) r = 0 by simp [shiftS, inr_neg h]]
    exact w5 (n := 100) [(23, .br false)] [decide (IntKind.i64.wrap (IntKind.i64.wrap (r + 8) - 1) ≥ 0) = false] (by kernel_rfl) h
  · rw [show shiftS s (-2) r = 0 by simp [shiftS, inr_big g]]
    exact w5 (n := 100) [(23, .br true), (7, .br true)] [_, _] (by kernel_rfl) ⟨h, not_dec g⟩
  · have hr := small hr0 h g
    have e : shiftS s (-2) r = bif decide (byS (-2) r ≥ 0) then shlS (andS s (stayS (-2))) (byS (-2) r) else shrS (andS s (stayS (-2))) (IntKind.i64.wrap (0 - byS (-2) r)) := by
      unfold shiftS
      rw [show inr (IntKind.i64.wrap (IntKind.i64.wrap ((-2) + 8) - 1)) 15 = true from rfl, inr_of h g]; rfl
    rw [e]
    cases hb : decide (byS (-2) r ≥ 0) with
    | true =>
      exact w5 (n := 100) [(23, .br true), (7, .br false), (208, .br true), (2, .ok)] [_, _, decide (byS (-2) r ≥ 0) = true, 0 ≤ byS (-2) r] (by kernel_rfl) ⟨h, not_dec' g, hb, ge_of hb⟩
    | false =>
      exact w5 (n := 100) [(23, .br true), (7, .br false), (208, .br false), (3, .ok)] [_, _, decide (byS (-2) r ≥ 0) = false, 0 ≤ IntKind.i64.wrap (0 - byS (-2) r)] (by kernel_rfl) ⟨h, not_dec' g, hb, neg_by (by omega) hr (of_decide_eq_false hb)⟩

theorem w11_m1 (s r : Int) (hr0 : -9223372036854775808 ≤ r ∧ r ≤ 9223372036854775807) : runW Tryd.prog env5 0 (.call 11 [.int .u64 s, .int .i64 (-1), .int .i64 r]) (base0 4 tabs) = some (.val (.int .u64 (shiftS s (-1) r)), base0 4 tabs) := by
  refine three (IntKind.i64.wrap (IntKind.i64.wrap (r + 8) - 1)) 15 (fun h => ?_) (fun h g => ?_) fun h g _ => ?_
  · rw [show shiftS s (-1) r = 0 by simp [shiftS, inr_neg h]]
    exact w5 (n := 100) [(23, .br false)] [decide (IntKind.i64.wrap (IntKind.i64.wrap (r + 8) - 1) ≥ 0) = false] (by kernel_rfl) h
  · rw [show shiftS s (-1) r = 0 by simp [shiftS, inr_big g]]
    exact w5 (n := 100) [(23, .br true), (7, .br true)] [_, _] (by kernel_rfl) ⟨h, not_dec g⟩
  · have hr := small hr0 h g
    have e : shiftS s (-1) r = bif decide (byS (-1) r ≥ 0) then shlS (andS s (stayS (-1))) (byS (-1) r) else shrS (andS s (stayS (-1))) (IntKind.i64.wrap (0 - byS (-1) r)) := by
      unfold shiftS
      rw [show inr (IntKind.i64.wrap (IntKind.i64.wrap ((-1) + 8) - 1)) 15 = true from rfl, inr_of h g]; rfl
    rw [e]
    cases hb : decide (byS (-1) r ≥ 0) with
    | true =>
      exact w5 (n := 100) [(23, .br true), (7, .br false), (216, .br true), (2, .ok)] [_, _, decide (byS (-1) r ≥ 0) = true, 0 ≤ byS (-1) r] (by kernel_rfl) ⟨h, not_dec' g, hb, ge_of hb⟩
    | false =>
      exact w5 (n := 100) [(23, .br true), (7, .br false), (216, .br false), (3, .ok)] [_, _, decide (byS (-1) r ≥ 0) = false, 0 ≤ IntKind.i64.wrap (0 - byS (-1) r)] (by kernel_rfl) ⟨h, not_dec' g, hb, neg_by (by omega) hr (of_decide_eq_false hb)⟩

theorem w11_p0 (s r : Int) (hr0 : -9223372036854775808 ≤ r ∧ r ≤ 9223372036854775807) : runW Tryd.prog env5 0 (.call 11 [.int .u64 s, .int .i64 0, .int .i64 r]) (base0 4 tabs) = some (.val (.int .u64 (shiftS s 0 r)), base0 4 tabs) := by
  refine three (IntKind.i64.wrap (IntKind.i64.wrap (r + 8) - 1)) 15 (fun h => ?_) (fun h g => ?_) fun h g _ => ?_
  · rw [show shiftS s 0 r = 0 by simp [shiftS, inr_neg h]]
    exact w5 (n := 100) [(23, .br false)] [decide (IntKind.i64.wrap (IntKind.i64.wrap (r + 8) - 1) ≥ 0) = false] (by kernel_rfl) h
  · rw [show shiftS s 0 r = 0 by simp [shiftS, inr_big g]]
    exact w5 (n := 100) [(23, .br true), (7, .br true)] [_, _] (by kernel_rfl) ⟨h, not_dec g⟩
  · have hr := small hr0 h g
    have e : shiftS s 0 r = bif decide (byS 0 r ≥ 0) then shlS (andS s (stayS 0)) (byS 0 r) else shrS (andS s (stayS 0)) (IntKind.i64.wrap (0 - byS 0 r)) := by
      unfold shiftS
      rw [show inr (IntKind.i64.wrap (IntKind.i64.wrap (0 + 8) - 1)) 15 = true from rfl, inr_of h g]; rfl
    rw [e]
    cases hb : decide (byS 0 r ≥ 0) with
    | true =>
      exact w5 (n := 100) [(23, .br true), (7, .br false), (224, .br true), (2, .ok)] [_, _, decide (byS 0 r ≥ 0) = true, 0 ≤ byS 0 r] (by kernel_rfl) ⟨h, not_dec' g, hb, ge_of hb⟩
    | false =>
      exact w5 (n := 100) [(23, .br true), (7, .br false), (224, .br false), (3, .ok)] [_, _, decide (byS 0 r ≥ 0) = false, 0 ≤ IntKind.i64.wrap (0 - byS 0 r)] (by kernel_rfl) ⟨h, not_dec' g, hb, neg_by (by omega) hr (of_decide_eq_false hb)⟩

theorem w11_p1 (s r : Int) (hr0 : -9223372036854775808 ≤ r ∧ r ≤ 9223372036854775807) : runW Tryd.prog env5 0 (.call 11 [.int .u64 s, .int .i64 1, .int .i64 r]) (base0 4 tabs) = some (.val (.int .u64 (shiftS s 1 r)), base0 4 tabs) := by
  refine three (IntKind.i64.wrap (IntKind.i64.wrap (r + 8) - 1)) 15 (fun h => ?_) (fun h g => ?_) fun h g _ => ?_
  · rw [show shiftS s 1 r = 0 by simp [shiftS, inr_neg h]]
    exact w5 (n := 100) [(23, .br false)] [decide (IntKind.i64.wrap (IntKind.i64.wrap (r + 8) - 1) ≥ 0) = false] (by kernel_rfl) h
  · rw [show shiftS s 1 r = 0 by simp [shiftS, inr_big g]]
    exact w5 (n := 100) [(23, .br true), (7, .br true)] [_, _] (by kernel_rfl) ⟨h, not_dec g⟩
  · have hr := small hr0 h g
    have e : shiftS s 1 r = bif decide (byS 1 r ≥ 0) then shlS (andS s (stayS 1)) (byS 1 r) else shrS (andS s (stayS 1)) (IntKind.i64.wrap (0 - byS 1 r)) := by
      unfold shiftS
      rw [show inr (IntKind.i64.wrap (IntKind.i64.wrap (1 + 8) - 1)) 15 = true from rfl, inr_of h g]; rfl
    rw [e]
    cases hb : decide (byS 1 r ≥ 0) with
    | true =>
      exact w5 (n := 100) [(23, .br true), (7, .br false), (219, .br true), (2, .ok)] [_, _, decide (byS 1 r ≥ 0) = true, 0 ≤ byS 1 r] (by kernel_rfl) ⟨h, not_dec' g, hb, ge_of hb⟩
    | false =>
      exact w5 (n := 100) [(23, .br true), (7, .br false), (219, .br false), (3, .ok)] [_, _, decide (byS 1 r ≥ 0) = false, 0 ≤ IntKind.i64.wrap (0 - byS 1 r)] (by kernel_rfl) ⟨h, not_dec' g, hb, neg_by (by omega) hr (of_decide_eq_false hb)⟩

theorem w11_p2 (s r : Int) (hr0 : -9223372036854775808 ≤ r ∧ r ≤ 9223372036854775807) : runW Tryd.prog env5 0 (.call 11 [.int .u64 s, .int .i64 2, .int .i64 r]) (base0 4 tabs) = some (.val (.int .u64 (shiftS s 2 r)), base0 4 tabs) := by
  refine three (IntKind.i64.wrap (IntKind.i64.wrap (r + 8) - 1)) 15 (fun h => ?_) (fun h g => ?_) fun h g _ => ?_
  · rw [show shiftS s 2 r = 0 by simp [shiftS, inr_neg h]]
    exact w5 (n := 100) [(23, .br false)] [decide (IntKind.i64.wrap (IntKind.i64.wrap (r + 8) - 1) ≥ 0) = false] (by kernel_rfl) h
  · rw [show shiftS s 2 r = 0 by simp [shiftS, inr_big g]]
    exact w5 (n := 100) [(23, .br true), (7, .br true)] [_, _] (by kernel_rfl) ⟨h, not_dec g⟩
  · have hr := small hr0 h g
    have e : shiftS s 2 r = bif decide (byS 2 r ≥ 0) then shlS (andS s (stayS 2)) (byS 2 r) else shrS (andS s (stayS 2)) (IntKind.i64.wrap (0 - byS 2 r)) := by
      unfold shiftS
      rw [show inr (IntKind.i64.wrap (IntKind.i64.wrap (2 + 8) - 1)) 15 = true from rfl, inr_of h g]; rfl
    rw [e]
    cases hb : decide (byS 2 r ≥ 0) with
    | true =>
      exact w5 (n := 100) [(23, .br true), (7, .br false), (214, .br true), (2, .ok)] [_, _, decide (byS 2 r ≥ 0) = true, 0 ≤ byS 2 r] (by kernel_rfl) ⟨h, not_dec' g, hb, ge_of hb⟩
    | false =>
      exact w5 (n := 100) [(23, .br true), (7, .br false), (214, .br false), (3, .ok)] [_, _, decide (byS 2 r ≥ 0) = false, 0 ≤ IntKind.i64.wrap (0 - byS 2 r)] (by kernel_rfl) ⟨h, not_dec' g, hb, neg_by (by omega) hr (of_decide_eq_false hb)⟩

theorem w11_p3 (s r : Int) (hr0 : -9223372036854775808 ≤ r ∧ r ≤ 9223372036854775807) : runW Tryd.prog env5 0 (.call 11 [.int .u64 s, .int .i64 3, .int .i64 r]) (base0 4 tabs) = some (.val (.int .u64 (shiftS s 3 r)), base0 4 tabs) := by
  refine three (IntKind.i64.wrap (IntKind.i64.wrap (r + 8) - 1)) 15 (fun h => ?_) (fun h g => ?_) fun h g _ => ?_
  · rw [show shiftS s 3 r = 0 by simp [shiftS, inr_neg h]]
    exact w5 (n := 100) [(23, .br false)] [decide (IntKind.i64.wrap (IntKind.i64.wrap (r + 8) - 1) ≥ 0) = false] (by kernel_rfl) h
  · rw [show shiftS s 3 r = 0 by simp [shiftS, inr_big g]]
    exact w5 (n := 100) [(23, .br true), (7, .br true)] [_, _] (by kernel_rfl) ⟨h, not_dec g⟩
  · have hr := small hr0 h g
    have e : shiftS s 3 r = bif decide (byS 3 r ≥ 0) then shlS (andS s (stayS 3)) (byS 3 r) else shrS (andS s (stayS 3)) (IntKind.i64.wrap (0 - byS 3 r)) := by
      unfold shiftS
      rw [show inr (IntKind.i64.wrap (IntKind.i64.wrap (3 + 8) - 1)) 15 = true from rfl, inr_of h g]; rfl
    rw [e]
    cases hb : decide (byS 3 r ≥ 0) with
    | true =>
      exact w5 (n := 100) [(23, .br true), (7, .br false), (209, .br true), (2, .ok)] [_, _, decide (byS 3 r ≥ 0) = true, 0 ≤ byS 3 r] (by kernel_rfl) ⟨h, not_dec' g, hb, ge_of hb⟩
    | false =>
      exact w5 (n := 100) [(23, .br true), (7, .br false), (209, .br false), (3, .ok)] [_, _, decide (byS 3 r ≥ 0) = false, 0 ≤ IntKind.i64.wrap (0 - byS 3 r)] (by kernel_rfl) ⟨h, not_dec' g, hb, neg_by (by omega) hr (of_decide_eq_false hb)⟩

theorem w11_p4 (s r : Int) (hr0 : -9223372036854775808 ≤ r ∧ r ≤ 9223372036854775807) : runW Tryd.prog env5 0 (.call 11 [.int .u64 s, .int .i64 4, .int .i64 r]) (base0 4 tabs) = some (.val (.int .u64 (shiftS s 4 r)), base0 4 tabs) := by
  refine three (IntKind.i64.wrap (IntKind.i64.wrap (r + 8) - 1)) 15 (fun h => ?_) (fun h g => ?_) fun h g _ => ?_
  · rw [show shiftS s 4 r = 0 by simp [shiftS, inr_neg h]]
    exact w5 (n := 100) [(23, .br false)] [decide (IntKind.i64.wrap (IntKind.i64.wrap (r + 8) - 1) ≥ 0) = false] (by kernel_rfl) h
  · rw [show shiftS s 4 r = 0 by simp [shiftS, inr_big g]]
    exact w5 (n := 100) [(23, .br true), (7, .br true)] [_, _] (by kernel_rfl) ⟨h, not_dec g⟩
  · have hr := small hr0 h g
    have e : shiftS s 4 r = bif decide (byS 4 r ≥ 0) then shlS (andS s (stayS 4)) (byS 4 r) else shrS (andS s (stayS 4)) (IntKind.i64.wrap (0 - byS 4 r)) := by
      unfold shiftS
      rw [show inr (IntKind.i64.wrap (IntKind.i64.wrap (4 + 8) - 1)) 15 = true from rfl, inr_of h g]; rfl
    rw [e]
    cases hb : decide (byS 4 r ≥ 0) with
    | true =>
      exact w5 (n := 100) [(23, .br true), (7, .br false), (204, .br true), (2, .ok)] [_, _, decide (byS 4 r ≥ 0) = true, 0 ≤ byS 4 r] (by kernel_rfl) ⟨h, not_dec' g, hb, ge_of hb⟩
    | false =>
      exact w5 (n := 100) [(23, .br true), (7, .br false), (204, .br false), (3, .ok)] [_, _, decide (byS 4 r ≥ 0) = false, 0 ≤ IntKind.i64.wrap (0 - byS 4 r)] (by kernel_rfl) ⟨h, not_dec' g, hb, neg_by (by omega) hr (of_decide_eq_false hb)⟩

theorem w11_p5 (s r : Int) (hr0 : -9223372036854775808 ≤ r ∧ r ≤ 9223372036854775807) : runW Tryd.prog env5 0 (.call 11 [.int .u64 s, .int .i64 5, .int .i64 r]) (base0 4 tabs) = some (.val (.int .u64 (shiftS s 5 r)), base0 4 tabs) := by
  refine three (IntKind.i64.wrap (IntKind.i64.wrap (r + 8) - 1)) 15 (fun h => ?_) (fun h g => ?_) fun h g _ => ?_
  · rw [show shiftS s 5 r = 0 by simp [shiftS, inr_neg h]]
    exact w5 (n := 100) [(23, .br false)] [decide (IntKind.i64.wrap (IntKind.i64.wrap (r + 8) - 1) ≥ 0) = false] (by kernel_rfl) h
  · rw [show shiftS s 5 r = 0 by simp [shiftS, inr_big g]]
    exact w5 (n := 100) [(23, .br true), (7, .br true)] [_, _] (by kernel_rfl) ⟨h, not_dec g⟩
  · have hr := small hr0 h g
    have e : shiftS s 5 r = bif decide (byS 5 r ≥ 0) then shlS (andS s (stayS 5)) (byS 5 r) else shrS (andS s (stayS 5)) (IntKind.i64.wrap (0 - byS 5 r)) := by
      unfold shiftS
      rw [show inr (IntKind.i64.wrap (IntKind.i64.wrap (5 + 8) - 1)) 15 = true from rfl, inr_of h g]; rfl
    rw [e]
    cases hb : decide (byS 5 r ≥ 0) with
    | true =>
      exact w5 (n := 100) [(23, .br true), (7, .br false), (199, .br true), (2, .ok)] [_, _, decide (byS 5 r ≥ 0) = true, 0 ≤ byS 5 r] (by kernel_rfl) ⟨h, not_dec' g, hb, ge_of hb⟩
    | false =>
      exact w5 (n := 100) [(23, .br true), (7, .br false), (199, .br false), (3, .ok)] [_, _, decide (byS 5 r ≥ 0) = false, 0 ≤ IntKind.i64.wrap (0 - byS 5 r)] (by kernel_rfl) ⟨h, not_dec' g, hb, neg_by (by omega) hr (of_decide_eq_false hb)⟩

theorem w11_p6 (s r : Int) (hr0 : -9223372036854775808 ≤ r ∧ r ≤ 9223372036854775807) : runW Tryd.prog env5 0 (.call 11 [.int .u64 s, .int .i64 6, .int .i64 r]) (base0 4 tabs) = some (.val (.int .u64 (shiftS s 6 r)), base0 4 tabs) := by
  refine three (IntKind.i64.wrap (IntKind.i64.wrap (r + 8) - 1)) 15 (fun h => ?_) (fun h g => ?_) fun h g _ => ?_
  · rw [show shiftS s 6 r = 0 by simp [shiftS, inr_neg h]]
    exact w5 (n := 100) [(23, .br false)] [decide (IntKind.i64.wrap (IntKind.i64.wrap (r + 8) - 1) ≥ 0) = false] (by kernel_rfl) h
  · rw [show shiftS s 6 r = 0 by simp [shiftS, inr_big g]]
    exact w5 (n := 100) [(23, .br true), (7, .br true)] [_, _] (by kernel_rfl) ⟨h, not_dec g⟩
  · have hr := small hr0 h g
    have e : shiftS s 6 r = bif decide (byS 6 r ≥ 0) then shlS (andS s (stayS 6)) (byS 6 r) else shrS (andS s (stayS 6)) (IntKind.i64.wrap (0 - byS 6 r)) := by
      unfold shiftS
      rw [show inr (IntKind.i64.wrap (IntKind.i64.wrap (6 + 8) - 1)) 15 = true from rfl, inr_of h g]; rfl
    rw [e]
    cases hb : decide (byS 6 r ≥ 0) with
    | true =>
      exact w5 (n := 100) [(23, .br true), (7, .br false), (194, .br true), (2, .ok)] [_, _, decide (byS 6 r ≥ 0) = true, 0 ≤ byS 6 r] (by kernel_rfl) ⟨h, not_dec' g, hb, ge_of hb⟩
    | false =>
      exact w5 (n := 100) [(23, .br true), (7, .br false), (194, .br false), (3, .ok)] [_, _, decide (byS 6 r ≥ 0) = false, 0 ≤ IntKind.i64.wrap (0 - byS 6 r)] (by kernel_rfl) ⟨h, not_dec' g, hb, neg_by (by omega) hr (of_decide_eq_false hb)⟩

theorem w11_p7 (s r : Int) (hr0 : -9223372036854775808 ≤ r ∧ r ≤ 9223372036854775807) : runW Tryd.prog env5 0 (.call 11 [.int .u64 s, .int .i64 7, .int .i64 r]) (base0 4 tabs) = some (.val (.int .u64 (shiftS s 7 r)), base0 4 tabs) := by
  refine three (IntKind.i64.wrap (IntKind.i64.wrap (r + 8) - 1)) 15 (fun h => ?_) (fun h g => ?_) fun h g _ => ?_
  · rw [show shiftS s 7 r = 0 by simp [shiftS, inr_neg h]]
    exact w5 (n := 100) [(23, .br false)] [decide (IntKind.i64.wrap (IntKind.i64.wrap (r + 8) - 1) ≥ 0) = false] (by kernel_rfl) h
  · rw [show shiftS s 7 r = 0 by simp [shiftS, inr_big g]]
    exact w5 (n := 100) [(23, .br true), (7, .br true)] [_, _] (by kernel_rfl) ⟨h, not_dec g⟩
  · have hr := small hr0 h g
    have e : shiftS s 7 r = bif decide (byS 7 r ≥ 0) then shlS (andS s (stayS 7)) (byS 7 r) else shrS (andS s (stayS 7)) (IntKind.i64.wrap (0 - byS 7 r)) := by
      unfold shiftS
      rw [show inr (IntKind.i64.wrap (IntKind.i64.wrap (7 + 8) - 1)) 15 = true from rfl, inr_of h g]; rfl
    rw [e]
    cases hb : decide (byS 7 r ≥ 0) with
    | true =>
      exact w5 (n := 100) [(23, .br true), (7, .br false), (189, .br true), (2, .ok)] [_, _, decide (byS 7 r ≥ 0) = true, 0 ≤ byS 7 r] (by kernel_rfl) ⟨h, not_dec' g, hb, ge_of hb⟩
    | false =>
      exact w5 (n := 100) [(23, .br true), (7, .br false), (189, .br false), (3, .ok)] [_, _, decide (byS 7 r ≥ 0) = false, 0 ≤ IntKind.i64.wrap (0 - byS 7 r)] (by kernel_rfl) ⟨h, not_dec' g, hb, neg_by (by omega) hr (of_decide_eq_false hb)⟩

end Go.Proofs.YtakchekhpeokjaaDoor