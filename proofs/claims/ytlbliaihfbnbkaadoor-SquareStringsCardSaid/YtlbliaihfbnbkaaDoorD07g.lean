/-
  SQUARE (chapter 07): what the small functions answer at any numbers.
-/
import Derived.Test.YtlbliaihfbnbkaaDoorD07f
namespace Go.Proofs.YtlbliaihfbnbkaaDoor
open Go.Va

theorem inB_true {s : Int} (h0 : 0 ≤ s) (h1 : s < 64) : inB s = true := by simp [inB, h0, h1]
theorem inB_neg {s : Int} (h0 : ¬ 0 ≤ s) : inB s = false := by simp [inB]; omega
theorem inB_big {s : Int} (h1 : ¬ s < 64) : inB s = false := by simp [inB]; omega

/-- A function of one number, by three cases. -/
theorem three {f : Nat} {v : Int → Value} (hin : ∀ s : Int, 0 ≤ s → s < 64 → Pure Tryd.prog 3 [] f [.int .i64 s] (v s))
    (hneg : ∀ s : Int, decide (s ≥ 0) = false → Pure Tryd.prog 3 [] f [.int .i64 s] (v s))
    (hbig : ∀ s : Int, decide (s ≥ 0) = true → (!decide (s < 64)) = true → Pure Tryd.prog 3 [] f [.int .i64 s] (v s)) (s : Int) : Pure Tryd.prog 3 [] f [.int .i64 s] (v s) := by
  by_cases h0 : 0 ≤ s
  · by_cases h1 : s < 64
    · exact hin s h0 h1
    · exact hbig s (decide_eq_true h0) (by rw [decide_eq_false h1]; rfl)
  · exact hneg s (decide_eq_false h0)

theorem nameV_out {s : Int} (h : inB s = false) : nameV s = .tuple #[.string ⟨#[]⟩, .int .i64 3] := by
  simp [nameV, nameS, okOr, h]
theorem flipV_out {s : Int} (h : inB s = false) : flipV s = .tuple #[.int .i64 0, .int .i64 3] := by
  simp [flipV, flipS, okOr, h]
theorem neg_of {s : Int} (h : decide (s ≥ 0) = false) : inB s = false := inB_neg (of_decide_eq_false h)
theorem big_of {s : Int} (h : (!decide (s < 64)) = true) : inB s = false := inB_big (by simpa using h)

theorem p10 (s : Int) : Pure Tryd.prog 3 [] 10 [.int .i64 s] (nameV s) := by
  refine three (fun s h0 h1 => at07 at10 (fun _ => rfl) h0 h1) (fun s h => ?_) (fun s h h' => ?_) s
  · rw [nameV_out (neg_of h)]
    exact pure07 (n := 1000) [(7, .br false)] [decide (s ≥ 0) = false] (by kernel_rfl) h rfl rfl
  · rw [nameV_out (big_of h')]
    exact pure07 (n := 1000) [(7, .br true), (5, .br true)] [decide (s ≥ 0) = true, (!decide (s < 64)) = true] (by kernel_rfl) ⟨h, h'⟩ rfl rfl

theorem p11 (s : Int) : Pure Tryd.prog 3 [] 11 [.int .i64 s] (nameV s) := by
  refine three (fun s h0 h1 => at07 at11 (fun _ => rfl) h0 h1) (fun s h => ?_) (fun s h h' => ?_) s
  · rw [nameV_out (neg_of h)]
    exact pure07 (n := 1000) [(7, .br false)] [decide (s ≥ 0) = false] (by kernel_rfl) h rfl rfl
  · rw [nameV_out (big_of h')]
    exact pure07 (n := 1000) [(7, .br true), (5, .br true)] [decide (s ≥ 0) = true, (!decide (s < 64)) = true] (by kernel_rfl) ⟨h, h'⟩ rfl rfl

theorem p14 (s : Int) : Pure Tryd.prog 3 [] 14 [.int .i64 s] (flipV s) := by
  refine three (fun s h0 h1 => at07 at14 (fun _ => rfl) h0 h1) (fun s h => ?_) (fun s h h' => ?_) s
  · rw [flipV_out (neg_of h)]
    exact pure07 (n := 1000) [(7, .br false)] [decide (s ≥ 0) = false] (by kernel_rfl) h rfl rfl
  · rw [flipV_out (big_of h')]
    exact pure07 (n := 1000) [(7, .br true), (5, .br true)] [decide (s ≥ 0) = true, (!decide (s < 64)) = true] (by kernel_rfl) ⟨h, h'⟩ rfl rfl

theorem p15 (s : Int) : Pure Tryd.prog 3 [] 15 [.int .i64 s] (flipV s) := by
  refine three (fun s h0 h1 => at07 at15 (fun _ => rfl) h0 h1) (fun s h => ?_) (fun s h h' => ?_) s
  · rw [flipV_out (neg_of h)]
    exact pure07 (n := 1000) [(7, .br false)] [decide (s ≥ 0) = false] (by kernel_rfl) h rfl rfl
  · rw [flipV_out (big_of h')]
    exact pure07 (n := 1000) [(7, .br true), (5, .br true)] [decide (s ≥ 0) = true, (!decide (s < 64)) = true] (by kernel_rfl) ⟨h, h'⟩ rfl rfl

theorem p16 (s : Int) : Pure Tryd.prog 3 [] 16 [.int .i64 s] (.int .i64 (fileS s)) := by
  refine three (v := fun s => .int .i64 (fileS s)) (fun s h0 h1 => at07 at16 (fun _ => rfl) h0 h1) (fun s h => ?_) (fun s h h' => ?_) s
  · rw [show fileS s = -1 by simp [fileS, neg_of h]]
    exact pure07 (n := 1000) [(6, .br false)] [decide (s ≥ 0) = false] (by kernel_rfl) h rfl rfl
  · rw [show fileS s = -1 by simp [fileS, big_of h']]
    exact pure07 (n := 1000) [(6, .br true), (5, .br true)] [decide (s ≥ 0) = true, (!decide (s < 64)) = true] (by kernel_rfl) ⟨h, h'⟩ rfl rfl

theorem p17 (s : Int) : Pure Tryd.prog 3 [] 17 [.int .i64 s] (.int .i64 (fileS s)) := by
  refine three (v := fun s => .int .i64 (fileS s)) (fun s h0 h1 => at07 at17 (fun _ => rfl) h0 h1) (fun s h => ?_) (fun s h h' => ?_) s
  · rw [show fileS s = -1 by simp [fileS, neg_of h]]
    exact pure07 (n := 1000) [(6, .br false)] [decide (s ≥ 0) = false] (by kernel_rfl) h rfl rfl
  · rw [show fileS s = -1 by simp [fileS, big_of h']]
    exact pure07 (n := 1000) [(6, .br true), (5, .br true)] [decide (s ≥ 0) = true, (!decide (s < 64)) = true] (by kernel_rfl) ⟨h, h'⟩ rfl rfl

theorem p18 (s : Int) : Pure Tryd.prog 3 [] 18 [.int .i64 s] (.int .i64 (rankS s)) := by
  refine three (v := fun s => .int .i64 (rankS s)) (fun s h0 h1 => at07 at18 (fun _ => rfl) h0 h1) (fun s h => ?_) (fun s h h' => ?_) s
  · rw [show rankS s = -1 by simp [rankS, neg_of h]]
    exact pure07 (n := 1000) [(6, .br false)] [decide (s ≥ 0) = false] (by kernel_rfl) h rfl rfl
  · rw [show rankS s = -1 by simp [rankS, big_of h']]
    exact pure07 (n := 1000) [(6, .br true), (5, .br true)] [decide (s ≥ 0) = true, (!decide (s < 64)) = true] (by kernel_rfl) ⟨h, h'⟩ rfl rfl

theorem p19 (s : Int) : Pure Tryd.prog 3 [] 19 [.int .i64 s] (.int .i64 (rankS s)) := by
  refine three (v := fun s => .int .i64 (rankS s)) (fun s h0 h1 => at07 at19 (fun _ => rfl) h0 h1) (fun s h => ?_) (fun s h h' => ?_) s
  · rw [show rankS s = -1 by simp [rankS, neg_of h]]
    exact pure07 (n := 1000) [(6, .br false)] [decide (s ≥ 0) = false] (by kernel_rfl) h rfl rfl
  · rw [show rankS s = -1 by simp [rankS, big_of h']]
    exact pure07 (n := 1000) [(6, .br true), (5, .br true)] [decide (s ≥ 0) = true, (!decide (s < 64)) = true] (by kernel_rfl) ⟨h, h'⟩ rfl rfl

theorem p20 (s : Int) : Pure Tryd.prog 3 [] 20 [.int .i64 s] (.bool (lightS s)) := by
  refine three (v := fun s => .bool (lightS s)) (fun s h0 h1 => at07 at20 (fun _ => rfl) h0 h1) (fun s h => ?_) (fun s h h' => ?_) s
  · rw [show lightS s = false by simp [lightS, neg_of h]]
    exact pure07 (n := 1000) [(6, .br false)] [decide (s ≥ 0) = false] (by kernel_rfl) h rfl rfl
  · rw [show lightS s = false by simp [lightS, big_of h']]
    exact pure07 (n := 1000) [(6, .br true), (4, .br false)] [decide (s ≥ 0) = true, decide (s < 64) = false] (by kernel_rfl) ⟨h, (show decide (s < 64) = false by simpa using h')⟩ rfl rfl

theorem p21 (s : Int) : Pure Tryd.prog 3 [] 21 [.int .i64 s] (.bool (lightS s)) := by
  refine three (v := fun s => .bool (lightS s)) (fun s h0 h1 => at07 at21 (fun _ => rfl) h0 h1) (fun s h => ?_) (fun s h h' => ?_) s
  · rw [show lightS s = false by simp [lightS, neg_of h]]
    exact pure07 (n := 1000) [(6, .br false)] [decide (s ≥ 0) = false] (by kernel_rfl) h rfl rfl
  · rw [show lightS s = false by simp [lightS, big_of h']]
    exact pure07 (n := 1000) [(6, .br true), (4, .br false)] [decide (s ≥ 0) = true, decide (s < 64) = false] (by kernel_rfl) ⟨h, (show decide (s < 64) = false by simpa using h')⟩ rfl rfl

theorem atB_true {f r : Int} (h : 0 ≤ f ∧ f < 8 ∧ 0 ≤ r ∧ r < 8) : atB f r = true := by simp [atB, h.1, h.2.1, h.2.2.1, h.2.2.2]
theorem atV_out {f r : Int} (h : ¬ (0 ≤ f ∧ f < 8 ∧ 0 ≤ r ∧ r < 8)) : atV f r = .tuple #[.int .i64 0, .int .i64 3] := by
  have : atB f r = false := by
    cases hb : atB f r with
    | false => rfl
    | true => simp [atB] at hb; omega
  simp [atV, atS, okOr, this]

theorem p12_13 {F : Nat}
    (k1 : ∀ s r : Int, decide (s < 0) = true → Pure Tryd.prog 3 [] F [.int .i64 s, .int .i64 r] (.tuple #[.int .i64 0, .int .i64 3]))
    (k2 : ∀ s r : Int, decide (s < 0) = false → decide (s > 7) = true → Pure Tryd.prog 3 [] F [.int .i64 s, .int .i64 r] (.tuple #[.int .i64 0, .int .i64 3]))
    (k3 : ∀ s r : Int, decide (s < 0) = false → decide (s > 7) = false → decide (r < 0) = true → Pure Tryd.prog 3 [] F [.int .i64 s, .int .i64 r] (.tuple #[.int .i64 0, .int .i64 3]))
    (k4 : ∀ s r : Int, decide (s < 0) = false → decide (s > 7) = false → decide (r < 0) = false → decide (r > 7) = true → Pure Tryd.prog 3 [] F [.int .i64 s, .int .i64 r] (.tuple #[.int .i64 0, .int .i64 3]))
    (k5 : ∀ s r : Int, decide (s < 0) = false → decide (s > 7) = false → decide (r < 0) = false → decide (r > 7) = false → Pure Tryd.prog 3 [] F [.int .i64 s, .int .i64 r] (.tuple #[.int .i64 (IntKind.i64.wrap (IntKind.i64.wrap (8 * r) + s)), .int .i64 0]))
    (s r : Int) : Pure Tryd.prog 3 [] F [.int .i64 s, .int .i64 r] (atV s r) := by
  by_cases h1 : s < 0
  · rw [atV_out (by omega)]; exact k1 s r (decide_eq_true h1)
  · by_cases h2 : s > 7
    · rw [atV_out (by omega)]; exact k2 s r (decide_eq_false h1) (decide_eq_true h2)
    · by_cases h3 : r < 0
      · rw [atV_out (by omega)]; exact k3 s r (decide_eq_false h1) (decide_eq_false h2) (decide_eq_true h3)
      · by_cases h4 : r > 7
        · rw [atV_out (by omega)]; exact k4 s r (decide_eq_false h1) (decide_eq_false h2) (decide_eq_false h3) (decide_eq_true h4)
        · have := k5 s r (decide_eq_false h1) (decide_eq_false h2) (decide_eq_false h3) (decide_eq_false h4)
          rw [wrap64 (n := 8 * r) (by omega) (by omega), wrap64 (by omega) (by omega)] at this
          have e : atB s r = true := atB_true (by omega)
          rw [show atV s r = .tuple #[.int .i64 (8 * r + s), .int .i64 0] by simp [atV, atS, okOr, e]]
          exact this

theorem p12 (s r : Int) : Pure Tryd.prog 3 [] 12 [.int .i64 s, .int .i64 r] (atV s r) :=
  p12_13
    (fun s r h1 => pure07 (n := 1000) [(4, .br true)] [decide (s < 0) = true] (by kernel_rfl) h1 rfl rfl)
    (fun s r h1 h2 => pure07 (n := 1000) [(4, .br false), (3, .br true)] [decide (s < 0) = false, decide (s > 7) = true] (by kernel_rfl) ⟨h1, h2⟩ rfl rfl)
    (fun s r h1 h2 h3 => pure07 (n := 1000) [(4, .br false), (3, .br false), (3, .br true)] [decide (s < 0) = false, decide (s > 7) = false, decide (r < 0) = true] (by kernel_rfl) ⟨h1, h2, h3⟩ rfl rfl)
    (fun s r h1 h2 h3 h4 => pure07 (n := 1000) [(4, .br false), (3, .br false), (3, .br false), (3, .br true)] [decide (s < 0) = false, decide (s > 7) = false, decide (r < 0) = false, decide (r > 7) = true] (by kernel_rfl) ⟨h1, h2, h3, h4⟩ rfl rfl)
    (fun s r h1 h2 h3 h4 => pure07 (n := 1000) [(4, .br false), (3, .br false), (3, .br false), (3, .br false)] [decide (s < 0) = false, decide (s > 7) = false, decide (r < 0) = false, decide (r > 7) = false] (by kernel_rfl) ⟨h1, h2, h3, h4⟩ rfl rfl) s r
theorem p13 (s r : Int) : Pure Tryd.prog 3 [] 13 [.int .i64 s, .int .i64 r] (atV s r) :=
  p12_13
    (fun s r h1 => pure07 (n := 1000) [(4, .br true)] [decide (s < 0) = true] (by kernel_rfl) h1 rfl rfl)
    (fun s r h1 h2 => pure07 (n := 1000) [(4, .br false), (3, .br true)] [decide (s < 0) = false, decide (s > 7) = true] (by kernel_rfl) ⟨h1, h2⟩ rfl rfl)
    (fun s r h1 h2 h3 => pure07 (n := 1000) [(4, .br false), (3, .br false), (3, .br true)] [decide (s < 0) = false, decide (s > 7) = false, decide (r < 0) = true] (by kernel_rfl) ⟨h1, h2, h3⟩ rfl rfl)
    (fun s r h1 h2 h3 h4 => pure07 (n := 1000) [(4, .br false), (3, .br false), (3, .br false), (3, .br true)] [decide (s < 0) = false, decide (s > 7) = false, decide (r < 0) = false, decide (r > 7) = true] (by kernel_rfl) ⟨h1, h2, h3, h4⟩ rfl rfl)
    (fun s r h1 h2 h3 h4 => pure07 (n := 1000) [(4, .br false), (3, .br false), (3, .br false), (3, .br false)] [decide (s < 0) = false, decide (s > 7) = false, decide (r < 0) = false, decide (r > 7) = false] (by kernel_rfl) ⟨h1, h2, h3, h4⟩ rfl rfl) s r

end Go.Proofs.YtlbliaihfbnbkaaDoor
