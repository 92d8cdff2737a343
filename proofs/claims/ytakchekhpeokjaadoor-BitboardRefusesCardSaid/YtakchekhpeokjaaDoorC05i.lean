/-
  BITBOARD (chapter 05): BitboardRefuses is true.
-/
import Derived.Test.YtakchekhpeokjaaDoorC05h
namespace Go.Proofs.YtakchekhpeokjaaDoor
open Go.Va

theorem out64 (s n : Int) (h : inr n 64 = false) : ((withS s n != 0) = false) ∧ ((okOr (inr n 64) != 3) = false) ∧ ((wioS s n != 0) = false) ∧ hasS s n = false := by
  refine ⟨by simp [withS, h], by rw [h]; rfl, by simp [wioS, h], by simp [hasS, h]⟩
theorem out8 (n : Int) (h : inr n 8 = false) : ((fileS n != 0) = false) ∧ ((okOr (inr n 8) != 3) = false) ∧ ((rankS n != 0) = false) := by
  refine ⟨by simp [fileS, h], by rw [h]; rfl, by simp [rankS, h]⟩

theorem law7 (s a : Int) (h0 : 0 ≤ a) (h1 : a ≤ 65535) : Pure Tryd.prog 4 tabs 7 [.int .u64 s, .int .u16 a] (.bool true) := by
  have w0 : IntKind.i64.wrap a = a := wrap64 (by omega) (by omega)
  have w1 : IntKind.i64.wrap (-1 - IntKind.i64.wrap a) = -1 - a := by rw [w0]; exact wrap64 (by omega) (by omega)
  have w2 : IntKind.i64.wrap (64 + IntKind.i64.wrap a) = 64 + a := by rw [w0]; exact wrap64 (by omega) (by omega)
  have w3 : IntKind.i64.wrap (8 + IntKind.i64.wrap a) = 8 + a := by rw [w0]; exact wrap64 (by omega) (by omega)
  have w4 : IntKind.i64.wrap (-8 - IntKind.i64.wrap a) = -8 - a := by rw [w0]; exact wrap64 (by omega) (by omega)
  have n1 : decide (IntKind.i64.wrap (-1 - IntKind.i64.wrap a) ≥ 0) = false := decide_eq_false (by rw [w1]; omega)
  have n2 : decide (IntKind.i64.wrap (64 + IntKind.i64.wrap a) ≥ 0) = true := decide_eq_true (by rw [w2]; omega)
  have n2' : decide (IntKind.i64.wrap (64 + IntKind.i64.wrap a) < 64) = false := decide_eq_false (by rw [w2]; omega)
  have n3' : decide (IntKind.i64.wrap (8 + IntKind.i64.wrap a) < 8) = false := decide_eq_false (by rw [w3]; omega)
  obtain ⟨p1, p2, p3, p4⟩ := out64 s (IntKind.i64.wrap (-1 - IntKind.i64.wrap a)) (inr_neg n1)
  obtain ⟨q1, q2, q3, q4⟩ := out64 s (IntKind.i64.wrap (64 + IntKind.i64.wrap a)) (inr_big n2')
  obtain ⟨r1, r2, r3⟩ := out8 (IntKind.i64.wrap (-1 - IntKind.i64.wrap a)) (inr_neg n1)
  obtain ⟨t1, t2, t3⟩ := out8 (IntKind.i64.wrap (8 + IntKind.i64.wrap a)) (inr_big n3')
  have w5 : IntKind.i64.wrap (IntKind.i64.wrap (IntKind.i64.wrap (8 + IntKind.i64.wrap a) + 8) - 1) = a + 15 := by
    rw [w3, wrap64 (n := 8 + a + 8) (by omega) (by omega), wrap64 (by omega) (by omega)]; omega
  have w6 : IntKind.i64.wrap (IntKind.i64.wrap (IntKind.i64.wrap (-8 - IntKind.i64.wrap a) + 8) - 1) = -1 - a := by
    rw [w4, wrap64 (n := -8 - a + 8) (by omega) (by omega), wrap64 (by omega) (by omega)]; omega
  have s1 : decide (IntKind.i64.wrap (IntKind.i64.wrap (IntKind.i64.wrap (8 + IntKind.i64.wrap a) + 8) - 1) ≥ 0) = true := decide_eq_true (by rw [w5]; omega)
  have s2 : (!decide (IntKind.i64.wrap (IntKind.i64.wrap (IntKind.i64.wrap (8 + IntKind.i64.wrap a) + 8) - 1) < 15)) = true := not_dec (decide_eq_false (by rw [w5]; omega))
  have s3 : decide (IntKind.i64.wrap (IntKind.i64.wrap (IntKind.i64.wrap (-8 - IntKind.i64.wrap a) + 8) - 1) ≥ 0) = false := decide_eq_false (by rw [w6]; omega)
  exact pure5 (n := 400) [(85, .br false), (13, .br false), (3, .br false), (3, .br false), (3, .br false), (12, .br false),
      (74, .br true), (6, .br true), (9, .br false), (3, .br false), (3, .br false), (3, .br false), (12, .br false),
      (265, .br false), (3, .br false), (3, .br false), (3, .br false), (24, .br false), (3, .br false), (3, .br false), (3, .br false),
      (91, .br true), (6, .br true), (17, .br false), (37, .br true), (7, .br true)]
    [_, _, _, _, _, _, _, _, _, _, _, _, _, _, _, _, _, _, _, _, _, _, _, _, _, _]
    (by kernel_rfl) ⟨n1, p1, p2, p3, p2, p4, n2, not_dec n2', q1, q2, q3, q2, q4, r1, r2, r3, r2, t1, t2, t3, t2, s1, s2, s3, s1, s2⟩ rfl rfl

theorem law7' (s a : Int) (_ : IntKind.u64.min ≤ s) (_ : s ≤ IntKind.u64.max) (h0 : IntKind.u16.min ≤ a) (h1 : a ≤ IntKind.u16.max) : Pure Tryd.prog 4 tabs 7 [.int .u64 s, .int .u16 a] (.bool true) := law7 s a h0 h1

end Go.Proofs.YtakchekhpeokjaaDoor
