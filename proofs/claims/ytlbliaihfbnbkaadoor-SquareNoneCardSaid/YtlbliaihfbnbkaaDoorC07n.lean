/-
  SQUARE (chapter 07): SquareNone is true.
-/
import Derived.Test.YtlbliaihfbnbkaaDoorC07k
namespace Go.Proofs.YtlbliaihfbnbkaaDoor
open Go.Va

theorem out_facts {s : Int} (h : inB s = false) :
    ((!((nameS s).toList == (⟨#[]⟩ : ByteArray).toList)) = false) ∧ ((okOr (inB s) != 3) = false) ∧ ((flipS s != 0) = false) ∧ ((fileS s != -1) = false) ∧ ((rankS s != -1) = false) ∧ lightS s = false := by
  have e1 : nameS s = ⟨#[]⟩ := by simp [nameS, h]
  refine ⟨by rw [e1, beq_self_eq_true]; rfl, by rw [h]; rfl, ?_, ?_, ?_, ?_⟩
  · simp [flipS, h]
  · simp [fileS, h]
  · simp [rankS, h]
  · simp [lightS, h]
theorem out_at {f r : Int} (h : ¬ (0 ≤ f ∧ f < 8 ∧ 0 ≤ r ∧ r < 8)) : ((atS f r != 0) = false) ∧ ((okOr (atB f r) != 3) = false) := by
  have : atB f r = false := by
    cases hb : atB f r with
    | false => rfl
    | true => simp [atB] at hb; omega
  exact ⟨by simp [atS, this], by rw [this]; rfl⟩

theorem law8 (a : Int) (h0 : 0 ≤ a) (h1 : a ≤ 4294967295) : Pure Tryd.prog 3 [] 8 [.int .u32 a] (.bool true) := by
  have w0 : IntKind.i64.wrap a = a := wrap64 (by omega) (by omega)
  have w1 : IntKind.i64.wrap (64 + IntKind.i64.wrap a) = 64 + a := by rw [w0]; exact wrap64 (by omega) (by omega)
  have w2 : IntKind.i64.wrap (-1 - IntKind.i64.wrap a) = -1 - a := by rw [w0]; exact wrap64 (by omega) (by omega)
  have w3 : IntKind.i64.wrap (8 + IntKind.i64.wrap a) = 8 + a := by rw [w0]; exact wrap64 (by omega) (by omega)
  obtain ⟨p1, p2, p3, p4, p5, p6⟩ := out_facts (s := IntKind.i64.wrap (64 + IntKind.i64.wrap a)) (by rw [w1]; exact inB_big (by omega))
  obtain ⟨q1, q2, q3, q4, q5, q6⟩ := out_facts (s := IntKind.i64.wrap (-1 - IntKind.i64.wrap a)) (by rw [w2]; exact inB_neg (by omega))
  obtain ⟨a1, a2⟩ := out_at (f := IntKind.i64.wrap (8 + IntKind.i64.wrap a)) (r := 0) (by rw [w3]; omega)
  obtain ⟨a3, a4⟩ := out_at (f := IntKind.i64.wrap (-1 - IntKind.i64.wrap a)) (r := 3) (by rw [w2]; omega)
  obtain ⟨a5, a6⟩ := out_at (f := 0) (r := IntKind.i64.wrap (8 + IntKind.i64.wrap a)) (by rw [w3]; omega)
  obtain ⟨a7, a8⟩ := out_at (f := 7) (r := IntKind.i64.wrap (-1 - IntKind.i64.wrap a)) (by rw [w2]; omega)
  exact pureB (n := 200) [(32, .br false), (3, .br false), (3, .br false), (3, .br false), (4, .br false), (4, .br false), (3, .br false), (24, .br false), (3, .br false), (3, .br false), (3, .br false), (4, .br false), (4, .br false), (3, .br false),
      (146, .br false), (3, .br false), (21, .br false), (3, .br false), (21, .br false), (3, .br false), (21, .br false), (3, .br false)]
    [_, _, _, _, _, _, _, _, _, _, _, _, _, _, _, _, _, _, _, _, _, _] (by kernel_rfl) ⟨p1, p2, p3, p2, p4, p5, p6, q1, q2, q3, q2, q4, q5, q6, a1, a2, a3, a4, a5, a6, a7, a8⟩ rfl rfl

theorem law8' (a : Int) (h0 : IntKind.u32.min ≤ a) (h1 : a ≤ IntKind.u32.max) : Pure Tryd.prog 3 [] 8 [.int .u32 a] (.bool true) := law8 a h0 h1

end Go.Proofs.YtlbliaihfbnbkaaDoor
