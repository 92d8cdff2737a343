/-
  SQUARE (chapter 07): SquareNumbers and SquareFlips are true.
-/
import Derived.Test.YtlbliaihfbnbkaaDoorC07k
namespace Go.Proofs.YtlbliaihfbnbkaaDoor
open Go.Va

theorem law3 (s f r : Int) : Pure Tryd.prog 3 [] 3 [.int .i64 s, .int .i64 f, .int .i64 r] (.bool true) :=
  pureB (n := 100) [(48, .br true), (4, .br true), (4, .br true), (4, .br true), (4, .br true), (4, .br true), (6, .br true), (6, .br true), (6, .br true)]
    [((nameS s).toList == (nameS s).toList) = true, (okOr (inB s) == okOr (inB s)) = true, (atS f r == atS f r) = true, (okOr (atB f r) == okOr (atB f r)) = true, (flipS s == flipS s) = true, (okOr (inB s) == okOr (inB s)) = true,
      (fileS s == fileS s) = true, (rankS s == rankS s) = true, (lightS s == lightS s) = true] (by kernel_rfl)
    ⟨beq_self_eq_true _, beq_self_eq_true _, beq_self_eq_true _, beq_self_eq_true _, beq_self_eq_true _, beq_self_eq_true _, beq_self_eq_true _, beq_self_eq_true _, beq_self_eq_true _⟩ rfl rfl

/-- What is said of a flipped square, of one square. -/
def flipSaid (s : Int) : Bool :=
  (okOr (inB s) != 0) == false && (okOr (inB (flipS s)) != 0) == false && (flipS (flipS s) != s) == false && (fileS (flipS s) != fileS s) == false &&
    (IntKind.i64.wrap (rankS (flipS s) + rankS s) != 7) == false && (lightS (flipS s) == lightS s) == false &&
    (!decide (s.tmod 8 < 7) || (lightS (IntKind.i64.wrap (s + 1)) == lightS s) == false) && (!decide (s < 56) || (lightS (IntKind.i64.wrap (s + 8)) == lightS s) == false)
theorem flipSaid_all : ((List.range 64).all fun a => flipSaid a) = true := by decide +kernel

theorem law7 (a : Int) (h0 : 0 ≤ a) : Pure Tryd.prog 3 [] 7 [.int .u8 a] (.bool true) := by
  obtain ⟨k, hk, hs⟩ : ∃ k : Nat, k < 64 ∧ IntKind.i64.wrap (a.tmod 64) = k := by
    have : a.tmod 64 = a % 64 := Int.tmod_eq_emod_of_nonneg h0
    refine ⟨(a % 64).toNat, by omega, ?_⟩
    rw [this, wrap64 (by omega) (by omega)]
    omega
  have hf : flipSaid k = true := List.all_eq_true.1 flipSaid_all k (List.mem_range.2 hk)
  rw [← hs] at hf
  simp only [flipSaid, Bool.and_eq_true, beq_iff_eq] at hf
  obtain ⟨⟨⟨⟨⟨⟨⟨f1, f2⟩, f3⟩, f4⟩, f5⟩, f6⟩, f7⟩, f8⟩ := hf
  cases d7 : decide ((IntKind.i64.wrap (a.tmod 64)).tmod 8 < 7) with
  | true =>
    rw [d7] at f7
    have f7' : (lightS (IntKind.i64.wrap (IntKind.i64.wrap (a.tmod 64) + 1)) == lightS (IntKind.i64.wrap (a.tmod 64))) = false := by simpa using f7
    cases d8 : decide (IntKind.i64.wrap (a.tmod 64) < 56) with
    | true =>
      rw [d8] at f8
      have f8' : (lightS (IntKind.i64.wrap (IntKind.i64.wrap (a.tmod 64) + 8)) == lightS (IntKind.i64.wrap (a.tmod 64))) = false := by simpa using f8
      exact pureB (n := 100) [(21, .br false), (3, .br false), (4, .br false), (6, .br false), (7, .br false), (6, .br false), (3, .br true), (7, .br false), (2, .br true), (8, .br false)]
        [_, _, _, _, _, _, _, _, _, _] (by kernel_rfl) ⟨f1, f2, f3, f4, f5, f6, d7, f7', d8, f8'⟩ rfl rfl
    | false =>
      exact pureB (n := 100) [(21, .br false), (3, .br false), (4, .br false), (6, .br false), (7, .br false), (6, .br false), (3, .br true), (7, .br false), (2, .br false)]
        [_, _, _, _, _, _, _, _, _] (by kernel_rfl) ⟨f1, f2, f3, f4, f5, f6, d7, f7', d8⟩ rfl rfl
  | false =>
    cases d8 : decide (IntKind.i64.wrap (a.tmod 64) < 56) with
    | true =>
      rw [d8] at f8
      have f8' : (lightS (IntKind.i64.wrap (IntKind.i64.wrap (a.tmod 64) + 8)) == lightS (IntKind.i64.wrap (a.tmod 64))) = false := by simpa using f8
      exact pureB (n := 100) [(21, .br false), (3, .br false), (4, .br false), (6, .br false), (7, .br false), (6, .br false), (3, .br false), (4, .br true), (8, .br false)]
        [_, _, _, _, _, _, _, _, _] (by kernel_rfl) ⟨f1, f2, f3, f4, f5, f6, d7, d8, f8'⟩ rfl rfl
    | false =>
      exact pureB (n := 100) [(21, .br false), (3, .br false), (4, .br false), (6, .br false), (7, .br false), (6, .br false), (3, .br false), (4, .br false)]
        [_, _, _, _, _, _, _, _] (by kernel_rfl) ⟨f1, f2, f3, f4, f5, f6, d7, d8⟩ rfl rfl

theorem law3' (s f r : Int) (_ : IntKind.i64.min ≤ s) (_ : s ≤ IntKind.i64.max) (_ : IntKind.i64.min ≤ f) (_ : f ≤ IntKind.i64.max) (_ : IntKind.i64.min ≤ r) (_ : r ≤ IntKind.i64.max) : Pure Tryd.prog 3 [] 3 [.int .i64 s, .int .i64 f, .int .i64 r] (.bool true) := law3 s f r
theorem law7' (a : Int) (h0 : IntKind.u8.min ≤ a) (_ : a ≤ IntKind.u8.max) : Pure Tryd.prog 3 [] 7 [.int .u8 a] (.bool true) := law7 a h0

end Go.Proofs.YtlbliaihfbnbkaaDoor
