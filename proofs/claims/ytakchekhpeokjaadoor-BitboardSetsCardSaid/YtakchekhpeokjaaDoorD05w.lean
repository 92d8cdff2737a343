/-
  BITBOARD (chapter 05): Lowest.
-/
import Derived.Test.YtakchekhpeokjaaDoorD05t
import Derived.Test.YtakchekhpeokjaaDoorD05l
namespace Go.Proofs.YtakchekhpeokjaaDoor
open Go.Va

theorem p37 (x : BitVec 64) : Pure Tryd.prog 4 tabs 37 [.int .u64 (u x)] (.int .i64 ((bitsL x).length : Int)) := by
  rw [← lenS_u]
  exact pureT t7_ok fns7 (n := 100) (v := .int .i64 (lenS (u x))) [] [] (by kernel_rfl) trivial rfl (.int _ _)
def lowV (x : BitVec 64) : Value := .tuple #[.int .i64 (bif x == 0#64 then 0 else (tz x : Int)), .bool (!(x == 0#64))]
theorem p21 (x : BitVec 64) : Pure Tryd.prog 4 tabs 21 [.int .u64 (u x)] (lowV x) := by
  by_cases h : x = 0#64
  · subst h
    exact pureT t7_ok fns7 (n := 100) (v := .tuple #[.int .i64 0, .bool false]) [] [] (by kernel_rfl) trivial rfl (PF_pair (.int _ _) (.bool _))
  · have : lowV x = .tuple #[.int .i64 (tz x), .bool true] := by
      unfold lowV; rw [beq_eq_false_iff_ne.2 h]; rfl
    rw [this]
    exact pureT t7_ok fns7 (n := 100) (v := .tuple #[.int .i64 (tz x), .bool true]) [(12, .br true), (3, .ov (.int .i64 (tz x)))]
      [(u x != 0) = true, ∀ σ, env7.ov 52 [.int .u64 (u x)] 0 σ = some (.int .i64 (tz x), σ)] (by kernel_rfl) ⟨u_ne h, fun σ => ov7_52 x 0 σ⟩ rfl (PF_pair (.int _ _) (.bool _))
end Go.Proofs.YtakchekhpeokjaaDoor
