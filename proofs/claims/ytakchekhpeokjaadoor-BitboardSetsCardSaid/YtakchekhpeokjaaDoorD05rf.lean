/-
  BITBOARD (chapter 05): Shift, as a function of plain values.
-/
import Derived.Test.YtakchekhpeokjaaDoorD05k
import Derived.Test.YtakchekhpeokjaaDoorD05re
namespace Go.Proofs.YtakchekhpeokjaaDoor
open Go.Va

theorem p11 (s f r : Int) (hf : -9223372036854775808 ≤ f ∧ f ≤ 9223372036854775807) (hr : -9223372036854775808 ≤ r ∧ r ≤ 9223372036854775807) : Pure Tryd.prog 4 tabs 11 [.int .u64 s, .int .i64 f, .int .i64 r] (.int .u64 (shiftS s f r)) :=
  topW zeroOk mixed rfl (mix_good is5 pf5) (mix_ok pf5_pure) (fnOk_of rfl fns5) (w11 s f r hf hr) rfl (.int _ _)
end Go.Proofs.YtakchekhpeokjaaDoor
