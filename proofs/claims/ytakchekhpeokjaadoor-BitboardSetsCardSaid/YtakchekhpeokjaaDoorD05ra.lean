/-
  BITBOARD (chapter 05): the document's functions: Has, List.
-/
import Derived.Test.YtakchekhpeokjaaDoorD05z
namespace Go.Proofs.YtakchekhpeokjaaDoor
open Go.Va

theorem hasS_out (s n : Int) (h : inr n 64 = false) : hasS s n = false := by unfold hasS; rw [h]; rfl
theorem p23 (x : BitVec 64) (n : Int) : Pure Tryd.prog 4 tabs 23 [.int .u64 (u x), .int .i64 n] (.bool (hasS (u x) n)) := by
  refine three n 64 (fun h => ?_) (fun h g => ?_) fun h g h0 => ?_
  · rw [hasS_out _ _ (inr_neg h)]
    exact pureT t8_ok fns8 (n := 100) (v := .bool false) [(6, .br false)] [decide (n ≥ 0) = false] (by kernel_rfl) h rfl (.bool _)
  · rw [hasS_out _ _ (inr_big g)]
    exact pureT t8_ok fns8 (n := 100) (v := .bool false) [(6, .br true), (2, .br false)] [decide (n ≥ 0) = true, decide (n < 64) = false] (by kernel_rfl) ⟨h, g⟩ rfl (.bool _)
  · have hn : n < 64 := of_decide_eq_true g
    obtain ⟨i, rfl⟩ : ∃ i : Nat, n = i := ⟨n.toNat, by omega⟩
    have e : IntKind.u64.wrap (i : Int) = (i : Int) := wrap_fits .u64 (by show (0 : Int) ≤ _; omega) (by show (i : Int) ≤ 18446744073709551615; omega)
    have e2 : ((shrS (u x) (IntKind.u64.wrap (i : Int))).tmod 2 == 1) = hasS (u x) i := by
      rw [e, shrS_u x i (by omega), hasS_u x i (by omega) (by omega), Int.toNat_natCast]
      have hb : x.getLsbD i = decide ((x >>> i).toNat % 2 = 1) := by
        rw [BitVec.toNat_ushiftRight, Nat.shiftRight_eq_div_pow]
        show x.toNat.testBit i = _
        rw [Nat.testBit_eq_decide_div_mod_eq]
      rw [hb]
      unfold u
      rw [Int.tmod_eq_emod_of_nonneg (by omega)]
      by_cases h : (x >>> i).toNat % 2 = 1
      · rw [decide_eq_true h, beq_iff_eq]; omega
      · rw [decide_eq_false h, beq_eq_false_iff_ne]; omega
    exact pureT t8_ok fns8 (n := 100) (v := .bool (hasS (u x) i)) [(6, .br true), (2, .br true), (5, .ok), (1, .eq (.bool (hasS (u x) i)))]
      [decide ((i : Int) ≥ 0) = true, decide ((i : Int) < 64) = true, 0 ≤ IntKind.u64.wrap (i : Int), Value.bool ((shrS (u x) (IntKind.u64.wrap (i : Int))).tmod 2 == 1) = .bool (hasS (u x) i)] (by kernel_rfl) ⟨h, g, by rw [e]; omega, congrArg Value.bool e2⟩ rfl (.bool _)
end Go.Proofs.YtakchekhpeokjaaDoor
