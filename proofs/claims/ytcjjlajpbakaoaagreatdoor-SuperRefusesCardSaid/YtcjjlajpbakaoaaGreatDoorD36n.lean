/-
  SUPERBLOCK (chapter 36): bits.Len64, by the shelf's contract.
-/
import Derived.Test.YtcjjlajpbakaoaaGreatDoorD36k
namespace Go.Proofs.YtcjjlajpbakaoaaGreatDoor
open Go.Va Go.Shelf Go.RowKit

theorem name104 : (Tryz.f104.name == "runtime.NumGoroutine") = false := by kernel_rfl
theorem body104 : Tryz.f104.body.isNone = false := by kernel_rfl
theorem p104 (n : Int) (h0 : 0 ≤ n) (h1 : n ≤ 18446744073709551615) : Pure Tryz.prog 9 tabs 104 [.int .u64 n] (.int .i64 (Lib.bitLen n.toNat)) := by
  refine pure_of_calls Tryz.func104 name104 body104 rfl rfl fun w hT => ?_
  refine (Any.bits_Len64 (P := Tryz.prog) (ρ := ren171) { lays171 with } n w h0 h1).mono ?_
  rintro e w' ⟨rfl, rfl⟩
  exact ⟨rfl, Below.refl _ _⟩
def k104 : List Value → Option Value
  | [.int .u64 n] => bif decide (0 ≤ n) && decide (n ≤ 18446744073709551615) then some (.int .i64 (Lib.bitLen n.toNat)) else none
  | _ => none
theorem k104_ok : KOk Tryz.prog 9 tabs 104 k104 := by
  intro args v h
  unfold k104 at h
  split at h
  · rename_i n
    cases hb : (decide (0 ≤ n) && decide (n ≤ 18446744073709551615)) with
    | false => rw [hb] at h; cases h
    | true =>
      rw [hb, cond_true] at h
      cases h
      simp only [Bool.and_eq_true, decide_eq_true_eq] at hb
      exact p104 n hb.1 hb.2
  · cases h
def t9 : Ktab := (104, k104) :: t8
theorem t9_ok : TOk Tryz.prog 9 tabs t9 := ⟨k104_ok, t8_ok⟩
theorem ov9_104 {n : Int} (h0 : 0 ≤ n) (h1 : n ≤ 18446744073709551615) (lim : Nat) (σ : AS) : (envT t9).ov 104 [.int .u64 n] lim σ = some (.int .i64 (Lib.bitLen n.toNat), σ) := by
  refine envK rfl rfl rfl rfl ?_
  unfold t9
  rw [pfT_eq]
  show (bif decide (0 ≤ n) && decide (n ≤ 18446744073709551615) then some (Value.int .i64 (Lib.bitLen n.toNat)) else none) = _
  rw [decide_eq_true h0, decide_eq_true h1]
  rfl
theorem ov9_20 (a b c d s : Int) (lim : Nat) (σ : AS) : (envT t9).ov 20 [cfg a b c d s] lim σ = some (.int .i64 (bif chk a b c d s then 0 else 2), σ) := envK rfl rfl rfl rfl rfl

end Go.Proofs.YtcjjlajpbakaoaaGreatDoor
