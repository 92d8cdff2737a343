/-
  SUPERBLOCK (chapter 36): super.Decode.
-/
import Derived.Test.YtcjjlajpbakaoaaGreatDoorPart6
import Derived.Test.YtcjjlajpbakaoaaGreatDoorD36ai
namespace Go.Proofs.YtcjjlajpbakaoaaGreatDoor
open Go.Va

def z36 : List Value := [.int .i64 0, .int .i64 0, .int .i64 0, .int .i64 0, .int .i64 0, .int .u64 0]
def wI (n : Int) : Int := IntKind.i64.wrap n
def SD (c2 : List Value) (n1 n2 n3 n4 n5 n6 : Int) : AS := (((base0 9 tabs).push (.cells z36 true (none, some 36) none)).push (.cells [L c2 112 1 0, .int .i64 25] true (none, some 119) none)).push (.cells [.int .i64 (wI n1), .int .i64 (wI n2), .int .i64 (wI n3), .int .i64 (wI n4), .int .i64 (wI n5), .int .u64 n6] true (none, some 36) none)
def oU (n : Int) : Value := .tuple #[.int .u64 n, .int .i64 0]
theorem dec_ok (n1 n2 n3 n4 n5 n6 : Int) (c c2 c3 c7 a1 a2 : List Value) (m g : Nat) (d : Bool) (h1 : decide ((m : Int) < 128) = false) (u1 : ∀ σ, (envT t16).ov 61 [L c m 1 g, .int .i64 0, .int .i64 8] 0 σ = some (oU n1, σ)) (h2 : decide (n1 < 1) = false) (h3 : decide (n1 > 1099511627776) = false)
    (s1 : ∀ σ, (envT t16).ov 62 [L c m 1 g, .int .i64 (wI n1)] 0 σ = some (.tuple #[L c2 112 1 0, .int .i64 0], σ)) (s2 : ∀ σ, (envT t16).ov 63 [L (cut29 c2) 29 1 0] 0 σ = some (.tuple #[L c3 25 1 0, .int .i64 0], σ))
    (u2 : ∀ σ, (envT t16).ov 61 [L c2 112 1 0, .int .i64 4, .int .i64 4] 0 σ = some (oU n2, σ)) (u3 : ∀ σ, (envT t16).ov 61 [L c2 112 1 0, .int .i64 8, .int .i64 4] 0 σ = some (oU n3, σ)) (u4 : ∀ σ, (envT t16).ov 61 [L c2 112 1 0, .int .i64 12, .int .i64 4] 0 σ = some (oU n4, σ))
    (u5 : ∀ σ, (envT t16).ov 61 [L c2 112 1 0, .int .i64 16, .int .i64 1] 0 σ = some (oU n5, σ)) (u6 : ∀ σ, (envT t16).ov 61 [L c2 112 1 0, .int .i64 17, .int .i64 8] 0 σ = some (oU n6, σ))
    (e1 : ∀ σ, (envT t16).ov 22 [sup (wI n1) (wI n2) (wI n3) (wI n4) (wI n5) n6] 0 σ = some (.tuple #[L c7 128 1 1, .int .i64 0], σ))
    (l1 : loadL Tryz.prog 121 c7 0 = some (.agg ⟨a1⟩)) (l2 : loadL Tryz.prog 121 c 0 = some (.agg ⟨a2⟩))
    (q : runA Tryz.prog 0 (binOp .neq 121 (.agg ⟨a1⟩) (.agg ⟨a2⟩)) (SD c2 n1 n2 n3 n4 n5 n6) = some (.bool d, SD c2 n1 n2 n3 n4 n5 n6)) :
    Pure Tryz.prog 9 tabs 25 [L c m 1 g] (bif d then .tuple #[sup0, .int .i64 8] else .tuple #[sup (wI n1) (wI n2) (wI n3) (wI n4) (wI n5) n6, .int .i64 0]) := by
  have hm : 128 ≤ m := by have := of_decide_eq_false h1; omega
  cases d with
  | true =>
    exact pureT t16_ok (n := 2000) (v := .tuple #[sup0, .int .i64 8]) [(5, .br false), (1, .ov (oU n1)), (7, .br false), (3, .br false), (3, .ov (.tuple #[L c2 112 1 0, .int .i64 0])), (10, .ov (.tuple #[L c3 25 1 0, .int .i64 0])), (29, .ov (oU n2)), (32, .ov (oU n3)), (32, .ov (oU n4)), (32, .ov (oU n5)), (32, .ov (oU n6)), (23, .ov (.tuple #[L c7 128 1 1, .int .i64 0])), (10, .is (.agg ⟨a1⟩)), (1, .ok), (0, .is (.agg ⟨a2⟩)), (0, .sem (.bool true) (SD c2 n1 n2 n3 n4 n5 n6))]
      [_, _, _, _, _, _, _, _, _, _, _, _, _, _, _, _] (by kernel_rfl) ⟨h1, u1, h2, h3, s1, s2, u2, u3, u4, u5, u6, e1, l1, hm, l2, q⟩ rfl (plain_PF 100 _ rfl)
  | false =>
    exact pureT t16_ok (n := 2000) (v := .tuple #[sup (wI n1) (wI n2) (wI n3) (wI n4) (wI n5) n6, .int .i64 0]) [(5, .br false), (1, .ov (oU n1)), (7, .br false), (3, .br false), (3, .ov (.tuple #[L c2 112 1 0, .int .i64 0])), (10, .ov (.tuple #[L c3 25 1 0, .int .i64 0])), (29, .ov (oU n2)), (32, .ov (oU n3)), (32, .ov (oU n4)), (32, .ov (oU n5)), (32, .ov (oU n6)), (23, .ov (.tuple #[L c7 128 1 1, .int .i64 0])), (10, .is (.agg ⟨a1⟩)), (1, .ok), (0, .is (.agg ⟨a2⟩)), (0, .sem (.bool false) (SD c2 n1 n2 n3 n4 n5 n6))]
      [_, _, _, _, _, _, _, _, _, _, _, _, _, _, _, _] (by kernel_rfl) ⟨h1, u1, h2, h3, s1, s2, u2, u3, u4, u5, u6, e1, l1, hm, l2, q⟩ rfl (plain_PF 100 _ rfl)
theorem dec_inv (n1 n2 n3 n4 n5 n6 : Int) (c c2 c3 : List Value) (m g : Nat) (h1 : decide ((m : Int) < 128) = false) (u1 : ∀ σ, (envT t16).ov 61 [L c m 1 g, .int .i64 0, .int .i64 8] 0 σ = some (oU n1, σ)) (h2 : decide (n1 < 1) = false) (h3 : decide (n1 > 1099511627776) = false)
    (s1 : ∀ σ, (envT t16).ov 62 [L c m 1 g, .int .i64 (wI n1)] 0 σ = some (.tuple #[L c2 112 1 0, .int .i64 0], σ)) (s2 : ∀ σ, (envT t16).ov 63 [L (cut29 c2) 29 1 0] 0 σ = some (.tuple #[L c3 25 1 0, .int .i64 0], σ))
    (u2 : ∀ σ, (envT t16).ov 61 [L c2 112 1 0, .int .i64 4, .int .i64 4] 0 σ = some (oU n2, σ)) (u3 : ∀ σ, (envT t16).ov 61 [L c2 112 1 0, .int .i64 8, .int .i64 4] 0 σ = some (oU n3, σ)) (u4 : ∀ σ, (envT t16).ov 61 [L c2 112 1 0, .int .i64 12, .int .i64 4] 0 σ = some (oU n4, σ))
    (u5 : ∀ σ, (envT t16).ov 61 [L c2 112 1 0, .int .i64 16, .int .i64 1] 0 σ = some (oU n5, σ)) (u6 : ∀ σ, (envT t16).ov 61 [L c2 112 1 0, .int .i64 17, .int .i64 8] 0 σ = some (oU n6, σ))
    (e1 : ∀ σ, (envT t16).ov 22 [sup (wI n1) (wI n2) (wI n3) (wI n4) (wI n5) n6] 0 σ = some (.tuple #[.slice none 0 0, .int .i64 2], σ)) :
    Pure Tryz.prog 9 tabs 25 [L c m 1 g] (.tuple #[sup0, .int .i64 8]) :=
  pureT t16_ok (n := 2000) (v := .tuple #[sup0, .int .i64 8]) [(5, .br false), (1, .ov (oU n1)), (7, .br false), (3, .br false), (3, .ov (.tuple #[L c2 112 1 0, .int .i64 0])), (10, .ov (.tuple #[L c3 25 1 0, .int .i64 0])), (29, .ov (oU n2)), (32, .ov (oU n3)), (32, .ov (oU n4)), (32, .ov (oU n5)), (32, .ov (oU n6)), (23, .ov (.tuple #[.slice none 0 0, .int .i64 2]))]
      [_, _, _, _, _, _, _, _, _, _, _, _] (by kernel_rfl) ⟨h1, u1, h2, h3, s1, s2, u2, u3, u4, u5, u6, e1⟩ rfl (plain_PF 100 _ rfl)

end Go.Proofs.YtcjjlajpbakaoaaGreatDoor
