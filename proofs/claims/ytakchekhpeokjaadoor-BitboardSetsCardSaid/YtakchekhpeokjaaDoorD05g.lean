/-
  BITBOARD (chapter 05): Flip and Mirror replaced, too.
-/
import Derived.Test.YtakchekhpeokjaaDoorD05f
import Derived.Test.YtakchekhpeokjaaDoorVap4
namespace Go.Proofs.YtakchekhpeokjaaDoor
open Go.Va

def pf4 : FuncId → List Value → Option Value
  | 28, [.int .u64 s] => some (.int .u64 (rbS s))
  | 30, [.int .u64 s] => some (.int .u64 (rbS (rvS s)))
  | f, args => pf3 f args
def is4 (f : Nat) : Bool := is3 f || Nat.beq f 28 || Nat.beq f 30
theorem pf4_pure : ∀ f args v, is4 f = true → pf4 f args = some v → Pure Tryd.prog 4 tabs f args v := by
  intro f args v hf hp
  unfold pf4 at hp
  split at hp
  · cases hp; exact p28 _
  · cases hp; exact p30 _
  · rename_i h28 h30
    cases h3 : is3 f with
    | true => exact pf3_pure f args v h3 hp
    | false =>
      simp only [is4, h3, Bool.false_or, Bool.or_eq_true] at hf
      rcases hf with hf | hf <;> (obtain rfl := Nat.eq_of_beq_eq_true hf; unfold pf3 at hp; cases hp)
def env4 : Env := mixEnv is4 pf4
set_option maxRecDepth 100000 in
theorem fns4 : fnB Tryd.prog 4 env4 okL = true := by kernel_rfl
theorem pure4 {n : Nat} {f : FuncId} {args : List Value} {v : Value} (hs : List (Nat × Hint)) (ob : List Prop)
    (hr : upshot (runH Tryd.prog env4 n 0 (.call f args) (base0 4 tabs) ⟨hs, []⟩) = some (v, ob)) (ho : All ob) (hu : strip v = v) (hv : plainB 100 v = true) : Pure Tryd.prog 4 tabs f args v :=
  pureM pf4_pure fns4 hs ob hr ho hu (plain_PF 100 v hv)

end Go.Proofs.YtakchekhpeokjaaDoor
