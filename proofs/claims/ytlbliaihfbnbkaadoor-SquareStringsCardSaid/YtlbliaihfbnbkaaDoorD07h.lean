/-
  SQUARE (chapter 07): the functions of numbers replaced by what they answer.
-/
import Derived.Test.YtlbliaihfbnbkaaDoorD07g
namespace Go.Proofs.YtlbliaihfbnbkaaDoor
open Go.Va

def pfA : FuncId → List Value → Option Value
  | 10, [.int .i64 s] => some (nameV s)
  | 11, [.int .i64 s] => some (nameV s)
  | 12, [.int .i64 s, .int .i64 r] => some (atV s r)
  | 13, [.int .i64 s, .int .i64 r] => some (atV s r)
  | 14, [.int .i64 s] => some (flipV s)
  | 15, [.int .i64 s] => some (flipV s)
  | 16, [.int .i64 s] => some (.int .i64 (fileS s))
  | 17, [.int .i64 s] => some (.int .i64 (fileS s))
  | 18, [.int .i64 s] => some (.int .i64 (rankS s))
  | 19, [.int .i64 s] => some (.int .i64 (rankS s))
  | 20, [.int .i64 s] => some (.bool (lightS s))
  | 21, [.int .i64 s] => some (.bool (lightS s))
  | 22, [] => some (.bool true)
  | 54, args => pf1 54 args
  | _, _ => none
def isA (f : Nat) : Bool := Nat.beq f 54 || (Nat.ble 10 f && Nat.ble f 22)
def envA : Env := pureEnv (fun f => okL.contains f) plans rws isA pfA

theorem pfA_pure : ∀ f args v, isA f = true → pfA f args = some v → Pure Tryd.prog 3 [] f args v := by
  intro f args v _ hp
  unfold pfA at hp
  split at hp <;> first
    | (simp only [Option.some.injEq] at hp; subst hp; first | exact p10 _ | exact p11 _ | exact p12 _ _ | exact p13 _ _ | exact p14 _ | exact p15 _ | exact p16 _ | exact p17 _ | exact p18 _ | exact p19 _ | exact p20 _ | exact p21 _ | exact works_pure)
    | exact pure54 54 _ v rfl hp
    | cases hp

set_option maxRecDepth 100000 in
theorem fnsA : fnB Tryd.prog 3 envA okL = true := by kernel_rfl
theorem fnOk_of {E : Env} (hE : E.ok = fun f => okL.contains f) (h : fnB Tryd.prog 3 E okL = true) : FnOk Tryd.prog 3 E := by
  intro f fn c hok hfn hb
  rw [hE] at hok
  have hm : f ∈ okL := List.contains_iff_mem.1 hok
  have h := List.all_eq_true.1 h f hm
  rw [hfn] at h
  dsimp only at h
  rw [hb] at h
  simp only [Bool.and_eq_true, Bool.not_eq_true'] at h
  exact h
theorem fnOkA : FnOk Tryd.prog 3 envA := fnOk_of rfl fnsA

theorem pureA {n : Nat} {f : FuncId} {args : List Value} {v : Value} (hs : List (Nat × Hint)) (ob : List Prop)
    (hr : upshot (runH Tryd.prog envA n 0 (.call f args) (base0 3 []) ⟨hs, []⟩) = some (v, ob)) (ho : All ob) (ha : args.all (plainB 100) = true) (hv : plainB 100 v = true) : Pure Tryd.prog 3 [] f args v :=
  pureP pfA_pure fnOkA hs ob hr ho (strip_plain hv) (plain_PF 100 v hv)

end Go.Proofs.YtlbliaihfbnbkaaDoor
