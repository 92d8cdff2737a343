/-
  SQUARE (chapter 07): the replaced function IndexByteString; works.
-/
import Derived.Test.YtlbliaihfbnbkaaDoorD07a
namespace Go.Proofs.YtlbliaihfbnbkaaDoor
open Go.Va

theorem next54 : Extern.findNext Tryd.f54 = Option.none := by kernel_rfl
theorem find54 : Extern.find Tryd.f54 = some Extern.BytealgIndexByte.indexByte := by kernel_rfl
theorem body54 : Tryd.f54.body.isNone = true := by kernel_rfl
theorem name54 : (Tryd.f54.name == "runtime.NumGoroutine") = false := by kernel_rfl

/-- A function of the model's own that answers at once. -/
theorem pure_of_same {P : Program} {G : Nat} {tabs : List (Nat × List Value)} {f : FuncId} {args : List Value} {v : Value} (ha : args.all (plainB 100) = true) (hv : plainB 100 v = true) (h : ∀ w, (callFunc f args.toArray).run P w = .ok (.value v) w) : Pure P G tabs f args v := by
  refine ⟨plain_PF 100 v hv, fun w hT z hz args' hargs => ?_⟩
  have ea : args' = args.toArray := by
    have := plain_lRel_eq args args'.toList ha hargs
    rw [← this]
  subst ea
  exact .value (h w) ⟨RowKit.Below.refl _ _, z, hz, .refl _, plain_rel 100 v hv⟩
theorem strip_plain {n : Nat} {v : Value} (h : plainB n v = true) : strip v = v := by
  unfold strip
  cases ha : asL v with
  | none => rfl
  | some x =>
    exfalso
    obtain ⟨c, m, e, g⟩ := x
    unfold asL at ha
    split at ha
    · rename_i t nm cs m' g' e' x'
      cases hb : Nat.beq t KL with
      | false => rw [hb] at ha; cases ha
      | true =>
        obtain rfl := Nat.eq_of_beq_eq_true hb
        cases n with
        | zero => simp [plainB] at h
        | succ n =>
          cases n with
          | zero => simp [plainB] at h
          | succ n => simp [plainB] at h
    · cases ha
theorem pureP {pf : FuncId → List Value → Option Value} {isP : FuncId → Bool} (hpf : ∀ f args v, isP f = true → pf f args = some v → Pure Tryd.prog 3 [] f args v) (hFn : FnOk Tryd.prog 3 (pureEnv (fun f => okL.contains f) plans rws isP pf))
    {n : Nat} {f : FuncId} {args : List Value} {v : Value} (hs : List (Nat × Hint)) (ob : List Prop)
    (hr : upshot (runH Tryd.prog (pureEnv (fun f => okL.contains f) plans rws isP pf) n 0 (.call f args) (base0 3 []) ⟨hs, []⟩) = some (v, ob)) (ho : All ob) {u : Value} (hu : strip v = u) (hv : PF u) : Pure Tryd.prog 3 [] f args u :=
  topH zeroOk mixed rfl pureEnv_good (fun w hT => pureEnv_ok rfl hpf hT hT.1) hFn hr ho hu hv

theorem pure54 : ∀ f args v, Nat.beq f 54 = true → pf1 f args = some v → Pure Tryd.prog 3 [] f args v := by
  intro f args v hf hp
  obtain rfl : f = 54 := Nat.eq_of_beq_eq_true hf
  unfold pf1 at hp
  split at hp
  · rename_i s c _
    simp only [Option.some.injEq] at hp
    subst hp
    refine pure_of_same rfl rfl fun w => ?_
    unfold callFunc
    rw [run_bind', show (Go.program).run Tryd.prog w = .ok Tryd.prog w from rfl]
    simp only [Tryd.func54, name54, Bool.false_eq_true, if_false, body54, if_true, next54, find54]
    rw [run_bind', show ∀ m, (Go.mark m).run Tryd.prog w = .ok () w from fun _ => rfl]
    dsimp only
    rw [run_bind', Lib.run_indexByteString]
    rfl
  · cases hp

theorem works_pure : Pure Tryd.prog 3 [] 22 [] (.bool true) := by
  obtain ⟨σ', h⟩ := isTrue_spec works_run
  exact topW zeroOk mixed rfl pureEnv_good (fun w hT => pureEnv_ok rfl pure54 hT hT.1) fnOk (runW_of h) rfl (.bool _)

end Go.Proofs.YtlbliaihfbnbkaaDoor
