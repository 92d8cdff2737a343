/-
  SQUARE (chapter 07): the replaced function IndexByteString; works.
-/
import Derived.Test.YtlbliaihfbnbkaaDoorC07a
namespace Go.Proofs.YtlbliaihfbnbkaaDoor
open Go.Va

theorem next54 : Extern.findNext Tryd.f54 = Option.none := by kernel_rfl
theorem find54 : Extern.find Tryd.f54 = some Extern.BytealgIndexByte.indexByte := by kernel_rfl
theorem body54 : Tryd.f54.body.isNone = true := by kernel_rfl
theorem name54 : (Tryd.f54.name == "runtime.NumGoroutine") = false := by kernel_rfl

theorem pure54 : ∀ f args v, Nat.beq f 54 = true → pf1 f args = some v → Pure Tryd.prog 3 [] f args v := by
  intro f args v hf hp w hT
  obtain rfl : f = 54 := Nat.eq_of_beq_eq_true hf
  unfold pf1 at hp
  split at hp
  · rename_i s c _
    simp only [Option.some.injEq] at hp
    subst hp
    refine .value (w' := w) ?_ ⟨rfl, RowKit.Below.refl _ _⟩
    unfold callFunc
    rw [run_bind', show (Go.program).run Tryd.prog w = .ok Tryd.prog w from rfl]
    simp only [Tryd.func54, name54, Bool.false_eq_true, if_false, body54, if_true, next54, find54]
    rw [run_bind', show ∀ m, (Go.mark m).run Tryd.prog w = .ok () w from fun _ => rfl]
    dsimp only
    rw [run_bind', Lib.run_indexByteString]
    rfl
  · cases hp

theorem works_pure : Pure Tryd.prog 3 [] 22 [] (.bool true) := by
  obtain ⟨σ', h⟩ := isTrue_spec works_run
  exact top zeroOk (Checked.mixed Tryd.checked) (by rfl) pure54 fnOk h rfl rfl

end Go.Proofs.YtlbliaihfbnbkaaDoor
