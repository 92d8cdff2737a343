/-
  SQUARE (chapter 07): the functions of the program that are looked at, the plans of their drawn regions.
-/
import Derived.Test.YtlbliaihfbnbkaaDoorVap4
import Derived.Lib.Bytealg
import Derived.Test.YtlbliaihfbnbkaaDoorChecked
namespace Go.Proofs.YtlbliaihfbnbkaaDoor
open Go.Va

def plans : Nat → Nat → Option Plan
  | 5, 7 => some ⟨[(0, true), (1, true), (2, true), (3, true), (4, true), (5, true), (6, true), (7, true), (8, true), (9, false)], [9, 1], [], []⟩
  | 11, 3 => some ⟨[(0, true), (1, true), (2, true), (3, true), (4, true), (5, true), (6, true), (7, true), (8, true), (9, true), (10, true), (11, true), (12, false), (13, false), (14, false)], [12, 1, 1, 1], [], []⟩
  | 23, 4 => some ⟨[(0, true), (1, true), (2, true), (3, true), (4, true), (5, true), (6, true), (7, true), (8, true), (9, true), (10, false), (11, false), (12, true), (13, true), (14, true), (15, false)], [10, 1, 1, 3, 1], [], []⟩
  | 27, 6 => some ⟨[(0, true), (1, true), (2, true), (3, true), (4, true), (5, true), (6, true), (7, true), (8, false)], [8, 1], [], []⟩
  | 29, 11 => some ⟨[(0, true), (1, true), (2, true), (3, true), (4, true), (5, true), (6, true), (7, true), (8, false)], [8, 1], [], []⟩
  | 29, 15 => some ⟨[(0, true), (1, true), (2, true), (3, true), (4, true), (5, true), (6, true), (7, true), (8, false)], [8, 1], [], []⟩
  | 33, 3 => some ⟨[(0, true), (1, true), (2, true), (3, true), (4, true), (5, true), (6, true), (7, true), (8, true), (9, true), (10, true), (11, true), (12, false)], [12, 1], [], []⟩
  | 35, 1 => some ⟨[(0, true), (1, true), (2, true), (3, true), (4, true), (5, true), (6, true), (7, true), (8, true), (9, true), (10, false), (11, false)], [10, 1, 1], [], []⟩
  | 40, 0 => some ⟨[(0, true), (1, true), (2, true), (3, true), (4, true), (5, true), (6, true), (7, true), (8, true), (9, true), (10, true), (11, true), (12, true), (13, true), (14, false), (15, false)], [14, 1, 1], [], []⟩
  | 47, 3 => some ⟨[(0, true), (1, true), (2, true), (3, true), (4, true), (5, true), (6, true), (7, true), (8, true), (9, true), (10, true), (11, true), (12, true), (13, true), (14, false), (15, false)], [14, 1, 1], [], []⟩
  | _, _ => none

def okL : List Nat := [3, 4, 5, 6, 7, 8, 9, 10, 11, 12, 13, 14, 15, 16, 17, 18, 19, 20, 21, 22, 23, 24, 25, 26, 27, 28, 29, 30, 31, 32, 33, 34, 35, 37, 38, 39, 40, 41, 42, 43, 44, 47, 48, 49, 50, 52, 53, 55]
def pf1 : FuncId → List Value → Option Value
  | 54, [.string s, .int .u8 c] => some (.int .i64 (Lib.indexByte s.data.toList c.toNat.toUInt8))
  | _, _ => none
/-- Lists of numbers and of strings go by their content. -/
def rws (o : Oper) : Bool := !(Nat.beq o.type 33)
def env1 : Env := pureEnv (fun f => okL.contains f) plans rws (fun f => Nat.beq f 54) pf1

theorem zeros : zerosB Tryd.prog = true := by kernel_rfl
theorem mixed : Tryd.prog.follows .mixedOrders = true := by kernel_rfl

def fnB (P : Program) (G : Nat) (E : Env) (l : List Nat) : Bool := l.all fun f => match P.funcs[f]? with
  | some fn => (match fn.body with
    | some c => codeB G E f c && !(fn.name == "runtime.NumGoroutine")
    | none => true)
  | none => true
set_option maxRecDepth 100000 in
theorem fns : fnB Tryd.prog 3 env1 okL = true := by kernel_rfl


theorem zeroOk : ZeroOk Tryd.prog := zeroOk_of zeros

theorem fnOk : FnOk Tryd.prog 3 env1 := by
  intro f fn c hok hfn hb
  have hm : f ∈ okL := List.contains_iff_mem.1 hok
  have h := List.all_eq_true.1 fns f hm
  rw [hfn] at h
  dsimp only at h
  rw [hb] at h
  simp only [Bool.and_eq_true, Bool.not_eq_true'] at h
  exact h

def isVal (v : Value → Bool) : Option (Out × AS) → Bool
  | some (.val u, _) => v u
  | _ => false
def isTrue : Value → Bool
  | .bool true => true
  | _ => false
theorem isTrue_spec {r : Option (Out × AS)} (h : isVal isTrue r = true) : ∃ σ', r = some (.val (.bool true), σ') := by
  unfold isVal at h
  split at h
  · unfold isTrue at h
    split at h
    · exact ⟨_, rfl⟩
    · cases h
  · cases h

set_option maxRecDepth 1000000 in
theorem works_run : isVal isTrue (run Tryd.prog env1 3000 0 (.call 22 []) (base0 3 [])) = true := by kernel_rfl

end Go.Proofs.YtlbliaihfbnbkaaDoor
