/-
  BITBOARD (chapter 05): the functions of the program that are looked at, the plans of their drawn regions, the table; the replaced functions without a body.
-/
import Derived.Test.YtakchekhpeokjaaDoorVap4
import Derived.Test.YtakchekhpeokjaaDoorChecked
namespace Go.Proofs.YtakchekhpeokjaaDoor
open Go.Va

def plans : Nat → Nat → Option Plan
  | 4, 16 => some ⟨[(0, true), (1, true), (2, false), (3, false), (4, true), (5, true), (6, true), (7, true), (8, true), (9, true), (10, true), (11, false), (12, false), (13, false), (14, false), (15, false), (16, false)], [2, 1, 1, 7, 1, 1, 1, 1, 1, 1], [], []⟩
  | 9, 11 => some ⟨[(0, false), (1, false), (2, false), (3, false), (4, true), (5, true), (6, true), (7, true), (8, true), (9, true), (10, true), (11, true), (12, false), (13, false), (14, false), (15, true), (16, true), (17, true), (18, true), (19, true), (20, true), (21, true), (22, true), (23, false), (24, false)], [1, 1, 1, 1, 8, 1, 1, 1, 8, 1, 1], [], []⟩
  | 9, 17 => some ⟨[(0, true), (1, true), (2, true), (3, true), (4, true), (5, true), (6, true), (7, true), (8, true), (9, true), (10, true), (11, false), (12, false)], [11, 1, 1], [], []⟩
  | 9, 19 => some ⟨[(0, true), (1, true), (2, true), (3, true), (4, true), (5, true), (6, true), (7, false), (8, false), (9, false), (10, true), (11, true), (12, true), (13, false)], [7, 1, 1, 1, 3, 1], [], []⟩
  | 16, 6 => some ⟨[(0, true), (1, true), (2, true), (3, true), (4, true), (5, true), (6, true), (7, true), (8, false)], [8, 1], [], []⟩
  | 29, 6 => some ⟨[(0, true), (1, true), (2, true), (3, true), (4, true), (5, true), (6, true), (7, true), (8, true), (9, true), (10, true), (11, true), (12, true), (13, true), (14, true), (15, false), (16, false)], [15, 1, 1], [], []⟩
  | 31, 6 => some ⟨[(0, true), (1, true), (2, true), (3, true), (4, true), (5, true), (6, true), (7, true), (8, true), (9, true), (10, true), (11, true), (12, true), (13, true), (14, true), (15, true), (16, true), (17, true), (18, true), (19, false), (20, false)], [19, 1, 1], [], []⟩
  | 38, 4 => some ⟨[(0, true), (1, true), (2, true), (3, true), (4, true), (5, true), (6, true), (7, true), (8, true), (9, false)], [9, 1], [], []⟩
  | 58, 1 => some ⟨[(0, true), (1, true), (2, true), (3, true), (4, true), (5, true), (6, true), (7, true), (8, true), (9, true), (10, false), (11, false)], [10, 1, 1], [], []⟩
  | 65, 3 => some ⟨[(0, true), (1, true), (2, true), (3, true), (4, true), (5, true), (6, true), (7, true), (8, true), (9, true), (10, true), (11, true), (12, false)], [12, 1], [], []⟩
  | 75, 0 => some ⟨[(0, true), (1, true), (2, true), (3, true), (4, true), (5, true), (6, true), (7, true), (8, true), (9, true), (10, true), (11, true), (12, true), (13, true), (14, false), (15, false)], [14, 1, 1], [], []⟩
  | _, _ => none

def okL : List Nat := [3, 4, 5, 6, 7, 8, 9, 10, 11, 12, 13, 14, 15, 16, 17, 18, 19, 20, 21, 22, 23, 24, 25, 26, 27, 28, 29, 30, 31, 32, 33, 34, 35, 36, 37, 38, 39, 40, 41, 42, 43, 44, 45, 46, 47, 48, 49, 50, 51, 52, 53, 54, 55, 56, 57, 58, 59, 60, 61, 62, 63, 64, 65, 66, 67, 68, 69, 70, 71, 72, 73, 74, 75, 77, 78, 80, 82, 83, 85, 86, 88]
def tabs : List (Nat × List Value) := [(0, [.int .u8 0, .int .u8 1, .int .u8 56, .int .u8 2, .int .u8 57, .int .u8 49, .int .u8 28, .int .u8 3, .int .u8 61, .int .u8 58, .int .u8 42, .int .u8 50, .int .u8 38, .int .u8 29, .int .u8 17, .int .u8 4, .int .u8 62, .int .u8 47, .int .u8 59, .int .u8 36, .int .u8 45, .int .u8 43, .int .u8 51, .int .u8 22, .int .u8 53, .int .u8 39, .int .u8 33, .int .u8 30, .int .u8 24, .int .u8 18, .int .u8 12, .int .u8 5, .int .u8 63, .int .u8 55, .int .u8 48, .int .u8 27, .int .u8 60, .int .u8 41, .int .u8 37, .int .u8 16, .int .u8 46, .int .u8 35, .int .u8 44, .int .u8 21, .int .u8 52, .int .u8 32, .int .u8 23, .int .u8 11, .int .u8 54, .int .u8 26, .int .u8 40, .int .u8 15, .int .u8 34, .int .u8 20, .int .u8 31, .int .u8 10, .int .u8 25, .int .u8 14, .int .u8 19, .int .u8 9, .int .u8 13, .int .u8 8, .int .u8 7, .int .u8 6])]

/-- Functions of plain values are replaced, abi.NoEscape (76), bytealg.MakeNoZero (81). -/
def mixEnv (isP : FuncId → Bool) (pf : FuncId → List Value → Option Value) : Env :=
  { isOv := fun f => Nat.beq f 76 || Nat.beq f 81 || isP f, ok := fun f => okL.contains f, draws := plans, rows := fun o => Nat.beq o.type 60,
    ov := fun f args _ σ => bif Nat.beq f 76 then noEscA args σ else bif Nat.beq f 81 then makeNoZeroA 5 args σ else pureOv pf f args σ }

theorem zeros : zerosB Tryd.prog = true := by kernel_rfl
theorem zeroOk : ZeroOk Tryd.prog := zeroOk_of zeros
theorem mixed : Tryd.prog.follows .mixedOrders = true := Checked.mixed Tryd.checked

def fnB (P : Program) (G : Nat) (E : Env) (l : List Nat) : Bool := l.all fun f => match P.funcs[f]? with
  | some fn => (match fn.body with
    | some c => codeB G E f c && !(fn.name == "runtime.NumGoroutine")
    | none => true)
  | none => true
theorem fnOk_of {E : Env} (hE : E.ok = fun f => okL.contains f) (h : fnB Tryd.prog 4 E okL = true) : FnOk Tryd.prog 4 E := by
  intro f fn c hok hfn hb
  rw [hE] at hok
  have hm : f ∈ okL := List.contains_iff_mem.1 hok
  have h := List.all_eq_true.1 h f hm
  rw [hfn] at h
  dsimp only at h
  rw [hb] at h
  simp only [Bool.and_eq_true, Bool.not_eq_true'] at h
  exact h

def env1 : Env := mixEnv (fun _ => false) (fun _ _ => none)
set_option maxRecDepth 100000 in
theorem fns1 : fnB Tryd.prog 4 env1 okL = true := by kernel_rfl

end Go.Proofs.YtakchekhpeokjaaDoor
