/-
  SQUARE (chapter 07): what the small functions answer, of the program and of the reference.
-/
import Derived.Test.YtlbliaihfbnbkaaDoorD07b
import Derived.Test.YtlbliaihfbnbkaaDoorVap4
namespace Go.Proofs.YtlbliaihfbnbkaaDoor
open Go.Va

theorem pure07 {n : Nat} {f : FuncId} {args : List Value} {v : Value} (hs : List (Nat × Hint)) (ob : List Prop)
    (hr : upshot (runH Tryd.prog env1 n 0 (.call f args) (base0 3 []) ⟨hs, []⟩) = some (v, ob)) (ho : All ob) (ha : args.all (plainB 100) = true) (hv : plainB 100 v = true) : Pure Tryd.prog 3 [] f args v :=
  pureP pure54 fnOk hs ob hr ho (strip_plain hv) (plain_PF 100 v hv)

theorem closed07 {n : Nat} {f : FuncId} {args : List Value} {v : Value}
    (hr : valIs v (run Tryd.prog env1 n 0 (.call f args) (base0 3 [])) = true) (ha : args.all (plainB 100) = true) (hv : plainB 100 v = true) : Pure Tryd.prog 3 [] f args v := by
  obtain ⟨σ', h⟩ := valIs_spec hr
  exact topW zeroOk mixed rfl pureEnv_good (fun w hT => pureEnv_ok rfl pure54 hT hT.1) fnOk (runW_of h) (strip_plain hv) (plain_PF 100 v hv)

/-- The functions of one square, at the squares. -/
noncomputable def atOk (f : Nat) (v : Int → Value) (a : Nat) : Bool := valIs (v a) (run Tryd.prog env1 1000 0 (.call f [.int .i64 a]) (base0 3 []))
theorem at07 {f : Nat} {v : Int → Value} (h : ((List.range 64).all (atOk f v)) = true) (hv : ∀ s, plainB 100 (v s) = true) {s : Int} (h0 : 0 ≤ s) (h1 : s < 64) : Pure Tryd.prog 3 [] f [.int .i64 s] (v s) := by
  obtain ⟨a, rfl⟩ : ∃ a : Nat, s = a := ⟨s.toNat, by omega⟩
  have := List.all_eq_true.1 h a (List.mem_range.2 (by omega))
  exact closed07 this rfl (hv _)

def inB (s : Int) : Bool := decide (0 ≤ s) && decide (s < 64)
def okOr (b : Bool) : Int := bif b then 0 else 3
def nameOf (s : Int) : ByteArray := ⟨#[UInt8.ofNat (97 + (s.toNat % 8)), UInt8.ofNat (49 + s.toNat / 8)]⟩
def nameS (s : Int) : ByteArray := bif inB s then nameOf s else ⟨#[]⟩
def nameV (s : Int) : Value := .tuple #[.string (nameS s), .int .i64 (okOr (inB s))]
def fileS (s : Int) : Int := bif inB s then s % 8 else -1
def rankS (s : Int) : Int := bif inB s then s / 8 else -1
def lightS (s : Int) : Bool := inB s && decide ((s / 8 + s % 8) % 2 = 1)
def flipS (s : Int) : Int := bif inB s then 8 * (7 - s / 8) + s % 8 else 0
def flipV (s : Int) : Value := .tuple #[.int .i64 (flipS s), .int .i64 (okOr (inB s))]
def atB (f r : Int) : Bool := decide (0 ≤ f) && decide (f < 8) && decide (0 ≤ r) && decide (r < 8)
def atS (f r : Int) : Int := bif atB f r then 8 * r + f else 0
def atV (f r : Int) : Value := .tuple #[.int .i64 (atS f r), .int .i64 (okOr (atB f r))]

set_option maxRecDepth 1000000 in
theorem at10 : ((List.range 64).all (atOk 10 nameV)) = true := by kernel_rfl
set_option maxRecDepth 1000000 in
theorem at11 : ((List.range 64).all (atOk 11 nameV)) = true := by kernel_rfl
set_option maxRecDepth 1000000 in
theorem at14 : ((List.range 64).all (atOk 14 flipV)) = true := by kernel_rfl
set_option maxRecDepth 1000000 in
theorem at15 : ((List.range 64).all (atOk 15 flipV)) = true := by kernel_rfl
set_option maxRecDepth 1000000 in
theorem at16 : ((List.range 64).all (atOk 16 fun s => .int .i64 (fileS s))) = true := by kernel_rfl
set_option maxRecDepth 1000000 in
theorem at17 : ((List.range 64).all (atOk 17 fun s => .int .i64 (fileS s))) = true := by kernel_rfl
set_option maxRecDepth 1000000 in
theorem at18 : ((List.range 64).all (atOk 18 fun s => .int .i64 (rankS s))) = true := by kernel_rfl
set_option maxRecDepth 1000000 in
theorem at19 : ((List.range 64).all (atOk 19 fun s => .int .i64 (rankS s))) = true := by kernel_rfl
set_option maxRecDepth 1000000 in
theorem at20 : ((List.range 64).all (atOk 20 fun s => .bool (lightS s))) = true := by kernel_rfl
set_option maxRecDepth 1000000 in
theorem at21 : ((List.range 64).all (atOk 21 fun s => .bool (lightS s))) = true := by kernel_rfl

end Go.Proofs.YtlbliaihfbnbkaaDoor
