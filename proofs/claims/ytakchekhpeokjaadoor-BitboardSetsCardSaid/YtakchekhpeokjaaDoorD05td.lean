/-
  BITBOARD (chapter 05): Text: its rounds, on an open heap.
-/
import Derived.Test.YtakchekhpeokjaaDoorD05tc
namespace Go.Proofs.YtakchekhpeokjaaDoor
open Go.Va

def bys (l : List UInt8) : List Value := l.map fun b => .int .u8 b.toNat
def line0 : List Value := bys [46, 46, 46, 46, 46, 46, 46, 46, 10]
noncomputable def body32 : Code := codeOf Tryd.prog 32 [.r, .r, .l, .r, .b, .b]
def T32 (x : Int) (b : Nat) (r : Int) (w : Nat → Value) : List Value := fillT 27 [(0, .int .u64 x), (3, Pb b), (4, .int .i64 r)] w
def lin (σ : AS) : AS := (σ.push (.cells line0 true (some 1, some 5) none)).push (.cells [.slice none 0 0] true (none, some 60) none)
def linA (σ : AS) : AS := (lin σ).put (σ.next + 1) (some (.cells [Sl σ.next 9] true (none, some 60) none))
def linB (σ : AS) (y : Int) : AS := (linA σ).push (.cells [.int .u64 y] true (none, some 23) none)
def w32 (x r : Int) (y : Int) (b : Nat) (σ : AS) (w : Nat → Value) : Nat → Value := fun j => Go.Va.look [(0, .int .u64 x), (3, Pb b), (4, .int .i64 r), (7, .int .i64 r), (8, .bool true), (11, dots), (12, .string ⟨#[46, 46, 46, 46, 46, 46, 46, 46, 10]⟩), (13, Sl σ.next 9),
  (14, .int .u64 x), (15, .int .i64 r), (16, .int .i64 (IntKind.i64.wrap (8 * r))), (17, .int .u64 (shrS x (IntKind.i64.wrap (8 * r)))), (18, .int .u64 y)] j (w j)

theorem turn32 (x r y : Int) (b : Nat) (σ σC σD : AS) (w : Nat → Value) (ds : List Nat) (h1 : decide (r ≥ 0) = true) (h2 : 0 ≤ IntKind.i64.wrap (8 * r)) (h3 : andS (shrS x (IntKind.i64.wrap (8 * r))) 255 = y)
    (hA : (lin σ).setCells 0 ⟨σ.next + 1, 0, none⟩ [Sl σ.next 9] 0 = some (linA σ))
    (hC : runW Tryd.prog env12 0 (.code ⟨32, none⟩ rng32 (T32r (σ.next + 1) (σ.next + 2) (w32 x r y b σ w)) ds) (linB σ y) = some (.done .normal (T32r (σ.next + 1) (σ.next + 2) (w32 x r y b σ w)) ((linB σ y).next :: ds), σC))
    (hL : σC.cell? ⟨σ.next + 1, 0, none⟩ = some (Sl σ.next 9))
    (hD : applyA Tryd.prog env12 (runW Tryd.prog env12) 0 (.func (.func 57) #[] #[]) [Pb b, Sl σ.next 9] σC = some (.tuple #[.int .i64 9, .nilIface], σD)) :
    ∃ w', runW Tryd.prog env12 0 (.code ⟨32, none⟩ body32 (T32 x b r w) ds) σ = some (.done .normal (T32 x b (IntKind.i64.wrap (r - 1)) w') ((linB σ y).next :: ds), σD) :=
  seg 100 [(1, .br true), (5, .sem undef (linA σ)), (3, .ok), (0, .eq (.int .u64 y)), (5, .skip (.done .normal (T32r (σ.next + 1) (σ.next + 2) (w32 x r y b σ w)) ((linB σ y).next :: ds)) σC), (0, .is (Sl σ.next 9)), (0, .sem (.tuple #[.int .i64 9, .nilIface]) σD)]
    (m := 27) (js := [0, 3, 4]) (vs := [.int .u64 x, Pb b, .int .i64 (IntKind.i64.wrap (r - 1))])
    (ob := [decide (r ≥ 0) = true, (lin σ).setCells 0 ⟨σ.next + 1, 0, none⟩ [Sl σ.next 9] 0 = some (linA σ), 0 ≤ IntKind.i64.wrap (8 * r), Value.int .u64 (andS (shrS x (IntKind.i64.wrap (8 * r))) 255) = .int .u64 y,
      runW Tryd.prog env12 0 (.code ⟨32, none⟩ rng32 (T32r (σ.next + 1) (σ.next + 2) (w32 x r y b σ w)) ds) (linB σ y) = some (.done .normal (T32r (σ.next + 1) (σ.next + 2) (w32 x r y b σ w)) ((linB σ y).next :: ds), σC),
      σC.cell? ⟨σ.next + 1, 0, none⟩ = some (Sl σ.next 9), applyA Tryd.prog env12 (runW Tryd.prog env12) 0 (.func (.func 57) #[] #[]) [Pb b, Sl σ.next 9] σC = some (.tuple #[.int .i64 9, .nilIface], σD)]) (by kernel_rfl)
    ⟨h1, hA, h2, congrArg _ h3, hC, hL, hD⟩
theorem end32 (x r : Int) (b : Nat) (σ : AS) (w : Nat → Value) (ds : List Nat) (h1 : decide (r ≥ 0) = false) :
    ∃ w', runW Tryd.prog env12 0 (.code ⟨32, none⟩ body32 (T32 x b r w) ds) σ = some (.done (.exit 0) (T32 x b r w') ds, σ) :=
  seg 100 [(1, .br false)] (m := 27) (js := [0, 3, 4]) (vs := [.int .u64 x, Pb b, .int .i64 r]) (ob := [decide (r ≥ 0) = false]) (by kernel_rfl) h1
end Go.Proofs.YtakchekhpeokjaaDoor
