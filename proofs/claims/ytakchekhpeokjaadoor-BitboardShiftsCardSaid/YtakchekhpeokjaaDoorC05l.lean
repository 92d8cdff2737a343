/-
  BITBOARD (chapter 05): BitboardShifts is true.
-/
import Derived.Test.YtakchekhpeokjaaDoorC05k
namespace Go.Proofs.YtakchekhpeokjaaDoor
open Go.Va

noncomputable def body3 : Code := codeOf Tryd.prog 3 [.r, .r, .r, .l, .r, .b, .b]
def T3 (s f r t i : Int) (w : Nat → Value) : List Value := fillT 92 [(7, .int .u64 s), (8, .int .i64 f), (9, .int .i64 r), (10, .int .u64 t), (28, .int .i64 i)] w
def E3 (s f r t : Int) (w : Nat → Value) : List Value := fillT 92 [(7, .int .u64 s), (8, .int .i64 f), (9, .int .i64 r), (10, .int .u64 t)] w
def xAt (f i : Int) : Int := IntKind.i64.wrap (i.tmod 8 - f)
def yAt (r i : Int) : Int := IntKind.i64.wrap (IntKind.i64.wrap (i.tdiv 8) - r)
def fromAt (f r i : Int) : Int := IntKind.i64.wrap (IntKind.i64.wrap (8 * yAt r i) + xAt f i)

abbrev Next3 (s f r t i : Int) (w : Nat → Value) : Prop :=
  ∃ w', runW Tryd.prog env5 0 (.code ⟨3, none⟩ body3 (T3 s f r t i w) []) (base0 4 tabs) = some (.done .normal (T3 s f r t (IntKind.i64.wrap (i + 1)) w') [], base0 4 tabs)

theorem n1 (s f r t i : Int) (w : Nat → Value) (h : decide (i < 64) = true) (a1 : decide (xAt f i ≥ 0) = false) (g : (!(hasS t i == false)) = false) : Next3 s f r t i w :=
  seg 200 [(1, .br true), (14, .br false), (13, .br false)] (m := 92) (js := [7, 8, 9, 10, 28]) (vs := [.int .u64 s, .int .i64 f, .int .i64 r, .int .u64 t, .int .i64 (IntKind.i64.wrap (i + 1))]) (ob := [_, _, _]) (by kernel_rfl) ⟨h, a1, g⟩
theorem n2 (s f r t i : Int) (w : Nat → Value) (h : decide (i < 64) = true) (a1 : decide (xAt f i ≥ 0) = true) (a2 : decide (xAt f i < 8) = false) (g : (!(hasS t i == false)) = false) : Next3 s f r t i w :=
  seg 200 [(1, .br true), (14, .br true), (3, .br false), (11, .br false)] (m := 92) (js := [7, 8, 9, 10, 28]) (vs := [.int .u64 s, .int .i64 f, .int .i64 r, .int .u64 t, .int .i64 (IntKind.i64.wrap (i + 1))]) (ob := [_, _, _, _]) (by kernel_rfl) ⟨h, a1, a2, g⟩
theorem n3 (s f r t i : Int) (w : Nat → Value) (h : decide (i < 64) = true) (a1 : decide (xAt f i ≥ 0) = true) (a2 : decide (xAt f i < 8) = true) (a3 : decide (yAt r i ≥ 0) = false) (g : (!(hasS t i == false)) = false) : Next3 s f r t i w :=
  seg 200 [(1, .br true), (14, .br true), (3, .br true), (3, .br false), (9, .br false)] (m := 92) (js := [7, 8, 9, 10, 28]) (vs := [.int .u64 s, .int .i64 f, .int .i64 r, .int .u64 t, .int .i64 (IntKind.i64.wrap (i + 1))]) (ob := [_, _, _, _, _]) (by kernel_rfl) ⟨h, a1, a2, a3, g⟩
theorem n4 (s f r t i : Int) (w : Nat → Value) (h : decide (i < 64) = true) (a1 : decide (xAt f i ≥ 0) = true) (a2 : decide (xAt f i < 8) = true) (a3 : decide (yAt r i ≥ 0) = true) (a4 : decide (yAt r i < 8) = false) (g : (!(hasS t i == false)) = false) : Next3 s f r t i w :=
  seg 200 [(1, .br true), (14, .br true), (3, .br true), (3, .br true), (3, .br false), (7, .br false)] (m := 92) (js := [7, 8, 9, 10, 28]) (vs := [.int .u64 s, .int .i64 f, .int .i64 r, .int .u64 t, .int .i64 (IntKind.i64.wrap (i + 1))]) (ob := [_, _, _, _, _, _]) (by kernel_rfl) ⟨h, a1, a2, a3, a4, g⟩
theorem n5 (s f r t i : Int) (w : Nat → Value) (h : decide (i < 64) = true) (a1 : decide (xAt f i ≥ 0) = true) (a2 : decide (xAt f i < 8) = true) (a3 : decide (yAt r i ≥ 0) = true) (a4 : decide (yAt r i < 8) = true) (g : (!(hasS t i == hasS s (fromAt f r i))) = false) : Next3 s f r t i w :=
  seg 200 [(1, .br true), (14, .br true), (3, .br true), (3, .br true), (3, .br true), (13, .br false)] (m := 92) (js := [7, 8, 9, 10, 28]) (vs := [.int .u64 s, .int .i64 f, .int .i64 r, .int .u64 t, .int .i64 (IntKind.i64.wrap (i + 1))]) (ob := [_, _, _, _, _, _]) (by kernel_rfl) ⟨h, a1, a2, a3, a4, g⟩
theorem end3 (s f r t i : Int) (w : Nat → Value) (h1 : decide (i < 64) = false) :
    ∃ w', runW Tryd.prog env5 0 (.code ⟨3, none⟩ body3 (T3 s f r t i w) []) (base0 4 tabs) = some (.done (.exit 0) (E3 s f r t w') [], base0 4 tabs) :=
  seg 100 [(1, .br false)] (m := 92) (js := [7, 8, 9, 10]) (vs := [.int .u64 s, .int .i64 f, .int .i64 r, .int .u64 t]) (ob := [decide (i < 64) = false]) (by kernel_rfl) h1

end Go.Proofs.YtakchekhpeokjaaDoor
