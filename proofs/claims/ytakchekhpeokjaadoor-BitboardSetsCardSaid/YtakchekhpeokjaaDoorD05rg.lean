/-
  BITBOARD (chapter 05): the document's Shift. Printed by gen05rg.py.
-/
import Derived.Test.YtakchekhpeokjaaDoorD05rf
namespace Go.Proofs.YtakchekhpeokjaaDoor
open Go.Va

noncomputable def body27 : Code := codeOf Tryd.prog 27 [.r, .r, .r, .r, .l, .r, .b, .b]
def T27 (f r : Int) (o v : Value) (i : Int) (w : Nat → Value) : List Value := fillT 77 [(1, .int .i64 f), (2, .int .i64 r), (7, o), (8, v), (9, .int .i64 i)] w
def toF (x f : Int) : Int := IntKind.i64.wrap (x.tmod 8 + f)
def toR (x r : Int) : Int := IntKind.i64.wrap (IntKind.i64.wrap (x.tdiv 8) + r)
def toS (x f r : Int) : Int := IntKind.i64.wrap (IntKind.i64.wrap (8 * toR x r) + toF x f)


theorem off27n0 (c : List Value)  (n i : Nat) (x f r : Int) (w : Nat → Value) (h1 : i < n) (hx : c[i]? = some (.int .i64 x)) (g0 : decide (toF x f ≥ 0) = false) :
    ∃ w', runW Tryd.prog env11 0 (.code ⟨27, none⟩ body27 (T27 f r (.slice none 0 0) (L c n 1 0) i w) []) (base0 4 tabs) = some (.done .normal (T27 f r (.slice none 0 0) (L c n 1 0) (IntKind.i64.wrap ((i : Int) + 1)) w') [], (base0 4 tabs)) :=
  seg 100 [(3, .br true), (3, .ok), (0, .is (.int .i64 x)), (6, .ok), (0, .is (.int .i64 x)), (5, .br false)] (m := 77) (js := [1, 2, 7, 8, 9]) (vs := [.int .i64 f, .int .i64 r, (.slice none 0 0), L c n 1 0, .int .i64 (IntKind.i64.wrap ((i : Int) + 1))])
    (ob := [decide ((i : Int) < n) = true, (0 : Int) ≤ i ∧ (i : Int) < n, c[i * 1]? = some (.int .i64 x), (0 : Int) ≤ i ∧ (i : Int) < n, c[i * 1]? = some (.int .i64 x), decide (toF x f ≥ 0) = false]) (by kernel_rfl) ⟨decide_eq_true (by omega), ⟨by omega, by omega⟩, by rw [Nat.mul_one]; exact hx, ⟨by omega, by omega⟩, by rw [Nat.mul_one]; exact hx, g0⟩

theorem off27n1 (c : List Value)  (n i : Nat) (x f r : Int) (w : Nat → Value) (h1 : i < n) (hx : c[i]? = some (.int .i64 x)) (g0 : decide (toF x f ≥ 0) = true) (g1 : decide (toF x f < 8) = false) :
    ∃ w', runW Tryd.prog env11 0 (.code ⟨27, none⟩ body27 (T27 f r (.slice none 0 0) (L c n 1 0) i w) []) (base0 4 tabs) = some (.done .normal (T27 f r (.slice none 0 0) (L c n 1 0) (IntKind.i64.wrap ((i : Int) + 1)) w') [], (base0 4 tabs)) :=
  seg 100 [(3, .br true), (3, .ok), (0, .is (.int .i64 x)), (6, .ok), (0, .is (.int .i64 x)), (5, .br true), (2, .br false)] (m := 77) (js := [1, 2, 7, 8, 9]) (vs := [.int .i64 f, .int .i64 r, (.slice none 0 0), L c n 1 0, .int .i64 (IntKind.i64.wrap ((i : Int) + 1))])
    (ob := [decide ((i : Int) < n) = true, (0 : Int) ≤ i ∧ (i : Int) < n, c[i * 1]? = some (.int .i64 x), (0 : Int) ≤ i ∧ (i : Int) < n, c[i * 1]? = some (.int .i64 x), decide (toF x f ≥ 0) = true, decide (toF x f < 8) = false]) (by kernel_rfl) ⟨decide_eq_true (by omega), ⟨by omega, by omega⟩, by rw [Nat.mul_one]; exact hx, ⟨by omega, by omega⟩, by rw [Nat.mul_one]; exact hx, g0, g1⟩

theorem off27n2 (c : List Value)  (n i : Nat) (x f r : Int) (w : Nat → Value) (h1 : i < n) (hx : c[i]? = some (.int .i64 x)) (g0 : decide (toF x f ≥ 0) = true) (g1 : decide (toF x f < 8) = true) (g2 : decide (toR x r ≥ 0) = false) :
    ∃ w', runW Tryd.prog env11 0 (.code ⟨27, none⟩ body27 (T27 f r (.slice none 0 0) (L c n 1 0) i w) []) (base0 4 tabs) = some (.done .normal (T27 f r (.slice none 0 0) (L c n 1 0) (IntKind.i64.wrap ((i : Int) + 1)) w') [], (base0 4 tabs)) :=
  seg 100 [(3, .br true), (3, .ok), (0, .is (.int .i64 x)), (6, .ok), (0, .is (.int .i64 x)), (5, .br true), (2, .br true), (3, .br false)] (m := 77) (js := [1, 2, 7, 8, 9]) (vs := [.int .i64 f, .int .i64 r, (.slice none 0 0), L c n 1 0, .int .i64 (IntKind.i64.wrap ((i : Int) + 1))])
    (ob := [decide ((i : Int) < n) = true, (0 : Int) ≤ i ∧ (i : Int) < n, c[i * 1]? = some (.int .i64 x), (0 : Int) ≤ i ∧ (i : Int) < n, c[i * 1]? = some (.int .i64 x), decide (toF x f ≥ 0) = true, decide (toF x f < 8) = true, decide (toR x r ≥ 0) = false]) (by kernel_rfl) ⟨decide_eq_true (by omega), ⟨by omega, by omega⟩, by rw [Nat.mul_one]; exact hx, ⟨by omega, by omega⟩, by rw [Nat.mul_one]; exact hx, g0, g1, g2⟩

theorem off27n3 (c : List Value)  (n i : Nat) (x f r : Int) (w : Nat → Value) (h1 : i < n) (hx : c[i]? = some (.int .i64 x)) (g0 : decide (toF x f ≥ 0) = true) (g1 : decide (toF x f < 8) = true) (g2 : decide (toR x r ≥ 0) = true) (g3 : decide (toR x r < 8) = false) :
    ∃ w', runW Tryd.prog env11 0 (.code ⟨27, none⟩ body27 (T27 f r (.slice none 0 0) (L c n 1 0) i w) []) (base0 4 tabs) = some (.done .normal (T27 f r (.slice none 0 0) (L c n 1 0) (IntKind.i64.wrap ((i : Int) + 1)) w') [], (base0 4 tabs)) :=
  seg 100 [(3, .br true), (3, .ok), (0, .is (.int .i64 x)), (6, .ok), (0, .is (.int .i64 x)), (5, .br true), (2, .br true), (3, .br true), (3, .br false)] (m := 77) (js := [1, 2, 7, 8, 9]) (vs := [.int .i64 f, .int .i64 r, (.slice none 0 0), L c n 1 0, .int .i64 (IntKind.i64.wrap ((i : Int) + 1))])
    (ob := [decide ((i : Int) < n) = true, (0 : Int) ≤ i ∧ (i : Int) < n, c[i * 1]? = some (.int .i64 x), (0 : Int) ≤ i ∧ (i : Int) < n, c[i * 1]? = some (.int .i64 x), decide (toF x f ≥ 0) = true, decide (toF x f < 8) = true, decide (toR x r ≥ 0) = true, decide (toR x r < 8) = false]) (by kernel_rfl) ⟨decide_eq_true (by omega), ⟨by omega, by omega⟩, by rw [Nat.mul_one]; exact hx, ⟨by omega, by omega⟩, by rw [Nat.mul_one]; exact hx, g0, g1, g2, g3⟩

theorem on27n (c : List Value)  (n i : Nat) (x f r : Int) (w : Nat → Value) (h1 : i < n) (hx : c[i]? = some (.int .i64 x)) (g0 : decide (toF x f ≥ 0) = true) (g1 : decide (toF x f < 8) = true) (g2 : decide (toR x r ≥ 0) = true) (g3 : decide (toR x r < 8) = true) :
    ∃ w', runW Tryd.prog env11 0 (.code ⟨27, none⟩ body27 (T27 f r (.slice none 0 0) (L c n 1 0) i w) []) (base0 4 tabs) = some (.done .normal (T27 f r (L [.int .i64 (toS x f r)] 1 1 6) (L c n 1 0) (IntKind.i64.wrap ((i : Int) + 1)) w') [], (R1 [.int .i64 (toS x f r)])) :=
  seg 100 [(3, .br true), (3, .ok), (0, .is (.int .i64 x)), (6, .ok), (0, .is (.int .i64 x)), (5, .br true), (2, .br true), (3, .br true), (3, .br true)] (m := 77) (js := [1, 2, 7, 8, 9]) (vs := [.int .i64 f, .int .i64 r, (L [.int .i64 (toS x f r)] 1 1 6), L c n 1 0, .int .i64 (IntKind.i64.wrap ((i : Int) + 1))])
    (ob := [decide ((i : Int) < n) = true, (0 : Int) ≤ i ∧ (i : Int) < n, c[i * 1]? = some (.int .i64 x), (0 : Int) ≤ i ∧ (i : Int) < n, c[i * 1]? = some (.int .i64 x), decide (toF x f ≥ 0) = true, decide (toF x f < 8) = true, decide (toR x r ≥ 0) = true, decide (toR x r < 8) = true]) (by kernel_rfl) ⟨decide_eq_true (by omega), ⟨by omega, by omega⟩, by rw [Nat.mul_one]; exact hx, ⟨by omega, by omega⟩, by rw [Nat.mul_one]; exact hx, g0, g1, g2, g3⟩
theorem end27n (c : List Value)  (n : Nat) (i f r : Int) (w : Nat → Value) (h1 : (n : Int) ≤ i) :
    ∃ w', runW Tryd.prog env11 0 (.code ⟨27, none⟩ body27 (T27 f r (.slice none 0 0) (L c n 1 0) i w) []) (base0 4 tabs) = some (.done (.exit 0) (T27 f r (.slice none 0 0) (L c n 1 0) i w') [], (base0 4 tabs)) :=
  seg 100 [(3, .br false)] (m := 77) (js := [1, 2, 7, 8, 9]) (vs := [.int .i64 f, .int .i64 r, (.slice none 0 0), L c n 1 0, .int .i64 i]) (ob := [decide (i < n) = false]) (by kernel_rfl) (decide_eq_false (by omega))

theorem off27l0 (c : List Value) (d : List Value) (k : Nat) (n i : Nat) (x f r : Int) (w : Nat → Value) (h1 : i < n) (hx : c[i]? = some (.int .i64 x)) (g0 : decide (toF x f ≥ 0) = false) :
    ∃ w', runW Tryd.prog env11 0 (.code ⟨27, none⟩ body27 (T27 f r (L d k 1 6) (L c n 1 0) i w) []) (R1 d) = some (.done .normal (T27 f r (L d k 1 6) (L c n 1 0) (IntKind.i64.wrap ((i : Int) + 1)) w') [], (R1 d)) :=
  seg 100 [(3, .br true), (3, .ok), (0, .is (.int .i64 x)), (6, .ok), (0, .is (.int .i64 x)), (5, .br false)] (m := 77) (js := [1, 2, 7, 8, 9]) (vs := [.int .i64 f, .int .i64 r, (L d k 1 6), L c n 1 0, .int .i64 (IntKind.i64.wrap ((i : Int) + 1))])
    (ob := [decide ((i : Int) < n) = true, (0 : Int) ≤ i ∧ (i : Int) < n, c[i * 1]? = some (.int .i64 x), (0 : Int) ≤ i ∧ (i : Int) < n, c[i * 1]? = some (.int .i64 x), decide (toF x f ≥ 0) = false]) (by kernel_rfl) ⟨decide_eq_true (by omega), ⟨by omega, by omega⟩, by rw [Nat.mul_one]; exact hx, ⟨by omega, by omega⟩, by rw [Nat.mul_one]; exact hx, g0⟩

theorem off27l1 (c : List Value) (d : List Value) (k : Nat) (n i : Nat) (x f r : Int) (w : Nat → Value) (h1 : i < n) (hx : c[i]? = some (.int .i64 x)) (g0 : decide (toF x f ≥ 0) = true) (g1 : decide (toF x f < 8) = false) :
    ∃ w', runW Tryd.prog env11 0 (.code ⟨27, none⟩ body27 (T27 f r (L d k 1 6) (L c n 1 0) i w) []) (R1 d) = some (.done .normal (T27 f r (L d k 1 6) (L c n 1 0) (IntKind.i64.wrap ((i : Int) + 1)) w') [], (R1 d)) :=
  seg 100 [(3, .br true), (3, .ok), (0, .is (.int .i64 x)), (6, .ok), (0, .is (.int .i64 x)), (5, .br true), (2, .br false)] (m := 77) (js := [1, 2, 7, 8, 9]) (vs := [.int .i64 f, .int .i64 r, (L d k 1 6), L c n 1 0, .int .i64 (IntKind.i64.wrap ((i : Int) + 1))])
    (ob := [decide ((i : Int) < n) = true, (0 : Int) ≤ i ∧ (i : Int) < n, c[i * 1]? = some (.int .i64 x), (0 : Int) ≤ i ∧ (i : Int) < n, c[i * 1]? = some (.int .i64 x), decide (toF x f ≥ 0) = true, decide (toF x f < 8) = false]) (by kernel_rfl) ⟨decide_eq_true (by omega), ⟨by omega, by omega⟩, by rw [Nat.mul_one]; exact hx, ⟨by omega, by omega⟩, by rw [Nat.mul_one]; exact hx, g0, g1⟩

theorem off27l2 (c : List Value) (d : List Value) (k : Nat) (n i : Nat) (x f r : Int) (w : Nat → Value) (h1 : i < n) (hx : c[i]? = some (.int .i64 x)) (g0 : decide (toF x f ≥ 0) = true) (g1 : decide (toF x f < 8) = true) (g2 : decide (toR x r ≥ 0) = false) :
    ∃ w', runW Tryd.prog env11 0 (.code ⟨27, none⟩ body27 (T27 f r (L d k 1 6) (L c n 1 0) i w) []) (R1 d) = some (.done .normal (T27 f r (L d k 1 6) (L c n 1 0) (IntKind.i64.wrap ((i : Int) + 1)) w') [], (R1 d)) :=
  seg 100 [(3, .br true), (3, .ok), (0, .is (.int .i64 x)), (6, .ok), (0, .is (.int .i64 x)), (5, .br true), (2, .br true), (3, .br false)] (m := 77) (js := [1, 2, 7, 8, 9]) (vs := [.int .i64 f, .int .i64 r, (L d k 1 6), L c n 1 0, .int .i64 (IntKind.i64.wrap ((i : Int) + 1))])
    (ob := [decide ((i : Int) < n) = true, (0 : Int) ≤ i ∧ (i : Int) < n, c[i * 1]? = some (.int .i64 x), (0 : Int) ≤ i ∧ (i : Int) < n, c[i * 1]? = some (.int .i64 x), decide (toF x f ≥ 0) = true, decide (toF x f < 8) = true, decide (toR x r ≥ 0) = false]) (by kernel_rfl) ⟨decide_eq_true (by omega), ⟨by omega, by omega⟩, by rw [Nat.mul_one]; exact hx, ⟨by omega, by omega⟩, by rw [Nat.mul_one]; exact hx, g0, g1, g2⟩

theorem off27l3 (c : List Value) (d : List Value) (k : Nat) (n i : Nat) (x f r : Int) (w : Nat → Value) (h1 : i < n) (hx : c[i]? = some (.int .i64 x)) (g0 : decide (toF x f ≥ 0) = true) (g1 : decide (toF x f < 8) = true) (g2 : decide (toR x r ≥ 0) = true) (g3 : decide (toR x r < 8) = false) :
    ∃ w', runW Tryd.prog env11 0 (.code ⟨27, none⟩ body27 (T27 f r (L d k 1 6) (L c n 1 0) i w) []) (R1 d) = some (.done .normal (T27 f r (L d k 1 6) (L c n 1 0) (IntKind.i64.wrap ((i : Int) + 1)) w') [], (R1 d)) :=
  seg 100 [(3, .br true), (3, .ok), (0, .is (.int .i64 x)), (6, .ok), (0, .is (.int .i64 x)), (5, .br true), (2, .br true), (3, .br true), (3, .br false)] (m := 77) (js := [1, 2, 7, 8, 9]) (vs := [.int .i64 f, .int .i64 r, (L d k 1 6), L c n 1 0, .int .i64 (IntKind.i64.wrap ((i : Int) + 1))])
    (ob := [decide ((i : Int) < n) = true, (0 : Int) ≤ i ∧ (i : Int) < n, c[i * 1]? = some (.int .i64 x), (0 : Int) ≤ i ∧ (i : Int) < n, c[i * 1]? = some (.int .i64 x), decide (toF x f ≥ 0) = true, decide (toF x f < 8) = true, decide (toR x r ≥ 0) = true, decide (toR x r < 8) = false]) (by kernel_rfl) ⟨decide_eq_true (by omega), ⟨by omega, by omega⟩, by rw [Nat.mul_one]; exact hx, ⟨by omega, by omega⟩, by rw [Nat.mul_one]; exact hx, g0, g1, g2, g3⟩

theorem on27l (c : List Value) (d : List Value) (k : Nat) (n i : Nat) (x f r : Int) (w : Nat → Value) (h1 : i < n) (hx : c[i]? = some (.int .i64 x)) (g0 : decide (toF x f ≥ 0) = true) (g1 : decide (toF x f < 8) = true) (g2 : decide (toR x r ≥ 0) = true) (g3 : decide (toR x r < 8) = true) (hk : k < 99) :
    ∃ w', runW Tryd.prog env11 0 (.code ⟨27, none⟩ body27 (T27 f r (L d k 1 6) (L c n 1 0) i w) []) (R1 d) = some (.done .normal (T27 f r (L (d ++ [.int .i64 (toS x f r)]) (k + 1) 1 6) (L c n 1 0) (IntKind.i64.wrap ((i : Int) + 1)) w') [], (R1 (d ++ [.int .i64 (toS x f r)]))) :=
  seg 100 [(3, .br true), (3, .ok), (0, .is (.int .i64 x)), (6, .ok), (0, .is (.int .i64 x)), (5, .br true), (2, .br true), (3, .br true), (3, .br true), (8, .ok)] (m := 77) (js := [1, 2, 7, 8, 9]) (vs := [.int .i64 f, .int .i64 r, (L (d ++ [.int .i64 (toS x f r)]) (k + 1) 1 6), L c n 1 0, .int .i64 (IntKind.i64.wrap ((i : Int) + 1))])
    (ob := [decide ((i : Int) < n) = true, (0 : Int) ≤ i ∧ (i : Int) < n, c[i * 1]? = some (.int .i64 x), (0 : Int) ≤ i ∧ (i : Int) < n, c[i * 1]? = some (.int .i64 x), decide (toF x f ≥ 0) = true, decide (toF x f < 8) = true, decide (toR x r ≥ 0) = true, decide (toR x r < 8) = true, d.length = d.length ∧ (k + 1) * 8 ≤ 70368744177664]) (by kernel_rfl) ⟨decide_eq_true (by omega), ⟨by omega, by omega⟩, by rw [Nat.mul_one]; exact hx, ⟨by omega, by omega⟩, by rw [Nat.mul_one]; exact hx, g0, g1, g2, g3, rfl, by omega⟩
theorem end27l (c : List Value) (d : List Value) (k : Nat) (n : Nat) (i f r : Int) (w : Nat → Value) (h1 : (n : Int) ≤ i) :
    ∃ w', runW Tryd.prog env11 0 (.code ⟨27, none⟩ body27 (T27 f r (L d k 1 6) (L c n 1 0) i w) []) (R1 d) = some (.done (.exit 0) (T27 f r (L d k 1 6) (L c n 1 0) i w') [], (R1 d)) :=
  seg 100 [(3, .br false)] (m := 77) (js := [1, 2, 7, 8, 9]) (vs := [.int .i64 f, .int .i64 r, (L d k 1 6), L c n 1 0, .int .i64 i]) (ob := [decide (i < n) = false]) (by kernel_rfl) (decide_eq_false (by omega))

end Go.Proofs.YtakchekhpeokjaaDoor
