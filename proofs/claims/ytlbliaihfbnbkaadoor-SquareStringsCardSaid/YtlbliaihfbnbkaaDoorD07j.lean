/-
  SQUARE (chapter 07): a name is decoded: Parse, of the reference.
-/
import Derived.Test.YtlbliaihfbnbkaaDoorD07i
import Derived.Test.YtlbliaihfbnbkaaDoorVap4
namespace Go.Proofs.YtlbliaihfbnbkaaDoor
open Go.Va

/-- Is this the name of the square? -/
def nm (s : ByteArray) (i : Int) : Bool := (nameS i).toList == s.toList
noncomputable def body24 : Code := codeOf Tryd.prog 24 [.r, .l, .r, .b, .b]
def T24 (s : ByteArray) (i : Int) (w : Nat → Value) : List Value := fillT 20 [(0, .string s), (2, .int .i64 0), (3, .int .i64 0), (4, .int .i64 i)] w

theorem next24 (s : ByteArray) (i : Int) (w : Nat → Value) (h1 : decide (i < 64) = true) (h2 : nm s i = false) :
    ∃ w', runW Tryd.prog envA 0 (.code ⟨24, none⟩ body24 (T24 s i w) []) (base0 3 []) = some (.done .normal (T24 s (IntKind.i64.wrap (i + 1)) w') [], base0 3 []) :=
  seg 100 [(2, .br true), (10, .br false)] (m := 20) (js := [0, 2, 3, 4]) (vs := [.string s, .int .i64 0, .int .i64 0, .int .i64 (IntKind.i64.wrap (i + 1))]) (ob := [decide (i < 64) = true, nm s i = false]) (by kernel_rfl) ⟨h1, h2⟩
theorem found24 (s : ByteArray) (i : Int) (w : Nat → Value) (h1 : decide (i < 64) = true) (h2 : nm s i = true) :
    ∃ w', runW Tryd.prog envA 0 (.code ⟨24, none⟩ body24 (T24 s i w) []) (base0 3 []) = some (.done .ret (fillT 20 [(2, .int .i64 i), (3, .int .i64 0)] w') [], base0 3 []) :=
  seg 100 [(2, .br true), (10, .br true)] (m := 20) (js := [2, 3]) (vs := [.int .i64 i, .int .i64 0]) (ob := [decide (i < 64) = true, nm s i = true]) (by kernel_rfl) ⟨h1, h2⟩
theorem end24 (s : ByteArray) (i : Int) (w : Nat → Value) (h1 : decide (i < 64) = false) :
    ∃ w', runW Tryd.prog envA 0 (.code ⟨24, none⟩ body24 (T24 s i w) []) (base0 3 []) = some (.done (.exit 0) (fillT 20 [] w') [], base0 3 []) :=
  seg 100 [(2, .br false)] (m := 20) (js := []) (vs := []) (ob := [decide (i < 64) = false]) (by kernel_rfl) h1

theorem loop24_none (s : ByteArray) : ∀ (d : Nat) (i : Int) (w : Nat → Value), 0 ≤ i → i + d = 64 → (∀ j, i ≤ j → j < 64 → nm s j = false) →
    ∃ w', runW Tryd.prog envA 0 (.code ⟨24, none⟩ (.loop body24) (T24 s i w) []) (base0 3 []) = some (.done (.exit 0) (fillT 20 [] w') [], base0 3 []) := by
  intro d
  induction d with
  | zero =>
    intro i w h0 hd _
    obtain ⟨w', h⟩ := end24 s i w (decide_eq_false (by omega))
    exact ⟨w', loop_out (by intro h; cases h) h⟩
  | succ d ih =>
    intro i w h0 hd hn
    obtain ⟨w1, h⟩ := next24 s i w (decide_eq_true (by omega)) (hn i (by omega) (by omega))
    rw [wrap64 (by omega) (by omega)] at h
    obtain ⟨w', h'⟩ := ih (i + 1) w1 (by omega) (by omega) fun j h1 h2 => hn j (by omega) h2
    exact ⟨w', loop_next h h'⟩
theorem loop24_found (s : ByteArray) (k : Int) (hk : k < 64) (hs : nm s k = true) : ∀ (d : Nat) (i : Int) (w : Nat → Value), 0 ≤ i → i + d = k → (∀ j, i ≤ j → j < k → nm s j = false) →
    ∃ w', runW Tryd.prog envA 0 (.code ⟨24, none⟩ (.loop body24) (T24 s i w) []) (base0 3 []) = some (.done .ret (fillT 20 [(2, .int .i64 k), (3, .int .i64 0)] w') [], base0 3 []) := by
  intro d
  induction d with
  | zero =>
    intro i w h0 hd _
    obtain rfl : i = k := by omega
    obtain ⟨w', h⟩ := found24 s i w (decide_eq_true hk) hs
    exact ⟨w', loop_out (by intro h; cases h) h⟩
  | succ d ih =>
    intro i w h0 hd hn
    obtain ⟨w1, h⟩ := next24 s i w (decide_eq_true (by omega)) (hn i (by omega) (by omega))
    rw [wrap64 (by omega) (by omega)] at h
    obtain ⟨w', h'⟩ := ih (i + 1) w1 (by omega) (by omega) fun j h1 h2 => hn j (by omega) h2
    exact ⟨w', loop_next h h'⟩

theorem p24_none (s : ByteArray) (h : ∀ j : Int, 0 ≤ j → j < 64 → nm s j = false) : Pure Tryd.prog 3 [] 24 [.string s] (.tuple #[.int .i64 0, .int .i64 8]) := by
  obtain ⟨w', hw⟩ := loop24_none s 64 0 (fun _ => undef) (by omega) (by omega) h
  exact pureA (n := 100) [(3, .skip (.done (.exit 0) (fillT 20 [] w') []) (base0 3 []))]
    [runW Tryd.prog envA 0 (.code ⟨24, none⟩ (.loop body24) (T24 s 0 fun _ => undef) []) (base0 3 []) = some (.done (.exit 0) (fillT 20 [] w') [], base0 3 [])] (by kernel_rfl) hw rfl rfl
theorem p24_found (s : ByteArray) (k : Int) (h0 : 0 ≤ k) (hk : k < 64) (hs : nm s k = true) (h : ∀ j : Int, 0 ≤ j → j < k → nm s j = false) : Pure Tryd.prog 3 [] 24 [.string s] (.tuple #[.int .i64 k, .int .i64 0]) := by
  obtain ⟨w', hw⟩ := loop24_found s k hk hs k.toNat 0 (fun _ => undef) (by omega) (by omega) h
  exact pureA (n := 100) [(3, .skip (.done .ret (fillT 20 [(2, .int .i64 k), (3, .int .i64 0)] w') []) (base0 3 []))]
    [runW Tryd.prog envA 0 (.code ⟨24, none⟩ (.loop body24) (T24 s 0 fun _ => undef) []) (base0 3 []) = some (.done .ret (fillT 20 [(2, .int .i64 k), (3, .int .i64 0)] w') [], base0 3 [])] (by kernel_rfl) hw rfl rfl

end Go.Proofs.YtlbliaihfbnbkaaDoor
