/-
  BITBOARD (chapter 05): Len; BitboardTurns is true.
-/
import Derived.Test.YtakchekhpeokjaaDoorD05g
namespace Go.Proofs.YtakchekhpeokjaaDoor
open Go.Va

def addS (a b : Int) : Int := IntKind.u64.wrap (a + b)
def lenS (s : Int) : Int :=
  let a1 := addS (andS (shrS s 1) 6148914691236517205) (andS s 6148914691236517205)
  let a2 := addS (andS (shrS a1 2) 3689348814741910323) (andS a1 3689348814741910323)
  let a3 := andS (addS (shrS a2 4) a2) 1085102592571150095
  let a4 := addS a3 (shrS a3 8)
  let a5 := addS a4 (shrS a4 16)
  let a6 := addS a5 (shrS a5 32)
  IntKind.i64.wrap ((BitVec.ofInt IntKind.i64.bits (IntKind.i64.wrap a6) &&& BitVec.ofInt IntKind.i64.bits 127).toNat : Int)
theorem p24 (s : Int) : Pure Tryd.prog 4 tabs 24 [.int .u64 s] (.int .i64 (lenS s)) :=
  pure4 (n := 100) [] [] (by kernel_rfl) trivial rfl rfl

def pf5 : FuncId → List Value → Option Value
  | 24, [.int .u64 s] => some (.int .i64 (lenS s))
  | f, args => pf4 f args
def is5 (f : Nat) : Bool := is4 f || Nat.beq f 24
theorem pf5_pure : ∀ f args v, is5 f = true → pf5 f args = some v → Pure Tryd.prog 4 tabs f args v := by
  intro f args v hf hp
  unfold pf5 at hp
  split at hp
  · cases hp; exact p24 _
  · rename_i h24
    cases h4 : is4 f with
    | true => exact pf4_pure f args v h4 hp
    | false =>
      simp only [is5, h4, Bool.false_or] at hf
      obtain rfl := Nat.eq_of_beq_eq_true hf
      unfold pf4 pf3 at hp; cases hp
def env5 : Env := mixEnv is5 pf5
set_option maxRecDepth 100000 in
theorem fns5 : fnB Tryd.prog 4 env5 okL = true := by kernel_rfl
theorem pure5 {n : Nat} {f : FuncId} {args : List Value} {v : Value} (hs : List (Nat × Hint)) (ob : List Prop)
    (hr : upshot (runH Tryd.prog env5 n 0 (.call f args) (base0 4 tabs) ⟨hs, []⟩) = some (v, ob)) (ho : All ob) (hu : strip v = v) (hv : plainB 100 v = true) : Pure Tryd.prog 4 tabs f args v :=
  pureM pf5_pure fns5 hs ob hr ho hu (plain_PF 100 v hv)

/-! ## The loop over the squares -/

def mirS (s : Int) : Int := rbS (rvS s)
noncomputable def body6 : Code := codeOf Tryd.prog 6 [.r, .r, .l, .r, .b, .b]
def T6 (k s i : Int) (w : Nat → Value) : List Value := fillT 165 [(1, .int .u8 k), (5, .int .u64 s), (17, .int .i64 i)] w
def E6 (k s : Int) (w : Nat → Value) : List Value := fillT 165 [(1, .int .u8 k), (5, .int .u64 s)] w
def flipAt (i : Int) : Int := IntKind.i64.wrap (IntKind.i64.wrap (8 * IntKind.i64.wrap (7 - IntKind.i64.wrap (i.tdiv 8))) + i.tmod 8)
def mirAt (i : Int) : Int := IntKind.i64.wrap (IntKind.i64.wrap (IntKind.i64.wrap (i - i.tmod 8) + 7) - i.tmod 8)

theorem next6 (k s i : Int) (w : Nat → Value) (h1 : decide (i < 64) = true) (h2 : (!(hasS (rbS s) (flipAt i) == hasS s i)) = false) (h3 : (!(hasS (mirS s) (mirAt i) == hasS s i)) = false) :
    ∃ w', runW Tryd.prog env5 0 (.code ⟨6, none⟩ body6 (T6 k s i w) []) (base0 4 tabs) = some (.done .normal (T6 k s (IntKind.i64.wrap (i + 1)) w') [], base0 4 tabs) :=
  seg 100 [(1, .br true), (16, .br false), (16, .br false)] (m := 165) (js := [1, 5, 17]) (vs := [.int .u8 k, .int .u64 s, .int .i64 (IntKind.i64.wrap (i + 1))])
    (ob := [decide (i < 64) = true, (!(hasS (rbS s) (flipAt i) == hasS s i)) = false, (!(hasS (mirS s) (mirAt i) == hasS s i)) = false]) (by kernel_rfl) ⟨h1, h2, h3⟩
theorem end6 (k s i : Int) (w : Nat → Value) (h1 : decide (i < 64) = false) :
    ∃ w', runW Tryd.prog env5 0 (.code ⟨6, none⟩ body6 (T6 k s i w) []) (base0 4 tabs) = some (.done (.exit 0) (E6 k s w') [], base0 4 tabs) :=
  seg 100 [(1, .br false)] (m := 165) (js := [1, 5]) (vs := [.int .u8 k, .int .u64 s]) (ob := [decide (i < 64) = false]) (by kernel_rfl) h1
theorem loop6 (k s : Int) (hs : ∀ i : Int, 0 ≤ i → i < 64 → hasS (rbS s) (flipAt i) = hasS s i ∧ hasS (mirS s) (mirAt i) = hasS s i) : ∀ (d : Nat) (i : Int) (w : Nat → Value), 0 ≤ i → i + d = 64 →
    ∃ w', runW Tryd.prog env5 0 (.code ⟨6, none⟩ (.loop body6) (T6 k s i w) []) (base0 4 tabs) = some (.done (.exit 0) (E6 k s w') [], base0 4 tabs) := by
  intro d
  induction d with
  | zero =>
    intro i w h0 hd
    obtain ⟨w', h⟩ := end6 k s i w (decide_eq_false (by omega))
    exact ⟨w', loop_out (by intro h; cases h) h⟩
  | succ d ih =>
    intro i w h0 hd
    obtain ⟨f1, f2⟩ := hs i h0 (by omega)
    obtain ⟨w1, h⟩ := next6 k s i w (decide_eq_true (by omega)) (by rw [f1, beq_self_eq_true]; rfl) (by rw [f2, beq_self_eq_true]; rfl)
    rw [wrap64 (by omega) (by omega)] at h
    obtain ⟨w', h'⟩ := ih (i + 1) w1 (by omega) (by omega)
    exact ⟨w', loop_next h h'⟩

theorem rbB_rbB (x : BitVec 64) : rbB (rbB x) = x := by
  refine BitVec.eq_of_getLsbD_eq fun i hi => ?_
  rw [flip_bit _ _ hi, flip_bit _ _ (by omega)]
  congr 1; omega
theorem mir_mir (x : BitVec 64) : rbB (rvB (rbB (rvB x))) = x := by
  refine BitVec.eq_of_getLsbD_eq fun i hi => ?_
  rw [mirror_bit _ _ hi, mirror_bit _ _ (by omega)]
  congr 1; omega
theorem mir_rb (x : BitVec 64) : rbB (rvB (rbB x)) = rbB (rbB (rvB x)) := by
  refine BitVec.eq_of_getLsbD_eq fun i hi => ?_
  rw [mirror_bit _ _ hi, flip_bit _ _ (by omega), flip_bit _ _ hi, mirror_bit _ _ (by omega)]
  congr 1; omega

/-- What is said of a file and a rank. -/
def turnSaid (m : Int) : Bool :=
  (okOr (inr m 8) != 0) == false && (okOr (inr (IntKind.i64.wrap (7 - m)) 8) != 0) == false && (lenS (fileS m) != 8) == false && (lenS (rankS m) != 8) == false && (lenS (andS (fileS m) (rankS m)) != 1) == false &&
    (!hasS (andS (fileS m) (rankS m)) (IntKind.i64.wrap (9 * m))) == false && (mirS (fileS m) == fileS (IntKind.i64.wrap (7 - m))) == true && (rbS (fileS m) == fileS m) == true && (rbS (rankS m) == rankS (IntKind.i64.wrap (7 - m))) == true && (mirS (rankS m) == rankS m) == true
theorem turnSaid_all : ((List.range 8).all fun a => turnSaid a) = true := by decide +kernel

theorem law6 (s k : Int) (h0 : 0 ≤ s) (h1 : s < 18446744073709551616) (h2 : 0 ≤ k) : Pure Tryd.prog 4 tabs 6 [.int .u64 s, .int .u8 k] (.bool true) := by
  have hsu : s = u (BitVec.ofInt 64 s) := u_of s h0 h1
  generalize BitVec.ofInt 64 s = x at hsu
  subst hsu
  have hbit : ∀ i : Int, 0 ≤ i → i < 64 → hasS (rbS (u x)) (flipAt i) = hasS (u x) i ∧ hasS (mirS (u x)) (mirAt i) = hasS (u x) i := by
    intro i hi0 hi1
    have e1 : i.tdiv 8 = i / 8 := Int.tdiv_eq_ediv_of_nonneg hi0
    have e2 : i.tmod 8 = i % 8 := Int.tmod_eq_emod_of_nonneg hi0
    have e3 : flipAt i = 8 * (7 - i / 8) + i % 8 := by
      unfold flipAt
      rw [e1, e2, wrap64 (n := i / 8) (by omega) (by omega), wrap64 (n := 7 - i / 8) (by omega) (by omega), wrap64 (n := 8 * (7 - i / 8)) (by omega) (by omega), wrap64 (by omega) (by omega)]
    have e4 : mirAt i = i - i % 8 + 7 - i % 8 := by
      unfold mirAt
      rw [e2, wrap64 (n := i - i % 8) (by omega) (by omega), wrap64 (n := i - i % 8 + 7) (by omega) (by omega), wrap64 (by omega) (by omega)]
    rw [e3, e4]
    refine ⟨?_, ?_⟩
    · rw [rbS_u, hasS_u _ _ (by omega) (by omega), hasS_u _ _ hi0 hi1, flip_bit _ _ (by omega)]
      congr 1; omega
    · unfold mirS
      rw [rvS_u, rbS_u, hasS_u _ _ (by omega) (by omega), hasS_u _ _ hi0 hi1, mirror_bit _ _ (by omega)]
      congr 1; omega
  obtain ⟨w', hw'⟩ := loop6 k (u x) hbit 64 0 (fun j => ([(0, Value.int .u64 (u x)), (4, Value.bool false), (16, Value.int .u64 (u x))].find? fun y => Nat.beq y.1 j).elim undef (·.2)) (by omega) (by omega)
  obtain ⟨m, hm, hk⟩ : ∃ m : Nat, m < 8 ∧ IntKind.i64.wrap (k.tmod 8) = m := by
    have : k.tmod 8 = k % 8 := Int.tmod_eq_emod_of_nonneg h2
    refine ⟨(k % 8).toNat, by omega, ?_⟩
    rw [this, wrap64 (by omega) (by omega)]
    omega
  have hf : turnSaid m = true := List.all_eq_true.1 turnSaid_all m (List.mem_range.2 hm)
  rw [← hk] at hf
  simp only [turnSaid, Bool.and_eq_true, beq_iff_eq] at hf
  obtain ⟨⟨⟨⟨⟨⟨⟨⟨⟨f1, f2⟩, f3⟩, f4⟩, f5⟩, f6⟩, f7⟩, f8⟩, f9⟩, f10⟩ := hf
  have g1 : (rbS (rbS (u x)) == u x) = true := by rw [rbS_u, rbS_u, rbB_rbB, beq_self_eq_true]
  have g2 : (mirS (mirS (u x)) == u x) = true := by unfold mirS; rw [rvS_u, rbS_u, rvS_u, rbS_u, mir_mir, beq_self_eq_true]
  have g3 : (mirS (rbS (u x)) == rbS (mirS (u x))) = true := by unfold mirS; rw [rbS_u, rvS_u, rvS_u, rbS_u, rbS_u, rbS_u, mir_rb, beq_self_eq_true]
  exact pure5 (n := 100) [(4, .skip (.done (.exit 0) (E6 k (u x) w') []) (base0 4 tabs)), (36, .br false), (3, .br false), (3, .br false), (3, .br false), (4, .br false), (4, .br false), (6, .br false), (8, .br false),
      (5, .br true), (6, .br true), (8, .br true), (5, .br true), (5, .br true), (5, .br true), (5, .br true)]
    [runW Tryd.prog env5 0 (.code ⟨6, none⟩ (.loop body6) (T6 k (u x) 0 fun j => ([(0, Value.int .u64 (u x)), (4, Value.bool false), (16, Value.int .u64 (u x))].find? fun y => Nat.beq y.1 j).elim undef (·.2)) []) (base0 4 tabs) = some (.done (.exit 0) (E6 k (u x) w') [], base0 4 tabs),
      (okOr (inr (IntKind.i64.wrap (k.tmod 8)) 8) != 0) = false, (okOr (inr (IntKind.i64.wrap (k.tmod 8)) 8) != 0) = false, (okOr (inr (IntKind.i64.wrap (7 - IntKind.i64.wrap (k.tmod 8))) 8) != 0) = false, (okOr (inr (IntKind.i64.wrap (7 - IntKind.i64.wrap (k.tmod 8))) 8) != 0) = false,
      (lenS (fileS (IntKind.i64.wrap (k.tmod 8))) != 8) = false, (lenS (rankS (IntKind.i64.wrap (k.tmod 8))) != 8) = false, (lenS (andS (fileS (IntKind.i64.wrap (k.tmod 8))) (rankS (IntKind.i64.wrap (k.tmod 8)))) != 1) = false,
      (!hasS (andS (fileS (IntKind.i64.wrap (k.tmod 8))) (rankS (IntKind.i64.wrap (k.tmod 8)))) (IntKind.i64.wrap (9 * IntKind.i64.wrap (k.tmod 8)))) = false,
      (rbS (rbS (u x)) == u x) = true, (mirS (mirS (u x)) == u x) = true, (mirS (rbS (u x)) == rbS (mirS (u x))) = true,
      (mirS (fileS (IntKind.i64.wrap (k.tmod 8))) == fileS (IntKind.i64.wrap (7 - IntKind.i64.wrap (k.tmod 8)))) = true, (rbS (fileS (IntKind.i64.wrap (k.tmod 8))) == fileS (IntKind.i64.wrap (k.tmod 8))) = true,
      (rbS (rankS (IntKind.i64.wrap (k.tmod 8))) == rankS (IntKind.i64.wrap (7 - IntKind.i64.wrap (k.tmod 8)))) = true, (mirS (rankS (IntKind.i64.wrap (k.tmod 8))) == rankS (IntKind.i64.wrap (k.tmod 8))) = true]
    (by kernel_rfl) ⟨hw', f1, f1, f2, f2, f3, f4, f5, f6, g1, g2, g3, beq_iff_eq.2 f7, beq_iff_eq.2 f8, beq_iff_eq.2 f9, beq_iff_eq.2 f10⟩ rfl rfl

theorem law6' (s k : Int) (h0 : IntKind.u64.min ≤ s) (h1 : s ≤ IntKind.u64.max) (h2 : IntKind.u8.min ≤ k) (_ : k ≤ IntKind.u8.max) : Pure Tryd.prog 4 tabs 6 [.int .u64 s, .int .u8 k] (.bool true) := by
  have a0 : (0 : Int) ≤ s := h0
  have a1 : s ≤ 18446744073709551615 := h1
  exact law6 s k a0 (by omega) h2

end Go.Proofs.YtakchekhpeokjaaDoor
