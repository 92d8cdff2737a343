/-
  BITBOARD (chapter 05): what the small functions of the program answer: With, Without, Has, File, Rank.
-/
import Derived.Test.YtakchekhpeokjaaDoorD05c
namespace Go.Proofs.YtakchekhpeokjaaDoor
open Go.Va

def inr (n m : Int) : Bool := decide (0 ≤ n) && decide (n < m)
def okOr (b : Bool) : Int := bif b then 0 else 3
def bitS (n : Int) : Int := IntKind.u64.wrap (1 * 2 ^ min n.toNat IntKind.u64.bits)
def orS (s t : Int) : Int := IntKind.u64.wrap ((BitVec.ofInt IntKind.u64.bits s ||| BitVec.ofInt IntKind.u64.bits t).toNat : Int)
def andS (s t : Int) : Int := IntKind.u64.wrap ((BitVec.ofInt IntKind.u64.bits s &&& BitVec.ofInt IntKind.u64.bits t).toNat : Int)
def andNotS (s t : Int) : Int := IntKind.u64.wrap ((BitVec.ofInt IntKind.u64.bits s &&& ~~~ BitVec.ofInt IntKind.u64.bits t).toNat : Int)
def withS (s n : Int) : Int := bif inr n 64 then orS s (bitS n) else 0
def withV (s n : Int) : Value := .tuple #[.int .u64 (withS s n), .int .i64 (okOr (inr n 64))]
def wioS (s n : Int) : Int := bif inr n 64 then andNotS s (bitS n) else 0
def wioV (s n : Int) : Value := .tuple #[.int .u64 (wioS s n), .int .i64 (okOr (inr n 64))]
def hasS (s n : Int) : Bool := inr n 64 && (andS s (bitS n) != 0)
def fileS (n : Int) : Int := bif inr n 8 then IntKind.u64.wrap (72340172838076673 * 2 ^ min n.toNat IntKind.u64.bits) else 0
def fileV (n : Int) : Value := .tuple #[.int .u64 (fileS n), .int .i64 (okOr (inr n 8))]
def rankS (n : Int) : Int := bif inr n 8 then IntKind.u64.wrap (255 * 2 ^ min (IntKind.i64.wrap (8 * n)).toNat IntKind.u64.bits) else 0
def rankV (n : Int) : Value := .tuple #[.int .u64 (rankS n), .int .i64 (okOr (inr n 8))]

theorem inr_true {n m : Int} (h0 : 0 ≤ n) (h1 : n < m) : inr n m = true := by simp [inr, h0, h1]
theorem inr_neg {n m : Int} (h : decide (n ≥ 0) = false) : inr n m = false := by
  have : ¬ n ≥ 0 := of_decide_eq_false h
  simp [inr]; omega
theorem inr_big {n m : Int} (h : decide (n < m) = false) : inr n m = false := by
  have : ¬ n < m := of_decide_eq_false h
  simp [inr]; omega

/-- By three cases. -/
theorem three {Q : Prop} (n m : Int) (h1 : decide (n ≥ 0) = false → Q) (h2 : decide (n ≥ 0) = true → decide (n < m) = false → Q) (h3 : decide (n ≥ 0) = true → decide (n < m) = true → 0 ≤ n → Q) : Q := by
  by_cases h : n ≥ 0
  · by_cases g : n < m
    · exact h3 (decide_eq_true h) (decide_eq_true g) h
    · exact h2 (decide_eq_true h) (decide_eq_false g)
  · exact h1 (decide_eq_false h)
theorem not_dec {b : Bool} (h : b = false) : (!b) = true := by rw [h]; rfl
theorem not_dec' {b : Bool} (h : b = true) : (!b) = false := by rw [h]; rfl
theorem inr_of {n m : Int} (h0 : decide (n ≥ 0) = true) (h1 : decide (n < m) = true) : inr n m = true := inr_true (of_decide_eq_true h0) (of_decide_eq_true h1)

theorem p17 (s n : Int) : Pure Tryd.prog 4 tabs 17 [.int .u64 s, .int .i64 n] (withV s n) := by
  refine three n 64 (fun h => ?_) (fun h g => ?_) fun h g h0 => ?_
  · rw [show withV s n = .tuple #[.int .u64 0, .int .i64 3] by simp [withV, withS, okOr, inr_neg h]]
    exact pureWk (n := 100) [(7, .br false)] [decide (n ≥ 0) = false] (by kernel_rfl) h rfl rfl
  · rw [show withV s n = .tuple #[.int .u64 0, .int .i64 3] by simp [withV, withS, okOr, inr_big g]]
    exact pureWk (n := 100) [(7, .br true), (6, .br true)] [decide (n ≥ 0) = true, (!decide (n < 64)) = true] (by kernel_rfl) ⟨h, not_dec g⟩ rfl rfl
  · rw [show withV s n = .tuple #[.int .u64 (orS s (bitS n)), .int .i64 0] by simp [withV, withS, okOr, inr_of h g]]
    exact pureWk (n := 100) [(7, .br true), (6, .br false), (5, .ok)] [decide (n ≥ 0) = true, (!decide (n < 64)) = false, 0 ≤ n] (by kernel_rfl) ⟨h, not_dec' g, h0⟩ rfl rfl

theorem p19 (s n : Int) : Pure Tryd.prog 4 tabs 19 [.int .u64 s, .int .i64 n] (wioV s n) := by
  refine three n 64 (fun h => ?_) (fun h g => ?_) fun h g h0 => ?_
  · rw [show wioV s n = .tuple #[.int .u64 0, .int .i64 3] by simp [wioV, wioS, okOr, inr_neg h]]
    exact pureWk (n := 100) [(7, .br false)] [decide (n ≥ 0) = false] (by kernel_rfl) h rfl rfl
  · rw [show wioV s n = .tuple #[.int .u64 0, .int .i64 3] by simp [wioV, wioS, okOr, inr_big g]]
    exact pureWk (n := 100) [(7, .br true), (6, .br true)] [decide (n ≥ 0) = true, (!decide (n < 64)) = true] (by kernel_rfl) ⟨h, not_dec g⟩ rfl rfl
  · rw [show wioV s n = .tuple #[.int .u64 (andNotS s (bitS n)), .int .i64 0] by simp [wioV, wioS, okOr, inr_of h g]]
    exact pureWk (n := 100) [(7, .br true), (6, .br false), (5, .ok)] [decide (n ≥ 0) = true, (!decide (n < 64)) = false, 0 ≤ n] (by kernel_rfl) ⟨h, not_dec' g, h0⟩ rfl rfl

theorem p12 (s n : Int) : Pure Tryd.prog 4 tabs 12 [.int .u64 s, .int .i64 n] (.bool (hasS s n)) := by
  refine three n 64 (fun h => ?_) (fun h g => ?_) fun h g h0 => ?_
  · rw [show hasS s n = false by simp [hasS, inr_neg h]]
    exact pureWk (n := 100) [(6, .br false)] [decide (n ≥ 0) = false] (by kernel_rfl) h rfl rfl
  · rw [show hasS s n = false by simp [hasS, inr_big g]]
    exact pureWk (n := 100) [(6, .br true), (5, .br false)] [decide (n ≥ 0) = true, decide (n < 64) = false] (by kernel_rfl) ⟨h, g⟩ rfl rfl
  · rw [show hasS s n = (andS s (bitS n) != 0) by simp [hasS, inr_of h g]]
    exact pureWk (n := 100) [(6, .br true), (5, .br true), (5, .ok)] [decide (n ≥ 0) = true, decide (n < 64) = true, 0 ≤ n] (by kernel_rfl) ⟨h, g, h0⟩ rfl rfl

theorem p34 (n : Int) : Pure Tryd.prog 4 tabs 34 [.int .i64 n] (fileV n) := by
  refine three n 8 (fun h => ?_) (fun h g => ?_) fun h g h0 => ?_
  · rw [show fileV n = .tuple #[.int .u64 0, .int .i64 3] by simp [fileV, fileS, okOr, inr_neg h]]
    exact pureWk (n := 100) [(7, .br false)] [decide (n ≥ 0) = false] (by kernel_rfl) h rfl rfl
  · rw [show fileV n = .tuple #[.int .u64 0, .int .i64 3] by simp [fileV, fileS, okOr, inr_big g]]
    exact pureWk (n := 100) [(7, .br true), (6, .br true)] [decide (n ≥ 0) = true, (!decide (n < 8)) = true] (by kernel_rfl) ⟨h, not_dec g⟩ rfl rfl
  · rw [show fileV n = .tuple #[.int .u64 (IntKind.u64.wrap (72340172838076673 * 2 ^ min n.toNat IntKind.u64.bits)), .int .i64 0] by simp [fileV, fileS, okOr, inr_of h g]]
    exact pureWk (n := 100) [(7, .br true), (6, .br false), (1, .ok)] [decide (n ≥ 0) = true, (!decide (n < 8)) = false, 0 ≤ n] (by kernel_rfl) ⟨h, not_dec' g, h0⟩ rfl rfl

theorem p35 (n : Int) : Pure Tryd.prog 4 tabs 35 [.int .i64 n] (rankV n) := by
  refine three n 8 (fun h => ?_) (fun h g => ?_) fun h g h0 => ?_
  · rw [show rankV n = .tuple #[.int .u64 0, .int .i64 3] by simp [rankV, rankS, okOr, inr_neg h]]
    exact pureWk (n := 100) [(7, .br false)] [decide (n ≥ 0) = false] (by kernel_rfl) h rfl rfl
  · rw [show rankV n = .tuple #[.int .u64 0, .int .i64 3] by simp [rankV, rankS, okOr, inr_big g]]
    exact pureWk (n := 100) [(7, .br true), (6, .br true)] [decide (n ≥ 0) = true, (!decide (n < 8)) = true] (by kernel_rfl) ⟨h, not_dec g⟩ rfl rfl
  · rw [show rankV n = .tuple #[.int .u64 (IntKind.u64.wrap (255 * 2 ^ min (IntKind.i64.wrap (8 * n)).toNat IntKind.u64.bits)), .int .i64 0] by simp [rankV, rankS, okOr, inr_of h g]]
    have g' := of_decide_eq_true g
    exact pureWk (n := 100) [(7, .br true), (6, .br false), (2, .ok)] [decide (n ≥ 0) = true, (!decide (n < 8)) = false, 0 ≤ IntKind.i64.wrap (8 * n)] (by kernel_rfl) ⟨h, not_dec' g, (show (0 : Int) ≤ IntKind.i64.wrap (8 * n) by rw [wrap64 (n := 8 * n) (by omega) (by omega)]; omega)⟩ rfl rfl

def pf3 : FuncId → List Value → Option Value
  | 17, [.int .u64 s, .int .i64 n] => some (withV s n)
  | 19, [.int .u64 s, .int .i64 n] => some (wioV s n)
  | 12, [.int .u64 s, .int .i64 n] => some (.bool (hasS s n))
  | 34, [.int .i64 n] => some (fileV n)
  | 35, [.int .i64 n] => some (rankV n)
  | 13, [] => some (.bool true)
  | 56, args => pf1 56 args
  | _, _ => none
def is3 (f : Nat) : Bool := Nat.beq f 56 || Nat.beq f 12 || Nat.beq f 13 || Nat.beq f 17 || Nat.beq f 19 || Nat.beq f 34 || Nat.beq f 35
theorem pf3_pure : ∀ f args v, is3 f = true → pf3 f args = some v → Pure Tryd.prog 4 tabs f args v := by
  intro f args v _ hp
  unfold pf3 at hp
  split at hp <;> first
    | (simp only [Option.some.injEq] at hp; subst hp; first | exact p17 _ _ | exact p19 _ _ | exact p12 _ _ | exact p34 _ | exact p35 _ | exact works_pure)
    | exact pf1_pure 56 _ v rfl hp
    | cases hp
def env3 : Env := mixEnv is3 pf3
set_option maxRecDepth 100000 in
theorem fns3 : fnB Tryd.prog 4 env3 okL = true := by kernel_rfl
theorem pure3 {n : Nat} {f : FuncId} {args : List Value} {v : Value} (hs : List (Nat × Hint)) (ob : List Prop)
    (hr : upshot (runH Tryd.prog env3 n 0 (.call f args) (base0 4 tabs) ⟨hs, []⟩) = some (v, ob)) (ho : All ob) (hu : strip v = v) (hv : plainB 100 v = true) : Pure Tryd.prog 4 tabs f args v :=
  pureM pf3_pure fns3 hs ob hr ho hu (plain_PF 100 v hv)

end Go.Proofs.YtakchekhpeokjaaDoor
