/-
  SUPERBLOCK (chapter 36): SuperCodes: the runs.
-/
import Derived.Test.YtcjjlajpbakaoaaGreatDoorD36aw
namespace Go.Proofs.YtcjjlajpbakaoaaGreatDoor
open Go.Va

def tC : Ktab := (25, k25) :: (26, k25) :: (27, k111) :: (23, k23) :: t13
theorem tC_ok : TOk Tryz.prog 9 tabs tC := ⟨k25_ok, k26_ok, k27_ok, k23_ok, t13_ok⟩
def supL (e a b c d s : Int) : List Value := [.int .i64 e, .int .i64 a, .int .i64 b, .int .i64 c, .int .i64 d, .int .u64 s]
def bx (t : Nat) (e a b c d s : Int) : AObj := .cells (supL e a b c d s) true (none, some t) none
def SC (n : Nat) (e a b c d s e' a' b' c' d' s' : Int) : AS := (((((((base0 9 tabs).push (bx 36 e a b c d s)).push (.tail n 1 5)).push (bx 36 e a b c d s)).push (bx 41 e a b c d s)).push (bx 36 e' a' b' c' d' s')).push (bx 41 e' a' b' c' d' s')).push (bx 36 e' a' b' c' d' s') |>.push (bx 41 e' a' b' c' d' s')
def SC0 (e a b c d s e' a' b' c' d' s' : Int) : AS := ((((((base0 9 tabs).push (bx 36 e a b c d s)).push (bx 36 e a b c d s)).push (bx 41 e a b c d s)).push (bx 36 e' a' b' c' d' s')).push (bx 41 e' a' b' c' d' s')).push (bx 36 e' a' b' c' d' s') |>.push (bx 41 e' a' b' c' d' s')
set_option maxRecDepth 100000 in
theorem codes_ok (e a b c d s e' a' b' c' d' s' r : Int) (q q7 : List Value) (n : Nat) (h1 : decide ((n : Int) > 300) = false) (h0 : n ≠ 0)
    (p1 : ∀ σ, (envT tC).ov 22 [sup e a b c d s] 0 σ = some (.tuple #[L q7 128 1 1, .int .i64 0], σ)) (p2 : ∀ σ, (envT tC).ov 23 [sup e a b c d s] 0 σ = some (.tuple #[L q7 128 1 0, .int .i64 0], σ))
    (p3 : ∀ σ, (envT tC).ov 25 [L q n 1 0] 0 σ = some (.tuple #[sup e' a' b' c' d' s', .int .i64 r], σ)) (p4 : ∀ σ, (envT tC).ov 26 [L q n 1 0] 0 σ = some (.tuple #[sup e' a' b' c' d' s', .int .i64 r], σ))
    (p5 : ∀ lim σ, (envT tC).ov 27 [L q7 128 1 1, L q7 128 1 0] lim σ = some (.bool true, σ)) (p6 : ∀ lim σ, (envT tC).ov 27 [L q (0 + n) 1 12, L q n 1 0] lim σ = some (.bool true, σ)) :
    Pure Tryz.prog 9 tabs 4 [sup e a b c d s, L q n 1 0] (.bool true) :=
  pureT tC_ok (n := 2000) (v := .bool true) [(5, .br false), (2, .ok), (2, .ov (.tuple #[L q7 128 1 1, .int .i64 0])), (15, .ov (.tuple #[L q7 128 1 0, .int .i64 0])), (6, .ov (.tuple #[sup e' a' b' c' d' s', .int .i64 r])), (7, .ov (.tuple #[sup e' a' b' c' d' s', .int .i64 r])), (8, .ov (.bool true)), (17, .sem (.bool true) (SC q.length e a b c d s e' a' b' c' d' s')), (6, .br true), (2, .ov (.bool true))]
    [decide ((n : Int) > 300) = false, n ≠ 0 ∧ (0 + n) * 1 ≤ 70368744177664, ∀ σ, (envT tC).ov 22 [sup e a b c d s] 0 σ = some (.tuple #[L q7 128 1 1, .int .i64 0], σ), ∀ σ, (envT tC).ov 23 [sup e a b c d s] 0 σ = some (.tuple #[L q7 128 1 0, .int .i64 0], σ),
     ∀ σ, (envT tC).ov 25 [L q n 1 0] 0 σ = some (.tuple #[sup e' a' b' c' d' s', .int .i64 r], σ), ∀ σ, (envT tC).ov 26 [L q n 1 0] 0 σ = some (.tuple #[sup e' a' b' c' d' s', .int .i64 r], σ),
     ∀ σ, (envT tC).ov 27 [L q7 128 1 1, L q7 128 1 0] 0 σ = some (.bool true, σ), runA Tryz.prog 0 (binOp .eql 41 (sup e' a' b' c' d' s') (sup e' a' b' c' d' s')) (SC q.length e a b c d s e' a' b' c' d' s') = some (.bool true, SC q.length e a b c d s e' a' b' c' d' s'), (r == r) = true,
     ∀ σ, (envT tC).ov 27 [L q (0 + n) 1 12, L q n 1 0] 0 σ = some (.bool true, σ)] (by kernel_rfl)
    ⟨h1, ⟨h0, by have := of_decide_eq_false h1; omega⟩, p1, p2, p3, p4, p5 0, by rw [eqSup 41 (.inr rfl), eqS_self], beq_self_eq_true r, p6 0⟩ rfl (.bool _)

end Go.Proofs.YtcjjlajpbakaoaaGreatDoor
