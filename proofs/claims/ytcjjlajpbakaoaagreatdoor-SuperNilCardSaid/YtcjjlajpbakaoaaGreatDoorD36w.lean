/-
  SUPERBLOCK (chapter 36): SuperNil is true.
-/
import Derived.Test.YtcjjlajpbakaoaaGreatDoorD36v
namespace Go.Proofs.YtcjjlajpbakaoaaGreatDoor
open Go.Va

theorem law5a (e a b c d s : Int) (c1 : List Value) (h : ∀ σ, (envT t13).ov 22 [sup e a b c d s] 0 σ = some (.tuple #[L c1 128 1 1, .int .i64 0], σ)) : Pure Tryz.prog 9 tabs 5 [sup e a b c d s] (.bool true) :=
  pureT t13_ok (n := 2000) (v := .bool true) [(93, .ov (.tuple #[L c1 128 1 1, .int .i64 0])), (33, .ov (.tuple #[L c1 128 1 1, .int .i64 0]))]
    [∀ σ, (envT t13).ov 22 [sup e a b c d s] 0 σ = some (.tuple #[L c1 128 1 1, .int .i64 0], σ), ∀ σ, (envT t13).ov 22 [sup e a b c d s] 0 σ = some (.tuple #[L c1 128 1 1, .int .i64 0], σ)] (by kernel_rfl) ⟨h, h⟩ rfl (.bool _)
theorem law5b (e a b c d s : Int) (h : ∀ σ, (envT t13).ov 22 [sup e a b c d s] 0 σ = some (.tuple #[.slice none 0 0, .int .i64 2], σ)) : Pure Tryz.prog 9 tabs 5 [sup e a b c d s] (.bool true) :=
  pureT t13_ok (n := 2000) (v := .bool true) [(93, .ov (.tuple #[.slice none 0 0, .int .i64 2])), (33, .ov (.tuple #[.slice none 0 0, .int .i64 2]))]
    [∀ σ, (envT t13).ov 22 [sup e a b c d s] 0 σ = some (.tuple #[.slice none 0 0, .int .i64 2], σ), ∀ σ, (envT t13).ov 22 [sup e a b c d s] 0 σ = some (.tuple #[.slice none 0 0, .int .i64 2], σ)] (by kernel_rfl) ⟨h, h⟩ rfl (.bool _)
theorem law5' (e a b c d s : Int) (_ : IntKind.i64.min ≤ e) (_ : e ≤ IntKind.i64.max) (_ : IntKind.i64.min ≤ a) (_ : a ≤ IntKind.i64.max) (_ : IntKind.i64.min ≤ b) (_ : b ≤ IntKind.i64.max) (_ : IntKind.i64.min ≤ c) (_ : c ≤ IntKind.i64.max)
    (_ : IntKind.i64.min ≤ d) (_ : d ≤ IntKind.i64.max) (s0 : IntKind.u64.min ≤ s) (s1 : s ≤ IntKind.u64.max) : Pure Tryz.prog 9 tabs 5 [sup e a b c d s] (.bool true) := by
  have k0 : IntKind.u64.min = 0 := rfl
  have k1 : IntKind.u64.max = 18446744073709551615 := rfl
  have h := ov13_22 e a b c d s (by omega) (by omega) 0
  unfold encV at h
  cases hv : vld e a b c d s with
  | true => rw [hv, cond_true] at h; exact law5a e a b c d s _ h
  | false => rw [hv, cond_false] at h; exact law5b e a b c d s h

end Go.Proofs.YtcjjlajpbakaoaaGreatDoor
