/-
  SUPERBLOCK (chapter 36): SuperRefuses: its runs.
-/
import Derived.Test.YtcjjlajpbakaoaaGreatDoorD36v
namespace Go.Proofs.YtcjjlajpbakaoaaGreatDoor
open Go.Va

set_option maxRecDepth 100000
theorem ref5 (x0 x1 x2 x3 x4 x5 wh n E A B C D S : Int) (c1 : List Value) (h1 : ∀ σ, (envT t13).ov 30 [drf x0 x1 x2 x3 x4 x5] 0 σ = some (sup E A B C D S, σ)) (h2 : ∀ σ, (envT t13).ov 22 [sup E A B C D S] 0 σ = some (.tuple #[L c1 128 1 1, .int .i64 0], σ)) (h3 : Value.int .u8 (wh.tmod 9) = .int .u8 5) (h4 : ∀ σ, (envT t13).ov 22 [sup E A B (IntKind.i64.wrap (0 - (IntKind.i64.wrap n))) D S] 0 σ = some (.tuple #[.slice none 0 0, .int .i64 2], σ)) (h6 : ∀ σ, (envT t13).ov 14 [cfg A B (IntKind.i64.wrap (0 - (IntKind.i64.wrap n))) D S] 0 σ = some (.tuple #[.int .i64 0, .int .i64 0, .int .i64 0, .int .i64 2], σ)) (h7 : ∀ σ, (envT t13).ov 20 [cfg A B (IntKind.i64.wrap (0 - (IntKind.i64.wrap n))) D S] 0 σ = some (.int .i64 2, σ)) :
    Pure Tryz.prog 9 tabs 10 [drf x0 x1 x2 x3 x4 x5, .int .u8 wh, .int .u16 n] (.bool true) :=
  pureT t13_ok (n := 4000) (v := .bool true) [(3, .ov (sup E A B C D S)), (98, .ov (.tuple #[L c1 128 1 1, .int .i64 0])), (467, .ov (.tuple #[L c1 128 1 1, .int .i64 0])), (467, .eq (.int .u8 5)), (24, .ov (.tuple #[.slice none 0 0, .int .i64 2])), (19, .ov (.tuple #[.slice none 0 0, .int .i64 2])), (72, .ov (.tuple #[.slice none 0 0, .int .i64 2])), (67, .eq (.int .u8 5)), (4, .ov (.tuple #[.int .i64 0, .int .i64 0, .int .i64 0, .int .i64 2])), (16, .ov (.int .i64 2)), (14, .ov (.int .i64 2))]
    [∀ σ, (envT t13).ov 30 [drf x0 x1 x2 x3 x4 x5] 0 σ = some (sup E A B C D S, σ), ∀ σ, (envT t13).ov 22 [sup E A B C D S] 0 σ = some (.tuple #[L c1 128 1 1, .int .i64 0], σ), ∀ σ, (envT t13).ov 22 [sup E A B C D S] 0 σ = some (.tuple #[L c1 128 1 1, .int .i64 0], σ), Value.int .u8 (wh.tmod 9) = .int .u8 5, ∀ σ, (envT t13).ov 22 [sup E A B (IntKind.i64.wrap (0 - (IntKind.i64.wrap n))) D S] 0 σ = some (.tuple #[.slice none 0 0, .int .i64 2], σ), ∀ σ, (envT t13).ov 22 [sup E A B (IntKind.i64.wrap (0 - (IntKind.i64.wrap n))) D S] 0 σ = some (.tuple #[.slice none 0 0, .int .i64 2], σ), ∀ σ, (envT t13).ov 22 [sup E A B (IntKind.i64.wrap (0 - (IntKind.i64.wrap n))) D S] 0 σ = some (.tuple #[.slice none 0 0, .int .i64 2], σ), Value.int .u8 (wh.tmod 9) = .int .u8 5, ∀ σ, (envT t13).ov 14 [cfg A B (IntKind.i64.wrap (0 - (IntKind.i64.wrap n))) D S] 0 σ = some (.tuple #[.int .i64 0, .int .i64 0, .int .i64 0, .int .i64 2], σ), ∀ σ, (envT t13).ov 20 [cfg A B (IntKind.i64.wrap (0 - (IntKind.i64.wrap n))) D S] 0 σ = some (.int .i64 2, σ), ∀ σ, (envT t13).ov 20 [cfg A B (IntKind.i64.wrap (0 - (IntKind.i64.wrap n))) D S] 0 σ = some (.int .i64 2, σ)] (by kernel_rfl) ⟨h1, h2, h2, h3, h4, h4, h4, h3, h6, h7, h7⟩ rfl (.bool _)

end Go.Proofs.YtcjjlajpbakaoaaGreatDoor
