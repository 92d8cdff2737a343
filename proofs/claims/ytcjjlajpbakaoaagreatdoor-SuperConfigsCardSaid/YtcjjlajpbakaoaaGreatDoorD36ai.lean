/-
  SUPERBLOCK (chapter 36): super.Decode: what is not decoded.
-/
import Derived.Test.YtcjjlajpbakaoaaGreatDoorPart4
namespace Go.Proofs.YtcjjlajpbakaoaaGreatDoor
open Go.Va

theorem dec_short (c : List Value) (m g : Nat) (h1 : decide ((m : Int) < 128) = true) : Pure Tryz.prog 9 tabs 25 [L c m 1 g] (.tuple #[sup0, .int .i64 13]) :=
  pureT t16_ok (n := 1500) (v := .tuple #[sup0, .int .i64 13]) [(5, .br true)] [decide ((m : Int) < 128) = true] (by kernel_rfl) h1 rfl (plain_PF 100 _ rfl)
theorem dec_ep1 (n1 : Int) (c : List Value) (m g : Nat) (h1 : decide ((m : Int) < 128) = false) (a1 : ∀ σ, (envT t16).ov 61 [L c m 1 g, .int .i64 0, .int .i64 8] 0 σ = some (.tuple #[.int .u64 n1, .int .i64 0], σ)) (h2 : decide (n1 < 1) = true) :
    Pure Tryz.prog 9 tabs 25 [L c m 1 g] (.tuple #[sup0, .int .i64 8]) :=
  pureT t16_ok (n := 1500) (v := .tuple #[sup0, .int .i64 8]) [(5, .br false), (1, .ov (.tuple #[.int .u64 n1, .int .i64 0])), (7, .br true)]
    [decide ((m : Int) < 128) = false, ∀ σ, (envT t16).ov 61 [L c m 1 g, .int .i64 0, .int .i64 8] 0 σ = some (.tuple #[.int .u64 n1, .int .i64 0], σ), decide (n1 < 1) = true] (by kernel_rfl) ⟨h1, a1, h2⟩ rfl (plain_PF 100 _ rfl)
theorem dec_ep2 (n1 : Int) (c : List Value) (m g : Nat) (h1 : decide ((m : Int) < 128) = false) (a1 : ∀ σ, (envT t16).ov 61 [L c m 1 g, .int .i64 0, .int .i64 8] 0 σ = some (.tuple #[.int .u64 n1, .int .i64 0], σ)) (h2 : decide (n1 < 1) = false) (h3 : decide (n1 > 1099511627776) = true) :
    Pure Tryz.prog 9 tabs 25 [L c m 1 g] (.tuple #[sup0, .int .i64 8]) :=
  pureT t16_ok (n := 1500) (v := .tuple #[sup0, .int .i64 8]) [(5, .br false), (1, .ov (.tuple #[.int .u64 n1, .int .i64 0])), (7, .br false), (3, .br true)]
    [decide ((m : Int) < 128) = false, ∀ σ, (envT t16).ov 61 [L c m 1 g, .int .i64 0, .int .i64 8] 0 σ = some (.tuple #[.int .u64 n1, .int .i64 0], σ), decide (n1 < 1) = false, decide (n1 > 1099511627776) = true] (by kernel_rfl) ⟨h1, a1, h2, h3⟩ rfl (plain_PF 100 _ rfl)
theorem dec_uns (n1 : Int) (c : List Value) (m g : Nat) (h1 : decide ((m : Int) < 128) = false) (a1 : ∀ σ, (envT t16).ov 61 [L c m 1 g, .int .i64 0, .int .i64 8] 0 σ = some (.tuple #[.int .u64 n1, .int .i64 0], σ)) (h2 : decide (n1 < 1) = false) (h3 : decide (n1 > 1099511627776) = false)
    (a2 : ∀ σ, (envT t16).ov 62 [L c m 1 g, .int .i64 (IntKind.i64.wrap n1)] 0 σ = some (.tuple #[.slice none 0 0, .int .i64 13], σ)) :
    Pure Tryz.prog 9 tabs 25 [L c m 1 g] (.tuple #[sup0, .int .i64 13]) :=
  pureT t16_ok (n := 1500) (v := .tuple #[sup0, .int .i64 13]) [(5, .br false), (1, .ov (.tuple #[.int .u64 n1, .int .i64 0])), (7, .br false), (3, .br false), (3, .ov (.tuple #[.slice none 0 0, .int .i64 13]))]
    [decide ((m : Int) < 128) = false, ∀ σ, (envT t16).ov 61 [L c m 1 g, .int .i64 0, .int .i64 8] 0 σ = some (.tuple #[.int .u64 n1, .int .i64 0], σ), decide (n1 < 1) = false, decide (n1 > 1099511627776) = false,
      ∀ σ, (envT t16).ov 62 [L c m 1 g, .int .i64 (IntKind.i64.wrap n1)] 0 σ = some (.tuple #[.slice none 0 0, .int .i64 13], σ)] (by kernel_rfl) ⟨h1, a1, h2, h3, a2⟩ rfl (plain_PF 100 _ rfl)
def cut29 (c : List Value) : List Value := (c.drop (0 * 1)).take ((29 - 0) * 1)
theorem dec_sum (n1 : Int) (c c2 : List Value) (m g : Nat) (h1 : decide ((m : Int) < 128) = false) (a1 : ∀ σ, (envT t16).ov 61 [L c m 1 g, .int .i64 0, .int .i64 8] 0 σ = some (.tuple #[.int .u64 n1, .int .i64 0], σ)) (h2 : decide (n1 < 1) = false) (h3 : decide (n1 > 1099511627776) = false)
    (a2 : ∀ σ, (envT t16).ov 62 [L c m 1 g, .int .i64 (IntKind.i64.wrap n1)] 0 σ = some (.tuple #[L c2 112 1 0, .int .i64 0], σ)) (a3 : ∀ σ, (envT t16).ov 63 [L (cut29 c2) 29 1 0] 0 σ = some (.tuple #[.slice none 0 0, .int .i64 12], σ)) :
    Pure Tryz.prog 9 tabs 25 [L c m 1 g] (.tuple #[sup0, .int .i64 12]) :=
  pureT t16_ok (n := 1500) (v := .tuple #[sup0, .int .i64 12]) [(5, .br false), (1, .ov (.tuple #[.int .u64 n1, .int .i64 0])), (7, .br false), (3, .br false), (3, .ov (.tuple #[L c2 112 1 0, .int .i64 0])), (10, .ov (.tuple #[.slice none 0 0, .int .i64 12]))]
    [decide ((m : Int) < 128) = false, ∀ σ, (envT t16).ov 61 [L c m 1 g, .int .i64 0, .int .i64 8] 0 σ = some (.tuple #[.int .u64 n1, .int .i64 0], σ), decide (n1 < 1) = false, decide (n1 > 1099511627776) = false,
      ∀ σ, (envT t16).ov 62 [L c m 1 g, .int .i64 (IntKind.i64.wrap n1)] 0 σ = some (.tuple #[L c2 112 1 0, .int .i64 0], σ), ∀ σ, (envT t16).ov 63 [L (cut29 c2) 29 1 0] 0 σ = some (.tuple #[.slice none 0 0, .int .i64 12], σ)] (by kernel_rfl) ⟨h1, a1, h2, h3, a2, a3⟩ rfl (plain_PF 100 _ rfl)

end Go.Proofs.YtcjjlajpbakaoaaGreatDoor
