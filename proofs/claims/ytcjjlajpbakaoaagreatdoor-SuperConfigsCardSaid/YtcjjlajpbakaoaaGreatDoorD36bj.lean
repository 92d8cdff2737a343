/-
  SUPERBLOCK (chapter 36): super.Text.
-/
import Derived.Test.YtcjjlajpbakaoaaGreatDoorD36bi
import Derived.Test.YtcjjlajpbakaoaaGreatDoorD36i
namespace Go.Proofs.YtcjjlajpbakaoaaGreatDoor
open Go.Va

def tX : Ktab := (20, k20) :: (45, k45) :: (46, k46) :: t3
theorem tX_ok : TOk Tryz.prog 9 tabs tX := ⟨k20_ok, k45_ok, k46_ok, t3_ok⟩
def ba (l : List UInt8) : ByteArray := ⟨l.toArray⟩
def sp : ByteArray := ba [32]
def wStd : ByteArray := ba [115, 116, 97, 110, 100, 97, 114, 100]
def wZero : ByteArray := ba [122, 101, 114, 111]
def wSeed : ByteArray := ba [115, 101, 101, 100, 101, 100]
theorem txt0 (a b c s : Int) (sa sb sc J : ByteArray) (h : ((bif chk a b c 0 s then (0 : Int) else 2) != 0) = false) (a1 : ∀ σ, (envL tX).ov 44 [.int .i64 a] 0 σ = some (.string sa, σ)) (a2 : ∀ σ, (envL tX).ov 44 [.int .i64 b] 0 σ = some (.string sb, σ)) (a3 : ∀ σ, (envL tX).ov 44 [.int .i64 c] 0 σ = some (.string sc, σ))
    (a4 : ∀ σ, (envL tX).ov 46 [L [.string sa, .string sb, .string sc, .string wStd] 4 1 1, .string sp] 0 σ = some (.string J, σ)) : Pure Tryz.prog 9 tabs 16 [cfg a b c 0 s] (.tuple #[.string J, .int .i64 0]) :=
  pureL tX_ok (n := 600) (v := .tuple #[.string J, .int .i64 0]) [(8, .br false), (2, .ov (.string sa)), (2, .ov (.string sb)), (2, .ov (.string sc)), (11, .ov (.string J))] [_, _, _, _, _] (by kernel_rfl) ⟨h, a1, a2, a3, a4⟩ rfl (plain_PF 100 _ rfl)
theorem txt1 (a b c s : Int) (sa sb sc J : ByteArray) (h : ((bif chk a b c 1 s then (0 : Int) else 2) != 0) = false) (a1 : ∀ σ, (envL tX).ov 44 [.int .i64 a] 0 σ = some (.string sa, σ)) (a2 : ∀ σ, (envL tX).ov 44 [.int .i64 b] 0 σ = some (.string sb, σ)) (a3 : ∀ σ, (envL tX).ov 44 [.int .i64 c] 0 σ = some (.string sc, σ))
    (a4 : ∀ σ, (envL tX).ov 46 [L [.string sa, .string sb, .string sc, .string wZero] 4 1 1, .string sp] 0 σ = some (.string J, σ)) : Pure Tryz.prog 9 tabs 16 [cfg a b c 1 s] (.tuple #[.string J, .int .i64 0]) :=
  pureL tX_ok (n := 600) (v := .tuple #[.string J, .int .i64 0]) [(8, .br false), (2, .ov (.string sa)), (2, .ov (.string sb)), (2, .ov (.string sc)), (11, .ov (.string J))] [_, _, _, _, _] (by kernel_rfl) ⟨h, a1, a2, a3, a4⟩ rfl (plain_PF 100 _ rfl)
theorem txt2 (a b c s : Int) (sa sb sc su J : ByteArray) (h : ((bif chk a b c 2 s then (0 : Int) else 2) != 0) = false) (a1 : ∀ σ, (envL tX).ov 44 [.int .i64 a] 0 σ = some (.string sa, σ)) (a2 : ∀ σ, (envL tX).ov 44 [.int .i64 b] 0 σ = some (.string sb, σ)) (a3 : ∀ σ, (envL tX).ov 44 [.int .i64 c] 0 σ = some (.string sc, σ))
    (a5 : ∀ σ, (envL tX).ov 45 [.int .u64 s, .int .i64 10] 0 σ = some (.string su, σ)) (a4 : ∀ σ, (envL tX).ov 46 [L [.string sa, .string sb, .string sc, .string wSeed, .string su] 5 1 12, .string sp] 0 σ = some (.string J, σ)) : Pure Tryz.prog 9 tabs 16 [cfg a b c 2 s] (.tuple #[.string J, .int .i64 0]) :=
  pureL tX_ok (n := 600) (v := .tuple #[.string J, .int .i64 0]) [(8, .br false), (2, .ov (.string sa)), (2, .ov (.string sb)), (2, .ov (.string sc)), (13, .ov (.string su)), (4, .ov (.string J))] [_, _, _, _, _, _] (by kernel_rfl) ⟨h, a1, a2, a3, a5, a4⟩ rfl (plain_PF 100 _ rfl)
theorem txtN (a b c d s : Int) (h : ((bif chk a b c d s then (0 : Int) else 2) != 0) = true) : Pure Tryz.prog 9 tabs 16 [cfg a b c d s] (.tuple #[.string ⟨#[]⟩, .int .i64 2]) := by
  have h2 : chk a b c d s = false := by
    cases hc : chk a b c d s with
    | false => rfl
    | true => rw [hc] at h; cases h
  exact pureL tX_ok (n := 600) (v := .tuple #[.string ⟨#[]⟩, .int .i64 (bif chk a b c d s then 0 else 2)]) [(8, .br true)] [_] (by kernel_rfl) h (by rw [h2]; rfl) (plain_PF 100 _ rfl)

end Go.Proofs.YtcjjlajpbakaoaaGreatDoor
