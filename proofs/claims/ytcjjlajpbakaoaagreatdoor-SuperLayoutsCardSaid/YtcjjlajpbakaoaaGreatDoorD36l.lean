/-
  SUPERBLOCK (chapter 36): SuperLayouts is true.
-/
import Derived.Test.YtcjjlajpbakaoaaGreatDoorD36k
namespace Go.Proofs.YtcjjlajpbakaoaaGreatDoor
open Go.Va

theorem law8a (e l s c t sd E a b k d sd' B N : Int) (h1 : ∀ σ, (envT t8).ov 30 [drf e l s c t sd] 0 σ = some (sup E a b k d sd', σ))
    (h2 : ∀ σ, (envT t8).ov 14 [cfg a b k d sd'] 0 σ = some (.tuple #[.int .i64 2, .int .i64 B, .int .i64 N, .int .i64 0], σ)) (h3 : (B == IntKind.i64.wrap (2 + b)) = true) (h4 : decide (N ≥ 4) = true)
    (h5 : decide (IntKind.i64.wrap (IntKind.i64.wrap (a - B) - IntKind.i64.wrap (4 * N)) ≥ 0) = true) (h6 : decide (IntKind.i64.wrap (IntKind.i64.wrap (a - B) - IntKind.i64.wrap (4 * N)) < 4) = true) : Pure Tryz.prog 9 tabs 8 [drf e l s c t sd] (.bool true) :=
  pureT t8_ok (n := 300) (v := .bool true) [(3, .ov (sup E a b k d sd')), (4, .ov (.tuple #[.int .i64 2, .int .i64 B, .int .i64 N, .int .i64 0])), (29, .br true), (5, .br true), (3, .br true), (3, .br true)]
    [∀ σ, (envT t8).ov 30 [drf e l s c t sd] 0 σ = some (sup E a b k d sd', σ), ∀ σ, (envT t8).ov 14 [cfg a b k d sd'] 0 σ = some (.tuple #[.int .i64 2, .int .i64 B, .int .i64 N, .int .i64 0], σ), (B == IntKind.i64.wrap (2 + b)) = true, decide (N ≥ 4) = true,
      decide (IntKind.i64.wrap (IntKind.i64.wrap (a - B) - IntKind.i64.wrap (4 * N)) ≥ 0) = true, decide (IntKind.i64.wrap (IntKind.i64.wrap (a - B) - IntKind.i64.wrap (4 * N)) < 4) = true] (by kernel_rfl) ⟨h1, h2, h3, h4, h5, h6⟩ rfl (.bool _)

theorem law8 (e l s c t sd : Nat) (hl : l < 65536) (hs : s < 65536) (hc : c < 65536) (ht : t < 256) : Pure Tryz.prog 9 tabs 8 [drf e l s c t sd] (.bool true) := by
  have hmod : s % (4096 - (16 + l % 1009) - 17) < 4096 - (16 + l % 1009) - 17 := Nat.mod_lt _ (by omega)
  generalize hr : s % (4096 - (16 + l % 1009) - 17) = r at hmod
  have hck := chk_made e l s c t sd
  have h1 : ∀ σ, (envT t8).ov 30 [drf e l s c t sd] 0 σ = some (made e l s c t sd, σ) := fun σ => ov8_30 e l s c t sd hl hs hc ht 0 σ
  unfold made at h1
  rw [hr] at h1 hck
  generalize hlg : 16 + l % 1009 = g at h1 hck hmod
  have hg : 16 ≤ g ∧ g < 1025 := by omega
  have hB : IntKind.i64.wrap (2 + (g : Int)) = ((2 + g : Nat) : Int) := by rw [wrap64 (by omega) (by omega)]; omega
  have hN : IntKind.i64.wrap ((IntKind.i64.wrap (((g + 18 + r : Nat) : Int) - IntKind.i64.wrap (2 + (g : Int)))).tdiv 4) = (((16 + r) / 4 : Nat) : Int) := by
    rw [hB, wrap64 (n := ((g + 18 + r : Nat) : Int) - ((2 + g : Nat) : Int)) (by omega) (by omega), Int.tdiv_eq_ediv_of_nonneg (by omega), wrap64 (by omega) (by omega)]; omega
  have h5 : IntKind.i64.wrap (IntKind.i64.wrap (((g + 18 + r : Nat) : Int) - ((2 + g : Nat) : Int)) - IntKind.i64.wrap (4 * (((16 + r) / 4 : Nat) : Int))) = (((16 + r) % 4 : Nat) : Int) := by
    rw [wrap64 (n := ((g + 18 + r : Nat) : Int) - ((2 + g : Nat) : Int)) (by omega) (by omega), wrap64 (n := 4 * (((16 + r) / 4 : Nat) : Int)) (by omega) (by omega), wrap64 (by omega) (by omega)]; omega
  refine law8a e l s c t sd _ _ _ _ _ _ ((2 + g : Nat) : Int) (((16 + r) / 4 : Nat) : Int) h1 (fun σ => ?_) (by rw [hB, beq_self_eq_true]) (decide_eq_true (by omega)) (by rw [h5]; exact decide_eq_true (by omega)) (by rw [h5]; exact decide_eq_true (by omega))
  rw [ov8_14, hck, cond_true, hB, ← hB, hN, hB]

theorem law8' (e l s c t sd : Int) (e0 : IntKind.u64.min ≤ e) (e1 : e ≤ IntKind.u64.max) (l0 : IntKind.u16.min ≤ l) (l1 : l ≤ IntKind.u16.max) (s0 : IntKind.u16.min ≤ s) (s1 : s ≤ IntKind.u16.max) (c0 : IntKind.u16.min ≤ c) (c1 : c ≤ IntKind.u16.max)
    (t0 : IntKind.u8.min ≤ t) (t1 : t ≤ IntKind.u8.max) (d0 : IntKind.u64.min ≤ sd) (d1 : sd ≤ IntKind.u64.max) : Pure Tryz.prog 9 tabs 8 [drf e l s c t sd] (.bool true) := by
  have k0 : IntKind.u64.min = 0 := rfl
  have k1 : IntKind.u16.min = 0 := rfl
  have k2 : IntKind.u16.max = 65535 := rfl
  have k3 : IntKind.u8.min = 0 := rfl
  have k4 : IntKind.u8.max = 255 := rfl
  have := law8 e.toNat l.toNat s.toNat c.toNat t.toNat sd.toNat (by omega) (by omega) (by omega) (by omega)
  rw [Int.toNat_of_nonneg (by omega), Int.toNat_of_nonneg (by omega), Int.toNat_of_nonneg (by omega), Int.toNat_of_nonneg (by omega), Int.toNat_of_nonneg (by omega), Int.toNat_of_nonneg (by omega)] at this
  exact this

end Go.Proofs.YtcjjlajpbakaoaaGreatDoor
