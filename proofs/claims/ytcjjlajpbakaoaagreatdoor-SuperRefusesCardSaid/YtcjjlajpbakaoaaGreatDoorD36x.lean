/-
  SUPERBLOCK (chapter 36): SuperRefuses is true.
-/
import Derived.Test.YtcjjlajpbakaoaaGreatDoorX0
import Derived.Test.YtcjjlajpbakaoaaGreatDoorX1
import Derived.Test.YtcjjlajpbakaoaaGreatDoorX2
import Derived.Test.YtcjjlajpbakaoaaGreatDoorX3
import Derived.Test.YtcjjlajpbakaoaaGreatDoorX4
import Derived.Test.YtcjjlajpbakaoaaGreatDoorX5
import Derived.Test.YtcjjlajpbakaoaaGreatDoorX6
import Derived.Test.YtcjjlajpbakaoaaGreatDoorX7
import Derived.Test.YtcjjlajpbakaoaaGreatDoorX8
namespace Go.Proofs.YtcjjlajpbakaoaaGreatDoor
open Go.Va

theorem ov13_20 (a b c d s : Int) (lim : Nat) (σ : AS) : (envT t13).ov 20 [cfg a b c d s] lim σ = some (.int .i64 (bif chk a b c d s then 0 else 2), σ) := envK rfl rfl rfl rfl rfl
theorem ov13_14 (a b c d s : Int) (lim : Nat) (σ : AS) : (envT t13).ov 14 [cfg a b c d s] lim σ = some (bif chk a b c d s then .tuple #[.int .i64 2, .int .i64 (IntKind.i64.wrap (2 + b)), .int .i64 (IntKind.i64.wrap ((IntKind.i64.wrap (a - IntKind.i64.wrap (2 + b))).tdiv 4)), .int .i64 0] else .tuple #[.int .i64 0, .int .i64 0, .int .i64 0, .int .i64 2], σ) :=
  envK rfl rfl rfl rfl rfl
theorem ov13_30 (e l s c t sd : Nat) (hl : l < 65536) (hs : s < 65536) (hc : c < 65536) (ht : t < 256) (lim : Nat) (σ : AS) : (envT t13).ov 30 [drf e l s c t sd] lim σ = some (made e l s c t sd, σ) := by
  refine envK rfl rfl (show _ = [drf e l s c t sd] from rfl) rfl ?_
  unfold t13
  rw [pfT_ne rfl]
  unfold t8
  rw [pfT_eq]
  show (bif decide (0 ≤ (e : Int)) && inU16 l && inU16 s && inU16 c && (decide (0 ≤ (t : Int)) && decide ((t : Int) < 256)) && decide (0 ≤ (sd : Int)) then some (made (e : Int).toNat (l : Int).toNat (s : Int).toNat (c : Int).toNat (t : Int).toNat (sd : Int).toNat) else none) = _
  unfold inU16
  rw [nat0, nat0, nat0, nat0, nat0, nat0, decide_eq_true (show (l : Int) < 65536 by omega), decide_eq_true (show (s : Int) < 65536 by omega), decide_eq_true (show (c : Int) < 65536 by omega), decide_eq_true (show (t : Int) < 256 by omega)]
  simp only [Int.toNat_natCast]
  rfl
theorem no22 {e a b c d s : Int} (h : vld e a b c d s = false) (s0 : 0 ≤ s) (s1 : s < 18446744073709551616) : ∀ σ, (envT t13).ov 22 [sup e a b c d s] 0 σ = some (.tuple #[.slice none 0 0, .int .i64 2], σ) := fun σ => by
  rw [ov13_22 e a b c d s s0 s1]; unfold encV; rw [h]; rfl
theorem no14 {a b c d s : Int} (h : chk a b c d s = false) : ∀ σ, (envT t13).ov 14 [cfg a b c d s] 0 σ = some (.tuple #[.int .i64 0, .int .i64 0, .int .i64 0, .int .i64 2], σ) := fun σ => by rw [ov13_14, h]; rfl
theorem no20 {a b c d s : Int} (h : chk a b c d s = false) : ∀ σ, (envT t13).ov 20 [cfg a b c d s] 0 σ = some (.int .i64 2, σ) := fun σ => by rw [ov13_20, h]; rfl
theorem yes20 {a b c d s : Int} (h : chk a b c d s = true) : ∀ σ, (envT t13).ov 20 [cfg a b c d s] 0 σ = some (.int .i64 0, σ) := fun σ => by rw [ov13_20, h]; rfl
theorem vld_no {e a b c d s : Int} (h : chk a b c d s = false) : vld e a b c d s = false := by unfold vld; rw [h]; simp

theorem law10 (e l s c t sd wh n : Nat) (hl : l < 65536) (hs : s < 65536) (hc : c < 65536) (ht : t < 256) (hsd : sd < 18446744073709551616) (hwh : wh < 256) (hn : n < 65536) :
    Pure Tryz.prog 9 tabs 10 [drf e l s c t sd, .int .u8 wh, .int .u16 n] (.bool true) := by
  have hck := chk_made e l s c t sd
  have h1 : ∀ σ, (envT t13).ov 30 [drf e l s c t sd] 0 σ = some (made e l s c t sd, σ) := fun σ => ov13_30 e l s c t sd hl hs hc ht 0 σ
  unfold made at h1
  generalize hE : ((1 + e % 1099511627776 : Nat) : Int) = E at h1
  generalize hA : ((16 + l % 1009 + 18 + s % (4096 - (16 + l % 1009) - 17) : Nat) : Int) = A at h1 hck
  generalize hB : ((16 + l % 1009 : Nat) : Int) = B at h1 hck
  generalize hC : ((1 + c % 64 : Nat) : Int) = C at h1 hck
  generalize hD : ((t % 3 : Nat) : Int) = D at h1 hck
  generalize hS : ((bif Nat.beq (t % 3) 2 then sd else 0 : Nat) : Int) = S at h1 hck
  have hS2 : 0 ≤ S ∧ S < 18446744073709551616 := by
    rw [← hS]
    cases Nat.beq (t % 3) 2 <;> simp <;> omega
  have hE2 : 1 ≤ E ∧ E ≤ 1099511627776 := by omega
  obtain ⟨k1, k2, k3, k4, k5, k6, k7, k8, _⟩ := chk_spec hck
  have hv : vld E A B C D S = true := by
    unfold vld
    rw [decide_eq_true (show E ≥ 1 by omega), decide_eq_true (show E ≤ 1099511627776 by omega), hck]; rfl
  have h2 : ∃ c1, ∀ σ, (envT t13).ov 22 [sup E A B C D S] 0 σ = some (.tuple #[L c1 128 1 1, .int .i64 0], σ) := by
    refine ⟨bys (encL E.toNat A.toNat B.toNat C.toNat D.toNat S.toNat), fun σ => ?_⟩
    rw [ov13_22 E A B C D S hS2.1 hS2.2]; unfold encV; rw [hv]; rfl
  obtain ⟨c1, h2⟩ := h2
  have hm : ((wh : Int).tmod 9) = ((wh % 9 : Nat) : Int) := by rw [Int.tmod_eq_emod_of_nonneg (by omega)]; rfl
  have hw : IntKind.i64.wrap (n : Int) = n := wrap64 (by omega) (by omega)
  have h9 : wh % 9 < 9 := Nat.mod_lt _ (by omega)
  have hq : ∀ k : Nat, wh % 9 = k → Value.int .u8 ((wh : Int).tmod 9) = .int .u8 (k : Int) := fun k h => by rw [hm, h]
  generalize hk : wh % 9 = k at h9
  match k, h9 with
  | 0, _ =>
    have hno : vld (IntKind.i64.wrap (0 - (IntKind.i64.wrap (n : Int)))) A B C D S = false := by
      unfold vld
      rw [hw, wrap64 (by omega) (by omega), decide_eq_false (by omega)]; rfl
    exact ref0 _ _ _ _ _ _ _ _ _ _ _ _ _ _ c1 h1 h2 (hq 0 hk) (no22 hno hS2.1 hS2.2) (yes20 hck)
  | 1, _ =>
    have hno : vld (IntKind.i64.wrap (1099511627777 + (IntKind.i64.wrap (n : Int)))) A B C D S = false := by
      unfold vld
      rw [hw, wrap64 (by omega) (by omega), decide_eq_true (by omega), decide_eq_false (by omega)]; rfl
    exact ref1 _ _ _ _ _ _ _ _ _ _ _ _ _ _ c1 h1 h2 (hq 1 hk) (no22 hno hS2.1 hS2.2) (yes20 hck)
  | 2, _ =>
    have hno : chk A (IntKind.i64.wrap (15 - (IntKind.i64.wrap (n : Int)))) C D S = false := by
      cases hx : chk A (IntKind.i64.wrap (15 - (IntKind.i64.wrap (n : Int)))) C D S with
      | false => rfl
      | true =>
        exfalso
        have hs := chk_spec hx
        rw [hw] at hs
        rw [wrap64 (n := 15 - (n : Int)) (by omega) (by omega)] at hs
        omega
    exact ref2 _ _ _ _ _ _ _ _ _ _ _ _ _ _ c1 h1 h2 (hq 2 hk) (no22 (vld_no hno) hS2.1 hS2.2) (no14 hno) (no20 hno)
  | 3, _ =>
    have hno : chk A (IntKind.i64.wrap (IntKind.i64.wrap (A - 17) + (IntKind.i64.wrap (n : Int)))) C D S = false := by
      cases hx : chk A (IntKind.i64.wrap (IntKind.i64.wrap (A - 17) + (IntKind.i64.wrap (n : Int)))) C D S with
      | false => rfl
      | true =>
        exfalso
        have hs := chk_spec hx
        rw [hw] at hs
        rw [wrap64 (n := A - 17) (by omega) (by omega)] at hs
        rw [wrap64 (n := A - 17 + (n : Int)) (by omega) (by omega)] at hs
        omega
    exact ref3 _ _ _ _ _ _ _ _ _ _ _ _ _ _ c1 h1 h2 (hq 3 hk) (no22 (vld_no hno) hS2.1 hS2.2) (no14 hno) (no20 hno)
  | 4, _ =>
    have hno : chk (IntKind.i64.wrap (4097 + (IntKind.i64.wrap (n : Int)))) B C D S = false := by
      cases hx : chk (IntKind.i64.wrap (4097 + (IntKind.i64.wrap (n : Int)))) B C D S with
      | false => rfl
      | true =>
        exfalso
        have hs := chk_spec hx
        rw [hw] at hs
        rw [wrap64 (n := 4097 + (n : Int)) (by omega) (by omega)] at hs
        omega
    exact ref4 _ _ _ _ _ _ _ _ _ _ _ _ _ _ c1 h1 h2 (hq 4 hk) (no22 (vld_no hno) hS2.1 hS2.2) (no14 hno) (no20 hno)
  | 5, _ =>
    have hno : chk A B (IntKind.i64.wrap (0 - (IntKind.i64.wrap (n : Int)))) D S = false := by
      cases hx : chk A B (IntKind.i64.wrap (0 - (IntKind.i64.wrap (n : Int)))) D S with
      | false => rfl
      | true =>
        exfalso
        have hs := chk_spec hx
        rw [hw] at hs
        rw [wrap64 (n := 0 - (n : Int)) (by omega) (by omega)] at hs
        omega
    exact ref5 _ _ _ _ _ _ _ _ _ _ _ _ _ _ c1 h1 h2 (hq 5 hk) (no22 (vld_no hno) hS2.1 hS2.2) (no14 hno) (no20 hno)
  | 6, _ =>
    have hno : chk A B (IntKind.i64.wrap (65 + (IntKind.i64.wrap (n : Int)))) D S = false := by
      cases hx : chk A B (IntKind.i64.wrap (65 + (IntKind.i64.wrap (n : Int)))) D S with
      | false => rfl
      | true =>
        exfalso
        have hs := chk_spec hx
        rw [hw] at hs
        rw [wrap64 (n := 65 + (n : Int)) (by omega) (by omega)] at hs
        omega
    exact ref6 _ _ _ _ _ _ _ _ _ _ _ _ _ _ c1 h1 h2 (hq 6 hk) (no22 (vld_no hno) hS2.1 hS2.2) (no14 hno) (no20 hno)
  | 7, _ =>
    have h2n : n % 2 = 0 ∨ n % 2 = 1 := by omega
    rcases h2n with hr | hr
    · have h5 : Value.int .i64 ((IntKind.i64.wrap (n : Int)).tmod 2) = .int .i64 0 := by
        rw [hw, Int.tmod_eq_emod_of_nonneg (by omega)]
        exact congrArg _ (by omega)
      have hno : chk A B C (IntKind.i64.wrap (-1 - (IntKind.i64.wrap (n : Int)))) S = false := by
        cases hx : chk A B C (IntKind.i64.wrap (-1 - (IntKind.i64.wrap (n : Int)))) S with
        | false => rfl
        | true =>
          exfalso
          have hs := chk_spec hx
          rw [hw] at hs
          rw [wrap64 (n := -1 - (n : Int)) (by omega) (by omega)] at hs
          omega
      exact ref7a _ _ _ _ _ _ _ _ _ _ _ _ _ _ c1 h1 h2 (hq 7 hk) h5 (no22 (vld_no hno) hS2.1 hS2.2) (no14 hno) (no20 hno)
    · have h5 : Value.int .i64 ((IntKind.i64.wrap (n : Int)).tmod 2) = .int .i64 1 := by
        rw [hw, Int.tmod_eq_emod_of_nonneg (by omega)]
        exact congrArg _ (by omega)
      have hno : chk A B C (IntKind.i64.wrap (3 + (IntKind.i64.wrap (n : Int)))) S = false := by
        cases hx : chk A B C (IntKind.i64.wrap (3 + (IntKind.i64.wrap (n : Int)))) S with
        | false => rfl
        | true =>
          exfalso
          have hs := chk_spec hx
          rw [hw] at hs
          rw [wrap64 (n := 3 + (n : Int)) (by omega) (by omega)] at hs
          omega
      exact ref7b _ _ _ _ _ _ _ _ _ _ _ _ _ _ c1 h1 h2 (hq 7 hk) h5 (no22 (vld_no hno) hS2.1 hS2.2) (no14 hno) (no20 hno)
  | 8, _ =>
    have hu : IntKind.u64.wrap (IntKind.u64.wrap (IntKind.i64.wrap (n : Int)) + 1) = (n : Int) + 1 := by
      rw [hw, show IntKind.u64.wrap (n : Int) = n from wrap_fits .u64 (by show (0 : Int) ≤ n; omega) (by show (n : Int) ≤ 18446744073709551615; omega)]
      exact wrap_fits .u64 (by show (0 : Int) ≤ n + 1; omega) (by show (n : Int) + 1 ≤ 18446744073709551615; omega)
    have hno : chk A B C 1 (IntKind.u64.wrap (IntKind.u64.wrap (IntKind.i64.wrap (n : Int)) + 1)) = false := by
      cases hx : chk A B C 1 (IntKind.u64.wrap (IntKind.u64.wrap (IntKind.i64.wrap (n : Int)) + 1)) with
      | false => rfl
      | true =>
        exfalso
        obtain ⟨_, _, _, _, _, _, _, _, hs⟩ := chk_spec hx
        have := hs (by decide)
        rw [hu] at this
        omega
    exact ref8 _ _ _ _ _ _ _ _ _ _ _ _ _ _ c1 h1 h2 (hq 8 hk) (no22 (vld_no hno) (by rw [hu]; omega) (by rw [hu]; omega)) (no14 hno) (no20 hno)

theorem law10' (e l s c t sd wh n : Int) (_ : IntKind.u64.min ≤ e) (_ : e ≤ IntKind.u64.max) (_ : IntKind.u16.min ≤ l) (_ : l ≤ IntKind.u16.max) (_ : IntKind.u16.min ≤ s) (_ : s ≤ IntKind.u16.max) (_ : IntKind.u16.min ≤ c) (_ : c ≤ IntKind.u16.max)
    (_ : IntKind.u8.min ≤ t) (_ : t ≤ IntKind.u8.max) (_ : IntKind.u64.min ≤ sd) (_ : sd ≤ IntKind.u64.max) (_ : IntKind.u8.min ≤ wh) (_ : wh ≤ IntKind.u8.max) (_ : IntKind.u16.min ≤ n) (_ : n ≤ IntKind.u16.max) :
    Pure Tryz.prog 9 tabs 10 [drf e l s c t sd, .int .u8 wh, .int .u16 n] (.bool true) := by
  have k0 : IntKind.u64.min = 0 := rfl
  have k1 : IntKind.u16.min = 0 := rfl
  have k2 : IntKind.u16.max = 65535 := rfl
  have k3 : IntKind.u8.min = 0 := rfl
  have k4 : IntKind.u8.max = 255 := rfl
  have k5 : IntKind.u64.max = 18446744073709551615 := rfl
  have := law10 e.toNat l.toNat s.toNat c.toNat t.toNat sd.toNat wh.toNat n.toNat (by omega) (by omega) (by omega) (by omega) (by omega) (by omega) (by omega)
  rw [Int.toNat_of_nonneg (by omega), Int.toNat_of_nonneg (by omega), Int.toNat_of_nonneg (by omega), Int.toNat_of_nonneg (by omega), Int.toNat_of_nonneg (by omega), Int.toNat_of_nonneg (by omega), Int.toNat_of_nonneg (by omega), Int.toNat_of_nonneg (by omega)] at this
  exact this

end Go.Proofs.YtcjjlajpbakaoaaGreatDoor
