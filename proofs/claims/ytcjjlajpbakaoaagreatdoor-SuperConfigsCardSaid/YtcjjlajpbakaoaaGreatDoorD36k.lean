/-
  SUPERBLOCK (chapter 36): drafts and layouts replaced.
-/
import Derived.Test.YtcjjlajpbakaoaaGreatDoorD36j
namespace Go.Proofs.YtcjjlajpbakaoaaGreatDoor
open Go.Va

def inU16 (n : Int) : Bool := decide (0 ≤ n) && decide (n < 65536)
def made (e l s c t sd : Nat) : Value := sup ((1 + e % 1099511627776 : Nat) : Int) ((16 + l % 1009 + 18 + s % (4096 - (16 + l % 1009) - 17) : Nat) : Int) ((16 + l % 1009 : Nat) : Int) ((1 + c % 64 : Nat) : Int) ((t % 3 : Nat) : Int) ((bif Nat.beq (t % 3) 2 then sd else 0 : Nat) : Int)
def k30 : List Value → Option Value
  | [.agg ⟨[.int .u64 e, .int .u16 l, .int .u16 s, .int .u16 c, .int .u8 t, .int .u64 sd]⟩] =>
    bif decide (0 ≤ e) && inU16 l && inU16 s && inU16 c && (decide (0 ≤ t) && decide (t < 256)) && decide (0 ≤ sd) then some (made e.toNat l.toNat s.toNat c.toNat t.toNat sd.toNat) else none
  | _ => none
theorem k30_ok : KOk Tryz.prog 9 tabs 30 k30 := by
  intro args v h
  unfold k30 at h
  split at h
  · rename_i e l s c t sd
    cases hb : (decide (0 ≤ e) && inU16 l && inU16 s && inU16 c && (decide (0 ≤ t) && decide (t < 256)) && decide (0 ≤ sd)) with
    | false => rw [hb] at h; cases h
    | true =>
      rw [hb, cond_true] at h
      cases h
      simp only [inU16, Bool.and_eq_true, decide_eq_true_eq] at hb
      obtain ⟨⟨⟨⟨⟨h1, h2⟩, h3⟩, h4⟩, h5⟩, h6⟩ := hb
      have := p30 e.toNat l.toNat s.toNat c.toNat t.toNat sd.toNat (by omega) (by omega) (by omega) (by omega)
      rw [Int.toNat_of_nonneg h1, Int.toNat_of_nonneg h2.1, Int.toNat_of_nonneg h3.1, Int.toNat_of_nonneg h4.1, Int.toNat_of_nonneg h5.1, Int.toNat_of_nonneg h6] at this
      exact this
  · cases h
def k14 : List Value → Option Value
  | [.agg ⟨[.int .i64 a, .int .i64 b, .int .i64 c, .int .i64 d, .int .u64 s]⟩] =>
    some (bif chk a b c d s then .tuple #[.int .i64 2, .int .i64 (IntKind.i64.wrap (2 + b)), .int .i64 (IntKind.i64.wrap ((IntKind.i64.wrap (a - IntKind.i64.wrap (2 + b))).tdiv 4)), .int .i64 0] else .tuple #[.int .i64 0, .int .i64 0, .int .i64 0, .int .i64 2])
  | _ => none
theorem k14_ok : KOk Tryz.prog 9 tabs 14 k14 := by
  intro args v h
  unfold k14 at h
  split at h
  · rename_i a b c d s
    cases h
    cases hc : chk a b c d s with
    | true => exact p14_yes a b c d s hc
    | false => exact p14_no a b c d s hc
  · cases h
def t8 : Ktab := (30, k30) :: (14, k14) :: t7
theorem t8_ok : TOk Tryz.prog 9 tabs t8 := ⟨k30_ok, k14_ok, t7_ok⟩
theorem nat0 (n : Nat) : decide (0 ≤ (n : Int)) = true := decide_eq_true (by omega)
theorem ov8_30 (e l s c t sd : Nat) (hl : l < 65536) (hs : s < 65536) (hc : c < 65536) (ht : t < 256) (lim : Nat) (σ : AS) : (envT t8).ov 30 [drf e l s c t sd] lim σ = some (made e l s c t sd, σ) := by
  refine envK rfl rfl rfl rfl ?_
  unfold t8
  rw [pfT_eq]
  show (bif decide (0 ≤ (e : Int)) && inU16 l && inU16 s && inU16 c && (decide (0 ≤ (t : Int)) && decide ((t : Int) < 256)) && decide (0 ≤ (sd : Int)) then some (made (e : Int).toNat (l : Int).toNat (s : Int).toNat (c : Int).toNat (t : Int).toNat (sd : Int).toNat) else none) = _
  unfold inU16
  rw [nat0, nat0, nat0, nat0, nat0, nat0, decide_eq_true (show (l : Int) < 65536 by omega), decide_eq_true (show (s : Int) < 65536 by omega), decide_eq_true (show (c : Int) < 65536 by omega), decide_eq_true (show (t : Int) < 256 by omega)]
  rfl
theorem ov8_14 (a b c d s : Int) (lim : Nat) (σ : AS) : (envT t8).ov 14 [cfg a b c d s] lim σ = some (bif chk a b c d s then .tuple #[.int .i64 2, .int .i64 (IntKind.i64.wrap (2 + b)), .int .i64 (IntKind.i64.wrap ((IntKind.i64.wrap (a - IntKind.i64.wrap (2 + b))).tdiv 4)), .int .i64 0] else .tuple #[.int .i64 0, .int .i64 0, .int .i64 0, .int .i64 2], σ) :=
  envK rfl rfl rfl rfl rfl
theorem ov8_13 (lim : Nat) (σ : AS) : (envT t8).ov 13 [] lim σ = some (.bool true, σ) := envK rfl rfl rfl rfl rfl
theorem ov8_20 (a b c d s : Int) (lim : Nat) (σ : AS) : (envT t8).ov 20 [cfg a b c d s] lim σ = some (.int .i64 (bif chk a b c d s then 0 else 2), σ) := envK rfl rfl rfl rfl rfl

/-- What is made is valid. -/
theorem chk_made (e l s c t sd : Nat) : chk ((16 + l % 1009 + 18 + s % (4096 - (16 + l % 1009) - 17) : Nat) : Int) ((16 + l % 1009 : Nat) : Int) ((1 + c % 64 : Nat) : Int) ((t % 3 : Nat) : Int) ((bif Nat.beq (t % 3) 2 then sd else 0 : Nat) : Int) = true := by
  have hmod : s % (4096 - (16 + l % 1009) - 17) < 4096 - (16 + l % 1009) - 17 := Nat.mod_lt _ (by omega)
  unfold chk
  rw [wrap64 (by omega) (by omega), decide_eq_false (by omega), decide_eq_false (by omega), decide_eq_false (by omega), decide_eq_false (by omega), decide_eq_false (by omega), decide_eq_false (by omega), decide_eq_false (by omega), decide_eq_false (by omega)]
  simp only [cond_false]
  cases h : Nat.beq (t % 3) 2 with
  | true =>
    have := Nat.eq_of_beq_eq_true h
    rw [this]; rfl
  | false =>
    rw [cond_false]
    cases (((t % 3 : Nat) : Int) != 2) <;> rfl

end Go.Proofs.YtcjjlajpbakaoaaGreatDoor
