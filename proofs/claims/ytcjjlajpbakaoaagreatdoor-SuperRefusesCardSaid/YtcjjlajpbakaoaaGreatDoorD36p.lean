/-
  SUPERBLOCK (chapter 36): bigend.Append of lists of bytes.
-/
import Derived.Test.YtcjjlajpbakaoaaGreatDoorD36o
namespace Go.Proofs.YtcjjlajpbakaoaaGreatDoor
open Go.Va

def byt (n s : Nat) : UInt8 := (n / 2 ^ s).toUInt8
def be1 (n : Nat) : List UInt8 := [byt n 0]
def be4 (n : Nat) : List UInt8 := [byt n 24, byt n 16, byt n 8, byt n 0]
def be8 (n : Nat) : List UInt8 := [byt n 56, byt n 48, byt n 40, byt n 32, byt n 24, byt n 16, byt n 8, byt n 0]
theorem rb_nat (n s : Nat) (h : s ≤ 64) : rb (n : Int) (s : Int) = ((byt n s).toNat : Int) := by
  unfold rb byt
  have e : (2 : Int) ^ min (Int.toNat (s : Int)) IntKind.u64.bits = ((2 ^ s : Nat) : Int) := by
    rw [Int.toNat_natCast, Nat.min_eq_left (show s ≤ IntKind.u64.bits from h)]
    push_cast; rfl
  rw [e, Int.fdiv_eq_ediv_of_nonneg _ (Int.natCast_nonneg _), ← Int.natCast_ediv, wrap8]
  simp
theorem bitAux_le : ∀ (f w x : Nat), x < 2 ^ w → Lib.bitLenAux f x ≤ w
  | 0, _, _, _ => Nat.zero_le _
  | f + 1, w, x, h => by
    unfold Lib.bitLenAux
    split
    · exact Nat.zero_le _
    · rename_i hx
      cases w with
      | zero => simp at h; exact absurd h hx
      | succ w =>
        have : x / 2 < 2 ^ w := by rw [Nat.pow_succ] at h; omega
        have := bitAux_le f w (x / 2) this
        omega
theorem bitLen_le {n w : Nat} (h : n < 2 ^ w) : Lib.bitLen n ≤ w := bitAux_le 64 w n h

theorem p55_1 (l : List UInt8) (n g : Nat) (hl : 0 < l.length) (hl2 : l.length < 1000000) (hn : n < 2 ^ 8) :
    Pure Tryz.prog 9 tabs 55 [L (bys l) l.length 1 g, .int .u64 n, .int .i64 1] (.tuple #[L (bys (l ++ be1 n)) (l.length + 1) 1 0, .int .i64 0]) := by
  have hb : n < 2 ^ 64 := Nat.lt_of_lt_of_le hn (Nat.pow_le_pow_right (by omega) (by omega))
  have e : strip (L (bys l ++ [.int .u8 (rb n 0)]) (0 + l.length + 1) 1 11) = L (bys (l ++ be1 n)) (l.length + 1) 1 0 := by
    show L (bys l ++ [.int .u8 (rb n 0)]) (0 + l.length + 1) 1 0 = _
    have e1 : bys l ++ [.int .u8 (rb n 0)] = bys (l ++ be1 n) := by
      simp only [show rb (n : Int) 0 = ((byt n 0).toNat : Int) from rb_nat n 0 (by omega)]
      unfold bys be1
      simp
    rw [e1, show 0 + l.length + 1 = l.length + 1 by omega]
  rw [← e]
  refine app1_raw (bys l) l.length g n (Lib.bitLen n) hl hl2 (fun σ => ?_) (decide_eq_false ?_) ?_
  · have := ov9_104 (n := (n : Int)) (by omega) (by omega) 0 σ
    rw [Int.toNat_natCast] at this
    exact this
  · have := bitLen_le hn
    omega
  · rw [e]
    exact PF_pair (PF_list (by omega) (bys_PF _)) (.int _ _)

theorem p55_4 (l : List UInt8) (n g : Nat) (hl : 0 < l.length) (hl2 : l.length < 1000000) (hn : n < 2 ^ 32) :
    Pure Tryz.prog 9 tabs 55 [L (bys l) l.length 1 g, .int .u64 n, .int .i64 4] (.tuple #[L (bys (l ++ be4 n)) (l.length + 4) 1 0, .int .i64 0]) := by
  have hb : n < 2 ^ 64 := Nat.lt_of_lt_of_le hn (Nat.pow_le_pow_right (by omega) (by omega))
  have e : strip (L (bys l ++ [.int .u8 (rb n 24)] ++ [.int .u8 (rb n 16)] ++ [.int .u8 (rb n 8)] ++ [.int .u8 (rb n 0)]) (0 + l.length + 1 + 1 + 1 + 1) 1 11) = L (bys (l ++ be4 n)) (l.length + 4) 1 0 := by
    show L (bys l ++ [.int .u8 (rb n 24)] ++ [.int .u8 (rb n 16)] ++ [.int .u8 (rb n 8)] ++ [.int .u8 (rb n 0)]) (0 + l.length + 1 + 1 + 1 + 1) 1 0 = _
    have e1 : bys l ++ [.int .u8 (rb n 24)] ++ [.int .u8 (rb n 16)] ++ [.int .u8 (rb n 8)] ++ [.int .u8 (rb n 0)] = bys (l ++ be4 n) := by
      simp only [show rb (n : Int) 24 = ((byt n 24).toNat : Int) from rb_nat n 24 (by omega), show rb (n : Int) 16 = ((byt n 16).toNat : Int) from rb_nat n 16 (by omega), show rb (n : Int) 8 = ((byt n 8).toNat : Int) from rb_nat n 8 (by omega), show rb (n : Int) 0 = ((byt n 0).toNat : Int) from rb_nat n 0 (by omega)]
      unfold bys be4
      simp
    rw [e1, show 0 + l.length + 1 + 1 + 1 + 1 = l.length + 4 by omega]
  rw [← e]
  refine app4_raw (bys l) l.length g n (Lib.bitLen n) hl hl2 (fun σ => ?_) (decide_eq_false ?_) ?_
  · have := ov9_104 (n := (n : Int)) (by omega) (by omega) 0 σ
    rw [Int.toNat_natCast] at this
    exact this
  · have := bitLen_le hn
    omega
  · rw [e]
    exact PF_pair (PF_list (by omega) (bys_PF _)) (.int _ _)

theorem p55_8 (l : List UInt8) (n g : Nat) (hl : 0 < l.length) (hl2 : l.length < 1000000) (hn : n < 2 ^ 64) :
    Pure Tryz.prog 9 tabs 55 [L (bys l) l.length 1 g, .int .u64 n, .int .i64 8] (.tuple #[L (bys (l ++ be8 n)) (l.length + 8) 1 0, .int .i64 0]) := by
  have hb : n < 2 ^ 64 := Nat.lt_of_lt_of_le hn (Nat.pow_le_pow_right (by omega) (by omega))
  have e : strip (L (bys l ++ [.int .u8 (rb n 56)] ++ [.int .u8 (rb n 48)] ++ [.int .u8 (rb n 40)] ++ [.int .u8 (rb n 32)] ++ [.int .u8 (rb n 24)] ++ [.int .u8 (rb n 16)] ++ [.int .u8 (rb n 8)] ++ [.int .u8 (rb n 0)]) (0 + l.length + 1 + 1 + 1 + 1 + 1 + 1 + 1 + 1) 1 11) = L (bys (l ++ be8 n)) (l.length + 8) 1 0 := by
    show L (bys l ++ [.int .u8 (rb n 56)] ++ [.int .u8 (rb n 48)] ++ [.int .u8 (rb n 40)] ++ [.int .u8 (rb n 32)] ++ [.int .u8 (rb n 24)] ++ [.int .u8 (rb n 16)] ++ [.int .u8 (rb n 8)] ++ [.int .u8 (rb n 0)]) (0 + l.length + 1 + 1 + 1 + 1 + 1 + 1 + 1 + 1) 1 0 = _
    have e1 : bys l ++ [.int .u8 (rb n 56)] ++ [.int .u8 (rb n 48)] ++ [.int .u8 (rb n 40)] ++ [.int .u8 (rb n 32)] ++ [.int .u8 (rb n 24)] ++ [.int .u8 (rb n 16)] ++ [.int .u8 (rb n 8)] ++ [.int .u8 (rb n 0)] = bys (l ++ be8 n) := by
      simp only [show rb (n : Int) 56 = ((byt n 56).toNat : Int) from rb_nat n 56 (by omega), show rb (n : Int) 48 = ((byt n 48).toNat : Int) from rb_nat n 48 (by omega), show rb (n : Int) 40 = ((byt n 40).toNat : Int) from rb_nat n 40 (by omega), show rb (n : Int) 32 = ((byt n 32).toNat : Int) from rb_nat n 32 (by omega), show rb (n : Int) 24 = ((byt n 24).toNat : Int) from rb_nat n 24 (by omega), show rb (n : Int) 16 = ((byt n 16).toNat : Int) from rb_nat n 16 (by omega), show rb (n : Int) 8 = ((byt n 8).toNat : Int) from rb_nat n 8 (by omega), show rb (n : Int) 0 = ((byt n 0).toNat : Int) from rb_nat n 0 (by omega)]
      unfold bys be8
      simp
    rw [e1, show 0 + l.length + 1 + 1 + 1 + 1 + 1 + 1 + 1 + 1 = l.length + 8 by omega]
  rw [← e]
  refine app8_raw (bys l) l.length g n (Lib.bitLen n) hl hl2 (fun σ => ?_) (decide_eq_false ?_) ?_
  · have := ov9_104 (n := (n : Int)) (by omega) (by omega) 0 σ
    rw [Int.toNat_natCast] at this
    exact this
  · have := bitLen_le hn
    omega
  · rw [e]
    exact PF_pair (PF_list (by omega) (bys_PF _)) (.int _ _)

end Go.Proofs.YtcjjlajpbakaoaaGreatDoor
