/-
  The functions that the statement reaches: what they answer, part 2.
-/
import Derived.Test.YtcjjlajpbakaoaaGreatDoorD36k

/-
  SUPERBLOCK (chapter 36): bits.Len64, by the shelf's contract.
-/
namespace Go.Proofs.YtcjjlajpbakaoaaGreatDoor
open Go.Va Go.Shelf Go.RowKit

theorem name104 : (Tryz.f104.name == "runtime.NumGoroutine") = false := by kernel_rfl
theorem body104 : Tryz.f104.body.isNone = false := by kernel_rfl
theorem p104 (n : Int) (h0 : 0 ≤ n) (h1 : n ≤ 18446744073709551615) : Pure Tryz.prog 9 tabs 104 [.int .u64 n] (.int .i64 (Lib.bitLen n.toNat)) := by
  refine pure_of_calls Tryz.func104 name104 body104 rfl rfl fun w hT => ?_
  refine (Any.bits_Len64 (P := Tryz.prog) (ρ := ren171) { lays171 with } n w h0 h1).mono ?_
  rintro e w' ⟨rfl, rfl⟩
  exact ⟨rfl, Below.refl _ _⟩
def k104 : List Value → Option Value
  | [.int .u64 n] => bif decide (0 ≤ n) && decide (n ≤ 18446744073709551615) then some (.int .i64 (Lib.bitLen n.toNat)) else none
  | _ => none
theorem k104_ok : KOk Tryz.prog 9 tabs 104 k104 := by
  intro args v h
  unfold k104 at h
  split at h
  · rename_i n
    cases hb : (decide (0 ≤ n) && decide (n ≤ 18446744073709551615)) with
    | false => rw [hb] at h; cases h
    | true =>
      rw [hb, cond_true] at h
      cases h
      simp only [Bool.and_eq_true, decide_eq_true_eq] at hb
      exact p104 n hb.1 hb.2
  · cases h
def t9 : Ktab := (104, k104) :: t8
theorem t9_ok : TOk Tryz.prog 9 tabs t9 := ⟨k104_ok, t8_ok⟩
theorem ov9_104 {n : Int} (h0 : 0 ≤ n) (h1 : n ≤ 18446744073709551615) (lim : Nat) (σ : AS) : (envT t9).ov 104 [.int .u64 n] lim σ = some (.int .i64 (Lib.bitLen n.toNat), σ) := by
  refine envK rfl rfl rfl rfl ?_
  unfold t9
  rw [pfT_eq]
  show (bif decide (0 ≤ n) && decide (n ≤ 18446744073709551615) then some (Value.int .i64 (Lib.bitLen n.toNat)) else none) = _
  rw [decide_eq_true h0, decide_eq_true h1]
  rfl
theorem ov9_20 (a b c d s : Int) (lim : Nat) (σ : AS) : (envT t9).ov 20 [cfg a b c d s] lim σ = some (.int .i64 (bif chk a b c d s then 0 else 2), σ) := envK rfl rfl rfl rfl rfl

end Go.Proofs.YtcjjlajpbakaoaaGreatDoor

/-
  SUPERBLOCK (chapter 36): bigend.Append.
-/
namespace Go.Proofs.YtcjjlajpbakaoaaGreatDoor
open Go.Va

/-- From a run to a function, where the answer is a pair. -/
theorem pureXH {l : Ktab} (hl : TOk Tryz.prog 9 tabs l) {n : Nat} {f : FuncId} {args : List Value} {v u : Value} (hs : List (Nat × Hint)) (ob : List Prop)
    (hr : upshot (runH Tryz.prog (envT l) n 0 (.call f args) (base0 9 tabs) ⟨hs, []⟩) = some (v, ob)) (ho : All ob) (hu : Shed v u) (hv : PF u) : Pure Tryz.prog 9 tabs f args u := by
  obtain ⟨m, σ', h⟩ := run_of hr ho
  exact topX zeroOk mixed rfl (mix_good _ _) (mix_ok fun f args v _ h => pfT_pure hl f args v h) (fnOk_of rfl (fnsM _ _)) (runW_of h) hu hv

/-- A byte of a number. -/
def rb (n : Int) (s : Int) : Int := IntKind.u8.wrap (n.fdiv (2 ^ min (Int.toNat s) IntKind.u64.bits))

theorem app1_raw (c : List Value) (m g : Nat) (n k : Int) (hm : 0 < m) (hm2 : m < 1000000) (h1 : ∀ σ, (envT t9).ov 104 [.int .u64 n] 0 σ = some (.int .i64 k, σ)) (h2 : decide (k > 8) = false) (hv : PF (.tuple #[strip (L (c ++ [.int .u8 (rb n 0)]) (0 + m + 1) 1 11), .int .i64 0])) :
    Pure Tryz.prog 9 tabs 55 [L c m 1 g, .int .u64 n, .int .i64 1] (.tuple #[strip (L (c ++ [.int .u8 (rb n 0)]) (0 + m + 1) 1 11), .int .i64 0]) :=
  pureXH t9_ok (n := 300) (v := .tuple #[L (c ++ [.int .u8 (rb n 0)]) (0 + m + 1) 1 11, .int .i64 0]) [(16, .ov (.int .i64 k)), (4, .br false), (8, .ok), (19, .ok)]
    [∀ σ, (envT t9).ov 104 [.int .u64 n] 0 σ = some (.int .i64 k, σ), decide (k > 8) = false, m ≠ 0 ∧ (0 + m) * 1 ≤ 70368744177664, (c).length = (c).length ∧ (0 + m + 1) * 1 ≤ 70368744177664]
    (by kernel_rfl) ⟨h1, h2, ⟨by omega, by omega⟩, ⟨rfl, by omega⟩⟩ (shed_pair _ _) hv

theorem app4_raw (c : List Value) (m g : Nat) (n k : Int) (hm : 0 < m) (hm2 : m < 1000000) (h1 : ∀ σ, (envT t9).ov 104 [.int .u64 n] 0 σ = some (.int .i64 k, σ)) (h2 : decide (k > 32) = false) (hv : PF (.tuple #[strip (L (c ++ [.int .u8 (rb n 24)] ++ [.int .u8 (rb n 16)] ++ [.int .u8 (rb n 8)] ++ [.int .u8 (rb n 0)]) (0 + m + 1 + 1 + 1 + 1) 1 11), .int .i64 0])) :
    Pure Tryz.prog 9 tabs 55 [L c m 1 g, .int .u64 n, .int .i64 4] (.tuple #[strip (L (c ++ [.int .u8 (rb n 24)] ++ [.int .u8 (rb n 16)] ++ [.int .u8 (rb n 8)] ++ [.int .u8 (rb n 0)]) (0 + m + 1 + 1 + 1 + 1) 1 11), .int .i64 0]) :=
  pureXH t9_ok (n := 300) (v := .tuple #[L (c ++ [.int .u8 (rb n 24)] ++ [.int .u8 (rb n 16)] ++ [.int .u8 (rb n 8)] ++ [.int .u8 (rb n 0)]) (0 + m + 1 + 1 + 1 + 1) 1 11, .int .i64 0]) [(16, .ov (.int .i64 k)), (4, .br false), (8, .ok), (19, .ok), (18, .ok), (18, .ok), (18, .ok)]
    [∀ σ, (envT t9).ov 104 [.int .u64 n] 0 σ = some (.int .i64 k, σ), decide (k > 32) = false, m ≠ 0 ∧ (0 + m) * 1 ≤ 70368744177664, (c).length = (c).length ∧ (0 + m + 1) * 1 ≤ 70368744177664, (c ++ [Value.int .u8 (rb n 24)]).length = (c ++ [Value.int .u8 (rb n 24)]).length ∧ (0 + m + 1 + 1) * 1 ≤ 70368744177664, (c ++ [Value.int .u8 (rb n 24)] ++ [Value.int .u8 (rb n 16)]).length = (c ++ [Value.int .u8 (rb n 24)] ++ [Value.int .u8 (rb n 16)]).length ∧ (0 + m + 1 + 1 + 1) * 1 ≤ 70368744177664, (c ++ [Value.int .u8 (rb n 24)] ++ [Value.int .u8 (rb n 16)] ++ [Value.int .u8 (rb n 8)]).length = (c ++ [Value.int .u8 (rb n 24)] ++ [Value.int .u8 (rb n 16)] ++ [Value.int .u8 (rb n 8)]).length ∧ (0 + m + 1 + 1 + 1 + 1) * 1 ≤ 70368744177664]
    (by kernel_rfl) ⟨h1, h2, ⟨by omega, by omega⟩, ⟨rfl, by omega⟩, ⟨rfl, by omega⟩, ⟨rfl, by omega⟩, ⟨rfl, by omega⟩⟩ (shed_pair _ _) hv

theorem app8_raw (c : List Value) (m g : Nat) (n k : Int) (hm : 0 < m) (hm2 : m < 1000000) (h1 : ∀ σ, (envT t9).ov 104 [.int .u64 n] 0 σ = some (.int .i64 k, σ)) (h2 : decide (k > 64) = false) (hv : PF (.tuple #[strip (L (c ++ [.int .u8 (rb n 56)] ++ [.int .u8 (rb n 48)] ++ [.int .u8 (rb n 40)] ++ [.int .u8 (rb n 32)] ++ [.int .u8 (rb n 24)] ++ [.int .u8 (rb n 16)] ++ [.int .u8 (rb n 8)] ++ [.int .u8 (rb n 0)]) (0 + m + 1 + 1 + 1 + 1 + 1 + 1 + 1 + 1) 1 11), .int .i64 0])) :
    Pure Tryz.prog 9 tabs 55 [L c m 1 g, .int .u64 n, .int .i64 8] (.tuple #[strip (L (c ++ [.int .u8 (rb n 56)] ++ [.int .u8 (rb n 48)] ++ [.int .u8 (rb n 40)] ++ [.int .u8 (rb n 32)] ++ [.int .u8 (rb n 24)] ++ [.int .u8 (rb n 16)] ++ [.int .u8 (rb n 8)] ++ [.int .u8 (rb n 0)]) (0 + m + 1 + 1 + 1 + 1 + 1 + 1 + 1 + 1) 1 11), .int .i64 0]) :=
  pureXH t9_ok (n := 300) (v := .tuple #[L (c ++ [.int .u8 (rb n 56)] ++ [.int .u8 (rb n 48)] ++ [.int .u8 (rb n 40)] ++ [.int .u8 (rb n 32)] ++ [.int .u8 (rb n 24)] ++ [.int .u8 (rb n 16)] ++ [.int .u8 (rb n 8)] ++ [.int .u8 (rb n 0)]) (0 + m + 1 + 1 + 1 + 1 + 1 + 1 + 1 + 1) 1 11, .int .i64 0]) [(16, .ov (.int .i64 k)), (4, .br false), (8, .ok), (19, .ok), (18, .ok), (18, .ok), (18, .ok), (18, .ok), (18, .ok), (18, .ok), (18, .ok)]
    [∀ σ, (envT t9).ov 104 [.int .u64 n] 0 σ = some (.int .i64 k, σ), decide (k > 64) = false, m ≠ 0 ∧ (0 + m) * 1 ≤ 70368744177664, (c).length = (c).length ∧ (0 + m + 1) * 1 ≤ 70368744177664, (c ++ [Value.int .u8 (rb n 56)]).length = (c ++ [Value.int .u8 (rb n 56)]).length ∧ (0 + m + 1 + 1) * 1 ≤ 70368744177664, (c ++ [Value.int .u8 (rb n 56)] ++ [Value.int .u8 (rb n 48)]).length = (c ++ [Value.int .u8 (rb n 56)] ++ [Value.int .u8 (rb n 48)]).length ∧ (0 + m + 1 + 1 + 1) * 1 ≤ 70368744177664, (c ++ [Value.int .u8 (rb n 56)] ++ [Value.int .u8 (rb n 48)] ++ [Value.int .u8 (rb n 40)]).length = (c ++ [Value.int .u8 (rb n 56)] ++ [Value.int .u8 (rb n 48)] ++ [Value.int .u8 (rb n 40)]).length ∧ (0 + m + 1 + 1 + 1 + 1) * 1 ≤ 70368744177664, (c ++ [Value.int .u8 (rb n 56)] ++ [Value.int .u8 (rb n 48)] ++ [Value.int .u8 (rb n 40)] ++ [Value.int .u8 (rb n 32)]).length = (c ++ [Value.int .u8 (rb n 56)] ++ [Value.int .u8 (rb n 48)] ++ [Value.int .u8 (rb n 40)] ++ [Value.int .u8 (rb n 32)]).length ∧ (0 + m + 1 + 1 + 1 + 1 + 1) * 1 ≤ 70368744177664, (c ++ [Value.int .u8 (rb n 56)] ++ [Value.int .u8 (rb n 48)] ++ [Value.int .u8 (rb n 40)] ++ [Value.int .u8 (rb n 32)] ++ [Value.int .u8 (rb n 24)]).length = (c ++ [Value.int .u8 (rb n 56)] ++ [Value.int .u8 (rb n 48)] ++ [Value.int .u8 (rb n 40)] ++ [Value.int .u8 (rb n 32)] ++ [Value.int .u8 (rb n 24)]).length ∧ (0 + m + 1 + 1 + 1 + 1 + 1 + 1) * 1 ≤ 70368744177664, (c ++ [Value.int .u8 (rb n 56)] ++ [Value.int .u8 (rb n 48)] ++ [Value.int .u8 (rb n 40)] ++ [Value.int .u8 (rb n 32)] ++ [Value.int .u8 (rb n 24)] ++ [Value.int .u8 (rb n 16)]).length = (c ++ [Value.int .u8 (rb n 56)] ++ [Value.int .u8 (rb n 48)] ++ [Value.int .u8 (rb n 40)] ++ [Value.int .u8 (rb n 32)] ++ [Value.int .u8 (rb n 24)] ++ [Value.int .u8 (rb n 16)]).length ∧ (0 + m + 1 + 1 + 1 + 1 + 1 + 1 + 1) * 1 ≤ 70368744177664, (c ++ [Value.int .u8 (rb n 56)] ++ [Value.int .u8 (rb n 48)] ++ [Value.int .u8 (rb n 40)] ++ [Value.int .u8 (rb n 32)] ++ [Value.int .u8 (rb n 24)] ++ [Value.int .u8 (rb n 16)] ++ [Value.int .u8 (rb n 8)]).length = (c ++ [Value.int .u8 (rb n 56)] ++ [Value.int .u8 (rb n 48)] ++ [Value.int .u8 (rb n 40)] ++ [Value.int .u8 (rb n 32)] ++ [Value.int .u8 (rb n 24)] ++ [Value.int .u8 (rb n 16)] ++ [Value.int .u8 (rb n 8)]).length ∧ (0 + m + 1 + 1 + 1 + 1 + 1 + 1 + 1 + 1) * 1 ≤ 70368744177664]
    (by kernel_rfl) ⟨h1, h2, ⟨by omega, by omega⟩, ⟨rfl, by omega⟩, ⟨rfl, by omega⟩, ⟨rfl, by omega⟩, ⟨rfl, by omega⟩, ⟨rfl, by omega⟩, ⟨rfl, by omega⟩, ⟨rfl, by omega⟩, ⟨rfl, by omega⟩⟩ (shed_pair _ _) hv

end Go.Proofs.YtcjjlajpbakaoaaGreatDoor

/-
  SUPERBLOCK (chapter 36): bigend.Append of lists of bytes.
-/
namespace Go.Proofs.YtcjjlajpbakaoaaGreatDoor
open Go.Va

def byt (n s : Nat) : UInt8 := (n / 2 ^ s).toUInt8
def be1 (n : Nat) : List UInt8 := [byt n 0]
def be4 (n : Nat) : List UInt8 := [byt n 24, byt n 16, byt n 8, byt n 0]
def be8 (n : Nat) : List UInt8 := [byt n 56, byt n 48, byt n 40, byt n 32, byt n 24, byt n 16, byt n 8, byt n 0]
theorem rb_nat (n s : Nat) (h : s ≤ 64) : rb (n : Int) (s : Int) = ((byt n s).toNat : Int) := by
  unfold rb byt
  have e : (2 : Int) ^ min (Int.toNat (s : Int)) IntKind.u64.bits = ((2 ^ s : Nat) : Int) := by
    rw [Int.toNat_natCast, Nat.min_eq_left (show s ≤ IntKind.u64.bits from h)]
    push_cast; rfl
  rw [e, Int.fdiv_eq_ediv_of_nonneg _ (Int.natCast_nonneg _), ← Int.natCast_ediv, wrap8]
  simp
theorem bitAux_le : ∀ (f w x : Nat), x < 2 ^ w → Lib.bitLenAux f x ≤ w
  | 0, _, _, _ => Nat.zero_le _
  | f + 1, w, x, h => by
    unfold Lib.bitLenAux
    split
    · exact Nat.zero_le _
    · rename_i hx
      cases w with
      | zero => simp at h; exact absurd h hx
      | succ w =>
        have : x / 2 < 2 ^ w := by rw [Nat.pow_succ] at h; omega
        have := bitAux_le f w (x / 2) this
        omega
theorem bitLen_le {n w : Nat} (h : n < 2 ^ w) : Lib.bitLen n ≤ w := bitAux_le 64 w n h

theorem p55_1 (l : List UInt8) (n g : Nat) (hl : 0 < l.length) (hl2 : l.length < 1000000) (hn : n < 2 ^ 8) :
    Pure Tryz.prog 9 tabs 55 [L (bys l) l.length 1 g, .int .u64 n, .int .i64 1] (.tuple #[L (bys (l ++ be1 n)) (l.length + 1) 1 0, .int .i64 0]) := by
  have hb : n < 2 ^ 64 := Nat.lt_of_lt_of_le hn (Nat.pow_le_pow_right (by omega) (by omega))
  have e : strip (L (bys l ++ [.int .u8 (rb n 0)]) (0 + l.length + 1) 1 11) = L (bys (l ++ be1 n)) (l.length + 1) 1 0 := by
    show L (bys l ++ [.int .u8 (rb n 0)]) (0 + l.length + 1) 1 0 = _
    have e1 : bys l ++ [.int .u8 (rb n 0)] = bys (l ++ be1 n) := by
      simp only [show rb (n : Int) 0 = ((byt n 0).toNat : Int) from rb_nat n 0 (by omega)]
      unfold bys be1
      simp
    rw [e1, show 0 + l.length + 1 = l.length + 1 by omega]
  rw [← e]
  refine app1_raw (bys l) l.length g n (Lib.bitLen n) hl hl2 (fun σ => ?_) (decide_eq_false ?_) ?_
  · have := ov9_104 (n := (n : Int)) (by omega) (by omega) 0 σ
    rw [Int.toNat_natCast] at this
    exact this
  · have := bitLen_le hn
    omega
  · rw [e]
    exact PF_pair (PF_list (by omega) (bys_PF _)) (.int _ _)

theorem p55_4 (l : List UInt8) (n g : Nat) (hl : 0 < l.length) (hl2 : l.length < 1000000) (hn : n < 2 ^ 32) :
    Pure Tryz.prog 9 tabs 55 [L (bys l) l.length 1 g, .int .u64 n, .int .i64 4] (.tuple #[L (bys (l ++ be4 n)) (l.length + 4) 1 0, .int .i64 0]) := by
  have hb : n < 2 ^ 64 := Nat.lt_of_lt_of_le hn (Nat.pow_le_pow_right (by omega) (by omega))
  have e : strip (L (bys l ++ [.int .u8 (rb n 24)] ++ [.int .u8 (rb n 16)] ++ [.int .u8 (rb n 8)] ++ [.int .u8 (rb n 0)]) (0 + l.length + 1 + 1 + 1 + 1) 1 11) = L (bys (l ++ be4 n)) (l.length + 4) 1 0 := by
    show L (bys l ++ [.int .u8 (rb n 24)] ++ [.int .u8 (rb n 16)] ++ [.int .u8 (rb n 8)] ++ [.int .u8 (rb n 0)]) (0 + l.length + 1 + 1 + 1 + 1) 1 0 = _
    have e1 : bys l ++ [.int .u8 (rb n 24)] ++ [.int .u8 (rb n 16)] ++ [.int .u8 (rb n 8)] ++ [.int .u8 (rb n 0)] = bys (l ++ be4 n) := by
      simp only [show rb (n : Int) 24 = ((byt n 24).toNat : Int) from rb_nat n 24 (by omega), show rb (n : Int) 16 = ((byt n 16).toNat : Int) from rb_nat n 16 (by omega), show rb (n : Int) 8 = ((byt n 8).toNat : Int) from rb_nat n 8 (by omega), show rb (n : Int) 0 = ((byt n 0).toNat : Int) from rb_nat n 0 (by omega)]
      unfold bys be4
      simp
    rw [e1, show 0 + l.length + 1 + 1 + 1 + 1 = l.length + 4 by omega]
  rw [← e]
  refine app4_raw (bys l) l.length g n (Lib.bitLen n) hl hl2 (fun σ => ?_) (decide_eq_false ?_) ?_
  · have := ov9_104 (n := (n : Int)) (by omega) (by omega) 0 σ
    rw [Int.toNat_natCast] at this
    exact this
  · have := bitLen_le hn
    omega
  · rw [e]
    exact PF_pair (PF_list (by omega) (bys_PF _)) (.int _ _)

theorem p55_8 (l : List UInt8) (n g : Nat) (hl : 0 < l.length) (hl2 : l.length < 1000000) (hn : n < 2 ^ 64) :
    Pure Tryz.prog 9 tabs 55 [L (bys l) l.length 1 g, .int .u64 n, .int .i64 8] (.tuple #[L (bys (l ++ be8 n)) (l.length + 8) 1 0, .int .i64 0]) := by
  have hb : n < 2 ^ 64 := Nat.lt_of_lt_of_le hn (Nat.pow_le_pow_right (by omega) (by omega))
  have e : strip (L (bys l ++ [.int .u8 (rb n 56)] ++ [.int .u8 (rb n 48)] ++ [.int .u8 (rb n 40)] ++ [.int .u8 (rb n 32)] ++ [.int .u8 (rb n 24)] ++ [.int .u8 (rb n 16)] ++ [.int .u8 (rb n 8)] ++ [.int .u8 (rb n 0)]) (0 + l.length + 1 + 1 + 1 + 1 + 1 + 1 + 1 + 1) 1 11) = L (bys (l ++ be8 n)) (l.length + 8) 1 0 := by
    show L (bys l ++ [.int .u8 (rb n 56)] ++ [.int .u8 (rb n 48)] ++ [.int .u8 (rb n 40)] ++ [.int .u8 (rb n 32)] ++ [.int .u8 (rb n 24)] ++ [.int .u8 (rb n 16)] ++ [.int .u8 (rb n 8)] ++ [.int .u8 (rb n 0)]) (0 + l.length + 1 + 1 + 1 + 1 + 1 + 1 + 1 + 1) 1 0 = _
    have e1 : bys l ++ [.int .u8 (rb n 56)] ++ [.int .u8 (rb n 48)] ++ [.int .u8 (rb n 40)] ++ [.int .u8 (rb n 32)] ++ [.int .u8 (rb n 24)] ++ [.int .u8 (rb n 16)] ++ [.int .u8 (rb n 8)] ++ [.int .u8 (rb n 0)] = bys (l ++ be8 n) := by
      simp only [show rb (n : Int) 56 = ((byt n 56).toNat : Int) from rb_nat n 56 (by omega), show rb (n : Int) 48 = ((byt n 48).toNat : Int) from rb_nat n 48 (by omega), show rb (n : Int) 40 = ((byt n 40).toNat : Int) from rb_nat n 40 (by omega), show rb (n : Int) 32 = ((byt n 32).toNat : Int) from rb_nat n 32 (by omega), show rb (n : Int) 24 = ((byt n 24).toNat : Int) from rb_nat n 24 (by omega), show rb (n : Int) 16 = ((byt n 16).toNat : Int) from rb_nat n 16 (by omega), show rb (n : Int) 8 = ((byt n 8).toNat : Int) from rb_nat n 8 (by omega), show rb (n : Int) 0 = ((byt n 0).toNat : Int) from rb_nat n 0 (by omega)]
      unfold bys be8
      simp
    rw [e1, show 0 + l.length + 1 + 1 + 1 + 1 + 1 + 1 + 1 + 1 = l.length + 8 by omega]
  rw [← e]
  refine app8_raw (bys l) l.length g n (Lib.bitLen n) hl hl2 (fun σ => ?_) (decide_eq_false ?_) ?_
  · have := ov9_104 (n := (n : Int)) (by omega) (by omega) 0 σ
    rw [Int.toNat_natCast] at this
    exact this
  · have := bitLen_le hn
    omega
  · rw [e]
    exact PF_pair (PF_list (by omega) (bys_PF _)) (.int _ _)

end Go.Proofs.YtcjjlajpbakaoaaGreatDoor
