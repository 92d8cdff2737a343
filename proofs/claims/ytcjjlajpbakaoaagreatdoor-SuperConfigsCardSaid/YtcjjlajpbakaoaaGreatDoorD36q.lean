/-
  SUPERBLOCK (chapter 36): crc32c.Seal.
-/
import Derived.Test.YtcjjlajpbakaoaaGreatDoorPart2
namespace Go.Proofs.YtcjjlajpbakaoaaGreatDoor
open Go.Va

def ru (n : Int) (s : Int) : Int := IntKind.u8.wrap (n.fdiv (2 ^ min (Int.toNat s) IntKind.u32.bits))
theorem ru_nat (n s : Nat) (h : s ≤ 32) : ru (n : Int) (s : Int) = ((byt n s).toNat : Int) := by
  unfold ru byt
  have e : (2 : Int) ^ min (Int.toNat (s : Int)) IntKind.u32.bits = ((2 ^ s : Nat) : Int) := by
    rw [Int.toNat_natCast, Nat.min_eq_left (show s ≤ IntKind.u32.bits from h)]
    push_cast; rfl
  rw [e, Int.fdiv_eq_ediv_of_nonneg _ (Int.natCast_nonneg _), ← Int.natCast_ediv, wrap8]
  simp
def sealC (c : List Value) (m : Nat) (X : Int) : List Value := ((c.drop (0 * 1)).take (((m : Int).toNat - 0) * 1)) ++ [.int .u8 (ru X 24), .int .u8 (ru X 16), .int .u8 (ru X 8), .int .u8 (IntKind.u8.wrap X)]
theorem seal_raw (c : List Value) (m g : Nat) (X : Int) (hm2 : m < 1000000) (h1 : ∀ σ, (envT t9).ov 150 [.int .u32 0, L c m 1 g] 0 σ = some (.int .u32 X, σ)) (hv : PF (strip (L (sealC c m X) ((m : Int).toNat - 0 + 4) 1 11))) :
    Pure Tryz.prog 9 tabs 57 [L c m 1 g] (strip (L (sealC c m X) ((m : Int).toNat - 0 + 4) 1 11)) :=
  pureT t9_ok (n := 300) (v := L (sealC c m X) ((m : Int).toNat - 0 + 4) 1 11) [(5, .ov (.int .u32 X)), (7, .ok), (12, .ok)]
    [∀ σ, (envT t9).ov 150 [.int .u32 0, L c m 1 g] 0 σ = some (.int .u32 X, σ), (0 : Int) ≤ m ∧ (m : Int) ≤ m ∧ (m : Int) = m, 4 ≠ 0 ∧ ((m : Int).toNat + 4) * 1 ≤ 70368744177664]
    (by kernel_rfl) ⟨h1, ⟨by omega, by omega, rfl⟩, by omega, by omega⟩ rfl hv
theorem strip_le {c : List Value} {n e g : Nat} (hg : g ≤ 1) : strip (L c n e g) = L c n e g := by
  show (bif Nat.ble g 1 then L c n e g else L c n e 0) = _
  rw [Nat.ble_eq_true_of_le hg]; rfl
theorem crcU_lt (s : Nat) (l : List UInt8) (hs : s < 4294967296) : crcU s l < 4294967296 := by
  unfold crcU
  exact xor_lt (crcF_lt l (xor_lt hs (by omega))) (by omega)
def sealL (l : List UInt8) : List UInt8 := l ++ be4 (crcU 0 l)
theorem p57 (l : List UInt8) (g : Nat) (hg : g ≤ 1) (hl : l.length < 1000000) : Pure Tryz.prog 9 tabs 57 [L (bys l) l.length 1 g] (L (bys (sealL l)) (l.length + 4) 1 0) := by
  have hx := crcU_lt 0 l (by omega)
  generalize hX : crcU 0 l = X at hx
  have e : strip (L (sealC (bys l) l.length X) ((l.length : Int).toNat - 0 + 4) 1 11) = L (bys (sealL l)) (l.length + 4) 1 0 := by
    show L (sealC (bys l) l.length X) ((l.length : Int).toNat - 0 + 4) 1 0 = _
    have e1 : sealC (bys l) l.length X = bys (sealL l) := by
      unfold sealC sealL be4
      rw [hX, show ru (X : Int) 24 = ((byt X 24).toNat : Int) from ru_nat X 24 (by omega), show ru (X : Int) 16 = ((byt X 16).toNat : Int) from ru_nat X 16 (by omega), show ru (X : Int) 8 = ((byt X 8).toNat : Int) from ru_nat X 8 (by omega)]
      have e0 : IntKind.u8.wrap (X : Int) = ((byt X 0).toNat : Int) := by
        rw [wrap8]; unfold byt; simp
      rw [e0, Int.toNat_natCast, Nat.sub_zero, Nat.mul_one, Nat.zero_mul, List.drop_zero, List.take_of_length_le (by unfold bys; simp)]
      unfold bys
      simp
    rw [e1, Int.toNat_natCast, Nat.sub_zero]
  rw [← e]
  refine seal_raw (bys l) l.length g X hl (fun σ => ?_) ?_
  · refine envK rfl rfl (show [strip (.int .u32 0), strip (L (bys l) l.length 1 g)] = [.int .u32 0, L (bys l) l.length 1 g] by rw [strip_le hg]; rfl) ?_ ?_
    · show (flatB 100 (.int .u32 0) && (flatB 100 (L (bys l) l.length 1 g) && true)) = true
      have : flatB 100 (L (bys l) l.length 1 g) = Nat.ble g 1 := rfl
      rw [this, Nat.ble_eq_true_of_le hg]; rfl
    · show (match asB (L (bys l) l.length 1 g) with | some l => bif inW 0 then some (Value.int .u32 (crcU (Int.toNat 0) l : Nat)) else none | none => none) = _
      rw [asB_L hg (by omega)]
      show some (Value.int .u32 (crcU 0 l : Nat)) = _
      rw [hX]
  · rw [e]
    exact PF_list (by omega) (bys_PF _)

/-! ## Append and Seal replaced -/

def k55 : List Value → Option Value
  | [v, .int .u64 n, .int .i64 w] => (match asL v, asB v with
    | some _, some l => bif decide (0 ≤ n) && Nat.blt 0 l.length && Nat.blt l.length 1000000 then
        (bif decide (w = 1) && decide (n < 256) then some (.tuple #[L (bys (l ++ be1 n.toNat)) (l.length + 1) 1 0, .int .i64 0])
         else bif decide (w = 4) && decide (n < 4294967296) then some (.tuple #[L (bys (l ++ be4 n.toNat)) (l.length + 4) 1 0, .int .i64 0])
         else bif decide (w = 8) && decide (n < 18446744073709551616) then some (.tuple #[L (bys (l ++ be8 n.toNat)) (l.length + 8) 1 0, .int .i64 0]) else none) else none
    | _, _ => none)
  | _ => none
theorem k55_ok : KOk Tryz.prog 9 tabs 55 k55 := by
  intro args u h
  unfold k55 at h
  split at h
  · rename_i v n w
    split at h
    · rename_i x l hL hB
      rcases asB_spec hB with ⟨rfl, _⟩ | ⟨g, _, rfl, _⟩
      · cases hL
      · cases hb : (decide (0 ≤ n) && Nat.blt 0 l.length && Nat.blt l.length 1000000) with
        | false => rw [hb] at h; cases h
        | true =>
          rw [hb, cond_true] at h
          simp only [Bool.and_eq_true, decide_eq_true_eq, Nat.blt_eq] at hb
          obtain ⟨⟨h0, h1⟩, h2⟩ := hb
          obtain ⟨k, rfl⟩ := Int.eq_ofNat_of_zero_le h0
          rw [Int.toNat_natCast] at h
          cases hw1 : (decide (w = 1) && decide ((k : Int) < 256)) with
          | true =>
            rw [hw1, cond_true] at h
            cases h
            simp only [Bool.and_eq_true, decide_eq_true_eq] at hw1
            rw [hw1.1]
            exact p55_1 l k g h1 h2 (by omega)
          | false =>
            rw [hw1, cond_false] at h
            cases hw4 : (decide (w = 4) && decide ((k : Int) < 4294967296)) with
            | true =>
              rw [hw4, cond_true] at h
              cases h
              simp only [Bool.and_eq_true, decide_eq_true_eq] at hw4
              rw [hw4.1]
              exact p55_4 l k g h1 h2 (by omega)
            | false =>
              rw [hw4, cond_false] at h
              cases hw8 : (decide (w = 8) && decide ((k : Int) < 18446744073709551616)) with
              | true =>
                rw [hw8, cond_true] at h
                cases h
                simp only [Bool.and_eq_true, decide_eq_true_eq] at hw8
                rw [hw8.1]
                exact p55_8 l k g h1 h2 (by omega)
              | false => rw [hw8] at h; cases h
    · cases h
  · cases h
def k57 : List Value → Option Value
  | [v] => (match asL v, asB v with
    | some _, some l => bif Nat.blt l.length 1000000 then some (L (bys (sealL l)) (l.length + 4) 1 0) else none
    | _, _ => none)
  | _ => none
theorem k57_ok : KOk Tryz.prog 9 tabs 57 k57 := by
  intro args u h
  unfold k57 at h
  split at h
  · rename_i v
    split at h
    · rename_i x l hL hB
      rcases asB_spec hB with ⟨rfl, _⟩ | ⟨g, hg, rfl, _⟩
      · cases hL
      · cases hb : Nat.blt l.length 1000000 with
        | false => rw [hb] at h; cases h
        | true =>
          rw [hb, cond_true] at h
          cases h
          exact p57 l g hg (Nat.blt_eq ▸ hb)
    · cases h
  · cases h
def t10 : Ktab := (55, k55) :: (57, k57) :: t9
theorem t10_ok : TOk Tryz.prog 9 tabs t10 := ⟨k55_ok, k57_ok, t9_ok⟩

end Go.Proofs.YtcjjlajpbakaoaaGreatDoor
