/-
  BITBOARD (chapter 05): BitboardLoops is true.
-/
import Derived.Test.YtakchekhpeokjaaDoorD05u
namespace Go.Proofs.YtakchekhpeokjaaDoor
open Go.Va

theorem lstV_ne {x : BitVec 64} (hx : x ≠ 0#64) : lstV (bitsL x) = L (ints (bitsL x)) (bitsL x).length 1 0 := by rw [bits_cons hx]; rfl
theorem ov7_15' {x : BitVec 64} (hx : x ≠ 0#64) (σ : AS) : env7.ov 15 [.int .u64 (u x)] 0 σ = some (L (ints (bitsL x)) (bitsL x).length 1 0, σ) := by
  rw [← lstV_ne hx]; exact ov7_15 x 0 σ
theorem take_ints (l : List Nat) (q : Nat) : (ints l).take (q * 1) = ints (l.take q) := by unfold ints; rw [Nat.mul_one, List.map_take]
theorem minV (n q : Nat) : Value.int .i64 (if (n : Int) < (q : Int) then (n : Int) else (q : Int)) = .int .i64 ((min n q : Nat) : Int) := by
  congr 1
  split <;> omega

theorem eq_nn (σ : AS) : env7.ov 16 [.slice none 0 0, .slice none 0 0] 0 σ = some (.bool true, σ) :=
  ov7_16 (a' := .slice none 0 0) (b' := .slice none 0 0) 0 σ rfl rfl IsZ_nil IsZ_nil
theorem eq_n0 (σ : AS) : env7.ov 16 [.slice none 0 0, L [] 0 1 0] 0 σ = some (.bool true, σ) :=
  ov7_16 (a' := .slice none 0 0) (b' := L [] 0 1 0) 0 σ rfl rfl IsZ_nil (IsZ_L (l := []) rfl (Nat.zero_le 1) (by omega))
theorem eq_LL {l : List Nat} {n : Nat} (g : Nat) (hn : l.length = n) (h : n ≤ 64) (σ : AS) : env7.ov 16 [L (ints l) n 1 (g + 2), L (ints l) n 1 0] 0 σ = some (.bool true, σ) := by
  have h0 : IsZ (L (ints l) n 1 0) (natZ l) := IsZ_L hn (Nat.zero_le 1) (by omega)
  have := ov7_16 (a := L (ints l) n 1 (g + 2)) (b := L (ints l) n 1 0) (a' := L (ints l) n 1 0) (b' := L (ints l) n 1 0) 0 σ rfl rfl h0 h0
  rwa [beq_self_eq_true] at this
def w51 (s : Int) (j : Nat) : Value := Go.Va.look [(4, Value.int .u64 s)] j undef

theorem law4_zero (b : Int) (q : Nat) (hq : IntKind.i64.wrap (b.tmod 66) = (q : Int)) : Pure Tryd.prog 4 tabs 4 [.int .u64 (u 0#64), .int .u8 b] (.bool true) :=
  pureT t7_ok fns7 (n := 200) (v := .bool true) [(25, .ov (.slice none 0 0)), (11, .ov (.bool true)), (6, .eq (.int .i64 0)), (1, .ov (.bool true))]
    [(∀ σ, env7.ov 15 [.int .u64 (u 0#64)] 0 σ = some (.slice none 0 0, σ)), (∀ σ, env7.ov 16 [.slice none 0 0, .slice none 0 0] 0 σ = some (.bool true, σ)),
      Value.int .i64 (if (0 : Int) < IntKind.i64.wrap (b.tmod 66) then 0 else IntKind.i64.wrap (b.tmod 66)) = .int .i64 0, (∀ σ, env7.ov 16 [.slice none 0 0, .slice none 0 0] 0 σ = some (.bool true, σ))]
    (by kernel_rfl) ⟨fun σ => by have := ov7_15 0#64 0 σ; rw [bits_zero] at this; exact this, eq_nn, by rw [hq]; congr 1; split <;> omega, eq_nn⟩ rfl (.bool true)

theorem law4_none (b : Int) (x : BitVec 64) (hx : x ≠ 0#64) (hq : IntKind.i64.wrap (b.tmod 66) = ((0 : Nat) : Int)) : Pure Tryd.prog 4 tabs 4 [.int .u64 (u x), .int .u8 b] (.bool true) := by
  obtain ⟨w1, h1⟩ := loopA_none (u x) b x (w51 (u x)) hx
  rw [← hq] at h1
  obtain ⟨w2, h2⟩ := loopBN_all (u x) b (IntKind.i64.wrap (b.tmod 66)) (some (.exit 0)) (L (ints (bitsL x)) (bitsL x).length 1 0) x (w51 (u x)) hx
  have hl := bitsL_length x
  exact pureT t7_ok fns7 (n := 200) (v := .bool true)
    [(20, .skip (outA false w1) (SA0 (u x) b (IntKind.i64.wrap (b.tmod 66)) .done (some (.exit 0)))), (1, .ov (L (ints (bitsL x)) (bitsL x).length 1 0)), (5, .skip (.done (.exit 0) (T51g 11 4 0 w2) []) (SBN1 (u x) b (IntKind.i64.wrap (b.tmod 66)) (some (.exit 0)) (L (ints (bitsL x)) (bitsL x).length 1 0) (ints (bitsL x)) (bitsL x).length)),
      (2, .ov (.bool true)), (6, .eq (.int .i64 0)), (0, .ok), (0, .ov (.bool true))]
    [_, (∀ σ, env7.ov 15 [.int .u64 (u x)] 0 σ = some (L (ints (bitsL x)) (bitsL x).length 1 0, σ)), _,
      (∀ σ, env7.ov 16 [L (ints (bitsL x)) (bitsL x).length 1 14, L (ints (bitsL x)) (bitsL x).length 1 0] 0 σ = some (.bool true, σ)),
      Value.int .i64 (if ((bitsL x).length : Int) < IntKind.i64.wrap (b.tmod 66) then ((bitsL x).length : Int) else IntKind.i64.wrap (b.tmod 66)) = .int .i64 0,
      (0 : Int) ≤ 0 ∧ (0 : Int) ≤ (bitsL x).length, (∀ σ, env7.ov 16 [.slice none 0 0, L [] 0 1 0] 0 σ = some (.bool true, σ))]
    (by kernel_rfl) ⟨h1, fun σ => ov7_15' hx σ, h2, eq_LL 12 rfl hl, by rw [hq]; congr 1; all_goals (split <;> omega), ⟨by omega, by omega⟩, eq_n0⟩ rfl (.bool true)

theorem law4_some (b : Int) (q : Nat) (x : BitVec 64) (hx : x ≠ 0#64) (h0 : q ≠ 0) (hq : IntKind.i64.wrap (b.tmod 66) = (q : Int)) : Pure Tryd.prog 4 tabs 4 [.int .u64 (u x), .int .u8 b] (.bool true) := by
  obtain ⟨w1, h1⟩ := loopA_all (u x) b q x (w51 (u x)) hx h0
  have hl := bitsL_length x
  have hm : (min (bitsL x).length q : Nat) ≤ 64 := by omega
  have ht : ((bitsL x).take q).length = min (bitsL x).length q := by rw [List.length_take]; omega
  have he : ∀ σ, env7.ov 16 [L (ints ((bitsL x).take q)) (min (bitsL x).length q) 1 11, L ((ints (bitsL x)).take ((min (bitsL x).length q) * 1)) (min (bitsL x).length q) 1 0] 0 σ = some (.bool true, σ) := by
    rw [take_ints, show (bitsL x).take (min (bitsL x).length q) = (bitsL x).take q from by
      rcases Nat.le_total (bitsL x).length q with h | h
      · rw [Nat.min_eq_left h, List.take_length, List.take_of_length_le h]
      · rw [Nat.min_eq_right h]]
    exact eq_LL 9 ht hm
  have hmin : Value.int .i64 (if ((bitsL x).length : Int) < IntKind.i64.wrap (b.tmod 66) then ((bitsL x).length : Int) else IntKind.i64.wrap (b.tmod 66)) = .int .i64 ((min (bitsL x).length q : Nat) : Int) := by
    rw [hq]; exact minV _ _
  cases hf : decide ((bitsL x).length ≤ q) with
  | true =>
    rw [hf, ← hq] at h1
    obtain ⟨w2, h2⟩ := loopBL_all (u x) b (IntKind.i64.wrap (b.tmod 66)) none (ints ((bitsL x).take q)) (min (bitsL x).length q) (L (ints (bitsL x)) (bitsL x).length 1 0) x (w51 (u x)) hx
    exact pureT t7_ok fns7 (n := 200) (v := .bool true)
      [(20, .skip (outA true w1) (SA1 (u x) b (IntKind.i64.wrap (b.tmod 66)) .ready none (ints ((bitsL x).take q)) (min (bitsL x).length q))), (1, .ov (L (ints (bitsL x)) (bitsL x).length 1 0)),
        (5, .skip (.done (.exit 0) (T51g 12 4 0 w2) []) (SBL1 (u x) b (IntKind.i64.wrap (b.tmod 66)) none (ints ((bitsL x).take q)) (min (bitsL x).length q) (L (ints (bitsL x)) (bitsL x).length 1 0) (ints (bitsL x)) (bitsL x).length)),
        (2, .ov (.bool true)), (6, .eq (.int .i64 ((min (bitsL x).length q : Nat) : Int))), (0, .ok), (0, .ov (.bool true))]
      [_, (∀ σ, env7.ov 15 [.int .u64 (u x)] 0 σ = some (L (ints (bitsL x)) (bitsL x).length 1 0, σ)), _,
        (∀ σ, env7.ov 16 [L (ints (bitsL x)) (bitsL x).length 1 15, L (ints (bitsL x)) (bitsL x).length 1 0] 0 σ = some (.bool true, σ)), _,
        (0 : Int) ≤ ((min (bitsL x).length q : Nat) : Int) ∧ ((min (bitsL x).length q : Nat) : Int) ≤ (bitsL x).length, _]
      (by kernel_rfl) ⟨h1, fun σ => ov7_15' hx σ, h2, eq_LL 13 rfl hl, hmin, ⟨by omega, by omega⟩, he⟩ rfl (.bool true)
  | false =>
    rw [hf, ← hq] at h1
    obtain ⟨w2, h2⟩ := loopBL_all (u x) b (IntKind.i64.wrap (b.tmod 66)) (some (.exit 0)) (ints ((bitsL x).take q)) (min (bitsL x).length q) (L (ints (bitsL x)) (bitsL x).length 1 0) x (w51 (u x)) hx
    exact pureT t7_ok fns7 (n := 200) (v := .bool true)
      [(20, .skip (outA false w1) (SA1 (u x) b (IntKind.i64.wrap (b.tmod 66)) .done (some (.exit 0)) (ints ((bitsL x).take q)) (min (bitsL x).length q))), (1, .ov (L (ints (bitsL x)) (bitsL x).length 1 0)),
        (5, .skip (.done (.exit 0) (T51g 12 4 0 w2) []) (SBL1 (u x) b (IntKind.i64.wrap (b.tmod 66)) (some (.exit 0)) (ints ((bitsL x).take q)) (min (bitsL x).length q) (L (ints (bitsL x)) (bitsL x).length 1 0) (ints (bitsL x)) (bitsL x).length)),
        (2, .ov (.bool true)), (6, .eq (.int .i64 ((min (bitsL x).length q : Nat) : Int))), (0, .ok), (0, .ov (.bool true))]
      [_, (∀ σ, env7.ov 15 [.int .u64 (u x)] 0 σ = some (L (ints (bitsL x)) (bitsL x).length 1 0, σ)), _,
        (∀ σ, env7.ov 16 [L (ints (bitsL x)) (bitsL x).length 1 15, L (ints (bitsL x)) (bitsL x).length 1 0] 0 σ = some (.bool true, σ)), _,
        (0 : Int) ≤ ((min (bitsL x).length q : Nat) : Int) ∧ ((min (bitsL x).length q : Nat) : Int) ≤ (bitsL x).length, _]
      (by kernel_rfl) ⟨h1, fun σ => ov7_15' hx σ, h2, eq_LL 13 rfl hl, hmin, ⟨by omega, by omega⟩, he⟩ rfl (.bool true)

theorem law4' (s b : Int) (h0 : IntKind.u64.min ≤ s) (h1 : s ≤ IntKind.u64.max) (h2 : IntKind.u8.min ≤ b) (h3 : b ≤ IntKind.u8.max) : Pure Tryd.prog 4 tabs 4 [.int .u64 s, .int .u8 b] (.bool true) := by
  have a0 : (0 : Int) ≤ s := h0
  have a1 : s ≤ 18446744073709551615 := h1
  have a2 : (0 : Int) ≤ b := h2
  have a3 : b ≤ 255 := h3
  have hs := u_of s a0 (by omega)
  rw [hs]
  obtain ⟨q, hq⟩ : ∃ q : Nat, IntKind.i64.wrap (b.tmod 66) = (q : Int) := by
    refine ⟨(b % 66).toNat, ?_⟩
    rw [Int.tmod_eq_emod_of_nonneg a2, wrap64 (by omega) (by omega)]
    omega
  by_cases hx : BitVec.ofInt 64 s = 0#64
  · rw [hx]; exact law4_zero b q hq
  · by_cases hz : q = 0
    · subst hz; exact law4_none b _ hx hq
    · exact law4_some b q _ hx hz hq
end Go.Proofs.YtakchekhpeokjaaDoor
