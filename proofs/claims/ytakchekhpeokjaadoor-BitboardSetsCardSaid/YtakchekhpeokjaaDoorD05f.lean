/-
  BITBOARD (chapter 05): numbers of 64 bits as bits; Flip and Mirror.
-/
import Derived.Test.YtakchekhpeokjaaDoorD05e
namespace Go.Proofs.YtakchekhpeokjaaDoor
open Go.Va

def shrS (s k : Int) : Int := s.fdiv (2 ^ min k.toNat IntKind.u64.bits)
def shlS (s k : Int) : Int := IntKind.u64.wrap (s * 2 ^ min k.toNat IntKind.u64.bits)
def swapS (s k m : Int) : Int := orS (andS (shrS s k) m) (shlS (andS s m) k)
def rbS (s : Int) : Int := let t := swapS (swapS s 8 71777214294589695) 16 281470681808895; orS (shrS t 32) (shlS t 32)
def rvS (s : Int) : Int := rbS (swapS (swapS (swapS s 1 6148914691236517205) 2 3689348814741910323) 4 1085102592571150095)

theorem p28 (s : Int) : Pure Tryd.prog 4 tabs 28 [.int .u64 s] (.int .u64 (rbS s)) :=
  pure3 (n := 100) [] [] (by kernel_rfl) trivial rfl rfl
theorem p30 (s : Int) : Pure Tryd.prog 4 tabs 30 [.int .u64 s] (.int .u64 (rbS (rvS s))) :=
  pure3 (n := 100) [] [] (by kernel_rfl) trivial rfl rfl

/-! ## As bits -/

def u (x : BitVec 64) : Int := (x.toNat : Int)
theorem u_lt (x : BitVec 64) : u x < 18446744073709551616 := by unfold u; have := x.isLt; omega
theorem u_nonneg (x : BitVec 64) : 0 ≤ u x := by unfold u; omega
theorem wrap_toNat (x : BitVec 64) : IntKind.u64.wrap (x.toNat : Int) = u x := by
  have := x.isLt
  refine wrap_fits .u64 ?_ ?_
  · show (0 : Int) ≤ _; omega
  · show _ ≤ (18446744073709551615 : Int); omega
theorem ofInt_u (x : BitVec 64) : BitVec.ofInt IntKind.u64.bits (u x) = x := by
  show BitVec.ofInt 64 (x.toNat : Int) = x
  rw [BitVec.ofInt_natCast]
  simp
theorem u_of (s : Int) (h0 : 0 ≤ s) (h1 : s < 18446744073709551616) : s = u (BitVec.ofInt 64 s) := by
  unfold u
  rw [BitVec.toNat_ofInt]
  omega
theorem orS_u (x y : BitVec 64) : orS (u x) (u y) = u (x ||| y) := by unfold orS; rw [ofInt_u, ofInt_u]; exact wrap_toNat _
theorem andS_u (x y : BitVec 64) : andS (u x) (u y) = u (x &&& y) := by unfold andS; rw [ofInt_u, ofInt_u]; exact wrap_toNat _
theorem andNotS_u (x y : BitVec 64) : andNotS (u x) (u y) = u (x &&& ~~~ y) := by unfold andNotS; rw [ofInt_u, ofInt_u]; exact wrap_toNat _
theorem pow_cast (k : Nat) : (2 : Int) ^ k = ((2 ^ k : Nat) : Int) := by simp
theorem wrap_nat (m : Nat) : IntKind.u64.wrap (m : Int) = ((m % 18446744073709551616 : Nat) : Int) := by
  unfold IntKind.wrap
  simp only [IntKind.signed, Bool.false_and, Bool.false_eq_true, if_false]
  show (m : Int) % (2 ^ 64 : Int) = _
  omega
theorem shrS_u (x : BitVec 64) (k : Nat) (hk : k ≤ 64) : shrS (u x) k = u (x >>> k) := by
  unfold shrS u
  rw [show min (k : Int).toNat IntKind.u64.bits = k by show min (k : Int).toNat 64 = k; omega]
  rw [BitVec.toNat_ushiftRight, Nat.shiftRight_eq_div_pow, pow_cast, Int.fdiv_eq_ediv_of_nonneg _ (Int.natCast_nonneg _), Int.natCast_ediv]
theorem shlS_u (x : BitVec 64) (k : Nat) (hk : k ≤ 64) : shlS (u x) k = u (x <<< k) := by
  unfold shlS u
  rw [show min (k : Int).toNat IntKind.u64.bits = k by show min (k : Int).toNat 64 = k; omega]
  rw [pow_cast, ← Int.natCast_mul, wrap_nat, BitVec.toNat_shiftLeft, Nat.shiftLeft_eq]
theorem bitS_u (n : Int) (h0 : 0 ≤ n) (h1 : n < 64) : bitS n = u (1#64 <<< n.toNat) := by
  have := shlS_u 1#64 n.toNat (by omega)
  rw [← this]
  unfold bitS shlS u
  rw [show ((n.toNat : Nat) : Int).toNat = n.toNat by omega]
  rfl
theorem u_inj {x y : BitVec 64} (h : u x = u y) : x = y := by
  unfold u at h
  exact BitVec.eq_of_toNat_eq (by omega)
theorem u_zero : u 0#64 = 0 := rfl

/-- Has, as a bit. -/
theorem hasS_u (x : BitVec 64) (n : Int) (h0 : 0 ≤ n) (h1 : n < 64) : hasS (u x) n = x.getLsbD n.toNat := by
  unfold hasS
  rw [inr_true h0 h1, Bool.true_and, bitS_u n h0 h1, andS_u]
  have hn : n.toNat < 64 := by omega
  cases hx : x.getLsbD n.toNat with
  | true =>
    rw [bne_iff_ne]
    intro h
    rw [← u_zero] at h
    have h := u_inj h
    have : (x &&& 1#64 <<< n.toNat).getLsbD n.toNat = (0#64).getLsbD n.toNat := by rw [h]
    rw [BitVec.getLsbD_eq_getElem hn] at hx
    simp [hn] at this
    rw [hx] at this
    cases this
  | false =>
    rw [bne_eq_false_iff_eq, ← u_zero]
    congr 1
    refine BitVec.eq_of_getLsbD_eq fun i hi => ?_
    by_cases he : i = n.toNat
    · subst he; simp [hx]
    · simp [hi]
      intro _ h2
      omega

def swapB (x : BitVec 64) (k : Nat) (m : BitVec 64) : BitVec 64 := ((x >>> k) &&& m) ||| ((x &&& m) <<< k)
def rbB (x : BitVec 64) : BitVec 64 := let t := swapB (swapB x 8 71777214294589695#64) 16 281470681808895#64; (t >>> 32) ||| (t <<< 32)
def rvB (x : BitVec 64) : BitVec 64 := rbB (swapB (swapB (swapB x 1 6148914691236517205#64) 2 3689348814741910323#64) 4 1085102592571150095#64)
theorem swapS_u (x : BitVec 64) (k : Nat) (hk : k ≤ 64) (m : BitVec 64) : swapS (u x) k (u m) = u (swapB x k m) := by
  unfold swapS swapB
  rw [shrS_u _ _ hk, andS_u, andS_u, shlS_u _ _ hk, orS_u]
theorem rbS_u (x : BitVec 64) : rbS (u x) = u (rbB x) := by
  have e1 := swapS_u x 8 (by decide) 71777214294589695#64
  have e2 := swapS_u (swapB x 8 71777214294589695#64) 16 (by decide) 281470681808895#64
  have e3 := shrS_u (swapB (swapB x 8 71777214294589695#64) 16 281470681808895#64) 32 (by decide)
  have e4 := shlS_u (swapB (swapB x 8 71777214294589695#64) 16 281470681808895#64) 32 (by decide)
  show orS (shrS (swapS (swapS (u x) ((8 : Nat) : Int) (u 71777214294589695#64)) ((16 : Nat) : Int) (u 281470681808895#64)) ((32 : Nat) : Int)) (shlS (swapS (swapS (u x) ((8 : Nat) : Int) (u 71777214294589695#64)) ((16 : Nat) : Int) (u 281470681808895#64)) ((32 : Nat) : Int)) = _
  rw [e1, e2, e3, e4, orS_u]
  rfl
theorem rvS_u (x : BitVec 64) : rvS (u x) = u (rvB x) := by
  have e1 := swapS_u x 1 (by decide) 6148914691236517205#64
  have e2 := swapS_u (swapB x 1 6148914691236517205#64) 2 (by decide) 3689348814741910323#64
  have e3 := swapS_u (swapB (swapB x 1 6148914691236517205#64) 2 3689348814741910323#64) 4 (by decide) 1085102592571150095#64
  show rbS (swapS (swapS (swapS (u x) ((1 : Nat) : Int) (u 6148914691236517205#64)) ((2 : Nat) : Int) (u 3689348814741910323#64)) ((4 : Nat) : Int) (u 1085102592571150095#64)) = _
  rw [e1, e2, e3, rbS_u]
  rfl

/-- Of which bits of x is the bit made? -/
def bitsOf (x y : BitVec 64) (sel : Nat → List Nat) : Prop := ∀ i, i < 64 → y.getLsbD i = (sel i).any fun j => x.getLsbD j
def swapSel (k m : Nat) (sel : Nat → List Nat) (i : Nat) : List Nat := (bif m.testBit i then (bif decide (i + k < 64) then sel (i + k) else []) else []) ++ (bif decide (k ≤ i) && m.testBit (i - k) then sel (i - k) else [])
theorem bitsOf_swap {x y : BitVec 64} {sel : Nat → List Nat} (h : bitsOf x y sel) (k m : Nat) : bitsOf x (swapB y k (BitVec.ofNat 64 m)) (swapSel k m sel) := by
  intro i hi
  unfold swapB swapSel
  rw [BitVec.getLsbD_or, BitVec.getLsbD_and, BitVec.getLsbD_ushiftRight, BitVec.getLsbD_shiftLeft, BitVec.getLsbD_and, BitVec.getLsbD_ofNat, BitVec.getLsbD_ofNat, List.any_append]
  congr 1
  · rw [Nat.add_comm k i]
    cases hm : m.testBit i with
    | false => simp
    | true =>
      by_cases hk : i + k < 64
      · rw [h _ hk]; simp [hi, hk]
      · rw [BitVec.getLsbD_of_ge _ _ (by omega)]; simp [hk]
  · by_cases hk : k ≤ i
    · have h1 : i - k < 64 := by omega
      rw [h _ h1]
      cases hm : m.testBit (i - k) with
      | false => simp
      | true =>
        have : decide (i < k) = false := by simp; omega
        simp [hk, h1, hi, this]
    · have : decide (i < k) = true := by simp; omega
      simp [this, hk]
theorem bitsOf_self (x : BitVec 64) : bitsOf x x fun i => [i] := fun i _ => by simp
def turnSel (sel : Nat → List Nat) (i : Nat) : List Nat := (bif decide (i + 32 < 64) then sel (i + 32) else []) ++ (bif decide (32 ≤ i) then sel (i - 32) else [])
theorem bitsOf_turn {x y : BitVec 64} {sel : Nat → List Nat} (h : bitsOf x y sel) : bitsOf x ((y >>> 32) ||| (y <<< 32)) (turnSel sel) := by
  intro i hi
  unfold turnSel
  rw [BitVec.getLsbD_or, BitVec.getLsbD_ushiftRight, BitVec.getLsbD_shiftLeft, List.any_append]
  congr 1
  · rw [Nat.add_comm 32 i]
    by_cases hk : i + 32 < 64
    · rw [h _ hk]; simp [hk]
    · rw [BitVec.getLsbD_of_ge _ _ (by omega)]; simp [hk]
  · by_cases hk : 32 ≤ i
    · have h1 : i - 32 < 64 := by omega
      have : decide (i < 32) = false := by simp; omega
      rw [h _ h1]; simp [hk, hi, this]
    · have : decide (i < 32) = true := by simp; omega
      simp [this, hk]
def rbSel (sel : Nat → List Nat) : Nat → List Nat := turnSel (swapSel 16 281470681808895 (swapSel 8 71777214294589695 sel))
def rvSel : Nat → List Nat := rbSel (swapSel 4 1085102592571150095 (swapSel 2 3689348814741910323 (swapSel 1 6148914691236517205 fun i => [i])))
theorem bitsOf_rb {x y : BitVec 64} {sel : Nat → List Nat} (h : bitsOf x y sel) : bitsOf x (rbB y) (rbSel sel) := bitsOf_turn (bitsOf_swap (bitsOf_swap h 8 _) 16 _)
theorem bitsOf_rv (x : BitVec 64) : bitsOf x (rvB x) rvSel := bitsOf_rb (bitsOf_swap (bitsOf_swap (bitsOf_swap (bitsOf_self x) 1 _) 2 _) 4 _)
theorem sel_flip : ((List.range 64).all fun i => rbSel (fun i => [i]) i == [8 * (7 - i / 8) + i % 8]) = true := by decide +kernel
theorem sel_mirror : ((List.range 64).all fun i => rbSel rvSel i == [i - i % 8 + 7 - i % 8]) = true := by decide +kernel

theorem flip_bit (x : BitVec 64) (i : Nat) (hi : i < 64) : (rbB x).getLsbD i = x.getLsbD (8 * (7 - i / 8) + i % 8) := by
  rw [bitsOf_rb (bitsOf_self x) i hi, eq_of_beq (List.all_eq_true.1 sel_flip i (List.mem_range.2 hi))]
  simp
theorem mirror_bit (x : BitVec 64) (i : Nat) (hi : i < 64) : (rbB (rvB x)).getLsbD i = x.getLsbD (i - i % 8 + 7 - i % 8) := by
  rw [bitsOf_rb (bitsOf_rv x) i hi, eq_of_beq (List.all_eq_true.1 sel_mirror i (List.mem_range.2 hi))]
  simp

end Go.Proofs.YtakchekhpeokjaaDoor
