/-
  BITBOARD (chapter 05): Shift, of small numbers; its bits.
-/
import Derived.Test.YtakchekhpeokjaaDoorD05j
namespace Go.Proofs.YtakchekhpeokjaaDoor
open Go.Va

theorem w11 (s f r : Int) (hf : -9223372036854775808 ≤ f ∧ f ≤ 9223372036854775807) (hr : -9223372036854775808 ≤ r ∧ r ≤ 9223372036854775807) : runW Tryd.prog env5 0 (.call 11 [.int .u64 s, .int .i64 f, .int .i64 r]) (base0 4 tabs) = some (.val (.int .u64 (shiftS s f r)), base0 4 tabs) := by
  have wa := wrap_mod (f + 8)
  have wb := wrap_mod (IntKind.i64.wrap (f + 8) - 1)
  by_cases h1 : IntKind.i64.wrap (IntKind.i64.wrap (f + 8) - 1) < 0
  · have h : decide (IntKind.i64.wrap (IntKind.i64.wrap (f + 8) - 1) ≥ 0) = false := decide_eq_false (by omega)
    rw [show shiftS s f r = 0 by simp [shiftS, inr_neg h]]
    exact w11_out1 s f r h
  by_cases h2 : 15 ≤ IntKind.i64.wrap (IntKind.i64.wrap (f + 8) - 1)
  · have h : decide (IntKind.i64.wrap (IntKind.i64.wrap (f + 8) - 1) ≥ 0) = true := decide_eq_true (by omega)
    have g : decide (IntKind.i64.wrap (IntKind.i64.wrap (f + 8) - 1) < 15) = false := decide_eq_false (by omega)
    rw [show shiftS s f r = 0 by simp [shiftS, inr_big g]]
    exact w11_out2 s f r h g
  have hc : f = -7 ∨ f = -6 ∨ f = -5 ∨ f = -4 ∨ f = -3 ∨ f = -2 ∨ f = -1 ∨ f = 0 ∨ f = 1 ∨ f = 2 ∨ f = 3 ∨ f = 4 ∨ f = 5 ∨ f = 6 ∨ f = 7 := by omega
  rcases hc with rfl | rfl | rfl | rfl | rfl | rfl | rfl | rfl | rfl | rfl | rfl | rfl | rfl | rfl | rfl
  · exact w11_m7 s r hr
  · exact w11_m6 s r hr
  · exact w11_m5 s r hr
  · exact w11_m4 s r hr
  · exact w11_m3 s r hr
  · exact w11_m2 s r hr
  · exact w11_m1 s r hr
  · exact w11_p0 s r hr
  · exact w11_p1 s r hr
  · exact w11_p2 s r hr
  · exact w11_p3 s r hr
  · exact w11_p4 s r hr
  · exact w11_p5 s r hr
  · exact w11_p6 s r hr
  · exact w11_p7 s r hr

/-- The files that stay, as bits. -/
def stayB (f : Int) : BitVec 64 := BitVec.ofInt 64 (stayS f)
def stayOk (f : Int) : Bool := decide (0 ≤ stayS f) && decide (stayS f < 18446744073709551616) && (List.range 64).all fun i => (stayB f).getLsbD i == inr ((i : Int) % 8 + f) 8
theorem stay_all : ((List.range 15).all fun k => stayOk ((k : Int) - 7)) = true := by decide +kernel

theorem stay_facts {f : Int} (h0 : -7 ≤ f) (h1 : f ≤ 7) : stayS f = u (stayB f) ∧ ∀ i, i < 64 → (stayB f).getLsbD i = inr ((i : Int) % 8 + f) 8 := by
  have h := List.all_eq_true.1 stay_all (f + 7).toNat (List.mem_range.2 (by omega))
  rw [show ((((f + 7).toNat : Nat) : Int) - 7) = f by omega] at h
  simp only [stayOk, Bool.and_eq_true, decide_eq_true_eq] at h
  exact ⟨u_of _ h.1.1 h.1.2, fun i hi => eq_of_beq (List.all_eq_true.1 h.2 i (List.mem_range.2 hi))⟩

/-- Shift, of bits. -/
def shB (x : BitVec 64) (f r : Int) : BitVec 64 := if 8 * r + f ≥ 0 then (x &&& stayB f) <<< (8 * r + f).toNat else (x &&& stayB f) >>> (-(8 * r + f)).toNat
theorem shiftS_u (x : BitVec 64) {f r : Int} (h0 : -7 ≤ f) (h1 : f ≤ 7) (g0 : -7 ≤ r) (g1 : r ≤ 7) : shiftS (u x) f r = u (shB x f r) := by
  have e : IntKind.i64.wrap (IntKind.i64.wrap (f + 8) - 1) = f + 7 := by
    rw [wrap64 (n := f + 8) (by omega) (by omega), wrap64 (by omega) (by omega)]; omega
  have e' : IntKind.i64.wrap (IntKind.i64.wrap (r + 8) - 1) = r + 7 := by
    rw [wrap64 (n := r + 8) (by omega) (by omega), wrap64 (by omega) (by omega)]; omega
  unfold shiftS shB
  rw [e, e', inr_true (by omega) (by omega), inr_true (by omega) (by omega), byS_eq (by omega) (by omega), (stay_facts h0 h1).1, andS_u]
  simp only [Bool.and_self, cond_true]
  by_cases hb : 8 * r + f ≥ 0
  · rw [decide_eq_true hb, cond_true, if_pos hb]
    have := shlS_u (x &&& stayB f) (8 * r + f).toNat (by omega)
    rw [show (((8 * r + f).toNat : Nat) : Int) = 8 * r + f by omega] at this
    exact this
  · rw [decide_eq_false hb, cond_false, if_neg hb, wrap64 (by omega) (by omega)]
    have := shrS_u (x &&& stayB f) (-(8 * r + f)).toNat (by omega)
    rw [show (((-(8 * r + f)).toNat : Nat) : Int) = 0 - (8 * r + f) by omega] at this
    exact this

/-- Where a square comes from. -/
theorem shB_bit (x : BitVec 64) {f r : Int} (h0 : -7 ≤ f) (h1 : f ≤ 7) (g0 : -7 ≤ r) (g1 : r ≤ 7) (j : Nat) (hj : j < 64) :
    (shB x f r).getLsbD j = (inr ((j : Int) % 8 - f) 8 && inr ((j : Int) / 8 - r) 8 && x.getLsbD (8 * ((j : Int) / 8 - r) + ((j : Int) % 8 - f)).toNat) := by
  have hst := (stay_facts h0 h1).2
  unfold shB
  by_cases hb : 8 * r + f ≥ 0
  · rw [if_pos hb, BitVec.getLsbD_shiftLeft, BitVec.getLsbD_and]
    by_cases hk : j < (8 * r + f).toNat
    · have : (inr ((j : Int) % 8 - f) 8 && inr ((j : Int) / 8 - r) 8) = false := by
        simp only [inr, Bool.and_eq_false_iff, decide_eq_false_iff_not]; omega
      simp [hk, this]
    · have hlt : j - (8 * r + f).toNat < 64 := by omega
      rw [hst _ hlt]
      have hidx : ((j - (8 * r + f).toNat : Nat) : Int) = j - (8 * r + f) := by omega
      by_cases hin : 0 ≤ ((j : Int) - (8 * r + f)) % 8 + f ∧ ((j : Int) - (8 * r + f)) % 8 + f < 8
      · have i1 : inr (((j - (8 * r + f).toNat : Nat) : Int) % 8 + f) 8 = true := inr_true (by rw [hidx]; omega) (by rw [hidx]; omega)
        have i2 : (inr ((j : Int) % 8 - f) 8 && inr ((j : Int) / 8 - r) 8) = true := by
          rw [inr_true (by omega) (by omega), inr_true (by omega) (by omega)]; rfl
        rw [i1, i2]
        simp [hj, hk]
        congr 1; omega
      · have i1 : inr (((j - (8 * r + f).toNat : Nat) : Int) % 8 + f) 8 = false := by
          rw [hidx]; simp only [inr, Bool.and_eq_false_iff, decide_eq_false_iff_not]; omega
        have i2 : (inr ((j : Int) % 8 - f) 8 && inr ((j : Int) / 8 - r) 8) = false := by
          simp only [inr, Bool.and_eq_false_iff, decide_eq_false_iff_not]; omega
        rw [i1, i2]; simp
  · rw [if_neg hb, BitVec.getLsbD_ushiftRight, BitVec.getLsbD_and]
    by_cases hk : (-(8 * r + f)).toNat + j < 64
    · rw [hst _ hk]
      have hidx : (((-(8 * r + f)).toNat + j : Nat) : Int) = j - (8 * r + f) := by omega
      by_cases hin : 0 ≤ ((j : Int) - (8 * r + f)) % 8 + f ∧ ((j : Int) - (8 * r + f)) % 8 + f < 8
      · have i1 : inr ((((-(8 * r + f)).toNat + j : Nat) : Int) % 8 + f) 8 = true := inr_true (by rw [hidx]; omega) (by rw [hidx]; omega)
        have i2 : (inr ((j : Int) % 8 - f) 8 && inr ((j : Int) / 8 - r) 8) = true := by
          rw [inr_true (by omega) (by omega), inr_true (by omega) (by omega)]; rfl
        rw [i1, i2]
        simp
        congr 1; omega
      · have i1 : inr ((((-(8 * r + f)).toNat + j : Nat) : Int) % 8 + f) 8 = false := by
          rw [hidx]; simp only [inr, Bool.and_eq_false_iff, decide_eq_false_iff_not]; omega
        have i2 : (inr ((j : Int) % 8 - f) 8 && inr ((j : Int) / 8 - r) 8) = false := by
          simp only [inr, Bool.and_eq_false_iff, decide_eq_false_iff_not]; omega
        rw [i1, i2]; simp
    · have i2 : (inr ((j : Int) % 8 - f) 8 && inr ((j : Int) / 8 - r) 8) = false := by
        simp only [inr, Bool.and_eq_false_iff, decide_eq_false_iff_not]; omega
      rw [i2, BitVec.getLsbD_of_ge x _ (by omega)]; simp

/-- The call, in a law. -/
theorem e11 (s f r : Int) (hf : -100 ≤ f ∧ f ≤ 100) (hr : -100 ≤ r ∧ r ≤ 100) : enterA Tryd.prog env5 (runW Tryd.prog env5) 0 11 [.int .u64 s, .int .i64 f, .int .i64 r] (base0 4 tabs) = some (.int .u64 (shiftS s f r), base0 4 tabs) := by
  unfold enterA
  rw [show env5.isOv 11 = false from rfl, cond_false, w11 s f r (by omega) (by omega)]

end Go.Proofs.YtakchekhpeokjaaDoor
