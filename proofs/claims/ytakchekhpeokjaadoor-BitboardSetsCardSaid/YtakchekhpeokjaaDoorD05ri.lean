/-
  BITBOARD (chapter 05): what the document's Shift answers.
-/
import Derived.Test.YtakchekhpeokjaaDoorD05rh
namespace Go.Proofs.YtakchekhpeokjaaDoor
open Go.Va

theorem setOf_mem : ∀ (l : List Int) (a : BitVec 64) (j : Nat), j < 64 → (∀ n ∈ l, 0 ≤ n ∧ n < 64) → (l.foldl (fun x n => x ||| 1#64 <<< n.toNat) a).getLsbD j = (a.getLsbD j || decide ((j : Int) ∈ l))
  | [], a, j, _, _ => by simp
  | n :: l, a, j, hj, h => by
    have hn := h n (List.mem_cons_self ..)
    rw [List.foldl_cons, setOf_mem l _ j hj fun m hm => h m (List.mem_cons_of_mem _ hm), BitVec.getLsbD_or]
    have : (1#64 <<< n.toNat).getLsbD j = decide ((j : Int) = n) := by
      rw [BitVec.getLsbD_shiftLeft, BitVec.getLsbD_one]
      by_cases e : (j : Int) = n
      · have : j = n.toNat := by omega
        rw [decide_eq_true e, ← this]; simp [hj]
      · rw [decide_eq_false e]
        by_cases h2 : j < n.toNat
        · simp [h2]
        · have h3 : j - n.toNat ≠ 0 := by omega
          simp [h3]
    rw [this, Bool.or_assoc]
    congr 1
    by_cases e : (j : Int) = n <;> by_cases h : (j : Int) ∈ l <;> simp [e, h]
theorem toS_eq {i : Nat} {f r : Int} (hi : i < 64) (hf : -7 ≤ f ∧ f ≤ 7) (hr : -7 ≤ r ∧ r ≤ 7) : toF i f = i % 8 + f ∧ toR i r = i / 8 + r ∧ (stays f r i = true → toS i f r = 8 * ((i : Int) / 8 + r) + (i % 8 + f)) := by
  have e1 : toF i f = i % 8 + f := by
    unfold toF
    rw [Int.tmod_eq_emod_of_nonneg (by omega), wrap64 (by omega) (by omega)]
  have e2 : toR i r = i / 8 + r := by
    unfold toR
    rw [Int.tdiv_eq_ediv_of_nonneg (by omega), wrap64 (n := (i : Int) / 8) (by omega) (by omega), wrap64 (by omega) (by omega)]
  refine ⟨e1, e2, fun _ => ?_⟩
  unfold toS
  rw [e1, e2, wrap64 (n := 8 * ((i : Int) / 8 + r)) (by omega) (by omega), wrap64 (by omega) (by omega)]
theorem stays_iff {i : Nat} {f r : Int} (hi : i < 64) (hf : -7 ≤ f ∧ f ≤ 7) (hr : -7 ≤ r ∧ r ≤ 7) : stays f r i = true ↔ (0 ≤ (i : Int) % 8 + f ∧ (i : Int) % 8 + f < 8) ∧ 0 ≤ (i : Int) / 8 + r ∧ (i : Int) / 8 + r < 8 := by
  obtain ⟨e1, e2, _⟩ := toS_eq hi hf hr
  unfold stays inr
  rw [e1, e2]
  simp only [Bool.and_eq_true, decide_eq_true_eq]
theorem mvd_mem {x : BitVec 64} {f r : Int} (hf : -7 ≤ f ∧ f ≤ 7) (hr : -7 ≤ r ∧ r ≤ 7) {n : Int} : n ∈ mvd f r (natZ (bitsL x)) ↔ ∃ i : Nat, i < 64 ∧ x.getLsbD i = true ∧ stays f r i = true ∧ n = 8 * ((i : Int) / 8 + r) + (i % 8 + f) := by
  unfold mvd
  rw [List.mem_map]
  constructor
  · rintro ⟨a, ha, rfl⟩
    obtain ⟨h1, h2⟩ := List.mem_filter.1 ha
    obtain ⟨i, hi, rfl⟩ := List.mem_map.1 h1
    obtain ⟨h3, h4⟩ := bitsL_mem.1 hi
    exact ⟨i, h3, h4, h2, (toS_eq h3 hf hr).2.2 h2⟩
  · rintro ⟨i, h3, h4, h2, rfl⟩
    exact ⟨(i : Int), List.mem_filter.2 ⟨List.mem_map.2 ⟨i, bitsL_mem.2 ⟨h3, h4⟩, rfl⟩, h2⟩, (toS_eq h3 hf hr).2.2 h2⟩
theorem shift_of (x : BitVec 64) {f r : Int} (hf : -7 ≤ f ∧ f ≤ 7) (hr : -7 ≤ r ∧ r ≤ 7) : ofV (mvd f r (natZ (bitsL x))) = .tuple #[.int .u64 (shiftS (u x) f r), .int .i64 0] := by
  have hin : ∀ n ∈ mvd f r (natZ (bitsL x)), 0 ≤ n ∧ n < 64 := fun n hn => by
    obtain ⟨i, h3, _, h2, rfl⟩ := (mvd_mem hf hr).1 hn
    have := (stays_iff h3 hf hr).1 h2
    omega
  have h1 : (mvd f r (natZ (bitsL x))).all (fun n => inr n 64) = true := List.all_eq_true.2 fun n hn => inr_true (hin n hn).1 (hin n hn).2
  have h2 : setOf (mvd f r (natZ (bitsL x))) = shB x f r := by
    refine BitVec.eq_of_getLsbD_eq fun j hj => ?_
    unfold setOf
    rw [setOf_mem _ _ _ hj hin, shB_bit x hf.1 hf.2 hr.1 hr.2 j hj, BitVec.getLsbD_zero, Bool.false_or]
    refine Bool.eq_iff_iff.2 ?_
    rw [decide_eq_true_eq, mvd_mem hf hr]
    simp only [Bool.and_eq_true, inr, decide_eq_true_eq]
    constructor
    · rintro ⟨i, h3, h4, h5, e⟩
      have h5 := (stays_iff h3 hf hr).1 h5
      have e1 : (8 * ((j : Int) / 8 - r) + ((j : Int) % 8 - f)).toNat = i := by omega
      rw [e1]
      exact ⟨⟨by omega, by omega⟩, h4⟩
    · rintro ⟨⟨h6, h7⟩, h4⟩
      refine ⟨(8 * ((j : Int) / 8 - r) + ((j : Int) % 8 - f)).toNat, by omega, h4, (stays_iff (by omega) hf hr).2 (by omega), by omega⟩
  unfold ofV
  rw [h1, h2, cond_true, shiftS_u x hf.1 hf.2 hr.1 hr.2]
end Go.Proofs.YtakchekhpeokjaaDoor
