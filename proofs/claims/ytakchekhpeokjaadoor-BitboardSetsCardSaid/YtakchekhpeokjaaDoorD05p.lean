/-
  BITBOARD (chapter 05): the bits of a number, from the lowest on; the lowest bit, and what is left without it.
-/
import Derived.Test.YtakchekhpeokjaaDoorD05f
namespace Go.Proofs.YtakchekhpeokjaaDoor
open Go.Va

/-- The numbers of the bits from i on that are set. -/
def bitsFrom (x : BitVec 64) (i : Nat) : List Nat := (List.range' i (64 - i)).filter x.getLsbD
def bitsL (x : BitVec 64) : List Nat := (List.range 64).filter x.getLsbD
def lowB (x : BitVec 64) : BitVec 64 := x &&& -x
def restB (x : BitVec 64) : BitVec 64 := x &&& (x - 1#64)
def tz (x : BitVec 64) : Nat := (bitsL x).headD 64

theorem lowB_bit (x : BitVec 64) (i : Nat) (hi : i < 64) : (lowB x).getLsbD i = (x.getLsbD i && !decide (∃ j < i, x.getLsbD j = true)) := by
  unfold lowB
  rw [BitVec.getLsbD_and, BitVec.getLsbD_neg]
  cases hx : x.getLsbD i with
  | false => simp
  | true => simp [hi]
theorem restB_bit (x : BitVec 64) (i : Nat) (hi : i < 64) : (restB x).getLsbD i = (x.getLsbD i && decide (∃ j < i, x.getLsbD j = true)) := by
  unfold restB
  have : x - 1#64 = ~~~ (-x) := by
    rw [BitVec.not_neg]
  rw [BitVec.getLsbD_and, this, BitVec.getLsbD_not, BitVec.getLsbD_neg]
  cases hx : x.getLsbD i with
  | false => simp
  | true => simp [hi]

theorem bitsL_mem {x : BitVec 64} {i : Nat} : i ∈ bitsL x ↔ i < 64 ∧ x.getLsbD i = true := by
  unfold bitsL; rw [List.mem_filter, List.mem_range]
theorem bitsL_sorted (x : BitVec 64) : (bitsL x).Pairwise (· < ·) := List.Pairwise.filter _ List.pairwise_lt_range

/-- Sorted lists with the same members are the same. -/
theorem sorted_ext : ∀ {l m : List Nat}, l.Pairwise (· < ·) → m.Pairwise (· < ·) → (∀ i, i ∈ l ↔ i ∈ m) → l = m
  | [], [], _, _, _ => rfl
  | [], b :: m, _, _, h => by have := (h b).2 (by simp); cases this
  | a :: l, [], _, _, h => by have := (h a).1 (by simp); cases this
  | a :: l, b :: m, hl, hm, h => by
    rw [List.pairwise_cons] at hl hm
    have hab : a = b := by
      have h1 := (h a).1 (by simp)
      have h2 := (h b).2 (by simp)
      rcases List.mem_cons.1 h1 with h1 | h1
      · exact h1
      · rcases List.mem_cons.1 h2 with h2 | h2
        · exact h2.symm
        · have := hm.1 _ h1; have := hl.1 _ h2; omega
    subst hab
    congr 1
    refine sorted_ext hl.2 hm.2 fun i => ?_
    constructor
    · intro hi
      rcases List.mem_cons.1 ((h i).1 (List.mem_cons_of_mem _ hi)) with h3 | h3
      · have := hl.1 _ hi; omega
      · exact h3
    · intro hi
      rcases List.mem_cons.1 ((h i).2 (List.mem_cons_of_mem _ hi)) with h3 | h3
      · have := hm.1 _ hi; omega
      · exact h3

theorem bits_zero : bitsL 0#64 = [] := by
  unfold bitsL
  rw [List.filter_eq_nil_iff]
  intro i _
  simp
theorem bits_ne {x : BitVec 64} (h : bitsL x = []) : x = 0#64 := by
  refine BitVec.eq_of_getLsbD_eq fun i hi => ?_
  cases hx : x.getLsbD i with
  | false => simp
  | true => have : i ∈ bitsL x := bitsL_mem.2 ⟨hi, hx⟩; rw [h] at this; cases this

/-- The bits are the lowest one, and those of the rest. -/
theorem bits_cons {x : BitVec 64} (h : x ≠ 0#64) : bitsL x = tz x :: bitsL (restB x) := by
  cases hb : bitsL x with
  | nil => exact absurd (bits_ne hb) h
  | cons a l =>
    have hs := bitsL_sorted x
    rw [hb, List.pairwise_cons] at hs
    have ha : a < 64 ∧ x.getLsbD a = true := bitsL_mem.1 (by rw [hb]; simp)
    have htz : tz x = a := by unfold tz; rw [hb]; rfl
    rw [htz]
    congr 1
    refine sorted_ext hs.2 (bitsL_sorted _) fun i => ?_
    rw [bitsL_mem]
    constructor
    · intro hi
      have hi' : i ∈ bitsL x := by rw [hb]; exact List.mem_cons_of_mem _ hi
      obtain ⟨h1, h2⟩ := bitsL_mem.1 hi'
      refine ⟨h1, ?_⟩
      rw [restB_bit x i h1, h2, Bool.true_and, decide_eq_true_eq]
      exact ⟨a, hs.1 _ hi, ha.2⟩
    · rintro ⟨h1, h2⟩
      rw [restB_bit x i h1, Bool.and_eq_true, decide_eq_true_eq] at h2
      obtain ⟨h3, j, h4, h5⟩ := h2
      have hi : i ∈ bitsL x := bitsL_mem.2 ⟨h1, h3⟩
      rw [hb] at hi
      rcases List.mem_cons.1 hi with rfl | hi
      · have hj : j ∈ bitsL x := bitsL_mem.2 ⟨by omega, h5⟩
        rw [hb] at hj
        rcases List.mem_cons.1 hj with hj | hj
        · omega
        · have := hs.1 _ hj; omega
      · exact hi

theorem tz_spec {x : BitVec 64} (h : x ≠ 0#64) : tz x < 64 ∧ x.getLsbD (tz x) = true ∧ ∀ j, j < tz x → x.getLsbD j = false := by
  have hb := bits_cons h
  have hs := bitsL_sorted x
  rw [hb, List.pairwise_cons] at hs
  obtain ⟨h1, h2⟩ := bitsL_mem.1 (by rw [hb]; simp : tz x ∈ bitsL x)
  refine ⟨h1, h2, fun j hj => ?_⟩
  cases hx : x.getLsbD j with
  | false => rfl
  | true =>
    have hm : j ∈ bitsL x := bitsL_mem.2 ⟨by omega, hx⟩
    rw [hb] at hm
    rcases List.mem_cons.1 hm with hm | hm
    · omega
    · have := hs.1 _ hm; omega

/-- The lowest bit is a power of two. -/
theorem lowB_eq {x : BitVec 64} (h : x ≠ 0#64) : lowB x = 1#64 <<< tz x := by
  obtain ⟨h1, h2, h3⟩ := tz_spec h
  refine BitVec.eq_of_getLsbD_eq fun i hi => ?_
  rw [lowB_bit x i hi]
  have he : (1#64 <<< tz x).getLsbD i = decide (i = tz x) := by
    rw [BitVec.getLsbD_shiftLeft]
    by_cases e : i = tz x
    · subst e; simp [hi]
    · rw [decide_eq_false e]
      simp [hi]
      intro h4 h5
      omega
  rw [he]
  rcases Nat.lt_trichotomy i (tz x) with hlt | heq | hgt
  · rw [h3 i hlt, show decide (i = tz x) = false from decide_eq_false (by omega)]; rfl
  · rw [decide_eq_true heq]
    subst heq
    rw [h2]
    have : ¬ ∃ j < tz x, x.getLsbD j = true := by rintro ⟨j, hj, hx⟩; rw [h3 j hj] at hx; cases hx
    rw [decide_eq_false this]; rfl
  · have : ∃ j < i, x.getLsbD j = true := ⟨tz x, hgt, h2⟩
    rw [decide_eq_true this, show decide (i = tz x) = false from decide_eq_false (by omega)]
    simp

theorem bitsL_length (x : BitVec 64) : (bitsL x).length ≤ 64 := by
  unfold bitsL
  have := List.length_filter_le x.getLsbD (List.range 64)
  simpa using this

end Go.Proofs.YtakchekhpeokjaaDoor
