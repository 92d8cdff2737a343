/-
  BITBOARD (chapter 05): BitboardSquares is true.
-/
import Derived.Test.YtakchekhpeokjaaDoorD05z
import Derived.Test.YtakchekhpeokjaaDoorD05v
namespace Go.Proofs.YtakchekhpeokjaaDoor
open Go.Va

theorem natZ_sorted (x : BitVec 64) : (natZ (bitsL x)).Pairwise (· < ·) := by
  unfold natZ
  rw [List.pairwise_map]
  exact (bitsL_sorted x).imp fun h => by omega
theorem setOf_bit (l : List Nat) : ∀ (a : BitVec 64) (j : Nat), j < 64 → ((natZ l).foldl (fun x n => x ||| 1#64 <<< n.toNat) a).getLsbD j = (a.getLsbD j || decide (j ∈ l)) := by
  induction l with
  | nil => intro a j _; simp [natZ]
  | cons n l ih =>
    intro a j hj
    rw [show natZ (n :: l) = (n : Int) :: natZ l from rfl, List.foldl_cons, ih _ j hj, Int.toNat_natCast, BitVec.getLsbD_or]
    have : (1#64 <<< n).getLsbD j = decide (j = n) := by
      rw [BitVec.getLsbD_shiftLeft, BitVec.getLsbD_one]
      by_cases e : j = n
      · subst e; simp [hj]
      · by_cases h2 : j < n
        · simp [h2, e]
        · have h3 : j - n ≠ 0 := by omega
          simp [h3, e]
    rw [this, Bool.or_assoc]
    congr 1
    by_cases e : j = n <;> by_cases h : j ∈ l <;> simp [e, h]
theorem natZ_app (l m : List Nat) : natZ (l ++ m) = natZ l ++ natZ m := List.map_append
theorem ints_app (l m : List Nat) : ints (l ++ m) = ints l ++ ints m := List.map_append
/-- Of, of the squares twice. -/
theorem ofV_twice (x : BitVec 64) : ofV (natZ (bitsL x ++ bitsL x)) = .tuple #[.int .u64 (u x), .int .i64 0] := by
  have h1 : (natZ (bitsL x ++ bitsL x)).all (fun n => inr n 64) = true := by
    refine List.all_eq_true.2 fun n hn => ?_
    obtain ⟨j, hj, rfl⟩ := List.mem_map.1 hn
    have : j < 64 := by
      rcases List.mem_append.1 hj with h | h <;> exact (bitsL_mem.1 h).1
    exact inr_true (by omega) (by omega)
  have h2 : setOf (natZ (bitsL x ++ bitsL x)) = x := by
    refine BitVec.eq_of_getLsbD_eq fun j hj => ?_
    unfold setOf
    rw [setOf_bit _ _ _ hj]
    have : decide (j ∈ bitsL x ++ bitsL x) = x.getLsbD j := by
      cases h : x.getLsbD j with
      | true => exact decide_eq_true (List.mem_append_left _ (bitsL_mem.2 ⟨hj, h⟩))
      | false =>
        refine decide_eq_false fun hm => ?_
        rcases List.mem_append.1 hm with hm | hm <;> (rw [(bitsL_mem.1 hm).2] at h; cases h)
    rw [this]; simp
  unfold ofV
  rw [h1, h2, cond_true]

noncomputable def SE (x : BitVec 64) : AS := ((S1 (u x) (ints (bitsL x)) (bitsL x).length).put 6 (some (.obj (.deferred none)))).put 7 (some (.obj (.loop { lp15 (u x) with state := .exhausted })))
noncomputable def SEn : AS := ((S0 (u 0#64)).put 6 (some (.obj (.deferred none)))).put 7 (some (.obj (.loop { lp15 (u 0#64) with state := .exhausted })))
def w8 (v : Value) (x : BitVec 64) (n : Int) (j : Nat) : Value :=
  Go.Va.look [(2, Value.bool false), (16, .int .u64 (u x)), (17, .int .u64 (u x)), (18, v), (19, .int .u64 (u x)), (20, .int .i64 n), (21, .int .u64 (u x)), (22, .int .i64 n), (23, .bool false), (24, .bool false), (25, v), (26, .int .i64 n), (27, .int .u64 (u x)), (28, .int .i64 n),
    (29, .bool false), (30, .bool false), (31, .bool false), (32, v), (33, .bool true), (34, .bool false), (35, .bool false)] j undef

theorem law8_some (x : BitVec 64) (hx : x ≠ 0#64) : Pure Tryd.prog 4 tabs 8 [.int .u64 (u x)] (.bool true) := by
  obtain ⟨w1, h1⟩ := loop51_alle8 (u x) x (w51 (u x)) hx
  have hl := bitsL_length x
  have hz : IsZ (L (ints (bitsL x)) (bitsL x).length 1 0) (natZ (bitsL x)) := IsZ_L rfl (Nat.zero_le 1) (by omega)
  obtain ⟨w2, h2⟩ := loop8l (ints (bitsL x)) (bitsL x).length (L (ints (bitsL x)) (bitsL x).length 1 0) x (SE x) rfl hz 64 0 (w8 (L (ints (bitsL x)) (bitsL x).length 1 10) x (bitsL x).length) rfl
  have hz2 : IsZ (L (ints (bitsL x) ++ ints (bitsL x)) ((bitsL x).length + (bitsL x).length) 1 0) (natZ (bitsL x ++ bitsL x)) := by
    rw [← ints_app]
    exact IsZ_L (List.length_append ..) (Nat.zero_le 1) (by omega)
  have h36 : ∀ σ, env8.ov 36 [L (ints (bitsL x) ++ ints (bitsL x)) ((bitsL x).length + (bitsL x).length) 1 10] 0 σ = some (.tuple #[.int .u64 (u x), .int .i64 0], σ) := fun σ => by
    rw [ov8_36 (a' := L (ints (bitsL x) ++ ints (bitsL x)) ((bitsL x).length + (bitsL x).length) 1 0) 0 σ rfl hz2, ofV_twice]
  have h21 : ∀ σ, env8.ov 21 [.int .u64 (u x)] 0 σ = some (.tuple #[.int .i64 (tz x), .bool true], σ) := fun σ => by
    rw [ov8_21]; unfold lowV; rw [beq_eq_false_iff_ne.2 hx]; rfl
  have hne : (bitsL x).length ≠ 0 := by rw [bits_cons hx]; simp
  have hget : (ints (bitsL x))[0]? = some (.int .i64 (tz x)) := by rw [bits_cons hx]; rfl
  exact pureT t8_ok fns8 (n := 1000) (v := .bool true)
    [(20, .skip (.done (.exit 0) (T51 0 w1) []) (S1 (u x) (ints (bitsL x)) (bitsL x).length)), (4, .ov (.int .i64 ((bitsL x).length : Int))), (1, .ov (.int .i64 ((bitsL x).length : Int))), (0, .br false), (4, .ov (.int .i64 ((bitsL x).length : Int))), (0, .br false), (3, .ov (.bool true)),
      (5, .skip (.done (.exit 0) (T8 (L (ints (bitsL x)) (bitsL x).length 1 10) (u x) (u x) 64 w2) []) (SE x)), (1, .ov (.tuple #[.int .i64 (tz x), .bool true])), (7, .ok), (0, .ov (.tuple #[.int .u64 (u x), .int .i64 0])), (7, .br true), (3, .br true), (8, .br true), (12, .ok), (0, .is (.int .i64 (tz x))), (0, .br true)]
    [_, (∀ σ, env8.ov 24 [.int .u64 (u x)] 0 σ = some (.int .i64 ((bitsL x).length : Int), σ)), (∀ σ, env8.ov 37 [.int .u64 (u x)] 0 σ = some (.int .i64 ((bitsL x).length : Int), σ)), (((bitsL x).length : Int) != (bitsL x).length) = false,
      (∀ σ, env8.ov 24 [.int .u64 (u x)] 0 σ = some (.int .i64 ((bitsL x).length : Int), σ)), (((bitsL x).length : Int) != (bitsL x).length) = false, (∀ σ, env8.ov 38 [L (ints (bitsL x)) (bitsL x).length 1 10] 0 σ = some (.bool true, σ)), _, _,
      (ints (bitsL x)).length = (ints (bitsL x)).length ∧ ((bitsL x).length + (bitsL x).length) * 8 ≤ 70368744177664, _, (u x == u x) = true, (u x == u x) = true, (u x != 0) = true, (0 : Int) ≤ 0 ∧ (0 : Int) < (bitsL x).length, (ints (bitsL x))[0]? = some (.int .i64 (tz x)), ((tz x : Int) == tz x) = true]
    (by kernel_rfl) ⟨h1, fun σ => ov8_24 x 0 σ, fun σ => ov8_37 x 0 σ, bne_self_eq_false _, fun σ => ov8_24 x 0 σ, bne_self_eq_false _, fun σ => ov8_38 (a' := L (ints (bitsL x)) (bitsL x).length 1 0) 0 σ rfl hz (natZ_sorted x), h2, h21, ⟨rfl, by omega⟩, h36, beq_self_eq_true _, beq_self_eq_true _, u_ne hx, ⟨by omega, by omega⟩, hget, beq_self_eq_true _⟩ rfl (.bool true)
theorem law8_zero : Pure Tryd.prog 4 tabs 8 [.int .u64 (u 0#64)] (.bool true) := by
  have hz : IsZ (.slice none 0 0) (natZ (bitsL 0#64)) := by rw [bits_zero]; exact IsZ_nil
  obtain ⟨w2, h2⟩ := loop8n (.slice none 0 0) 0#64 SEn rfl hz 64 0 (w8 (.slice none 0 0) 0#64 0) rfl
  have h24 : ∀ σ, env8.ov 24 [.int .u64 (u 0#64)] 0 σ = some (.int .i64 0, σ) := fun σ => by rw [ov8_24, bits_zero]; rfl
  have h37 : ∀ σ, env8.ov 37 [.int .u64 (u 0#64)] 0 σ = some (.int .i64 0, σ) := fun σ => by rw [ov8_37, bits_zero]; rfl
  have h38 : ∀ σ, env8.ov 38 [.slice none 0 0] 0 σ = some (.bool true, σ) := fun σ => ov8_38 (a' := .slice none 0 0) 0 σ rfl hz (natZ_sorted 0#64)
  have h21 : ∀ σ, env8.ov 21 [.int .u64 (u 0#64)] 0 σ = some (.tuple #[.int .i64 0, .bool false], σ) := fun σ => ov8_21 0#64 0 σ
  have h36 : ∀ σ, env8.ov 36 [.slice none 0 0] 0 σ = some (.tuple #[.int .u64 (u 0#64), .int .i64 0], σ) := fun σ => ov8_36 (a' := .slice none 0 0) 0 σ rfl IsZ_nil
  exact pureT t8_ok fns8 (n := 1000) (v := .bool true)
    [(28, .ov (.int .i64 0)), (1, .ov (.int .i64 0)), (5, .ov (.int .i64 0)), (4, .ov (.bool true)), (5, .skip (.done (.exit 0) (T8 (.slice none 0 0) (u 0#64) (u 0#64) 64 w2) []) SEn), (1, .ov (.tuple #[.int .i64 0, .bool false])), (8, .ov (.tuple #[.int .u64 (u 0#64), .int .i64 0]))]
    [(∀ σ, env8.ov 24 [.int .u64 (u 0#64)] 0 σ = some (.int .i64 0, σ)), (∀ σ, env8.ov 37 [.int .u64 (u 0#64)] 0 σ = some (.int .i64 0, σ)), (∀ σ, env8.ov 24 [.int .u64 (u 0#64)] 0 σ = some (.int .i64 0, σ)), (∀ σ, env8.ov 38 [.slice none 0 0] 0 σ = some (.bool true, σ)), _,
      (∀ σ, env8.ov 21 [.int .u64 (u 0#64)] 0 σ = some (.tuple #[.int .i64 0, .bool false], σ)), (∀ σ, env8.ov 36 [.slice none 0 0] 0 σ = some (.tuple #[.int .u64 (u 0#64), .int .i64 0], σ))]
    (by kernel_rfl) ⟨h24, h37, h24, h38, h2, h21, h36⟩ rfl (.bool true)
theorem law8' (s : Int) (h0 : IntKind.u64.min ≤ s) (h1 : s ≤ IntKind.u64.max) : Pure Tryd.prog 4 tabs 8 [.int .u64 s] (.bool true) := by
  have a0 : (0 : Int) ≤ s := h0
  have a1 : s ≤ 18446744073709551615 := h1
  rw [u_of s a0 (by omega)]
  by_cases hx : BitVec.ofInt 64 s = 0#64
  · rw [hx]; exact law8_zero
  · exact law8_some _ hx
end Go.Proofs.YtakchekhpeokjaaDoor
