/-
  The functions that the statement reaches: what they answer, part 4.
-/
import Derived.Test.YtakchekhpeokjaaDoorPart3

/-
  BITBOARD (chapter 05): the loops of BitboardSquares. Printed by gen05z.py.
-/
namespace Go.Proofs.YtakchekhpeokjaaDoor
open Go.Va

theorem next51_nile8 (s r : Int) (n : Int) (w : Nat → Value) (h1 : (r != 0) = true) (h2 : ∀ σ, env8.ov 52 [.int .u64 r] 0 σ = some (.int .i64 n, σ)) :
    ∃ w', runW Tryd.prog env8 0 (.code ⟨51, none⟩ body51 (T51 r w) []) (S0 s) = some (.done .normal (T51 (andS r (subS r 1)) w') [], S1 s [.int .i64 n] 1) :=
  seg 100 [(1, .br true), (3, .ov (.int .i64 n))] (m := 16) (js := [0, 1, 3]) (vs := [.func (.yield 7) #[] #[], P4 5, .int .u64 (andS r (subS r 1))])
    (ob := [(r != 0) = true, (∀ σ, env8.ov 52 [.int .u64 r] 0 σ = some (.int .i64 n, σ))]) (by kernel_rfl) ⟨h1, h2⟩
theorem next51e8 (s r : Int) (n : Int) (c : List Value) (m : Nat) (w : Nat → Value) (h1 : (r != 0) = true) (h2 : ∀ σ, env8.ov 52 [.int .u64 r] 0 σ = some (.int .i64 n, σ)) (h3 : c.length = m) (h4 : m < 99) :
    ∃ w', runW Tryd.prog env8 0 (.code ⟨51, none⟩ body51 (T51 r w) []) (S1 s c m) = some (.done .normal (T51 (andS r (subS r 1)) w') [], S1 s (c ++ [.int .i64 n]) (m + 1)) :=
  seg 100 [(1, .br true), (3, .ov (.int .i64 n)), (5, .ok), (3, .br false)] (m := 16) (js := [0, 1, 3]) (vs := [.func (.yield 7) #[] #[], P4 5, .int .u64 (andS r (subS r 1))])
    (ob := [(r != 0) = true, (∀ σ, env8.ov 52 [.int .u64 r] 0 σ = some (.int .i64 n, σ)), c.length = c.length ∧ (m + 1) * 8 ≤ 70368744177664, (((m + 1 : Nat) : Int) == 100) = false]) (by kernel_rfl)
    ⟨h1, h2, ⟨rfl, by omega⟩, beq_eq_false_iff_ne.2 (by intro e; have e : m + 1 = 100 := Int.ofNat.inj e; omega)⟩
theorem end51e8 (s : Int) (c : List Value) (m : Nat) (w : Nat → Value) :
    ∃ w', runW Tryd.prog env8 0 (.code ⟨51, none⟩ body51 (T51 0 w) []) (S1 s c m) = some (.done (.exit 0) (T51 0 w') [], S1 s c m) :=
  seg 100 [] (m := 16) (js := [0, 1, 3]) (vs := [.func (.yield 7) #[] #[], P4 5, .int .u64 0]) (ob := []) (by kernel_rfl) trivial

theorem loop51e8 (s : Int) : ∀ (k : Nat) (x : BitVec 64) (c : List Value) (m : Nat) (w : Nat → Value), (bitsL x).length = k → c.length = m → m + k < 99 →
    ∃ w', runW Tryd.prog env8 0 (.code ⟨51, none⟩ (.loop body51) (T51 (u x) w) []) (S1 s c m) = some (.done (.exit 0) (T51 0 w') [], S1 s (c ++ ints (bitsL x)) (m + k)) := by
  intro k
  induction k with
  | zero =>
    intro x c m w h1 h2 h3
    have e := List.eq_nil_of_length_eq_zero h1
    rw [e, bits_ne e]
    obtain ⟨w', h⟩ := end51e8 s c m w
    refine ⟨w', ?_⟩
    rw [show c ++ ints [] = c from List.append_nil c]
    exact loop_out (by intro h; cases h) h
  | succ k ih =>
    intro x c m w h1 h2 h3
    have hx : x ≠ 0#64 := by
      intro e; rw [e, bits_zero] at h1; cases h1
    have hb := bits_cons hx
    rw [hb] at h1
    obtain ⟨w1, h⟩ := next51e8 s (u x) (tz x) c m w (u_ne hx) (fun σ => ov8_52 x 0 σ) h2 (by omega)
    rw [rest_u] at h
    obtain ⟨w', h'⟩ := ih (restB x) (c ++ [.int .i64 (tz x)]) (m + 1) w1 (by simpa using h1) (by simp [h2]) (by omega)
    refine ⟨w', ?_⟩
    rw [hb, show c ++ ints (tz x :: bitsL (restB x)) = c ++ [.int .i64 (tz x)] ++ ints (bitsL (restB x)) by simp [ints], show m + (k + 1) = m + 1 + k by omega]
    exact loop_next h h'
/-- From the start. -/
theorem loop51_alle8 (s : Int) (x : BitVec 64) (w : Nat → Value) (hx : x ≠ 0#64) :
    ∃ w', runW Tryd.prog env8 0 (.code ⟨51, none⟩ (.loop body51) (T51 (u x) w) []) (S0 s) = some (.done (.exit 0) (T51 0 w') [], S1 s (ints (bitsL x)) (bitsL x).length) := by
  have hb := bits_cons hx
  obtain ⟨w1, h⟩ := next51_nile8 s (u x) (tz x) w (u_ne hx) (fun σ => ov8_52 x 0 σ)
  rw [rest_u] at h
  have hl := bitsL_length x
  rw [hb, List.length_cons] at hl
  obtain ⟨w', h'⟩ := loop51e8 s (bitsL (restB x)).length (restB x) [.int .i64 (tz x)] 1 w1 rfl rfl (by omega)
  refine ⟨w', ?_⟩
  rw [hb, show ints (tz x :: bitsL (restB x)) = [.int .i64 (tz x)] ++ ints (bitsL (restB x)) by simp [ints], List.length_cons, Nat.add_comm]
  exact loop_next h h'

/-! ## The loop of BitboardSquares -/

theorem ov8_12 (s n : Int) (lim : Nat) (σ : AS) : env8.ov 12 [.int .u64 s, .int .i64 n] lim σ = some (.bool (hasS s n), σ) := by
  have e : pfT t8 12 [.int .u64 s, .int .i64 n] = some (.bool (hasS s n)) := by
    unfold t8 t6
    rw [pfT_ne rfl, pfT_ne rfl, pfT_ne rfl, pfT_ne rfl, pfT_ne rfl, pfT_ne rfl, pfT_ne rfl, pfT_ne rfl, pfT_ne rfl, pfT_eq]; rfl
  exact envK rfl rfl rfl rfl e
theorem ov8_17 (s n : Int) (lim : Nat) (σ : AS) : env8.ov 17 [.int .u64 s, .int .i64 n] lim σ = some (withV s n, σ) := by
  have e : pfT t8 17 [.int .u64 s, .int .i64 n] = some (withV s n) := by
    unfold t8 t6
    rw [pfT_ne rfl, pfT_ne rfl, pfT_ne rfl, pfT_ne rfl, pfT_ne rfl, pfT_ne rfl, pfT_ne rfl, pfT_eq]; rfl
  exact envK rfl rfl rfl rfl e
theorem ov8_19 (s n : Int) (lim : Nat) (σ : AS) : env8.ov 19 [.int .u64 s, .int .i64 n] lim σ = some (wioV s n, σ) := by
  have e : pfT t8 19 [.int .u64 s, .int .i64 n] = some (wioV s n) := by
    unfold t8 t6
    rw [pfT_ne rfl, pfT_ne rfl, pfT_ne rfl, pfT_ne rfl, pfT_ne rfl, pfT_ne rfl, pfT_ne rfl, pfT_ne rfl, pfT_eq]; rfl
  exact envK rfl rfl rfl rfl e
theorem ov8_24 (x : BitVec 64) (lim : Nat) (σ : AS) : env8.ov 24 [.int .u64 (u x)] lim σ = some (.int .i64 ((bitsL x).length : Int), σ) := by
  have e : pfT t8 24 [.int .u64 (u x)] = some (.int .i64 ((bitsL x).length : Int)) := by
    unfold t8 t6
    rw [pfT_ne rfl, pfT_ne rfl, pfT_ne rfl, pfT_ne rfl, pfT_ne rfl, pfT_ne rfl, pfT_ne rfl, pfT_ne rfl, pfT_ne rfl, pfT_ne rfl, pfT_ne rfl, pfT_ne rfl, pfT_ne rfl, pfT_ne rfl, pfT_eq]
    show some (Value.int .i64 (lenS (u x))) = _
    rw [lenS_u]
  exact envK rfl rfl rfl rfl e

/-- The squares of x below i. -/
def agn (x : BitVec 64) : Nat → BitVec 64
  | 0 => 0#64
  | i + 1 => bif x.getLsbD i then agn x i ||| 1#64 <<< i else agn x i
theorem agn_bit (x : BitVec 64) : ∀ (i j : Nat), j < 64 → i ≤ 64 → (agn x i).getLsbD j = (decide (j < i) && x.getLsbD j)
  | 0, j, _, _ => by simp [agn]
  | i + 1, j, hj, hi => by
    unfold agn
    have ih := agn_bit x i j hj (by omega)
    cases h : x.getLsbD i with
    | true =>
      rw [cond_true, BitVec.getLsbD_or, ih]
      by_cases e : j = i
      · subst e
        rw [h]; simp [hj]
      · have : (1#64 <<< i).getLsbD j = false := by
          rw [BitVec.getLsbD_shiftLeft]
          by_cases h2 : j < i
          · simp [h2]
          · have h3 : j - i ≠ 0 := by omega
            simp [BitVec.getLsbD_one, h3]
        rw [this, Bool.or_false]
        congr 1
        exact decide_eq_decide.2 (by omega)
    | false =>
      rw [cond_false, ih]
      by_cases e : j = i
      · subst e; rw [h]; simp
      · congr 1
        exact decide_eq_decide.2 (by omega)
theorem agn_all (x : BitVec 64) : agn x 64 = x := by
  refine BitVec.eq_of_getLsbD_eq fun j hj => ?_
  rw [agn_bit x 64 j hj (by omega), decide_eq_true hj, Bool.true_and]
theorem mem_bits (x : BitVec 64) (i : Nat) (hi : i < 64) : decide ((i : Int) ∈ natZ (bitsL x)) = x.getLsbD i := by
  cases h : x.getLsbD i with
  | true => exact decide_eq_true (List.mem_map.2 ⟨i, bitsL_mem.2 ⟨hi, h⟩, rfl⟩)
  | false =>
    refine decide_eq_false fun hm => ?_
    obtain ⟨j, hj, e⟩ := List.mem_map.1 hm
    have e : j = i := Int.ofNat.inj e
    subst e
    rw [(bitsL_mem.1 hj).2] at h
    cases h

noncomputable def body8 : Code := codeOf Tryd.prog 8 [.r, .r, .r, .r, .r, .l, .r, .b, .b]
def T8 (v : Value) (s a i : Int) (w : Nat → Value) : List Value := fillT 139 [(0, .int .u64 s), (3, .int .u64 s), (4, v), (5, .int .u64 a), (36, .int .i64 i)] w
theorem next8_inn  (s a i y : Int) (σ : AS) (w : Nat → Value) (h1 : decide (i < 64) = true) (h2 : 0 ≤ i) (h3 : (andS (shrS s i) 1 == 1) = true) (h4 : ∀ σ, env8.ov 12 [.int .u64 s, .int .i64 i] 0 σ = some (.bool true, σ)) (h5 : ∀ σ, env8.ov 39 [(.slice none 0 0), .int .i64 i] 0 σ = some (.bool true, σ))
    (h6 : ∀ σ, env8.ov 17 [.int .u64 a, .int .i64 i] 0 σ = some (.tuple #[.int .u64 y, .int .i64 0], σ)) (h7 : ∀ σ, env8.ov 19 [.int .u64 s, .int .i64 i] 0 σ = some (.tuple #[.int .u64 (andNotS s (bitS i)), .int .i64 0], σ)) (h8 : ∀ σ, env8.ov 12 [.int .u64 (andNotS s (bitS i)), .int .i64 i] 0 σ = some (.bool false, σ)) :
    ∃ w', runW Tryd.prog env8 0 (.code ⟨8, none⟩ body8 (T8 (.slice none 0 0) s a i w) []) σ = some (.done .normal (T8 (.slice none 0 0) s y (IntKind.i64.wrap (i + 1)) w') [], σ) :=
  seg 100 [(0, .br true), (5, .ok), (1, .br true), (3, .ov (.bool true)), (5, .ov (.bool true)), (8, .ov (.tuple #[.int .u64 y, .int .i64 0])), (12, .ov (.tuple #[.int .u64 (andNotS s (bitS i)), .int .i64 0])), (10, .ov (.bool false)), (5, .ok), (1, .br false)]
    (m := 139) (js := [0, 3, 4, 5, 36]) (vs := [.int .u64 s, .int .u64 s, (.slice none 0 0), .int .u64 y, .int .i64 (IntKind.i64.wrap (i + 1))])
    (ob := [decide (i < 64) = true, 0 ≤ i, (andS (shrS s i) 1 == 1) = true, (∀ σ, env8.ov 12 [.int .u64 s, .int .i64 i] 0 σ = some (.bool true, σ)), (∀ σ, env8.ov 39 [(.slice none 0 0), .int .i64 i] 0 σ = some (.bool true, σ)),
      (∀ σ, env8.ov 17 [.int .u64 a, .int .i64 i] 0 σ = some (.tuple #[.int .u64 y, .int .i64 0], σ)), (∀ σ, env8.ov 19 [.int .u64 s, .int .i64 i] 0 σ = some (.tuple #[.int .u64 (andNotS s (bitS i)), .int .i64 0], σ)), (∀ σ, env8.ov 12 [.int .u64 (andNotS s (bitS i)), .int .i64 i] 0 σ = some (.bool false, σ)), 0 ≤ i, (andNotS s (bitS i) != andNotS s (bitS i)) = false])
    (by kernel_rfl) ⟨h1, h2, h3, h4, h5, h6, h7, h8, h2, bne_self_eq_false _⟩
theorem next8_outn  (s a i : Int) (σ : AS) (w : Nat → Value) (h1 : decide (i < 64) = true) (h2 : 0 ≤ i) (h3 : (andS (shrS s i) 1 == 1) = false) (h4 : ∀ σ, env8.ov 12 [.int .u64 s, .int .i64 i] 0 σ = some (.bool false, σ)) (h5 : ∀ σ, env8.ov 39 [(.slice none 0 0), .int .i64 i] 0 σ = some (.bool false, σ))
    (h7 : ∀ σ, env8.ov 19 [.int .u64 s, .int .i64 i] 0 σ = some (.tuple #[.int .u64 (andNotS s (bitS i)), .int .i64 0], σ)) (h8 : ∀ σ, env8.ov 12 [.int .u64 (andNotS s (bitS i)), .int .i64 i] 0 σ = some (.bool false, σ)) :
    ∃ w', runW Tryd.prog env8 0 (.code ⟨8, none⟩ body8 (T8 (.slice none 0 0) s a i w) []) σ = some (.done .normal (T8 (.slice none 0 0) s a (IntKind.i64.wrap (i + 1)) w') [], σ) :=
  seg 100 [(0, .br true), (5, .ok), (1, .br false), (3, .ov (.bool false)), (5, .ov (.bool false)), (8, .ov (.tuple #[.int .u64 (andNotS s (bitS i)), .int .i64 0])), (10, .ov (.bool false)), (5, .ok), (1, .br false)]
    (m := 139) (js := [0, 3, 4, 5, 36]) (vs := [.int .u64 s, .int .u64 s, (.slice none 0 0), .int .u64 a, .int .i64 (IntKind.i64.wrap (i + 1))])
    (ob := [decide (i < 64) = true, 0 ≤ i, (andS (shrS s i) 1 == 1) = false, (∀ σ, env8.ov 12 [.int .u64 s, .int .i64 i] 0 σ = some (.bool false, σ)), (∀ σ, env8.ov 39 [(.slice none 0 0), .int .i64 i] 0 σ = some (.bool false, σ)),
      (∀ σ, env8.ov 19 [.int .u64 s, .int .i64 i] 0 σ = some (.tuple #[.int .u64 (andNotS s (bitS i)), .int .i64 0], σ)), (∀ σ, env8.ov 12 [.int .u64 (andNotS s (bitS i)), .int .i64 i] 0 σ = some (.bool false, σ)), 0 ≤ i, (andNotS s (bitS i) != andNotS s (bitS i)) = false])
    (by kernel_rfl) ⟨h1, h2, h3, h4, h5, h7, h8, h2, bne_self_eq_false _⟩
theorem end8n  (s a : Int) (σ : AS) (w : Nat → Value) :
    ∃ w', runW Tryd.prog env8 0 (.code ⟨8, none⟩ body8 (T8 (.slice none 0 0) s a 64 w) []) σ = some (.done (.exit 0) (T8 (.slice none 0 0) s a 64 w') [], σ) :=
  seg 100 [] (m := 139) (js := [0, 3, 4, 5, 36]) (vs := [.int .u64 s, .int .u64 s, (.slice none 0 0), .int .u64 a, .int .i64 64]) (ob := []) (by kernel_rfl) trivial

theorem next8_inl (c : List Value) (n : Nat) (s a i y : Int) (σ : AS) (w : Nat → Value) (h1 : decide (i < 64) = true) (h2 : 0 ≤ i) (h3 : (andS (shrS s i) 1 == 1) = true) (h4 : ∀ σ, env8.ov 12 [.int .u64 s, .int .i64 i] 0 σ = some (.bool true, σ)) (h5 : ∀ σ, env8.ov 39 [(L c n 1 10), .int .i64 i] 0 σ = some (.bool true, σ))
    (h6 : ∀ σ, env8.ov 17 [.int .u64 a, .int .i64 i] 0 σ = some (.tuple #[.int .u64 y, .int .i64 0], σ)) (h7 : ∀ σ, env8.ov 19 [.int .u64 s, .int .i64 i] 0 σ = some (.tuple #[.int .u64 (andNotS s (bitS i)), .int .i64 0], σ)) (h8 : ∀ σ, env8.ov 12 [.int .u64 (andNotS s (bitS i)), .int .i64 i] 0 σ = some (.bool false, σ)) :
    ∃ w', runW Tryd.prog env8 0 (.code ⟨8, none⟩ body8 (T8 (L c n 1 10) s a i w) []) σ = some (.done .normal (T8 (L c n 1 10) s y (IntKind.i64.wrap (i + 1)) w') [], σ) :=
  seg 100 [(0, .br true), (5, .ok), (1, .br true), (3, .ov (.bool true)), (5, .ov (.bool true)), (8, .ov (.tuple #[.int .u64 y, .int .i64 0])), (12, .ov (.tuple #[.int .u64 (andNotS s (bitS i)), .int .i64 0])), (10, .ov (.bool false)), (5, .ok), (1, .br false)]
    (m := 139) (js := [0, 3, 4, 5, 36]) (vs := [.int .u64 s, .int .u64 s, (L c n 1 10), .int .u64 y, .int .i64 (IntKind.i64.wrap (i + 1))])
    (ob := [decide (i < 64) = true, 0 ≤ i, (andS (shrS s i) 1 == 1) = true, (∀ σ, env8.ov 12 [.int .u64 s, .int .i64 i] 0 σ = some (.bool true, σ)), (∀ σ, env8.ov 39 [(L c n 1 10), .int .i64 i] 0 σ = some (.bool true, σ)),
      (∀ σ, env8.ov 17 [.int .u64 a, .int .i64 i] 0 σ = some (.tuple #[.int .u64 y, .int .i64 0], σ)), (∀ σ, env8.ov 19 [.int .u64 s, .int .i64 i] 0 σ = some (.tuple #[.int .u64 (andNotS s (bitS i)), .int .i64 0], σ)), (∀ σ, env8.ov 12 [.int .u64 (andNotS s (bitS i)), .int .i64 i] 0 σ = some (.bool false, σ)), 0 ≤ i, (andNotS s (bitS i) != andNotS s (bitS i)) = false])
    (by kernel_rfl) ⟨h1, h2, h3, h4, h5, h6, h7, h8, h2, bne_self_eq_false _⟩
theorem next8_outl (c : List Value) (n : Nat) (s a i : Int) (σ : AS) (w : Nat → Value) (h1 : decide (i < 64) = true) (h2 : 0 ≤ i) (h3 : (andS (shrS s i) 1 == 1) = false) (h4 : ∀ σ, env8.ov 12 [.int .u64 s, .int .i64 i] 0 σ = some (.bool false, σ)) (h5 : ∀ σ, env8.ov 39 [(L c n 1 10), .int .i64 i] 0 σ = some (.bool false, σ))
    (h7 : ∀ σ, env8.ov 19 [.int .u64 s, .int .i64 i] 0 σ = some (.tuple #[.int .u64 (andNotS s (bitS i)), .int .i64 0], σ)) (h8 : ∀ σ, env8.ov 12 [.int .u64 (andNotS s (bitS i)), .int .i64 i] 0 σ = some (.bool false, σ)) :
    ∃ w', runW Tryd.prog env8 0 (.code ⟨8, none⟩ body8 (T8 (L c n 1 10) s a i w) []) σ = some (.done .normal (T8 (L c n 1 10) s a (IntKind.i64.wrap (i + 1)) w') [], σ) :=
  seg 100 [(0, .br true), (5, .ok), (1, .br false), (3, .ov (.bool false)), (5, .ov (.bool false)), (8, .ov (.tuple #[.int .u64 (andNotS s (bitS i)), .int .i64 0])), (10, .ov (.bool false)), (5, .ok), (1, .br false)]
    (m := 139) (js := [0, 3, 4, 5, 36]) (vs := [.int .u64 s, .int .u64 s, (L c n 1 10), .int .u64 a, .int .i64 (IntKind.i64.wrap (i + 1))])
    (ob := [decide (i < 64) = true, 0 ≤ i, (andS (shrS s i) 1 == 1) = false, (∀ σ, env8.ov 12 [.int .u64 s, .int .i64 i] 0 σ = some (.bool false, σ)), (∀ σ, env8.ov 39 [(L c n 1 10), .int .i64 i] 0 σ = some (.bool false, σ)),
      (∀ σ, env8.ov 19 [.int .u64 s, .int .i64 i] 0 σ = some (.tuple #[.int .u64 (andNotS s (bitS i)), .int .i64 0], σ)), (∀ σ, env8.ov 12 [.int .u64 (andNotS s (bitS i)), .int .i64 i] 0 σ = some (.bool false, σ)), 0 ≤ i, (andNotS s (bitS i) != andNotS s (bitS i)) = false])
    (by kernel_rfl) ⟨h1, h2, h3, h4, h5, h7, h8, h2, bne_self_eq_false _⟩
theorem end8l (c : List Value) (n : Nat) (s a : Int) (σ : AS) (w : Nat → Value) :
    ∃ w', runW Tryd.prog env8 0 (.code ⟨8, none⟩ body8 (T8 (L c n 1 10) s a 64 w) []) σ = some (.done (.exit 0) (T8 (L c n 1 10) s a 64 w') [], σ) :=
  seg 100 [] (m := 139) (js := [0, 3, 4, 5, 36]) (vs := [.int .u64 s, .int .u64 s, (L c n 1 10), .int .u64 a, .int .i64 64]) (ob := []) (by kernel_rfl) trivial

theorem bit_u (x : BitVec 64) (i : Nat) (hi : i < 64) : (andS (shrS (u x) i) 1 == 1) = x.getLsbD i := by
  rw [shrS_u x i (by omega), show (1 : Int) = u 1#64 from rfl, andS_u]
  have e : x >>> i &&& 1#64 = bif x.getLsbD i then 1#64 else 0#64 := by
    refine BitVec.eq_of_getLsbD_eq fun j hj => ?_
    rw [BitVec.getLsbD_and, BitVec.getLsbD_ushiftRight, BitVec.getLsbD_one]
    by_cases h0 : j = 0
    · subst h0
      cases h : x.getLsbD i <;> simp [h]
    · cases h : x.getLsbD i <;> simp [h0, BitVec.getLsbD_one]
  rw [e]
  cases x.getLsbD i <;> rfl
theorem withV_u (a : BitVec 64) (i : Nat) (hi : i < 64) : withV (u a) i = .tuple #[.int .u64 (u (a ||| 1#64 <<< i)), .int .i64 0] := by
  unfold withV withS okOr
  rw [inr_true (by omega) (by omega), cond_true, cond_true, bitS_u _ (by omega) (by omega), orS_u, Int.toNat_natCast]
theorem wioV_u (s : Int) (i : Nat) (hi : i < 64) : wioV s i = .tuple #[.int .u64 (andNotS s (bitS i)), .int .i64 0] := by
  unfold wioV wioS okOr
  rw [inr_true (by omega) (by omega), cond_true, cond_true]
theorem without_bit (x : BitVec 64) (i : Nat) (hi : i < 64) : hasS (andNotS (u x) (bitS i)) i = false := by
  rw [bitS_u _ (by omega) (by omega), andNotS_u, hasS_u _ _ (by omega) (by omega), Int.toNat_natCast, BitVec.getLsbD_and, BitVec.getLsbD_not]
  simp [hi]
theorem loop8n  (v' : Value) (x : BitVec 64) (σ : AS) (hv : strip (.slice none 0 0) = v') (hz : IsZ v' (natZ (bitsL x))) : ∀ (k i : Nat) (w : Nat → Value), i + k = 64 →
    ∃ w', runW Tryd.prog env8 0 (.code ⟨8, none⟩ (.loop body8) (T8 (.slice none 0 0) (u x) (u (agn x i)) i w) []) σ = some (.done (.exit 0) (T8 (.slice none 0 0) (u x) (u x) 64 w') [], σ) := by
  intro k
  induction k with
  | zero =>
    intro i w hi
    obtain rfl : i = 64 := by omega
    rw [agn_all]
    obtain ⟨w', h⟩ := end8n  (u x) (u x) σ w
    exact ⟨w', loop_out (by intro h; cases h) h⟩
  | succ k ih =>
    intro i w hi
    have hi' : i < 64 := by omega
    have e1 : IntKind.i64.wrap ((i : Int) + 1) = ((i + 1 : Nat) : Int) := by rw [wrap64 (by omega) (by omega)]; rfl
    have hb := bit_u x i hi'
    have h4 : ∀ σ, env8.ov 12 [.int .u64 (u x), .int .i64 i] 0 σ = some (.bool (x.getLsbD i), σ) := fun σ => by
      rw [ov8_12, hasS_u x i (by omega) (by omega), Int.toNat_natCast]
    have h5 : ∀ σ, env8.ov 39 [(.slice none 0 0), .int .i64 i] 0 σ = some (.bool (x.getLsbD i), σ) := fun σ => by
      rw [ov8_39 (i : Int) 0 σ hv hz, mem_bits x i hi']
    have h6 : ∀ σ, env8.ov 17 [.int .u64 (u (agn x i)), .int .i64 i] 0 σ = some (.tuple #[.int .u64 (u (agn x i ||| 1#64 <<< i)), .int .i64 0], σ) := fun σ => by
      rw [ov8_17, withV_u _ i hi']
    have h7 : ∀ σ, env8.ov 19 [.int .u64 (u x), .int .i64 i] 0 σ = some (.tuple #[.int .u64 (andNotS (u x) (bitS i)), .int .i64 0], σ) := fun σ => by
      rw [ov8_19, wioV_u _ i hi']
    have h8 : ∀ σ, env8.ov 12 [.int .u64 (andNotS (u x) (bitS i)), .int .i64 i] 0 σ = some (.bool false, σ) := fun σ => by
      rw [ov8_12, without_bit x i hi']
    cases h : x.getLsbD i with
    | true =>
      rw [h] at hb h4 h5
      obtain ⟨w1, h9⟩ := next8_inn  (u x) (u (agn x i)) i (u (agn x i ||| 1#64 <<< i)) σ w (decide_eq_true (by omega)) (by omega) hb h4 h5 h6 h7 h8
      obtain ⟨w', h10⟩ := ih (i + 1) w1 (by omega)
      rw [e1] at h9
      rw [show agn x (i + 1) = agn x i ||| 1#64 <<< i by unfold agn; rw [h, cond_true]; cases i <;> rfl] at h10
      exact ⟨w', loop_next h9 h10⟩
    | false =>
      rw [h] at hb h4 h5
      obtain ⟨w1, h9⟩ := next8_outn  (u x) (u (agn x i)) i σ w (decide_eq_true (by omega)) (by omega) hb h4 h5 h7 h8
      obtain ⟨w', h10⟩ := ih (i + 1) w1 (by omega)
      rw [e1] at h9
      rw [show agn x (i + 1) = agn x i by rw [agn, h, cond_false]] at h10
      exact ⟨w', loop_next h9 h10⟩
theorem loop8l (c : List Value) (n : Nat) (v' : Value) (x : BitVec 64) (σ : AS) (hv : strip (L c n 1 10) = v') (hz : IsZ v' (natZ (bitsL x))) : ∀ (k i : Nat) (w : Nat → Value), i + k = 64 →
    ∃ w', runW Tryd.prog env8 0 (.code ⟨8, none⟩ (.loop body8) (T8 (L c n 1 10) (u x) (u (agn x i)) i w) []) σ = some (.done (.exit 0) (T8 (L c n 1 10) (u x) (u x) 64 w') [], σ) := by
  intro k
  induction k with
  | zero =>
    intro i w hi
    obtain rfl : i = 64 := by omega
    rw [agn_all]
    obtain ⟨w', h⟩ := end8l c n (u x) (u x) σ w
    exact ⟨w', loop_out (by intro h; cases h) h⟩
  | succ k ih =>
    intro i w hi
    have hi' : i < 64 := by omega
    have e1 : IntKind.i64.wrap ((i : Int) + 1) = ((i + 1 : Nat) : Int) := by rw [wrap64 (by omega) (by omega)]; rfl
    have hb := bit_u x i hi'
    have h4 : ∀ σ, env8.ov 12 [.int .u64 (u x), .int .i64 i] 0 σ = some (.bool (x.getLsbD i), σ) := fun σ => by
      rw [ov8_12, hasS_u x i (by omega) (by omega), Int.toNat_natCast]
    have h5 : ∀ σ, env8.ov 39 [(L c n 1 10), .int .i64 i] 0 σ = some (.bool (x.getLsbD i), σ) := fun σ => by
      rw [ov8_39 (i : Int) 0 σ hv hz, mem_bits x i hi']
    have h6 : ∀ σ, env8.ov 17 [.int .u64 (u (agn x i)), .int .i64 i] 0 σ = some (.tuple #[.int .u64 (u (agn x i ||| 1#64 <<< i)), .int .i64 0], σ) := fun σ => by
      rw [ov8_17, withV_u _ i hi']
    have h7 : ∀ σ, env8.ov 19 [.int .u64 (u x), .int .i64 i] 0 σ = some (.tuple #[.int .u64 (andNotS (u x) (bitS i)), .int .i64 0], σ) := fun σ => by
      rw [ov8_19, wioV_u _ i hi']
    have h8 : ∀ σ, env8.ov 12 [.int .u64 (andNotS (u x) (bitS i)), .int .i64 i] 0 σ = some (.bool false, σ) := fun σ => by
      rw [ov8_12, without_bit x i hi']
    cases h : x.getLsbD i with
    | true =>
      rw [h] at hb h4 h5
      obtain ⟨w1, h9⟩ := next8_inl c n (u x) (u (agn x i)) i (u (agn x i ||| 1#64 <<< i)) σ w (decide_eq_true (by omega)) (by omega) hb h4 h5 h6 h7 h8
      obtain ⟨w', h10⟩ := ih (i + 1) w1 (by omega)
      rw [e1] at h9
      rw [show agn x (i + 1) = agn x i ||| 1#64 <<< i by unfold agn; rw [h, cond_true]; cases i <;> rfl] at h10
      exact ⟨w', loop_next h9 h10⟩
    | false =>
      rw [h] at hb h4 h5
      obtain ⟨w1, h9⟩ := next8_outl c n (u x) (u (agn x i)) i σ w (decide_eq_true (by omega)) (by omega) hb h4 h5 h7 h8
      obtain ⟨w', h10⟩ := ih (i + 1) w1 (by omega)
      rw [e1] at h9
      rw [show agn x (i + 1) = agn x i by rw [agn, h, cond_false]] at h10
      exact ⟨w', loop_next h9 h10⟩

end Go.Proofs.YtakchekhpeokjaaDoor

/-
  BITBOARD (chapter 05): the document's functions: Has, List.
-/
namespace Go.Proofs.YtakchekhpeokjaaDoor
open Go.Va

theorem hasS_out (s n : Int) (h : inr n 64 = false) : hasS s n = false := by unfold hasS; rw [h]; rfl
theorem p23 (x : BitVec 64) (n : Int) : Pure Tryd.prog 4 tabs 23 [.int .u64 (u x), .int .i64 n] (.bool (hasS (u x) n)) := by
  refine three n 64 (fun h => ?_) (fun h g => ?_) fun h g h0 => ?_
  · rw [hasS_out _ _ (inr_neg h)]
    exact pureT t8_ok fns8 (n := 100) (v := .bool false) [(6, .br false)] [decide (n ≥ 0) = false] (by kernel_rfl) h rfl (.bool _)
  · rw [hasS_out _ _ (inr_big g)]
    exact pureT t8_ok fns8 (n := 100) (v := .bool false) [(6, .br true), (2, .br false)] [decide (n ≥ 0) = true, decide (n < 64) = false] (by kernel_rfl) ⟨h, g⟩ rfl (.bool _)
  · have hn : n < 64 := of_decide_eq_true g
    obtain ⟨i, rfl⟩ : ∃ i : Nat, n = i := ⟨n.toNat, by omega⟩
    have e : IntKind.u64.wrap (i : Int) = (i : Int) := wrap_fits .u64 (by show (0 : Int) ≤ _; omega) (by show (i : Int) ≤ 18446744073709551615; omega)
    have e2 : ((shrS (u x) (IntKind.u64.wrap (i : Int))).tmod 2 == 1) = hasS (u x) i := by
      rw [e, shrS_u x i (by omega), hasS_u x i (by omega) (by omega), Int.toNat_natCast]
      have hb : x.getLsbD i = decide ((x >>> i).toNat % 2 = 1) := by
        rw [BitVec.toNat_ushiftRight, Nat.shiftRight_eq_div_pow]
        show x.toNat.testBit i = _
        rw [Nat.testBit_eq_decide_div_mod_eq]
      rw [hb]
      unfold u
      rw [Int.tmod_eq_emod_of_nonneg (by omega)]
      by_cases h : (x >>> i).toNat % 2 = 1
      · rw [decide_eq_true h, beq_iff_eq]; omega
      · rw [decide_eq_false h, beq_eq_false_iff_ne]; omega
    exact pureT t8_ok fns8 (n := 100) (v := .bool (hasS (u x) i)) [(6, .br true), (2, .br true), (5, .ok), (1, .eq (.bool (hasS (u x) i)))]
      [decide ((i : Int) ≥ 0) = true, decide ((i : Int) < 64) = true, 0 ≤ IntKind.u64.wrap (i : Int), Value.bool ((shrS (u x) (IntKind.u64.wrap (i : Int))).tmod 2 == 1) = .bool (hasS (u x) i)] (by kernel_rfl) ⟨h, g, by rw [e]; omega, congrArg Value.bool e2⟩ rfl (.bool _)
end Go.Proofs.YtakchekhpeokjaaDoor

/-
  BITBOARD (chapter 05): the document's List.
-/
namespace Go.Proofs.YtakchekhpeokjaaDoor
open Go.Va

def k23 : List Value → Option Value
  | [.int .u64 s, .int .i64 n] => bif inU s then some (.bool (hasS s n)) else none
  | _ => none
noncomputable def t9 : Ktab := (23, k23) :: t8
theorem p23k : KOk Tryd.prog 4 tabs 23 k23 := by
  intro args v h
  unfold k23 at h
  split at h
  · rename_i s n
    cases hs : inU s with
    | false => rw [hs] at h; cases h
    | true =>
      rw [hs] at h
      cases h
      have := p23 (BitVec.ofInt 64 s) n
      rw [← ofInt_inU hs] at this
      exact this
  · cases h
theorem t9_ok : TOk Tryd.prog 4 tabs t9 := ⟨p23k, t8_ok⟩
noncomputable def env9 : Env := envT t9
set_option maxRecDepth 100000 in
theorem fns9 : fnB Tryd.prog 4 env9 okL = true := by kernel_rfl
theorem ov9_23 (x : BitVec 64) (n : Int) (lim : Nat) (σ : AS) : env9.ov 23 [.int .u64 (u x), .int .i64 n] lim σ = some (.bool (hasS (u x) n), σ) :=
  envK rfl rfl rfl rfl (by unfold t9; rw [pfT_eq]; unfold k23; dsimp only; rw [inU_u, cond_true])

noncomputable def body26 : Code := codeOf Tryd.prog 26 [.r, .r, .l, .r, .b, .b]
def T26 (v : Value) (s i : Int) (w : Nat → Value) : List Value := fillT 17 [(0, .int .u64 s), (3, v), (4, .int .i64 i)] w
noncomputable def R1 (c : List Value) : AS := (base0 4 tabs).push (.tail c.length 1 3)
theorem in26_nil (s i : Int) (w : Nat → Value) (h1 : decide (i < 64) = true) (h2 : ∀ σ, env9.ov 23 [.int .u64 s, .int .i64 i] 0 σ = some (.bool true, σ)) :
    ∃ w', runW Tryd.prog env9 0 (.code ⟨26, none⟩ body26 (T26 (.slice none 0 0) s i w) []) (base0 4 tabs) = some (.done .normal (T26 (L [.int .i64 i] 1 1 6) s (IntKind.i64.wrap (i + 1)) w') [], R1 [.int .i64 i]) :=
  seg 100 [(1, .br true), (3, .ov (.bool true))] (m := 17) (js := [0, 3, 4]) (vs := [.int .u64 s, L [.int .i64 i] 1 1 6, .int .i64 (IntKind.i64.wrap (i + 1))])
    (ob := [decide (i < 64) = true, (∀ σ, env9.ov 23 [.int .u64 s, .int .i64 i] 0 σ = some (.bool true, σ))]) (by kernel_rfl) ⟨h1, h2⟩
theorem in26 (s i : Int) (c : List Value) (n : Nat) (w : Nat → Value) (h1 : decide (i < 64) = true) (h2 : ∀ σ, env9.ov 23 [.int .u64 s, .int .i64 i] 0 σ = some (.bool true, σ)) (h3 : n < 99) :
    ∃ w', runW Tryd.prog env9 0 (.code ⟨26, none⟩ body26 (T26 (L c n 1 6) s i w) []) (R1 c) = some (.done .normal (T26 (L (c ++ [.int .i64 i]) (n + 1) 1 6) s (IntKind.i64.wrap (i + 1)) w') [], R1 (c ++ [.int .i64 i])) :=
  seg 100 [(1, .br true), (3, .ov (.bool true)), (4, .ok)] (m := 17) (js := [0, 3, 4]) (vs := [.int .u64 s, L (c ++ [.int .i64 i]) (n + 1) 1 6, .int .i64 (IntKind.i64.wrap (i + 1))])
    (ob := [decide (i < 64) = true, (∀ σ, env9.ov 23 [.int .u64 s, .int .i64 i] 0 σ = some (.bool true, σ)), c.length = c.length ∧ (n + 1) * 8 ≤ 70368744177664]) (by kernel_rfl) ⟨h1, h2, rfl, by omega⟩
theorem out26_nil (s i : Int) (σ : AS) (w : Nat → Value) (h1 : decide (i < 64) = true) (h2 : ∀ σ, env9.ov 23 [.int .u64 s, .int .i64 i] 0 σ = some (.bool false, σ)) :
    ∃ w', runW Tryd.prog env9 0 (.code ⟨26, none⟩ body26 (T26 (.slice none 0 0) s i w) []) σ = some (.done .normal (T26 (.slice none 0 0) s (IntKind.i64.wrap (i + 1)) w') [], σ) :=
  seg 100 [(1, .br true), (3, .ov (.bool false))] (m := 17) (js := [0, 3, 4]) (vs := [.int .u64 s, .slice none 0 0, .int .i64 (IntKind.i64.wrap (i + 1))])
    (ob := [decide (i < 64) = true, (∀ σ, env9.ov 23 [.int .u64 s, .int .i64 i] 0 σ = some (.bool false, σ))]) (by kernel_rfl) ⟨h1, h2⟩
theorem out26 (s i : Int) (c : List Value) (n : Nat) (σ : AS) (w : Nat → Value) (h1 : decide (i < 64) = true) (h2 : ∀ σ, env9.ov 23 [.int .u64 s, .int .i64 i] 0 σ = some (.bool false, σ)) :
    ∃ w', runW Tryd.prog env9 0 (.code ⟨26, none⟩ body26 (T26 (L c n 1 6) s i w) []) σ = some (.done .normal (T26 (L c n 1 6) s (IntKind.i64.wrap (i + 1)) w') [], σ) :=
  seg 100 [(1, .br true), (3, .ov (.bool false))] (m := 17) (js := [0, 3, 4]) (vs := [.int .u64 s, L c n 1 6, .int .i64 (IntKind.i64.wrap (i + 1))])
    (ob := [decide (i < 64) = true, (∀ σ, env9.ov 23 [.int .u64 s, .int .i64 i] 0 σ = some (.bool false, σ))]) (by kernel_rfl) ⟨h1, h2⟩
theorem end26_nil (s : Int) (σ : AS) (w : Nat → Value) :
    ∃ w', runW Tryd.prog env9 0 (.code ⟨26, none⟩ body26 (T26 (.slice none 0 0) s 64 w) []) σ = some (.done (.exit 0) (T26 (.slice none 0 0) s 64 w') [], σ) :=
  seg 100 [] (m := 17) (js := [0, 3, 4]) (vs := [.int .u64 s, .slice none 0 0, .int .i64 64]) (ob := []) (by kernel_rfl) trivial
theorem end26 (s : Int) (c : List Value) (n : Nat) (σ : AS) (w : Nat → Value) :
    ∃ w', runW Tryd.prog env9 0 (.code ⟨26, none⟩ body26 (T26 (L c n 1 6) s 64 w) []) σ = some (.done (.exit 0) (T26 (L c n 1 6) s 64 w') [], σ) :=
  seg 100 [] (m := 17) (js := [0, 3, 4]) (vs := [.int .u64 s, L c n 1 6, .int .i64 64]) (ob := []) (by kernel_rfl) trivial

/-- The list so far, and the heap. -/
def LV (p : List Nat) : Value := match p with
  | [] => .slice none 0 0
  | p => L (ints p) p.length 1 6
noncomputable def ST (p : List Nat) : AS := match p with
  | [] => base0 4 tabs
  | p => R1 (ints p)
def upTo (x : BitVec 64) (i : Nat) : List Nat := (List.range i).filter x.getLsbD
theorem upTo_succ (x : BitVec 64) (i : Nat) : upTo x (i + 1) = upTo x i ++ (bif x.getLsbD i then [i] else []) := by
  unfold upTo
  rw [List.range_succ, List.filter_append]
  cases h : x.getLsbD i <;> simp [List.filter, h]
theorem upTo_len (x : BitVec 64) (i : Nat) : (upTo x i).length ≤ i := by
  unfold upTo
  exact Nat.le_trans (List.length_filter_le ..) (by simp)
theorem LV_cons (a : Nat) (p : List Nat) : LV (a :: p) = L (ints (a :: p)) (a :: p).length 1 6 := rfl
theorem ST_cons (a : Nat) (p : List Nat) : ST (a :: p) = R1 (ints (a :: p)) := rfl
theorem step26 (x : BitVec 64) (i : Nat) (w : Nat → Value) (hi : i < 64) :
    ∃ w', runW Tryd.prog env9 0 (.code ⟨26, none⟩ body26 (T26 (LV (upTo x i)) (u x) i w) []) (ST (upTo x i)) = some (.done .normal (T26 (LV (upTo x (i + 1))) (u x) ((i + 1 : Nat) : Int) w') [], ST (upTo x (i + 1))) := by
  have e1 : IntKind.i64.wrap ((i : Int) + 1) = ((i + 1 : Nat) : Int) := by rw [wrap64 (by omega) (by omega)]; rfl
  have h2 : ∀ σ, env9.ov 23 [.int .u64 (u x), .int .i64 i] 0 σ = some (.bool (x.getLsbD i), σ) := fun σ => by
    rw [ov9_23, hasS_u x i (by omega) (by omega), Int.toNat_natCast]
  have h1 : decide ((i : Int) < 64) = true := decide_eq_true (by omega)
  rw [← e1, upTo_succ]
  have hlen := upTo_len x i
  cases h : x.getLsbD i with
  | true =>
    rw [h] at h2
    rw [cond_true]
    cases hp : upTo x i with
    | nil => exact in26_nil (u x) i w h1 h2
    | cons a p =>
      rw [hp] at hlen
      obtain ⟨w', h3⟩ := in26 (u x) i (ints (a :: p)) (a :: p).length w h1 h2 (by omega)
      refine ⟨w', ?_⟩
      rw [List.cons_append, LV_cons, ST_cons, LV_cons, ST_cons, show ints (a :: (p ++ [i])) = ints (a :: p) ++ [.int .i64 (i : Int)] by simp [ints], show (a :: (p ++ [i])).length = (a :: p).length + 1 by simp]
      exact h3
  | false =>
    rw [h] at h2
    rw [cond_false, List.append_nil]
    cases hp : upTo x i with
    | nil => exact out26_nil (u x) i _ w h1 h2
    | cons a p => exact out26 (u x) i (ints (a :: p)) (a :: p).length _ w h1 h2
theorem loop26 (x : BitVec 64) : ∀ (k i : Nat) (w : Nat → Value), i + k = 64 →
    ∃ w', runW Tryd.prog env9 0 (.code ⟨26, none⟩ (.loop body26) (T26 (LV (upTo x i)) (u x) i w) []) (ST (upTo x i)) = some (.done (.exit 0) (T26 (LV (bitsL x)) (u x) 64 w') [], ST (bitsL x)) := by
  intro k
  induction k with
  | zero =>
    intro i w hi
    obtain rfl : i = 64 := by omega
    rw [show upTo x 64 = bitsL x from rfl]
    have : ∃ w', runW Tryd.prog env9 0 (.code ⟨26, none⟩ body26 (T26 (LV (bitsL x)) (u x) 64 w) []) (ST (bitsL x)) = some (.done (.exit 0) (T26 (LV (bitsL x)) (u x) 64 w') [], ST (bitsL x)) := by
      cases hp : bitsL x with
      | nil => exact end26_nil (u x) _ w
      | cons a p => exact end26 (u x) (ints (a :: p)) (a :: p).length _ w
    obtain ⟨w', h⟩ := this
    exact ⟨w', loop_out (by intro h; cases h) h⟩
  | succ k ih =>
    intro i w hi
    obtain ⟨w1, h1⟩ := step26 x i w (by omega)
    obtain ⟨w', h2⟩ := ih (i + 1) w1 (by omega)
    exact ⟨w', loop_next h1 h2⟩
/-- From the start. -/
theorem loop26_all (x : BitVec 64) (w : Nat → Value) :
    ∃ w', runW Tryd.prog env9 0 (.code ⟨26, none⟩ (.loop body26) (T26 (.slice none 0 0) (u x) 0 w) []) (base0 4 tabs) = some (.done (.exit 0) (T26 (LV (bitsL x)) (u x) 64 w') [], ST (bitsL x)) := loop26 x 64 0 w rfl
theorem p26 (x : BitVec 64) : Pure Tryd.prog 4 tabs 26 [.int .u64 (u x)] (lstV (bitsL x)) := by
  obtain ⟨w', h⟩ := loop26_all x (fun j => Go.Va.look [(2, Value.slice none 0 0)] j undef)
  have hP := lstV_PF (bitsL x)
  cases hp : bitsL x with
  | nil =>
    rw [hp] at h
    exact pureT t9_ok fns9 (n := 100) (v := .slice none 0 0) [(3, .skip (.done (.exit 0) (T26 (.slice none 0 0) (u x) 64 w') []) (base0 4 tabs))] [_] (by kernel_rfl) h rfl (.sliceNone 0 0)
  | cons a p =>
    rw [hp] at h hP
    exact pureT t9_ok fns9 (n := 100) (v := L (ints (a :: p)) (a :: p).length 1 6) [(3, .skip (.done (.exit 0) (T26 (L (ints (a :: p)) (a :: p).length 1 6) (u x) 64 w') []) (R1 (ints (a :: p))))] [_] (by kernel_rfl) h rfl hP
end Go.Proofs.YtakchekhpeokjaaDoor

/-
  BITBOARD (chapter 05): the document's Of.
-/
namespace Go.Proofs.YtakchekhpeokjaaDoor
open Go.Va

noncomputable def body43 : Code := codeOf Tryd.prog 43 [.r, .r, .l, .r, .b, .b]
def T43 (v : Value) (a i : Int) (w : Nat → Value) : List Value := fillT 34 [(0, v), (4, .int .u64 a), (5, .int .i64 i)] w
def bitW (x : Int) : Int := bitS (IntKind.u64.wrap x)
theorem has43 (c : List Value) (a : Int) (n g i : Nat) (x : Int) (w : Nat → Value) (h1 : i < n) (hx : c[i]? = some (.int .i64 x)) (hx0 : decide (x ≥ 0) = true) (hx1 : decide (x < 64) = true) (hh : ∀ σ, env9.ov 23 [.int .u64 a, .int .i64 x] 0 σ = some (.bool true, σ)) :
    ∃ w', runW Tryd.prog env9 0 (.code ⟨43, none⟩ body43 (T43 (L c n 1 g) a i w) []) (base0 4 tabs) = some (.done .normal (T43 (L c n 1 g) a (IntKind.i64.wrap ((i : Int) + 1)) w') [], base0 4 tabs) :=
  seg 100 [(3, .br true), (3, .ok), (0, .is (.int .i64 x)), (3, .br true), (2, .br true), (7, .ok), (0, .is (.int .i64 x)), (0, .ov (.bool true))] (m := 34) (js := [0, 4, 5]) (vs := [L c n 1 g, .int .u64 a, .int .i64 (IntKind.i64.wrap ((i : Int) + 1))])
    (ob := [decide ((i : Int) < n) = true, (0 : Int) ≤ i ∧ (i : Int) < n, c[i * 1]? = some (.int .i64 x), decide (x ≥ 0) = true, decide (x < 64) = true, (0 : Int) ≤ i ∧ (i : Int) < n, c[i * 1]? = some (.int .i64 x), (∀ σ, env9.ov 23 [.int .u64 a, .int .i64 x] 0 σ = some (.bool true, σ))]) (by kernel_rfl)
    ⟨decide_eq_true (by omega), ⟨by omega, by omega⟩, by rw [Nat.mul_one]; exact hx, hx0, hx1, ⟨by omega, by omega⟩, by rw [Nat.mul_one]; exact hx, hh⟩
theorem add43 (c : List Value) (a : Int) (n g i : Nat) (x : Int) (w : Nat → Value) (h1 : i < n) (hx : c[i]? = some (.int .i64 x)) (hx0 : decide (x ≥ 0) = true) (hx1 : decide (x < 64) = true) (hh : ∀ σ, env9.ov 23 [.int .u64 a, .int .i64 x] 0 σ = some (.bool false, σ)) (hw : 0 ≤ IntKind.u64.wrap x) :
    ∃ w', runW Tryd.prog env9 0 (.code ⟨43, none⟩ body43 (T43 (L c n 1 g) a i w) []) (base0 4 tabs) = some (.done .normal (T43 (L c n 1 g) (addS a (bitW x)) (IntKind.i64.wrap ((i : Int) + 1)) w') [], base0 4 tabs) :=
  seg 100 [(3, .br true), (3, .ok), (0, .is (.int .i64 x)), (3, .br true), (2, .br true), (7, .ok), (0, .is (.int .i64 x)), (0, .ov (.bool false)), (5, .ok), (0, .is (.int .i64 x)), (1, .ok)] (m := 34) (js := [0, 4, 5]) (vs := [L c n 1 g, .int .u64 (addS a (bitW x)), .int .i64 (IntKind.i64.wrap ((i : Int) + 1))])
    (ob := [decide ((i : Int) < n) = true, (0 : Int) ≤ i ∧ (i : Int) < n, c[i * 1]? = some (.int .i64 x), decide (x ≥ 0) = true, decide (x < 64) = true, (0 : Int) ≤ i ∧ (i : Int) < n, c[i * 1]? = some (.int .i64 x), (∀ σ, env9.ov 23 [.int .u64 a, .int .i64 x] 0 σ = some (.bool false, σ)),
      (0 : Int) ≤ i ∧ (i : Int) < n, c[i * 1]? = some (.int .i64 x), 0 ≤ IntKind.u64.wrap x]) (by kernel_rfl)
    ⟨decide_eq_true (by omega), ⟨by omega, by omega⟩, by rw [Nat.mul_one]; exact hx, hx0, hx1, ⟨by omega, by omega⟩, by rw [Nat.mul_one]; exact hx, hh, ⟨by omega, by omega⟩, by rw [Nat.mul_one]; exact hx, hw⟩
theorem bad43 (c : List Value) (a : Int) (n g i : Nat) (x : Int) (w : Nat → Value) (h1 : i < n) (hx : c[i]? = some (.int .i64 x)) (hr : inr x 64 = false) :
    ∃ w', runW Tryd.prog env9 0 (.code ⟨43, none⟩ body43 (T43 (L c n 1 g) a i w) []) (base0 4 tabs) = some (.done .ret (fillT 34 [(2, .int .u64 0), (3, .int .i64 3)] w') [], base0 4 tabs) := by
  by_cases h0 : 0 ≤ x
  · have hx1 : ¬ x < 64 := fun h => by rw [inr_true h0 h] at hr; cases hr
    exact seg 100 [(3, .br true), (3, .ok), (0, .is (.int .i64 x)), (3, .br true), (2, .br false)] (m := 34) (js := [2, 3]) (vs := [.int .u64 0, .int .i64 3])
      (ob := [decide ((i : Int) < n) = true, (0 : Int) ≤ i ∧ (i : Int) < n, c[i * 1]? = some (.int .i64 x), decide (x ≥ 0) = true, decide (x < 64) = false]) (by kernel_rfl)
      ⟨decide_eq_true (by omega), ⟨by omega, by omega⟩, by rw [Nat.mul_one]; exact hx, decide_eq_true h0, decide_eq_false hx1⟩
  · exact seg 100 [(3, .br true), (3, .ok), (0, .is (.int .i64 x)), (3, .br false)] (m := 34) (js := [2, 3]) (vs := [.int .u64 0, .int .i64 3])
      (ob := [decide ((i : Int) < n) = true, (0 : Int) ≤ i ∧ (i : Int) < n, c[i * 1]? = some (.int .i64 x), decide (x ≥ 0) = false]) (by kernel_rfl)
      ⟨decide_eq_true (by omega), ⟨by omega, by omega⟩, by rw [Nat.mul_one]; exact hx, decide_eq_false h0⟩
theorem end43 (c : List Value) (n g : Nat) (a i : Int) (w : Nat → Value) (h1 : (n : Int) ≤ i) :
    ∃ w', runW Tryd.prog env9 0 (.code ⟨43, none⟩ body43 (T43 (L c n 1 g) a i w) []) (base0 4 tabs) = some (.done (.exit 0) (fillT 34 [(4, .int .u64 a)] w') [], base0 4 tabs) :=
  seg 100 [(3, .br false)] (m := 34) (js := [4]) (vs := [.int .u64 a]) (ob := [decide (i < n) = false]) (by kernel_rfl) (decide_eq_false (by omega))
theorem add_bit (a : BitVec 64) (i : Nat) (hi : i < 64) (h : a.getLsbD i = false) : a + 1#64 <<< i = a ||| 1#64 <<< i := by
  refine BitVec.add_eq_or_of_and_eq_zero _ _ (BitVec.eq_of_getLsbD_eq fun j hj => ?_)
  rw [BitVec.getLsbD_and, BitVec.getLsbD_shiftLeft, BitVec.getLsbD_one]
  by_cases e : j = i
  · subst e; rw [h]; simp
  · by_cases h2 : j < i
    · simp [h2]
    · have h3 : j - i ≠ 0 := by omega
      simp [h3]
theorem has_bit (a : BitVec 64) (i : Nat) (h : a.getLsbD i = true) : a ||| 1#64 <<< i = a := by
  refine BitVec.eq_of_getLsbD_eq fun j hj => ?_
  rw [BitVec.getLsbD_or, BitVec.getLsbD_shiftLeft, BitVec.getLsbD_one]
  by_cases e : j = i
  · subst e; rw [h]; simp
  · by_cases h2 : j < i
    · simp [h2]
    · have h3 : j - i ≠ 0 := by omega
      simp [h3]
theorem loop43 (l : List Int) (n g : Nat) (hl : l.length = n) (hn : n < 9223372036854775807) : ∀ (k i : Nat) (a : BitVec 64) (w : Nat → Value), i + k = n →
    ∃ w', runW Tryd.prog env9 0 (.code ⟨43, none⟩ (.loop body43) (T43 (L (zs l) n 1 g) (u a) i w) []) (base0 4 tabs) =
      some (bif (l.drop i).all (fun n => inr n 64) then .done (.exit 0) (fillT 34 [(4, .int .u64 (u ((l.drop i).foldl (fun x n => x ||| 1#64 <<< n.toNat) a)))] w') [] else .done .ret (fillT 34 [(2, .int .u64 0), (3, .int .i64 3)] w') [], base0 4 tabs) := by
  intro k
  induction k with
  | zero =>
    intro i a w hi
    obtain ⟨w', h⟩ := end43 (zs l) n g (u a) i w (by omega)
    refine ⟨w', ?_⟩
    rw [List.drop_of_length_le (by omega)]
    exact loop_out (by intro h; cases h) h
  | succ k ih =>
    intro i a w hi
    have hil : i < l.length := by omega
    have hx : (zs l)[i]? = some (.int .i64 l[i]) := by rw [zs_get, List.getElem?_eq_getElem hil]; rfl
    have e1 : IntKind.i64.wrap ((i : Int) + 1) = ((i + 1 : Nat) : Int) := by rw [wrap64 (by omega) (by omega)]; rfl
    rw [List.drop_eq_getElem_cons hil]
    cases hr : inr l[i] 64 with
    | true =>
      have hr' := hr
      simp only [inr, Bool.and_eq_true, decide_eq_true_eq] at hr'
      obtain ⟨j, hj⟩ : ∃ j : Nat, l[i] = (j : Int) := ⟨(l[i]).toNat, by omega⟩
      have hj64 : j < 64 := by omega
      have hh : ∀ σ, env9.ov 23 [.int .u64 (u a), .int .i64 l[i]] 0 σ = some (.bool (a.getLsbD j), σ) := fun σ => by
        rw [ov9_23, hasS_u a _ hr'.1 hr'.2, hj, Int.toNat_natCast]
      rw [List.all_cons, hr, Bool.true_and, List.foldl_cons]
      cases hb : a.getLsbD j with
      | true =>
        rw [hb] at hh
        obtain ⟨w1, h1⟩ := has43 (zs l) (u a) n g i l[i] w (by omega) hx (decide_eq_true hr'.1) (decide_eq_true hr'.2) hh
        rw [e1] at h1
        obtain ⟨w', h2⟩ := ih (i + 1) a w1 (by omega)
        refine ⟨w', ?_⟩
        rw [hj, Int.toNat_natCast, has_bit a j hb]
        exact loop_next h1 h2
      | false =>
        rw [hb] at hh
        have ew : IntKind.u64.wrap l[i] = l[i] := wrap_fits .u64 (by show (0 : Int) ≤ _; omega) (by show l[i] ≤ 18446744073709551615; omega)
        obtain ⟨w1, h1⟩ := add43 (zs l) (u a) n g i l[i] w (by omega) hx (decide_eq_true hr'.1) (decide_eq_true hr'.2) hh (by rw [ew]; exact hr'.1)
        rw [e1] at h1
        unfold bitW at h1
        rw [ew, bitS_u _ hr'.1 hr'.2, addS_u, hj, Int.toNat_natCast, add_bit a j hj64 hb] at h1
        obtain ⟨w', h2⟩ := ih (i + 1) (a ||| 1#64 <<< j) w1 (by omega)
        refine ⟨w', ?_⟩
        rw [hj, Int.toNat_natCast]
        exact loop_next h1 h2
    | false =>
      obtain ⟨w', h1⟩ := bad43 (zs l) (u a) n g i l[i] w (by omega) hx hr
      refine ⟨w', ?_⟩
      rw [List.all_cons, hr, Bool.false_and]
      exact loop_out (by intro h; cases h) h1
theorem p43_nil : Pure Tryd.prog 4 tabs 43 [.slice none 0 0] (.tuple #[.int .u64 0, .int .i64 0]) :=
  pureT t9_ok fns9 (n := 100) (v := .tuple #[.int .u64 0, .int .i64 0]) [] [] (by kernel_rfl) trivial rfl (PF_pair (.int _ _) (.int _ _))
theorem p43_l (l : List Int) (g : Nat) (hn : l.length < 9223372036854775807) : Pure Tryd.prog 4 tabs 43 [L (zs l) l.length 1 g] (ofV l) := by
  obtain ⟨w', h⟩ := loop43 l l.length g rfl hn l.length 0 0#64 (fun j => Go.Va.look [(2, .int .u64 0), (3, .int .i64 0)] j undef) (by omega)
  rw [List.drop_zero] at h
  unfold ofV setOf
  cases hr : l.all (fun n => inr n 64) with
  | true =>
    rw [hr] at h
    exact pureT t9_ok fns9 (n := 100) (v := .tuple #[.int .u64 (u (l.foldl (fun x n => x ||| 1#64 <<< n.toNat) 0#64)), .int .i64 0])
      [(4, .skip (.done (.exit 0) (fillT 34 [(4, .int .u64 (u (l.foldl (fun x n => x ||| 1#64 <<< n.toNat) 0#64)))] w') []) (base0 4 tabs))] [_] (by kernel_rfl) h rfl (PF_pair (.int _ _) (.int _ _))
  | false =>
    rw [hr] at h
    exact pureT t9_ok fns9 (n := 100) (v := .tuple #[.int .u64 0, .int .i64 3])
      [(4, .skip (.done .ret (fillT 34 [(2, .int .u64 0), (3, .int .i64 3)] w') []) (base0 4 tabs))] [_] (by kernel_rfl) h rfl (PF_pair (.int _ _) (.int _ _))
theorem p43 : KOk Tryd.prog 4 tabs 43 k36 := by
  intro args v h
  unfold k36 at h
  split at h
  · rename_i a
    split at h
    · rename_i l hl
      cases h
      rcases zl_spec hl with ⟨ea, el, _⟩ | ⟨g, _, ea, hb⟩
      · subst ea el; exact p43_nil
      · subst ea; exact p43_l l g (by omega)
    · cases h
  · cases h
end Go.Proofs.YtakchekhpeokjaaDoor
