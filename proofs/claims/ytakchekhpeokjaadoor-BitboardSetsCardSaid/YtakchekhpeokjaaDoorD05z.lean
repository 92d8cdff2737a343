/-
  BITBOARD (chapter 05): the loops of BitboardSquares. Printed by gen05z.py.
-/
import Derived.Test.YtakchekhpeokjaaDoorD05y
namespace Go.Proofs.YtakchekhpeokjaaDoor
open Go.Va

theorem next51_nile8 (s r : Int) (n : Int) (w : Nat → Value) (h1 : (r != 0) = true) (h2 : ∀ σ, env8.ov 52 [.int .u64 r] 0 σ = some (.int .i64 n, σ)) :
    ∃ w', runW Tryd.prog env8 0 (.code ⟨51, none⟩ body51 (T51 r w) []) (S0 s) = some (.done .normal (T51 (andS r (subS r 1)) w') [], S1 s [.int .i64 n] 1) :=
  seg 100 [(1, .br true), (3, .ov (.int .i64 n))] (m := 16) (js := [0, 1, 3]) (vs := [.func (.yield 7) #[] #[], P4 5, .int .u64 (andS r (subS r 1))])
    (ob := [(r != 0) = true, (∀ σ, env8.ov 52 [.int .u64 r] 0 σ = some (.int .i64 n, σ))]) (by kernel_rfl) ⟨h1, h2⟩
theorem next51e8 (s r : Int) (n : Int) (c : List Value) (m : Nat) (w : Nat → Value) (h1 : (r != 0) = true) (h2 : ∀ σ, env8.ov 52 [.int .u64 r] 0 σ = some (.int .i64 n, σ)) (h3 : c.length = m) (h4 : m < 99) :
    ∃ w', runW Tryd.prog env8 0 (.code ⟨51, none⟩ body51 (T51 r w) []) (S1 s c m) = some (.done .normal (T51 (andS r (subS r 1)) w') [], S1 s (c ++ [.int .i64 n]) (m + 1)) :=
  seg 100 [(1, .br true), (3, .ov (.int .i64 n)), (5, .ok), (3, .br false)] (m := 16) (js := [0, 1, 3]) (vs := [.func (.yield 7) #[] #[], P4 5, .int .u64 (andS r (subS r 1))])
    (ob := [(r != 0) = true, (∀ σ, env8.ov 52 [.int .u64 r] 0 σ = some (.int .i64 n, σ)), c.length = c.length ∧ (m + 1) * 8 ≤ 70368744177664, (((m + 1 : Nat) : Int) == 100) = false]) (by kernel_rfl)
    ⟨h1, h2, ⟨rfl, by omega⟩, beq_eq_false_iff_ne.2 (by intro e; have e : m + 1 = 100 := Int.ofNat.inj e; omega)⟩
theorem end51e8 (s : Int) (c : List Value) (m : Nat) (w : Nat → Value) :
    ∃ w', runW Tryd.prog env8 0 (.code ⟨51, none⟩ body51 (T51 0 w) []) (S1 s c m) = some (.done (.exit 0) (T51 0 w') [], S1 s c m) :=
  seg 100 [] (m := 16) (js := [0, 1, 3]) (vs := [.func (.yield 7) #[] #[], P4 5, .int .u64 0]) (ob := []) (by kernel_rfl) trivial

theorem loop51e8 (s : Int) : ∀ (k : Nat) (x : BitVec 64) (c : List Value) (m : Nat) (w : Nat → Value), (bitsL x).length = k → c.length = m → m + k < 99 →
    ∃ w', runW Tryd.prog env8 0 (.code ⟨51, none⟩ (.loop body51) (T51 (u x) w) []) (S1 s c m) = some (.done (.exit 0) (T51 0 w') [], S1 s (c ++ ints (bitsL x)) (m + k)) := by
  intro k
  induction k with
  | zero =>
    intro x c m w h1 h2 h3
    have e := List.eq_nil_of_length_eq_zero h1
    rw [e, bits_ne e]
    obtain ⟨w', h⟩ := end51e8 s c m w
    refine ⟨w', ?_⟩
    rw [show c ++ ints [] = c from List.append_nil c]
    exact loop_out (by intro h; cases h) h
  | succ k ih =>
    intro x c m w h1 h2 h3
    have hx : x ≠ 0#64 := by
      intro e; rw [e, bits_zero] at h1; cases h1
    have hb := bits_cons hx
    rw [hb] at h1
    obtain ⟨w1, h⟩ := next51e8 s (u x) (tz x) c m w (u_ne hx) (fun σ => ov8_52 x 0 σ) h2 (by omega)
    rw [rest_u] at h
    obtain ⟨w', h'⟩ := ih (restB x) (c ++ [.int .i64 (tz x)]) (m + 1) w1 (by simpa using h1) (by simp [h2]) (by omega)
    refine ⟨w', ?_⟩
    rw [hb, show c ++ ints (tz x :: bitsL (restB x)) = c ++ [.int .i64 (tz x)] ++ ints (bitsL (restB x)) by simp [ints], show m + (k + 1) = m + 1 + k by omega]
    exact loop_next h h'
/-- From the start. -/
theorem loop51_alle8 (s : Int) (x : BitVec 64) (w : Nat → Value) (hx : x ≠ 0#64) :
    ∃ w', runW Tryd.prog env8 0 (.code ⟨51, none⟩ (.loop body51) (T51 (u x) w) []) (S0 s) = some (.done (.exit 0) (T51 0 w') [], S1 s (ints (bitsL x)) (bitsL x).length) := by
  have hb := bits_cons hx
  obtain ⟨w1, h⟩ := next51_nile8 s (u x) (tz x) w (u_ne hx) (fun σ => ov8_52 x 0 σ)
  rw [rest_u] at h
  have hl := bitsL_length x
  rw [hb, List.length_cons] at hl
  obtain ⟨w', h'⟩ := loop51e8 s (bitsL (restB x)).length (restB x) [.int .i64 (tz x)] 1 w1 rfl rfl (by omega)
  refine ⟨w', ?_⟩
  rw [hb, show ints (tz x :: bitsL (restB x)) = [.int .i64 (tz x)] ++ ints (bitsL (restB x)) by simp [ints], List.length_cons, Nat.add_comm]
  exact loop_next h h'

/-! ## The loop of BitboardSquares -/

theorem ov8_12 (s n : Int) (lim : Nat) (σ : AS) : env8.ov 12 [.int .u64 s, .int .i64 n] lim σ = some (.bool (hasS s n), σ) := by
  have e : pfT t8 12 [.int .u64 s, .int .i64 n] = some (.bool (hasS s n)) := by
    unfold t8 t6
    rw [pfT_ne rfl, pfT_ne rfl, pfT_ne rfl, pfT_ne rfl, pfT_ne rfl, pfT_ne rfl, pfT_ne rfl, pfT_ne rfl, pfT_ne rfl, pfT_eq]; rfl
  exact envK rfl rfl rfl rfl e
theorem ov8_17 (s n : Int) (lim : Nat) (σ : AS) : env8.ov 17 [.int .u64 s, .int .i64 n] lim σ = some (withV s n, σ) := by
  have e : pfT t8 17 [.int .u64 s, .int .i64 n] = some (withV s n) := by
    unfold t8 t6
    rw [pfT_ne rfl, pfT_ne rfl, pfT_ne rfl, pfT_ne rfl, pfT_ne rfl, pfT_ne rfl, pfT_ne rfl, pfT_eq]; rfl
  exact envK rfl rfl rfl rfl e
theorem ov8_19 (s n : Int) (lim : Nat) (σ : AS) : env8.ov 19 [.int .u64 s, .int .i64 n] lim σ = some (wioV s n, σ) := by
  have e : pfT t8 19 [.int .u64 s, .int .i64 n] = some (wioV s n) := by
    unfold t8 t6
    rw [pfT_ne rfl, pfT_ne rfl, pfT_ne rfl, pfT_ne rfl, pfT_ne rfl, pfT_ne rfl, pfT_ne rfl, pfT_ne rfl, pfT_eq]; rfl
  exact envK rfl rfl rfl rfl e
theorem ov8_24 (x : BitVec 64) (lim : Nat) (σ : AS) : env8.ov 24 [.int .u64 (u x)] lim σ = some (.int .i64 ((bitsL x).length : Int), σ) := by
  have e : pfT t8 24 [.int .u64 (u x)] = some (.int .i64 ((bitsL x).length : Int)) := by
    unfold t8 t6
    rw [pfT_ne rfl, pfT_ne rfl, pfT_ne rfl, pfT_ne rfl, pfT_ne rfl, pfT_ne rfl, pfT_ne rfl, pfT_ne rfl, pfT_ne rfl, pfT_ne rfl, pfT_ne rfl, pfT_ne rfl, pfT_ne rfl, pfT_ne rfl, pfT_eq]
    show some (Value.int .i64 (lenS (u x))) = _
    rw [lenS_u]
  exact envK rfl rfl rfl rfl e

/-- The squares of x below i. -/
def agn (x : BitVec 64) : Nat → BitVec 64
  | 0 => 0#64
  | i + 1 => bif x.getLsbD i then agn x i ||| 1#64 <<< i else agn x i
theorem agn_bit (x : BitVec 64) : ∀ (i j : Nat), j < 64 → i ≤ 64 → (agn x i).getLsbD j = (decide (j < i) && x.getLsbD j)
  | 0, j, _, _ => by simp [agn]
  | i + 1, j, hj, hi => by
    unfold agn
    have ih := agn_bit x i j hj (by omega)
    cases h : x.getLsbD i with
    | true =>
      rw [cond_true, BitVec.getLsbD_or, ih]
      by_cases e : j = i
      · subst e
        rw [h]; simp [hj]
      · have : (1#64 <<< i).getLsbD j = false := by
          rw [BitVec.getLsbD_shiftLeft]
          by_cases h2 : j < i
          · simp [h2]
          · have h3 : j - i ≠ 0 := by omega
            simp [BitVec.getLsbD_one, h3]
        rw [this, Bool.or_false]
        congr 1
        exact decide_eq_decide.2 (by omega)
    | false =>
      rw [cond_false, ih]
      by_cases e : j = i
      · subst e; rw [h]; simp
      · congr 1
        exact decide_eq_decide.2 (by omega)
theorem agn_all (x : BitVec 64) : agn x 64 = x := by
  refine BitVec.eq_of_getLsbD_eq fun j hj => ?_
  rw [agn_bit x 64 j hj (by omega), decide_eq_true hj, Bool.true_and]
theorem mem_bits (x : BitVec 64) (i : Nat) (hi : i < 64) : decide ((i : Int) ∈ natZ (bitsL x)) = x.getLsbD i := by
  cases h : x.getLsbD i with
  | true => exact decide_eq_true (List.mem_map.2 ⟨i, bitsL_mem.2 ⟨hi, h⟩, rfl⟩)
  | false =>
    refine decide_eq_false fun hm => ?_
    obtain ⟨j, hj, e⟩ := List.mem_map.1 hm
    have e : j = i := Int.ofNat.inj e
    subst e
    rw [(bitsL_mem.1 hj).2] at h
    cases h

noncomputable def body8 : Code := codeOf Tryd.prog 8 [.r, .r, .r, .r, .r, .l, .r, .b, .b]
def T8 (v : Value) (s a i : Int) (w : Nat → Value) : List Value := fillT 139 [(0, .int .u64 s), (3, .int .u64 s), (4, v), (5, .int .u64 a), (36, .int .i64 i)] w
theorem next8_inn  (s a i y : Int) (σ : AS) (w : Nat → Value) (h1 : decide (i < 64) = true) (h2 : 0 ≤ i) (h3 : (andS (shrS s i) 1 == 1) = true) (h4 : ∀ σ, env8.ov 12 [.int .u64 s, .int .i64 i] 0 σ = some (.bool true, σ)) (h5 : ∀ σ, env8.ov 39 [(.slice none 0 0), .int .i64 i] 0 σ = some (.bool true, σ))
    (h6 : ∀ σ, env8.ov 17 [.int .u64 a, .int .i64 i] 0 σ = some (.tuple #[.int .u64 y, .int .i64 0], σ)) (h7 : ∀ σ, env8.ov 19 [.int .u64 s, .int .i64 i] 0 σ = some (.tuple #[.int .u64 (andNotS s (bitS i)), .int .i64 0], σ)) (h8 : ∀ σ, env8.ov 12 [.int .u64 (andNotS s (bitS i)), .int .i64 i] 0 σ = some (.bool false, σ)) :
    ∃ w', runW Tryd.prog env8 0 (.code ⟨8, none⟩ body8 (T8 (.slice none 0 0) s a i w) []) σ = some (.done .normal (T8 (.slice none 0 0) s y (IntKind.i64.wrap (i + 1)) w') [], σ) :=
  seg 100 [(0, .br true), (5, .ok), (1, .br true), (3, .ov (.bool true)), (5, .ov (.bool true)), (8, .ov (.tuple #[.int .u64 y, .int .i64 0])), (12, .ov (.tuple #[.int .u64 (andNotS s (bitS i)), .int .i64 0])), (10, .ov (.bool false)), (5, .ok), (1, .br false)]
    (m := 139) (js := [0, 3, 4, 5, 36]) (vs := [.int .u64 s, .int .u64 s, (.slice none 0 0), .int .u64 y, .int .i64 (IntKind.i64.wrap (i + 1))])
    (ob := [decide (i < 64) = true, 0 ≤ i, (andS (shrS s i) 1 == 1) = true, (∀ σ, env8.ov 12 [.int .u64 s, .int .i64 i] 0 σ = some (.bool true, σ)), (∀ σ, env8.ov 39 [(.slice none 0 0), .int .i64 i] 0 σ = some (.bool true, σ)),
      (∀ σ, env8.ov 17 [.int .u64 a, .int .i64 i] 0 σ = some (.tuple #[.int .u64 y, .int .i64 0], σ)), (∀ σ, env8.ov 19 [.int .u64 s, .int .i64 i] 0 σ = some (.tuple #[.int .u64 (andNotS s (bitS i)), .int .i64 0], σ)), (∀ σ, env8.ov 12 [.int .u64 (andNotS s (bitS i)), .int .i64 i] 0 σ = some (.bool false, σ)), 0 ≤ i, (andNotS s (bitS i) != andNotS s (bitS i)) = false])
    (by kernel_rfl) ⟨h1, h2, h3, h4, h5, h6, h7, h8, h2, bne_self_eq_false _⟩
theorem next8_outn  (s a i : Int) (σ : AS) (w : Nat → Value) (h1 : decide (i < 64) = true) (h2 : 0 ≤ i) (h3 : (andS (shrS s i) 1 == 1) = false) (h4 : ∀ σ, env8.ov 12 [.int .u64 s, .int .i64 i] 0 σ = some (.bool false, σ)) (h5 : ∀ σ, env8.ov 39 [(.slice none 0 0), .int .i64 i] 0 σ = some (.bool false, σ))
    (h7 : ∀ σ, env8.ov 19 [.int .u64 s, .int .i64 i] 0 σ = some (.tuple #[.int .u64 (andNotS s (bitS i)), .int .i64 0], σ)) (h8 : ∀ σ, env8.ov 12 [.int .u64 (andNotS s (bitS i)), .int .i64 i] 0 σ = some (.bool false, σ)) :
    ∃ w', runW Tryd.prog env8 0 (.code ⟨8, none⟩ body8 (T8 (.slice none 0 0) s a i w) []) σ = some (.done .normal (T8 (.slice none 0 0) s a (IntKind.i64.wrap (i + 1)) w') [], σ) :=
  seg 100 [(0, .br true), (5, .ok), (1, .br false), (3, .ov (.bool false)), (5, .ov (.bool false)), (8, .ov (.tuple #[.int .u64 (andNotS s (bitS i)), .int .i64 0])), (10, .ov (.bool false)), (5, .ok), (1, .br false)]
    (m := 139) (js := [0, 3, 4, 5, 36]) (vs := [.int .u64 s, .int .u64 s, (.slice none 0 0), .int .u64 a, .int .i64 (IntKind.i64.wrap (i + 1))])
    (ob := [decide (i < 64) = true, 0 ≤ i, (andS (shrS s i) 1 == 1) = false, (∀ σ, env8.ov 12 [.int .u64 s, .int .i64 i] 0 σ = some (.bool false, σ)), (∀ σ, env8.ov 39 [(.slice none 0 0), .int .i64 i] 0 σ = some (.bool false, σ)),
      (∀ σ, env8.ov 19 [.int .u64 s, .int .i64 i] 0 σ = some (.tuple #[.int .u64 (andNotS s (bitS i)), .int .i64 0], σ)), (∀ σ, env8.ov 12 [.int .u64 (andNotS s (bitS i)), .int .i64 i] 0 σ = some (.bool false, σ)), 0 ≤ i, (andNotS s (bitS i) != andNotS s (bitS i)) = false])
    (by kernel_rfl) ⟨h1, h2, h3, h4, h5, h7, h8, h2, bne_self_eq_false _⟩
theorem end8n  (s a : Int) (σ : AS) (w : Nat → Value) :
    ∃ w', runW Tryd.prog env8 0 (.code ⟨8, none⟩ body8 (T8 (.slice none 0 0) s a 64 w) []) σ = some (.done (.exit 0) (T8 (.slice none 0 0) s a 64 w') [], σ) :=
  seg 100 [] (m := 139) (js := [0, 3, 4, 5, 36]) (vs := [.int .u64 s, .int .u64 s, (.slice none 0 0), .int .u64 a, .int .i64 64]) (ob := []) (by kernel_rfl) trivial

theorem next8_inl (c : List Value) (n : Nat) (s a i y : Int) (σ : AS) (w : Nat → Value) (h1 : decide (i < 64) = true) (h2 : 0 ≤ i) (h3 : (andS (shrS s i) 1 == 1) = true) (h4 : ∀ σ, env8.ov 12 [.int .u64 s, .int .i64 i] 0 σ = some (.bool true, σ)) (h5 : ∀ σ, env8.ov 39 [(L c n 1 10), .int .i64 i] 0 σ = some (.bool true, σ))
    (h6 : ∀ σ, env8.ov 17 [.int .u64 a, .int .i64 i] 0 σ = some (.tuple #[.int .u64 y, .int .i64 0], σ)) (h7 : ∀ σ, env8.ov 19 [.int .u64 s, .int .i64 i] 0 σ = some (.tuple #[.int .u64 (andNotS s (bitS i)), .int .i64 0], σ)) (h8 : ∀ σ, env8.ov 12 [.int .u64 (andNotS s (bitS i)), .int .i64 i] 0 σ = some (.bool false, σ)) :
    ∃ w', runW Tryd.prog env8 0 (.code ⟨8, none⟩ body8 (T8 (L c n 1 10) s a i w) []) σ = some (.done .normal (T8 (L c n 1 10) s y (IntKind.i64.wrap (i + 1)) w') [], σ) :=
  seg 100 [(0, .br true), (5, .ok), (1, .br true), (3, .ov (.bool true)), (5, .ov (.bool true)), (8, .ov (.tuple #[.int .u64 y, .int .i64 0])), (12, .ov (.tuple #[.int .u64 (andNotS s (bitS i)), .int .i64 0])), (10, .ov (.bool false)), (5, .ok), (1, .br false)]
    (m := 139) (js := [0, 3, 4, 5, 36]) (vs := [.int .u64 s, .int .u64 s, (L c n 1 10), .int .u64 y, .int .i64 (IntKind.i64.wrap (i + 1))])
    (ob := [decide (i < 64) = true, 0 ≤ i, (andS (shrS s i) 1 == 1) = true, (∀ σ, env8.ov 12 [.int .u64 s, .int .i64 i] 0 σ = some (.bool true, σ)), (∀ σ, env8.ov 39 [(L c n 1 10), .int .i64 i] 0 σ = some (.bool true, σ)),
      (∀ σ, env8.ov 17 [.int .u64 a, .int .i64 i] 0 σ = some (.tuple #[.int .u64 y, .int .i64 0], σ)), (∀ σ, env8.ov 19 [.int .u64 s, .int .i64 i] 0 σ = some (.tuple #[.int .u64 (andNotS s (bitS i)), .int .i64 0], σ)), (∀ σ, env8.ov 12 [.int .u64 (andNotS s (bitS i)), .int .i64 i] 0 σ = some (.bool false, σ)), 0 ≤ i, (andNotS s (bitS i) != andNotS s (bitS i)) = false])
    (by kernel_rfl) ⟨h1, h2, h3, h4, h5, h6, h7, h8, h2, bne_self_eq_false _⟩
theorem next8_outl (c : List Value) (n : Nat) (s a i : Int) (σ : AS) (w : Nat → Value) (h1 : decide (i < 64) = true) (h2 : 0 ≤ i) (h3 : (andS (shrS s i) 1 == 1) = false) (h4 : ∀ σ, env8.ov 12 [.int .u64 s, .int .i64 i] 0 σ = some (.bool false, σ)) (h5 : ∀ σ, env8.ov 39 [(L c n 1 10), .int .i64 i] 0 σ = some (.bool false, σ))
    (h7 : ∀ σ, env8.ov 19 [.int .u64 s, .int .i64 i] 0 σ = some (.tuple #[.int .u64 (andNotS s (bitS i)), .int .i64 0], σ)) (h8 : ∀ σ, env8.ov 12 [.int .u64 (andNotS s (bitS i)), .int .i64 i] 0 σ = some (.bool false, σ)) :
    ∃ w', runW Tryd.prog env8 0 (.code ⟨8, none⟩ body8 (T8 (L c n 1 10) s a i w) []) σ = some (.done .normal (T8 (L c n 1 10) s a (IntKind.i64.wrap (i + 1)) w') [], σ) :=
  seg 100 [(0, .br true), (5, .ok), (1, .br false), (3, .ov (.bool false)), (5, .ov (.bool false)), (8, .ov (.tuple #[.int .u64 (andNotS s (bitS i)), .int .i64 0])), (10, .ov (.bool false)), (5, .ok), (1, .br false)]
    (m := 139) (js := [0, 3, 4, 5, 36]) (vs := [.int .u64 s, .int .u64 s, (L c n 1 10), .int .u64 a, .int .i64 (IntKind.i64.wrap (i + 1))])
    (ob := [decide (i < 64) = true, 0 ≤ i, (andS (shrS s i) 1 == 1) = false, (∀ σ, env8.ov 12 [.int .u64 s, .int .i64 i] 0 σ = some (.bool false, σ)), (∀ σ, env8.ov 39 [(L c n 1 10), .int .i64 i] 0 σ = some (.bool false, σ)),
      (∀ σ, env8.ov 19 [.int .u64 s, .int .i64 i] 0 σ = some (.tuple #[.int .u64 (andNotS s (bitS i)), .int .i64 0], σ)), (∀ σ, env8.ov 12 [.int .u64 (andNotS s (bitS i)), .int .i64 i] 0 σ = some (.bool false, σ)), 0 ≤ i, (andNotS s (bitS i) != andNotS s (bitS i)) = false])
    (by kernel_rfl) ⟨h1, h2, h3, h4, h5, h7, h8, h2, bne_self_eq_false _⟩
theorem end8l (c : List Value) (n : Nat) (s a : Int) (σ : AS) (w : Nat → Value) :
    ∃ w', runW Tryd.prog env8 0 (.code ⟨8, none⟩ body8 (T8 (L c n 1 10) s a 64 w) []) σ = some (.done (.exit 0) (T8 (L c n 1 10) s a 64 w') [], σ) :=
  seg 100 [] (m := 139) (js := [0, 3, 4, 5, 36]) (vs := [.int .u64 s, .int .u64 s, (L c n 1 10), .int .u64 a, .int .i64 64]) (ob := []) (by kernel_rfl) trivial

theorem bit_u (x : BitVec 64) (i : Nat) (hi : i < 64) : (andS (shrS (u x) i) 1 == 1) = x.getLsbD i := by
  rw [shrS_u x i (by omega), show (1 : Int) = u 1#64 from rfl, andS_u]
  have e : x >>> i &&& 1#64 = bif x.getLsbD i then 1#64 else 0#64 := by
    refine BitVec.eq_of_getLsbD_eq fun j hj => ?_
    rw [BitVec.getLsbD_and, BitVec.getLsbD_ushiftRight, BitVec.getLsbD_one]
    by_cases h0 : j = 0
    · subst h0
      cases h : x.getLsbD i <;> simp [h]
    · cases h : x.getLsbD i <;> simp [h0, BitVec.getLsbD_one]
  rw [e]
  cases x.getLsbD i <;> rfl
theorem withV_u (a : BitVec 64) (i : Nat) (hi : i < 64) : withV (u a) i = .tuple #[.int .u64 (u (a ||| 1#64 <<< i)), .int .i64 0] := by
  unfold withV withS okOr
  rw [inr_true (by omega) (by omega), cond_true, cond_true, bitS_u _ (by omega) (by omega), orS_u, Int.toNat_natCast]
theorem wioV_u (s : Int) (i : Nat) (hi : i < 64) : wioV s i = .tuple #[.int .u64 (andNotS s (bitS i)), .int .i64 0] := by
  unfold wioV wioS okOr
  rw [inr_true (by omega) (by omega), cond_true, cond_true]
theorem without_bit (x : BitVec 64) (i : Nat) (hi : i < 64) : hasS (andNotS (u x) (bitS i)) i = false := by
  rw [bitS_u _ (by omega) (by omega), andNotS_u, hasS_u _ _ (by omega) (by omega), Int.toNat_natCast, BitVec.getLsbD_and, BitVec.getLsbD_not]
  simp [hi]
theorem loop8n  (v' : Value) (x : BitVec 64) (σ : AS) (hv : strip (.slice none 0 0) = v') (hz : IsZ v' (natZ (bitsL x))) : ∀ (k i : Nat) (w : Nat → Value), i + k = 64 →
    ∃ w', runW Tryd.prog env8 0 (.code ⟨8, none⟩ (.loop body8) (T8 (.slice none 0 0) (u x) (u (agn x i)) i w) []) σ = some (.done (.exit 0) (T8 (.slice none 0 0) (u x) (u x) 64 w') [], σ) := by
  intro k
  induction k with
  | zero =>
    intro i w hi
    obtain rfl : i = 64 := by omega
    rw [agn_all]
    obtain ⟨w', h⟩ := end8n  (u x) (u x) σ w
    exact ⟨w', loop_out (by intro h; cases h) h⟩
  | succ k ih =>
    intro i w hi
    have hi' : i < 64 := by omega
    have e1 : IntKind.i64.wrap ((i : Int) + 1) = ((i + 1 : Nat) : Int) := by rw [wrap64 (by omega) (by omega)]; rfl
    have hb := bit_u x i hi'
    have h4 : ∀ σ, env8.ov 12 [.int .u64 (u x), .int .i64 i] 0 σ = some (.bool (x.getLsbD i), σ) := fun σ => by
      rw [ov8_12, hasS_u x i (by omega) (by omega), Int.toNat_natCast]
    have h5 : ∀ σ, env8.ov 39 [(.slice none 0 0), .int .i64 i] 0 σ = some (.bool (x.getLsbD i), σ) := fun σ => by
      rw [ov8_39 (i : Int) 0 σ hv hz, mem_bits x i hi']
    have h6 : ∀ σ, env8.ov 17 [.int .u64 (u (agn x i)), .int .i64 i] 0 σ = some (.tuple #[.int .u64 (u (agn x i ||| 1#64 <<< i)), .int .i64 0], σ) := fun σ => by
      rw [ov8_17, withV_u _ i hi']
    have h7 : ∀ σ, env8.ov 19 [.int .u64 (u x), .int .i64 i] 0 σ = some (.tuple #[.int .u64 (andNotS (u x) (bitS i)), .int .i64 0], σ) := fun σ => by
      rw [ov8_19, wioV_u _ i hi']
    have h8 : ∀ σ, env8.ov 12 [.int .u64 (andNotS (u x) (bitS i)), .int .i64 i] 0 σ = some (.bool false, σ) := fun σ => by
      rw [ov8_12, without_bit x i hi']
    cases h : x.getLsbD i with
    | true =>
      rw [h] at hb h4 h5
      obtain ⟨w1, h9⟩ := next8_inn  (u x) (u (agn x i)) i (u (agn x i ||| 1#64 <<< i)) σ w (decide_eq_true (by omega)) (by omega) hb h4 h5 h6 h7 h8
      obtain ⟨w', h10⟩ := ih (i + 1) w1 (by omega)
      rw [e1] at h9
      rw [show agn x (i + 1) = agn x i ||| 1#64 <<< i by unfold agn; rw [h, cond_true]; cases i <;> rfl] at h10
      exact ⟨w', loop_next h9 h10⟩
    | false =>
      rw [h] at hb h4 h5
      obtain ⟨w1, h9⟩ := next8_outn  (u x) (u (agn x i)) i σ w (decide_eq_true (by omega)) (by omega) hb h4 h5 h7 h8
      obtain ⟨w', h10⟩ := ih (i + 1) w1 (by omega)
      rw [e1] at h9
      rw [show agn x (i + 1) = agn x i by rw [agn, h, cond_false]] at h10
      exact ⟨w', loop_next h9 h10⟩
theorem loop8l (c : List Value) (n : Nat) (v' : Value) (x : BitVec 64) (σ : AS) (hv : strip (L c n 1 10) = v') (hz : IsZ v' (natZ (bitsL x))) : ∀ (k i : Nat) (w : Nat → Value), i + k = 64 →
    ∃ w', runW Tryd.prog env8 0 (.code ⟨8, none⟩ (.loop body8) (T8 (L c n 1 10) (u x) (u (agn x i)) i w) []) σ = some (.done (.exit 0) (T8 (L c n 1 10) (u x) (u x) 64 w') [], σ) := by
  intro k
  induction k with
  | zero =>
    intro i w hi
    obtain rfl : i = 64 := by omega
    rw [agn_all]
    obtain ⟨w', h⟩ := end8l c n (u x) (u x) σ w
    exact ⟨w', loop_out (by intro h; cases h) h⟩
  | succ k ih =>
    intro i w hi
    have hi' : i < 64 := by omega
    have e1 : IntKind.i64.wrap ((i : Int) + 1) = ((i + 1 : Nat) : Int) := by rw [wrap64 (by omega) (by omega)]; rfl
    have hb := bit_u x i hi'
    have h4 : ∀ σ, env8.ov 12 [.int .u64 (u x), .int .i64 i] 0 σ = some (.bool (x.getLsbD i), σ) := fun σ => by
      rw [ov8_12, hasS_u x i (by omega) (by omega), Int.toNat_natCast]
    have h5 : ∀ σ, env8.ov 39 [(L c n 1 10), .int .i64 i] 0 σ = some (.bool (x.getLsbD i), σ) := fun σ => by
      rw [ov8_39 (i : Int) 0 σ hv hz, mem_bits x i hi']
    have h6 : ∀ σ, env8.ov 17 [.int .u64 (u (agn x i)), .int .i64 i] 0 σ = some (.tuple #[.int .u64 (u (agn x i ||| 1#64 <<< i)), .int .i64 0], σ) := fun σ => by
      rw [ov8_17, withV_u _ i hi']
    have h7 : ∀ σ, env8.ov 19 [.int .u64 (u x), .int .i64 i] 0 σ = some (.tuple #[.int .u64 (andNotS (u x) (bitS i)), .int .i64 0], σ) := fun σ => by
      rw [ov8_19, wioV_u _ i hi']
    have h8 : ∀ σ, env8.ov 12 [.int .u64 (andNotS (u x) (bitS i)), .int .i64 i] 0 σ = some (.bool false, σ) := fun σ => by
      rw [ov8_12, without_bit x i hi']
    cases h : x.getLsbD i with
    | true =>
      rw [h] at hb h4 h5
      obtain ⟨w1, h9⟩ := next8_inl c n (u x) (u (agn x i)) i (u (agn x i ||| 1#64 <<< i)) σ w (decide_eq_true (by omega)) (by omega) hb h4 h5 h6 h7 h8
      obtain ⟨w', h10⟩ := ih (i + 1) w1 (by omega)
      rw [e1] at h9
      rw [show agn x (i + 1) = agn x i ||| 1#64 <<< i by unfold agn; rw [h, cond_true]; cases i <;> rfl] at h10
      exact ⟨w', loop_next h9 h10⟩
    | false =>
      rw [h] at hb h4 h5
      obtain ⟨w1, h9⟩ := next8_outl c n (u x) (u (agn x i)) i σ w (decide_eq_true (by omega)) (by omega) hb h4 h5 h7 h8
      obtain ⟨w', h10⟩ := ih (i + 1) w1 (by omega)
      rw [e1] at h9
      rw [show agn x (i + 1) = agn x i by rw [agn, h, cond_false]] at h10
      exact ⟨w', loop_next h9 h10⟩

end Go.Proofs.YtakchekhpeokjaaDoor
