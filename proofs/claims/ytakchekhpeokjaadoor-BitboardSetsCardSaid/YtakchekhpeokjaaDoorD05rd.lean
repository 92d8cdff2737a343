/-
  BITBOARD (chapter 05): the document's With, Without, Lowest, Len. Printed by gen05rd.py.
-/
import Derived.Test.YtakchekhpeokjaaDoorD05rc
import Derived.Test.YtakchekhpeokjaaDoorD05i
namespace Go.Proofs.YtakchekhpeokjaaDoor
open Go.Va

noncomputable def t10 : Ktab := (43, k36) :: (15, k15) :: t9
theorem t10_ok : TOk Tryd.prog 4 tabs t10 := ⟨p43, t7_ok.1, t9_ok⟩
noncomputable def env10 : Env := envT t10
set_option maxRecDepth 100000 in
theorem fns10 : fnB Tryd.prog 4 env10 okL = true := by kernel_rfl
theorem ov10_23 (x : BitVec 64) (n : Int) (lim : Nat) (σ : AS) : env10.ov 23 [.int .u64 (u x), .int .i64 n] lim σ = some (.bool (hasS (u x) n), σ) :=
  envK rfl rfl rfl rfl (by unfold t10 t9; rw [pfT_ne rfl, pfT_ne rfl, pfT_eq]; unfold k23; dsimp only; rw [inU_u, cond_true])
theorem ov10_43 {a a' : Value} {l : List Int} (lim : Nat) (σ : AS) (ea : strip a = a') (ha : IsZ a' l) : env10.ov 43 [a] lim σ = some (ofV l, σ) :=
  envZ rfl rfl ea ha (by unfold t10; rw [pfT_eq]; unfold k36; dsimp only; rw [zl_eq ha])
theorem in26_nilt (s i : Int) (w : Nat → Value) (h1 : decide (i < 64) = true) (h2 : ∀ σ, env10.ov 23 [.int .u64 s, .int .i64 i] 0 σ = some (.bool true, σ)) :
    ∃ w', runW Tryd.prog env10 0 (.code ⟨26, none⟩ body26 (T26 (.slice none 0 0) s i w) []) (base0 4 tabs) = some (.done .normal (T26 (L [.int .i64 i] 1 1 6) s (IntKind.i64.wrap (i + 1)) w') [], R1 [.int .i64 i]) :=
  seg 100 [(1, .br true), (3, .ov (.bool true))] (m := 17) (js := [0, 3, 4]) (vs := [.int .u64 s, L [.int .i64 i] 1 1 6, .int .i64 (IntKind.i64.wrap (i + 1))])
    (ob := [decide (i < 64) = true, (∀ σ, env10.ov 23 [.int .u64 s, .int .i64 i] 0 σ = some (.bool true, σ))]) (by kernel_rfl) ⟨h1, h2⟩
theorem in26t (s i : Int) (c : List Value) (n : Nat) (w : Nat → Value) (h1 : decide (i < 64) = true) (h2 : ∀ σ, env10.ov 23 [.int .u64 s, .int .i64 i] 0 σ = some (.bool true, σ)) (h3 : n < 99) :
    ∃ w', runW Tryd.prog env10 0 (.code ⟨26, none⟩ body26 (T26 (L c n 1 6) s i w) []) (R1 c) = some (.done .normal (T26 (L (c ++ [.int .i64 i]) (n + 1) 1 6) s (IntKind.i64.wrap (i + 1)) w') [], R1 (c ++ [.int .i64 i])) :=
  seg 100 [(1, .br true), (3, .ov (.bool true)), (4, .ok)] (m := 17) (js := [0, 3, 4]) (vs := [.int .u64 s, L (c ++ [.int .i64 i]) (n + 1) 1 6, .int .i64 (IntKind.i64.wrap (i + 1))])
    (ob := [decide (i < 64) = true, (∀ σ, env10.ov 23 [.int .u64 s, .int .i64 i] 0 σ = some (.bool true, σ)), c.length = c.length ∧ (n + 1) * 8 ≤ 70368744177664]) (by kernel_rfl) ⟨h1, h2, rfl, by omega⟩
theorem out26_nilt (s i : Int) (σ : AS) (w : Nat → Value) (h1 : decide (i < 64) = true) (h2 : ∀ σ, env10.ov 23 [.int .u64 s, .int .i64 i] 0 σ = some (.bool false, σ)) :
    ∃ w', runW Tryd.prog env10 0 (.code ⟨26, none⟩ body26 (T26 (.slice none 0 0) s i w) []) σ = some (.done .normal (T26 (.slice none 0 0) s (IntKind.i64.wrap (i + 1)) w') [], σ) :=
  seg 100 [(1, .br true), (3, .ov (.bool false))] (m := 17) (js := [0, 3, 4]) (vs := [.int .u64 s, .slice none 0 0, .int .i64 (IntKind.i64.wrap (i + 1))])
    (ob := [decide (i < 64) = true, (∀ σ, env10.ov 23 [.int .u64 s, .int .i64 i] 0 σ = some (.bool false, σ))]) (by kernel_rfl) ⟨h1, h2⟩
theorem out26t (s i : Int) (c : List Value) (n : Nat) (σ : AS) (w : Nat → Value) (h1 : decide (i < 64) = true) (h2 : ∀ σ, env10.ov 23 [.int .u64 s, .int .i64 i] 0 σ = some (.bool false, σ)) :
    ∃ w', runW Tryd.prog env10 0 (.code ⟨26, none⟩ body26 (T26 (L c n 1 6) s i w) []) σ = some (.done .normal (T26 (L c n 1 6) s (IntKind.i64.wrap (i + 1)) w') [], σ) :=
  seg 100 [(1, .br true), (3, .ov (.bool false))] (m := 17) (js := [0, 3, 4]) (vs := [.int .u64 s, L c n 1 6, .int .i64 (IntKind.i64.wrap (i + 1))])
    (ob := [decide (i < 64) = true, (∀ σ, env10.ov 23 [.int .u64 s, .int .i64 i] 0 σ = some (.bool false, σ))]) (by kernel_rfl) ⟨h1, h2⟩
theorem end26_nilt (s : Int) (σ : AS) (w : Nat → Value) :
    ∃ w', runW Tryd.prog env10 0 (.code ⟨26, none⟩ body26 (T26 (.slice none 0 0) s 64 w) []) σ = some (.done (.exit 0) (T26 (.slice none 0 0) s 64 w') [], σ) :=
  seg 100 [] (m := 17) (js := [0, 3, 4]) (vs := [.int .u64 s, .slice none 0 0, .int .i64 64]) (ob := []) (by kernel_rfl) trivial
theorem end26t (s : Int) (c : List Value) (n : Nat) (σ : AS) (w : Nat → Value) :
    ∃ w', runW Tryd.prog env10 0 (.code ⟨26, none⟩ body26 (T26 (L c n 1 6) s 64 w) []) σ = some (.done (.exit 0) (T26 (L c n 1 6) s 64 w') [], σ) :=
  seg 100 [] (m := 17) (js := [0, 3, 4]) (vs := [.int .u64 s, L c n 1 6, .int .i64 64]) (ob := []) (by kernel_rfl) trivial

theorem step26t (x : BitVec 64) (i : Nat) (w : Nat → Value) (hi : i < 64) :
    ∃ w', runW Tryd.prog env10 0 (.code ⟨26, none⟩ body26 (T26 (LV (upTo x i)) (u x) i w) []) (ST (upTo x i)) = some (.done .normal (T26 (LV (upTo x (i + 1))) (u x) ((i + 1 : Nat) : Int) w') [], ST (upTo x (i + 1))) := by
  have e1 : IntKind.i64.wrap ((i : Int) + 1) = ((i + 1 : Nat) : Int) := by rw [wrap64 (by omega) (by omega)]; rfl
  have h2 : ∀ σ, env10.ov 23 [.int .u64 (u x), .int .i64 i] 0 σ = some (.bool (x.getLsbD i), σ) := fun σ => by
    rw [ov10_23, hasS_u x i (by omega) (by omega), Int.toNat_natCast]
  have h1 : decide ((i : Int) < 64) = true := decide_eq_true (by omega)
  rw [← e1, upTo_succ]
  have hlen := upTo_len x i
  cases h : x.getLsbD i with
  | true =>
    rw [h] at h2
    rw [cond_true]
    cases hp : upTo x i with
    | nil => exact in26_nilt (u x) i w h1 h2
    | cons a p =>
      rw [hp] at hlen
      obtain ⟨w', h3⟩ := in26t (u x) i (ints (a :: p)) (a :: p).length w h1 h2 (by omega)
      refine ⟨w', ?_⟩
      rw [List.cons_append, LV_cons, ST_cons, LV_cons, ST_cons, show ints (a :: (p ++ [i])) = ints (a :: p) ++ [.int .i64 (i : Int)] by simp [ints], show (a :: (p ++ [i])).length = (a :: p).length + 1 by simp]
      exact h3
  | false =>
    rw [h] at h2
    rw [cond_false, List.append_nil]
    cases hp : upTo x i with
    | nil => exact out26_nilt (u x) i _ w h1 h2
    | cons a p => exact out26t (u x) i (ints (a :: p)) (a :: p).length _ w h1 h2
theorem loop26t (x : BitVec 64) : ∀ (k i : Nat) (w : Nat → Value), i + k = 64 →
    ∃ w', runW Tryd.prog env10 0 (.code ⟨26, none⟩ (.loop body26) (T26 (LV (upTo x i)) (u x) i w) []) (ST (upTo x i)) = some (.done (.exit 0) (T26 (LV (bitsL x)) (u x) 64 w') [], ST (bitsL x)) := by
  intro k
  induction k with
  | zero =>
    intro i w hi
    obtain rfl : i = 64 := by omega
    rw [show upTo x 64 = bitsL x from rfl]
    have : ∃ w', runW Tryd.prog env10 0 (.code ⟨26, none⟩ body26 (T26 (LV (bitsL x)) (u x) 64 w) []) (ST (bitsL x)) = some (.done (.exit 0) (T26 (LV (bitsL x)) (u x) 64 w') [], ST (bitsL x)) := by
      cases hp : bitsL x with
      | nil => exact end26_nilt (u x) _ w
      | cons a p => exact end26t (u x) (ints (a :: p)) (a :: p).length _ w
    obtain ⟨w', h⟩ := this
    exact ⟨w', loop_out (by intro h; cases h) h⟩
  | succ k ih =>
    intro i w hi
    obtain ⟨w1, h1⟩ := step26t x i w (by omega)
    obtain ⟨w', h2⟩ := ih (i + 1) w1 (by omega)
    exact ⟨w', loop_next h1 h2⟩
/-- From the start. -/
theorem loop26_allt (x : BitVec 64) (w : Nat → Value) :
    ∃ w', runW Tryd.prog env10 0 (.code ⟨26, none⟩ (.loop body26) (T26 (.slice none 0 0) (u x) 0 w) []) (base0 4 tabs) = some (.done (.exit 0) (T26 (LV (bitsL x)) (u x) 64 w') [], ST (bitsL x)) := loop26t x 64 0 w rfl
theorem p25 (x : BitVec 64) : Pure Tryd.prog 4 tabs 25 [.int .u64 (u x)] (.int .i64 ((bitsL x).length : Int)) := by
  obtain ⟨w', h⟩ := loop26_allt x (fun j => Go.Va.look [(2, Value.slice none 0 0)] j undef)
  cases hp : bitsL x with
  | nil =>
    rw [hp] at h
    exact pureT t10_ok fns10 (n := 100) (v := .int .i64 0) [(6, .skip (.done (.exit 0) (T26 (.slice none 0 0) (u x) 64 w') []) (base0 4 tabs))] [_] (by kernel_rfl) h rfl (.int _ _)
  | cons a p =>
    rw [hp] at h
    exact pureT t10_ok fns10 (n := 100) (v := .int .i64 ((a :: p).length : Int)) [(6, .skip (.done (.exit 0) (T26 (L (ints (a :: p)) (a :: p).length 1 6) (u x) 64 w') []) (R1 (ints (a :: p))))] [_] (by kernel_rfl) h rfl (.int _ _)
theorem p22 (x : BitVec 64) : Pure Tryd.prog 4 tabs 22 [.int .u64 (u x)] (lowV x) := by
  obtain ⟨w', h⟩ := loop26_allt x (fun j => Go.Va.look [(2, Value.slice none 0 0)] j undef)
  have htz : tz x = (bitsL x).headD 64 := rfl
  cases hp : bitsL x with
  | nil =>
    rw [hp] at h
    rw [bits_ne hp] at h ⊢
    exact pureT t10_ok fns10 (n := 100) (v := .tuple #[.int .i64 0, .bool false]) [(7, .skip (.done (.exit 0) (T26 (.slice none 0 0) (u 0#64) 64 w') []) (base0 4 tabs))] [_] (by kernel_rfl) h rfl (PF_pair (.int _ _) (.bool _))
  | cons a p =>
    have hx : x ≠ 0#64 := by intro e; rw [e, bits_zero] at hp; cases hp
    have : lowV x = .tuple #[.int .i64 (tz x), .bool true] := by
      unfold lowV; rw [beq_eq_false_iff_ne.2 hx]; rfl
    rw [this, htz]
    rw [hp] at h ⊢
    exact pureT t10_ok fns10 (n := 100) (v := .tuple #[.int .i64 (a : Int), .bool true]) [(7, .skip (.done (.exit 0) (T26 (L (ints (a :: p)) (a :: p).length 1 6) (u x) 64 w') []) (R1 (ints (a :: p)))), (5, .br false)] [_, (((a :: p).length : Int) == 0) = false]
      (by kernel_rfl) ⟨h, beq_eq_false_iff_ne.2 (by simp only [List.length_cons]; omega)⟩ rfl (PF_pair (.int _ _) (.bool _))

/-! ## With, Without -/

theorem setOf_bits (x : BitVec 64) : setOf (natZ (bitsL x)) = x := by
  refine BitVec.eq_of_getLsbD_eq fun j hj => ?_
  unfold setOf
  rw [setOf_bit _ _ _ hj]
  have : decide (j ∈ bitsL x) = x.getLsbD j := by
    cases h : x.getLsbD j with
    | true => exact decide_eq_true (bitsL_mem.2 ⟨hj, h⟩)
    | false =>
      refine decide_eq_false fun hm => ?_
      rw [(bitsL_mem.1 hm).2] at h; cases h
  rw [this]; simp
theorem ofV_with (x : BitVec 64) (i : Nat) (hi : i < 64) : ofV (natZ (bitsL x ++ [i])) = withV (u x) i := by
  have h1 : (natZ (bitsL x ++ [i])).all (fun n => inr n 64) = true := by
    refine List.all_eq_true.2 fun n hn => ?_
    obtain ⟨j, hj, rfl⟩ := List.mem_map.1 hn
    have : j < 64 := by
      rcases List.mem_append.1 hj with h | h
      · exact (bitsL_mem.1 h).1
      · rw [List.mem_singleton] at h; omega
    exact inr_true (by omega) (by omega)
  rw [withV_u x i hi]
  unfold ofV
  rw [h1, cond_true]
  have : setOf (natZ (bitsL x ++ [i])) = x ||| 1#64 <<< i := by
    rw [natZ_app]
    unfold setOf
    rw [List.foldl_append, show (natZ (bitsL x)).foldl (fun x n => x ||| 1#64 <<< n.toNat) 0#64 = x from setOf_bits x]
    rfl
  rw [this]
theorem p18 (x : BitVec 64) (n : Int) : Pure Tryd.prog 4 tabs 18 [.int .u64 (u x), .int .i64 n] (withV (u x) n) := by
  refine three n 64 (fun h => ?_) (fun h g => ?_) fun h g h0 => ?_
  · rw [show withV (u x) n = .tuple #[.int .u64 0, .int .i64 3] by simp [withV, withS, okOr, inr_neg h]]
    exact pureT t10_ok fns10 (n := 100) (v := .tuple #[.int .u64 0, .int .i64 3]) [(6, .br false)] [decide (n ≥ 0) = false] (by kernel_rfl) h rfl (PF_pair (.int _ _) (.int _ _))
  · rw [show withV (u x) n = .tuple #[.int .u64 0, .int .i64 3] by simp [withV, withS, okOr, inr_big g]]
    exact pureT t10_ok fns10 (n := 100) (v := .tuple #[.int .u64 0, .int .i64 3]) [(6, .br true), (2, .br false)] [decide (n ≥ 0) = true, decide (n < 64) = false] (by kernel_rfl) ⟨h, g⟩ rfl (PF_pair (.int _ _) (.int _ _))
  · have hn : n < 64 := of_decide_eq_true g
    obtain ⟨i, rfl⟩ : ∃ i : Nat, n = i := ⟨n.toNat, by omega⟩
    obtain ⟨w', hw⟩ := loop26_allt x (fun j => Go.Va.look [(2, Value.slice none 0 0)] j undef)
    have hl := bitsL_length x
    rw [withV_u x i (by omega)]
    have hz : IsZ (L (ints (bitsL x ++ [i])) ((bitsL x).length + 1) 1 0) (natZ (bitsL x ++ [i])) := IsZ_L (by simp) (Nat.zero_le 1) (by omega)
    have h43 : ∀ σ, env10.ov 43 [L (ints (bitsL x ++ [i])) ((bitsL x).length + 1) 1 6] 0 σ = some (.tuple #[.int .u64 (u (x ||| 1#64 <<< i)), .int .i64 0], σ) := fun σ => by
      rw [ov10_43 (a' := L (ints (bitsL x ++ [i])) ((bitsL x).length + 1) 1 0) 0 σ rfl hz, ofV_with x i (by omega), withV_u x i (by omega)]
    rw [ints_app] at h43
    cases hp : bitsL x with
    | nil =>
      rw [hp] at hw h43
      exact pureT t10_ok fns10 (n := 100) (v := .tuple #[.int .u64 (u (x ||| 1#64 <<< i)), .int .i64 0]) [(6, .br true), (2, .br true), (9, .skip (.done (.exit 0) (T26 (.slice none 0 0) (u x) 64 w') []) (base0 4 tabs)), (5, .ov (.tuple #[.int .u64 (u (x ||| 1#64 <<< i)), .int .i64 0]))]
        [decide ((i : Int) ≥ 0) = true, decide ((i : Int) < 64) = true, _, _] (by kernel_rfl) ⟨h, g, hw, h43⟩ rfl (PF_pair (.int _ _) (.int _ _))
    | cons a p =>
      rw [hp] at hw h43 hl
      exact pureT t10_ok fns10 (n := 100) (v := .tuple #[.int .u64 (u (x ||| 1#64 <<< i)), .int .i64 0]) [(6, .br true), (2, .br true), (9, .skip (.done (.exit 0) (T26 (L (ints (a :: p)) (a :: p).length 1 6) (u x) 64 w') []) (R1 (ints (a :: p)))), (4, .ok), (0, .ov (.tuple #[.int .u64 (u (x ||| 1#64 <<< i)), .int .i64 0]))]
        [decide ((i : Int) ≥ 0) = true, decide ((i : Int) < 64) = true, _, (ints (a :: p)).length = (ints (a :: p)).length ∧ ((a :: p).length + 1) * 8 ≤ 70368744177664, _] (by kernel_rfl) ⟨h, g, hw, ⟨rfl, by omega⟩, h43⟩ rfl (PF_pair (.int _ _) (.int _ _))
theorem subS_u (x y : BitVec 64) : subS (u x) (u y) = u (x - y) := by
  unfold subS
  have h1 := x.isLt
  have h2 := y.isLt
  unfold u IntKind.wrap
  rw [BitVec.toNat_sub]
  simp only [IntKind.signed, Bool.false_and, Bool.false_eq_true, if_false]
  show ((x.toNat : Int) - y.toNat) % (2 ^ 64 : Int) = ((2 ^ 64 - y.toNat + x.toNat) % 2 ^ 64 : Nat)
  omega
theorem sub_bit (x : BitVec 64) (i : Nat) (hi : i < 64) (h : x.getLsbD i = true) : x - 1#64 <<< i = x &&& ~~~ (1#64 <<< i) := by
  have e : (x &&& ~~~ (1#64 <<< i)) + 1#64 <<< i = x := by
    rw [add_bit _ i hi (by rw [BitVec.getLsbD_and, BitVec.getLsbD_not, BitVec.getLsbD_shiftLeft, BitVec.getLsbD_one]; simp [hi])]
    refine BitVec.eq_of_getLsbD_eq fun j hj => ?_
    rw [BitVec.getLsbD_or, BitVec.getLsbD_and, BitVec.getLsbD_not]
    by_cases e : j = i
    · subst e; rw [h, BitVec.getLsbD_shiftLeft, BitVec.getLsbD_one]; simp [hi]
    · have : (1#64 <<< i).getLsbD j = false := by
        rw [BitVec.getLsbD_shiftLeft, BitVec.getLsbD_one]
        by_cases h2 : j < i
        · simp [h2]
        · have h3 : j - i ≠ 0 := by omega
          simp [h3]
      rw [this]; simp [hj]
  calc x - 1#64 <<< i = (x &&& ~~~ (1#64 <<< i)) + 1#64 <<< i - 1#64 <<< i := by rw [e]
    _ = _ := BitVec.add_sub_cancel _ _
theorem no_bit (x : BitVec 64) (i : Nat) (hi : i < 64) (h : x.getLsbD i = false) : x &&& ~~~ (1#64 <<< i) = x := by
  refine BitVec.eq_of_getLsbD_eq fun j hj => ?_
  rw [BitVec.getLsbD_and, BitVec.getLsbD_not]
  by_cases e : j = i
  · subst e; rw [h]; rfl
  · have : (1#64 <<< i).getLsbD j = false := by
      rw [BitVec.getLsbD_shiftLeft, BitVec.getLsbD_one]
      by_cases h2 : j < i
      · simp [h2]
      · have h3 : j - i ≠ 0 := by omega
        simp [h3]
    rw [this]; simp [hj]
theorem p20 (x : BitVec 64) (n : Int) : Pure Tryd.prog 4 tabs 20 [.int .u64 (u x), .int .i64 n] (wioV (u x) n) := by
  refine three n 64 (fun h => ?_) (fun h g => ?_) fun h g h0 => ?_
  · rw [show wioV (u x) n = .tuple #[.int .u64 0, .int .i64 3] by simp [wioV, wioS, okOr, inr_neg h]]
    exact pureT t10_ok fns10 (n := 100) (v := .tuple #[.int .u64 0, .int .i64 3]) [(6, .br false)] [decide (n ≥ 0) = false] (by kernel_rfl) h rfl (PF_pair (.int _ _) (.int _ _))
  · rw [show wioV (u x) n = .tuple #[.int .u64 0, .int .i64 3] by simp [wioV, wioS, okOr, inr_big g]]
    exact pureT t10_ok fns10 (n := 100) (v := .tuple #[.int .u64 0, .int .i64 3]) [(6, .br true), (2, .br false)] [decide (n ≥ 0) = true, decide (n < 64) = false] (by kernel_rfl) ⟨h, g⟩ rfl (PF_pair (.int _ _) (.int _ _))
  · have hn : n < 64 := of_decide_eq_true g
    obtain ⟨i, rfl⟩ : ∃ i : Nat, n = i := ⟨n.toNat, by omega⟩
    have hi : i < 64 := by omega
    have ew : IntKind.u64.wrap (i : Int) = (i : Int) := wrap_fits .u64 (by show (0 : Int) ≤ _; omega) (by show (i : Int) ≤ 18446744073709551615; omega)
    have hh : ∀ σ, env10.ov 23 [.int .u64 (u x), .int .i64 i] 0 σ = some (.bool (x.getLsbD i), σ) := fun σ => by
      rw [ov10_23, hasS_u x _ (by omega) (by omega), Int.toNat_natCast]
    rw [wioV_u _ i hi, bitS_u _ (by omega) (by omega), andNotS_u, Int.toNat_natCast]
    cases hb : x.getLsbD i with
    | true =>
      rw [hb] at hh
      have ev : subS (u x) (bitW i) = u (x &&& ~~~ (1#64 <<< i)) := by
        unfold bitW
        rw [ew, bitS_u _ (by omega) (by omega), subS_u, Int.toNat_natCast, sub_bit x i hi hb]
      rw [← ev]
      exact pureT t10_ok fns10 (n := 100) (v := .tuple #[.int .u64 (subS (u x) (bitW i)), .int .i64 0]) [(6, .br true), (2, .br true), (6, .ov (.bool true)), (4, .ok)]
        [decide ((i : Int) ≥ 0) = true, decide ((i : Int) < 64) = true, _, 0 ≤ IntKind.u64.wrap (i : Int)] (by kernel_rfl) ⟨h, g, hh, by rw [ew]; exact h0⟩ rfl (PF_pair (.int _ _) (.int _ _))
    | false =>
      rw [hb] at hh
      rw [no_bit x i hi hb]
      exact pureT t10_ok fns10 (n := 100) (v := .tuple #[.int .u64 (u x), .int .i64 0]) [(6, .br true), (2, .br true), (6, .ov (.bool false))]
        [decide ((i : Int) ≥ 0) = true, decide ((i : Int) < 64) = true, _] (by kernel_rfl) ⟨h, g, hh⟩ rfl (PF_pair (.int _ _) (.int _ _))

end Go.Proofs.YtakchekhpeokjaaDoor
