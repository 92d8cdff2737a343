/-
  BITBOARD (chapter 05): slices.Index and Contains, slices.IsSorted, Of.
-/
import Derived.Test.YtakchekhpeokjaaDoorD05w
namespace Go.Proofs.YtakchekhpeokjaaDoor
open Go.Va

/-! ## Contains -/

noncomputable def body60 : Code := codeOf Tryd.prog 60 [.r, .l, .r, .b, .b]
def T60 (v : Value) (m n i : Int) (w : Nat → Value) : List Value := fillT 19 [(0, v), (1, .int .i64 m), (7, .int .i64 n), (8, .int .i64 i)] w
theorem next60 (c : List Value) (m : Int) (n g i : Nat) (x : Int) (w : Nat → Value) (h1 : i < n) (hx : c[i]? = some (.int .i64 x)) (hm : m ≠ x) (hn : n < 9223372036854775807) :
    ∃ w', runW Tryd.prog env7 0 (.code ⟨60, none⟩ body60 (T60 (L c n 1 g) m n i w) []) (base0 4 tabs) = some (.done .normal (T60 (L c n 1 g) m n ((i + 1 : Nat) : Int) w') [], base0 4 tabs) := by
  have e : IntKind.i64.wrap ((i : Int) + 1) = ((i + 1 : Nat) : Int) := by rw [wrap64 (by omega) (by omega)]; rfl
  rw [← e]
  exact seg 100 [(0, .br true), (6, .ok), (0, .is (.int .i64 x)), (0, .br false)] (m := 19) (js := [0, 1, 7, 8]) (vs := [L c n 1 g, .int .i64 m, .int .i64 n, .int .i64 (IntKind.i64.wrap ((i : Int) + 1))])
    (ob := [decide ((i : Int) < n) = true, (0 : Int) ≤ i ∧ (i : Int) < n, c[i * 1]? = some (.int .i64 x), (m == x) = false]) (by kernel_rfl)
    ⟨decide_eq_true (by omega), ⟨by omega, by omega⟩, by rw [Nat.mul_one]; exact hx, beq_eq_false_iff_ne.2 hm⟩
theorem hit60 (c : List Value) (m : Int) (n g i : Nat) (w : Nat → Value) (h1 : i < n) (hx : c[i]? = some (.int .i64 m)) :
    ∃ w', runW Tryd.prog env7 0 (.code ⟨60, none⟩ body60 (T60 (L c n 1 g) m n i w) []) (base0 4 tabs) = some (.done .ret (fillT 19 [(4, .int .i64 i)] w') [], base0 4 tabs) :=
  seg 100 [(0, .br true), (6, .ok), (0, .is (.int .i64 m)), (0, .br true)] (m := 19) (js := [4]) (vs := [.int .i64 i])
    (ob := [decide ((i : Int) < n) = true, (0 : Int) ≤ i ∧ (i : Int) < n, c[i * 1]? = some (.int .i64 m), (m == m) = true]) (by kernel_rfl)
    ⟨decide_eq_true (by omega), ⟨by omega, by omega⟩, by rw [Nat.mul_one]; exact hx, beq_self_eq_true m⟩
theorem end60 (v : Value) (m n i : Int) (w : Nat → Value) (h1 : n ≤ i) :
    ∃ w', runW Tryd.prog env7 0 (.code ⟨60, none⟩ body60 (T60 v m n i w) []) (base0 4 tabs) = some (.done (.exit 0) (fillT 19 [] w') [], base0 4 tabs) :=
  seg 100 [(0, .br false)] (m := 19) (js := []) (vs := []) (ob := [decide (i < n) = false]) (by kernel_rfl) (decide_eq_false (by omega))
theorem loop60 (l : List Int) (m : Int) (n g : Nat) (hl : l.length = n) (hn : n < 9223372036854775807) : ∀ (k i : Nat) (w : Nat → Value), i + k = n →
    (m ∈ l.drop i ∧ ∃ (j : Nat) (w' : Nat → Value), runW Tryd.prog env7 0 (.code ⟨60, none⟩ (.loop body60) (T60 (L (zs l) n 1 g) m n i w) []) (base0 4 tabs) = some (.done .ret (fillT 19 [(4, .int .i64 j)] w') [], base0 4 tabs)) ∨
    (m ∉ l.drop i ∧ ∃ w', runW Tryd.prog env7 0 (.code ⟨60, none⟩ (.loop body60) (T60 (L (zs l) n 1 g) m n i w) []) (base0 4 tabs) = some (.done (.exit 0) (fillT 19 [] w') [], base0 4 tabs)) := by
  intro k
  induction k with
  | zero =>
    intro i w hi
    obtain ⟨w', h⟩ := end60 (L (zs l) n 1 g) m n i w (by omega)
    exact .inr ⟨by rw [List.drop_of_length_le (by omega)]; simp, w', loop_out (by intro h; cases h) h⟩
  | succ k ih =>
    intro i w hi
    have hil : i < l.length := by omega
    have hx : (zs l)[i]? = some (.int .i64 l[i]) := by rw [zs_get, List.getElem?_eq_getElem hil]; rfl
    rw [List.drop_eq_getElem_cons hil]
    by_cases h : m = l[i]
    · rw [← h] at hx
      obtain ⟨w', h1⟩ := hit60 (zs l) m n g i w (by omega) hx
      exact .inl ⟨by rw [← h]; simp, i, w', loop_out (by intro h; cases h) h1⟩
    · obtain ⟨w1, h1⟩ := next60 (zs l) m n g i l[i] w (by omega) hx h hn
      rcases ih (i + 1) w1 (by omega) with ⟨hm, j, w', h2⟩ | ⟨hm, w', h2⟩
      · exact .inl ⟨List.mem_cons_of_mem _ hm, j, w', loop_next h1 h2⟩
      · exact .inr ⟨by rw [List.mem_cons]; rintro (e | e); exact h e; exact hm e, w', loop_next h1 h2⟩
theorem p39_nil (m : Int) : Pure Tryd.prog 4 tabs 39 [.slice none 0 0, .int .i64 m] (.bool false) :=
  pureT t7_ok fns7 (n := 100) (v := .bool false) [] [] (by kernel_rfl) trivial rfl (.bool _)
theorem p39_l (l : List Int) (g : Nat) (m : Int) (hn : l.length < 9223372036854775807) : Pure Tryd.prog 4 tabs 39 [L (zs l) l.length 1 g, .int .i64 m] (.bool (decide (m ∈ l))) := by
  rcases loop60 l m l.length g rfl hn l.length 0 (fun j => Go.Va.look [(4, .int .i64 0), (6, L (zs l) l.length 1 g)] j undef) (by omega) with ⟨hm, j, w', h⟩ | ⟨hm, w', h⟩
  · rw [List.drop_zero] at hm
    rw [decide_eq_true hm]
    exact pureT t7_ok fns7 (n := 100) (v := .bool true) [(8, .skip (.done .ret (fillT 19 [(4, .int .i64 j)] w') []) (base0 4 tabs)), (0, .br true)] [_, decide ((j : Int) ≥ 0) = true] (by kernel_rfl) ⟨h, decide_eq_true (by omega)⟩ rfl (.bool _)
  · rw [List.drop_zero] at hm
    rw [decide_eq_false hm]
    exact pureT t7_ok fns7 (n := 100) (v := .bool false) [(8, .skip (.done (.exit 0) (fillT 19 [] w') []) (base0 4 tabs))] [_] (by kernel_rfl) h rfl (.bool _)
noncomputable def k39 : List Value → Option Value
  | [a, .int .i64 m] => match zl a with
    | some l => some (.bool (decide (m ∈ l)))
    | none => none
  | _ => none
theorem p39 : KOk Tryd.prog 4 tabs 39 k39 := by
  intro args v h
  unfold k39 at h
  split at h
  · rename_i a m
    split at h
    · rename_i l hl
      cases h
      rcases zl_spec hl with ⟨ea, el, _⟩ | ⟨g, _, ea, hb⟩
      · subst ea el; rw [decide_eq_false (by simp)]; exact p39_nil m
      · subst ea; exact p39_l l g m (by omega)
    · cases h
  · cases h

/-! ## Of -/

def setOf (l : List Int) : BitVec 64 := l.foldl (fun x n => x ||| 1#64 <<< n.toNat) 0#64
def ofV (l : List Int) : Value := bif l.all (fun n => inr n 64) then .tuple #[.int .u64 (u (setOf l)), .int .i64 0] else .tuple #[.int .u64 0, .int .i64 3]
noncomputable def body36 : Code := codeOf Tryd.prog 36 [.r, .r, .l, .r, .b, .b]
def T36 (v : Value) (a n i : Int) (w : Nat → Value) : List Value := fillT 22 [(4, .int .u64 a), (7, v), (8, .int .i64 n), (9, .int .i64 i)] w
theorem next36 (c : List Value) (a : Int) (n g i : Nat) (x : Int) (w : Nat → Value) (h1 : i < n) (hx : c[i]? = some (.int .i64 x)) (hn : n < 9223372036854775807) (hx0 : 0 ≤ x) (hx1 : x < 64) :
    ∃ w', runW Tryd.prog env7 0 (.code ⟨36, none⟩ body36 (T36 (L c n 1 g) a n i w) []) (base0 4 tabs) = some (.done .normal (T36 (L c n 1 g) (orS a (bitS x)) n ((i + 1 : Nat) : Int) w') [], base0 4 tabs) := by
  have e : IntKind.i64.wrap ((i : Int) + 1) = ((i + 1 : Nat) : Int) := by rw [wrap64 (by omega) (by omega)]; rfl
  rw [← e]
  exact seg 100 [(0, .br true), (1, .ok), (0, .is (.int .i64 x)), (5, .br true), (3, .br true), (9, .ok)] (m := 22) (js := [4, 7, 8, 9]) (vs := [.int .u64 (orS a (bitS x)), L c n 1 g, .int .i64 n, .int .i64 (IntKind.i64.wrap ((i : Int) + 1))])
    (ob := [decide ((i : Int) < n) = true, (0 : Int) ≤ i ∧ (i : Int) < n, c[i * 1]? = some (.int .i64 x), decide (x ≥ 0) = true, decide (x < 64) = true, 0 ≤ x]) (by kernel_rfl)
    ⟨decide_eq_true (by omega), ⟨by omega, by omega⟩, by rw [Nat.mul_one]; exact hx, decide_eq_true hx0, decide_eq_true hx1, hx0⟩
theorem bad36 (c : List Value) (a : Int) (n g i : Nat) (x : Int) (w : Nat → Value) (h1 : i < n) (hx : c[i]? = some (.int .i64 x)) (hr : inr x 64 = false) :
    ∃ w', runW Tryd.prog env7 0 (.code ⟨36, none⟩ body36 (T36 (L c n 1 g) a n i w) []) (base0 4 tabs) = some (.done .ret (fillT 22 [(2, .int .u64 0), (3, .int .i64 3)] w') [], base0 4 tabs) := by
  by_cases h0 : 0 ≤ x
  · have hx1 : ¬ x < 64 := fun h => by rw [inr_true h0 h] at hr; cases hr
    exact seg 100 [(0, .br true), (1, .ok), (0, .is (.int .i64 x)), (5, .br true), (3, .br false)] (m := 22) (js := [2, 3]) (vs := [.int .u64 0, .int .i64 3])
      (ob := [decide ((i : Int) < n) = true, (0 : Int) ≤ i ∧ (i : Int) < n, c[i * 1]? = some (.int .i64 x), decide (x ≥ 0) = true, decide (x < 64) = false]) (by kernel_rfl)
      ⟨decide_eq_true (by omega), ⟨by omega, by omega⟩, by rw [Nat.mul_one]; exact hx, decide_eq_true h0, decide_eq_false hx1⟩
  · exact seg 100 [(0, .br true), (1, .ok), (0, .is (.int .i64 x)), (5, .br false)] (m := 22) (js := [2, 3]) (vs := [.int .u64 0, .int .i64 3])
      (ob := [decide ((i : Int) < n) = true, (0 : Int) ≤ i ∧ (i : Int) < n, c[i * 1]? = some (.int .i64 x), decide (x ≥ 0) = false]) (by kernel_rfl)
      ⟨decide_eq_true (by omega), ⟨by omega, by omega⟩, by rw [Nat.mul_one]; exact hx, decide_eq_false h0⟩
theorem end36 (v : Value) (a n i : Int) (w : Nat → Value) (h1 : n ≤ i) :
    ∃ w', runW Tryd.prog env7 0 (.code ⟨36, none⟩ body36 (T36 v a n i w) []) (base0 4 tabs) = some (.done (.exit 0) (fillT 22 [(4, .int .u64 a)] w') [], base0 4 tabs) :=
  seg 100 [(0, .br false)] (m := 22) (js := [4]) (vs := [.int .u64 a]) (ob := [decide (i < n) = false]) (by kernel_rfl) (decide_eq_false (by omega))
theorem loop36 (l : List Int) (n g : Nat) (hl : l.length = n) (hn : n < 9223372036854775807) : ∀ (k i : Nat) (a : BitVec 64) (w : Nat → Value), i + k = n →
    ∃ w', runW Tryd.prog env7 0 (.code ⟨36, none⟩ (.loop body36) (T36 (L (zs l) n 1 g) (u a) n i w) []) (base0 4 tabs) =
      some (bif (l.drop i).all (fun n => inr n 64) then .done (.exit 0) (fillT 22 [(4, .int .u64 (u ((l.drop i).foldl (fun x n => x ||| 1#64 <<< n.toNat) a)))] w') [] else .done .ret (fillT 22 [(2, .int .u64 0), (3, .int .i64 3)] w') [], base0 4 tabs) := by
  intro k
  induction k with
  | zero =>
    intro i a w hi
    obtain ⟨w', h⟩ := end36 (L (zs l) n 1 g) (u a) n i w (by omega)
    refine ⟨w', ?_⟩
    rw [List.drop_of_length_le (by omega)]
    exact loop_out (by intro h; cases h) h
  | succ k ih =>
    intro i a w hi
    have hil : i < l.length := by omega
    have hx : (zs l)[i]? = some (.int .i64 l[i]) := by rw [zs_get, List.getElem?_eq_getElem hil]; rfl
    rw [List.drop_eq_getElem_cons hil]
    cases hr : inr l[i] 64 with
    | true =>
      have hr' := hr
      simp only [inr, Bool.and_eq_true, decide_eq_true_eq] at hr'
      obtain ⟨w1, h1⟩ := next36 (zs l) (u a) n g i l[i] w (by omega) hx hn hr'.1 hr'.2
      rw [bitS_u _ hr'.1 hr'.2, orS_u] at h1
      obtain ⟨w', h2⟩ := ih (i + 1) (a ||| 1#64 <<< (l[i]).toNat) w1 (by omega)
      refine ⟨w', ?_⟩
      rw [List.all_cons, hr, Bool.true_and, List.foldl_cons]
      exact loop_next h1 h2
    | false =>
      obtain ⟨w', h1⟩ := bad36 (zs l) (u a) n g i l[i] w (by omega) hx hr
      refine ⟨w', ?_⟩
      rw [List.all_cons, hr, Bool.false_and]
      exact loop_out (by intro h; cases h) h1
theorem p36_nil : Pure Tryd.prog 4 tabs 36 [.slice none 0 0] (.tuple #[.int .u64 0, .int .i64 0]) :=
  pureT t7_ok fns7 (n := 100) (v := .tuple #[.int .u64 0, .int .i64 0]) [] [] (by kernel_rfl) trivial rfl (PF_pair (.int _ _) (.int _ _))
theorem p36_l (l : List Int) (g : Nat) (hn : l.length < 9223372036854775807) : Pure Tryd.prog 4 tabs 36 [L (zs l) l.length 1 g] (ofV l) := by
  obtain ⟨w', h⟩ := loop36 l l.length g rfl hn l.length 0 0#64 (fun j => Go.Va.look [(0, L (zs l) l.length 1 g), (2, .int .u64 0), (3, .int .i64 0)] j undef) (by omega)
  rw [List.drop_zero] at h
  unfold ofV setOf
  cases hr : l.all (fun n => inr n 64) with
  | true =>
    rw [hr] at h
    exact pureT t7_ok fns7 (n := 100) (v := .tuple #[.int .u64 (u (l.foldl (fun x n => x ||| 1#64 <<< n.toNat) 0#64)), .int .i64 0])
      [(6, .skip (.done (.exit 0) (fillT 22 [(4, .int .u64 (u (l.foldl (fun x n => x ||| 1#64 <<< n.toNat) 0#64)))] w') []) (base0 4 tabs))] [_] (by kernel_rfl) h rfl (PF_pair (.int _ _) (.int _ _))
  | false =>
    rw [hr] at h
    exact pureT t7_ok fns7 (n := 100) (v := .tuple #[.int .u64 0, .int .i64 3])
      [(6, .skip (.done .ret (fillT 22 [(2, .int .u64 0), (3, .int .i64 3)] w') []) (base0 4 tabs))] [_] (by kernel_rfl) h rfl (PF_pair (.int _ _) (.int _ _))
noncomputable def k36 : List Value → Option Value
  | [a] => match zl a with
    | some l => some (ofV l)
    | none => none
  | _ => none
theorem p36 : KOk Tryd.prog 4 tabs 36 k36 := by
  intro args v h
  unfold k36 at h
  split at h
  · rename_i a
    split at h
    · rename_i l hl
      cases h
      rcases zl_spec hl with ⟨ea, el, _⟩ | ⟨g, _, ea, hb⟩
      · subst ea el; exact p36_nil
      · subst ea; exact p36_l l g (by omega)
    · cases h
  · cases h
end Go.Proofs.YtakchekhpeokjaaDoor
