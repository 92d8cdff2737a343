/-
  SQUARE (chapter 07): lists of numbers; slices.Equal.
-/
import Derived.Test.YtlbliaihfbnbkaaDoorD07p
namespace Go.Proofs.YtlbliaihfbnbkaaDoor
open Go.Va

/-- A list of numbers, as a value: nil, or a row that is not written any more. -/
def IsZ (v : Value) (l : List Int) : Prop := (v = .slice none 0 0 ∧ l = [] ∧ True) ∨ ∃ g, g ≤ 1 ∧ v = L (zs l) l.length 1 g ∧ l.length < 4611686018427387904
theorem asL_L' (c : List Value) (n e g : Nat) : asL (L c n e g) = some (c, n, e, g) := rfl
theorem zs_inj : ∀ {l m : List Int}, zs l = zs m → l = m
  | [], [], _ => rfl
  | [], _ :: _, h => by cases h
  | _ :: _, [], h => by cases h
  | a :: l, b :: m, h => by
    have h : Value.int .i64 a :: zs l = Value.int .i64 b :: zs m := h
    injection h with h1 h2
    injection h1 with _ h1
    rw [h1, zs_inj h2]
theorem IsZ.det {v : Value} {l m : List Int} (h : IsZ v l) (h' : IsZ v m) : l = m := by
  rcases h with ⟨e, hl, _⟩ | ⟨g, _, e, _⟩ <;> rcases h' with ⟨e', hm, _⟩ | ⟨g', _, e', _⟩
  · rw [hl, hm]
  · rw [e] at e'; cases e'
  · rw [e] at e'; cases e'
  · have : asL (L (zs l) l.length 1 g) = asL (L (zs m) m.length 1 g') := by rw [← e, ← e']
    rw [asL_L', asL_L'] at this
    exact zs_inj (Prod.mk.inj (Option.some.inj this)).1
open Classical in
noncomputable def zl (v : Value) : Option (List Int) := if h : ∃ l, IsZ v l then some (Classical.choose h) else none
theorem zl_eq {v : Value} {l : List Int} (h : IsZ v l) : zl v = some l := by
  have h' : ∃ l, IsZ v l := ⟨l, h⟩
  unfold zl
  rw [dif_pos h']
  exact congrArg some (IsZ.det (Classical.choose_spec h') h)
theorem zl_spec {v : Value} {l : List Int} (h : zl v = some l) : IsZ v l := by
  unfold zl at h
  split at h
  · rename_i h'
    cases h
    exact Classical.choose_spec h'
  · cases h

/-! ## slices.Equal -/

noncomputable def body16 : Code := codeOf Tryd.prog 27 [.r, .r, .l, .r, .b, .b]
def T16 (a b : Value) (n i : Int) (w : Nat → Value) : List Value := fillT 26 [(0, a), (1, b), (12, .int .i64 n), (13, .int .i64 i)] w
theorem next16 (c d : List Value) (n g g' : Nat) (i : Nat) (x : Int) (w : Nat → Value) (h1 : i < n) (hx : c[i]? = some (.int .i64 x)) (hy : d[i]? = some (.int .i64 x)) (hn : n < 9223372036854775807) :
    ∃ w', runW Tryd.prog envM 0 (.code ⟨27, none⟩ body16 (T16 (L c n 1 g) (L d n 1 g') n i w) []) (base0 3 []) = some (.done .normal (T16 (L c n 1 g) (L d n 1 g') n ((i + 1 : Nat) : Int) w') [], base0 3 []) := by
  have e : IntKind.i64.wrap ((i : Int) + 1) = ((i + 1 : Nat) : Int) := by rw [wrap64 (by omega) (by omega)]; rfl
  rw [← e]
  exact seg 100 [(0, .br true), (5, .ok), (0, .is (.int .i64 x)), (2, .ok), (0, .is (.int .i64 x)), (0, .br false)] (m := 26) (js := [0, 1, 12, 13]) (vs := [L c n 1 g, L d n 1 g', .int .i64 n, .int .i64 (IntKind.i64.wrap ((i : Int) + 1))])
    (ob := [decide ((i : Int) < n) = true, (0 : Int) ≤ i ∧ (i : Int) < n, c[i * 1]? = some (.int .i64 x), (0 : Int) ≤ i ∧ (i : Int) < n, d[i * 1]? = some (.int .i64 x), (x != x) = false]) (by kernel_rfl)
    ⟨decide_eq_true (by omega), ⟨by omega, by omega⟩, by rw [Nat.mul_one]; exact hx, ⟨by omega, by omega⟩, by rw [Nat.mul_one]; exact hy, bne_self_eq_false x⟩
theorem diff16 (c d : List Value) (n g g' : Nat) (i : Nat) (x y : Int) (w : Nat → Value) (h1 : i < n) (hx : c[i]? = some (.int .i64 x)) (hy : d[i]? = some (.int .i64 y)) (hxy : x ≠ y) :
    ∃ w', runW Tryd.prog envM 0 (.code ⟨27, none⟩ body16 (T16 (L c n 1 g) (L d n 1 g') n i w) []) (base0 3 []) = some (.done .ret (fillT 26 [(4, .bool false)] w') [], base0 3 []) :=
  seg 100 [(0, .br true), (5, .ok), (0, .is (.int .i64 x)), (2, .ok), (0, .is (.int .i64 y)), (0, .br true)] (m := 26) (js := [4]) (vs := [.bool false])
    (ob := [decide ((i : Int) < n) = true, (0 : Int) ≤ i ∧ (i : Int) < n, c[i * 1]? = some (.int .i64 x), (0 : Int) ≤ i ∧ (i : Int) < n, d[i * 1]? = some (.int .i64 y), (x != y) = true]) (by kernel_rfl)
    ⟨decide_eq_true (by omega), ⟨by omega, by omega⟩, by rw [Nat.mul_one]; exact hx, ⟨by omega, by omega⟩, by rw [Nat.mul_one]; exact hy, bne_iff_ne.2 hxy⟩
theorem end16 (a b : Value) (n i : Int) (w : Nat → Value) (h1 : n ≤ i) :
    ∃ w', runW Tryd.prog envM 0 (.code ⟨27, none⟩ body16 (T16 a b n i w) []) (base0 3 []) = some (.done (.exit 0) (fillT 26 [] w') [], base0 3 []) :=
  seg 100 [(0, .br false)] (m := 26) (js := []) (vs := []) (ob := [decide (i < n) = false]) (by kernel_rfl) (decide_eq_false (by omega))

theorem zs_get (l : List Int) (i : Nat) : (zs l)[i]? = (l[i]?).map fun n => Value.int .i64 n := by unfold zs; rw [List.getElem?_map]
/-- How the loop ends. -/
theorem loop16 (l m : List Int) (n g g' : Nat) (hl : l.length = n) (hm : m.length = n) (hn : n < 9223372036854775807) : ∀ (k i : Nat) (w : Nat → Value), i + k = n →
    ∃ w', runW Tryd.prog envM 0 (.code ⟨27, none⟩ (.loop body16) (T16 (L (zs l) n 1 g) (L (zs m) n 1 g') n i w) []) (base0 3 []) =
      some (bif l.drop i == m.drop i then .done (.exit 0) (fillT 26 [] w') [] else .done .ret (fillT 26 [(4, .bool false)] w') [], base0 3 []) := by
  intro k
  induction k with
  | zero =>
    intro i w hi
    rw [List.drop_of_length_le (by omega), List.drop_of_length_le (by omega)]
    obtain ⟨w', h⟩ := end16 (L (zs l) n 1 g) (L (zs m) n 1 g') n i w (by omega)
    exact ⟨w', loop_out (by intro h; cases h) h⟩
  | succ k ih =>
    intro i w hi
    have hil : i < l.length := by omega
    have him : i < m.length := by omega
    have hx : (zs l)[i]? = some (.int .i64 l[i]) := by rw [zs_get, List.getElem?_eq_getElem hil]; rfl
    have hy : (zs m)[i]? = some (.int .i64 m[i]) := by rw [zs_get, List.getElem?_eq_getElem him]; rfl
    rw [List.drop_eq_getElem_cons hil, List.drop_eq_getElem_cons him]
    by_cases h : l[i] = m[i]
    · rw [← h] at hy
      obtain ⟨w1, h1⟩ := next16 (zs l) (zs m) n g g' i l[i] w (by omega) hx hy hn
      obtain ⟨w', h2⟩ := ih (i + 1) w1 (by omega)
      refine ⟨w', ?_⟩
      rw [show (l[i] :: l.drop (i + 1) == m[i] :: m.drop (i + 1)) = (l.drop (i + 1) == m.drop (i + 1)) by rw [List.cons_beq_cons, h, beq_self_eq_true, Bool.true_and]]
      exact loop_next h1 h2
    · obtain ⟨w', h1⟩ := diff16 (zs l) (zs m) n g g' i l[i] m[i] w (by omega) hx hy h
      refine ⟨w', ?_⟩
      rw [show (l[i] :: l.drop (i + 1) == m[i] :: m.drop (i + 1)) = false by rw [List.cons_beq_cons, beq_eq_false_iff_ne.2 h, Bool.false_and]]
      exact loop_out (by intro h; cases h) h1
theorem p27_nn : Pure Tryd.prog 3 [] 27 [.slice none 0 0, .slice none 0 0] (.bool true) :=
  pureT t2_ok fnsM (n := 100) (v := .bool true) [] [] (by kernel_rfl) trivial rfl (.bool true)
theorem p27_nl (c : List Value) (n g : Nat) : Pure Tryd.prog 3 [] 27 [.slice none 0 0, L c n 1 g] (.bool (decide (n = 0))) := by
  by_cases h : n = 0
  · rw [decide_eq_true h]
    exact pureT t2_ok fnsM (n := 100) (v := .bool true) [(5, .br false)] [((0 : Int) != n) = false] (by kernel_rfl) (by subst h; rfl) rfl (.bool true)
  · rw [decide_eq_false h]
    exact pureT t2_ok fnsM (n := 100) (v := .bool false) [(5, .br true)] [((0 : Int) != n) = true] (by kernel_rfl) (by simp [All]; omega) rfl (.bool false)
theorem p27_ln (c : List Value) (n g : Nat) : Pure Tryd.prog 3 [] 27 [L c n 1 g, .slice none 0 0] (.bool (decide (n = 0))) := by
  by_cases h : n = 0
  · rw [decide_eq_true h]
    subst h
    exact pureT t2_ok fnsM (n := 100) (v := .bool true) [] [] (by kernel_rfl) trivial rfl (.bool true)
  · rw [decide_eq_false h]
    exact pureT t2_ok fnsM (n := 100) (v := .bool false) [(5, .br true)] [((n : Int) != 0) = true] (by kernel_rfl) (by simp [All]; omega) rfl (.bool false)
theorem p27_ll (l m : List Int) (g g' : Nat) (hn : l.length < 9223372036854775807) : Pure Tryd.prog 3 [] 27 [L (zs l) l.length 1 g, L (zs m) m.length 1 g'] (.bool (l == m)) := by
  by_cases hm : m.length = l.length
  · obtain ⟨w', h⟩ := loop16 l m l.length g g' rfl hm hn l.length 0 (fun j => Go.Va.look [(4, .bool false), (6, L (zs l) l.length 1 g), (7, .int .i64 l.length), (8, L (zs m) l.length 1 g'), (9, .int .i64 l.length), (10, .bool false), (11, L (zs l) l.length 1 g)] j undef) (by omega)
    rw [hm]
    rw [List.drop_zero, List.drop_zero] at h
    cases e : l == m with
    | true =>
      rw [e] at h
      exact pureT t2_ok fnsM (n := 100) (v := .bool true) [(5, .br false), (4, .skip (.done (.exit 0) (fillT 26 [] w') []) (base0 3 []))] [((l.length : Int) != l.length) = false, _] (by kernel_rfl) ⟨bne_self_eq_false _, h⟩ rfl (.bool true)
    | false =>
      rw [e] at h
      exact pureT t2_ok fnsM (n := 100) (v := .bool false) [(5, .br false), (4, .skip (.done .ret (fillT 26 [(4, .bool false)] w') []) (base0 3 []))] [((l.length : Int) != l.length) = false, _] (by kernel_rfl) ⟨bne_self_eq_false _, h⟩ rfl (.bool false)
  · rw [show (l == m) = false from beq_eq_false_iff_ne.2 fun e => hm (by rw [e])]
    exact pureT t2_ok fnsM (n := 100) (v := .bool false) [(5, .br true)] [((l.length : Int) != m.length) = true] (by kernel_rfl) (by simp [All]; omega) rfl (.bool false)

noncomputable def k27 : List Value → Option Value
  | [a, b] => match zl a, zl b with
    | some l, some m => some (.bool (l == m))
    | _, _ => none
  | _ => none
theorem p27 : KOk Tryd.prog 3 [] 27 k27 := by
  intro args v h
  unfold k27 at h
  split at h
  · rename_i a b
    split at h
    · rename_i l m hl hm
      cases h
      rcases zl_spec hl with ⟨ea, el, _⟩ | ⟨g, _, ea, hb⟩ <;> rcases zl_spec hm with ⟨eb, em, _⟩ | ⟨g', _, eb, hb'⟩
      · subst ea el eb em; exact p27_nn
      · subst ea el eb
        have := p27_nl (zs m) m.length g'
        cases m <;> exact this
      · subst ea eb em
        have := p27_ln (zs l) l.length g
        cases l <;> exact this
      · subst ea eb; exact p27_ll l m g g' (by omega)
    · cases h
  · cases h
theorem k27_eq {a b : Value} {l m : List Int} (ha : IsZ a l) (hb : IsZ b m) : k27 [a, b] = some (.bool (l == m)) := by
  unfold k27; dsimp only; rw [zl_eq ha, zl_eq hb]
end Go.Proofs.YtlbliaihfbnbkaaDoor
