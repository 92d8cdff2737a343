/-
  SUPERBLOCK (chapter 36): slices.Equal of lists of bytes.
-/
import Derived.Test.YtcjjlajpbakaoaaGreatDoorD36v
namespace Go.Proofs.YtcjjlajpbakaoaaGreatDoor
open Go.Va

noncomputable def body111 : Code := codeOf Tryz.prog 111 [.r, .r, .l, .r, .b, .b]
def T111 (a b : Value) (n i : Int) (w : Nat → Value) : List Value := fillT 26 [(0, a), (1, b), (12, .int .i64 n), (13, .int .i64 i)] w
theorem next111 (c d : List Value) (n g g' : Nat) (i : Nat) (x : Int) (w : Nat → Value) (h1 : i < n) (hx : c[i]? = some (.int .u8 x)) (hy : d[i]? = some (.int .u8 x)) (hn : n < 9223372036854775807) :
    ∃ w', runW Tryz.prog (envT t13) 0 (.code ⟨111, none⟩ body111 (T111 (L c n 1 g) (L d n 1 g') n i w) []) (base0 9 tabs) = some (.done .normal (T111 (L c n 1 g) (L d n 1 g') n ((i + 1 : Nat) : Int) w') [], base0 9 tabs) := by
  have e : IntKind.i64.wrap ((i : Int) + 1) = ((i + 1 : Nat) : Int) := by rw [wrap64 (by omega) (by omega)]; rfl
  rw [← e]
  exact seg 100 [(0, .br true), (5, .ok), (0, .is (.int .u8 x)), (2, .ok), (0, .is (.int .u8 x)), (0, .br false)] (m := 26) (js := [0, 1, 12, 13]) (vs := [L c n 1 g, L d n 1 g', .int .i64 n, .int .i64 (IntKind.i64.wrap ((i : Int) + 1))])
    (ob := [decide ((i : Int) < n) = true, (0 : Int) ≤ i ∧ (i : Int) < n, c[i * 1]? = some (.int .u8 x), (0 : Int) ≤ i ∧ (i : Int) < n, d[i * 1]? = some (.int .u8 x), (x != x) = false]) (by kernel_rfl)
    ⟨decide_eq_true (by omega), ⟨by omega, by omega⟩, by rw [Nat.mul_one]; exact hx, ⟨by omega, by omega⟩, by rw [Nat.mul_one]; exact hy, bne_self_eq_false x⟩
theorem diff111 (c d : List Value) (n g g' : Nat) (i : Nat) (x y : Int) (w : Nat → Value) (h1 : i < n) (hx : c[i]? = some (.int .u8 x)) (hy : d[i]? = some (.int .u8 y)) (hxy : x ≠ y) :
    ∃ w', runW Tryz.prog (envT t13) 0 (.code ⟨111, none⟩ body111 (T111 (L c n 1 g) (L d n 1 g') n i w) []) (base0 9 tabs) = some (.done .ret (fillT 26 [(4, .bool false)] w') [], base0 9 tabs) :=
  seg 100 [(0, .br true), (5, .ok), (0, .is (.int .u8 x)), (2, .ok), (0, .is (.int .u8 y)), (0, .br true)] (m := 26) (js := [4]) (vs := [.bool false])
    (ob := [decide ((i : Int) < n) = true, (0 : Int) ≤ i ∧ (i : Int) < n, c[i * 1]? = some (.int .u8 x), (0 : Int) ≤ i ∧ (i : Int) < n, d[i * 1]? = some (.int .u8 y), (x != y) = true]) (by kernel_rfl)
    ⟨decide_eq_true (by omega), ⟨by omega, by omega⟩, by rw [Nat.mul_one]; exact hx, ⟨by omega, by omega⟩, by rw [Nat.mul_one]; exact hy, bne_iff_ne.2 hxy⟩
theorem end111 (a b : Value) (n i : Int) (w : Nat → Value) (h1 : n ≤ i) :
    ∃ w', runW Tryz.prog (envT t13) 0 (.code ⟨111, none⟩ body111 (T111 a b n i w) []) (base0 9 tabs) = some (.done (.exit 0) (fillT 26 [] w') [], base0 9 tabs) :=
  seg 100 [(0, .br false)] (m := 26) (js := []) (vs := []) (ob := [decide (i < n) = false]) (by kernel_rfl) (decide_eq_false (by omega))

theorem bys_get (l : List UInt8) (i : Nat) : (bys l)[i]? = (l[i]?).map fun n => Value.int .u8 n.toNat := by unfold bys; rw [List.getElem?_map]
/-- How the loop ends. -/
theorem loop111 (l m : List UInt8) (n g g' : Nat) (hl : l.length = n) (hm : m.length = n) (hn : n < 9223372036854775807) : ∀ (k i : Nat) (w : Nat → Value), i + k = n →
    ∃ w', runW Tryz.prog (envT t13) 0 (.code ⟨111, none⟩ (.loop body111) (T111 (L (bys l) n 1 g) (L (bys m) n 1 g') n i w) []) (base0 9 tabs) =
      some (bif l.drop i == m.drop i then .done (.exit 0) (fillT 26 [] w') [] else .done .ret (fillT 26 [(4, .bool false)] w') [], base0 9 tabs) := by
  intro k
  induction k with
  | zero =>
    intro i w hi
    rw [List.drop_of_length_le (by omega), List.drop_of_length_le (by omega)]
    obtain ⟨w', h⟩ := end111 (L (bys l) n 1 g) (L (bys m) n 1 g') n i w (by omega)
    exact ⟨w', loop_out (by intro h; cases h) h⟩
  | succ k ih =>
    intro i w hi
    have hil : i < l.length := by omega
    have him : i < m.length := by omega
    have hx : (bys l)[i]? = some (.int .u8 l[i].toNat) := by rw [bys_get, List.getElem?_eq_getElem hil]; rfl
    have hy : (bys m)[i]? = some (.int .u8 m[i].toNat) := by rw [bys_get, List.getElem?_eq_getElem him]; rfl
    rw [List.drop_eq_getElem_cons hil, List.drop_eq_getElem_cons him]
    by_cases h : l[i] = m[i]
    · rw [← h] at hy
      obtain ⟨w1, h1⟩ := next111 (bys l) (bys m) n g g' i l[i].toNat w (by omega) hx hy hn
      obtain ⟨w', h2⟩ := ih (i + 1) w1 (by omega)
      refine ⟨w', ?_⟩
      rw [show (l[i] :: l.drop (i + 1) == m[i] :: m.drop (i + 1)) = (l.drop (i + 1) == m.drop (i + 1)) by rw [List.cons_beq_cons, h, beq_self_eq_true, Bool.true_and]]
      exact loop_next h1 h2
    · obtain ⟨w', h1⟩ := diff111 (bys l) (bys m) n g g' i l[i].toNat m[i].toNat w (by omega) hx hy (fun e => h (UInt8.toNat_inj.1 (Int.ofNat.inj e)))
      refine ⟨w', ?_⟩
      rw [show (l[i] :: l.drop (i + 1) == m[i] :: m.drop (i + 1)) = false by rw [List.cons_beq_cons, beq_eq_false_iff_ne.2 h, Bool.false_and]]
      exact loop_out (by intro h; cases h) h1
theorem p111_nn : Pure Tryz.prog 9 tabs 111 [.slice none 0 0, .slice none 0 0] (.bool true) :=
  pureT t13_ok (n := 100) (v := .bool true) [] [] (by kernel_rfl) trivial rfl (.bool true)
theorem p111_nl (c : List Value) (n g : Nat) : Pure Tryz.prog 9 tabs 111 [.slice none 0 0, L c n 1 g] (.bool (decide (n = 0))) := by
  by_cases h : n = 0
  · rw [decide_eq_true h]
    exact pureT t13_ok (n := 100) (v := .bool true) [(5, .br false)] [((0 : Int) != n) = false] (by kernel_rfl) (by subst h; rfl) rfl (.bool true)
  · rw [decide_eq_false h]
    exact pureT t13_ok (n := 100) (v := .bool false) [(5, .br true)] [((0 : Int) != n) = true] (by kernel_rfl) (by simp [All]; omega) rfl (.bool false)
theorem p111_ln (c : List Value) (n g : Nat) : Pure Tryz.prog 9 tabs 111 [L c n 1 g, .slice none 0 0] (.bool (decide (n = 0))) := by
  by_cases h : n = 0
  · rw [decide_eq_true h]
    subst h
    exact pureT t13_ok (n := 100) (v := .bool true) [] [] (by kernel_rfl) trivial rfl (.bool true)
  · rw [decide_eq_false h]
    exact pureT t13_ok (n := 100) (v := .bool false) [(5, .br true)] [((n : Int) != 0) = true] (by kernel_rfl) (by simp [All]; omega) rfl (.bool false)
theorem p111_ll (l m : List UInt8) (g g' : Nat) (hn : l.length < 9223372036854775807) : Pure Tryz.prog 9 tabs 111 [L (bys l) l.length 1 g, L (bys m) m.length 1 g'] (.bool (l == m)) := by
  by_cases hm : m.length = l.length
  · obtain ⟨w', h⟩ := loop111 l m l.length g g' rfl hm hn l.length 0 (fun j => Go.Va.look [(4, .bool false), (6, L (bys l) l.length 1 g), (7, .int .i64 l.length), (8, L (bys m) l.length 1 g'), (9, .int .i64 l.length), (10, .bool false), (11, L (bys l) l.length 1 g)] j undef) (by omega)
    rw [hm]
    rw [List.drop_zero, List.drop_zero] at h
    cases e : l == m with
    | true =>
      rw [e] at h
      exact pureT t13_ok (n := 100) (v := .bool true) [(5, .br false), (4, .skip (.done (.exit 0) (fillT 26 [] w') []) (base0 9 tabs))] [((l.length : Int) != l.length) = false, _] (by kernel_rfl) ⟨bne_self_eq_false _, h⟩ rfl (.bool true)
    | false =>
      rw [e] at h
      exact pureT t13_ok (n := 100) (v := .bool false) [(5, .br false), (4, .skip (.done .ret (fillT 26 [(4, .bool false)] w') []) (base0 9 tabs))] [((l.length : Int) != l.length) = false, _] (by kernel_rfl) ⟨bne_self_eq_false _, h⟩ rfl (.bool false)
  · rw [show (l == m) = false from beq_eq_false_iff_ne.2 fun e => hm (by rw [e])]
    exact pureT t13_ok (n := 100) (v := .bool false) [(5, .br true)] [((l.length : Int) != m.length) = true] (by kernel_rfl) (by simp [All]; omega) rfl (.bool false)


end Go.Proofs.YtcjjlajpbakaoaaGreatDoor
