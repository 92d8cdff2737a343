/-
  SUPERBLOCK (chapter 36): the document's Same over any table (for slices of no byte that have a place, which no replaced function takes).
-/
import Derived.Test.YtcjjlajpbakaoaaGreatDoorD36aw
namespace Go.Proofs.YtcjjlajpbakaoaaGreatDoor
open Go.Va

theorem next27T (T : Ktab) (σ : AS) (c d : List Value) (n g g' : Nat) (i : Nat) (x : Int) (w : Nat → Value) (h1 : i < n) (hx : c[i]? = some (.int .u8 x)) (hy : d[i]? = some (.int .u8 x)) (hn : n < 9223372036854775807) :
    ∃ w', runW Tryz.prog (envT T) 0 (.code ⟨27, none⟩ body27 (T27 (L c n 1 g) (L d n 1 g') i w) []) σ = some (.done .normal (T27 (L c n 1 g) (L d n 1 g') ((i + 1 : Nat) : Int) w') [], σ) := by
  have e : IntKind.i64.wrap ((i : Int) + 1) = ((i + 1 : Nat) : Int) := by rw [wrap64 (by omega) (by omega)]; rfl
  rw [← e]
  exact seg 100 [(4, .br true), (2, .ok), (0, .is (.int .u8 x)), (2, .ok), (0, .is (.int .u8 x)), (1, .br false)] (m := 26) (js := [0, 1, 5]) (vs := [L c n 1 g, L d n 1 g', .int .i64 (IntKind.i64.wrap ((i : Int) + 1))])
    (ob := [decide ((i : Int) < n) = true, (0 : Int) ≤ i ∧ (i : Int) < n, c[i * 1]? = some (.int .u8 x), (0 : Int) ≤ i ∧ (i : Int) < n, d[i * 1]? = some (.int .u8 x), (x != x) = false]) (by kernel_rfl)
    ⟨decide_eq_true (by omega), ⟨by omega, by omega⟩, by rw [Nat.mul_one]; exact hx, ⟨by omega, by omega⟩, by rw [Nat.mul_one]; exact hy, bne_self_eq_false x⟩
theorem diff27T (T : Ktab) (σ : AS) (c d : List Value) (n g g' : Nat) (i : Nat) (x y : Int) (w : Nat → Value) (h1 : i < n) (hx : c[i]? = some (.int .u8 x)) (hy : d[i]? = some (.int .u8 y)) (hxy : x ≠ y) :
    ∃ w', runW Tryz.prog (envT T) 0 (.code ⟨27, none⟩ body27 (T27 (L c n 1 g) (L d n 1 g') i w) []) σ = some (.done .ret (fillT 26 [(4, .bool false)] w') [], σ) :=
  seg 100 [(4, .br true), (2, .ok), (0, .is (.int .u8 x)), (2, .ok), (0, .is (.int .u8 y)), (1, .br true)] (m := 26) (js := [4]) (vs := [.bool false])
    (ob := [decide ((i : Int) < n) = true, (0 : Int) ≤ i ∧ (i : Int) < n, c[i * 1]? = some (.int .u8 x), (0 : Int) ≤ i ∧ (i : Int) < n, d[i * 1]? = some (.int .u8 y), (x != y) = true]) (by kernel_rfl)
    ⟨decide_eq_true (by omega), ⟨by omega, by omega⟩, by rw [Nat.mul_one]; exact hx, ⟨by omega, by omega⟩, by rw [Nat.mul_one]; exact hy, bne_iff_ne.2 hxy⟩
theorem end27T (T : Ktab) (σ : AS) (c d : List Value) (n g g' : Nat) (i : Int) (w : Nat → Value) (h1 : n ≤ i) :
    ∃ w', runW Tryz.prog (envT T) 0 (.code ⟨27, none⟩ body27 (T27 (L c n 1 g) (L d n 1 g') i w) []) σ = some (.done (.exit 0) (fillT 26 [] w') [], σ) :=
  seg 100 [(4, .br false)] (m := 26) (js := []) (vs := []) (ob := [decide (i < n) = false]) (by kernel_rfl) (decide_eq_false (by omega))
theorem loop27T (T : Ktab) (σ : AS) (l m : List UInt8) (n g g' : Nat) (hl : l.length = n) (hm : m.length = n) (hn : n < 9223372036854775807) : ∀ (k i : Nat) (w : Nat → Value), i + k = n →
    ∃ w', runW Tryz.prog (envT T) 0 (.code ⟨27, none⟩ (.loop body27) (T27 (L (bys l) n 1 g) (L (bys m) n 1 g') i w) []) σ =
      some (bif l.drop i == m.drop i then .done (.exit 0) (fillT 26 [] w') [] else .done .ret (fillT 26 [(4, .bool false)] w') [], σ) := by
  intro k
  induction k with
  | zero =>
    intro i w hi
    rw [List.drop_of_length_le (by omega), List.drop_of_length_le (by omega)]
    obtain ⟨w', h⟩ := end27T T σ (bys l) (bys m) n g g' i w (by omega)
    exact ⟨w', loop_out (by intro h; cases h) h⟩
  | succ k ih =>
    intro i w hi
    have hil : i < l.length := by omega
    have him : i < m.length := by omega
    have hx : (bys l)[i]? = some (.int .u8 l[i].toNat) := by rw [bys_get, List.getElem?_eq_getElem hil]; rfl
    have hy : (bys m)[i]? = some (.int .u8 m[i].toNat) := by rw [bys_get, List.getElem?_eq_getElem him]; rfl
    rw [List.drop_eq_getElem_cons hil, List.drop_eq_getElem_cons him]
    by_cases h : l[i] = m[i]
    · rw [← h] at hy
      obtain ⟨w1, h1⟩ := next27T T σ (bys l) (bys m) n g g' i l[i].toNat w (by omega) hx hy hn
      obtain ⟨w', h2⟩ := ih (i + 1) w1 (by omega)
      refine ⟨w', ?_⟩
      rw [show (l[i] :: l.drop (i + 1) == m[i] :: m.drop (i + 1)) = (l.drop (i + 1) == m.drop (i + 1)) by rw [List.cons_beq_cons, h, beq_self_eq_true, Bool.true_and]]
      exact loop_next h1 h2
    · obtain ⟨w', h1⟩ := diff27T T σ (bys l) (bys m) n g g' i l[i].toNat m[i].toNat w (by omega) hx hy (fun e => h (UInt8.toNat_inj.1 (Int.ofNat.inj e)))
      refine ⟨w', ?_⟩
      rw [show (l[i] :: l.drop (i + 1) == m[i] :: m.drop (i + 1)) = false by rw [List.cons_beq_cons, beq_eq_false_iff_ne.2 h, Bool.false_and]]
      exact loop_out (by intro h; cases h) h1

end Go.Proofs.YtcjjlajpbakaoaaGreatDoor
