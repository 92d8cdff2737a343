/-
  BITBOARD (chapter 05): the document's Of.
-/
import Derived.Test.YtakchekhpeokjaaDoorD05rb
namespace Go.Proofs.YtakchekhpeokjaaDoor
open Go.Va

noncomputable def body43 : Code := codeOf Tryd.prog 43 [.r, .r, .l, .r, .b, .b]
def T43 (v : Value) (a i : Int) (w : Nat → Value) : List Value := fillT 34 [(0, v), (4, .int .u64 a), (5, .int .i64 i)] w
def bitW (x : Int) : Int := bitS (IntKind.u64.wrap x)
theorem has43 (c : List Value) (a : Int) (n g i : Nat) (x : Int) (w : Nat → Value) (h1 : i < n) (hx : c[i]? = some (.int .i64 x)) (hx0 : decide (x ≥ 0) = true) (hx1 : decide (x < 64) = true) (hh : ∀ σ, env9.ov 23 [.int .u64 a, .int .i64 x] 0 σ = some (.bool true, σ)) :
    ∃ w', runW Tryd.prog env9 0 (.code ⟨43, none⟩ body43 (T43 (L c n 1 g) a i w) []) (base0 4 tabs) = some (.done .normal (T43 (L c n 1 g) a (IntKind.i64.wrap ((i : Int) + 1)) w') [], base0 4 tabs) :=
  seg 100 [(3, .br true), (3, .ok), (0, .is (.int .i64 x)), (3, .br true), (2, .br true), (7, .ok), (0, .is (.int .i64 x)), (0, .ov (.bool true))] (m := 34) (js := [0, 4, 5]) (vs := [L c n 1 g, .int .u64 a, .int .i64 (IntKind.i64.wrap ((i : Int) + 1))])
    (ob := [decide ((i : Int) < n) = true, (0 : Int) ≤ i ∧ (i : Int) < n, c[i * 1]? = some (.int .i64 x), decide (x ≥ 0) = true, decide (x < 64) = true, (0 : Int) ≤ i ∧ (i : Int) < n, c[i * 1]? = some (.int .i64 x), (∀ σ, env9.ov 23 [.int .u64 a, .int .i64 x] 0 σ = some (.bool true, σ))]) (by kernel_rfl)
    ⟨decide_eq_true (by omega), ⟨by omega, by omega⟩, by rw [Nat.mul_one]; exact hx, hx0, hx1, ⟨by omega, by omega⟩, by rw [Nat.mul_one]; exact hx, hh⟩
theorem add43 (c : List Value) (a : Int) (n g i : Nat) (x : Int) (w : Nat → Value) (h1 : i < n) (hx : c[i]? = some (.int .i64 x)) (hx0 : decide (x ≥ 0) = true) (hx1 : decide (x < 64) = true) (hh : ∀ σ, env9.ov 23 [.int .u64 a, .int .i64 x] 0 σ = some (.bool false, σ)) (hw : 0 ≤ IntKind.u64.wrap x) :
    ∃ w', runW Tryd.prog env9 0 (.code ⟨43, none⟩ body43 (T43 (L c n 1 g) a i w) []) (base0 4 tabs) = some (.done .normal (T43 (L c n 1 g) (addS a (bitW x)) (IntKind.i64.wrap ((i : Int) + 1)) w') [], base0 4 tabs) :=
  seg 100 [(3, .br true), (3, .ok), (0, .is (.int .i64 x)), (3, .br true), (2, .br true), (7, .ok), (0, .is (.int .i64 x)), (0, .ov (.bool false)), (5, .ok), (0, .is (.int .i64 x)), (1, .ok)] (m := 34) (js := [0, 4, 5]) (vs := [L c n 1 g, .int .u64 (addS a (bitW x)), .int .i64 (IntKind.i64.wrap ((i : Int) + 1))])
    (ob := [decide ((i : Int) < n) = true, (0 : Int) ≤ i ∧ (i : Int) < n, c[i * 1]? = some (.int .i64 x), decide (x ≥ 0) = true, decide (x < 64) = true, (0 : Int) ≤ i ∧ (i : Int) < n, c[i * 1]? = some (.int .i64 x), (∀ σ, env9.ov 23 [.int .u64 a, .int .i64 x] 0 σ = some (.bool false, σ)),
      (0 : Int) ≤ i ∧ (i : Int) < n, c[i * 1]? = some (.int .i64 x), 0 ≤ IntKind.u64.wrap x]) (by kernel_rfl)
    ⟨decide_eq_true (by omega), ⟨by omega, by omega⟩, by rw [Nat.mul_one]; exact hx, hx0, hx1, ⟨by omega, by omega⟩, by rw [Nat.mul_one]; exact hx, hh, ⟨by omega, by omega⟩, by rw [Nat.mul_one]; exact hx, hw⟩
theorem bad43 (c : List Value) (a : Int) (n g i : Nat) (x : Int) (w : Nat → Value) (h1 : i < n) (hx : c[i]? = some (.int .i64 x)) (hr : inr x 64 = false) :
    ∃ w', runW Tryd.prog env9 0 (.code ⟨43, none⟩ body43 (T43 (L c n 1 g) a i w) []) (base0 4 tabs) = some (.done .ret (fillT 34 [(2, .int .u64 0), (3, .int .i64 3)] w') [], base0 4 tabs) := by
  by_cases h0 : 0 ≤ x
  · have hx1 : ¬ x < 64 := fun h => by rw [inr_true h0 h] at hr; cases hr
    exact seg 100 [(3, .br true), (3, .ok), (0, .is (.int .i64 x)), (3, .br true), (2, .br false)] (m := 34) (js := [2, 3]) (vs := [.int .u64 0, .int .i64 3])
      (ob := [decide ((i : Int) < n) = true, (0 : Int) ≤ i ∧ (i : Int) < n, c[i * 1]? = some (.int .i64 x), decide (x ≥ 0) = true, decide (x < 64) = false]) (by kernel_rfl)
      ⟨decide_eq_true (by omega), ⟨by omega, by omega⟩, by rw [Nat.mul_one]; exact hx, decide_eq_true h0, decide_eq_false hx1⟩
  · exact seg 100 [(3, .br true), (3, .ok), (0, .is (.int .i64 x)), (3, .br false)] (m := 34) (js := [2, 3]) (vs := [.int .u64 0, .int .i64 3])
      (ob := [decide ((i : Int) < n) = true, (0 : Int) ≤ i ∧ (i : Int) < n, c[i * 1]? = some (.int .i64 x), decide (x ≥ 0) = false]) (by kernel_rfl)
      ⟨decide_eq_true (by omega), ⟨by omega, by omega⟩, by rw [Nat.mul_one]; exact hx, decide_eq_false h0⟩
theorem end43 (c : List Value) (n g : Nat) (a i : Int) (w : Nat → Value) (h1 : (n : Int) ≤ i) :
    ∃ w', runW Tryd.prog env9 0 (.code ⟨43, none⟩ body43 (T43 (L c n 1 g) a i w) []) (base0 4 tabs) = some (.done (.exit 0) (fillT 34 [(4, .int .u64 a)] w') [], base0 4 tabs) :=
  seg 100 [(3, .br false)] (m := 34) (js := [4]) (vs := [.int .u64 a]) (ob := [decide (i < n) = false]) (by kernel_rfl) (decide_eq_false (by omega))
theorem add_bit (a : BitVec 64) (i : Nat) (hi : i < 64) (h : a.getLsbD i = false) : a + 1#64 <<< i = a ||| 1#64 <<< i := by
  refine BitVec.add_eq_or_of_and_eq_zero _ _ (BitVec.eq_of_getLsbD_eq fun j hj => ?_)
  rw [BitVec.getLsbD_and, BitVec.getLsbD_shiftLeft, BitVec.getLsbD_one]
  by_cases e : j = i
  · subst e; rw [h]; simp
  · by_cases h2 : j < i
    · simp [h2]
    · have h3 : j - i ≠ 0 := by omega
      simp [h3]
theorem has_bit (a : BitVec 64) (i : Nat) (h : a.getLsbD i = true) : a ||| 1#64 <<< i = a := by
  refine BitVec.eq_of_getLsbD_eq fun j hj => ?_
  rw [BitVec.getLsbD_or, BitVec.getLsbD_shiftLeft, BitVec.getLsbD_one]
  by_cases e : j = i
  · subst e; rw [h]; simp
  · by_cases h2 : j < i
    · simp [h2]
    · have h3 : j - i ≠ 0 := by omega
      simp [h3]
theorem loop43 (l : List Int) (n g : Nat) (hl : l.length = n) (hn : n < 9223372036854775807) : ∀ (k i : Nat) (a : BitVec 64) (w : Nat → Value), i + k = n →
    ∃ w', runW Tryd.prog env9 0 (.code ⟨43, none⟩ (.loop body43) (T43 (L (zs l) n 1 g) (u a) i w) []) (base0 4 tabs) =
      some (bif (l.drop i).all (fun n => inr n 64) then .done (.exit 0) (fillT 34 [(4, .int .u64 (u ((l.drop i).foldl (fun x n => x ||| 1#64 <<< n.toNat) a)))] w') [] else .done .ret (fillT 34 [(2, .int .u64 0), (3, .int .i64 3)] w') [], base0 4 tabs) := by
  intro k
  induction k with
  | zero =>
    intro i a w hi
    obtain ⟨w', h⟩ := end43 (zs l) n g (u a) i w (by omega)
    refine ⟨w', ?_⟩
    rw [List.drop_of_length_le (by omega)]
    exact loop_out (by intro h; cases h) h
  | succ k ih =>
    intro i a w hi
    have hil : i < l.length := by omega
    have hx : (zs l)[i]? = some (.int .i64 l[i]) := by rw [zs_get, List.getElem?_eq_getElem hil]; rfl
    have e1 : IntKind.i64.wrap ((i : Int) + 1) = ((i + 1 : Nat) : Int) := by rw [wrap64 (by omega) (by omega)]; rfl
    rw [List.drop_eq_getElem_cons hil]
    cases hr : inr l[i] 64 with
    | true =>
      have hr' := hr
      simp only [inr, Bool.and_eq_true, decide_eq_true_eq] at hr'
      obtain ⟨j, hj⟩ : ∃ j : Nat, l[i] = (j : Int) := ⟨(l[i]).toNat, by omega⟩
      have hj64 : j < 64 := by omega
      have hh : ∀ σ, env9.ov 23 [.int .u64 (u a), .int .i64 l[i]] 0 σ = some (.bool (a.getLsbD j), σ) := fun σ => by
        rw [ov9_23, hasS_u a _ hr'.1 hr'.2, hj, Int.toNat_natCast]
      rw [List.all_cons, hr, Bool.true_and, List.foldl_cons]
      cases hb : a.getLsbD j with
      | true =>
        rw [hb] at hh
        obtain ⟨w1, h1⟩ := has43 (zs l) (u a) n g i l[i] w (by omega) hx (decide_eq_true hr'.1) (decide_eq_true hr'.2) hh
        rw [e1] at h1
        obtain ⟨w', h2⟩ := ih (i + 1) a w1 (by omega)
        refine ⟨w', ?_⟩
        rw [hj, Int.toNat_natCast, has_bit a j hb]
        exact loop_next h1 h2
      | false =>
        rw [hb] at hh
        have ew : IntKind.u64.wrap l[i] = l[i] := wrap_fits .u64 (by show (0 : Int) ≤ _; omega) (by show l[i] ≤ 18446744073709551615; omega)
        obtain ⟨w1, h1⟩ := add43 (zs l) (u a) n g i l[i] w (by omega) hx (decide_eq_true hr'.1) (decide_eq_true hr'.2) hh (by rw [ew]; exact hr'.1)
        rw [e1] at h1
        unfold bitW at h1
        rw [ew, bitS_u _ hr'.1 hr'.2, addS_u, hj, Int.toNat_natCast, add_bit a j hj64 hb] at h1
        obtain ⟨w', h2⟩ := ih (i + 1) (a ||| 1#64 <<< j) w1 (by omega)
        refine ⟨w', ?_⟩
        rw [hj, Int.toNat_natCast]
        exact loop_next h1 h2
    | false =>
      obtain ⟨w', h1⟩ := bad43 (zs l) (u a) n g i l[i] w (by omega) hx hr
      refine ⟨w', ?_⟩
      rw [List.all_cons, hr, Bool.false_and]
      exact loop_out (by intro h; cases h) h1
theorem p43_nil : Pure Tryd.prog 4 tabs 43 [.slice none 0 0] (.tuple #[.int .u64 0, .int .i64 0]) :=
  pureT t9_ok fns9 (n := 100) (v := .tuple #[.int .u64 0, .int .i64 0]) [] [] (by kernel_rfl) trivial rfl (PF_pair (.int _ _) (.int _ _))
theorem p43_l (l : List Int) (g : Nat) (hn : l.length < 9223372036854775807) : Pure Tryd.prog 4 tabs 43 [L (zs l) l.length 1 g] (ofV l) := by
  obtain ⟨w', h⟩ := loop43 l l.length g rfl hn l.length 0 0#64 (fun j => Go.Va.look [(2, .int .u64 0), (3, .int .i64 0)] j undef) (by omega)
  rw [List.drop_zero] at h
  unfold ofV setOf
  cases hr : l.all (fun n => inr n 64) with
  | true =>
    rw [hr] at h
    exact pureT t9_ok fns9 (n := 100) (v := .tuple #[.int .u64 (u (l.foldl (fun x n => x ||| 1#64 <<< n.toNat) 0#64)), .int .i64 0])
      [(4, .skip (.done (.exit 0) (fillT 34 [(4, .int .u64 (u (l.foldl (fun x n => x ||| 1#64 <<< n.toNat) 0#64)))] w') []) (base0 4 tabs))] [_] (by kernel_rfl) h rfl (PF_pair (.int _ _) (.int _ _))
  | false =>
    rw [hr] at h
    exact pureT t9_ok fns9 (n := 100) (v := .tuple #[.int .u64 0, .int .i64 3])
      [(4, .skip (.done .ret (fillT 34 [(2, .int .u64 0), (3, .int .i64 3)] w') []) (base0 4 tabs))] [_] (by kernel_rfl) h rfl (PF_pair (.int _ _) (.int _ _))
theorem p43 : KOk Tryd.prog 4 tabs 43 k36 := by
  intro args v h
  unfold k36 at h
  split at h
  · rename_i a
    split at h
    · rename_i l hl
      cases h
      rcases zl_spec hl with ⟨ea, el, _⟩ | ⟨g, _, ea, hb⟩
      · subst ea el; exact p43_nil
      · subst ea; exact p43_l l g (by omega)
    · cases h
  · cases h
end Go.Proofs.YtakchekhpeokjaaDoor
