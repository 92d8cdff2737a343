/-
  The functions that the statement reaches: what they answer, part 6.
-/
import Derived.Test.YtakchekhpeokjaaDoorPart5
import Derived.Test.YtakchekhpeokjaaDoorPart2

/-
  BITBOARD (chapter 05): the document's Flip and Mirror. Printed by gen05re.py.
-/
namespace Go.Proofs.YtakchekhpeokjaaDoor
open Go.Va

noncomputable def t11 : Ktab := (26, k15) :: t10
theorem p26k : KOk Tryd.prog 4 tabs 26 k15 := KOk_u p26 fun args v h => by
  unfold k15 at h
  split at h
  · rename_i s
    cases hs : inU s with
    | false => rw [hs] at h; cases h
    | true => rw [hs] at h; cases h; exact ⟨s, rfl, hs, rfl⟩
  · cases h
theorem t11_ok : TOk Tryd.prog 4 tabs t11 := ⟨p26k, t10_ok⟩
noncomputable def env11 : Env := envT t11
set_option maxRecDepth 100000 in
theorem fns11 : fnB Tryd.prog 4 env11 okL = true := by kernel_rfl
theorem ov11_26 (x : BitVec 64) (lim : Nat) (σ : AS) : env11.ov 26 [.int .u64 (u x)] lim σ = some (lstV (bitsL x), σ) :=
  envK rfl rfl rfl rfl (by unfold t11; rw [pfT_eq]; exact k15_u x)
theorem ov11_43 {a a' : Value} {l : List Int} (lim : Nat) (σ : AS) (ea : strip a = a') (ha : IsZ a' l) : env11.ov 43 [a] lim σ = some (ofV l, σ) :=
  envZ rfl rfl ea ha (by unfold t11 t10; rw [pfT_ne rfl, pfT_eq]; unfold k36; dsimp only; rw [zl_eq ha])

noncomputable def body29 : Code := codeOf Tryd.prog 29 [.r, .r, .r, .l, .r, .b, .b]
def T29 (o v : Value) (i : Int) (w : Nat → Value) : List Value := fillT 38 [(3, o), (4, v), (5, .int .i64 i)] w
theorem first29 (c : List Value) (n i : Nat) (x : Int) (w : Nat → Value) (h1 : i < n) (hx : c[i]? = some (.int .i64 x)) :
    ∃ w', runW Tryd.prog env11 0 (.code ⟨29, none⟩ body29 (T29 (.slice none 0 0) (L c n 1 0) i w) []) (base0 4 tabs) = some (.done .normal (T29 (L [.int .i64 (flipAt x)] 1 1 6) (L c n 1 0) (IntKind.i64.wrap ((i : Int) + 1)) w') [], R1 [.int .i64 (flipAt x)]) :=
  seg 100 [(3, .br true), (4, .ok), (0, .is (.int .i64 x)), (5, .ok), (0, .is (.int .i64 x))] (m := 38) (js := [3, 4, 5]) (vs := [L [.int .i64 (flipAt x)] 1 1 6, L c n 1 0, .int .i64 (IntKind.i64.wrap ((i : Int) + 1))])
    (ob := [decide ((i : Int) < n) = true, (0 : Int) ≤ i ∧ (i : Int) < n, c[i * 1]? = some (.int .i64 x), (0 : Int) ≤ i ∧ (i : Int) < n, c[i * 1]? = some (.int .i64 x)]) (by kernel_rfl) ⟨decide_eq_true (by omega), ⟨by omega, by omega⟩, by rw [Nat.mul_one]; exact hx, ⟨by omega, by omega⟩, by rw [Nat.mul_one]; exact hx⟩
theorem next29 (c d : List Value) (n k i : Nat) (x : Int) (w : Nat → Value) (h1 : i < n) (hx : c[i]? = some (.int .i64 x)) (hk : k < 99) :
    ∃ w', runW Tryd.prog env11 0 (.code ⟨29, none⟩ body29 (T29 (L d k 1 6) (L c n 1 0) i w) []) (R1 d) = some (.done .normal (T29 (L (d ++ [.int .i64 (flipAt x)]) (k + 1) 1 6) (L c n 1 0) (IntKind.i64.wrap ((i : Int) + 1)) w') [], R1 (d ++ [.int .i64 (flipAt x)])) :=
  seg 100 [(3, .br true), (4, .ok), (0, .is (.int .i64 x)), (5, .ok), (0, .is (.int .i64 x)), (3, .ok)] (m := 38) (js := [3, 4, 5]) (vs := [L (d ++ [.int .i64 (flipAt x)]) (k + 1) 1 6, L c n 1 0, .int .i64 (IntKind.i64.wrap ((i : Int) + 1))])
    (ob := [decide ((i : Int) < n) = true, (0 : Int) ≤ i ∧ (i : Int) < n, c[i * 1]? = some (.int .i64 x), (0 : Int) ≤ i ∧ (i : Int) < n, c[i * 1]? = some (.int .i64 x), d.length = d.length ∧ (k + 1) * 8 ≤ 70368744177664]) (by kernel_rfl) ⟨decide_eq_true (by omega), ⟨by omega, by omega⟩, by rw [Nat.mul_one]; exact hx, ⟨by omega, by omega⟩, by rw [Nat.mul_one]; exact hx, rfl, by omega⟩
theorem end29 (c d : List Value) (n k : Nat) (i : Int) (w : Nat → Value) (h1 : (n : Int) ≤ i) :
    ∃ w', runW Tryd.prog env11 0 (.code ⟨29, none⟩ body29 (T29 (L d k 1 6) (L c n 1 0) i w) []) (R1 d) = some (.done (.exit 0) (T29 (L d k 1 6) (L c n 1 0) i w') [], R1 d) :=
  seg 100 [(3, .br false)] (m := 38) (js := [3, 4, 5]) (vs := [L d k 1 6, L c n 1 0, .int .i64 i]) (ob := [decide (i < n) = false]) (by kernel_rfl) (decide_eq_false (by omega))
theorem loop29 (l : List Int) (n : Nat) (hl : l.length = n) (hn : n ≤ 64) : ∀ (k i : Nat) (w : Nat → Value), i + k = n → 0 < i →
    ∃ w', runW Tryd.prog env11 0 (.code ⟨29, none⟩ (.loop body29) (T29 (L (zs ((l.take i).map flipAt)) i 1 6) (L (zs l) n 1 0) i w) []) (R1 (zs ((l.take i).map flipAt))) =
      some (.done (.exit 0) (T29 (L (zs (l.map flipAt)) n 1 6) (L (zs l) n 1 0) n w') [], R1 (zs (l.map flipAt))) := by
  intro k
  induction k with
  | zero =>
    intro i w hi h0
    obtain rfl : i = n := by omega
    rw [List.take_of_length_le (by omega)]
    obtain ⟨w', h⟩ := end29 (zs l) (zs (l.map flipAt)) i i i w (by omega)
    exact ⟨w', loop_out (by intro h; cases h) h⟩
  | succ k ih =>
    intro i w hi h0
    have hil : i < l.length := by omega
    have hx : (zs l)[i]? = some (.int .i64 l[i]) := by rw [zs_get, List.getElem?_eq_getElem hil]; rfl
    have e1 : IntKind.i64.wrap ((i : Int) + 1) = ((i + 1 : Nat) : Int) := by rw [wrap64 (by omega) (by omega)]; rfl
    obtain ⟨w1, h1⟩ := next29 (zs l) (zs ((l.take i).map flipAt)) n i i l[i] w (by omega) hx (by omega)
    have e2 : zs ((l.take i).map flipAt) ++ [.int .i64 (flipAt l[i])] = zs ((l.take (i + 1)).map flipAt) := by
      rw [List.take_succ_eq_append_getElem hil, List.map_append]; simp [zs]
    rw [e1, e2] at h1
    obtain ⟨w', h2⟩ := ih (i + 1) w1 (by omega) (by omega)
    exact ⟨w', loop_next h1 h2⟩
theorem loop29_all (l : List Int) (n : Nat) (hl : l.length = n) (hn : n ≤ 64) (h0 : 0 < n) (w : Nat → Value) :
    ∃ w', runW Tryd.prog env11 0 (.code ⟨29, none⟩ (.loop body29) (T29 (.slice none 0 0) (L (zs l) n 1 0) 0 w) []) (base0 4 tabs) =
      some (.done (.exit 0) (T29 (L (zs (l.map flipAt)) n 1 6) (L (zs l) n 1 0) n w') [], R1 (zs (l.map flipAt))) := by
  have hil : 0 < l.length := by omega
  have hx : (zs l)[0]? = some (.int .i64 l[0]) := by rw [zs_get, List.getElem?_eq_getElem hil]; rfl
  obtain ⟨w1, h1⟩ := first29 (zs l) n 0 l[0] w h0 hx
  have e1 : IntKind.i64.wrap (((0 : Nat) : Int) + 1) = ((1 : Nat) : Int) := rfl
  have e2 : [Value.int .i64 (flipAt l[0])] = zs ((l.take 1).map flipAt) := by
    cases l with
    | nil => cases hil
    | cons a l => rfl
  rw [e1, e2] at h1
  obtain ⟨w', h2⟩ := loop29 l n hl hn (n - 1) 1 w1 (by omega) (by omega)
  exact ⟨w', loop_next h1 h2⟩

noncomputable def body31 : Code := codeOf Tryd.prog 31 [.r, .r, .r, .l, .r, .b, .b]
def T31 (o v : Value) (i : Int) (w : Nat → Value) : List Value := fillT 42 [(3, o), (4, v), (5, .int .i64 i)] w
theorem first31 (c : List Value) (n i : Nat) (x : Int) (w : Nat → Value) (h1 : i < n) (hx : c[i]? = some (.int .i64 x)) :
    ∃ w', runW Tryd.prog env11 0 (.code ⟨31, none⟩ body31 (T31 (.slice none 0 0) (L c n 1 0) i w) []) (base0 4 tabs) = some (.done .normal (T31 (L [.int .i64 (mirAt x)] 1 1 6) (L c n 1 0) (IntKind.i64.wrap ((i : Int) + 1)) w') [], R1 [.int .i64 (mirAt x)]) :=
  seg 100 [(3, .br true), (4, .ok), (0, .is (.int .i64 x)), (2, .ok), (0, .is (.int .i64 x)), (5, .ok), (0, .is (.int .i64 x))] (m := 42) (js := [3, 4, 5]) (vs := [L [.int .i64 (mirAt x)] 1 1 6, L c n 1 0, .int .i64 (IntKind.i64.wrap ((i : Int) + 1))])
    (ob := [decide ((i : Int) < n) = true, (0 : Int) ≤ i ∧ (i : Int) < n, c[i * 1]? = some (.int .i64 x), (0 : Int) ≤ i ∧ (i : Int) < n, c[i * 1]? = some (.int .i64 x), (0 : Int) ≤ i ∧ (i : Int) < n, c[i * 1]? = some (.int .i64 x)]) (by kernel_rfl) ⟨decide_eq_true (by omega), ⟨by omega, by omega⟩, by rw [Nat.mul_one]; exact hx, ⟨by omega, by omega⟩, by rw [Nat.mul_one]; exact hx, ⟨by omega, by omega⟩, by rw [Nat.mul_one]; exact hx⟩
theorem next31 (c d : List Value) (n k i : Nat) (x : Int) (w : Nat → Value) (h1 : i < n) (hx : c[i]? = some (.int .i64 x)) (hk : k < 99) :
    ∃ w', runW Tryd.prog env11 0 (.code ⟨31, none⟩ body31 (T31 (L d k 1 6) (L c n 1 0) i w) []) (R1 d) = some (.done .normal (T31 (L (d ++ [.int .i64 (mirAt x)]) (k + 1) 1 6) (L c n 1 0) (IntKind.i64.wrap ((i : Int) + 1)) w') [], R1 (d ++ [.int .i64 (mirAt x)])) :=
  seg 100 [(3, .br true), (4, .ok), (0, .is (.int .i64 x)), (2, .ok), (0, .is (.int .i64 x)), (5, .ok), (0, .is (.int .i64 x)), (3, .ok)] (m := 42) (js := [3, 4, 5]) (vs := [L (d ++ [.int .i64 (mirAt x)]) (k + 1) 1 6, L c n 1 0, .int .i64 (IntKind.i64.wrap ((i : Int) + 1))])
    (ob := [decide ((i : Int) < n) = true, (0 : Int) ≤ i ∧ (i : Int) < n, c[i * 1]? = some (.int .i64 x), (0 : Int) ≤ i ∧ (i : Int) < n, c[i * 1]? = some (.int .i64 x), (0 : Int) ≤ i ∧ (i : Int) < n, c[i * 1]? = some (.int .i64 x), d.length = d.length ∧ (k + 1) * 8 ≤ 70368744177664]) (by kernel_rfl) ⟨decide_eq_true (by omega), ⟨by omega, by omega⟩, by rw [Nat.mul_one]; exact hx, ⟨by omega, by omega⟩, by rw [Nat.mul_one]; exact hx, ⟨by omega, by omega⟩, by rw [Nat.mul_one]; exact hx, rfl, by omega⟩
theorem end31 (c d : List Value) (n k : Nat) (i : Int) (w : Nat → Value) (h1 : (n : Int) ≤ i) :
    ∃ w', runW Tryd.prog env11 0 (.code ⟨31, none⟩ body31 (T31 (L d k 1 6) (L c n 1 0) i w) []) (R1 d) = some (.done (.exit 0) (T31 (L d k 1 6) (L c n 1 0) i w') [], R1 d) :=
  seg 100 [(3, .br false)] (m := 42) (js := [3, 4, 5]) (vs := [L d k 1 6, L c n 1 0, .int .i64 i]) (ob := [decide (i < n) = false]) (by kernel_rfl) (decide_eq_false (by omega))
theorem loop31 (l : List Int) (n : Nat) (hl : l.length = n) (hn : n ≤ 64) : ∀ (k i : Nat) (w : Nat → Value), i + k = n → 0 < i →
    ∃ w', runW Tryd.prog env11 0 (.code ⟨31, none⟩ (.loop body31) (T31 (L (zs ((l.take i).map mirAt)) i 1 6) (L (zs l) n 1 0) i w) []) (R1 (zs ((l.take i).map mirAt))) =
      some (.done (.exit 0) (T31 (L (zs (l.map mirAt)) n 1 6) (L (zs l) n 1 0) n w') [], R1 (zs (l.map mirAt))) := by
  intro k
  induction k with
  | zero =>
    intro i w hi h0
    obtain rfl : i = n := by omega
    rw [List.take_of_length_le (by omega)]
    obtain ⟨w', h⟩ := end31 (zs l) (zs (l.map mirAt)) i i i w (by omega)
    exact ⟨w', loop_out (by intro h; cases h) h⟩
  | succ k ih =>
    intro i w hi h0
    have hil : i < l.length := by omega
    have hx : (zs l)[i]? = some (.int .i64 l[i]) := by rw [zs_get, List.getElem?_eq_getElem hil]; rfl
    have e1 : IntKind.i64.wrap ((i : Int) + 1) = ((i + 1 : Nat) : Int) := by rw [wrap64 (by omega) (by omega)]; rfl
    obtain ⟨w1, h1⟩ := next31 (zs l) (zs ((l.take i).map mirAt)) n i i l[i] w (by omega) hx (by omega)
    have e2 : zs ((l.take i).map mirAt) ++ [.int .i64 (mirAt l[i])] = zs ((l.take (i + 1)).map mirAt) := by
      rw [List.take_succ_eq_append_getElem hil, List.map_append]; simp [zs]
    rw [e1, e2] at h1
    obtain ⟨w', h2⟩ := ih (i + 1) w1 (by omega) (by omega)
    exact ⟨w', loop_next h1 h2⟩
theorem loop31_all (l : List Int) (n : Nat) (hl : l.length = n) (hn : n ≤ 64) (h0 : 0 < n) (w : Nat → Value) :
    ∃ w', runW Tryd.prog env11 0 (.code ⟨31, none⟩ (.loop body31) (T31 (.slice none 0 0) (L (zs l) n 1 0) 0 w) []) (base0 4 tabs) =
      some (.done (.exit 0) (T31 (L (zs (l.map mirAt)) n 1 6) (L (zs l) n 1 0) n w') [], R1 (zs (l.map mirAt))) := by
  have hil : 0 < l.length := by omega
  have hx : (zs l)[0]? = some (.int .i64 l[0]) := by rw [zs_get, List.getElem?_eq_getElem hil]; rfl
  obtain ⟨w1, h1⟩ := first31 (zs l) n 0 l[0] w h0 hx
  have e1 : IntKind.i64.wrap (((0 : Nat) : Int) + 1) = ((1 : Nat) : Int) := rfl
  have e2 : [Value.int .i64 (mirAt l[0])] = zs ((l.take 1).map mirAt) := by
    cases l with
    | nil => cases hil
    | cons a l => rfl
  rw [e1, e2] at h1
  obtain ⟨w', h2⟩ := loop31 l n hl hn (n - 1) 1 w1 (by omega) (by omega)
  exact ⟨w', loop_next h1 h2⟩

theorem of_map (x y : BitVec 64) (f : Int → Int) (φ : Nat → Nat) (hf : ∀ i : Nat, i < 64 → f i = (φ i : Int) ∧ φ i < 64 ∧ φ (φ i) = i) (hy : ∀ j, j < 64 → y.getLsbD j = x.getLsbD (φ j)) :
    ofV ((natZ (bitsL x)).map f) = .tuple #[.int .u64 (u y), .int .i64 0] := by
  have e : (natZ (bitsL x)).map f = natZ ((bitsL x).map φ) := by
    unfold natZ
    rw [List.map_map, List.map_map]
    exact List.map_congr_left fun i hi => (hf i (bitsL_mem.1 hi).1).1
  have h1 : (natZ ((bitsL x).map φ)).all (fun n => inr n 64) = true := by
    refine List.all_eq_true.2 fun n hn => ?_
    obtain ⟨j, hj, rfl⟩ := List.mem_map.1 hn
    obtain ⟨i, hi, rfl⟩ := List.mem_map.1 hj
    have := (hf i (bitsL_mem.1 hi).1).2.1
    exact inr_true (by omega) (by omega)
  have h2 : setOf (natZ ((bitsL x).map φ)) = y := by
    refine BitVec.eq_of_getLsbD_eq fun j hj => ?_
    unfold setOf
    rw [setOf_bit _ _ _ hj, hy j hj]
    have : decide (j ∈ (bitsL x).map φ) = x.getLsbD (φ j) := by
      cases h : x.getLsbD (φ j) with
      | true => exact decide_eq_true (List.mem_map.2 ⟨φ j, bitsL_mem.2 ⟨(hf j hj).2.1, h⟩, (hf j hj).2.2⟩)
      | false =>
        refine decide_eq_false fun hm => ?_
        obtain ⟨i, hi, e⟩ := List.mem_map.1 hm
        have hi := bitsL_mem.1 hi
        rw [← e, (hf i hi.1).2.2, hi.2] at h
        cases h
    rw [this]; simp
  unfold ofV
  rw [e, h1, h2, cond_true]
theorem flip_of (x : BitVec 64) : ofV ((natZ (bitsL x)).map flipAt) = .tuple #[.int .u64 (rbS (u x)), .int .i64 0] := by
  rw [rbS_u]
  refine of_map x (rbB x) flipAt (fun i => 8 * (7 - i / 8) + i % 8) (fun i hi => ⟨?_, by omega, by omega⟩) fun j hj => flip_bit x j hj
  unfold flipAt
  rw [Int.tdiv_eq_ediv_of_nonneg (by omega), Int.tmod_eq_emod_of_nonneg (by omega), wrap64 (n := (i : Int) / 8) (by omega) (by omega), wrap64 (n := 7 - (i : Int) / 8) (by omega) (by omega), wrap64 (n := 8 * (7 - (i : Int) / 8)) (by omega) (by omega), wrap64 (by omega) (by omega)]
  omega
theorem mir_of (x : BitVec 64) : ofV ((natZ (bitsL x)).map mirAt) = .tuple #[.int .u64 (rbS (rvS (u x))), .int .i64 0] := by
  rw [rvS_u, rbS_u]
  refine of_map x (rbB (rvB x)) mirAt (fun i => i - i % 8 + 7 - i % 8) (fun i hi => ⟨?_, by omega, by omega⟩) fun j hj => mirror_bit x j hj
  unfold mirAt
  rw [Int.tmod_eq_emod_of_nonneg (by omega), wrap64 (n := (i : Int) - i % 8) (by omega) (by omega), wrap64 (n := (i : Int) - i % 8 + 7) (by omega) (by omega), wrap64 (by omega) (by omega)]
  omega

theorem p29 (x : BitVec 64) : Pure Tryd.prog 4 tabs 29 [.int .u64 (u x)] (.int .u64 (rbS (u x))) := by
  have hl := bitsL_length x
  have hof := flip_of x
  have h26 := fun σ => ov11_26 x 0 σ
  cases hp : bitsL x with
  | nil =>
    rw [hp] at hof h26
    have h43 : ∀ σ, env11.ov 43 [.slice none 0 0] 0 σ = some (.tuple #[.int .u64 (rbS (u x)), .int .i64 0], σ) := fun σ => by
      rw [ov11_43 (a' := .slice none 0 0) 0 σ rfl IsZ_nil, ← hof]; rfl
    exact pureT t11_ok fns11 (n := 100) (v := .int .u64 (rbS (u x))) [(3, .ov (.slice none 0 0)), (9, .ov (.tuple #[.int .u64 (rbS (u x)), .int .i64 0]))] [_, _] (by kernel_rfl) ⟨h26, h43⟩ rfl (.int _ _)
  | cons a p =>
    rw [hp] at hof h26 hl
    obtain ⟨w', h⟩ := loop29_all (natZ (a :: p)) (a :: p).length (natZ_len _) hl (by simp) (fun j => Go.Va.look [(0, Value.int .u64 (u x)), (2, .int .u64 0), (8, .int .u64 (u x)), (9, L (ints (a :: p)) (a :: p).length 1 0)] j undef)
    rw [zs_natZ] at h
    have hz : IsZ (L (zs ((natZ (a :: p)).map flipAt)) (a :: p).length 1 0) ((natZ (a :: p)).map flipAt) := .inr ⟨0, by omega, by rw [List.length_map, natZ_len], by rw [List.length_map, natZ_len]; omega⟩
    have h43 : ∀ σ, env11.ov 43 [L (zs ((natZ (a :: p)).map flipAt)) (a :: p).length 1 6] 0 σ = some (.tuple #[.int .u64 (rbS (u x)), .int .i64 0], σ) := fun σ => by
      rw [ov11_43 (a' := L (zs ((natZ (a :: p)).map flipAt)) (a :: p).length 1 0) 0 σ rfl hz, hof]
    exact pureT t11_ok fns11 (n := 100) (v := .int .u64 (rbS (u x))) [(3, .ov (L (ints (a :: p)) (a :: p).length 1 0)), (2, .skip (.done (.exit 0) (T29 (L (zs ((natZ (a :: p)).map flipAt)) (a :: p).length 1 6) (L (ints (a :: p)) (a :: p).length 1 0) (a :: p).length w') []) (R1 (zs ((natZ (a :: p)).map flipAt)))), (1, .ov (.tuple #[.int .u64 (rbS (u x)), .int .i64 0]))]
      [_, _, _] (by kernel_rfl) ⟨h26, h, h43⟩ rfl (.int _ _)

theorem p31 (x : BitVec 64) : Pure Tryd.prog 4 tabs 31 [.int .u64 (u x)] (.int .u64 (rbS (rvS (u x)))) := by
  have hl := bitsL_length x
  have hof := mir_of x
  have h26 := fun σ => ov11_26 x 0 σ
  cases hp : bitsL x with
  | nil =>
    rw [hp] at hof h26
    have h43 : ∀ σ, env11.ov 43 [.slice none 0 0] 0 σ = some (.tuple #[.int .u64 (rbS (rvS (u x))), .int .i64 0], σ) := fun σ => by
      rw [ov11_43 (a' := .slice none 0 0) 0 σ rfl IsZ_nil, ← hof]; rfl
    exact pureT t11_ok fns11 (n := 100) (v := .int .u64 (rbS (rvS (u x)))) [(3, .ov (.slice none 0 0)), (9, .ov (.tuple #[.int .u64 (rbS (rvS (u x))), .int .i64 0]))] [_, _] (by kernel_rfl) ⟨h26, h43⟩ rfl (.int _ _)
  | cons a p =>
    rw [hp] at hof h26 hl
    obtain ⟨w', h⟩ := loop31_all (natZ (a :: p)) (a :: p).length (natZ_len _) hl (by simp) (fun j => Go.Va.look [(0, Value.int .u64 (u x)), (2, .int .u64 0), (8, .int .u64 (u x)), (9, L (ints (a :: p)) (a :: p).length 1 0)] j undef)
    rw [zs_natZ] at h
    have hz : IsZ (L (zs ((natZ (a :: p)).map mirAt)) (a :: p).length 1 0) ((natZ (a :: p)).map mirAt) := .inr ⟨0, by omega, by rw [List.length_map, natZ_len], by rw [List.length_map, natZ_len]; omega⟩
    have h43 : ∀ σ, env11.ov 43 [L (zs ((natZ (a :: p)).map mirAt)) (a :: p).length 1 6] 0 σ = some (.tuple #[.int .u64 (rbS (rvS (u x))), .int .i64 0], σ) := fun σ => by
      rw [ov11_43 (a' := L (zs ((natZ (a :: p)).map mirAt)) (a :: p).length 1 0) 0 σ rfl hz, hof]
    exact pureT t11_ok fns11 (n := 100) (v := .int .u64 (rbS (rvS (u x)))) [(3, .ov (L (ints (a :: p)) (a :: p).length 1 0)), (2, .skip (.done (.exit 0) (T31 (L (zs ((natZ (a :: p)).map mirAt)) (a :: p).length 1 6) (L (ints (a :: p)) (a :: p).length 1 0) (a :: p).length w') []) (R1 (zs ((natZ (a :: p)).map mirAt)))), (1, .ov (.tuple #[.int .u64 (rbS (rvS (u x))), .int .i64 0]))]
      [_, _, _] (by kernel_rfl) ⟨h26, h, h43⟩ rfl (.int _ _)

end Go.Proofs.YtakchekhpeokjaaDoor

/-
  BITBOARD (chapter 05): Shift, as a function of plain values.
-/
namespace Go.Proofs.YtakchekhpeokjaaDoor
open Go.Va

theorem p11 (s f r : Int) (hf : -9223372036854775808 ≤ f ∧ f ≤ 9223372036854775807) (hr : -9223372036854775808 ≤ r ∧ r ≤ 9223372036854775807) : Pure Tryd.prog 4 tabs 11 [.int .u64 s, .int .i64 f, .int .i64 r] (.int .u64 (shiftS s f r)) :=
  topW zeroOk mixed rfl (mix_good is5 pf5) (mix_ok pf5_pure) (fnOk_of rfl fns5) (w11 s f r hf hr) rfl (.int _ _)
end Go.Proofs.YtakchekhpeokjaaDoor

/-
  BITBOARD (chapter 05): the document's Shift. Printed by gen05rg.py.
-/
namespace Go.Proofs.YtakchekhpeokjaaDoor
open Go.Va

noncomputable def body27 : Code := codeOf Tryd.prog 27 [.r, .r, .r, .r, .l, .r, .b, .b]
def T27 (f r : Int) (o v : Value) (i : Int) (w : Nat → Value) : List Value := fillT 77 [(1, .int .i64 f), (2, .int .i64 r), (7, o), (8, v), (9, .int .i64 i)] w
def toF (x f : Int) : Int := IntKind.i64.wrap (x.tmod 8 + f)
def toR (x r : Int) : Int := IntKind.i64.wrap (IntKind.i64.wrap (x.tdiv 8) + r)
def toS (x f r : Int) : Int := IntKind.i64.wrap (IntKind.i64.wrap (8 * toR x r) + toF x f)


theorem off27n0 (c : List Value)  (n i : Nat) (x f r : Int) (w : Nat → Value) (h1 : i < n) (hx : c[i]? = some (.int .i64 x)) (g0 : decide (toF x f ≥ 0) = false) :
    ∃ w', runW Tryd.prog env11 0 (.code ⟨27, none⟩ body27 (T27 f r (.slice none 0 0) (L c n 1 0) i w) []) (base0 4 tabs) = some (.done .normal (T27 f r (.slice none 0 0) (L c n 1 0) (IntKind.i64.wrap ((i : Int) + 1)) w') [], (base0 4 tabs)) :=
  seg 100 [(3, .br true), (3, .ok), (0, .is (.int .i64 x)), (6, .ok), (0, .is (.int .i64 x)), (5, .br false)] (m := 77) (js := [1, 2, 7, 8, 9]) (vs := [.int .i64 f, .int .i64 r, (.slice none 0 0), L c n 1 0, .int .i64 (IntKind.i64.wrap ((i : Int) + 1))])
    (ob := [decide ((i : Int) < n) = true, (0 : Int) ≤ i ∧ (i : Int) < n, c[i * 1]? = some (.int .i64 x), (0 : Int) ≤ i ∧ (i : Int) < n, c[i * 1]? = some (.int .i64 x), decide (toF x f ≥ 0) = false]) (by kernel_rfl) ⟨decide_eq_true (by omega), ⟨by omega, by omega⟩, by rw [Nat.mul_one]; exact hx, ⟨by omega, by omega⟩, by rw [Nat.mul_one]; exact hx, g0⟩

theorem off27n1 (c : List Value)  (n i : Nat) (x f r : Int) (w : Nat → Value) (h1 : i < n) (hx : c[i]? = some (.int .i64 x)) (g0 : decide (toF x f ≥ 0) = true) (g1 : decide (toF x f < 8) = false) :
    ∃ w', runW Tryd.prog env11 0 (.code ⟨27, none⟩ body27 (T27 f r (.slice none 0 0) (L c n 1 0) i w) []) (base0 4 tabs) = some (.done .normal (T27 f r (.slice none 0 0) (L c n 1 0) (IntKind.i64.wrap ((i : Int) + 1)) w') [], (base0 4 tabs)) :=
  seg 100 [(3, .br true), (3, .ok), (0, .is (.int .i64 x)), (6, .ok), (0, .is (.int .i64 x)), (5, .br true), (2, .br false)] (m := 77) (js := [1, 2, 7, 8, 9]) (vs := [.int .i64 f, .int .i64 r, (.slice none 0 0), L c n 1 0, .int .i64 (IntKind.i64.wrap ((i : Int) + 1))])
    (ob := [decide ((i : Int) < n) = true, (0 : Int) ≤ i ∧ (i : Int) < n, c[i * 1]? = some (.int .i64 x), (0 : Int) ≤ i ∧ (i : Int) < n, c[i * 1]? = some (.int .i64 x), decide (toF x f ≥ 0) = true, decide (toF x f < 8) = false]) (by kernel_rfl) ⟨decide_eq_true (by omega), ⟨by omega, by omega⟩, by rw [Nat.mul_one]; exact hx, ⟨by omega, by omega⟩, by rw [Nat.mul_one]; exact hx, g0, g1⟩

theorem off27n2 (c : List Value)  (n i : Nat) (x f r : Int) (w : Nat → Value) (h1 : i < n) (hx : c[i]? = some (.int .i64 x)) (g0 : decide (toF x f ≥ 0) = true) (g1 : decide (toF x f < 8) = true) (g2 : decide (toR x r ≥ 0) = false) :
    ∃ w', runW Tryd.prog env11 0 (.code ⟨27, none⟩ body27 (T27 f r (.slice none 0 0) (L c n 1 0) i w) []) (base0 4 tabs) = some (.done .normal (T27 f r (.slice none 0 0) (L c n 1 0) (IntKind.i64.wrap ((i : Int) + 1)) w') [], (base0 4 tabs)) :=
  seg 100 [(3, .br true), (3, .ok), (0, .is (.int .i64 x)), (6, .ok), (0, .is (.int .i64 x)), (5, .br true), (2, .br true), (3, .br false)] (m := 77) (js := [1, 2, 7, 8, 9]) (vs := [.int .i64 f, .int .i64 r, (.slice none 0 0), L c n 1 0, .int .i64 (IntKind.i64.wrap ((i : Int) + 1))])
    (ob := [decide ((i : Int) < n) = true, (0 : Int) ≤ i ∧ (i : Int) < n, c[i * 1]? = some (.int .i64 x), (0 : Int) ≤ i ∧ (i : Int) < n, c[i * 1]? = some (.int .i64 x), decide (toF x f ≥ 0) = true, decide (toF x f < 8) = true, decide (toR x r ≥ 0) = false]) (by kernel_rfl) ⟨decide_eq_true (by omega), ⟨by omega, by omega⟩, by rw [Nat.mul_one]; exact hx, ⟨by omega, by omega⟩, by rw [Nat.mul_one]; exact hx, g0, g1, g2⟩

theorem off27n3 (c : List Value)  (n i : Nat) (x f r : Int) (w : Nat → Value) (h1 : i < n) (hx : c[i]? = some (.int .i64 x)) (g0 : decide (toF x f ≥ 0) = true) (g1 : decide (toF x f < 8) = true) (g2 : decide (toR x r ≥ 0) = true) (g3 : decide (toR x r < 8) = false) :
    ∃ w', runW Tryd.prog env11 0 (.code ⟨27, none⟩ body27 (T27 f r (.slice none 0 0) (L c n 1 0) i w) []) (base0 4 tabs) = some (.done .normal (T27 f r (.slice none 0 0) (L c n 1 0) (IntKind.i64.wrap ((i : Int) + 1)) w') [], (base0 4 tabs)) :=
  seg 100 [(3, .br true), (3, .ok), (0, .is (.int .i64 x)), (6, .ok), (0, .is (.int .i64 x)), (5, .br true), (2, .br true), (3, .br true), (3, .br false)] (m := 77) (js := [1, 2, 7, 8, 9]) (vs := [.int .i64 f, .int .i64 r, (.slice none 0 0), L c n 1 0, .int .i64 (IntKind.i64.wrap ((i : Int) + 1))])
    (ob := [decide ((i : Int) < n) = true, (0 : Int) ≤ i ∧ (i : Int) < n, c[i * 1]? = some (.int .i64 x), (0 : Int) ≤ i ∧ (i : Int) < n, c[i * 1]? = some (.int .i64 x), decide (toF x f ≥ 0) = true, decide (toF x f < 8) = true, decide (toR x r ≥ 0) = true, decide (toR x r < 8) = false]) (by kernel_rfl) ⟨decide_eq_true (by omega), ⟨by omega, by omega⟩, by rw [Nat.mul_one]; exact hx, ⟨by omega, by omega⟩, by rw [Nat.mul_one]; exact hx, g0, g1, g2, g3⟩

theorem on27n (c : List Value)  (n i : Nat) (x f r : Int) (w : Nat → Value) (h1 : i < n) (hx : c[i]? = some (.int .i64 x)) (g0 : decide (toF x f ≥ 0) = true) (g1 : decide (toF x f < 8) = true) (g2 : decide (toR x r ≥ 0) = true) (g3 : decide (toR x r < 8) = true) :
    ∃ w', runW Tryd.prog env11 0 (.code ⟨27, none⟩ body27 (T27 f r (.slice none 0 0) (L c n 1 0) i w) []) (base0 4 tabs) = some (.done .normal (T27 f r (L [.int .i64 (toS x f r)] 1 1 6) (L c n 1 0) (IntKind.i64.wrap ((i : Int) + 1)) w') [], (R1 [.int .i64 (toS x f r)])) :=
  seg 100 [(3, .br true), (3, .ok), (0, .is (.int .i64 x)), (6, .ok), (0, .is (.int .i64 x)), (5, .br true), (2, .br true), (3, .br true), (3, .br true)] (m := 77) (js := [1, 2, 7, 8, 9]) (vs := [.int .i64 f, .int .i64 r, (L [.int .i64 (toS x f r)] 1 1 6), L c n 1 0, .int .i64 (IntKind.i64.wrap ((i : Int) + 1))])
    (ob := [decide ((i : Int) < n) = true, (0 : Int) ≤ i ∧ (i : Int) < n, c[i * 1]? = some (.int .i64 x), (0 : Int) ≤ i ∧ (i : Int) < n, c[i * 1]? = some (.int .i64 x), decide (toF x f ≥ 0) = true, decide (toF x f < 8) = true, decide (toR x r ≥ 0) = true, decide (toR x r < 8) = true]) (by kernel_rfl) ⟨decide_eq_true (by omega), ⟨by omega, by omega⟩, by rw [Nat.mul_one]; exact hx, ⟨by omega, by omega⟩, by rw [Nat.mul_one]; exact hx, g0, g1, g2, g3⟩
theorem end27n (c : List Value)  (n : Nat) (i f r : Int) (w : Nat → Value) (h1 : (n : Int) ≤ i) :
    ∃ w', runW Tryd.prog env11 0 (.code ⟨27, none⟩ body27 (T27 f r (.slice none 0 0) (L c n 1 0) i w) []) (base0 4 tabs) = some (.done (.exit 0) (T27 f r (.slice none 0 0) (L c n 1 0) i w') [], (base0 4 tabs)) :=
  seg 100 [(3, .br false)] (m := 77) (js := [1, 2, 7, 8, 9]) (vs := [.int .i64 f, .int .i64 r, (.slice none 0 0), L c n 1 0, .int .i64 i]) (ob := [decide (i < n) = false]) (by kernel_rfl) (decide_eq_false (by omega))

theorem off27l0 (c : List Value) (d : List Value) (k : Nat) (n i : Nat) (x f r : Int) (w : Nat → Value) (h1 : i < n) (hx : c[i]? = some (.int .i64 x)) (g0 : decide (toF x f ≥ 0) = false) :
    ∃ w', runW Tryd.prog env11 0 (.code ⟨27, none⟩ body27 (T27 f r (L d k 1 6) (L c n 1 0) i w) []) (R1 d) = some (.done .normal (T27 f r (L d k 1 6) (L c n 1 0) (IntKind.i64.wrap ((i : Int) + 1)) w') [], (R1 d)) :=
  seg 100 [(3, .br true), (3, .ok), (0, .is (.int .i64 x)), (6, .ok), (0, .is (.int .i64 x)), (5, .br false)] (m := 77) (js := [1, 2, 7, 8, 9]) (vs := [.int .i64 f, .int .i64 r, (L d k 1 6), L c n 1 0, .int .i64 (IntKind.i64.wrap ((i : Int) + 1))])
    (ob := [decide ((i : Int) < n) = true, (0 : Int) ≤ i ∧ (i : Int) < n, c[i * 1]? = some (.int .i64 x), (0 : Int) ≤ i ∧ (i : Int) < n, c[i * 1]? = some (.int .i64 x), decide (toF x f ≥ 0) = false]) (by kernel_rfl) ⟨decide_eq_true (by omega), ⟨by omega, by omega⟩, by rw [Nat.mul_one]; exact hx, ⟨by omega, by omega⟩, by rw [Nat.mul_one]; exact hx, g0⟩

theorem off27l1 (c : List Value) (d : List Value) (k : Nat) (n i : Nat) (x f r : Int) (w : Nat → Value) (h1 : i < n) (hx : c[i]? = some (.int .i64 x)) (g0 : decide (toF x f ≥ 0) = true) (g1 : decide (toF x f < 8) = false) :
    ∃ w', runW Tryd.prog env11 0 (.code ⟨27, none⟩ body27 (T27 f r (L d k 1 6) (L c n 1 0) i w) []) (R1 d) = some (.done .normal (T27 f r (L d k 1 6) (L c n 1 0) (IntKind.i64.wrap ((i : Int) + 1)) w') [], (R1 d)) :=
  seg 100 [(3, .br true), (3, .ok), (0, .is (.int .i64 x)), (6, .ok), (0, .is (.int .i64 x)), (5, .br true), (2, .br false)] (m := 77) (js := [1, 2, 7, 8, 9]) (vs := [.int .i64 f, .int .i64 r, (L d k 1 6), L c n 1 0, .int .i64 (IntKind.i64.wrap ((i : Int) + 1))])
    (ob := [decide ((i : Int) < n) = true, (0 : Int) ≤ i ∧ (i : Int) < n, c[i * 1]? = some (.int .i64 x), (0 : Int) ≤ i ∧ (i : Int) < n, c[i * 1]? = some (.int .i64 x), decide (toF x f ≥ 0) = true, decide (toF x f < 8) = false]) (by kernel_rfl) ⟨decide_eq_true (by omega), ⟨by omega, by omega⟩, by rw [Nat.mul_one]; exact hx, ⟨by omega, by omega⟩, by rw [Nat.mul_one]; exact hx, g0, g1⟩

theorem off27l2 (c : List Value) (d : List Value) (k : Nat) (n i : Nat) (x f r : Int) (w : Nat → Value) (h1 : i < n) (hx : c[i]? = some (.int .i64 x)) (g0 : decide (toF x f ≥ 0) = true) (g1 : decide (toF x f < 8) = true) (g2 : decide (toR x r ≥ 0) = false) :
    ∃ w', runW Tryd.prog env11 0 (.code ⟨27, none⟩ body27 (T27 f r (L d k 1 6) (L c n 1 0) i w) []) (R1 d) = some (.done .normal (T27 f r (L d k 1 6) (L c n 1 0) (IntKind.i64.wrap ((i : Int) + 1)) w') [], (R1 d)) :=
  seg 100 [(3, .br true), (3, .ok), (0, .is (.int .i64 x)), (6, .ok), (0, .is (.int .i64 x)), (5, .br true), (2, .br true), (3, .br false)] (m := 77) (js := [1, 2, 7, 8, 9]) (vs := [.int .i64 f, .int .i64 r, (L d k 1 6), L c n 1 0, .int .i64 (IntKind.i64.wrap ((i : Int) + 1))])
    (ob := [decide ((i : Int) < n) = true, (0 : Int) ≤ i ∧ (i : Int) < n, c[i * 1]? = some (.int .i64 x), (0 : Int) ≤ i ∧ (i : Int) < n, c[i * 1]? = some (.int .i64 x), decide (toF x f ≥ 0) = true, decide (toF x f < 8) = true, decide (toR x r ≥ 0) = false]) (by kernel_rfl) ⟨decide_eq_true (by omega), ⟨by omega, by omega⟩, by rw [Nat.mul_one]; exact hx, ⟨by omega, by omega⟩, by rw [Nat.mul_one]; exact hx, g0, g1, g2⟩

theorem off27l3 (c : List Value) (d : List Value) (k : Nat) (n i : Nat) (x f r : Int) (w : Nat → Value) (h1 : i < n) (hx : c[i]? = some (.int .i64 x)) (g0 : decide (toF x f ≥ 0) = true) (g1 : decide (toF x f < 8) = true) (g2 : decide (toR x r ≥ 0) = true) (g3 : decide (toR x r < 8) = false) :
    ∃ w', runW Tryd.prog env11 0 (.code ⟨27, none⟩ body27 (T27 f r (L d k 1 6) (L c n 1 0) i w) []) (R1 d) = some (.done .normal (T27 f r (L d k 1 6) (L c n 1 0) (IntKind.i64.wrap ((i : Int) + 1)) w') [], (R1 d)) :=
  seg 100 [(3, .br true), (3, .ok), (0, .is (.int .i64 x)), (6, .ok), (0, .is (.int .i64 x)), (5, .br true), (2, .br true), (3, .br true), (3, .br false)] (m := 77) (js := [1, 2, 7, 8, 9]) (vs := [.int .i64 f, .int .i64 r, (L d k 1 6), L c n 1 0, .int .i64 (IntKind.i64.wrap ((i : Int) + 1))])
    (ob := [decide ((i : Int) < n) = true, (0 : Int) ≤ i ∧ (i : Int) < n, c[i * 1]? = some (.int .i64 x), (0 : Int) ≤ i ∧ (i : Int) < n, c[i * 1]? = some (.int .i64 x), decide (toF x f ≥ 0) = true, decide (toF x f < 8) = true, decide (toR x r ≥ 0) = true, decide (toR x r < 8) = false]) (by kernel_rfl) ⟨decide_eq_true (by omega), ⟨by omega, by omega⟩, by rw [Nat.mul_one]; exact hx, ⟨by omega, by omega⟩, by rw [Nat.mul_one]; exact hx, g0, g1, g2, g3⟩

theorem on27l (c : List Value) (d : List Value) (k : Nat) (n i : Nat) (x f r : Int) (w : Nat → Value) (h1 : i < n) (hx : c[i]? = some (.int .i64 x)) (g0 : decide (toF x f ≥ 0) = true) (g1 : decide (toF x f < 8) = true) (g2 : decide (toR x r ≥ 0) = true) (g3 : decide (toR x r < 8) = true) (hk : k < 99) :
    ∃ w', runW Tryd.prog env11 0 (.code ⟨27, none⟩ body27 (T27 f r (L d k 1 6) (L c n 1 0) i w) []) (R1 d) = some (.done .normal (T27 f r (L (d ++ [.int .i64 (toS x f r)]) (k + 1) 1 6) (L c n 1 0) (IntKind.i64.wrap ((i : Int) + 1)) w') [], (R1 (d ++ [.int .i64 (toS x f r)]))) :=
  seg 100 [(3, .br true), (3, .ok), (0, .is (.int .i64 x)), (6, .ok), (0, .is (.int .i64 x)), (5, .br true), (2, .br true), (3, .br true), (3, .br true), (8, .ok)] (m := 77) (js := [1, 2, 7, 8, 9]) (vs := [.int .i64 f, .int .i64 r, (L (d ++ [.int .i64 (toS x f r)]) (k + 1) 1 6), L c n 1 0, .int .i64 (IntKind.i64.wrap ((i : Int) + 1))])
    (ob := [decide ((i : Int) < n) = true, (0 : Int) ≤ i ∧ (i : Int) < n, c[i * 1]? = some (.int .i64 x), (0 : Int) ≤ i ∧ (i : Int) < n, c[i * 1]? = some (.int .i64 x), decide (toF x f ≥ 0) = true, decide (toF x f < 8) = true, decide (toR x r ≥ 0) = true, decide (toR x r < 8) = true, d.length = d.length ∧ (k + 1) * 8 ≤ 70368744177664]) (by kernel_rfl) ⟨decide_eq_true (by omega), ⟨by omega, by omega⟩, by rw [Nat.mul_one]; exact hx, ⟨by omega, by omega⟩, by rw [Nat.mul_one]; exact hx, g0, g1, g2, g3, rfl, by omega⟩
theorem end27l (c : List Value) (d : List Value) (k : Nat) (n : Nat) (i f r : Int) (w : Nat → Value) (h1 : (n : Int) ≤ i) :
    ∃ w', runW Tryd.prog env11 0 (.code ⟨27, none⟩ body27 (T27 f r (L d k 1 6) (L c n 1 0) i w) []) (R1 d) = some (.done (.exit 0) (T27 f r (L d k 1 6) (L c n 1 0) i w') [], (R1 d)) :=
  seg 100 [(3, .br false)] (m := 77) (js := [1, 2, 7, 8, 9]) (vs := [.int .i64 f, .int .i64 r, (L d k 1 6), L c n 1 0, .int .i64 i]) (ob := [decide (i < n) = false]) (by kernel_rfl) (decide_eq_false (by omega))

end Go.Proofs.YtakchekhpeokjaaDoor

/-
  BITBOARD (chapter 05): the document's Shift: its loop.
-/
namespace Go.Proofs.YtakchekhpeokjaaDoor
open Go.Va

def stays (f r x : Int) : Bool := inr (toF x f) 8 && inr (toR x r) 8
/-- The moved squares. -/
def mvd (f r : Int) (l : List Int) : List Int := (l.filter (stays f r)).map fun x => toS x f r
def OV (p : List Int) : Value := match p with
  | [] => .slice none 0 0
  | p => L (zs p) p.length 1 6
noncomputable def OS (p : List Int) : AS := match p with
  | [] => base0 4 tabs
  | p => R1 (zs p)
theorem OV_cons (a : Int) (p : List Int) : OV (a :: p) = L (zs (a :: p)) (a :: p).length 1 6 := rfl
theorem OS_cons (a : Int) (p : List Int) : OS (a :: p) = R1 (zs (a :: p)) := rfl
theorem round27 (c : List Value) (p : List Int) (n i : Nat) (x f r : Int) (w : Nat → Value) (h1 : i < n) (hx : c[i]? = some (.int .i64 x)) (hk : p.length < 99) :
    ∃ w', runW Tryd.prog env11 0 (.code ⟨27, none⟩ body27 (T27 f r (OV p) (L c n 1 0) i w) []) (OS p) =
      some (.done .normal (T27 f r (OV (p ++ bif stays f r x then [toS x f r] else [])) (L c n 1 0) (IntKind.i64.wrap ((i : Int) + 1)) w') [], OS (p ++ bif stays f r x then [toS x f r] else [])) := by
  unfold stays inr
  cases g0 : decide (toF x f ≥ 0) with
  | false =>
    rw [Bool.false_and, Bool.false_and, cond_false, List.append_nil]
    cases p with
    | nil => exact off27n0 c n i x f r w h1 hx g0
    | cons a p => exact off27l0 c _ _ n i x f r w h1 hx g0
  | true =>
  cases g1 : decide (toF x f < 8) with
  | false =>
    rw [Bool.and_false, Bool.false_and, cond_false, List.append_nil]
    cases p with
    | nil => exact off27n1 c n i x f r w h1 hx g0 g1
    | cons a p => exact off27l1 c _ _ n i x f r w h1 hx g0 g1
  | true =>
  cases g2 : decide (toR x r ≥ 0) with
  | false =>
    rw [Bool.false_and, Bool.and_false, cond_false, List.append_nil]
    cases p with
    | nil => exact off27n2 c n i x f r w h1 hx g0 g1 g2
    | cons a p => exact off27l2 c _ _ n i x f r w h1 hx g0 g1 g2
  | true =>
  cases g3 : decide (toR x r < 8) with
  | false =>
    rw [Bool.and_false, Bool.and_false, cond_false, List.append_nil]
    cases p with
    | nil => exact off27n3 c n i x f r w h1 hx g0 g1 g2 g3
    | cons a p => exact off27l3 c _ _ n i x f r w h1 hx g0 g1 g2 g3
  | true =>
    simp only [Bool.and_self, cond_true]
    cases p with
    | nil => exact on27n c n i x f r w h1 hx g0 g1 g2 g3
    | cons a p =>
      obtain ⟨w', h⟩ := on27l c (zs (a :: p)) (a :: p).length n i x f r w h1 hx g0 g1 g2 g3 hk
      refine ⟨w', ?_⟩
      rw [List.cons_append, OV_cons, OS_cons, OV_cons, OS_cons, show zs (a :: (p ++ [toS x f r])) = zs (a :: p) ++ [.int .i64 (toS x f r)] by simp [zs], show (a :: (p ++ [toS x f r])).length = (a :: p).length + 1 by simp]
      exact h
theorem mvd_len (f r : Int) (l : List Int) : (mvd f r l).length ≤ l.length := by
  unfold mvd
  rw [List.length_map]
  exact List.length_filter_le ..
theorem mvd_succ (f r : Int) (l : List Int) (i : Nat) (h : i < l.length) : mvd f r (l.take (i + 1)) = mvd f r (l.take i) ++ bif stays f r l[i] then [toS l[i] f r] else [] := by
  unfold mvd
  rw [List.take_succ_eq_append_getElem h, List.filter_append, List.map_append]
  congr 1
  cases e : stays f r l[i] <;> simp [List.filter, e]
theorem loop27 (l : List Int) (f r : Int) (n : Nat) (hl : l.length = n) (hn : n ≤ 64) : ∀ (k i : Nat) (w : Nat → Value), i + k = n →
    ∃ w', runW Tryd.prog env11 0 (.code ⟨27, none⟩ (.loop body27) (T27 f r (OV (mvd f r (l.take i))) (L (zs l) n 1 0) i w) []) (OS (mvd f r (l.take i))) =
      some (.done (.exit 0) (T27 f r (OV (mvd f r l)) (L (zs l) n 1 0) n w') [], OS (mvd f r l)) := by
  intro k
  induction k with
  | zero =>
    intro i w hi
    obtain rfl : i = n := by omega
    rw [List.take_of_length_le (by omega)]
    have : ∃ w', runW Tryd.prog env11 0 (.code ⟨27, none⟩ body27 (T27 f r (OV (mvd f r l)) (L (zs l) i 1 0) i w) []) (OS (mvd f r l)) = some (.done (.exit 0) (T27 f r (OV (mvd f r l)) (L (zs l) i 1 0) i w') [], OS (mvd f r l)) := by
      cases mvd f r l with
      | nil => exact end27n (zs l) i i f r w (by omega)
      | cons a p => exact end27l (zs l) _ _ i i f r w (by omega)
    obtain ⟨w', h⟩ := this
    exact ⟨w', loop_out (by intro h; cases h) h⟩
  | succ k ih =>
    intro i w hi
    have hil : i < l.length := by omega
    have hx : (zs l)[i]? = some (.int .i64 l[i]) := by rw [zs_get, List.getElem?_eq_getElem hil]; rfl
    have e1 : IntKind.i64.wrap ((i : Int) + 1) = ((i + 1 : Nat) : Int) := by rw [wrap64 (by omega) (by omega)]; rfl
    have hlen := mvd_len f r (l.take i)
    rw [List.length_take] at hlen
    obtain ⟨w1, h1⟩ := round27 (zs l) (mvd f r (l.take i)) n i l[i] f r w (by omega) hx (by omega)
    rw [e1, ← mvd_succ f r l i hil] at h1
    obtain ⟨w', h2⟩ := ih (i + 1) w1 (by omega)
    exact ⟨w', loop_next h1 h2⟩
end Go.Proofs.YtakchekhpeokjaaDoor

/-
  BITBOARD (chapter 05): what the document's Shift answers.
-/
namespace Go.Proofs.YtakchekhpeokjaaDoor
open Go.Va

theorem setOf_mem : ∀ (l : List Int) (a : BitVec 64) (j : Nat), j < 64 → (∀ n ∈ l, 0 ≤ n ∧ n < 64) → (l.foldl (fun x n => x ||| 1#64 <<< n.toNat) a).getLsbD j = (a.getLsbD j || decide ((j : Int) ∈ l))
  | [], a, j, _, _ => by simp
  | n :: l, a, j, hj, h => by
    have hn := h n (List.mem_cons_self ..)
    rw [List.foldl_cons, setOf_mem l _ j hj fun m hm => h m (List.mem_cons_of_mem _ hm), BitVec.getLsbD_or]
    have : (1#64 <<< n.toNat).getLsbD j = decide ((j : Int) = n) := by
      rw [BitVec.getLsbD_shiftLeft, BitVec.getLsbD_one]
      by_cases e : (j : Int) = n
      · have : j = n.toNat := by omega
        rw [decide_eq_true e, ← this]; simp [hj]
      · rw [decide_eq_false e]
        by_cases h2 : j < n.toNat
        · simp [h2]
        · have h3 : j - n.toNat ≠ 0 := by omega
          simp [h3]
    rw [this, Bool.or_assoc]
    congr 1
    by_cases e : (j : Int) = n <;> by_cases h : (j : Int) ∈ l <;> simp [e, h]
theorem toS_eq {i : Nat} {f r : Int} (hi : i < 64) (hf : -7 ≤ f ∧ f ≤ 7) (hr : -7 ≤ r ∧ r ≤ 7) : toF i f = i % 8 + f ∧ toR i r = i / 8 + r ∧ (stays f r i = true → toS i f r = 8 * ((i : Int) / 8 + r) + (i % 8 + f)) := by
  have e1 : toF i f = i % 8 + f := by
    unfold toF
    rw [Int.tmod_eq_emod_of_nonneg (by omega), wrap64 (by omega) (by omega)]
  have e2 : toR i r = i / 8 + r := by
    unfold toR
    rw [Int.tdiv_eq_ediv_of_nonneg (by omega), wrap64 (n := (i : Int) / 8) (by omega) (by omega), wrap64 (by omega) (by omega)]
  refine ⟨e1, e2, fun _ => ?_⟩
  unfold toS
  rw [e1, e2, wrap64 (n := 8 * ((i : Int) / 8 + r)) (by omega) (by omega), wrap64 (by omega) (by omega)]
theorem stays_iff {i : Nat} {f r : Int} (hi : i < 64) (hf : -7 ≤ f ∧ f ≤ 7) (hr : -7 ≤ r ∧ r ≤ 7) : stays f r i = true ↔ (0 ≤ (i : Int) % 8 + f ∧ (i : Int) % 8 + f < 8) ∧ 0 ≤ (i : Int) / 8 + r ∧ (i : Int) / 8 + r < 8 := by
  obtain ⟨e1, e2, _⟩ := toS_eq hi hf hr
  unfold stays inr
  rw [e1, e2]
  simp only [Bool.and_eq_true, decide_eq_true_eq]
theorem mvd_mem {x : BitVec 64} {f r : Int} (hf : -7 ≤ f ∧ f ≤ 7) (hr : -7 ≤ r ∧ r ≤ 7) {n : Int} : n ∈ mvd f r (natZ (bitsL x)) ↔ ∃ i : Nat, i < 64 ∧ x.getLsbD i = true ∧ stays f r i = true ∧ n = 8 * ((i : Int) / 8 + r) + (i % 8 + f) := by
  unfold mvd
  rw [List.mem_map]
  constructor
  · rintro ⟨a, ha, rfl⟩
    obtain ⟨h1, h2⟩ := List.mem_filter.1 ha
    obtain ⟨i, hi, rfl⟩ := List.mem_map.1 h1
    obtain ⟨h3, h4⟩ := bitsL_mem.1 hi
    exact ⟨i, h3, h4, h2, (toS_eq h3 hf hr).2.2 h2⟩
  · rintro ⟨i, h3, h4, h2, rfl⟩
    exact ⟨(i : Int), List.mem_filter.2 ⟨List.mem_map.2 ⟨i, bitsL_mem.2 ⟨h3, h4⟩, rfl⟩, h2⟩, (toS_eq h3 hf hr).2.2 h2⟩
theorem shift_of (x : BitVec 64) {f r : Int} (hf : -7 ≤ f ∧ f ≤ 7) (hr : -7 ≤ r ∧ r ≤ 7) : ofV (mvd f r (natZ (bitsL x))) = .tuple #[.int .u64 (shiftS (u x) f r), .int .i64 0] := by
  have hin : ∀ n ∈ mvd f r (natZ (bitsL x)), 0 ≤ n ∧ n < 64 := fun n hn => by
    obtain ⟨i, h3, _, h2, rfl⟩ := (mvd_mem hf hr).1 hn
    have := (stays_iff h3 hf hr).1 h2
    omega
  have h1 : (mvd f r (natZ (bitsL x))).all (fun n => inr n 64) = true := List.all_eq_true.2 fun n hn => inr_true (hin n hn).1 (hin n hn).2
  have h2 : setOf (mvd f r (natZ (bitsL x))) = shB x f r := by
    refine BitVec.eq_of_getLsbD_eq fun j hj => ?_
    unfold setOf
    rw [setOf_mem _ _ _ hj hin, shB_bit x hf.1 hf.2 hr.1 hr.2 j hj, BitVec.getLsbD_zero, Bool.false_or]
    refine Bool.eq_iff_iff.2 ?_
    rw [decide_eq_true_eq, mvd_mem hf hr]
    simp only [Bool.and_eq_true, inr, decide_eq_true_eq]
    constructor
    · rintro ⟨i, h3, h4, h5, e⟩
      have h5 := (stays_iff h3 hf hr).1 h5
      have e1 : (8 * ((j : Int) / 8 - r) + ((j : Int) % 8 - f)).toNat = i := by omega
      rw [e1]
      exact ⟨⟨by omega, by omega⟩, h4⟩
    · rintro ⟨⟨h6, h7⟩, h4⟩
      refine ⟨(8 * ((j : Int) / 8 - r) + ((j : Int) % 8 - f)).toNat, by omega, h4, (stays_iff (by omega) hf hr).2 (by omega), by omega⟩
  unfold ofV
  rw [h1, h2, cond_true, shiftS_u x hf.1 hf.2 hr.1 hr.2]
end Go.Proofs.YtakchekhpeokjaaDoor

/-
  BITBOARD (chapter 05): the document's Shift, as a function of plain values.
-/
namespace Go.Proofs.YtakchekhpeokjaaDoor
open Go.Va

theorem inr15 {f : Int} (hf : -9223372036854775808 ≤ f ∧ f ≤ 9223372036854775807) : inr (IntKind.i64.wrap (IntKind.i64.wrap (f + 8) - 1)) 15 = decide (-7 ≤ f ∧ f ≤ 7) := by
  have a := wrap_mod (f + 8)
  have b := wrap_mod (IntKind.i64.wrap (f + 8) - 1)
  refine Bool.eq_iff_iff.2 ?_
  simp only [inr, Bool.and_eq_true, decide_eq_true_eq]
  omega
theorem shiftS_out {s f r : Int} (hf : -9223372036854775808 ≤ f ∧ f ≤ 9223372036854775807) (hr : -9223372036854775808 ≤ r ∧ r ≤ 9223372036854775807) (h : ¬ ((-7 ≤ f ∧ f ≤ 7) ∧ -7 ≤ r ∧ r ≤ 7)) : shiftS s f r = 0 := by
  unfold shiftS
  rw [inr15 hf, inr15 hr, show (decide (-7 ≤ f ∧ f ≤ 7) && decide (-7 ≤ r ∧ r ≤ 7)) = false from by
    rw [← Bool.decide_and]; exact decide_eq_false h, cond_false]

set_option maxRecDepth 100000 in
theorem p27 (x : BitVec 64) (f r : Int) (hf : -9223372036854775808 ≤ f ∧ f ≤ 9223372036854775807) (hr : -9223372036854775808 ≤ r ∧ r ≤ 9223372036854775807) : Pure Tryd.prog 4 tabs 27 [.int .u64 (u x), .int .i64 f, .int .i64 r] (.int .u64 (shiftS (u x) f r)) := by
  cases g0 : decide (f < -7) with
  | true =>
    rw [shiftS_out hf hr (by have := of_decide_eq_true g0; omega)]
    exact pureT t11_ok fns11 (n := 100) (v := .int .u64 0) [(2, .br true)] [_] (by kernel_rfl) g0 rfl (.int _ _)
  | false =>
  cases g1 : decide (f > 7) with
  | true =>
    rw [shiftS_out hf hr (by have := of_decide_eq_true g1; omega)]
    exact pureT t11_ok fns11 (n := 100) (v := .int .u64 0) [(2, .br false), (2, .br true)] [_, _] (by kernel_rfl) ⟨g0, g1⟩ rfl (.int _ _)
  | false =>
  cases g2 : decide (r < -7) with
  | true =>
    rw [shiftS_out hf hr (by have := of_decide_eq_true g2; omega)]
    exact pureT t11_ok fns11 (n := 100) (v := .int .u64 0) [(2, .br false), (2, .br false), (3, .br true)] [_, _, _] (by kernel_rfl) ⟨g0, g1, g2⟩ rfl (.int _ _)
  | false =>
  cases g3 : decide (r > 7) with
  | true =>
    rw [shiftS_out hf hr (by have := of_decide_eq_true g3; omega)]
    exact pureT t11_ok fns11 (n := 100) (v := .int .u64 0) [(2, .br false), (2, .br false), (3, .br false), (3, .br true)] [_, _, _, _] (by kernel_rfl) ⟨g0, g1, g2, g3⟩ rfl (.int _ _)
  | false =>
  have hf' : -7 ≤ f ∧ f ≤ 7 := by
    have := of_decide_eq_false g0; have := of_decide_eq_false g1; omega
  have hr' : -7 ≤ r ∧ r ≤ 7 := by
    have := of_decide_eq_false g2; have := of_decide_eq_false g3; omega
  have hl := bitsL_length x
  have hof := shift_of x hf' hr'
  have h26 := fun σ => ov11_26 x 0 σ
  cases hp : bitsL x with
  | nil =>
    rw [hp] at hof h26
    have h43 : ∀ σ, env11.ov 43 [.slice none 0 0] 0 σ = some (.tuple #[.int .u64 (shiftS (u x) f r), .int .i64 0], σ) := fun σ => by
      rw [ov11_43 (a' := .slice none 0 0) 0 σ rfl IsZ_nil, ← hof]; rfl
    exact pureT t11_ok fns11 (n := 100) (v := .int .u64 (shiftS (u x) f r)) [(2, .br false), (2, .br false), (3, .br false), (3, .br false), (4, .ov (.slice none 0 0)), (9, .ov (.tuple #[.int .u64 (shiftS (u x) f r), .int .i64 0]))] [_, _, _, _, _, _] (by kernel_rfl) ⟨g0, g1, g2, g3, h26, h43⟩ rfl (.int _ _)
  | cons a p =>
    rw [hp] at hof h26 hl
    have hz : (natZ (a :: p)).length = (a :: p).length := natZ_len _
    obtain ⟨w', h⟩ := loop27 (natZ (a :: p)) f r (a :: p).length hz hl (a :: p).length 0 (fun j => Go.Va.look [(0, Value.int .u64 (u x)), (6, .int .u64 0), (14, .int .i64 f), (15, .bool false), (16, .bool false), (17, .int .i64 f), (18, .bool false), (19, .bool false), (20, .bool false), (21, .int .i64 r), (22, .bool false), (23, .bool false), (24, .bool false), (25, .int .i64 r), (26, .bool false), (27, .bool false), (28, .int .u64 (u x)), (29, L (ints (a :: p)) (a :: p).length 1 0)] j undef) (by omega)
    rw [zs_natZ, show mvd f r ((natZ (a :: p)).take 0) = [] from rfl, show OV [] = .slice none 0 0 from rfl, show OS [] = base0 4 tabs from rfl, show ((0 : Nat) : Int) = 0 from rfl] at h
    have hlm := mvd_len f r (natZ (a :: p))
    generalize mvd f r (natZ (a :: p)) = m at h hof hlm
    cases m with
    | nil =>
      rw [show OV [] = .slice none 0 0 from rfl, show OS [] = base0 4 tabs from rfl] at h
      have h43 : ∀ σ, env11.ov 43 [.slice none 0 0] 0 σ = some (.tuple #[.int .u64 (shiftS (u x) f r), .int .i64 0], σ) := fun σ => by
        rw [ov11_43 (a' := .slice none 0 0) 0 σ rfl IsZ_nil, ← hof]; rfl
      exact pureT t11_ok fns11 (n := 100) (v := .int .u64 (shiftS (u x) f r)) [(2, .br false), (2, .br false), (3, .br false), (3, .br false), (4, .ov (L (ints (a :: p)) (a :: p).length 1 0)), (2, .skip (.done (.exit 0) (T27 f r (.slice none 0 0) (L (ints (a :: p)) (a :: p).length 1 0) (a :: p).length w') []) (base0 4 tabs)), (1, .ov (.tuple #[.int .u64 (shiftS (u x) f r), .int .i64 0]))]
        [_, _, _, _, _, _, _] (by kernel_rfl) ⟨g0, g1, g2, g3, h26, h, h43⟩ rfl (.int _ _)
    | cons b q =>
      rw [OV_cons, OS_cons] at h
      have hz : IsZ (L (zs (b :: q)) (b :: q).length 1 0) (b :: q) := .inr ⟨0, by simp, rfl, by omega⟩
      have h43 : ∀ σ, env11.ov 43 [L (zs (b :: q)) (b :: q).length 1 6] 0 σ = some (.tuple #[.int .u64 (shiftS (u x) f r), .int .i64 0], σ) := fun σ => by
        rw [ov11_43 (a' := L (zs (b :: q)) (b :: q).length 1 0) 0 σ rfl hz, hof]
      exact pureT t11_ok fns11 (n := 100) (v := .int .u64 (shiftS (u x) f r)) [(2, .br false), (2, .br false), (3, .br false), (3, .br false), (4, .ov (L (ints (a :: p)) (a :: p).length 1 0)), (2, .skip (.done (.exit 0) (T27 f r (L (zs (b :: q)) (b :: q).length 1 6) (L (ints (a :: p)) (a :: p).length 1 0) (a :: p).length w') []) (R1 (zs (b :: q)))), (1, .ov (.tuple #[.int .u64 (shiftS (u x) f r), .int .i64 0]))]
        [_, _, _, _, _, _, _] (by kernel_rfl) ⟨g0, g1, g2, g3, h26, h, h43⟩ rfl (.int _ _)
end Go.Proofs.YtakchekhpeokjaaDoor

/-
  BITBOARD (chapter 05): the text of a set; the document's Text.
-/
namespace Go.Proofs.YtakchekhpeokjaaDoor
open Go.Va

def dotx (b : Bool) : UInt8 := bif b then 120 else 46
/-- The first f places of the rank r. -/
def rowB (x : BitVec 64) (r f : Nat) : List UInt8 := (List.range f).map fun j => dotx (x.getLsbD (8 * r + j))
/-- The k upper ranks. -/
def topB (x : BitVec 64) : Nat → List UInt8
  | 0 => []
  | k + 1 => topB x k ++ (rowB x (7 - k) 8 ++ [10])
def str (l : List UInt8) : ByteArray := ⟨l.toArray⟩
def textS (x : BitVec 64) : ByteArray := str (topB x 8)
theorem topB_succ (x : BitVec 64) (k : Nat) : topB x (k + 1) = topB x k ++ (rowB x (7 - k) 8 ++ [10]) := rfl
theorem str_app (a b : List UInt8) : str a ++ str b = str (a ++ b) := by
  apply ba_ext
  unfold str
  simp [ByteArray.data_append]
theorem str_size (a : List UInt8) : (str a).size = a.length := by
  show a.toArray.size = _
  simp
theorem rowB_len (x : BitVec 64) (r f : Nat) : (rowB x r f).length = f := by unfold rowB; simp
theorem rowB_succ (x : BitVec 64) (r f : Nat) : rowB x r (f + 1) = rowB x r f ++ [dotx (x.getLsbD (8 * r + f))] := by
  unfold rowB
  rw [List.range_succ, List.map_append]; rfl
theorem topB_len (x : BitVec 64) : ∀ k, (topB x k).length = 9 * k
  | 0 => rfl
  | k + 1 => by
    unfold topB
    rw [List.length_append, topB_len x k, List.length_append, rowB_len]; simp; omega

theorem ov11_23 (x : BitVec 64) (n : Int) (lim : Nat) (σ : AS) : env11.ov 23 [.int .u64 (u x), .int .i64 n] lim σ = some (.bool (hasS (u x) n), σ) :=
  envK rfl rfl rfl rfl (by unfold t11 t10 t9; rw [pfT_ne rfl, pfT_ne rfl, pfT_ne rfl, pfT_eq]; unfold k23; dsimp only; rw [inU_u, cond_true])

noncomputable def body33 : Code := codeOf Tryd.prog 33 [.r, .r, .l, .r, .b, .b]
noncomputable def body33i : Code := codeOf Tryd.prog 33 [.r, .r, .l, .r, .b, .b, .r, .l, .b, .l, .r, .b, .b]
def T33 (x : Int) (s : ByteArray) (r f : Int) (w : Nat → Value) : List Value := fillT 27 [(0, .int .u64 x), (3, .string s), (4, .int .i64 r), (5, .int .i64 f)] w
def T33' (x : Int) (s : ByteArray) (r : Int) (w : Nat → Value) : List Value := fillT 27 [(0, .int .u64 x), (3, .string s), (4, .int .i64 r)] w
def plc (r f : Int) : Int := IntKind.i64.wrap (IntKind.i64.wrap (8 * r) + f)

theorem on33 (x r f : Int) (s : ByteArray) (σ : AS) (w : Nat → Value) (h1 : decide (f < 8) = true) (h2 : ∀ σ, env11.ov 23 [.int .u64 x, .int .i64 (plc r f)] 0 σ = some (.bool true, σ)) (h3 : ((s.size + (ByteArray.mk #[120]).size : Nat) : Int) ≤ IntKind.i64.max) :
    ∃ w', runW Tryd.prog env11 0 (.code ⟨33, none⟩ body33i (T33 x s r f w) []) σ = some (.done .normal (T33 x (s ++ ⟨#[120]⟩) r (IntKind.i64.wrap (f + 1)) w') [], σ) :=
  seg 100 [(1, .br true), (6, .ov (.bool true)), (2, .ok)] (m := 27) (js := [0, 3, 4, 5]) (vs := [.int .u64 x, .string (s ++ ⟨#[120]⟩), .int .i64 r, .int .i64 (IntKind.i64.wrap (f + 1))])
    (ob := [decide (f < 8) = true, (∀ σ, env11.ov 23 [.int .u64 x, .int .i64 (plc r f)] 0 σ = some (.bool true, σ)), ((s.size + (ByteArray.mk #[120]).size : Nat) : Int) ≤ IntKind.i64.max]) (by kernel_rfl) ⟨h1, h2, h3⟩
theorem off33 (x r f : Int) (s : ByteArray) (σ : AS) (w : Nat → Value) (h1 : decide (f < 8) = true) (h2 : ∀ σ, env11.ov 23 [.int .u64 x, .int .i64 (plc r f)] 0 σ = some (.bool false, σ)) (h3 : ((s.size + (ByteArray.mk #[46]).size : Nat) : Int) ≤ IntKind.i64.max) :
    ∃ w', runW Tryd.prog env11 0 (.code ⟨33, none⟩ body33i (T33 x s r f w) []) σ = some (.done .normal (T33 x (s ++ ⟨#[46]⟩) r (IntKind.i64.wrap (f + 1)) w') [], σ) :=
  seg 100 [(1, .br true), (6, .ov (.bool false)), (2, .ok)] (m := 27) (js := [0, 3, 4, 5]) (vs := [.int .u64 x, .string (s ++ ⟨#[46]⟩), .int .i64 r, .int .i64 (IntKind.i64.wrap (f + 1))])
    (ob := [decide (f < 8) = true, (∀ σ, env11.ov 23 [.int .u64 x, .int .i64 (plc r f)] 0 σ = some (.bool false, σ)), ((s.size + (ByteArray.mk #[46]).size : Nat) : Int) ≤ IntKind.i64.max]) (by kernel_rfl) ⟨h1, h2, h3⟩
theorem end33i (x r f : Int) (s : ByteArray) (σ : AS) (w : Nat → Value) (h1 : decide (f < 8) = false) :
    ∃ w', runW Tryd.prog env11 0 (.code ⟨33, none⟩ body33i (T33 x s r f w) []) σ = some (.done (.exit 2) (T33 x s r f w') [], σ) :=
  seg 100 [(1, .br false)] (m := 27) (js := [0, 3, 4, 5]) (vs := [.int .u64 x, .string s, .int .i64 r, .int .i64 f]) (ob := [decide (f < 8) = false]) (by kernel_rfl) h1

theorem size_ok {n : Nat} (h : n < 1000) (m : Nat) (hm : m < 1000) : ((n + m : Nat) : Int) ≤ IntKind.i64.max := by
  show ((n + m : Nat) : Int) ≤ 9223372036854775807
  omega
theorem loop33i (x : BitVec 64) (r : Nat) (hr : r < 8) (p : List UInt8) (hp : p.length < 900) (σ : AS) : ∀ (k f : Nat) (w : Nat → Value), f + k = 8 →
    ∃ w', runW Tryd.prog env11 0 (.code ⟨33, none⟩ (.loop body33i) (T33 (u x) (str (p ++ rowB x r f)) r f w) []) σ = some (.done (.exit 2) (T33 (u x) (str (p ++ rowB x r 8)) r 8 w') [], σ) := by
  intro k
  induction k with
  | zero =>
    intro f w hf
    obtain rfl : f = 8 := by omega
    obtain ⟨w', h⟩ := end33i (u x) r 8 (str (p ++ rowB x r 8)) σ w (by decide)
    exact ⟨w', loop_out (by intro h; cases h) h⟩
  | succ k ih =>
    intro f w hf
    have hpl : plc r f = ((8 * r + f : Nat) : Int) := by
      unfold plc
      rw [wrap64 (n := 8 * (r : Int)) (by omega) (by omega), wrap64 (by omega) (by omega)]
      omega
    have hov : ∀ σ, env11.ov 23 [.int .u64 (u x), .int .i64 (plc r f)] 0 σ = some (.bool (x.getLsbD (8 * r + f)), σ) := fun σ => by
      rw [ov11_23, hpl, hasS_u x _ (by omega) (by omega), Int.toNat_natCast]
    have hlt : decide ((f : Int) < 8) = true := decide_eq_true (by omega)
    have e1 : IntKind.i64.wrap ((f : Int) + 1) = ((f + 1 : Nat) : Int) := by rw [wrap64 (by omega) (by omega)]; rfl
    have hsz : (str (p ++ rowB x r f)).size < 1000 := by rw [str_size, List.length_append, rowB_len]; omega
    have e2 : ∀ b : UInt8, str (p ++ rowB x r f) ++ ⟨#[b]⟩ = str (p ++ (rowB x r f ++ [b])) := fun b => by
      rw [← List.append_assoc]; exact str_app _ [b]
    have : ∃ w', runW Tryd.prog env11 0 (.code ⟨33, none⟩ body33i (T33 (u x) (str (p ++ rowB x r f)) r f w) []) σ = some (.done .normal (T33 (u x) (str (p ++ rowB x r (f + 1))) r ((f + 1 : Nat) : Int) w') [], σ) := by
      rw [rowB_succ, ← e1]
      cases hb : x.getLsbD (8 * r + f) with
      | true =>
        rw [hb] at hov
        obtain ⟨w', h⟩ := on33 (u x) r f (str (p ++ rowB x r f)) σ w hlt hov (size_ok hsz _ (by decide))
        rw [e2] at h
        exact ⟨w', h⟩
      | false =>
        rw [hb] at hov
        obtain ⟨w', h⟩ := off33 (u x) r f (str (p ++ rowB x r f)) σ w hlt hov (size_ok hsz _ (by decide))
        rw [e2] at h
        exact ⟨w', h⟩
    obtain ⟨w1, h1⟩ := this
    obtain ⟨w', h2⟩ := ih (f + 1) w1 (by omega)
    exact ⟨w', loop_next h1 h2⟩

theorem out33 (x r : Int) (s s' : ByteArray) (σ : AS) (w : Nat → Value) (h1 : decide (r ≥ 0) = true)
    (h2 : ∀ w, ∃ w', runW Tryd.prog env11 0 (.code ⟨33, none⟩ (.loop body33i) (T33 x s r 0 w) []) σ = some (.done (.exit 2) (T33 x s' r 8 w') [], σ)) (h3 : ((s'.size + (ByteArray.mk #[10]).size : Nat) : Int) ≤ IntKind.i64.max) :
    ∃ w', runW Tryd.prog env11 0 (.code ⟨33, none⟩ body33 (T33' x s r w) []) σ = some (.done .normal (T33' x (s' ++ ⟨#[10]⟩) (IntKind.i64.wrap (r - 1)) w') [], σ) := by
  obtain ⟨w1, h⟩ := h2 (fun j => Go.Va.look [(6, .int .i64 r), (7, .bool true)] j (w j))
  exact seg 100 [(1, .br true), (2, .skip (.done (.exit 2) (T33 x s' r 8 w1) []) σ), (1, .ok)] (m := 27) (js := [0, 3, 4]) (vs := [.int .u64 x, .string (s' ++ ⟨#[10]⟩), .int .i64 (IntKind.i64.wrap (r - 1))])
    (ob := [decide (r ≥ 0) = true, runW Tryd.prog env11 0 (.code ⟨33, none⟩ (.loop body33i) (T33 x s r 0 (fun j => Go.Va.look [(6, .int .i64 r), (7, .bool true)] j (w j))) []) σ = some (.done (.exit 2) (T33 x s' r 8 w1) [], σ), ((s'.size + (ByteArray.mk #[10]).size : Nat) : Int) ≤ IntKind.i64.max]) (by kernel_rfl) ⟨h1, h, h3⟩
theorem end33 (x r : Int) (s : ByteArray) (σ : AS) (w : Nat → Value) (h1 : decide (r ≥ 0) = false) :
    ∃ w', runW Tryd.prog env11 0 (.code ⟨33, none⟩ body33 (T33' x s r w) []) σ = some (.done (.exit 0) (T33' x s r w') [], σ) :=
  seg 100 [(1, .br false)] (m := 27) (js := [0, 3, 4]) (vs := [.int .u64 x, .string s, .int .i64 r]) (ob := [decide (r ≥ 0) = false]) (by kernel_rfl) h1
theorem loop33 (x : BitVec 64) (σ : AS) : ∀ (k : Nat) (w : Nat → Value), k ≤ 8 →
    ∃ w', runW Tryd.prog env11 0 (.code ⟨33, none⟩ (.loop body33) (T33' (u x) (str (topB x (8 - k))) ((k : Int) - 1) w) []) σ = some (.done (.exit 0) (T33' (u x) (textS x) (-1) w') [], σ) := by
  intro k
  induction k with
  | zero =>
    intro w _
    obtain ⟨w', h⟩ := end33 (u x) (-1) (textS x) σ w (by decide)
    exact ⟨w', loop_out (by intro h; cases h) h⟩
  | succ k ih =>
    intro w hk
    have hlen : (topB x (8 - (k + 1))).length < 900 := by rw [topB_len]; omega
    have e0 : (((k + 1 : Nat) : Int) - 1) = (k : Int) := by omega
    have e1 : IntKind.i64.wrap ((k : Int) - 1) = (k : Int) - 1 := wrap64 (by omega) (by omega)
    have e2 : str (topB x (8 - (k + 1)) ++ rowB x k 8) ++ ⟨#[10]⟩ = str (topB x (8 - k)) := by
      rw [show (⟨#[10]⟩ : ByteArray) = str [10] from rfl, str_app, show 8 - k = (8 - (k + 1)) + 1 by omega, topB_succ, show 7 - (8 - (k + 1)) = k by omega, List.append_assoc]
    obtain ⟨w1, h1⟩ := out33 (u x) k (str (topB x (8 - (k + 1)))) (str (topB x (8 - (k + 1)) ++ rowB x k 8)) σ w (decide_eq_true (by omega))
      (fun w => by
        have := loop33i x k (by omega) (topB x (8 - (k + 1))) hlen σ 8 0 w rfl
        rw [show rowB x k 0 = [] from rfl, List.append_nil] at this
        exact this) (size_ok (by rw [str_size, List.length_append, rowB_len]; omega) _ (by decide))
    rw [e1, e2] at h1
    obtain ⟨w', h2⟩ := ih w1 (by omega)
    rw [e0]
    exact ⟨w', loop_next h1 h2⟩

theorem p33 (x : BitVec 64) : Pure Tryd.prog 4 tabs 33 [.int .u64 (u x)] (.string (textS x)) := by
  obtain ⟨w', h⟩ := loop33 x (base0 4 tabs) 8 (fun j => Go.Va.look [(2, Value.string ⟨#[]⟩)] j undef) (by omega)
  rw [show str (topB x (8 - 8)) = ⟨#[]⟩ from rfl, show (((8 : Nat) : Int) - 1) = 7 from rfl] at h
  exact pureT t11_ok fns11 (n := 100) (v := .string (textS x)) [(3, .skip (.done (.exit 0) (T33' (u x) (textS x) (-1) w') []) (base0 4 tabs))] [_] (by kernel_rfl) h rfl (.string _)
end Go.Proofs.YtakchekhpeokjaaDoor
