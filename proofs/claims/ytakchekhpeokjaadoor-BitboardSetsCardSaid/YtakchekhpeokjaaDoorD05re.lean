/-
  BITBOARD (chapter 05): the document's Flip and Mirror. Printed by gen05re.py.
-/
import Derived.Test.YtakchekhpeokjaaDoorD05rd
namespace Go.Proofs.YtakchekhpeokjaaDoor
open Go.Va

noncomputable def t11 : Ktab := (26, k15) :: t10
theorem p26k : KOk Tryd.prog 4 tabs 26 k15 := KOk_u p26 fun args v h => by
  unfold k15 at h
  split at h
  · rename_i s
    cases hs : inU s with
    | false => rw [hs] at h; cases h
    | true => rw [hs] at h; cases h; exact ⟨s, rfl, hs, rfl⟩
  · cases h
theorem t11_ok : TOk Tryd.prog 4 tabs t11 := ⟨p26k, t10_ok⟩
noncomputable def env11 : Env := envT t11
set_option maxRecDepth 100000 in
theorem fns11 : fnB Tryd.prog 4 env11 okL = true := by kernel_rfl
theorem ov11_26 (x : BitVec 64) (lim : Nat) (σ : AS) : env11.ov 26 [.int .u64 (u x)] lim σ = some (lstV (bitsL x), σ) :=
  envK rfl rfl rfl rfl (by unfold t11; rw [pfT_eq]; exact k15_u x)
theorem ov11_43 {a a' : Value} {l : List Int} (lim : Nat) (σ : AS) (ea : strip a = a') (ha : IsZ a' l) : env11.ov 43 [a] lim σ = some (ofV l, σ) :=
  envZ rfl rfl ea ha (by unfold t11 t10; rw [pfT_ne rfl, pfT_eq]; unfold k36; dsimp only; rw [zl_eq ha])

noncomputable def body29 : Code := codeOf Tryd.prog 29 [.r, .r, .r, .l, .r, .b, .b]
def T29 (o v : Value) (i : Int) (w : Nat → Value) : List Value := fillT 38 [(3, o), (4, v), (5, .int .i64 i)] w
theorem first29 (c : List Value) (n i : Nat) (x : Int) (w : Nat → Value) (h1 : i < n) (hx : c[i]? = some (.int .i64 x)) :
    ∃ w', runW Tryd.prog env11 0 (.code ⟨29, none⟩ body29 (T29 (.slice none 0 0) (L c n 1 0) i w) []) (base0 4 tabs) = some (.done .normal (T29 (L [.int .i64 (flipAt x)] 1 1 6) (L c n 1 0) (IntKind.i64.wrap ((i : Int) + 1)) w') [], R1 [.int .i64 (flipAt x)]) :=
  seg 100 [(3, .br true), (4, .ok), (0, .is (.int .i64 x)), (5, .ok), (0, .is (.int .i64 x))] (m := 38) (js := [3, 4, 5]) (vs := [L [.int .i64 (flipAt x)] 1 1 6, L c n 1 0, .int .i64 (IntKind.i64.wrap ((i : Int) + 1))])
    (ob := [decide ((i : Int) < n) = true, (0 : Int) ≤ i ∧ (i : Int) < n, c[i * 1]? = some (.int .i64 x), (0 : Int) ≤ i ∧ (i : Int) < n, c[i * 1]? = some (.int .i64 x)]) (by kernel_rfl) ⟨decide_eq_true (by omega), ⟨by omega, by omega⟩, by rw [Nat.mul_one]; exact hx, ⟨by omega, by omega⟩, by rw [Nat.mul_one]; exact hx⟩
theorem next29 (c d : List Value) (n k i : Nat) (x : Int) (w : Nat → Value) (h1 : i < n) (hx : c[i]? = some (.int .i64 x)) (hk : k < 99) :
    ∃ w', runW Tryd.prog env11 0 (.code ⟨29, none⟩ body29 (T29 (L d k 1 6) (L c n 1 0) i w) []) (R1 d) = some (.done .normal (T29 (L (d ++ [.int .i64 (flipAt x)]) (k + 1) 1 6) (L c n 1 0) (IntKind.i64.wrap ((i : Int) + 1)) w') [], R1 (d ++ [.int .i64 (flipAt x)])) :=
  seg 100 [(3, .br true), (4, .ok), (0, .is (.int .i64 x)), (5, .ok), (0, .is (.int .i64 x)), (3, .ok)] (m := 38) (js := [3, 4, 5]) (vs := [L (d ++ [.int .i64 (flipAt x)]) (k + 1) 1 6, L c n 1 0, .int .i64 (IntKind.i64.wrap ((i : Int) + 1))])
    (ob := [decide ((i : Int) < n) = true, (0 : Int) ≤ i ∧ (i : Int) < n, c[i * 1]? = some (.int .i64 x), (0 : Int) ≤ i ∧ (i : Int) < n, c[i * 1]? = some (.int .i64 x), d.length = d.length ∧ (k + 1) * 8 ≤ 70368744177664]) (by kernel_rfl) ⟨decide_eq_true (by omega), ⟨by omega, by omega⟩, by rw [Nat.mul_one]; exact hx, ⟨by omega, by omega⟩, by rw [Nat.mul_one]; exact hx, rfl, by omega⟩
theorem end29 (c d : List Value) (n k : Nat) (i : Int) (w : Nat → Value) (h1 : (n : Int) ≤ i) :
    ∃ w', runW Tryd.prog env11 0 (.code ⟨29, none⟩ body29 (T29 (L d k 1 6) (L c n 1 0) i w) []) (R1 d) = some (.done (.exit 0) (T29 (L d k 1 6) (L c n 1 0) i w') [], R1 d) :=
  seg 100 [(3, .br false)] (m := 38) (js := [3, 4, 5]) (vs := [L d k 1 6, L c n 1 0, .int .i64 i]) (ob := [decide (i < n) = false]) (by kernel_rfl) (decide_eq_false (by omega))
theorem loop29 (l : List Int) (n : Nat) (hl : l.length = n) (hn : n ≤ 64) : ∀ (k i : Nat) (w : Nat → Value), i + k = n → 0 < i →
    ∃ w', runW Tryd.prog env11 0 (.code ⟨29, none⟩ (.loop body29) (T29 (L (zs ((l.take i).map flipAt)) i 1 6) (L (zs l) n 1 0) i w) []) (R1 (zs ((l.take i).map flipAt))) =
      some (.done (.exit 0) (T29 (L (zs (l.map flipAt)) n 1 6) (L (zs l) n 1 0) n w') [], R1 (zs (l.map flipAt))) := by
  intro k
  induction k with
  | zero =>
    intro i w hi h0
    obtain rfl : i = n := by omega
    rw [List.take_of_length_le (by omega)]
    obtain ⟨w', h⟩ := end29 (zs l) (zs (l.map flipAt)) i i i w (by omega)
    exact ⟨w', loop_out (by intro h; cases h) h⟩
  | succ k ih =>
    intro i w hi h0
    have hil : i < l.length := by omega
    have hx : (zs l)[i]? = some (.int .i64 l[i]) := by rw [zs_get, List.getElem?_eq_getElem hil]; rfl
    have e1 : IntKind.i64.wrap ((i : Int) + 1) = ((i + 1 : Nat) : Int) := by rw [wrap64 (by omega) (by omega)]; rfl
    obtain ⟨w1, h1⟩ := next29 (zs l) (zs ((l.take i).map flipAt)) n i i l[i] w (by omega) hx (by omega)
    have e2 : zs ((l.take i).map flipAt) ++ [.int .i64 (flipAt l[i])] = zs ((l.take (i + 1)).map flipAt) := by
      rw [List.take_succ_eq_append_getElem hil, List.map_append]; simp [zs]
    rw [e1, e2] at h1
    obtain ⟨w', h2⟩ := ih (i + 1) w1 (by omega) (by omega)
    exact ⟨w', loop_next h1 h2⟩
theorem loop29_all (l : List Int) (n : Nat) (hl : l.length = n) (hn : n ≤ 64) (h0 : 0 < n) (w : Nat → Value) :
    ∃ w', runW Tryd.prog env11 0 (.code ⟨29, none⟩ (.loop body29) (T29 (.slice none 0 0) (L (zs l) n 1 0) 0 w) []) (base0 4 tabs) =
      some (.done (.exit 0) (T29 (L (zs (l.map flipAt)) n 1 6) (L (zs l) n 1 0) n w') [], R1 (zs (l.map flipAt))) := by
  have hil : 0 < l.length := by omega
  have hx : (zs l)[0]? = some (.int .i64 l[0]) := by rw [zs_get, List.getElem?_eq_getElem hil]; rfl
  obtain ⟨w1, h1⟩ := first29 (zs l) n 0 l[0] w h0 hx
  have e1 : IntKind.i64.wrap (((0 : Nat) : Int) + 1) = ((1 : Nat) : Int) := rfl
  have e2 : [Value.int .i64 (flipAt l[0])] = zs ((l.take 1).map flipAt) := by
    cases l with
    | nil => cases hil
    | cons a l => rfl
  rw [e1, e2] at h1
  obtain ⟨w', h2⟩ := loop29 l n hl hn (n - 1) 1 w1 (by omega) (by omega)
  exact ⟨w', loop_next h1 h2⟩

noncomputable def body31 : Code := codeOf Tryd.prog 31 [.r, .r, .r, .l, .r, .b, .b]
def T31 (o v : Value) (i : Int) (w : Nat → Value) : List Value := fillT 42 [(3, o), (4, v), (5, .int .i64 i)] w
theorem first31 (c : List Value) (n i : Nat) (x : Int) (w : Nat → Value) (h1 : i < n) (hx : c[i]? = some (.int .i64 x)) :
    ∃ w', runW Tryd.prog env11 0 (.code ⟨31, none⟩ body31 (T31 (.slice none 0 0) (L c n 1 0) i w) []) (base0 4 tabs) = some (.done .normal (T31 (L [.int .i64 (mirAt x)] 1 1 6) (L c n 1 0) (IntKind.i64.wrap ((i : Int) + 1)) w') [], R1 [.int .i64 (mirAt x)]) :=
  seg 100 [(3, .br true), (4, .ok), (0, .is (.int .i64 x)), (2, .ok), (0, .is (.int .i64 x)), (5, .ok), (0, .is (.int .i64 x))] (m := 42) (js := [3, 4, 5]) (vs := [L [.int .i64 (mirAt x)] 1 1 6, L c n 1 0, .int .i64 (IntKind.i64.wrap ((i : Int) + 1))])
    (ob := [decide ((i : Int) < n) = true, (0 : Int) ≤ i ∧ (i : Int) < n, c[i * 1]? = some (.int .i64 x), (0 : Int) ≤ i ∧ (i : Int) < n, c[i * 1]? = some (.int .i64 x), (0 : Int) ≤ i ∧ (i : Int) < n, c[i * 1]? = some (.int .i64 x)]) (by kernel_rfl) ⟨decide_eq_true (by omega), ⟨by omega, by omega⟩, by rw [Nat.mul_one]; exact hx, ⟨by omega, by omega⟩, by rw [Nat.mul_one]; exact hx, ⟨by omega, by omega⟩, by rw [Nat.mul_one]; exact hx⟩
theorem next31 (c d : List Value) (n k i : Nat) (x : Int) (w : Nat → Value) (h1 : i < n) (hx : c[i]? = some (.int .i64 x)) (hk : k < 99) :
    ∃ w', runW Tryd.prog env11 0 (.code ⟨31, none⟩ body31 (T31 (L d k 1 6) (L c n 1 0) i w) []) (R1 d) = some (.done .normal (T31 (L (d ++ [.int .i64 (mirAt x)]) (k + 1) 1 6) (L c n 1 0) (IntKind.i64.wrap ((i : Int) + 1)) w') [], R1 (d ++ [.int .i64 (mirAt x)])) :=
  seg 100 [(3, .br true), (4, .ok), (0, .is (.int .i64 x)), (2, .ok), (0, .is (.int .i64 x)), (5, .ok), (0, .is (.int .i64 x)), (3, .ok)] (m := 42) (js := [3, 4, 5]) (vs := [L (d ++ [.int .i64 (mirAt x)]) (k + 1) 1 6, L c n 1 0, .int .i64 (IntKind.i64.wrap ((i : Int) + 1))])
    (ob := [decide ((i : Int) < n) = true, (0 : Int) ≤ i ∧ (i : Int) < n, c[i * 1]? = some (.int .i64 x), (0 : Int) ≤ i ∧ (i : Int) < n, c[i * 1]? = some (.int .i64 x), (0 : Int) ≤ i ∧ (i : Int) < n, c[i * 1]? = some (.int .i64 x), d.length = d.length ∧ (k + 1) * 8 ≤ 70368744177664]) (by kernel_rfl) ⟨decide_eq_true (by omega), ⟨by omega, by omega⟩, by rw [Nat.mul_one]; exact hx, ⟨by omega, by omega⟩, by rw [Nat.mul_one]; exact hx, ⟨by omega, by omega⟩, by rw [Nat.mul_one]; exact hx, rfl, by omega⟩
theorem end31 (c d : List Value) (n k : Nat) (i : Int) (w : Nat → Value) (h1 : (n : Int) ≤ i) :
    ∃ w', runW Tryd.prog env11 0 (.code ⟨31, none⟩ body31 (T31 (L d k 1 6) (L c n 1 0) i w) []) (R1 d) = some (.done (.exit 0) (T31 (L d k 1 6) (L c n 1 0) i w') [], R1 d) :=
  seg 100 [(3, .br false)] (m := 42) (js := [3, 4, 5]) (vs := [L d k 1 6, L c n 1 0, .int .i64 i]) (ob := [decide (i < n) = false]) (by kernel_rfl) (decide_eq_false (by omega))
theorem loop31 (l : List Int) (n : Nat) (hl : l.length = n) (hn : n ≤ 64) : ∀ (k i : Nat) (w : Nat → Value), i + k = n → 0 < i →
    ∃ w', runW Tryd.prog env11 0 (.code ⟨31, none⟩ (.loop body31) (T31 (L (zs ((l.take i).map mirAt)) i 1 6) (L (zs l) n 1 0) i w) []) (R1 (zs ((l.take i).map mirAt))) =
      some (.done (.exit 0) (T31 (L (zs (l.map mirAt)) n 1 6) (L (zs l) n 1 0) n w') [], R1 (zs (l.map mirAt))) := by
  intro k
  induction k with
  | zero =>
    intro i w hi h0
    obtain rfl : i = n := by omega
    rw [List.take_of_length_le (by omega)]
    obtain ⟨w', h⟩ := end31 (zs l) (zs (l.map mirAt)) i i i w (by omega)
    exact ⟨w', loop_out (by intro h; cases h) h⟩
  | succ k ih =>
    intro i w hi h0
    have hil : i < l.length := by omega
    have hx : (zs l)[i]? = some (.int .i64 l[i]) := by rw [zs_get, List.getElem?_eq_getElem hil]; rfl
    have e1 : IntKind.i64.wrap ((i : Int) + 1) = ((i + 1 : Nat) : Int) := by rw [wrap64 (by omega) (by omega)]; rfl
    obtain ⟨w1, h1⟩ := next31 (zs l) (zs ((l.take i).map mirAt)) n i i l[i] w (by omega) hx (by omega)
    have e2 : zs ((l.take i).map mirAt) ++ [.int .i64 (mirAt l[i])] = zs ((l.take (i + 1)).map mirAt) := by
      rw [List.take_succ_eq_append_getElem hil, List.map_append]; simp [zs]
    rw [e1, e2] at h1
    obtain ⟨w', h2⟩ := ih (i + 1) w1 (by omega) (by omega)
    exact ⟨w', loop_next h1 h2⟩
theorem loop31_all (l : List Int) (n : Nat) (hl : l.length = n) (hn : n ≤ 64) (h0 : 0 < n) (w : Nat → Value) :
    ∃ w', runW Tryd.prog env11 0 (.code ⟨31, none⟩ (.loop body31) (T31 (.slice none 0 0) (L (zs l) n 1 0) 0 w) []) (base0 4 tabs) =
      some (.done (.exit 0) (T31 (L (zs (l.map mirAt)) n 1 6) (L (zs l) n 1 0) n w') [], R1 (zs (l.map mirAt))) := by
  have hil : 0 < l.length := by omega
  have hx : (zs l)[0]? = some (.int .i64 l[0]) := by rw [zs_get, List.getElem?_eq_getElem hil]; rfl
  obtain ⟨w1, h1⟩ := first31 (zs l) n 0 l[0] w h0 hx
  have e1 : IntKind.i64.wrap (((0 : Nat) : Int) + 1) = ((1 : Nat) : Int) := rfl
  have e2 : [Value.int .i64 (mirAt l[0])] = zs ((l.take 1).map mirAt) := by
    cases l with
    | nil => cases hil
    | cons a l => rfl
  rw [e1, e2] at h1
  obtain ⟨w', h2⟩ := loop31 l n hl hn (n - 1) 1 w1 (by omega) (by omega)
  exact ⟨w', loop_next h1 h2⟩

theorem of_map (x y : BitVec 64) (f : Int → Int) (φ : Nat → Nat) (hf : ∀ i : Nat, i < 64 → f i = (φ i : Int) ∧ φ i < 64 ∧ φ (φ i) = i) (hy : ∀ j, j < 64 → y.getLsbD j = x.getLsbD (φ j)) :
    ofV ((natZ (bitsL x)).map f) = .tuple #[.int .u64 (u y), .int .i64 0] := by
  have e : (natZ (bitsL x)).map f = natZ ((bitsL x).map φ) := by
    unfold natZ
    rw [List.map_map, List.map_map]
    exact List.map_congr_left fun i hi => (hf i (bitsL_mem.1 hi).1).1
  have h1 : (natZ ((bitsL x).map φ)).all (fun n => inr n 64) = true := by
    refine List.all_eq_true.2 fun n hn => ?_
    obtain ⟨j, hj, rfl⟩ := List.mem_map.1 hn
    obtain ⟨i, hi, rfl⟩ := List.mem_map.1 hj
    have := (hf i (bitsL_mem.1 hi).1).2.1
    exact inr_true (by omega) (by omega)
  have h2 : setOf (natZ ((bitsL x).map φ)) = y := by
    refine BitVec.eq_of_getLsbD_eq fun j hj => ?_
    unfold setOf
    rw [setOf_bit _ _ _ hj, hy j hj]
    have : decide (j ∈ (bitsL x).map φ) = x.getLsbD (φ j) := by
      cases h : x.getLsbD (φ j) with
      | true => exact decide_eq_true (List.mem_map.2 ⟨φ j, bitsL_mem.2 ⟨(hf j hj).2.1, h⟩, (hf j hj).2.2⟩)
      | false =>
        refine decide_eq_false fun hm => ?_
        obtain ⟨i, hi, e⟩ := List.mem_map.1 hm
        have hi := bitsL_mem.1 hi
        rw [← e, (hf i hi.1).2.2, hi.2] at h
        cases h
    rw [this]; simp
  unfold ofV
  rw [e, h1, h2, cond_true]
theorem flip_of (x : BitVec 64) : ofV ((natZ (bitsL x)).map flipAt) = .tuple #[.int .u64 (rbS (u x)), .int .i64 0] := by
  rw [rbS_u]
  refine of_map x (rbB x) flipAt (fun i => 8 * (7 - i / 8) + i % 8) (fun i hi => ⟨?_, by omega, by omega⟩) fun j hj => flip_bit x j hj
  unfold flipAt
  rw [Int.tdiv_eq_ediv_of_nonneg (by omega), Int.tmod_eq_emod_of_nonneg (by omega), wrap64 (n := (i : Int) / 8) (by omega) (by omega), wrap64 (n := 7 - (i : Int) / 8) (by omega) (by omega), wrap64 (n := 8 * (7 - (i : Int) / 8)) (by omega) (by omega), wrap64 (by omega) (by omega)]
  omega
theorem mir_of (x : BitVec 64) : ofV ((natZ (bitsL x)).map mirAt) = .tuple #[.int .u64 (rbS (rvS (u x))), .int .i64 0] := by
  rw [rvS_u, rbS_u]
  refine of_map x (rbB (rvB x)) mirAt (fun i => i - i % 8 + 7 - i % 8) (fun i hi => ⟨?_, by omega, by omega⟩) fun j hj => mirror_bit x j hj
  unfold mirAt
  rw [Int.tmod_eq_emod_of_nonneg (by omega), wrap64 (n := (i : Int) - i % 8) (by omega) (by omega), wrap64 (n := (i : Int) - i % 8 + 7) (by omega) (by omega), wrap64 (by omega) (by omega)]
  omega

theorem p29 (x : BitVec 64) : Pure Tryd.prog 4 tabs 29 [.int .u64 (u x)] (.int .u64 (rbS (u x))) := by
  have hl := bitsL_length x
  have hof := flip_of x
  have h26 := fun σ => ov11_26 x 0 σ
  cases hp : bitsL x with
  | nil =>
    rw [hp] at hof h26
    have h43 : ∀ σ, env11.ov 43 [.slice none 0 0] 0 σ = some (.tuple #[.int .u64 (rbS (u x)), .int .i64 0], σ) := fun σ => by
      rw [ov11_43 (a' := .slice none 0 0) 0 σ rfl IsZ_nil, ← hof]; rfl
    exact pureT t11_ok fns11 (n := 100) (v := .int .u64 (rbS (u x))) [(3, .ov (.slice none 0 0)), (9, .ov (.tuple #[.int .u64 (rbS (u x)), .int .i64 0]))] [_, _] (by kernel_rfl) ⟨h26, h43⟩ rfl (.int _ _)
  | cons a p =>
    rw [hp] at hof h26 hl
    obtain ⟨w', h⟩ := loop29_all (natZ (a :: p)) (a :: p).length (natZ_len _) hl (by simp) (fun j => Go.Va.look [(0, Value.int .u64 (u x)), (2, .int .u64 0), (8, .int .u64 (u x)), (9, L (ints (a :: p)) (a :: p).length 1 0)] j undef)
    rw [zs_natZ] at h
    have hz : IsZ (L (zs ((natZ (a :: p)).map flipAt)) (a :: p).length 1 0) ((natZ (a :: p)).map flipAt) := .inr ⟨0, by omega, by rw [List.length_map, natZ_len], by rw [List.length_map, natZ_len]; omega⟩
    have h43 : ∀ σ, env11.ov 43 [L (zs ((natZ (a :: p)).map flipAt)) (a :: p).length 1 6] 0 σ = some (.tuple #[.int .u64 (rbS (u x)), .int .i64 0], σ) := fun σ => by
      rw [ov11_43 (a' := L (zs ((natZ (a :: p)).map flipAt)) (a :: p).length 1 0) 0 σ rfl hz, hof]
    exact pureT t11_ok fns11 (n := 100) (v := .int .u64 (rbS (u x))) [(3, .ov (L (ints (a :: p)) (a :: p).length 1 0)), (2, .skip (.done (.exit 0) (T29 (L (zs ((natZ (a :: p)).map flipAt)) (a :: p).length 1 6) (L (ints (a :: p)) (a :: p).length 1 0) (a :: p).length w') []) (R1 (zs ((natZ (a :: p)).map flipAt)))), (1, .ov (.tuple #[.int .u64 (rbS (u x)), .int .i64 0]))]
      [_, _, _] (by kernel_rfl) ⟨h26, h, h43⟩ rfl (.int _ _)

theorem p31 (x : BitVec 64) : Pure Tryd.prog 4 tabs 31 [.int .u64 (u x)] (.int .u64 (rbS (rvS (u x)))) := by
  have hl := bitsL_length x
  have hof := mir_of x
  have h26 := fun σ => ov11_26 x 0 σ
  cases hp : bitsL x with
  | nil =>
    rw [hp] at hof h26
    have h43 : ∀ σ, env11.ov 43 [.slice none 0 0] 0 σ = some (.tuple #[.int .u64 (rbS (rvS (u x))), .int .i64 0], σ) := fun σ => by
      rw [ov11_43 (a' := .slice none 0 0) 0 σ rfl IsZ_nil, ← hof]; rfl
    exact pureT t11_ok fns11 (n := 100) (v := .int .u64 (rbS (rvS (u x)))) [(3, .ov (.slice none 0 0)), (9, .ov (.tuple #[.int .u64 (rbS (rvS (u x))), .int .i64 0]))] [_, _] (by kernel_rfl) ⟨h26, h43⟩ rfl (.int _ _)
  | cons a p =>
    rw [hp] at hof h26 hl
    obtain ⟨w', h⟩ := loop31_all (natZ (a :: p)) (a :: p).length (natZ_len _) hl (by simp) (fun j => Go.Va.look [(0, Value.int .u64 (u x)), (2, .int .u64 0), (8, .int .u64 (u x)), (9, L (ints (a :: p)) (a :: p).length 1 0)] j undef)
    rw [zs_natZ] at h
    have hz : IsZ (L (zs ((natZ (a :: p)).map mirAt)) (a :: p).length 1 0) ((natZ (a :: p)).map mirAt) := .inr ⟨0, by omega, by rw [List.length_map, natZ_len], by rw [List.length_map, natZ_len]; omega⟩
    have h43 : ∀ σ, env11.ov 43 [L (zs ((natZ (a :: p)).map mirAt)) (a :: p).length 1 6] 0 σ = some (.tuple #[.int .u64 (rbS (rvS (u x))), .int .i64 0], σ) := fun σ => by
      rw [ov11_43 (a' := L (zs ((natZ (a :: p)).map mirAt)) (a :: p).length 1 0) 0 σ rfl hz, hof]
    exact pureT t11_ok fns11 (n := 100) (v := .int .u64 (rbS (rvS (u x)))) [(3, .ov (L (ints (a :: p)) (a :: p).length 1 0)), (2, .skip (.done (.exit 0) (T31 (L (zs ((natZ (a :: p)).map mirAt)) (a :: p).length 1 6) (L (ints (a :: p)) (a :: p).length 1 0) (a :: p).length w') []) (R1 (zs ((natZ (a :: p)).map mirAt)))), (1, .ov (.tuple #[.int .u64 (rbS (rvS (u x))), .int .i64 0]))]
      [_, _, _] (by kernel_rfl) ⟨h26, h, h43⟩ rfl (.int _ _)

end Go.Proofs.YtakchekhpeokjaaDoor
