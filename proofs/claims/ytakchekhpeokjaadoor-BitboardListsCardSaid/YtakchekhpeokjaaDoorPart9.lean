/-
  The functions that the statement reaches: what they answer, part 9.
-/
import Derived.Test.YtakchekhpeokjaaDoorPart8

/-
  BITBOARD (chapter 05): the document's Parse.
-/
namespace Go.Proofs.YtakchekhpeokjaaDoor
open Go.Va

/-- Is an 'x' at the place n? -/
def sel (l : List UInt8) (n : Nat) : Bool := (l[n]? == some 120) && decide (n % 9 < 8)
def atN (n : Nat) : Int := ((8 * (7 - n / 9) + n % 9 : Nat) : Int)
def P46 (l : List UInt8) : Nat → List Int
  | 0 => []
  | n + 1 => P46 l n ++ (bif sel l n then [atN n] else [])
theorem P46_mem {l : List UInt8} {z : Int} : ∀ {n : Nat}, z ∈ P46 l n ↔ ∃ i, i < n ∧ sel l i = true ∧ z = atN i
  | 0 => by
    show z ∈ ([] : List Int) ↔ _
    simp
  | n + 1 => by
    show z ∈ P46 l n ++ (bif sel l n then [atN n] else []) ↔ _
    rw [List.mem_append, P46_mem]
    constructor
    · rintro (⟨i, h1, h2, h3⟩ | h)
      · exact ⟨i, by omega, h2, h3⟩
      · cases hs : sel l n with
        | false => rw [hs] at h; cases h
        | true =>
          rw [hs, cond_true, List.mem_singleton] at h
          exact ⟨n, by omega, hs, h⟩
    · rintro ⟨i, h1, h2, h3⟩
      by_cases e : i = n
      · subst e
        right
        rw [h2, cond_true, List.mem_singleton]; exact h3
      · exact .inl ⟨i, by omega, h2, h3⟩
theorem P46_len (l : List UInt8) : ∀ n, (P46 l n).length ≤ n
  | 0 => Nat.le_refl _
  | n + 1 => by
    show (P46 l n ++ (bif sel l n then [atN n] else [])).length ≤ _
    rw [List.length_append]
    have := P46_len l n
    cases sel l n <;> simp <;> omega
theorem at46_eq {n : Nat} (h : n < 72) : at46 n = atN n := by
  unfold at46 atN
  rw [Int.tdiv_eq_ediv_of_nonneg (by omega), Int.tmod_eq_emod_of_nonneg (by omega), wrap64 (n := (n : Int) / 9) (by omega) (by omega), wrap64 (n := 7 - (n : Int) / 9) (by omega) (by omega), wrap64 (n := 8 * (7 - (n : Int) / 9)) (by omega) (by omega), wrap64 (by omega) (by omega)]
  omega

theorem round46 (s : ByteArray) (i : Nat) (p : List Int) (w : Nat → Value) (h1 : i < s.size) (h2 : i < 72) (hp : p.length < 99) :
    ∃ w', runW Tryd.prog env15 0 (.code ⟨46, none⟩ body46 (T46 s (OV p) i w) []) (OS p) =
      some (.done .normal (T46 s (OV (p ++ bif sel s.data.toList i then [atN i] else [])) ((i + 1 : Nat) : Int) w') [], OS (p ++ bif sel s.data.toList i then [atN i] else [])) := by
  have hlen : s.data.toList.length = s.size := by show _ = s.data.size; simp
  have hil : i < s.data.toList.length := by omega
  have e1 : inc (i : Int) = ((i + 1 : Nat) : Int) := by unfold inc; rw [wrap64 (by omega) (by omega)]; rfl
  have b1 : decide ((i : Int) < (s.size : Int)) = true := decide_eq_true (by omega)
  have b2 : decide ((i : Int) < 72) = true := decide_eq_true (by omega)
  have b3 : 0 ≤ (i : Int) ∧ (i : Int) < s.size := by omega
  have hch := chr_eq s hil 120 120 rfl
  have hmod : (i : Int).tmod 9 = ((i % 9 : Nat) : Int) := by rw [Int.tmod_eq_emod_of_nonneg (by omega)]; omega
  rw [← e1]
  unfold sel
  rw [List.getElem?_eq_getElem hil, show (some s.data.toList[i] == some (120 : UInt8)) = (s.data.toList[i] == 120) from rfl]
  cases hc : s.data.toList[i] == 120 with
  | false =>
    rw [hc] at hch
    rw [Bool.false_and, cond_false, List.append_nil]
    cases p with
    | nil => exact no46n s i _ w b1 b2 b3 hch
    | cons x p => exact no46l s i _ _ _ w b1 b2 b3 hch
  | true =>
    rw [hc] at hch
    rw [Bool.true_and]
    by_cases h9 : i % 9 < 8
    · rw [decide_eq_true h9, cond_true, ← at46_eq h2]
      have b5 : decide ((i : Int).tmod 9 < 8) = true := by rw [hmod]; exact decide_eq_true (by omega)
      cases p with
      | nil => exact yes46n s i w b1 b2 b3 hch b5
      | cons x p =>
        obtain ⟨w', h⟩ := yes46l s i (zs (x :: p)) (x :: p).length w b1 b2 b3 hch b5 hp
        refine ⟨w', ?_⟩
        rw [List.cons_append, OV_cons, OS_cons, OV_cons, OS_cons, show zs (x :: (p ++ [at46 i])) = zs (x :: p) ++ [.int .i64 (at46 i)] by simp [zs], show (x :: (p ++ [at46 i])).length = (x :: p).length + 1 by simp]
        exact h
    · rw [decide_eq_false h9, cond_false, List.append_nil]
      have b5 : decide ((i : Int).tmod 9 < 8) = false := by rw [hmod]; exact decide_eq_false (by omega)
      cases p with
      | nil => exact side46n s i _ w b1 b2 b3 hch b5
      | cons x p => exact side46l s i _ _ _ w b1 b2 b3 hch b5
theorem end46 (s : ByteArray) (i : Nat) (p : List Int) (w : Nat → Value) (h : i = min s.size 72) :
    ∃ w', runW Tryd.prog env15 0 (.code ⟨46, none⟩ body46 (T46 s (OV p) i w) []) (OS p) = some (.done (.exit 0) (T46 s (OV p) i w') [], OS p) := by
  by_cases h1 : i < s.size
  · have b1 : decide ((i : Int) < (s.size : Int)) = true := decide_eq_true (by omega)
    have b2 : decide ((i : Int) < 72) = false := decide_eq_false (by omega)
    cases p with
    | nil => exact stop46n s i _ w b1 b2
    | cons x p => exact stop46l s i _ _ _ w b1 b2
  · have b1 : decide ((i : Int) < (s.size : Int)) = false := decide_eq_false (by omega)
    cases p with
    | nil => exact end46n s i _ w b1
    | cons x p => exact end46l s i _ _ _ w b1
theorem loop46 (s : ByteArray) : ∀ (k i : Nat) (w : Nat → Value), i + k = min s.size 72 →
    ∃ w', runW Tryd.prog env15 0 (.code ⟨46, none⟩ (.loop body46) (T46 s (OV (P46 s.data.toList i)) i w) []) (OS (P46 s.data.toList i)) =
      some (.done (.exit 0) (T46 s (OV (P46 s.data.toList (min s.size 72))) ((min s.size 72 : Nat) : Int) w') [], OS (P46 s.data.toList (min s.size 72))) := by
  intro k
  induction k with
  | zero =>
    intro i w hi
    have hi : i = min s.size 72 := by omega
    rw [← hi]
    obtain ⟨w', h⟩ := end46 s i (P46 s.data.toList i) w hi
    exact ⟨w', loop_out (by intro h; cases h) h⟩
  | succ k ih =>
    intro i w hi
    have hlen := P46_len s.data.toList i
    obtain ⟨w1, h1⟩ := round46 s i (P46 s.data.toList i) w (by omega) (by omega) (by omega)
    obtain ⟨w', h2⟩ := ih (i + 1) w1 (by omega)
    exact ⟨w', loop_next h1 h2⟩

theorem topB_get (x : BitVec 64) {i f : Nat} (hf : f < 8) : ∀ k, i < k → k ≤ 8 → (topB x k)[9 * i + f]? = some (dotx (x.getLsbD (8 * (7 - i) + f)))
  | 0, h, _ => by omega
  | k + 1, h, hk => by
    rw [topB_succ]
    by_cases e : i = k
    · subst e
      rw [List.getElem?_append_right (by rw [topB_len]; omega), topB_len, show 9 * i + f - 9 * i = f by omega, List.getElem?_append_left (by rw [rowB_len]; exact hf)]
      unfold rowB
      rw [List.getElem?_map, List.getElem?_range hf]; rfl
    · rw [List.getElem?_append_left (by rw [topB_len]; omega)]
      exact topB_get x hf k (by omega) (by omega)
theorem P46_text (x : BitVec 64) (j : Nat) (hj : j < 64) : decide ((j : Int) ∈ P46 (topB x 8) 72) = x.getLsbD j := by
  refine Bool.eq_iff_iff.2 ?_
  rw [decide_eq_true_eq, P46_mem]
  constructor
  · rintro ⟨i, h1, h2, h3⟩
    unfold sel at h2
    simp only [Bool.and_eq_true, beq_iff_eq, decide_eq_true_eq] at h2
    obtain ⟨h4, h5⟩ := h2
    have := topB_get x (i := i / 9) (f := i % 9) h5 8 (by omega) (by omega)
    rw [show 9 * (i / 9) + i % 9 = i by omega, h4] at this
    unfold atN at h3
    rw [show 8 * (7 - i / 9) + i % 9 = j by omega] at this
    cases hx : x.getLsbD j with
    | true => rfl
    | false => rw [hx] at this; cases this
  · intro hx
    refine ⟨9 * (7 - j / 8) + j % 8, by omega, ?_, by unfold atN; omega⟩
    unfold sel
    rw [topB_get x (by omega) 8 (by omega) (by omega), show 8 * (7 - (7 - j / 8)) + j % 8 = j by omega, hx, decide_eq_true (by omega)]
    rfl
theorem of46 (l : List UInt8) (n : Nat) (hn : n ≤ 72) : ofV (P46 l n) = .tuple #[.int .u64 (u (setOf (P46 l n))), .int .i64 0] ∧ ∀ j, j < 64 → (setOf (P46 l n)).getLsbD j = decide ((j : Int) ∈ P46 l n) := by
  have hin : ∀ z ∈ P46 l n, 0 ≤ z ∧ z < 64 := fun z hz => by
    obtain ⟨i, h1, h2, rfl⟩ := P46_mem.1 hz
    unfold sel at h2
    simp only [Bool.and_eq_true, decide_eq_true_eq] at h2
    unfold atN
    omega
  have h1 : (P46 l n).all (fun n => inr n 64) = true := List.all_eq_true.2 fun z hz => inr_true (hin z hz).1 (hin z hz).2
  refine ⟨?_, fun j hj => ?_⟩
  · unfold ofV
    rw [h1, cond_true]
  · unfold setOf
    rw [setOf_mem _ _ _ hj hin, BitVec.getLsbD_zero, Bool.false_or]

theorem ov15_43 {a a' : Value} {l : List Int} (lim : Nat) (σ : AS) (ea : strip a = a') (ha : IsZ a' l) : env15.ov 43 [a] lim σ = some (ofV l, σ) :=
  envZ rfl rfl ea ha (by unfold t15 t14 t13 t12 t11 t10; iterate 16 rw [pfT_ne rfl]
                         rw [pfT_eq]; unfold k36; dsimp only; rw [zl_eq ha])
def lp46 (s : ByteArray) (o : Out) (σ' : AS) : Prop := runW Tryd.prog env15 0 (.code ⟨46, none⟩ (.loop body46) (T46 s (.slice none 0 0) 0 (fun _ => undef)) []) (base0 4 tabs) = some (o, σ')
theorem call46n (s t : ByteArray) (i y : Int) (w' : Nat → Value) (b : Bool) (h1 : lp46 s (.done (.exit 0) (T46 s (.slice none 0 0) i w') []) (base0 4 tabs)) (h2 : ∀ σ, env15.ov 43 [.slice none 0 0] 0 σ = some (.tuple #[.int .u64 y, .int .i64 0], σ))
    (h3 : ∀ σ, env15.ov 33 [.int .u64 y] 0 σ = some (.string t, σ)) (h4 : (!(t.toList == s.toList)) = b) : Pure Tryd.prog 4 tabs 46 [.string s] (bif b then .tuple #[.int .u64 0, .int .i64 8] else .tuple #[.int .u64 y, .int .i64 0]) := by
  cases b with
  | true => exact pureT t15_ok fns15 (n := 100) (v := .tuple #[.int .u64 0, .int .i64 8]) [(4, .skip (.done (.exit 0) (T46 s (.slice none 0 0) i w') []) (base0 4 tabs)), (1, .ov (.tuple #[.int .u64 y, .int .i64 0])), (6, .ov (.string t)), (1, .br true)] [lp46 s (.done (.exit 0) (T46 s (.slice none 0 0) i w') []) (base0 4 tabs), (∀ σ, env15.ov 43 [.slice none 0 0] 0 σ = some (.tuple #[.int .u64 y, .int .i64 0], σ)), (∀ σ, env15.ov 33 [.int .u64 y] 0 σ = some (.string t, σ)), (!(t.toList == s.toList)) = true] (by kernel_rfl) ⟨h1, h2, h3, h4⟩ rfl (PF_pair (.int _ _) (.int _ _))
  | false => exact pureT t15_ok fns15 (n := 100) (v := .tuple #[.int .u64 y, .int .i64 0]) [(4, .skip (.done (.exit 0) (T46 s (.slice none 0 0) i w') []) (base0 4 tabs)), (1, .ov (.tuple #[.int .u64 y, .int .i64 0])), (6, .ov (.string t)), (1, .br false)] [lp46 s (.done (.exit 0) (T46 s (.slice none 0 0) i w') []) (base0 4 tabs), (∀ σ, env15.ov 43 [.slice none 0 0] 0 σ = some (.tuple #[.int .u64 y, .int .i64 0], σ)), (∀ σ, env15.ov 33 [.int .u64 y] 0 σ = some (.string t, σ)), (!(t.toList == s.toList)) = false] (by kernel_rfl) ⟨h1, h2, h3, h4⟩ rfl (PF_pair (.int _ _) (.int _ _))
theorem call46l (s t : ByteArray) (i y : Int) (d : List Value) (k : Nat) (w' : Nat → Value) (b : Bool) (h1 : lp46 s (.done (.exit 0) (T46 s (L d k 1 6) i w') []) (R1 d)) (h2 : ∀ σ, env15.ov 43 [L d k 1 6] 0 σ = some (.tuple #[.int .u64 y, .int .i64 0], σ))
    (h3 : ∀ σ, env15.ov 33 [.int .u64 y] 0 σ = some (.string t, σ)) (h4 : (!(t.toList == s.toList)) = b) : Pure Tryd.prog 4 tabs 46 [.string s] (bif b then .tuple #[.int .u64 0, .int .i64 8] else .tuple #[.int .u64 y, .int .i64 0]) := by
  cases b with
  | true => exact pureT t15_ok fns15 (n := 100) (v := .tuple #[.int .u64 0, .int .i64 8]) [(4, .skip (.done (.exit 0) (T46 s (L d k 1 6) i w') []) (R1 d)), (1, .ov (.tuple #[.int .u64 y, .int .i64 0])), (6, .ov (.string t)), (1, .br true)] [lp46 s (.done (.exit 0) (T46 s (L d k 1 6) i w') []) (R1 d), (∀ σ, env15.ov 43 [L d k 1 6] 0 σ = some (.tuple #[.int .u64 y, .int .i64 0], σ)), (∀ σ, env15.ov 33 [.int .u64 y] 0 σ = some (.string t, σ)), (!(t.toList == s.toList)) = true] (by kernel_rfl) ⟨h1, h2, h3, h4⟩ rfl (PF_pair (.int _ _) (.int _ _))
  | false => exact pureT t15_ok fns15 (n := 100) (v := .tuple #[.int .u64 y, .int .i64 0]) [(4, .skip (.done (.exit 0) (T46 s (L d k 1 6) i w') []) (R1 d)), (1, .ov (.tuple #[.int .u64 y, .int .i64 0])), (6, .ov (.string t)), (1, .br false)] [lp46 s (.done (.exit 0) (T46 s (L d k 1 6) i w') []) (R1 d), (∀ σ, env15.ov 43 [L d k 1 6] 0 σ = some (.tuple #[.int .u64 y, .int .i64 0], σ)), (∀ σ, env15.ov 33 [.int .u64 y] 0 σ = some (.string t, σ)), (!(t.toList == s.toList)) = false] (by kernel_rfl) ⟨h1, h2, h3, h4⟩ rfl (PF_pair (.int _ _) (.int _ _))
theorem pV_by (s : ByteArray) (y : BitVec 64) (h : ∀ x, textS x = s → y = x) : pV s = bif !((textS y).toList == s.toList) then .tuple #[.int .u64 0, .int .i64 8] else .tuple #[.int .u64 (u y), .int .i64 0] := by
  by_cases ht : textS y = s
  · rw [ht, beq_self_eq_true, ← ht]
    exact pV_text y
  · rw [ByteArray.toList_eq, ByteArray.toList_eq, beq_eq_false_iff_ne.2 fun e => ht (ba_ext e)]
    refine pV_none fun ⟨x, hx⟩ => ht ?_
    rw [h x hx, hx]
theorem p46 (s : ByteArray) : Pure Tryd.prog 4 tabs 46 [.string s] (pV s) := by
  have hlen : s.data.toList.length = s.size := by show _ = s.data.size; simp
  obtain ⟨w', h⟩ := loop46 s (min s.size 72) 0 (fun _ => undef) (by omega)
  rw [show P46 s.data.toList 0 = [] from rfl, show OV [] = .slice none 0 0 from rfl, show OS [] = base0 4 tabs from rfl, show ((0 : Nat) : Int) = 0 from rfl] at h
  obtain ⟨ho, hb⟩ := of46 s.data.toList (min s.size 72) (by omega)
  have hpl := P46_len s.data.toList (min s.size 72)
  have hx : ∀ x, textS x = s → setOf (P46 s.data.toList (min s.size 72)) = x := fun x hx => by
    refine BitVec.eq_of_getLsbD_eq fun j hj => ?_
    have h72 : min s.size 72 = 72 := by rw [← hlen, ← hx, textS_data, topB_len]; rfl
    rw [hb j hj, h72, ← hx, textS_data]
    exact P46_text x j hj
  rw [pV_by s _ hx]
  generalize P46 s.data.toList (min s.size 72) = p at h ho hpl
  cases p with
  | nil => exact call46n s _ _ _ w' _ h (fun σ => by rw [ov15_43 (a' := .slice none 0 0) 0 σ rfl IsZ_nil, show natZ [] = [] from rfl, ho]) (fun σ => ov15_33 _ 0 σ) rfl
  | cons a p =>
    rw [OV_cons, OS_cons] at h
    exact call46l s _ _ _ _ _ w' _ h (fun σ => by rw [ov15_43 (a' := L (zs (a :: p)) (a :: p).length 1 0) 0 σ rfl (.inr ⟨0, by omega, rfl, by omega⟩), ho]) (fun σ => ov15_33 _ 0 σ) rfl
end Go.Proofs.YtakchekhpeokjaaDoor

/-
  BITBOARD (chapter 05): texts of which a place is changed.
-/
namespace Go.Proofs.YtakchekhpeokjaaDoor
open Go.Va

theorem topB_nl (x : BitVec 64) {i : Nat} : ∀ k, i < k → (topB x k)[9 * i + 8]? = some 10
  | 0, h => by omega
  | k + 1, h => by
    rw [topB_succ]
    by_cases e : i = k
    · subst e
      rw [List.getElem?_append_right (by rw [topB_len]; omega), topB_len, show 9 * i + 8 - 9 * i = 8 by omega, List.getElem?_append_right (by rw [rowB_len]; omega), rowB_len]; rfl
    · rw [List.getElem?_append_left (by rw [topB_len]; omega)]
      exact topB_nl x k (by omega)
/-- What stands at a place of a text. -/
theorem topB_at (x : BitVec 64) {k : Nat} (hk : k < 72) : (topB x 8)[k]? = some (if k % 9 < 8 then dotx (x.getLsbD (8 * (7 - k / 9) + k % 9)) else 10) := by
  by_cases h : k % 9 < 8
  · rw [if_pos h]
    have := topB_get x (i := k / 9) h 8 (by omega) (by omega)
    rwa [show 9 * (k / 9) + k % 9 = k by omega] at this
  · rw [if_neg h]
    have := topB_nl x (i := k / 9) 8 (by omega)
    rwa [show 9 * (k / 9) + 8 = k by omega] at this
theorem top_len (x : BitVec 64) : (topB x 8).length = 72 := topB_len x 8
/-- The text with c at the place k. -/
def chg (x : BitVec 64) (k : Nat) (c : UInt8) : List UInt8 := (topB x 8).set k c
theorem chg_eq (x : BitVec 64) {k : Nat} (hk : k < 72) (c : UInt8) : (topB x 8).take k ++ [c] ++ (topB x 8).drop (k + 1) = chg x k c := by
  unfold chg
  rw [List.set_eq_take_append_cons_drop, if_pos (by rw [top_len]; exact hk), List.append_assoc]; rfl
theorem chg_same (x : BitVec 64) {k : Nat} (hk : k < 72) {c : UInt8} (h : (topB x 8)[k]? = some c) : chg x k c = topB x 8 := by
  refine List.ext_getElem? fun j => ?_
  unfold chg
  rw [List.getElem?_set]
  by_cases e : k = j
  · subst e
    rw [if_pos rfl, if_pos (by rw [top_len]; exact hk), h]
  · rw [if_neg e]
/-- The set with one square more, or less. -/
def flipB (x : BitVec 64) (j : Nat) : BitVec 64 := x ^^^ (1#64 <<< j)
theorem flipB_bit (x : BitVec 64) (j i : Nat) (hi : i < 64) : (flipB x j).getLsbD i = ((x.getLsbD i) != decide (i = j)) := by
  unfold flipB
  rw [BitVec.getLsbD_xor, bit_one hi]
theorem one_bits : ((List.range 64).all fun j => (bitsL (1#64 <<< j)).length == 1) = true := by decide +kernel
theorem flip_one (x : BitVec 64) {j : Nat} (hj : j < 64) : (bitsL (flipB x j ^^^ x)).length = 1 := by
  have e : flipB x j ^^^ x = 1#64 <<< j := by
    refine BitVec.eq_of_getLsbD_eq fun i hi => ?_
    rw [BitVec.getLsbD_xor, flipB_bit x j i hi, bit_one hi]
    cases x.getLsbD i <;> cases decide (i = j) <;> rfl
  rw [e]
  exact eq_of_beq (List.all_eq_true.1 one_bits j (List.mem_range.2 hj))
theorem chg_text (x : BitVec 64) {k : Nat} (hk : k < 72) (h9 : k % 9 < 8) {c : UInt8} (hc : c = 120 ∨ c = 46) (hne : (topB x 8)[k]? ≠ some c) : chg x k c = topB (flipB x (8 * (7 - k / 9) + k % 9)) 8 := by
  refine List.ext_getElem? fun j => ?_
  by_cases hj : j < 72
  · rw [topB_at _ hj]
    unfold chg
    rw [List.getElem?_set]
    by_cases e : k = j
    · subst e
      rw [if_pos rfl, if_pos (by rw [top_len]; exact hk), if_pos h9, flipB_bit _ _ _ (by omega)]
      rw [topB_at x hk, if_pos h9] at hne
      rw [decide_eq_true rfl]
      congr 1
      cases hx : x.getLsbD (8 * (7 - k / 9) + k % 9) with
      | true =>
        rw [hx] at hne
        rcases hc with rfl | rfl
        · exact absurd rfl hne
        · rfl
      | false =>
        rw [hx] at hne
        rcases hc with rfl | rfl
        · rfl
        · exact absurd rfl hne
    · rw [if_neg e, topB_at x hj]
      congr 1
      by_cases h8 : j % 9 < 8
      · rw [if_pos h8, if_pos h8, flipB_bit _ _ _ (by omega)]
        have : decide (8 * (7 - j / 9) + j % 9 = 8 * (7 - k / 9) + k % 9) = false := decide_eq_false (by omega)
        rw [this]
        cases x.getLsbD (8 * (7 - j / 9) + j % 9) <;> rfl
      · rw [if_neg h8, if_neg h8]
  · rw [List.getElem?_eq_none (by unfold chg; rw [List.length_set, top_len]; omega), List.getElem?_eq_none (by rw [top_len]; omega)]
theorem chg_none (x : BitVec 64) {k : Nat} (hk : k < 72) {c : UInt8} (hne : (topB x 8)[k]? ≠ some c) (h : ¬ (k % 9 < 8 ∧ (c = 120 ∨ c = 46))) : ¬ ∃ y, textS y = str (chg x k c) := by
  rintro ⟨y, hy⟩
  have hy : topB y 8 = chg x k c := by
    have := congrArg (fun s : ByteArray => s.data.toList) hy
    rwa [textS_data, str_data] at this
  have h1 := topB_at y hk
  rw [hy] at h1
  unfold chg at h1
  rw [List.getElem?_set, if_pos rfl, if_pos (by rw [top_len]; exact hk)] at h1
  have h1 := Option.some.inj h1
  rw [topB_at x hk] at hne
  by_cases h9 : k % 9 < 8
  · rw [if_pos h9] at h1
    refine h ⟨h9, ?_⟩
    rw [h1]
    cases y.getLsbD (8 * (7 - k / 9) + k % 9)
    · exact .inr rfl
    · exact .inl rfl
  · rw [if_neg h9] at h1 hne
    exact hne (by rw [h1])
theorem cut_none (x : BitVec 64) {k : Nat} (hk : k < 72) : ¬ ∃ y, textS y = str ((topB x 8).take k ++ (topB x 8).drop (k + 1)) := by
  rintro ⟨y, hy⟩
  have := congrArg (fun s : ByteArray => s.data.toList.length) hy
  rw [textS_data, str_data, top_len, List.length_append, List.length_take, List.length_drop, top_len] at this
  omega
end Go.Proofs.YtakchekhpeokjaaDoor

/-
  BITBOARD (chapter 05): BitboardTexts: its rounds and its ends. Printed by gen05ui.py.
-/
namespace Go.Proofs.YtakchekhpeokjaaDoor
open Go.Va

noncomputable def k40 : List Value → Option Value
  | [.string s] => bif Nat.blt s.size 90000 then some (pV s) else none
  | _ => none
theorem k40_ok {f : FuncId} (hp : ∀ s : ByteArray, s.size < 90000 → Pure Tryd.prog 4 tabs f [.string s] (pV s)) : KOk Tryd.prog 4 tabs f k40 := by
  intro args v h
  unfold k40 at h
  split at h
  · rename_i s
    cases hb : Nat.blt s.size 90000 with
    | false => rw [hb] at h; cases h
    | true =>
      rw [hb, cond_true] at h
      rw [← Option.some.inj h]
      exact hp s (blt_iff.1 hb)
  · cases h
noncomputable def t16 : Ktab := (40, k40) :: (46, k40) :: t15
theorem t16_ok : TOk Tryd.prog 4 tabs t16 := ⟨k40_ok p40, k40_ok fun s _ => p46 s, t15_ok⟩
noncomputable def env16 : Env := envT t16
set_option maxRecDepth 100000 in
theorem fns16 : fnB Tryd.prog 4 env16 okL = true := by kernel_rfl
theorem k40_s {s : ByteArray} (h : s.size < 90000) : k40 [.string s] = some (pV s) := by
  unfold k40
  dsimp only
  rw [blt_iff.2 h, cond_true]
theorem ov16_40 {s : ByteArray} (h : s.size < 90000) (lim : Nat) (σ : AS) : env16.ov 40 [.string s] lim σ = some (pV s, σ) := envK rfl rfl rfl rfl (by unfold t16; rw [pfT_eq]; exact k40_s h)
theorem ov16_46 {s : ByteArray} (h : s.size < 90000) (lim : Nat) (σ : AS) : env16.ov 46 [.string s] lim σ = some (pV s, σ) := envK rfl rfl rfl rfl (by unfold t16; rw [pfT_ne rfl, pfT_eq]; exact k40_s h)
theorem ov16_32 (x : BitVec 64) (lim : Nat) (σ : AS) : env16.ov 32 [.int .u64 (u x)] lim σ = some (.string (textS x), σ) :=
  envK rfl rfl rfl rfl (by unfold t16 t15 t14 t13; iterate 14 rw [pfT_ne rfl]
                           rw [pfT_eq]; exact kU_u (fun x => .string (textS x)) x)
theorem pfT_12 (s n : Int) : pfT t16 12 [.int .u64 s, .int .i64 n] = some (.bool (hasS s n)) := by
  unfold t16 t15 t14 t13 t12 t11 t10 t9 t8 t6; iterate 30 rw [pfT_ne rfl]
  rfl
theorem pfT_24 (s : Int) : pfT t16 24 [.int .u64 s] = some (.int .i64 (lenS s)) := by
  unfold t16 t15 t14 t13 t12 t11 t10 t9 t8 t6; iterate 30 rw [pfT_ne rfl]
  rfl
theorem ov16_12 (x : BitVec 64) (n : Int) (lim : Nat) (σ : AS) : env16.ov 12 [.int .u64 (u x), .int .i64 n] lim σ = some (.bool (hasS (u x) n), σ) := envK rfl rfl rfl rfl (pfT_12 _ _)
theorem ov16_24 (x : BitVec 64) (lim : Nat) (σ : AS) : env16.ov 24 [.int .u64 (u x)] lim σ = some (.int .i64 (lenS (u x)), σ) := envK rfl rfl rfl rfl (pfT_24 _)

noncomputable def body9 : Code := codeOf Tryd.prog 9 [.r, .r, .r, .r, .r, .r, .l, .r, .b, .b]
def T9 (x : Int) (t : ByteArray) (r : Nat) (a c i : Int) (w : Nat → Value) : List Value := fillT 170 [(1, .int .u8 a), (2, .int .u8 c), (6, .bool false), (7, .int .u64 x), (8, .string t), (11, Sl r 9), (48, .int .i64 i)] w
def ln9 (i : Int) : Int := IntKind.i64.wrap (7 - IntKind.i64.wrap (i.tdiv 8))

theorem round9_true (x : Int) (t l : ByteArray) (r : Nat) (a c i : Int) (σ : AS) (w : Nat → Value) (h1 : decide (i < 64) = true) (h2 : 0 ≤ ln9 i ∧ ln9 i < (9 : Nat)) (h3 : σ.cell? ⟨r, 0 + (ln9 i).toNat * 1, none⟩ = some (.string l)) (h4 : ((l.size : Int) != 8) = false) (h5 : 0 ≤ i.tmod 8 ∧ i.tmod 8 < l.size) (h6 : (chr l (i.tmod 8) == 120) = true) (h7 : ∀ σ, env16.ov 12 [.int .u64 x, .int .i64 i] σ.next σ = some (.bool true, σ)) (h8 : (chr l (i.tmod 8) == 46) = false) :
    ∃ w', runW Tryd.prog env16 0 (.code ⟨9, none⟩ body9 (T9 x t r a c i w) []) σ = some (.done .normal (T9 x t r a c (inc i) w') [], σ) :=
  seg 100 [(0, .br true), (7, .ok), (0, .is (.string l)), (3, .br false), (4, .ok), (0, .br true), (2, .ov (.bool true)), (6, .ok), (0, .br false), (2, .ov (.bool true))] (m := 170) (js := [1, 2, 6, 7, 8, 11, 48]) (vs := [.int .u8 a, .int .u8 c, .bool false, .int .u64 x, .string t, Sl r 9, .int .i64 (inc i)])
    (ob := [decide (i < 64) = true, 0 ≤ ln9 i ∧ ln9 i < (9 : Nat), σ.cell? ⟨r, 0 + (ln9 i).toNat * 1, none⟩ = some (.string l), ((l.size : Int) != 8) = false, 0 ≤ i.tmod 8 ∧ i.tmod 8 < l.size, (chr l (i.tmod 8) == 120) = true, (∀ σ, env16.ov 12 [.int .u64 x, .int .i64 i] σ.next σ = some (.bool true, σ)), 0 ≤ i.tmod 8 ∧ i.tmod 8 < l.size, (chr l (i.tmod 8) == 46) = false, (∀ σ, env16.ov 12 [.int .u64 x, .int .i64 i] σ.next σ = some (.bool true, σ))]) (by kernel_rfl) ⟨h1, h2, h3, h4, h5, h6, h7, h5, h8, h7⟩

theorem round9_false (x : Int) (t l : ByteArray) (r : Nat) (a c i : Int) (σ : AS) (w : Nat → Value) (h1 : decide (i < 64) = true) (h2 : 0 ≤ ln9 i ∧ ln9 i < (9 : Nat)) (h3 : σ.cell? ⟨r, 0 + (ln9 i).toNat * 1, none⟩ = some (.string l)) (h4 : ((l.size : Int) != 8) = false) (h5 : 0 ≤ i.tmod 8 ∧ i.tmod 8 < l.size) (h6 : (chr l (i.tmod 8) == 120) = false) (h7 : ∀ σ, env16.ov 12 [.int .u64 x, .int .i64 i] σ.next σ = some (.bool false, σ)) (h8 : (chr l (i.tmod 8) == 46) = true) :
    ∃ w', runW Tryd.prog env16 0 (.code ⟨9, none⟩ body9 (T9 x t r a c i w) []) σ = some (.done .normal (T9 x t r a c (inc i) w') [], σ) :=
  seg 100 [(0, .br true), (7, .ok), (0, .is (.string l)), (3, .br false), (4, .ok), (0, .br false), (2, .ov (.bool false)), (6, .ok), (0, .br true), (2, .ov (.bool false))] (m := 170) (js := [1, 2, 6, 7, 8, 11, 48]) (vs := [.int .u8 a, .int .u8 c, .bool false, .int .u64 x, .string t, Sl r 9, .int .i64 (inc i)])
    (ob := [decide (i < 64) = true, 0 ≤ ln9 i ∧ ln9 i < (9 : Nat), σ.cell? ⟨r, 0 + (ln9 i).toNat * 1, none⟩ = some (.string l), ((l.size : Int) != 8) = false, 0 ≤ i.tmod 8 ∧ i.tmod 8 < l.size, (chr l (i.tmod 8) == 120) = false, (∀ σ, env16.ov 12 [.int .u64 x, .int .i64 i] σ.next σ = some (.bool false, σ)), 0 ≤ i.tmod 8 ∧ i.tmod 8 < l.size, (chr l (i.tmod 8) == 46) = true, (∀ σ, env16.ov 12 [.int .u64 x, .int .i64 i] σ.next σ = some (.bool false, σ))]) (by kernel_rfl) ⟨h1, h2, h3, h4, h5, h6, h7, h5, h8, h7⟩

theorem end9 (x : Int) (t : ByteArray) (r : Nat) (a c i : Int) (σ : AS) (w : Nat → Value) (h1 : decide (i < 64) = false) :
    ∃ w', runW Tryd.prog env16 0 (.code ⟨9, none⟩ body9 (T9 x t r a c i w) []) σ = some (.done (.exit 0) (T9 x t r a c i w') [], σ) :=
  seg 100 [(0, .br false)] (m := 170) (js := [1, 2, 6, 7, 8, 11, 48]) (vs := [.int .u8 a, .int .u8 c, .bool false, .int .u64 x, .string t, Sl r 9, .int .i64 i]) (ob := [decide (i < 64) = false]) (by kernel_rfl) h1

def xorS (s t : Int) : Int := IntKind.u64.wrap ((BitVec.ofInt IntKind.u64.bits s ^^^ BitVec.ofInt IntKind.u64.bits t).toNat : Int)
def w9 (x : Int) (t : ByteArray) (r : Nat) (j : Nat) : Value := Go.Va.look [(0, .int .u64 x), (9, .int .u64 x), (10, .int .i64 0), (20, .int .u64 x), (21, .int .u64 x), (22, .string t), (23, .tuple #[.int .u64 x, .int .i64 0]), (24, .string t), (25, .tuple #[.int .u64 x, .int .i64 0]), (26, .int .u64 x), (27, .int .i64 0),
  (28, .string t), (29, Sl r 9), (30, .int .u64 x), (31, .int .u64 x), (32, .bool false), (33, .bool false), (34, .int .i64 0), (35, .bool false), (36, .bool false), (37, .bool false), (38, Sl r 9), (39, .int .i64 9), (40, .bool false), (41, .bool false), (42, .bool false),
  (43, Sl r 9), (44, .pointer (some ⟨r, 8, none⟩)), (45, .string ⟨#[]⟩), (46, .bool false), (47, .bool false)] j undef
def one (c : Int) : ByteArray := ⟨[c.toNat.toUInt8].toArray⟩
def cat3 (t : ByteArray) (k k1 c : Int) : ByteArray := t.extract 0 k.toNat ++ one c ++ t.extract k1.toNat t.size
def cat2 (t : ByteArray) (k k1 : Int) : ByteArray := t.extract 0 k.toNat ++ t.extract k1.toNat t.size

theorem law9_same (x : Int) (t : ByteArray) (r : Nat) (a c i k k1 : Int) (σ0 σ : AS) (w1 : Nat → Value)
    (g1 : ∀ σ, env16.ov 32 [.int .u64 x] 0 σ = some (.string t, σ))
    (g2 : ∀ σ, env16.ov 40 [.string t] 0 σ = some (.tuple #[.int .u64 x, .int .i64 0], σ))
    (g3 : applyA Tryd.prog env16 (runW Tryd.prog env16) 0 (.func (.func 41) #[] #[]) [.string t, nl] σ0 = some (Sl r 9, σ))
    (g4 : (x != x) = false)
    (g5 : σ.cell? ⟨r, 8, none⟩ = some (.string ⟨#[]⟩))
    (g6 : runW Tryd.prog env16 0 (.code ⟨9, none⟩ (.loop body9) (T9 x t r a c 0 (w9 x t r)) []) σ = some (.done (.exit 0) (T9 x t r a c i w1) [], σ))
    (g7 : (t.size : Int) = 72)
    (g8 : (IntKind.i64.wrap a).tmod 72 = k)
    (g9 : 0 ≤ k ∧ k ≤ t.size)
    (g10 : (((t.extract 0 k.toNat).size + (one c).size : Nat) : Int) ≤ IntKind.i64.max)
    (g11 : IntKind.i64.wrap (k + 1) = k1)
    (g12 : 0 ≤ k1 ∧ k1 ≤ t.size)
    (g13 : (((t.extract 0 k.toNat ++ one c).size + (t.extract k1.toNat t.size).size : Nat) : Int) ≤ IntKind.i64.max)
    (g14 : ∀ σ, env16.ov 40 [.string (cat3 t k k1 c)] 0 σ = some (.tuple #[.int .u64 x, .int .i64 0], σ))
    (g15 : (((t.extract 0 k.toNat).size + (t.extract k1.toNat t.size).size : Nat) : Int) ≤ IntKind.i64.max)
    (g16 : ∀ σ, env16.ov 40 [.string (cat2 t k k1)] 0 σ = some (.tuple #[.int .u64 0, .int .i64 8], σ))
    (g17 : 0 ≤ k ∧ k < t.size)
    (g18 : (c == chr t k) = true)
    (g19 : (x == x) = true) :
    runW Tryd.prog env16 0 (.call 9 [.int .u64 x, .int .u8 a, .int .u8 c]) σ0 = some (.val (.bool true), σ) :=
  runW_of_whole (n := 300) (hs := [(4, .ov (.string t)), (2, .ov (.tuple #[.int .u64 x, .int .i64 0])), (6, .sem (Sl r 9) σ), (3, .br false), (12, .is (.string ⟨#[]⟩)), (4, .skip (.done (.exit 0) (T9 x t r a c i w1) []) σ), (1, .eq (.int .i64 72)), (5, .eq (.int .i64 72)), (0, .eq (.int .i64 k)),
      (3, .ok), (3, .ok), (2, .eq (.int .i64 k1)), (0, .ok), (0, .ok), (2, .ov (.tuple #[.int .u64 x, .int .i64 0])), (7, .ok), (2, .eq (.int .i64 k1)), (0, .ok), (0, .ok), (0, .ov (.tuple #[.int .u64 0, .int .i64 8])), (11, .ok), (0, .br true), (3, .br true)])
    (ob := [(∀ σ, env16.ov 32 [.int .u64 x] 0 σ = some (.string t, σ)), (∀ σ, env16.ov 40 [.string t] 0 σ = some (.tuple #[.int .u64 x, .int .i64 0], σ)), (applyA Tryd.prog env16 (runW Tryd.prog env16) 0 (.func (.func 41) #[] #[]) [.string t, nl] σ0 = some (Sl r 9, σ)), ((x != x) = false), (σ.cell? ⟨r, 8, none⟩ = some (.string ⟨#[]⟩)), (runW Tryd.prog env16 0 (.code ⟨9, none⟩ (.loop body9) (T9 x t r a c 0 (w9 x t r)) []) σ = some (.done (.exit 0) (T9 x t r a c i w1) [], σ)), Value.int .i64 (t.size : Int) = .int .i64 72, Value.int .i64 (t.size : Int) = .int .i64 72, Value.int .i64 ((IntKind.i64.wrap a).tmod 72) = .int .i64 k, (0 ≤ k ∧ k ≤ t.size), ((((t.extract 0 k.toNat).size + (one c).size : Nat) : Int) ≤ IntKind.i64.max), Value.int .i64 (IntKind.i64.wrap (k + 1)) = .int .i64 k1, (0 ≤ k1 ∧ k1 ≤ t.size), ((((t.extract 0 k.toNat ++ one c).size + (t.extract k1.toNat t.size).size : Nat) : Int) ≤ IntKind.i64.max), (∀ σ, env16.ov 40 [.string (cat3 t k k1 c)] 0 σ = some (.tuple #[.int .u64 x, .int .i64 0], σ)), (0 ≤ k ∧ k ≤ t.size), Value.int .i64 (IntKind.i64.wrap (k + 1)) = .int .i64 k1, (0 ≤ k1 ∧ k1 ≤ t.size), ((((t.extract 0 k.toNat).size + (t.extract k1.toNat t.size).size : Nat) : Int) ≤ IntKind.i64.max), (∀ σ, env16.ov 40 [.string (cat2 t k k1)] 0 σ = some (.tuple #[.int .u64 0, .int .i64 8], σ)), (0 ≤ k ∧ k < t.size), (c == chr t k) = true, (x == x) = true]) (by kernel_rfl)
    ⟨g1, g2, g3, g4, g5, g6, congrArg _ g7, congrArg _ g7, congrArg _ g8, g9, g10, congrArg _ g11, g12, g13, g14, g9, congrArg _ g11, g12, g15, g16, g17, g18, g19⟩

theorem law9_line (x : Int) (t : ByteArray) (r : Nat) (a c i k k1 : Int) (σ0 σ : AS) (w1 : Nat → Value)
    (g1 : ∀ σ, env16.ov 32 [.int .u64 x] 0 σ = some (.string t, σ))
    (g2 : ∀ σ, env16.ov 40 [.string t] 0 σ = some (.tuple #[.int .u64 x, .int .i64 0], σ))
    (g3 : applyA Tryd.prog env16 (runW Tryd.prog env16) 0 (.func (.func 41) #[] #[]) [.string t, nl] σ0 = some (Sl r 9, σ))
    (g4 : (x != x) = false)
    (g5 : σ.cell? ⟨r, 8, none⟩ = some (.string ⟨#[]⟩))
    (g6 : runW Tryd.prog env16 0 (.code ⟨9, none⟩ (.loop body9) (T9 x t r a c 0 (w9 x t r)) []) σ = some (.done (.exit 0) (T9 x t r a c i w1) [], σ))
    (g7 : (t.size : Int) = 72)
    (g8 : (IntKind.i64.wrap a).tmod 72 = k)
    (g9 : 0 ≤ k ∧ k ≤ t.size)
    (g10 : (((t.extract 0 k.toNat).size + (one c).size : Nat) : Int) ≤ IntKind.i64.max)
    (g11 : IntKind.i64.wrap (k + 1) = k1)
    (g12 : 0 ≤ k1 ∧ k1 ≤ t.size)
    (g13 : (((t.extract 0 k.toNat ++ one c).size + (t.extract k1.toNat t.size).size : Nat) : Int) ≤ IntKind.i64.max)
    (g14 : ∀ σ, env16.ov 40 [.string (cat3 t k k1 c)] 0 σ = some (.tuple #[.int .u64 0, .int .i64 8], σ))
    (g15 : (((t.extract 0 k.toNat).size + (t.extract k1.toNat t.size).size : Nat) : Int) ≤ IntKind.i64.max)
    (g16 : ∀ σ, env16.ov 40 [.string (cat2 t k k1)] 0 σ = some (.tuple #[.int .u64 0, .int .i64 8], σ))
    (g17 : 0 ≤ k ∧ k < t.size)
    (g18 : (c == chr t k) = false)
    (g19 : (chr t k != 10) = false) :
    runW Tryd.prog env16 0 (.call 9 [.int .u64 x, .int .u8 a, .int .u8 c]) σ0 = some (.val (.bool true), σ) :=
  runW_of_whole (n := 300) (hs := [(4, .ov (.string t)), (2, .ov (.tuple #[.int .u64 x, .int .i64 0])), (6, .sem (Sl r 9) σ), (3, .br false), (12, .is (.string ⟨#[]⟩)), (4, .skip (.done (.exit 0) (T9 x t r a c i w1) []) σ), (1, .eq (.int .i64 72)), (5, .eq (.int .i64 72)), (0, .eq (.int .i64 k)),
      (3, .ok), (3, .ok), (2, .eq (.int .i64 k1)), (0, .ok), (0, .ok), (2, .ov (.tuple #[.int .u64 0, .int .i64 8])), (7, .ok), (2, .eq (.int .i64 k1)), (0, .ok), (0, .ok), (0, .ov (.tuple #[.int .u64 0, .int .i64 8])), (11, .ok), (0, .br false), (3, .ok), (0, .br false)])
    (ob := [(∀ σ, env16.ov 32 [.int .u64 x] 0 σ = some (.string t, σ)), (∀ σ, env16.ov 40 [.string t] 0 σ = some (.tuple #[.int .u64 x, .int .i64 0], σ)), (applyA Tryd.prog env16 (runW Tryd.prog env16) 0 (.func (.func 41) #[] #[]) [.string t, nl] σ0 = some (Sl r 9, σ)), ((x != x) = false), (σ.cell? ⟨r, 8, none⟩ = some (.string ⟨#[]⟩)), (runW Tryd.prog env16 0 (.code ⟨9, none⟩ (.loop body9) (T9 x t r a c 0 (w9 x t r)) []) σ = some (.done (.exit 0) (T9 x t r a c i w1) [], σ)), Value.int .i64 (t.size : Int) = .int .i64 72, Value.int .i64 (t.size : Int) = .int .i64 72, Value.int .i64 ((IntKind.i64.wrap a).tmod 72) = .int .i64 k, (0 ≤ k ∧ k ≤ t.size), ((((t.extract 0 k.toNat).size + (one c).size : Nat) : Int) ≤ IntKind.i64.max), Value.int .i64 (IntKind.i64.wrap (k + 1)) = .int .i64 k1, (0 ≤ k1 ∧ k1 ≤ t.size), ((((t.extract 0 k.toNat ++ one c).size + (t.extract k1.toNat t.size).size : Nat) : Int) ≤ IntKind.i64.max), (∀ σ, env16.ov 40 [.string (cat3 t k k1 c)] 0 σ = some (.tuple #[.int .u64 0, .int .i64 8], σ)), (0 ≤ k ∧ k ≤ t.size), Value.int .i64 (IntKind.i64.wrap (k + 1)) = .int .i64 k1, (0 ≤ k1 ∧ k1 ≤ t.size), ((((t.extract 0 k.toNat).size + (t.extract k1.toNat t.size).size : Nat) : Int) ≤ IntKind.i64.max), (∀ σ, env16.ov 40 [.string (cat2 t k k1)] 0 σ = some (.tuple #[.int .u64 0, .int .i64 8], σ)), (0 ≤ k ∧ k < t.size), (c == chr t k) = false, (0 ≤ k ∧ k < t.size), (chr t k != 10) = false]) (by kernel_rfl)
    ⟨g1, g2, g3, g4, g5, g6, congrArg _ g7, congrArg _ g7, congrArg _ g8, g9, g10, congrArg _ g11, g12, g13, g14, g9, congrArg _ g11, g12, g15, g16, g17, g18, g17, g19⟩

theorem law9_x (x : Int) (t : ByteArray) (r : Nat) (a c i k k1 y : Int) (σ0 σ : AS) (w1 : Nat → Value)
    (g1 : ∀ σ, env16.ov 32 [.int .u64 x] 0 σ = some (.string t, σ))
    (g2 : ∀ σ, env16.ov 40 [.string t] 0 σ = some (.tuple #[.int .u64 x, .int .i64 0], σ))
    (g3 : applyA Tryd.prog env16 (runW Tryd.prog env16) 0 (.func (.func 41) #[] #[]) [.string t, nl] σ0 = some (Sl r 9, σ))
    (g4 : (x != x) = false)
    (g5 : σ.cell? ⟨r, 8, none⟩ = some (.string ⟨#[]⟩))
    (g6 : runW Tryd.prog env16 0 (.code ⟨9, none⟩ (.loop body9) (T9 x t r a c 0 (w9 x t r)) []) σ = some (.done (.exit 0) (T9 x t r a c i w1) [], σ))
    (g7 : (t.size : Int) = 72)
    (g8 : (IntKind.i64.wrap a).tmod 72 = k)
    (g9 : 0 ≤ k ∧ k ≤ t.size)
    (g10 : (((t.extract 0 k.toNat).size + (one c).size : Nat) : Int) ≤ IntKind.i64.max)
    (g11 : IntKind.i64.wrap (k + 1) = k1)
    (g12 : 0 ≤ k1 ∧ k1 ≤ t.size)
    (g13 : (((t.extract 0 k.toNat ++ one c).size + (t.extract k1.toNat t.size).size : Nat) : Int) ≤ IntKind.i64.max)
    (g14 : ∀ σ, env16.ov 40 [.string (cat3 t k k1 c)] 0 σ = some (.tuple #[.int .u64 y, .int .i64 0], σ))
    (g15 : (((t.extract 0 k.toNat).size + (t.extract k1.toNat t.size).size : Nat) : Int) ≤ IntKind.i64.max)
    (g16 : ∀ σ, env16.ov 40 [.string (cat2 t k k1)] 0 σ = some (.tuple #[.int .u64 0, .int .i64 8], σ))
    (g17 : 0 ≤ k ∧ k < t.size)
    (g18 : (c == chr t k) = false)
    (g19 : (chr t k != 10) = true)
    (g20 : (c == 120) = true)
    (g21 : ∀ σ, env16.ov 24 [.int .u64 (xorS y x)] 0 σ = some (.int .i64 1, σ)) :
    runW Tryd.prog env16 0 (.call 9 [.int .u64 x, .int .u8 a, .int .u8 c]) σ0 = some (.val (.bool true), σ) :=
  runW_of_whole (n := 300) (hs := [(4, .ov (.string t)), (2, .ov (.tuple #[.int .u64 x, .int .i64 0])), (6, .sem (Sl r 9) σ), (3, .br false), (12, .is (.string ⟨#[]⟩)), (4, .skip (.done (.exit 0) (T9 x t r a c i w1) []) σ), (1, .eq (.int .i64 72)), (5, .eq (.int .i64 72)), (0, .eq (.int .i64 k)),
      (3, .ok), (3, .ok), (2, .eq (.int .i64 k1)), (0, .ok), (0, .ok), (2, .ov (.tuple #[.int .u64 y, .int .i64 0])), (7, .ok), (2, .eq (.int .i64 k1)), (0, .ok), (0, .ok), (0, .ov (.tuple #[.int .u64 0, .int .i64 8])), (11, .ok), (0, .br false), (3, .ok), (0, .br true), (2, .br true), (10, .ov (.int .i64 1))])
    (ob := [(∀ σ, env16.ov 32 [.int .u64 x] 0 σ = some (.string t, σ)), (∀ σ, env16.ov 40 [.string t] 0 σ = some (.tuple #[.int .u64 x, .int .i64 0], σ)), (applyA Tryd.prog env16 (runW Tryd.prog env16) 0 (.func (.func 41) #[] #[]) [.string t, nl] σ0 = some (Sl r 9, σ)), ((x != x) = false), (σ.cell? ⟨r, 8, none⟩ = some (.string ⟨#[]⟩)), (runW Tryd.prog env16 0 (.code ⟨9, none⟩ (.loop body9) (T9 x t r a c 0 (w9 x t r)) []) σ = some (.done (.exit 0) (T9 x t r a c i w1) [], σ)), Value.int .i64 (t.size : Int) = .int .i64 72, Value.int .i64 (t.size : Int) = .int .i64 72, Value.int .i64 ((IntKind.i64.wrap a).tmod 72) = .int .i64 k, (0 ≤ k ∧ k ≤ t.size), ((((t.extract 0 k.toNat).size + (one c).size : Nat) : Int) ≤ IntKind.i64.max), Value.int .i64 (IntKind.i64.wrap (k + 1)) = .int .i64 k1, (0 ≤ k1 ∧ k1 ≤ t.size), ((((t.extract 0 k.toNat ++ one c).size + (t.extract k1.toNat t.size).size : Nat) : Int) ≤ IntKind.i64.max), (∀ σ, env16.ov 40 [.string (cat3 t k k1 c)] 0 σ = some (.tuple #[.int .u64 y, .int .i64 0], σ)), (0 ≤ k ∧ k ≤ t.size), Value.int .i64 (IntKind.i64.wrap (k + 1)) = .int .i64 k1, (0 ≤ k1 ∧ k1 ≤ t.size), ((((t.extract 0 k.toNat).size + (t.extract k1.toNat t.size).size : Nat) : Int) ≤ IntKind.i64.max), (∀ σ, env16.ov 40 [.string (cat2 t k k1)] 0 σ = some (.tuple #[.int .u64 0, .int .i64 8], σ)), (0 ≤ k ∧ k < t.size), (c == chr t k) = false, (0 ≤ k ∧ k < t.size), (chr t k != 10) = true, (c == 120) = true, (∀ σ, env16.ov 24 [.int .u64 (xorS y x)] 0 σ = some (.int .i64 1, σ))]) (by kernel_rfl)
    ⟨g1, g2, g3, g4, g5, g6, congrArg _ g7, congrArg _ g7, congrArg _ g8, g9, g10, congrArg _ g11, g12, g13, g14, g9, congrArg _ g11, g12, g15, g16, g17, g18, g17, g19, g20, g21⟩

theorem law9_dot (x : Int) (t : ByteArray) (r : Nat) (a c i k k1 y : Int) (σ0 σ : AS) (w1 : Nat → Value)
    (g1 : ∀ σ, env16.ov 32 [.int .u64 x] 0 σ = some (.string t, σ))
    (g2 : ∀ σ, env16.ov 40 [.string t] 0 σ = some (.tuple #[.int .u64 x, .int .i64 0], σ))
    (g3 : applyA Tryd.prog env16 (runW Tryd.prog env16) 0 (.func (.func 41) #[] #[]) [.string t, nl] σ0 = some (Sl r 9, σ))
    (g4 : (x != x) = false)
    (g5 : σ.cell? ⟨r, 8, none⟩ = some (.string ⟨#[]⟩))
    (g6 : runW Tryd.prog env16 0 (.code ⟨9, none⟩ (.loop body9) (T9 x t r a c 0 (w9 x t r)) []) σ = some (.done (.exit 0) (T9 x t r a c i w1) [], σ))
    (g7 : (t.size : Int) = 72)
    (g8 : (IntKind.i64.wrap a).tmod 72 = k)
    (g9 : 0 ≤ k ∧ k ≤ t.size)
    (g10 : (((t.extract 0 k.toNat).size + (one c).size : Nat) : Int) ≤ IntKind.i64.max)
    (g11 : IntKind.i64.wrap (k + 1) = k1)
    (g12 : 0 ≤ k1 ∧ k1 ≤ t.size)
    (g13 : (((t.extract 0 k.toNat ++ one c).size + (t.extract k1.toNat t.size).size : Nat) : Int) ≤ IntKind.i64.max)
    (g14 : ∀ σ, env16.ov 40 [.string (cat3 t k k1 c)] 0 σ = some (.tuple #[.int .u64 y, .int .i64 0], σ))
    (g15 : (((t.extract 0 k.toNat).size + (t.extract k1.toNat t.size).size : Nat) : Int) ≤ IntKind.i64.max)
    (g16 : ∀ σ, env16.ov 40 [.string (cat2 t k k1)] 0 σ = some (.tuple #[.int .u64 0, .int .i64 8], σ))
    (g17 : 0 ≤ k ∧ k < t.size)
    (g18 : (c == chr t k) = false)
    (g19 : (chr t k != 10) = true)
    (g20 : (c == 120) = false)
    (g21 : (c == 46) = true)
    (g22 : ∀ σ, env16.ov 24 [.int .u64 (xorS y x)] 0 σ = some (.int .i64 1, σ)) :
    runW Tryd.prog env16 0 (.call 9 [.int .u64 x, .int .u8 a, .int .u8 c]) σ0 = some (.val (.bool true), σ) :=
  runW_of_whole (n := 300) (hs := [(4, .ov (.string t)), (2, .ov (.tuple #[.int .u64 x, .int .i64 0])), (6, .sem (Sl r 9) σ), (3, .br false), (12, .is (.string ⟨#[]⟩)), (4, .skip (.done (.exit 0) (T9 x t r a c i w1) []) σ), (1, .eq (.int .i64 72)), (5, .eq (.int .i64 72)), (0, .eq (.int .i64 k)),
      (3, .ok), (3, .ok), (2, .eq (.int .i64 k1)), (0, .ok), (0, .ok), (2, .ov (.tuple #[.int .u64 y, .int .i64 0])), (7, .ok), (2, .eq (.int .i64 k1)), (0, .ok), (0, .ok), (0, .ov (.tuple #[.int .u64 0, .int .i64 8])), (11, .ok), (0, .br false), (3, .ok), (0, .br true), (2, .br false), (2, .br true), (9, .ov (.int .i64 1))])
    (ob := [(∀ σ, env16.ov 32 [.int .u64 x] 0 σ = some (.string t, σ)), (∀ σ, env16.ov 40 [.string t] 0 σ = some (.tuple #[.int .u64 x, .int .i64 0], σ)), (applyA Tryd.prog env16 (runW Tryd.prog env16) 0 (.func (.func 41) #[] #[]) [.string t, nl] σ0 = some (Sl r 9, σ)), ((x != x) = false), (σ.cell? ⟨r, 8, none⟩ = some (.string ⟨#[]⟩)), (runW Tryd.prog env16 0 (.code ⟨9, none⟩ (.loop body9) (T9 x t r a c 0 (w9 x t r)) []) σ = some (.done (.exit 0) (T9 x t r a c i w1) [], σ)), Value.int .i64 (t.size : Int) = .int .i64 72, Value.int .i64 (t.size : Int) = .int .i64 72, Value.int .i64 ((IntKind.i64.wrap a).tmod 72) = .int .i64 k, (0 ≤ k ∧ k ≤ t.size), ((((t.extract 0 k.toNat).size + (one c).size : Nat) : Int) ≤ IntKind.i64.max), Value.int .i64 (IntKind.i64.wrap (k + 1)) = .int .i64 k1, (0 ≤ k1 ∧ k1 ≤ t.size), ((((t.extract 0 k.toNat ++ one c).size + (t.extract k1.toNat t.size).size : Nat) : Int) ≤ IntKind.i64.max), (∀ σ, env16.ov 40 [.string (cat3 t k k1 c)] 0 σ = some (.tuple #[.int .u64 y, .int .i64 0], σ)), (0 ≤ k ∧ k ≤ t.size), Value.int .i64 (IntKind.i64.wrap (k + 1)) = .int .i64 k1, (0 ≤ k1 ∧ k1 ≤ t.size), ((((t.extract 0 k.toNat).size + (t.extract k1.toNat t.size).size : Nat) : Int) ≤ IntKind.i64.max), (∀ σ, env16.ov 40 [.string (cat2 t k k1)] 0 σ = some (.tuple #[.int .u64 0, .int .i64 8], σ)), (0 ≤ k ∧ k < t.size), (c == chr t k) = false, (0 ≤ k ∧ k < t.size), (chr t k != 10) = true, (c == 120) = false, (c == 46) = true, (∀ σ, env16.ov 24 [.int .u64 (xorS y x)] 0 σ = some (.int .i64 1, σ))]) (by kernel_rfl)
    ⟨g1, g2, g3, g4, g5, g6, congrArg _ g7, congrArg _ g7, congrArg _ g8, g9, g10, congrArg _ g11, g12, g13, g14, g9, congrArg _ g11, g12, g15, g16, g17, g18, g17, g19, g20, g21, g22⟩

theorem law9_other (x : Int) (t : ByteArray) (r : Nat) (a c i k k1 : Int) (σ0 σ : AS) (w1 : Nat → Value)
    (g1 : ∀ σ, env16.ov 32 [.int .u64 x] 0 σ = some (.string t, σ))
    (g2 : ∀ σ, env16.ov 40 [.string t] 0 σ = some (.tuple #[.int .u64 x, .int .i64 0], σ))
    (g3 : applyA Tryd.prog env16 (runW Tryd.prog env16) 0 (.func (.func 41) #[] #[]) [.string t, nl] σ0 = some (Sl r 9, σ))
    (g4 : (x != x) = false)
    (g5 : σ.cell? ⟨r, 8, none⟩ = some (.string ⟨#[]⟩))
    (g6 : runW Tryd.prog env16 0 (.code ⟨9, none⟩ (.loop body9) (T9 x t r a c 0 (w9 x t r)) []) σ = some (.done (.exit 0) (T9 x t r a c i w1) [], σ))
    (g7 : (t.size : Int) = 72)
    (g8 : (IntKind.i64.wrap a).tmod 72 = k)
    (g9 : 0 ≤ k ∧ k ≤ t.size)
    (g10 : (((t.extract 0 k.toNat).size + (one c).size : Nat) : Int) ≤ IntKind.i64.max)
    (g11 : IntKind.i64.wrap (k + 1) = k1)
    (g12 : 0 ≤ k1 ∧ k1 ≤ t.size)
    (g13 : (((t.extract 0 k.toNat ++ one c).size + (t.extract k1.toNat t.size).size : Nat) : Int) ≤ IntKind.i64.max)
    (g14 : ∀ σ, env16.ov 40 [.string (cat3 t k k1 c)] 0 σ = some (.tuple #[.int .u64 0, .int .i64 8], σ))
    (g15 : (((t.extract 0 k.toNat).size + (t.extract k1.toNat t.size).size : Nat) : Int) ≤ IntKind.i64.max)
    (g16 : ∀ σ, env16.ov 40 [.string (cat2 t k k1)] 0 σ = some (.tuple #[.int .u64 0, .int .i64 8], σ))
    (g17 : 0 ≤ k ∧ k < t.size)
    (g18 : (c == chr t k) = false)
    (g19 : (chr t k != 10) = true)
    (g20 : (c == 120) = false)
    (g21 : (c == 46) = false) :
    runW Tryd.prog env16 0 (.call 9 [.int .u64 x, .int .u8 a, .int .u8 c]) σ0 = some (.val (.bool true), σ) :=
  runW_of_whole (n := 300) (hs := [(4, .ov (.string t)), (2, .ov (.tuple #[.int .u64 x, .int .i64 0])), (6, .sem (Sl r 9) σ), (3, .br false), (12, .is (.string ⟨#[]⟩)), (4, .skip (.done (.exit 0) (T9 x t r a c i w1) []) σ), (1, .eq (.int .i64 72)), (5, .eq (.int .i64 72)), (0, .eq (.int .i64 k)),
      (3, .ok), (3, .ok), (2, .eq (.int .i64 k1)), (0, .ok), (0, .ok), (2, .ov (.tuple #[.int .u64 0, .int .i64 8])), (7, .ok), (2, .eq (.int .i64 k1)), (0, .ok), (0, .ok), (0, .ov (.tuple #[.int .u64 0, .int .i64 8])), (11, .ok), (0, .br false), (3, .ok), (0, .br true), (2, .br false), (2, .br false)])
    (ob := [(∀ σ, env16.ov 32 [.int .u64 x] 0 σ = some (.string t, σ)), (∀ σ, env16.ov 40 [.string t] 0 σ = some (.tuple #[.int .u64 x, .int .i64 0], σ)), (applyA Tryd.prog env16 (runW Tryd.prog env16) 0 (.func (.func 41) #[] #[]) [.string t, nl] σ0 = some (Sl r 9, σ)), ((x != x) = false), (σ.cell? ⟨r, 8, none⟩ = some (.string ⟨#[]⟩)), (runW Tryd.prog env16 0 (.code ⟨9, none⟩ (.loop body9) (T9 x t r a c 0 (w9 x t r)) []) σ = some (.done (.exit 0) (T9 x t r a c i w1) [], σ)), Value.int .i64 (t.size : Int) = .int .i64 72, Value.int .i64 (t.size : Int) = .int .i64 72, Value.int .i64 ((IntKind.i64.wrap a).tmod 72) = .int .i64 k, (0 ≤ k ∧ k ≤ t.size), ((((t.extract 0 k.toNat).size + (one c).size : Nat) : Int) ≤ IntKind.i64.max), Value.int .i64 (IntKind.i64.wrap (k + 1)) = .int .i64 k1, (0 ≤ k1 ∧ k1 ≤ t.size), ((((t.extract 0 k.toNat ++ one c).size + (t.extract k1.toNat t.size).size : Nat) : Int) ≤ IntKind.i64.max), (∀ σ, env16.ov 40 [.string (cat3 t k k1 c)] 0 σ = some (.tuple #[.int .u64 0, .int .i64 8], σ)), (0 ≤ k ∧ k ≤ t.size), Value.int .i64 (IntKind.i64.wrap (k + 1)) = .int .i64 k1, (0 ≤ k1 ∧ k1 ≤ t.size), ((((t.extract 0 k.toNat).size + (t.extract k1.toNat t.size).size : Nat) : Int) ≤ IntKind.i64.max), (∀ σ, env16.ov 40 [.string (cat2 t k k1)] 0 σ = some (.tuple #[.int .u64 0, .int .i64 8], σ)), (0 ≤ k ∧ k < t.size), (c == chr t k) = false, (0 ≤ k ∧ k < t.size), (chr t k != 10) = true, (c == 120) = false, (c == 46) = false]) (by kernel_rfl)
    ⟨g1, g2, g3, g4, g5, g6, congrArg _ g7, congrArg _ g7, congrArg _ g8, g9, g10, congrArg _ g11, g12, g13, g14, g9, congrArg _ g11, g12, g15, g16, g17, g18, g17, g19, g20, g21⟩

end Go.Proofs.YtakchekhpeokjaaDoor

/-
  BITBOARD (chapter 05): strings.Split at a line's end, where Parse is replaced, too. Printed by gen05uk.py.
-/
namespace Go.Proofs.YtakchekhpeokjaaDoor
open Go.Va

theorem pfT_71 (s : ByteArray) : pfT t16 71 [.string s, .string ⟨#[10]⟩] = some (.int .i64 (Lib.countByte s.data.toList 10)) := by
  unfold t16 t15; iterate 2 rw [pfT_ne rfl]
  rw [pfT_eq]; rfl
theorem pfT_72 (s : ByteArray) : pfT t16 72 [.string s, .string ⟨#[10]⟩] = some (.int .i64 (Lib.indexByte s.data.toList 10)) := by
  unfold t16 t15; iterate 3 rw [pfT_ne rfl]
  rw [pfT_eq]; rfl
theorem ov16_71 (s : ByteArray) (lim : Nat) (σ : AS) : env16.ov 71 [.string s, .string ⟨#[10]⟩] lim σ = some (.int .i64 (Lib.countByte s.data.toList 10), σ) := envK rfl rfl rfl rfl (pfT_71 s)
theorem ov16_72 (s : ByteArray) (lim : Nat) (σ : AS) : env16.ov 72 [.string s, .string ⟨#[10]⟩] lim σ = some (.int .i64 (Lib.indexByte s.data.toList 10), σ) := envK rfl rfl rfl rfl (pfT_72 s)
theorem next61x (s : ByteArray) (n i j : Int) (r m : Nat) (σ σ' : AS) (w : Nat → Value) (h1 : decide (i < n) = true) (h2 : ∀ σ, env16.ov 72 [.string s, nl] 0 σ = some (.int .i64 j, σ)) (h3 : decide (j < 0) = false) (h4 : 0 ≤ ad j ∧ ad j ≤ s.size) (h5 : 0 ≤ i ∧ i < m)
    (h6 : σ.setCells 0 ⟨r, 0 + i.toNat * 1, none⟩ [.string (s.extract 0 (ad j).toNat)] 0 = some σ') (h7 : 0 ≤ ad1 j ∧ ad1 j ≤ s.size) :
    ∃ w', runW Tryd.prog env16 0 (.code ⟨61, none⟩ body61 (T61 s n (Sl r m) i w) []) σ = some (.done .normal (T61 (s.extract (ad1 j).toNat s.size) n (Sl r m) (ad1 i) w') [], σ') :=
  seg 100 [(2, .br true), (3, .ov (.int .i64 j)), (2, .br false), (7, .ok), (0, .ok), (0, .sem undef σ'), (5, .ok)] (m := 66) (js := [0, 1, 2, 3, 9, 10]) (vs := [.string (s.extract (ad1 j).toNat s.size), nl, .int .i64 0, .int .i64 n, Sl r m, .int .i64 (ad1 i)])
    (ob := [decide (i < n) = true, (∀ σ, env16.ov 72 [.string s, nl] 0 σ = some (.int .i64 j, σ)), decide (j < 0) = false, 0 ≤ ad j ∧ ad j ≤ s.size, 0 ≤ i ∧ i < m, σ.setCells 0 ⟨r, 0 + i.toNat * 1, none⟩ [.string (s.extract 0 (ad j).toNat)] 0 = some σ', 0 ≤ ad1 j ∧ ad1 j ≤ s.size]) (by kernel_rfl)
    ⟨h1, h2, h3, h4, h5, h6, h7⟩
theorem end61x (s : ByteArray) (n i : Int) (r m : Nat) (σ : AS) (w : Nat → Value) (h1 : decide (i < n) = false) :
    ∃ w', runW Tryd.prog env16 0 (.code ⟨61, none⟩ body61 (T61 s n (Sl r m) i w) []) σ = some (.done (.exit 0) (T61 s n (Sl r m) i w') [], σ) :=
  seg 100 [(2, .br false)] (m := 66) (js := [0, 1, 2, 3, 9, 10]) (vs := [.string s, nl, .int .i64 0, .int .i64 n, Sl r m, .int .i64 i]) (ob := [decide (i < n) = false]) (by kernel_rfl) h1
theorem loop61x (r m n : Nat) (hm : m = n + 1) (hn : n < 100000) : ∀ (k i : Nat) (s : ByteArray) (cs : List Value) (σ : AS) (w : Nat → Value), i + k = n → s.size < 100000 → Lib.countByte s.data.toList 10 = k → σ.get r = some (.cells cs true (none, some 9) none) → cs.length = m →
    ∃ w' σ' s' cs', runW Tryd.prog env16 0 (.code ⟨61, none⟩ (.loop body61) (T61 s n (Sl r m) i w) []) σ = some (.done (.exit 0) (T61 s' n (Sl r m) n w') [], σ') ∧ σ'.get r = some (.cells cs' true (none, some 9) none) ∧ cs'.length = m ∧ s'.size < 100000 ∧
      cs'.set n (.string s') = cs.take i ++ strs (pcs 10 s.data.toList) ∧ σ'.next = σ.next ∧ ∀ j, j ≠ r → σ'.get j = σ.get j := by
  intro k
  induction k with
  | zero =>
    intro i s cs σ w hi hs hc hg hl
    obtain rfl : i = n := by omega
    obtain ⟨w', h⟩ := end61x s i i r m σ w (decide_eq_false (by omega))
    refine ⟨w', σ, s, cs, loop_out (by intro h; cases h) h, hg, hl, hs, ?_, rfl, fun _ _ => rfl⟩
    rw [pcs_none (count_none hc)]
    refine List.ext_getElem (by simp [strs]; omega) fun j h1 h2 => ?_
    rw [List.getElem_set]
    by_cases hj : i = j
    · subst hj
      rw [if_pos rfl, List.getElem_append_right (by rw [List.length_take]; omega)]
      simp [strs, str_of]
    · rw [List.length_set] at h1
      rw [if_neg hj, List.getElem_append_left (by rw [List.length_take]; omega), List.getElem_take]
  | succ k ih =>
    intro i s cs σ w hi hs hc hg hl
    obtain ⟨j, hj, hjl, hc'⟩ := count_index hc
    have hlen : s.data.toList.length = s.size := by show _ = s.data.size; simp
    have e0 : ad (j : Int) = j := by unfold ad; rw [wrap64 (by omega) (by omega)]; omega
    have e1 : ad1 (j : Int) = ((j + 1 : Nat) : Int) := by unfold ad1; rw [wrap64 (by omega) (by omega)]; rfl
    have e2 : ad1 (i : Int) = ((i + 1 : Nat) : Int) := by unfold ad1; rw [wrap64 (by omega) (by omega)]; rfl
    have hx : s.extract 0 (ad (j : Int)).toNat = str (s.data.toList.take j) := by rw [e0, Int.toNat_natCast, ex_str, List.drop_zero, Nat.sub_zero]
    have hy : s.extract (ad1 (j : Int)).toNat s.size = str (s.data.toList.drop (j + 1)) := by
      rw [e1, Int.toNat_natCast, ex_str, List.take_of_length_le (by rw [List.length_drop]; omega)]
    have hst : σ.setCells 0 ⟨r, 0 + (i : Int).toNat * 1, none⟩ [.string (s.extract 0 (ad (j : Int)).toNat)] 0 = some (σ.put r (some (.cells (cs.set i (.string (str (s.data.toList.take j)))) true (none, some 9) none))) := by
      rw [show 0 + (i : Int).toNat * 1 = i by omega, hx]
      exact setCells1 hg (by omega) (by omega) rfl
    obtain ⟨w1, h⟩ := next61x s n i j r m σ _ w (decide_eq_true (by omega)) (fun σ => by rw [show nl = .string ⟨#[10]⟩ from rfl, ov16_72, hj]) (decide_eq_false (by omega)) (by rw [e0]; omega) (by omega) hst (by rw [e1]; omega)
    rw [hy, e2] at h
    obtain ⟨w', σ', s', cs', h', g1, g2, g3, g4, g5, g6⟩ := ih (i + 1) (str (s.data.toList.drop (j + 1))) (cs.set i (.string (str (s.data.toList.take j)))) _ w1 (by omega)
      (by rw [str_size, List.length_drop]; omega) (by rw [str_data]; exact hc') (get_put_eq rfl) (by rw [List.length_set]; exact hl)
    refine ⟨w', σ', s', cs', loop_next h h', g1, g2, g3, ?_, g5, fun x hx => by rw [g6 x hx, get_put_ne hx]⟩
    rw [g4, str_data, (pcs_index hj).2]
    have et : (cs.set i (.string (str (s.data.toList.take j)))).take (i + 1) = cs.take i ++ [.string (str (s.data.toList.take j))] := by
      rw [List.take_succ_eq_append_getElem (by rw [List.length_set]; omega), List.getElem_set_self, List.take_set_of_le (Nat.le_refl i)]
    rw [et, List.append_assoc]
    rfl
theorem call61x (s s' : ByteArray) (k n m : Int) (mm : Nat) (σ σ1 σ2 : AS) (w' : Nat → Value) (h1 : ∀ σ, env16.ov 71 [.string s, nl] 0 σ = some (.int .i64 k, σ))
    (h2 : (if IntKind.i64.wrap ((s.size : Int) + 1) < IntKind.i64.wrap (k + 1) then IntKind.i64.wrap ((s.size : Int) + 1) else IntKind.i64.wrap (k + 1)) = m)
    (h3 : runA Tryd.prog 0 (Instr.makeSlice 58 (.int .i64 m) (.int .i64 m)) σ = some (Sl σ.next mm, σ1)) (h4 : IntKind.i64.wrap (m - 1) = n)
    (h5 : runW Tryd.prog env16 0 (.code ⟨61, none⟩ (.loop body61) (T61 s n (Sl σ.next mm) 0 (w61 s k n m σ.next mm)) []) σ1 = some (.done (.exit 0) (T61 s' n (Sl σ.next mm) n w') [], σ2))
    (h6 : 0 ≤ n ∧ n < mm) {σ3 : AS} (h7 : σ2.setCells 0 ⟨σ.next, 0 + n.toNat * 1, none⟩ [.string s'] 0 = some σ3) (h8 : IntKind.i64.wrap (n + 1) = m)
    (h9 : sliceA Tryd.prog 0 58 (Sl σ.next mm) none (some (.int .i64 m)) none σ3 = some (Sl σ.next mm, σ3)) :
    runW Tryd.prog env16 0 (.call 61 [.string s, nl, .int .i64 0, .int .i64 (-1)]) σ = some (.val (Sl σ.next mm), σ3) :=
  runW_of_whole (n := 200) (hs := [(12, .ov (.int .i64 k)), (6, .eq (.int .i64 m)), (2, .sem (Sl σ.next mm) σ1), (2, .eq (.int .i64 n)), (2, .skip (.done (.exit 0) (T61 s' n (Sl σ.next mm) n w') []) σ2), (3, .ok), (0, .sem undef σ3), (2, .eq (.int .i64 m)), (0, .sem (Sl σ.next mm) σ3)])
    (ob := [(∀ σ, env16.ov 71 [.string s, nl] 0 σ = some (.int .i64 k, σ)), Value.int .i64 (if IntKind.i64.wrap ((s.size : Int) + 1) < IntKind.i64.wrap (k + 1) then IntKind.i64.wrap ((s.size : Int) + 1) else IntKind.i64.wrap (k + 1)) = .int .i64 m,
      runA Tryd.prog 0 (Instr.makeSlice 58 (.int .i64 m) (.int .i64 m)) σ = some (Sl σ.next mm, σ1), Value.int .i64 (IntKind.i64.wrap (m - 1)) = .int .i64 n,
      runW Tryd.prog env16 0 (.code ⟨61, none⟩ (.loop body61) (T61 s n (Sl σ.next mm) 0 (w61 s k n m σ.next mm)) []) σ1 = some (.done (.exit 0) (T61 s' n (Sl σ.next mm) n w') [], σ2), 0 ≤ n ∧ n < mm,
      σ2.setCells 0 ⟨σ.next, 0 + n.toNat * 1, none⟩ [.string s'] 0 = some σ3, Value.int .i64 (IntKind.i64.wrap (n + 1)) = .int .i64 m, sliceA Tryd.prog 0 58 (Sl σ.next mm) none (some (.int .i64 m)) none σ3 = some (Sl σ.next mm, σ3)]) (by kernel_rfl)
    ⟨h1, congrArg _ h2, h3, congrArg _ h4, h5, h6, h7, congrArg _ h8, h9⟩
theorem call41x (s : ByteArray) (k : Nat) (σ σ' : AS) (h : applyA Tryd.prog env16 (runW Tryd.prog env16) 0 (.func (.func 61) #[] #[]) [.string s, nl, .int .i64 0, .int .i64 (-1)] σ = some (Sl σ.next k, σ')) :
    runW Tryd.prog env16 0 (.call 41 [.string s, nl]) σ = some (.val (Sl σ.next k), σ') :=
  runW_of_whole (n := 100) (hs := [(3, .sem (Sl σ.next k) σ')]) (ob := [applyA Tryd.prog env16 (runW Tryd.prog env16) 0 (.func (.func 61) #[] #[]) [.string s, nl, .int .i64 0, .int .i64 (-1)] σ = some (Sl σ.next k, σ')]) (by kernel_rfl) h
theorem split_ox (s : ByteArray) (hs : s.size < 90000) (σ : AS) : ∃ σ', runW Tryd.prog env16 0 (.call 41 [.string s, nl]) σ = some (.val (Sl σ.next (pcs 10 s.data.toList).length), σ') ∧
    σ'.get σ.next = some (.cells (strs (pcs 10 s.data.toList)) true (none, some 9) none) ∧ σ'.next = σ.next + 1 ∧ ∀ j, j < σ.next → σ'.get j = σ.get j := by
  have hk := pcs_count 10 s.data.toList
  have hlen : s.data.toList.length = s.size := by show _ = s.data.size; simp
  have hkl : Lib.countByte s.data.toList 10 ≤ s.size := by rw [← hlen]; exact List.count_le_length
  generalize hkk : Lib.countByte s.data.toList 10 = k at hk hkl
  rw [hk]
  obtain ⟨i, hi, h1, h2⟩ := i9
  have hmk := makeSlice_of (P := Tryd.prog) (lim := 0) (σ := σ) (n := k + 1) (z := .string ⟨#[]⟩) Tryd.underlying58 hi h1 (by rw [h2]; omega) (by omega) (by omega) (zero9 σ) rfl
  obtain ⟨w', σ2, s', cs', h5, g1, g2, _, g4, g5, g6⟩ := loop61x σ.next (k + 1) k rfl (by omega) k 0 s (List.replicate (k + 1) (.string ⟨#[]⟩)) (σ.push (.cells (List.replicate (k + 1) (.string ⟨#[]⟩)) true (none, some 9) none))
    (w61 s k k ((k + 1 : Nat) : Int) σ.next (k + 1)) (by omega) (by omega) hkk (get_push_eq rfl) (by simp)
  rw [show ((0 : Nat) : Int) = 0 from rfl] at h5
  have h7 : σ2.setCells 0 ⟨σ.next, 0 + (k : Int).toNat * 1, none⟩ [.string s'] 0 = some (σ2.put σ.next (some (.cells (strs (pcs 10 s.data.toList)) true (none, some 9) none))) := by
    rw [show 0 + (k : Int).toNat * 1 = k by omega, setCells1 g1 (by omega) (by omega) rfl, g4]
    rfl
  have hsl : sliceA Tryd.prog 0 58 (Sl σ.next (k + 1)) none (some (.int .i64 ((k + 1 : Nat) : Int))) none (σ2.put σ.next (some (.cells (strs (pcs 10 s.data.toList)) true (none, some 9) none))) = some (Sl σ.next (k + 1), σ2.put σ.next (some (.cells (strs (pcs 10 s.data.toList)) true (none, some 9) none))) :=
    slice_row Tryd.underlying58 hi (get_put_eq rfl) (by omega) (by omega)
  have hw : IntKind.i64.wrap ((k : Int) + 1) = ((k + 1 : Nat) : Int) := by rw [wrap64 (by omega) (by omega)]; rfl
  have hw2 : IntKind.i64.wrap ((s.size : Int) + 1) = (s.size : Int) + 1 := wrap64 (by omega) (by omega)
  have hw3 : IntKind.i64.wrap (((k + 1 : Nat) : Int) - 1) = (k : Int) := by rw [wrap64 (by omega) (by omega)]; omega
  have := call61x s s' k k ((k + 1 : Nat) : Int) (k + 1) σ _ σ2 w' (fun σ => by rw [show nl = .string ⟨#[10]⟩ from rfl, ov16_71, hkk]) (by rw [hw, hw2, if_neg (by omega)]) hmk hw3 h5 (by omega) h7 hw hsl
  refine ⟨_, call41x s (k + 1) σ _ (app_of rfl this), get_put_eq rfl, by rw [next_put, g5]; rfl, fun j hj => ?_⟩
  rw [get_put_ne (by omega), g6 j (by omega), get_push_ne (by omega)]
end Go.Proofs.YtakchekhpeokjaaDoor
