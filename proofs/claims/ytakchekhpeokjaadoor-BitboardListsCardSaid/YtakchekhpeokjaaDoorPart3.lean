/-
  The functions that the statement reaches: what they answer, part 3.
-/
import Derived.Test.YtakchekhpeokjaaDoorPart2

/-
  BITBOARD (chapter 05): lists of numbers; slices.Equal.
-/
namespace Go.Proofs.YtakchekhpeokjaaDoor
open Go.Va

def zs (l : List Int) : List Value := l.map fun n => .int .i64 n
/-- A list of numbers, as a value: nil, or a row that is not written any more. -/
def IsZ (v : Value) (l : List Int) : Prop := (v = .slice none 0 0 ∧ l = [] ∧ True) ∨ ∃ g, g ≤ 1 ∧ v = L (zs l) l.length 1 g ∧ l.length < 4611686018427387904
theorem asL_L' (c : List Value) (n e g : Nat) : asL (L c n e g) = some (c, n, e, g) := rfl
theorem zs_inj : ∀ {l m : List Int}, zs l = zs m → l = m
  | [], [], _ => rfl
  | [], _ :: _, h => by cases h
  | _ :: _, [], h => by cases h
  | a :: l, b :: m, h => by
    have h : Value.int .i64 a :: zs l = Value.int .i64 b :: zs m := h
    injection h with h1 h2
    injection h1 with _ h1
    rw [h1, zs_inj h2]
theorem IsZ.det {v : Value} {l m : List Int} (h : IsZ v l) (h' : IsZ v m) : l = m := by
  rcases h with ⟨e, hl, _⟩ | ⟨g, _, e, _⟩ <;> rcases h' with ⟨e', hm, _⟩ | ⟨g', _, e', _⟩
  · rw [hl, hm]
  · rw [e] at e'; cases e'
  · rw [e] at e'; cases e'
  · have : asL (L (zs l) l.length 1 g) = asL (L (zs m) m.length 1 g') := by rw [← e, ← e']
    rw [asL_L', asL_L'] at this
    exact zs_inj (Prod.mk.inj (Option.some.inj this)).1
open Classical in
noncomputable def zl (v : Value) : Option (List Int) := if h : ∃ l, IsZ v l then some (Classical.choose h) else none
theorem zl_eq {v : Value} {l : List Int} (h : IsZ v l) : zl v = some l := by
  have h' : ∃ l, IsZ v l := ⟨l, h⟩
  unfold zl
  rw [dif_pos h']
  exact congrArg some (IsZ.det (Classical.choose_spec h') h)
theorem zl_spec {v : Value} {l : List Int} (h : zl v = some l) : IsZ v l := by
  unfold zl at h
  split at h
  · rename_i h'
    cases h
    exact Classical.choose_spec h'
  · cases h

/-! ## slices.Equal -/

noncomputable def body16 : Code := codeOf Tryd.prog 16 [.r, .r, .l, .r, .b, .b]
def T16 (a b : Value) (n i : Int) (w : Nat → Value) : List Value := fillT 26 [(0, a), (1, b), (12, .int .i64 n), (13, .int .i64 i)] w
theorem next16 (c d : List Value) (n g g' : Nat) (i : Nat) (x : Int) (w : Nat → Value) (h1 : i < n) (hx : c[i]? = some (.int .i64 x)) (hy : d[i]? = some (.int .i64 x)) (hn : n < 9223372036854775807) :
    ∃ w', runW Tryd.prog env6 0 (.code ⟨16, none⟩ body16 (T16 (L c n 1 g) (L d n 1 g') n i w) []) (base0 4 tabs) = some (.done .normal (T16 (L c n 1 g) (L d n 1 g') n ((i + 1 : Nat) : Int) w') [], base0 4 tabs) := by
  have e : IntKind.i64.wrap ((i : Int) + 1) = ((i + 1 : Nat) : Int) := by rw [wrap64 (by omega) (by omega)]; rfl
  rw [← e]
  exact seg 100 [(0, .br true), (5, .ok), (0, .is (.int .i64 x)), (2, .ok), (0, .is (.int .i64 x)), (0, .br false)] (m := 26) (js := [0, 1, 12, 13]) (vs := [L c n 1 g, L d n 1 g', .int .i64 n, .int .i64 (IntKind.i64.wrap ((i : Int) + 1))])
    (ob := [decide ((i : Int) < n) = true, (0 : Int) ≤ i ∧ (i : Int) < n, c[i * 1]? = some (.int .i64 x), (0 : Int) ≤ i ∧ (i : Int) < n, d[i * 1]? = some (.int .i64 x), (x != x) = false]) (by kernel_rfl)
    ⟨decide_eq_true (by omega), ⟨by omega, by omega⟩, by rw [Nat.mul_one]; exact hx, ⟨by omega, by omega⟩, by rw [Nat.mul_one]; exact hy, bne_self_eq_false x⟩
theorem diff16 (c d : List Value) (n g g' : Nat) (i : Nat) (x y : Int) (w : Nat → Value) (h1 : i < n) (hx : c[i]? = some (.int .i64 x)) (hy : d[i]? = some (.int .i64 y)) (hxy : x ≠ y) :
    ∃ w', runW Tryd.prog env6 0 (.code ⟨16, none⟩ body16 (T16 (L c n 1 g) (L d n 1 g') n i w) []) (base0 4 tabs) = some (.done .ret (fillT 26 [(4, .bool false)] w') [], base0 4 tabs) :=
  seg 100 [(0, .br true), (5, .ok), (0, .is (.int .i64 x)), (2, .ok), (0, .is (.int .i64 y)), (0, .br true)] (m := 26) (js := [4]) (vs := [.bool false])
    (ob := [decide ((i : Int) < n) = true, (0 : Int) ≤ i ∧ (i : Int) < n, c[i * 1]? = some (.int .i64 x), (0 : Int) ≤ i ∧ (i : Int) < n, d[i * 1]? = some (.int .i64 y), (x != y) = true]) (by kernel_rfl)
    ⟨decide_eq_true (by omega), ⟨by omega, by omega⟩, by rw [Nat.mul_one]; exact hx, ⟨by omega, by omega⟩, by rw [Nat.mul_one]; exact hy, bne_iff_ne.2 hxy⟩
theorem end16 (a b : Value) (n i : Int) (w : Nat → Value) (h1 : n ≤ i) :
    ∃ w', runW Tryd.prog env6 0 (.code ⟨16, none⟩ body16 (T16 a b n i w) []) (base0 4 tabs) = some (.done (.exit 0) (fillT 26 [] w') [], base0 4 tabs) :=
  seg 100 [(0, .br false)] (m := 26) (js := []) (vs := []) (ob := [decide (i < n) = false]) (by kernel_rfl) (decide_eq_false (by omega))

theorem zs_get (l : List Int) (i : Nat) : (zs l)[i]? = (l[i]?).map fun n => Value.int .i64 n := by unfold zs; rw [List.getElem?_map]
/-- How the loop ends. -/
theorem loop16 (l m : List Int) (n g g' : Nat) (hl : l.length = n) (hm : m.length = n) (hn : n < 9223372036854775807) : ∀ (k i : Nat) (w : Nat → Value), i + k = n →
    ∃ w', runW Tryd.prog env6 0 (.code ⟨16, none⟩ (.loop body16) (T16 (L (zs l) n 1 g) (L (zs m) n 1 g') n i w) []) (base0 4 tabs) =
      some (bif l.drop i == m.drop i then .done (.exit 0) (fillT 26 [] w') [] else .done .ret (fillT 26 [(4, .bool false)] w') [], base0 4 tabs) := by
  intro k
  induction k with
  | zero =>
    intro i w hi
    rw [List.drop_of_length_le (by omega), List.drop_of_length_le (by omega)]
    obtain ⟨w', h⟩ := end16 (L (zs l) n 1 g) (L (zs m) n 1 g') n i w (by omega)
    exact ⟨w', loop_out (by intro h; cases h) h⟩
  | succ k ih =>
    intro i w hi
    have hil : i < l.length := by omega
    have him : i < m.length := by omega
    have hx : (zs l)[i]? = some (.int .i64 l[i]) := by rw [zs_get, List.getElem?_eq_getElem hil]; rfl
    have hy : (zs m)[i]? = some (.int .i64 m[i]) := by rw [zs_get, List.getElem?_eq_getElem him]; rfl
    rw [List.drop_eq_getElem_cons hil, List.drop_eq_getElem_cons him]
    by_cases h : l[i] = m[i]
    · rw [← h] at hy
      obtain ⟨w1, h1⟩ := next16 (zs l) (zs m) n g g' i l[i] w (by omega) hx hy hn
      obtain ⟨w', h2⟩ := ih (i + 1) w1 (by omega)
      refine ⟨w', ?_⟩
      rw [show (l[i] :: l.drop (i + 1) == m[i] :: m.drop (i + 1)) = (l.drop (i + 1) == m.drop (i + 1)) by rw [List.cons_beq_cons, h, beq_self_eq_true, Bool.true_and]]
      exact loop_next h1 h2
    · obtain ⟨w', h1⟩ := diff16 (zs l) (zs m) n g g' i l[i] m[i] w (by omega) hx hy h
      refine ⟨w', ?_⟩
      rw [show (l[i] :: l.drop (i + 1) == m[i] :: m.drop (i + 1)) = false by rw [List.cons_beq_cons, beq_eq_false_iff_ne.2 h, Bool.false_and]]
      exact loop_out (by intro h; cases h) h1
theorem p16_nn : Pure Tryd.prog 4 tabs 16 [.slice none 0 0, .slice none 0 0] (.bool true) :=
  pureT t6_ok fns6 (n := 100) (v := .bool true) [] [] (by kernel_rfl) trivial rfl (.bool true)
theorem p16_nl (c : List Value) (n g : Nat) : Pure Tryd.prog 4 tabs 16 [.slice none 0 0, L c n 1 g] (.bool (decide (n = 0))) := by
  by_cases h : n = 0
  · rw [decide_eq_true h]
    exact pureT t6_ok fns6 (n := 100) (v := .bool true) [(5, .br false)] [((0 : Int) != n) = false] (by kernel_rfl) (by subst h; rfl) rfl (.bool true)
  · rw [decide_eq_false h]
    exact pureT t6_ok fns6 (n := 100) (v := .bool false) [(5, .br true)] [((0 : Int) != n) = true] (by kernel_rfl) (by simp [All]; omega) rfl (.bool false)
theorem p16_ln (c : List Value) (n g : Nat) : Pure Tryd.prog 4 tabs 16 [L c n 1 g, .slice none 0 0] (.bool (decide (n = 0))) := by
  by_cases h : n = 0
  · rw [decide_eq_true h]
    subst h
    exact pureT t6_ok fns6 (n := 100) (v := .bool true) [] [] (by kernel_rfl) trivial rfl (.bool true)
  · rw [decide_eq_false h]
    exact pureT t6_ok fns6 (n := 100) (v := .bool false) [(5, .br true)] [((n : Int) != 0) = true] (by kernel_rfl) (by simp [All]; omega) rfl (.bool false)
theorem p16_ll (l m : List Int) (g g' : Nat) (hn : l.length < 9223372036854775807) : Pure Tryd.prog 4 tabs 16 [L (zs l) l.length 1 g, L (zs m) m.length 1 g'] (.bool (l == m)) := by
  by_cases hm : m.length = l.length
  · obtain ⟨w', h⟩ := loop16 l m l.length g g' rfl hm hn l.length 0 (fun j => Go.Va.look [(4, .bool false), (6, L (zs l) l.length 1 g), (7, .int .i64 l.length), (8, L (zs m) l.length 1 g'), (9, .int .i64 l.length), (10, .bool false), (11, L (zs l) l.length 1 g)] j undef) (by omega)
    rw [hm]
    rw [List.drop_zero, List.drop_zero] at h
    cases e : l == m with
    | true =>
      rw [e] at h
      exact pureT t6_ok fns6 (n := 100) (v := .bool true) [(5, .br false), (4, .skip (.done (.exit 0) (fillT 26 [] w') []) (base0 4 tabs))] [((l.length : Int) != l.length) = false, _] (by kernel_rfl) ⟨bne_self_eq_false _, h⟩ rfl (.bool true)
    | false =>
      rw [e] at h
      exact pureT t6_ok fns6 (n := 100) (v := .bool false) [(5, .br false), (4, .skip (.done .ret (fillT 26 [(4, .bool false)] w') []) (base0 4 tabs))] [((l.length : Int) != l.length) = false, _] (by kernel_rfl) ⟨bne_self_eq_false _, h⟩ rfl (.bool false)
  · rw [show (l == m) = false from beq_eq_false_iff_ne.2 fun e => hm (by rw [e])]
    exact pureT t6_ok fns6 (n := 100) (v := .bool false) [(5, .br true)] [((l.length : Int) != m.length) = true] (by kernel_rfl) (by simp [All]; omega) rfl (.bool false)

noncomputable def k16 : List Value → Option Value
  | [a, b] => match zl a, zl b with
    | some l, some m => some (.bool (l == m))
    | _, _ => none
  | _ => none
theorem p16 : KOk Tryd.prog 4 tabs 16 k16 := by
  intro args v h
  unfold k16 at h
  split at h
  · rename_i a b
    split at h
    · rename_i l m hl hm
      cases h
      rcases zl_spec hl with ⟨ea, el, _⟩ | ⟨g, _, ea, hb⟩ <;> rcases zl_spec hm with ⟨eb, em, _⟩ | ⟨g', _, eb, hb'⟩
      · subst ea el eb em; exact p16_nn
      · subst ea el eb
        have := p16_nl (zs m) m.length g'
        cases m <;> exact this
      · subst ea eb em
        have := p16_ln (zs l) l.length g
        cases l <;> exact this
      · subst ea eb; exact p16_ll l m g g' (by omega)
    · cases h
  · cases h
theorem k16_eq {a b : Value} {l m : List Int} (ha : IsZ a l) (hb : IsZ b m) : k16 [a, b] = some (.bool (l == m)) := by
  unfold k16; dsimp only; rw [zl_eq ha, zl_eq hb]
end Go.Proofs.YtakchekhpeokjaaDoor

/-
  BITBOARD (chapter 05): an environment in which List and slices.Equal are replaced.
-/
namespace Go.Proofs.YtakchekhpeokjaaDoor
open Go.Va

def natZ (l : List Nat) : List Int := l.map fun n : Nat => (n : Int)
theorem zs_natZ (l : List Nat) : zs (natZ l) = ints l := by unfold zs natZ ints; rw [List.map_map]; rfl
theorem natZ_len (l : List Nat) : (natZ l).length = l.length := by unfold natZ; rw [List.length_map]
/-- A list of numbers of 64 at most. -/
theorem lstV_IsZ {l : List Nat} (h : l.length ≤ 64) : IsZ (lstV l) (natZ l) := by
  unfold lstV
  split
  · exact .inl ⟨rfl, rfl, trivial⟩
  · refine .inr ⟨0, by omega, ?_, ?_⟩
    · rw [zs_natZ, natZ_len]
    · rw [natZ_len]; omega
theorem IsZ_L {l : List Nat} {n g : Nat} (hn : l.length = n) (hg : g ≤ 1) (h : n < 4611686018427387904) : IsZ (L (ints l) n 1 g) (natZ l) :=
  .inr ⟨g, hg, by rw [zs_natZ, natZ_len, hn], by rw [natZ_len, hn]; exact h⟩
theorem IsZ_nil : IsZ (.slice none 0 0) (natZ []) := .inl ⟨rfl, rfl, trivial⟩
def k15 : List Value → Option Value
  | [.int .u64 s] => bif inU s then some (lstV (bitsL (BitVec.ofInt 64 s))) else none
  | _ => none
theorem k15_u (x : BitVec 64) : k15 [.int .u64 (u x)] = some (lstV (bitsL x)) := by
  unfold k15
  dsimp only
  rw [inU_u, cond_true, show BitVec.ofInt 64 (u x) = x from ofInt_u x]
noncomputable def t7 : Ktab := (15, k15) :: (16, k16) :: t6
theorem t7_ok : TOk Tryd.prog 4 tabs t7 := by
  refine ⟨?_, p16, t6_ok⟩
  intro args v h
  unfold k15 at h
  split at h
  · rename_i s
    cases hs : inU s with
    | false => rw [hs] at h; cases h
    | true =>
      rw [hs] at h
      cases h
      have := p15 (BitVec.ofInt 64 s)
      rw [← ofInt_inU hs] at this
      exact this
  · cases h
noncomputable def env7 : Env := envT t7
set_option maxRecDepth 100000 in
theorem fns7 : fnB Tryd.prog 4 env7 okL = true := by kernel_rfl
/-- A replaced function of the table. -/
theorem envK {l : Ktab} {f : FuncId} {args : List Value} {lim : Nat} {σ : AS} {v : Value} (h1 : Nat.beq f 76 = false) (h2 : Nat.beq f 81 = false) (h3 : args.map strip = args) (h4 : args.all (flatB 100) = true) (h : pfT l f args = some v) :
    (envT l).ov f args lim σ = some (v, σ) := envT_ov h1 h2 (pureOv_of (by rw [h3]; exact h4) (by rw [h3]; exact h))
theorem ov7_52 (x : BitVec 64) (lim : Nat) (σ : AS) : env7.ov 52 [.int .u64 (u x)] lim σ = some (.int .i64 (tz x), σ) :=
  envK rfl rfl rfl rfl (by unfold t7; rw [pfT_ne rfl, pfT_ne rfl, pf52]; exact k52_u x)
theorem ov7_15 (x : BitVec 64) (lim : Nat) (σ : AS) : env7.ov 15 [.int .u64 (u x)] lim σ = some (lstV (bitsL x), σ) :=
  envK rfl rfl rfl rfl (by unfold t7; rw [pfT_eq]; exact k15_u x)
theorem pf7_16 (args : List Value) : pfT t7 16 args = k16 args := by
  unfold t7; rw [pfT_ne rfl, pfT_eq]
theorem strip_L (c : List Value) (n e : Nat) : ∀ g, strip (L c n e (g + 2)) = L c n e 0 := fun _ => rfl
/-- slices.Equal of lists that may grow. -/
theorem ov7_16 {a b a' b' : Value} {l m : List Int} (lim : Nat) (σ : AS) (ea : strip a = a') (eb : strip b = b') (ha : IsZ a' l) (hb : IsZ b' m) : env7.ov 16 [a, b] lim σ = some (.bool (l == m), σ) := by
  have fl : ∀ {v : Value} {l : List Int}, IsZ v l → flatB 100 v = true := by
    intro v l h
    rcases h with ⟨e, _⟩ | ⟨g, hg, e, _⟩
    · rw [e]; rfl
    · rw [e]
      show Nat.ble g 1 = true
      exact Nat.ble_eq_true_of_le hg
  refine envT_ov rfl rfl (pureOv_of ?_ ?_)
  · show (flatB 100 (strip a) && (flatB 100 (strip b) && true)) = true
    rw [ea, eb, fl ha, fl hb]; rfl
  · show pfT t7 16 [strip a, strip b] = _
    rw [ea, eb, pf7_16, k16_eq ha hb]
end Go.Proofs.YtakchekhpeokjaaDoor

/-
  BITBOARD (chapter 05): the number of bits of a number.
-/
namespace Go.Proofs.YtakchekhpeokjaaDoor
open Go.Va

/-- A number by its digits. -/
def V (B : Nat) : List Nat → Nat
  | [] => 0
  | a :: l => a + B * V B l
theorem V_add (B : Nat) : ∀ {l m : List Nat}, l.length = m.length → V B l + V B m = V B (List.zipWith (· + ·) l m)
  | [], [], _ => rfl
  | a :: l, b :: m, h => by
    have := V_add B (l := l) (m := m) (by simpa using h)
    show a + B * V B l + (b + B * V B m) = a + b + B * V B (List.zipWith (· + ·) l m)
    rw [← this, Nat.mul_add]; omega
  | [], _ :: _, h => by cases h
  | _ :: _, [], h => by cases h
theorem V_lt {B : Nat} (hB : 0 < B) : ∀ {l : List Nat}, (∀ a ∈ l, a < B) → V B l < B ^ l.length
  | [], _ => by simp [V]
  | a :: l, h => by
    have h1 := V_lt hB (l := l) fun b hb => h b (List.mem_cons_of_mem _ hb)
    have h2 := h a (List.mem_cons_self ..)
    show a + B * V B l < B ^ (l.length + 1)
    rw [Nat.pow_succ, Nat.mul_comm _ B]
    have : B * (V B l + 1) ≤ B * B ^ l.length := Nat.mul_le_mul_left B h1
    rw [Nat.mul_add, Nat.mul_one] at this
    omega
theorem V_div {B a : Nat} {l : List Nat} (h : a < B) : V B (a :: l) / B = V B l := by
  show (a + B * V B l) / B = V B l
  rw [Nat.add_mul_div_left _ _ (by omega), Nat.div_eq_of_lt h, Nat.zero_add]
theorem and_split (w : Nat) {a c : Nat} (b d : Nat) (ha : a < 2 ^ w) (hc : c < 2 ^ w) : (a + 2 ^ w * b) &&& (c + 2 ^ w * d) = (a &&& c) + 2 ^ w * (b &&& d) := by
  refine Nat.eq_of_testBit_eq fun j => ?_
  rw [Nat.testBit_and, Nat.add_comm a, Nat.add_comm c, Nat.add_comm (a &&& c), Nat.testBit_two_pow_mul_add _ ha, Nat.testBit_two_pow_mul_add _ hc, Nat.testBit_two_pow_mul_add _ (Nat.and_lt_two_pow _ hc)]
  split
  · rw [Nat.testBit_and]
  · rw [Nat.testBit_and]
theorem shr_split (w s : Nat) {a c : Nat} (b d : Nat) (hs : s ≤ w) (ha : a < 2 ^ w) (hc : c < 2 ^ (w - s)) : ((a + 2 ^ w * b) >>> s) &&& (c + 2 ^ w * d) = ((a >>> s) &&& c) + 2 ^ w * ((b >>> s) &&& d) := by
  have hc' : c < 2 ^ w := Nat.lt_of_lt_of_le hc (Nat.pow_le_pow_right (by omega) (by omega))
  refine Nat.eq_of_testBit_eq fun j => ?_
  rw [Nat.testBit_and, Nat.testBit_shiftRight, Nat.add_comm a, Nat.add_comm c, Nat.add_comm (a >>> s &&& c), Nat.testBit_two_pow_mul_add _ ha, Nat.testBit_two_pow_mul_add _ hc', Nat.testBit_two_pow_mul_add _ (Nat.and_lt_two_pow _ hc')]
  by_cases h : j < w
  · rw [if_pos h, if_pos h, Nat.testBit_and, Nat.testBit_shiftRight]
    by_cases h2 : s + j < w
    · rw [if_pos h2]
    · have : c.testBit j = false := Nat.testBit_lt_two_pow (Nat.lt_of_lt_of_le hc (Nat.pow_le_pow_right (by omega) (by omega)))
      rw [this, Bool.and_false, Bool.and_false]
  · rw [if_neg h, if_neg h, Nat.testBit_and, Nat.testBit_shiftRight, if_neg (by omega), show s + j - w = s + (j - w) by omega]
theorem V_and : ∀ {l m : List Nat}, l.length = m.length → (∀ a ∈ l, a < 16) → (∀ a ∈ m, a < 16) → V 16 l &&& V 16 m = V 16 (List.zipWith (· &&& ·) l m)
  | [], [], _, _, _ => rfl
  | a :: l, b :: m, h, hl, hm => by
    have := V_and (l := l) (m := m) (by simpa using h) (fun x hx => hl x (List.mem_cons_of_mem _ hx)) fun x hx => hm x (List.mem_cons_of_mem _ hx)
    show (a + 16 * V 16 l) &&& (b + 16 * V 16 m) = (a &&& b) + 16 * V 16 (List.zipWith (· &&& ·) l m)
    rw [← this]
    exact and_split 4 _ _ (hl a (List.mem_cons_self ..)) (hm b (List.mem_cons_self ..))
  | [], _ :: _, h, _, _ => by cases h
  | _ :: _, [], h, _, _ => by cases h
theorem V_shr (s c : Nat) (hs : s ≤ 4) (hc : c < 2 ^ (4 - s)) : ∀ {l : List Nat}, (∀ a ∈ l, a < 16) → (V 16 l >>> s) &&& V 16 (List.replicate l.length c) = V 16 (l.map fun a => (a >>> s) &&& c)
  | [], _ => by simp [V]
  | a :: l, hl => by
    have := V_shr s c hs hc (l := l) fun x hx => hl x (List.mem_cons_of_mem _ hx)
    show ((a + 16 * V 16 l) >>> s) &&& (c + 16 * V 16 (List.replicate l.length c)) = ((a >>> s) &&& c) + 16 * V 16 (l.map fun a => (a >>> s) &&& c)
    rw [← this]
    exact shr_split 4 s _ _ hs (hl a (List.mem_cons_self ..)) hc
theorem zip_rep (c : Nat) : ∀ l : List Nat, List.zipWith (· &&& ·) l (List.replicate l.length c) = l.map fun a => a &&& c
  | [] => rfl
  | a :: l => by
    show (a &&& c) :: List.zipWith (· &&& ·) l (List.replicate l.length c) = _
    rw [zip_rep c l]; rfl
/-- One step: neighbours are added. -/
theorem V_step (s c : Nat) (hs : s ≤ 4) (hc : c < 2 ^ (4 - s)) {l : List Nat} (hl : ∀ a ∈ l, a < 16) : ((V 16 l >>> s) &&& V 16 (List.replicate l.length c)) + (V 16 l &&& V 16 (List.replicate l.length c)) = V 16 (l.map fun a => ((a >>> s) &&& c) + (a &&& c)) := by
  have hc' : c < 16 := Nat.lt_of_lt_of_le hc (show 2 ^ (4 - s) ≤ 2 ^ 4 from Nat.pow_le_pow_right (by omega) (by omega))
  rw [V_shr s c hs hc hl, V_and (by simp) hl (by simp; omega), V_add _ (by simp), zip_rep]
  congr 1
  induction l with
  | nil => rfl
  | cons a l ih => rw [List.map_cons, List.map_cons, List.map_cons, List.zipWith_cons_cons, ih fun x hx => hl x (List.mem_cons_of_mem _ hx)]

def g1 (a : Nat) : Nat := ((a >>> 1) &&& 5) + (a &&& 5)
def g2 (a : Nat) : Nat := ((a >>> 2) &&& 3) + (a &&& 3)
def pn (a : Nat) : Nat := g2 (g1 a)
def tb (n j : Nat) : Nat := bif n.testBit j then 1 else 0
theorem pn_all : ((List.range 16).all fun a => decide (g1 a < 16) && decide (pn a ≤ 4) && decide (pn a = tb a 0 + tb a 1 + tb a 2 + tb a 3)) = true := by decide +kernel
theorem pn_ok {a : Nat} (h : a < 16) : g1 a < 16 ∧ pn a ≤ 4 ∧ pn a = tb a 0 + tb a 1 + tb a 2 + tb a 3 := by
  have := List.all_eq_true.1 pn_all a (List.mem_range.2 h)
  simp only [Bool.and_eq_true, decide_eq_true_eq] at this
  exact ⟨this.1.1, this.1.2, this.2⟩
def dig : Nat → Nat → List Nat
  | 0, _ => []
  | k + 1, n => n % 16 :: dig k (n / 16)
theorem dig_lt : ∀ (k n : Nat), ∀ a ∈ dig k n, a < 16
  | 0, _, _, h => by cases h
  | k + 1, n, a, h => by
    rcases List.mem_cons.1 h with rfl | h
    · omega
    · exact dig_lt k _ a h
theorem V_dig : ∀ (k n : Nat), n < 16 ^ k → V 16 (dig k n) = n
  | 0, n, h => by simp at h; simp [dig, V, h]
  | k + 1, n, h => by
    show n % 16 + 16 * V 16 (dig k (n / 16)) = n
    rw [V_dig k (n / 16) (by rw [Nat.pow_succ] at h; omega)]
    omega
theorem count_dig : ∀ (k n : Nat), ((List.range (4 * k)).filter n.testBit).length = ((dig k n).map pn).sum
  | 0, _ => rfl
  | k + 1, n => by
    have ih := count_dig k (n / 16)
    have e4 : List.range (4 * (k + 1)) = [0, 1, 2, 3] ++ (List.range (4 * k)).map (· + 4) := by
      rw [show 4 * (k + 1) = 4 + 4 * k by omega, List.range_add]
      congr 1
      exact List.map_congr_left fun a _ => Nat.add_comm 4 a
    have e5 : ∀ j, (n / 16).testBit j = n.testBit (j + 4) := fun j => by
      rw [show n / 16 = n / 2 ^ 4 from rfl, Nat.testBit_div_two_pow, Nat.add_comm]
    have e6 : (((List.range (4 * k)).map (· + 4)).filter n.testBit).length = ((List.range (4 * k)).filter (n / 16).testBit).length := by
      rw [List.filter_map, List.length_map]
      congr 2
      funext j; exact (e5 j).symm
    have e7 : ∀ j, j < 4 → tb (n % 16) j = tb n j := fun j hj => by
      unfold tb
      rw [show n % 16 = n % 2 ^ 4 from rfl, Nat.testBit_mod_two_pow, decide_eq_true hj, Bool.true_and]
    rw [e4, List.filter_append, List.length_append, e6, ih]
    show _ = pn (n % 16) + ((dig k (n / 16)).map pn).sum
    rw [(pn_ok (by omega : n % 16 < 16)).2.2, e7 0 (by omega), e7 1 (by omega), e7 2 (by omega), e7 3 (by omega)]
    congr 1
    unfold tb
    cases h0 : n.testBit 0 <;> cases h1 : n.testBit 1 <;> cases h2 : n.testBit 2 <;> cases h3 : n.testBit 3 <;> simp [List.filter, h0, h1, h2, h3]
theorem bits_count (x : BitVec 64) : (bitsL x).length = ((dig 16 x.toNat).map pn).sum := count_dig 16 x.toNat

theorem addS_u (x y : BitVec 64) : addS (u x) (u y) = u (x + y) := by
  unfold addS
  rw [show u x + u y = ((x.toNat + y.toNat : Nat) : Int) by unfold u; simp, wrap_nat]
  rfl
def st1 (x : BitVec 64) : BitVec 64 := (x >>> 1 &&& 6148914691236517205#64) + (x &&& 6148914691236517205#64)
def st2 (x : BitVec 64) : BitVec 64 := (x >>> 2 &&& 3689348814741910323#64) + (x &&& 3689348814741910323#64)
def st3 (x : BitVec 64) : BitVec 64 := (x >>> 4 + x) &&& 1085102592571150095#64
def st4 (x : BitVec 64) : BitVec 64 := x + x >>> 8
def st5 (x : BitVec 64) : BitVec 64 := x + x >>> 16
def st6 (x : BitVec 64) : BitVec 64 := x + x >>> 32
theorem and15 {e : Nat} (h : e < 16) : e &&& 15 = e := by
  rw [show (15 : Nat) = 2 ^ 4 - 1 from rfl, Nat.and_two_pow_sub_one_eq_mod]; omega
theorem add_nat {x y : BitVec 64} {n : Nat} (h : x.toNat + y.toNat = n) (hn : n < 18446744073709551616) : (x + y).toNat = n := by
  rw [BitVec.toNat_add, h]; exact Nat.mod_eq_of_lt hn
theorem dig_len : ∀ k n : Nat, (dig k n).length = k
  | 0, _ => rfl
  | k + 1, n => congrArg (· + 1) (dig_len k (n / 16))
theorem V_lt16 {l : List Nat} (hl : l.length = 16) (h : ∀ a ∈ l, a < 16) : V 16 l < 18446744073709551616 := by
  have := V_lt (B := 16) (by omega) h
  rw [hl] at this
  exact this
theorem V_lt8 {l : List Nat} (hl : l.length = 8) (h : ∀ a ∈ l, a < 256) : V 256 l < 18446744073709551616 := by
  have := V_lt (B := 256) (by omega) h
  rw [hl] at this
  exact this
theorem rep5 : V 16 (List.replicate 16 5) = 6148914691236517205 := by decide +kernel
theorem rep3 : V 16 (List.replicate 16 3) = 3689348814741910323 := by decide +kernel
theorem repF : V 16 [15, 0, 15, 0, 15, 0, 15, 0, 15, 0, 15, 0, 15, 0, 15, 0] = 1085102592571150095 := by decide +kernel
theorem st1_nat (x : BitVec 64) : (st1 x).toNat = V 16 ((dig 16 x.toNat).map g1) := by
  have h := V_step 1 5 (by omega) (by omega) (l := dig 16 x.toNat) (dig_lt 16 _)
  rw [V_dig 16 x.toNat x.isLt, dig_len, rep5] at h
  unfold st1
  refine add_nat ?_ (V_lt16 (by rw [List.length_map, dig_len]) fun a ha => ?_)
  · rw [BitVec.toNat_and, BitVec.toNat_ushiftRight, BitVec.toNat_and]
    exact h
  · obtain ⟨b, hb, rfl⟩ := List.mem_map.1 ha
    exact (pn_ok (dig_lt 16 _ b hb)).1
theorem st2_nat (x : BitVec 64) : (st2 (st1 x)).toNat = V 16 ((dig 16 x.toNat).map pn) := by
  have hlt : ∀ a ∈ (dig 16 x.toNat).map g1, a < 16 := fun a ha => by
    obtain ⟨b, hb, rfl⟩ := List.mem_map.1 ha
    exact (pn_ok (dig_lt 16 _ b hb)).1
  have h := V_step 2 3 (by omega) (by omega) (l := (dig 16 x.toNat).map g1) hlt
  rw [List.map_map, List.length_map, dig_len, rep3, ← st1_nat] at h
  unfold st2
  refine add_nat ?_ (V_lt16 (by rw [List.length_map, dig_len]) fun a ha => ?_)
  · rw [BitVec.toNat_and, BitVec.toNat_ushiftRight, BitVec.toNat_and]
    exact h
  · obtain ⟨b, hb, rfl⟩ := List.mem_map.1 ha
    have := (pn_ok (dig_lt 16 _ b hb)).2.1
    omega
theorem V_drop : ∀ (k : Nat) (l : List Nat), (∀ a ∈ l, a < 256) → V 256 l / 2 ^ (8 * k) = V 256 (l.drop k)
  | 0, l, _ => by simp
  | k + 1, [], _ => by simp [V]
  | k + 1, a :: l, h => by
    rw [show 2 ^ (8 * (k + 1)) = 256 * 2 ^ (8 * k) by rw [show 8 * (k + 1) = 8 + 8 * k by omega, Nat.pow_add], ← Nat.div_div_eq_div_mul, V_div (h a (List.mem_cons_self ..)), V_drop k l fun b hb => h b (List.mem_cons_of_mem _ hb)]
    rfl
theorem step_nat {y : BitVec 64} (k : Nat) {Q R S : List Nat} (h1 : y.toNat = V 256 Q) (hQ : ∀ a ∈ Q, a < 256) (h2 : V 256 (Q.drop k) = V 256 R) (h3 : List.zipWith (· + ·) Q R = S) (h4 : Q.length = R.length) (h5 : ∀ a ∈ S, a < 256) (h6 : S.length = 8) : (y + y >>> (8 * k)).toNat = V 256 S := by
  refine add_nat ?_ (V_lt8 h6 h5)
  rw [BitVec.toNat_ushiftRight, Nat.shiftRight_eq_div_pow, h1, V_drop k Q hQ, h2, V_add 256 h4, h3]
theorem fin_nat {y : BitVec 64} {q0 q1 q2 q3 q4 q5 q6 q7 : Nat} (hy : y.toNat = V 256 [q0, q1, q2, q3, q4, q5, q6, q7]) (h0 : q0 ≤ 8) (h1 : q1 ≤ 8) (h2 : q2 ≤ 8) (h3 : q3 ≤ 8) (h4 : q4 ≤ 8) (h5 : q5 ≤ 8) (h6 : q6 ≤ 8) (h7 : q7 ≤ 8) :
    (st6 (st5 (st4 y))).toNat % 128 = q0 + q1 + q2 + q3 + q4 + q5 + q6 + q7 := by
  have a4 : (st4 y).toNat = V 256 [(q0 + q1), (q1 + q2), (q2 + q3), (q3 + q4), (q4 + q5), (q5 + q6), (q6 + q7), (q7 + 0)] :=
    step_nat 1 (R := [q1, q2, q3, q4, q5, q6, q7, 0]) hy (by simp only [List.mem_cons, List.not_mem_nil, or_false]; omega) (by simp [V]) rfl rfl (by simp only [List.mem_cons, List.not_mem_nil, or_false]; omega) rfl
  have a5 : (st5 (st4 y)).toNat = V 256 [((q0 + q1) + (q2 + q3)), ((q1 + q2) + (q3 + q4)), ((q2 + q3) + (q4 + q5)), ((q3 + q4) + (q5 + q6)), ((q4 + q5) + (q6 + q7)), ((q5 + q6) + (q7 + 0)), ((q6 + q7) + 0), ((q7 + 0) + 0)] :=
    step_nat 2 (R := [(q2 + q3), (q3 + q4), (q4 + q5), (q5 + q6), (q6 + q7), (q7 + 0), 0, 0]) a4 (by simp only [List.mem_cons, List.not_mem_nil, or_false]; omega) (by simp [V]) rfl rfl (by simp only [List.mem_cons, List.not_mem_nil, or_false]; omega) rfl
  have a6 : (st6 (st5 (st4 y))).toNat = V 256 [(((q0 + q1) + (q2 + q3)) + ((q4 + q5) + (q6 + q7))), (((q1 + q2) + (q3 + q4)) + ((q5 + q6) + (q7 + 0))), (((q2 + q3) + (q4 + q5)) + ((q6 + q7) + 0)), (((q3 + q4) + (q5 + q6)) + ((q7 + 0) + 0)), (((q4 + q5) + (q6 + q7)) + 0), (((q5 + q6) + (q7 + 0)) + 0), (((q6 + q7) + 0) + 0), (((q7 + 0) + 0) + 0)] :=
    step_nat 4 (R := [((q4 + q5) + (q6 + q7)), ((q5 + q6) + (q7 + 0)), ((q6 + q7) + 0), ((q7 + 0) + 0), 0, 0, 0, 0]) a5 (by simp only [List.mem_cons, List.not_mem_nil, or_false]; omega) (by simp [V]) rfl rfl (by simp only [List.mem_cons, List.not_mem_nil, or_false]; omega) rfl
  rw [a6]
  show ((((q0 + q1) + (q2 + q3)) + ((q4 + q5) + (q6 + q7))) + 256 * _) % 128 = _
  omega
def inter : List Nat → List Nat
  | [] => []
  | a :: l => a :: 0 :: inter l
theorem V_inter : ∀ l, V 16 (inter l) = V 256 l
  | [] => rfl
  | a :: l => by
    show a + 16 * (0 + 16 * V 16 (inter l)) = a + 256 * V 256 l
    rw [V_inter l]; omega
theorem st3_nat {x : BitVec 64} {d0 d1 d2 d3 d4 d5 d6 d7 d8 d9 d10 d11 d12 d13 d14 d15 : Nat} (hx : x.toNat = V 16 [d0, d1, d2, d3, d4, d5, d6, d7, d8, d9, d10, d11, d12, d13, d14, d15])
    (h0 : d0 ≤ 4) (h1 : d1 ≤ 4) (h2 : d2 ≤ 4) (h3 : d3 ≤ 4) (h4 : d4 ≤ 4) (h5 : d5 ≤ 4) (h6 : d6 ≤ 4) (h7 : d7 ≤ 4) (h8 : d8 ≤ 4) (h9 : d9 ≤ 4) (h10 : d10 ≤ 4) (h11 : d11 ≤ 4) (h12 : d12 ≤ 4) (h13 : d13 ≤ 4) (h14 : d14 ≤ 4) (h15 : d15 ≤ 4) :
    (st3 x).toNat = V 256 [d1 + d0, d3 + d2, d5 + d4, d7 + d6, d9 + d8, d11 + d10, d13 + d12, d15 + d14] := by
  have a : (x >>> 4 + x).toNat = V 16 [d1 + d0, d2 + d1, d3 + d2, d4 + d3, d5 + d4, d6 + d5, d7 + d6, d8 + d7, d9 + d8, d10 + d9, d11 + d10, d12 + d11, d13 + d12, d14 + d13, d15 + d14, 0 + d15] := by
    refine add_nat ?_ (V_lt16 rfl ?_)
    · rw [BitVec.toNat_ushiftRight, hx, Nat.shiftRight_eq_div_pow, show (2 ^ 4 : Nat) = 16 from rfl, V_div (by omega), show V 16 [d1, d2, d3, d4, d5, d6, d7, d8, d9, d10, d11, d12, d13, d14, d15] = V 16 [d1, d2, d3, d4, d5, d6, d7, d8, d9, d10, d11, d12, d13, d14, d15, 0] by simp [V]]
      exact V_add 16 (l := [d1, d2, d3, d4, d5, d6, d7, d8, d9, d10, d11, d12, d13, d14, d15, 0]) (m := [d0, d1, d2, d3, d4, d5, d6, d7, d8, d9, d10, d11, d12, d13, d14, d15]) rfl
    · simp only [List.mem_cons, List.not_mem_nil, or_false]
      omega
  unfold st3
  rw [BitVec.toNat_and, a, show (1085102592571150095#64).toNat = V 16 [15, 0, 15, 0, 15, 0, 15, 0, 15, 0, 15, 0, 15, 0, 15, 0] from repF.symm]
  refine (V_and (l := [d1 + d0, d2 + d1, d3 + d2, d4 + d3, d5 + d4, d6 + d5, d7 + d6, d8 + d7, d9 + d8, d10 + d9, d11 + d10, d12 + d11, d13 + d12, d14 + d13, d15 + d14, 0 + d15]) (m := [15, 0, 15, 0, 15, 0, 15, 0, 15, 0, 15, 0, 15, 0, 15, 0]) rfl (by simp only [List.mem_cons, List.not_mem_nil, or_false]; omega) (by simp only [List.mem_cons, List.not_mem_nil, or_false]; omega)).trans ?_
  simp only [List.zipWith_cons_cons, List.zipWith_nil_left, Nat.and_zero]
  rw [and15 (by omega : d1 + d0 < 16), and15 (by omega : d3 + d2 < 16), and15 (by omega : d5 + d4 < 16), and15 (by omega : d7 + d6 < 16), and15 (by omega : d9 + d8 < 16), and15 (by omega : d11 + d10 < 16), and15 (by omega : d13 + d12 < 16), and15 (by omega : d15 + d14 < 16)]
  exact V_inter [d1 + d0, d3 + d2, d5 + d4, d7 + d6, d9 + d8, d11 + d10, d13 + d12, d15 + d14]
theorem dig16 (n : Nat) : (dig 16 n).map pn = [pn (n % 16), pn ((n / 16) % 16), pn (((n / 16) / 16) % 16), pn ((((n / 16) / 16) / 16) % 16), pn (((((n / 16) / 16) / 16) / 16) % 16), pn ((((((n / 16) / 16) / 16) / 16) / 16) % 16), pn (((((((n / 16) / 16) / 16) / 16) / 16) / 16) % 16), pn ((((((((n / 16) / 16) / 16) / 16) / 16) / 16) / 16) % 16), pn (((((((((n / 16) / 16) / 16) / 16) / 16) / 16) / 16) / 16) % 16), pn ((((((((((n / 16) / 16) / 16) / 16) / 16) / 16) / 16) / 16) / 16) % 16), pn (((((((((((n / 16) / 16) / 16) / 16) / 16) / 16) / 16) / 16) / 16) / 16) % 16), pn ((((((((((((n / 16) / 16) / 16) / 16) / 16) / 16) / 16) / 16) / 16) / 16) / 16) % 16), pn (((((((((((((n / 16) / 16) / 16) / 16) / 16) / 16) / 16) / 16) / 16) / 16) / 16) / 16) % 16), pn ((((((((((((((n / 16) / 16) / 16) / 16) / 16) / 16) / 16) / 16) / 16) / 16) / 16) / 16) / 16) % 16), pn (((((((((((((((n / 16) / 16) / 16) / 16) / 16) / 16) / 16) / 16) / 16) / 16) / 16) / 16) / 16) / 16) % 16), pn ((((((((((((((((n / 16) / 16) / 16) / 16) / 16) / 16) / 16) / 16) / 16) / 16) / 16) / 16) / 16) / 16) / 16) % 16)] := rfl
theorem count_nat (x : BitVec 64) : (st6 (st5 (st4 (st3 (st2 (st1 x)))))).toNat % 128 = (bitsL x).length := by
  have h := st2_nat x
  have hp : ∀ m, pn (m % 16) ≤ 4 := fun m => (pn_ok (by omega : m % 16 < 16)).2.1
  rw [bits_count]
  rw [dig16] at h ⊢
  refine Eq.trans (fin_nat (st3_nat h (hp _) (hp _) (hp _) (hp _) (hp _) (hp _) (hp _) (hp _) (hp _) (hp _) (hp _) (hp _) (hp _) (hp _) (hp _) (hp _)) (Nat.add_le_add (hp _) (hp _)) (Nat.add_le_add (hp _) (hp _)) (Nat.add_le_add (hp _) (hp _)) (Nat.add_le_add (hp _) (hp _)) (Nat.add_le_add (hp _) (hp _)) (Nat.add_le_add (hp _) (hp _)) (Nat.add_le_add (hp _) (hp _)) (Nat.add_le_add (hp _) (hp _))) ?_
  simp only [List.sum_cons, List.sum_nil]
  omega
/-- Len counts the squares. -/
theorem lenS_u (x : BitVec 64) : lenS (u x) = ((bitsL x).length : Int) := by
  rw [← count_nat]
  have e1 : addS (andS (shrS (u x) 1) 6148914691236517205) (andS (u x) 6148914691236517205) = u (st1 x) := by
    rw [show (1 : Int) = ((1 : Nat) : Int) from rfl, shrS_u x 1 (by omega), show (6148914691236517205 : Int) = u 6148914691236517205#64 from rfl, andS_u, andS_u, addS_u]; rfl
  have e2 : ∀ y : BitVec 64, addS (andS (shrS (u y) 2) 3689348814741910323) (andS (u y) 3689348814741910323) = u (st2 y) := fun y => by
    rw [show (2 : Int) = ((2 : Nat) : Int) from rfl, shrS_u y 2 (by omega), show (3689348814741910323 : Int) = u 3689348814741910323#64 from rfl, andS_u, andS_u, addS_u]; rfl
  have e3 : ∀ y : BitVec 64, andS (addS (shrS (u y) 4) (u y)) 1085102592571150095 = u (st3 y) := fun y => by
    rw [show (4 : Int) = ((4 : Nat) : Int) from rfl, shrS_u y 4 (by omega), addS_u, show (1085102592571150095 : Int) = u 1085102592571150095#64 from rfl, andS_u]; rfl
  have e4 : ∀ y : BitVec 64, addS (u y) (shrS (u y) 8) = u (st4 y) := fun y => by
    rw [show (8 : Int) = ((8 : Nat) : Int) from rfl, shrS_u y 8 (by omega), addS_u]; rfl
  have e5 : ∀ y : BitVec 64, addS (u y) (shrS (u y) 16) = u (st5 y) := fun y => by
    rw [show (16 : Int) = ((16 : Nat) : Int) from rfl, shrS_u y 16 (by omega), addS_u]; rfl
  have e6 : ∀ y : BitVec 64, addS (u y) (shrS (u y) 32) = u (st6 y) := fun y => by
    rw [show (32 : Int) = ((32 : Nat) : Int) from rfl, shrS_u y 32 (by omega), addS_u]; rfl
  unfold lenS
  dsimp only
  rw [e1, e2, e3, e4, e5, e6]
  generalize st6 (st5 (st4 (st3 (st2 (st1 x))))) = y
  have hy : BitVec.ofInt 64 (IntKind.i64.wrap (u y)) = y := by
    refine BitVec.eq_of_toNat_eq ?_
    rw [BitVec.toNat_ofInt]
    unfold IntKind.wrap u
    have := y.isLt
    simp only [IntKind.signed, Bool.true_and, IntKind.bits]
    split <;> omega
  rw [show BitVec.ofInt IntKind.i64.bits (IntKind.i64.wrap (u y)) = y from hy]
  have hz : (y &&& BitVec.ofInt 64 127).toNat = y.toNat % 128 := by
    rw [BitVec.toNat_and, show (BitVec.ofInt 64 127).toNat = 2 ^ 7 - 1 from by decide +kernel, Nat.and_two_pow_sub_one_eq_mod]
  refine (congrArg (fun n : Nat => IntKind.i64.wrap (n : Int)) hz).trans ?_
  exact wrap64 (by omega) (by omega)
end Go.Proofs.YtakchekhpeokjaaDoor

/-
  BITBOARD (chapter 05): Lowest.
-/
namespace Go.Proofs.YtakchekhpeokjaaDoor
open Go.Va

theorem p37 (x : BitVec 64) : Pure Tryd.prog 4 tabs 37 [.int .u64 (u x)] (.int .i64 ((bitsL x).length : Int)) := by
  rw [← lenS_u]
  exact pureT t7_ok fns7 (n := 100) (v := .int .i64 (lenS (u x))) [] [] (by kernel_rfl) trivial rfl (.int _ _)
def lowV (x : BitVec 64) : Value := .tuple #[.int .i64 (bif x == 0#64 then 0 else (tz x : Int)), .bool (!(x == 0#64))]
theorem p21 (x : BitVec 64) : Pure Tryd.prog 4 tabs 21 [.int .u64 (u x)] (lowV x) := by
  by_cases h : x = 0#64
  · subst h
    exact pureT t7_ok fns7 (n := 100) (v := .tuple #[.int .i64 0, .bool false]) [] [] (by kernel_rfl) trivial rfl (PF_pair (.int _ _) (.bool _))
  · have : lowV x = .tuple #[.int .i64 (tz x), .bool true] := by
      unfold lowV; rw [beq_eq_false_iff_ne.2 h]; rfl
    rw [this]
    exact pureT t7_ok fns7 (n := 100) (v := .tuple #[.int .i64 (tz x), .bool true]) [(12, .br true), (3, .ov (.int .i64 (tz x)))]
      [(u x != 0) = true, ∀ σ, env7.ov 52 [.int .u64 (u x)] 0 σ = some (.int .i64 (tz x), σ)] (by kernel_rfl) ⟨u_ne h, fun σ => ov7_52 x 0 σ⟩ rfl (PF_pair (.int _ _) (.bool _))
end Go.Proofs.YtakchekhpeokjaaDoor

/-
  BITBOARD (chapter 05): slices.Index and Contains, slices.IsSorted, Of.
-/
namespace Go.Proofs.YtakchekhpeokjaaDoor
open Go.Va

/-! ## Contains -/

noncomputable def body60 : Code := codeOf Tryd.prog 60 [.r, .l, .r, .b, .b]
def T60 (v : Value) (m n i : Int) (w : Nat → Value) : List Value := fillT 19 [(0, v), (1, .int .i64 m), (7, .int .i64 n), (8, .int .i64 i)] w
theorem next60 (c : List Value) (m : Int) (n g i : Nat) (x : Int) (w : Nat → Value) (h1 : i < n) (hx : c[i]? = some (.int .i64 x)) (hm : m ≠ x) (hn : n < 9223372036854775807) :
    ∃ w', runW Tryd.prog env7 0 (.code ⟨60, none⟩ body60 (T60 (L c n 1 g) m n i w) []) (base0 4 tabs) = some (.done .normal (T60 (L c n 1 g) m n ((i + 1 : Nat) : Int) w') [], base0 4 tabs) := by
  have e : IntKind.i64.wrap ((i : Int) + 1) = ((i + 1 : Nat) : Int) := by rw [wrap64 (by omega) (by omega)]; rfl
  rw [← e]
  exact seg 100 [(0, .br true), (6, .ok), (0, .is (.int .i64 x)), (0, .br false)] (m := 19) (js := [0, 1, 7, 8]) (vs := [L c n 1 g, .int .i64 m, .int .i64 n, .int .i64 (IntKind.i64.wrap ((i : Int) + 1))])
    (ob := [decide ((i : Int) < n) = true, (0 : Int) ≤ i ∧ (i : Int) < n, c[i * 1]? = some (.int .i64 x), (m == x) = false]) (by kernel_rfl)
    ⟨decide_eq_true (by omega), ⟨by omega, by omega⟩, by rw [Nat.mul_one]; exact hx, beq_eq_false_iff_ne.2 hm⟩
theorem hit60 (c : List Value) (m : Int) (n g i : Nat) (w : Nat → Value) (h1 : i < n) (hx : c[i]? = some (.int .i64 m)) :
    ∃ w', runW Tryd.prog env7 0 (.code ⟨60, none⟩ body60 (T60 (L c n 1 g) m n i w) []) (base0 4 tabs) = some (.done .ret (fillT 19 [(4, .int .i64 i)] w') [], base0 4 tabs) :=
  seg 100 [(0, .br true), (6, .ok), (0, .is (.int .i64 m)), (0, .br true)] (m := 19) (js := [4]) (vs := [.int .i64 i])
    (ob := [decide ((i : Int) < n) = true, (0 : Int) ≤ i ∧ (i : Int) < n, c[i * 1]? = some (.int .i64 m), (m == m) = true]) (by kernel_rfl)
    ⟨decide_eq_true (by omega), ⟨by omega, by omega⟩, by rw [Nat.mul_one]; exact hx, beq_self_eq_true m⟩
theorem end60 (v : Value) (m n i : Int) (w : Nat → Value) (h1 : n ≤ i) :
    ∃ w', runW Tryd.prog env7 0 (.code ⟨60, none⟩ body60 (T60 v m n i w) []) (base0 4 tabs) = some (.done (.exit 0) (fillT 19 [] w') [], base0 4 tabs) :=
  seg 100 [(0, .br false)] (m := 19) (js := []) (vs := []) (ob := [decide (i < n) = false]) (by kernel_rfl) (decide_eq_false (by omega))
theorem loop60 (l : List Int) (m : Int) (n g : Nat) (hl : l.length = n) (hn : n < 9223372036854775807) : ∀ (k i : Nat) (w : Nat → Value), i + k = n →
    (m ∈ l.drop i ∧ ∃ (j : Nat) (w' : Nat → Value), runW Tryd.prog env7 0 (.code ⟨60, none⟩ (.loop body60) (T60 (L (zs l) n 1 g) m n i w) []) (base0 4 tabs) = some (.done .ret (fillT 19 [(4, .int .i64 j)] w') [], base0 4 tabs)) ∨
    (m ∉ l.drop i ∧ ∃ w', runW Tryd.prog env7 0 (.code ⟨60, none⟩ (.loop body60) (T60 (L (zs l) n 1 g) m n i w) []) (base0 4 tabs) = some (.done (.exit 0) (fillT 19 [] w') [], base0 4 tabs)) := by
  intro k
  induction k with
  | zero =>
    intro i w hi
    obtain ⟨w', h⟩ := end60 (L (zs l) n 1 g) m n i w (by omega)
    exact .inr ⟨by rw [List.drop_of_length_le (by omega)]; simp, w', loop_out (by intro h; cases h) h⟩
  | succ k ih =>
    intro i w hi
    have hil : i < l.length := by omega
    have hx : (zs l)[i]? = some (.int .i64 l[i]) := by rw [zs_get, List.getElem?_eq_getElem hil]; rfl
    rw [List.drop_eq_getElem_cons hil]
    by_cases h : m = l[i]
    · rw [← h] at hx
      obtain ⟨w', h1⟩ := hit60 (zs l) m n g i w (by omega) hx
      exact .inl ⟨by rw [← h]; simp, i, w', loop_out (by intro h; cases h) h1⟩
    · obtain ⟨w1, h1⟩ := next60 (zs l) m n g i l[i] w (by omega) hx h hn
      rcases ih (i + 1) w1 (by omega) with ⟨hm, j, w', h2⟩ | ⟨hm, w', h2⟩
      · exact .inl ⟨List.mem_cons_of_mem _ hm, j, w', loop_next h1 h2⟩
      · exact .inr ⟨by rw [List.mem_cons]; rintro (e | e); exact h e; exact hm e, w', loop_next h1 h2⟩
theorem p39_nil (m : Int) : Pure Tryd.prog 4 tabs 39 [.slice none 0 0, .int .i64 m] (.bool false) :=
  pureT t7_ok fns7 (n := 100) (v := .bool false) [] [] (by kernel_rfl) trivial rfl (.bool _)
theorem p39_l (l : List Int) (g : Nat) (m : Int) (hn : l.length < 9223372036854775807) : Pure Tryd.prog 4 tabs 39 [L (zs l) l.length 1 g, .int .i64 m] (.bool (decide (m ∈ l))) := by
  rcases loop60 l m l.length g rfl hn l.length 0 (fun j => Go.Va.look [(4, .int .i64 0), (6, L (zs l) l.length 1 g)] j undef) (by omega) with ⟨hm, j, w', h⟩ | ⟨hm, w', h⟩
  · rw [List.drop_zero] at hm
    rw [decide_eq_true hm]
    exact pureT t7_ok fns7 (n := 100) (v := .bool true) [(8, .skip (.done .ret (fillT 19 [(4, .int .i64 j)] w') []) (base0 4 tabs)), (0, .br true)] [_, decide ((j : Int) ≥ 0) = true] (by kernel_rfl) ⟨h, decide_eq_true (by omega)⟩ rfl (.bool _)
  · rw [List.drop_zero] at hm
    rw [decide_eq_false hm]
    exact pureT t7_ok fns7 (n := 100) (v := .bool false) [(8, .skip (.done (.exit 0) (fillT 19 [] w') []) (base0 4 tabs))] [_] (by kernel_rfl) h rfl (.bool _)
noncomputable def k39 : List Value → Option Value
  | [a, .int .i64 m] => match zl a with
    | some l => some (.bool (decide (m ∈ l)))
    | none => none
  | _ => none
theorem p39 : KOk Tryd.prog 4 tabs 39 k39 := by
  intro args v h
  unfold k39 at h
  split at h
  · rename_i a m
    split at h
    · rename_i l hl
      cases h
      rcases zl_spec hl with ⟨ea, el, _⟩ | ⟨g, _, ea, hb⟩
      · subst ea el; rw [decide_eq_false (by simp)]; exact p39_nil m
      · subst ea; exact p39_l l g m (by omega)
    · cases h
  · cases h

/-! ## Of -/

def setOf (l : List Int) : BitVec 64 := l.foldl (fun x n => x ||| 1#64 <<< n.toNat) 0#64
def ofV (l : List Int) : Value := bif l.all (fun n => inr n 64) then .tuple #[.int .u64 (u (setOf l)), .int .i64 0] else .tuple #[.int .u64 0, .int .i64 3]
noncomputable def body36 : Code := codeOf Tryd.prog 36 [.r, .r, .l, .r, .b, .b]
def T36 (v : Value) (a n i : Int) (w : Nat → Value) : List Value := fillT 22 [(4, .int .u64 a), (7, v), (8, .int .i64 n), (9, .int .i64 i)] w
theorem next36 (c : List Value) (a : Int) (n g i : Nat) (x : Int) (w : Nat → Value) (h1 : i < n) (hx : c[i]? = some (.int .i64 x)) (hn : n < 9223372036854775807) (hx0 : 0 ≤ x) (hx1 : x < 64) :
    ∃ w', runW Tryd.prog env7 0 (.code ⟨36, none⟩ body36 (T36 (L c n 1 g) a n i w) []) (base0 4 tabs) = some (.done .normal (T36 (L c n 1 g) (orS a (bitS x)) n ((i + 1 : Nat) : Int) w') [], base0 4 tabs) := by
  have e : IntKind.i64.wrap ((i : Int) + 1) = ((i + 1 : Nat) : Int) := by rw [wrap64 (by omega) (by omega)]; rfl
  rw [← e]
  exact seg 100 [(0, .br true), (1, .ok), (0, .is (.int .i64 x)), (5, .br true), (3, .br true), (9, .ok)] (m := 22) (js := [4, 7, 8, 9]) (vs := [.int .u64 (orS a (bitS x)), L c n 1 g, .int .i64 n, .int .i64 (IntKind.i64.wrap ((i : Int) + 1))])
    (ob := [decide ((i : Int) < n) = true, (0 : Int) ≤ i ∧ (i : Int) < n, c[i * 1]? = some (.int .i64 x), decide (x ≥ 0) = true, decide (x < 64) = true, 0 ≤ x]) (by kernel_rfl)
    ⟨decide_eq_true (by omega), ⟨by omega, by omega⟩, by rw [Nat.mul_one]; exact hx, decide_eq_true hx0, decide_eq_true hx1, hx0⟩
theorem bad36 (c : List Value) (a : Int) (n g i : Nat) (x : Int) (w : Nat → Value) (h1 : i < n) (hx : c[i]? = some (.int .i64 x)) (hr : inr x 64 = false) :
    ∃ w', runW Tryd.prog env7 0 (.code ⟨36, none⟩ body36 (T36 (L c n 1 g) a n i w) []) (base0 4 tabs) = some (.done .ret (fillT 22 [(2, .int .u64 0), (3, .int .i64 3)] w') [], base0 4 tabs) := by
  by_cases h0 : 0 ≤ x
  · have hx1 : ¬ x < 64 := fun h => by rw [inr_true h0 h] at hr; cases hr
    exact seg 100 [(0, .br true), (1, .ok), (0, .is (.int .i64 x)), (5, .br true), (3, .br false)] (m := 22) (js := [2, 3]) (vs := [.int .u64 0, .int .i64 3])
      (ob := [decide ((i : Int) < n) = true, (0 : Int) ≤ i ∧ (i : Int) < n, c[i * 1]? = some (.int .i64 x), decide (x ≥ 0) = true, decide (x < 64) = false]) (by kernel_rfl)
      ⟨decide_eq_true (by omega), ⟨by omega, by omega⟩, by rw [Nat.mul_one]; exact hx, decide_eq_true h0, decide_eq_false hx1⟩
  · exact seg 100 [(0, .br true), (1, .ok), (0, .is (.int .i64 x)), (5, .br false)] (m := 22) (js := [2, 3]) (vs := [.int .u64 0, .int .i64 3])
      (ob := [decide ((i : Int) < n) = true, (0 : Int) ≤ i ∧ (i : Int) < n, c[i * 1]? = some (.int .i64 x), decide (x ≥ 0) = false]) (by kernel_rfl)
      ⟨decide_eq_true (by omega), ⟨by omega, by omega⟩, by rw [Nat.mul_one]; exact hx, decide_eq_false h0⟩
theorem end36 (v : Value) (a n i : Int) (w : Nat → Value) (h1 : n ≤ i) :
    ∃ w', runW Tryd.prog env7 0 (.code ⟨36, none⟩ body36 (T36 v a n i w) []) (base0 4 tabs) = some (.done (.exit 0) (fillT 22 [(4, .int .u64 a)] w') [], base0 4 tabs) :=
  seg 100 [(0, .br false)] (m := 22) (js := [4]) (vs := [.int .u64 a]) (ob := [decide (i < n) = false]) (by kernel_rfl) (decide_eq_false (by omega))
theorem loop36 (l : List Int) (n g : Nat) (hl : l.length = n) (hn : n < 9223372036854775807) : ∀ (k i : Nat) (a : BitVec 64) (w : Nat → Value), i + k = n →
    ∃ w', runW Tryd.prog env7 0 (.code ⟨36, none⟩ (.loop body36) (T36 (L (zs l) n 1 g) (u a) n i w) []) (base0 4 tabs) =
      some (bif (l.drop i).all (fun n => inr n 64) then .done (.exit 0) (fillT 22 [(4, .int .u64 (u ((l.drop i).foldl (fun x n => x ||| 1#64 <<< n.toNat) a)))] w') [] else .done .ret (fillT 22 [(2, .int .u64 0), (3, .int .i64 3)] w') [], base0 4 tabs) := by
  intro k
  induction k with
  | zero =>
    intro i a w hi
    obtain ⟨w', h⟩ := end36 (L (zs l) n 1 g) (u a) n i w (by omega)
    refine ⟨w', ?_⟩
    rw [List.drop_of_length_le (by omega)]
    exact loop_out (by intro h; cases h) h
  | succ k ih =>
    intro i a w hi
    have hil : i < l.length := by omega
    have hx : (zs l)[i]? = some (.int .i64 l[i]) := by rw [zs_get, List.getElem?_eq_getElem hil]; rfl
    rw [List.drop_eq_getElem_cons hil]
    cases hr : inr l[i] 64 with
    | true =>
      have hr' := hr
      simp only [inr, Bool.and_eq_true, decide_eq_true_eq] at hr'
      obtain ⟨w1, h1⟩ := next36 (zs l) (u a) n g i l[i] w (by omega) hx hn hr'.1 hr'.2
      rw [bitS_u _ hr'.1 hr'.2, orS_u] at h1
      obtain ⟨w', h2⟩ := ih (i + 1) (a ||| 1#64 <<< (l[i]).toNat) w1 (by omega)
      refine ⟨w', ?_⟩
      rw [List.all_cons, hr, Bool.true_and, List.foldl_cons]
      exact loop_next h1 h2
    | false =>
      obtain ⟨w', h1⟩ := bad36 (zs l) (u a) n g i l[i] w (by omega) hx hr
      refine ⟨w', ?_⟩
      rw [List.all_cons, hr, Bool.false_and]
      exact loop_out (by intro h; cases h) h1
theorem p36_nil : Pure Tryd.prog 4 tabs 36 [.slice none 0 0] (.tuple #[.int .u64 0, .int .i64 0]) :=
  pureT t7_ok fns7 (n := 100) (v := .tuple #[.int .u64 0, .int .i64 0]) [] [] (by kernel_rfl) trivial rfl (PF_pair (.int _ _) (.int _ _))
theorem p36_l (l : List Int) (g : Nat) (hn : l.length < 9223372036854775807) : Pure Tryd.prog 4 tabs 36 [L (zs l) l.length 1 g] (ofV l) := by
  obtain ⟨w', h⟩ := loop36 l l.length g rfl hn l.length 0 0#64 (fun j => Go.Va.look [(0, L (zs l) l.length 1 g), (2, .int .u64 0), (3, .int .i64 0)] j undef) (by omega)
  rw [List.drop_zero] at h
  unfold ofV setOf
  cases hr : l.all (fun n => inr n 64) with
  | true =>
    rw [hr] at h
    exact pureT t7_ok fns7 (n := 100) (v := .tuple #[.int .u64 (u (l.foldl (fun x n => x ||| 1#64 <<< n.toNat) 0#64)), .int .i64 0])
      [(6, .skip (.done (.exit 0) (fillT 22 [(4, .int .u64 (u (l.foldl (fun x n => x ||| 1#64 <<< n.toNat) 0#64)))] w') []) (base0 4 tabs))] [_] (by kernel_rfl) h rfl (PF_pair (.int _ _) (.int _ _))
  | false =>
    rw [hr] at h
    exact pureT t7_ok fns7 (n := 100) (v := .tuple #[.int .u64 0, .int .i64 3])
      [(6, .skip (.done .ret (fillT 22 [(2, .int .u64 0), (3, .int .i64 3)] w') []) (base0 4 tabs))] [_] (by kernel_rfl) h rfl (PF_pair (.int _ _) (.int _ _))
noncomputable def k36 : List Value → Option Value
  | [a] => match zl a with
    | some l => some (ofV l)
    | none => none
  | _ => none
theorem p36 : KOk Tryd.prog 4 tabs 36 k36 := by
  intro args v h
  unfold k36 at h
  split at h
  · rename_i a
    split at h
    · rename_i l hl
      cases h
      rcases zl_spec hl with ⟨ea, el, _⟩ | ⟨g, _, ea, hb⟩
      · subst ea el; exact p36_nil
      · subst ea; exact p36_l l g (by omega)
    · cases h
  · cases h
end Go.Proofs.YtakchekhpeokjaaDoor

/-
  BITBOARD (chapter 05): slices.IsSorted; an environment in which List is not replaced.
-/
namespace Go.Proofs.YtakchekhpeokjaaDoor
open Go.Va

noncomputable def body38 : Code := codeOf Tryd.prog 38 [.r, .l, .r, .b, .b]
def T38 (v : Value) (i : Int) (w : Nat → Value) : List Value := fillT 21 [(0, v), (3, .int .i64 i)] w
theorem next38 (c : List Value) (n g k : Nat) (x y : Int) (w : Nat → Value) (h1 : k + 1 < n) (hx : c[k + 1]? = some (.int .i64 x)) (hy : c[k]? = some (.int .i64 y)) (hxy : ¬ x < y) (hn : n < 9223372036854775807) :
    ∃ w', runW Tryd.prog env7 0 (.code ⟨38, none⟩ body38 (T38 (L c n 1 g) ((k + 1 : Nat) : Int) w) []) (base0 4 tabs) = some (.done .normal (T38 (L c n 1 g) (k : Int) w') [], base0 4 tabs) := by
  have e : IntKind.i64.wrap (((k + 1 : Nat) : Int) - 1) = (k : Int) := by rw [wrap64 (by omega) (by omega)]; omega
  have h := seg (P := Tryd.prog) (E := env7) (lim := 0) (k := .code ⟨38, none⟩ body38 (T38 (L c n 1 g) ((k + 1 : Nat) : Int) w) []) (σ := base0 4 tabs) 100 [(1, .br true), (3, .ok), (0, .is (.int .i64 x)), (3, .ok), (0, .is (.int .i64 y)), (7, .br false), (6, .br false)] (m := 21) (js := [0, 3]) (e := .normal) (ds := []) (σ' := base0 4 tabs)
    (vs := [L c n 1 g, .int .i64 (IntKind.i64.wrap (((k + 1 : Nat) : Int) - 1))])
    (ob := [decide (((k + 1 : Nat) : Int) > 0) = true, (0 : Int) ≤ ((k + 1 : Nat) : Int) ∧ ((k + 1 : Nat) : Int) < n, c[(k + 1) * 1]? = some (.int .i64 x),
      (0 : Int) ≤ IntKind.i64.wrap (((k + 1 : Nat) : Int) - 1) ∧ IntKind.i64.wrap (((k + 1 : Nat) : Int) - 1) < n, c[(IntKind.i64.wrap (((k + 1 : Nat) : Int) - 1)).toNat * 1]? = some (.int .i64 y), (x != x) = false, decide (x < y) = false]) (by kernel_rfl)
    ⟨decide_eq_true (by omega), ⟨by omega, by omega⟩, by rw [Nat.mul_one]; exact hx, by rw [e]; omega, by rw [e, Nat.mul_one, Int.toNat_natCast]; exact hy, bne_self_eq_false x, decide_eq_false hxy⟩
  rw [e] at h
  exact h
theorem end38 (v : Value) (w : Nat → Value) :
    ∃ w', runW Tryd.prog env7 0 (.code ⟨38, none⟩ body38 (T38 v 0 w) []) (base0 4 tabs) = some (.done (.exit 0) (fillT 21 [] w') [], base0 4 tabs) :=
  seg 100 [] (m := 21) (js := []) (vs := []) (ob := []) (by kernel_rfl) trivial
theorem loop38 (l : List Int) (n g : Nat) (hl : l.length = n) (hn : n < 9223372036854775807) (hs : l.Pairwise (· < ·)) : ∀ (k : Nat) (w : Nat → Value), k < n →
    ∃ w', runW Tryd.prog env7 0 (.code ⟨38, none⟩ (.loop body38) (T38 (L (zs l) n 1 g) k w) []) (base0 4 tabs) = some (.done (.exit 0) (fillT 21 [] w') [], base0 4 tabs) := by
  intro k
  induction k with
  | zero =>
    intro w hk
    obtain ⟨w', h⟩ := end38 (L (zs l) n 1 g) w
    exact ⟨w', loop_out (by intro h; cases h) h⟩
  | succ k ih =>
    intro w hk
    have hx : (zs l)[k + 1]? = some (.int .i64 l[k + 1]) := by rw [zs_get, List.getElem?_eq_getElem (by omega)]; rfl
    have hy : (zs l)[k]? = some (.int .i64 l[k]) := by rw [zs_get, List.getElem?_eq_getElem (by omega)]; rfl
    have := List.pairwise_iff_getElem.1 hs k (k + 1) (by omega) (by omega) (by omega)
    obtain ⟨w1, h1⟩ := next38 (zs l) n g k l[k + 1] l[k] w (by omega) hx hy (by omega) hn
    obtain ⟨w', h2⟩ := ih w1 (by omega)
    exact ⟨w', loop_next h1 h2⟩
theorem p38_nil : Pure Tryd.prog 4 tabs 38 [.slice none 0 0] (.bool true) :=
  pureT t7_ok fns7 (n := 100) (v := .bool true) [] [] (by kernel_rfl) trivial rfl (.bool _)
theorem p38_zero (c : List Value) (g : Nat) : Pure Tryd.prog 4 tabs 38 [L c 0 1 g] (.bool true) :=
  pureT t7_ok fns7 (n := 100) (v := .bool true) [] [] (by kernel_rfl) trivial rfl (.bool _)
theorem p38_l (l : List Int) (n g : Nat) (hl : l.length = n + 1) (hn : n + 1 < 9223372036854775807) (hs : l.Pairwise (· < ·)) : Pure Tryd.prog 4 tabs 38 [L (zs l) (n + 1) 1 g] (.bool true) := by
  have e : IntKind.i64.wrap (((n + 1 : Nat) : Int) - 1) = (n : Int) := by rw [wrap64 (by omega) (by omega)]; omega
  obtain ⟨w', h⟩ := loop38 l (n + 1) g hl hn hs n (fun j => Go.Va.look [(2, .bool false), (4, L (zs l) (n + 1) 1 g), (5, .int .i64 ((n + 1 : Nat) : Int)), (6, .int .i64 n)] j undef) (by omega)
  rw [← e] at h
  exact pureT t7_ok fns7 (n := 100) (v := .bool true) [(5, .skip (.done (.exit 0) (fillT 21 [] w') []) (base0 4 tabs))] [_] (by kernel_rfl) h rfl (.bool _)
open Classical in
noncomputable def k38 : List Value → Option Value
  | [a] => match zl a with
    | some l => if l.Pairwise (· < ·) then some (.bool true) else none
    | none => none
  | _ => none
theorem p38 : KOk Tryd.prog 4 tabs 38 k38 := by
  intro args v h
  unfold k38 at h
  split at h
  · rename_i a
    split at h
    · rename_i l hl
      split at h
      · rename_i hs
        cases h
        rcases zl_spec hl with ⟨ea, el, _⟩ | ⟨g, _, ea, hb⟩
        · subst ea el; exact p38_nil
        · subst ea
          cases hlen : l.length with
          | zero => exact p38_zero _ g
          | succ n => exact p38_l l n g hlen (by omega) hs
      · cases h
    · cases h
  · cases h
theorem k38_eq {v : Value} {l : List Int} (h : IsZ v l) (hs : l.Pairwise (· < ·)) : k38 [v] = some (.bool true) := by
  unfold k38; dsimp only; rw [zl_eq h]; dsimp only; rw [if_pos hs]

/-! ## The environment -/

def k21 : List Value → Option Value
  | [.int .u64 s] => bif inU s then some (lowV (BitVec.ofInt 64 s)) else none
  | _ => none
def k37 : List Value → Option Value
  | [.int .u64 s] => bif inU s then some (.int .i64 ((bitsL (BitVec.ofInt 64 s)).length : Int)) else none
  | _ => none
theorem k21_u (x : BitVec 64) : k21 [.int .u64 (u x)] = some (lowV x) := by
  unfold k21; dsimp only
  rw [inU_u, cond_true, show BitVec.ofInt 64 (u x) = x from ofInt_u x]
theorem k37_u (x : BitVec 64) : k37 [.int .u64 (u x)] = some (.int .i64 ((bitsL x).length : Int)) := by
  unfold k37; dsimp only
  rw [inU_u, cond_true, show BitVec.ofInt 64 (u x) = x from ofInt_u x]
theorem KOk_u {f : FuncId} {k : List Value → Option Value} {g : BitVec 64 → Value} (hp : ∀ x, Pure Tryd.prog 4 tabs f [.int .u64 (u x)] (g x))
    (hk : ∀ args v, k args = some v → ∃ s, args = [.int .u64 s] ∧ inU s = true ∧ v = g (BitVec.ofInt 64 s)) : KOk Tryd.prog 4 tabs f k := by
  intro args v h
  obtain ⟨s, rfl, hs, rfl⟩ := hk args v h
  have := hp (BitVec.ofInt 64 s)
  rw [← ofInt_inU hs] at this
  exact this
theorem p21k : KOk Tryd.prog 4 tabs 21 k21 := KOk_u p21 fun args v h => by
  unfold k21 at h
  split at h
  · rename_i s
    cases hs : inU s with
    | false => rw [hs] at h; cases h
    | true => rw [hs] at h; cases h; exact ⟨s, rfl, hs, rfl⟩
  · cases h
theorem p37k : KOk Tryd.prog 4 tabs 37 k37 := KOk_u p37 fun args v h => by
  unfold k37 at h
  split at h
  · rename_i s
    cases hs : inU s with
    | false => rw [hs] at h; cases h
    | true => rw [hs] at h; cases h; exact ⟨s, rfl, hs, rfl⟩
  · cases h
/-- List is not replaced here: its answer may grow. -/
noncomputable def t8 : Ktab := (16, k16) :: (21, k21) :: (36, k36) :: (37, k37) :: (38, k38) :: (39, k39) :: t6
theorem t8_ok : TOk Tryd.prog 4 tabs t8 := ⟨p16, p21k, p36, p37k, p38, p39, t6_ok⟩
noncomputable def env8 : Env := envT t8
set_option maxRecDepth 100000 in
theorem fns8 : fnB Tryd.prog 4 env8 okL = true := by kernel_rfl
theorem ov8_52 (x : BitVec 64) (lim : Nat) (σ : AS) : env8.ov 52 [.int .u64 (u x)] lim σ = some (.int .i64 (tz x), σ) :=
  envK rfl rfl rfl rfl (by unfold t8; rw [pfT_ne rfl, pfT_ne rfl, pfT_ne rfl, pfT_ne rfl, pfT_ne rfl, pfT_ne rfl, pf52]; exact k52_u x)
theorem ov8_21 (x : BitVec 64) (lim : Nat) (σ : AS) : env8.ov 21 [.int .u64 (u x)] lim σ = some (lowV x, σ) :=
  envK rfl rfl rfl rfl (by unfold t8; rw [pfT_ne rfl, pfT_eq]; exact k21_u x)
theorem ov8_37 (x : BitVec 64) (lim : Nat) (σ : AS) : env8.ov 37 [.int .u64 (u x)] lim σ = some (.int .i64 ((bitsL x).length : Int), σ) :=
  envK rfl rfl rfl rfl (by unfold t8; rw [pfT_ne rfl, pfT_ne rfl, pfT_ne rfl, pfT_eq]; exact k37_u x)
theorem IsZ_flat {v : Value} {l : List Int} (h : IsZ v l) : flatB 100 v = true := by
  rcases h with ⟨e, _⟩ | ⟨g, hg, e, _⟩
  · rw [e]; rfl
  · rw [e]; exact Nat.ble_eq_true_of_le hg
/-- A replaced function of a list. -/
theorem envZ {t : Ktab} {f : FuncId} {a a' : Value} {l : List Int} {lim : Nat} {σ : AS} {v : Value} (h1 : Nat.beq f 76 = false) (h2 : Nat.beq f 81 = false) (ea : strip a = a') (ha : IsZ a' l) (h : pfT t f [a'] = some v) : (envT t).ov f [a] lim σ = some (v, σ) := by
  refine envT_ov h1 h2 (pureOv_of ?_ ?_)
  · show (flatB 100 (strip a) && true) = true
    rw [ea, IsZ_flat ha]; rfl
  · show pfT t f [strip a] = _
    rw [ea, h]
theorem ov8_38 {a a' : Value} {l : List Int} (lim : Nat) (σ : AS) (ea : strip a = a') (ha : IsZ a' l) (hs : l.Pairwise (· < ·)) : env8.ov 38 [a] lim σ = some (.bool true, σ) :=
  envZ rfl rfl ea ha (by unfold t8; rw [pfT_ne rfl, pfT_ne rfl, pfT_ne rfl, pfT_ne rfl, pfT_eq]; exact k38_eq ha hs)
theorem ov8_36 {a a' : Value} {l : List Int} (lim : Nat) (σ : AS) (ea : strip a = a') (ha : IsZ a' l) : env8.ov 36 [a] lim σ = some (ofV l, σ) :=
  envZ rfl rfl ea ha (by unfold t8; rw [pfT_ne rfl, pfT_ne rfl, pfT_eq]; unfold k36; dsimp only; rw [zl_eq ha])
theorem ov8_39 {a a' : Value} {l : List Int} (m : Int) (lim : Nat) (σ : AS) (ea : strip a = a') (ha : IsZ a' l) : env8.ov 39 [a, .int .i64 m] lim σ = some (.bool (decide (m ∈ l)), σ) := by
  refine envT_ov rfl rfl (pureOv_of ?_ ?_)
  · show (flatB 100 (strip a) && (flatB 100 (strip (.int .i64 m)) && true)) = true
    rw [ea, IsZ_flat ha]; rfl
  · show pfT t8 39 [strip a, .int .i64 m] = _
    rw [ea]; unfold t8
    rw [pfT_ne rfl, pfT_ne rfl, pfT_ne rfl, pfT_ne rfl, pfT_ne rfl, pfT_eq]
    unfold k39; dsimp only; rw [zl_eq ha]
end Go.Proofs.YtakchekhpeokjaaDoor
