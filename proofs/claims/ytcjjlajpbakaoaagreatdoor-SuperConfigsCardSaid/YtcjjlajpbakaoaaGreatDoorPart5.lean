/-
  The functions that the statement reaches: what they answer, part 5.
-/
import Derived.Test.YtcjjlajpbakaoaaGreatDoorPart1
import Derived.Test.YtcjjlajpbakaoaaGreatDoorPart4

/-
  SUPERBLOCK (chapter 36): the document's Seal of 25 bytes.
-/
namespace Go.Proofs.YtcjjlajpbakaoaaGreatDoor
open Go.Va

def rC : Ktab := (151, k151) :: t3
theorem rC_ok : TOk Tryz.prog 9 tabs rC := ⟨k151_ok, t3_ok⟩
def sealD (c : List Value) (X : Int) : List Value := c ++ [.int .u8 (ru X 24), .int .u8 (ru X 16), .int .u8 (ru X 8), .int .u8 (IntKind.u8.wrap X)]
set_option maxRecDepth 100000 in
theorem sealR_raw (c : List Value) (g : Nat) (X : Int) (h1 : ∀ σ, (envT rC).ov 151 [.int .u32 0, L c 25 1 g] 0 σ = some (.int .u32 X, σ)) (hv : PF (strip (L (sealD c X) 29 1 11))) :
    Pure Tryz.prog 9 tabs 60 [L c 25 1 g] (strip (L (sealD c X) 29 1 11)) :=
  pureT rC_ok (n := 300) (v := L (sealD c X) 29 1 11) [(5, .ov (.int .u32 X)), (19, .ok)]
    [∀ σ, (envT rC).ov 151 [.int .u32 0, L c 25 1 g] 0 σ = some (.int .u32 X, σ), c.length = c.length ∧ (25 + 4) * 1 ≤ 70368744177664]
    (by kernel_rfl) ⟨h1, rfl, by omega⟩ rfl hv
theorem p60 (l : List UInt8) (g : Nat) (hg : g ≤ 1) (hl : l.length = 25) : Pure Tryz.prog 9 tabs 60 [L (bys l) 25 1 g] (L (bys (sealL l)) 29 1 0) := by
  have hx := crcU_lt 0 l (by omega)
  generalize hX : crcU 0 l = X at hx
  have e : strip (L (sealD (bys l) X) 29 1 11) = L (bys (sealL l)) 29 1 0 := by
    show L (sealD (bys l) X) 29 1 0 = _
    have e1 : sealD (bys l) X = bys (sealL l) := by
      unfold sealD sealL be4
      rw [hX, show ru (X : Int) 24 = ((byt X 24).toNat : Int) from ru_nat X 24 (by omega), show ru (X : Int) 16 = ((byt X 16).toNat : Int) from ru_nat X 16 (by omega), show ru (X : Int) 8 = ((byt X 8).toNat : Int) from ru_nat X 8 (by omega)]
      have e0 : IntKind.u8.wrap (X : Int) = ((byt X 0).toNat : Int) := by
        rw [wrap8]; unfold byt; simp
      rw [e0]
      unfold bys
      simp
    rw [e1]
  rw [← e]
  refine sealR_raw (bys l) g X (fun σ => ?_) ?_
  · refine envK rfl rfl (show [strip (.int .u32 0), strip (L (bys l) 25 1 g)] = [.int .u32 0, L (bys l) l.length 1 g] by rw [strip_le hg, hl]; rfl) ?_ ?_
    · show (flatB 100 (.int .u32 0) && (flatB 100 (L (bys l) l.length 1 g) && true)) = true
      rw [flat_L hg]; rfl
    · show k151 [.int .u32 0, L (bys l) l.length 1 g] = _
      unfold k151
      dsimp only
      rw [asL_L', asB_L hg (by omega)]
      show some (Value.int .u32 (crcU 0 l : Nat)) = _
      rw [hX]
  · rw [e]
    exact PF_list (by omega) (bys_PF _)
def k60 : List Value → Option Value
  | [v] => (match asL v, asB v with
    | some _, some l => bif Nat.beq l.length 25 then some (L (bys (sealL l)) 29 1 0) else none
    | _, _ => none)
  | _ => none
theorem k60_ok : KOk Tryz.prog 9 tabs 60 k60 := by
  intro args u h
  unfold k60 at h
  split at h
  · rename_i v
    split at h
    · rename_i x l hL hB
      rcases asB_spec hB with ⟨rfl, _⟩ | ⟨g, hg, rfl, _⟩
      · cases hL
      · cases hb : Nat.beq l.length 25 with
        | false => rw [hb] at h; cases h
        | true =>
          rw [hb, cond_true] at h
          cases h
          have h25 := Nat.eq_of_beq_eq_true hb
          rw [h25]
          exact p60 l g hg h25
    · cases h
  · cases h

end Go.Proofs.YtcjjlajpbakaoaaGreatDoor

/-
  SUPERBLOCK (chapter 36): byte strings compared by the document.
-/
namespace Go.Proofs.YtcjjlajpbakaoaaGreatDoor
open Go.Va

noncomputable def body68 : Code := codeOf Tryz.prog 68 [.r, .r, .l, .r, .b, .b]
def T68 (a b : Value) (i : Int) (w : Nat → Value) : List Value := fillT 26 [(0, a), (1, b), (5, .int .i64 i)] w
theorem next68 (c d : List Value) (n g g' : Nat) (i : Nat) (x : Int) (w : Nat → Value) (h1 : i < n) (hx : c[i]? = some (.int .u8 x)) (hy : d[i]? = some (.int .u8 x)) (hn : n < 9223372036854775807) :
    ∃ w', runW Tryz.prog (envT t3) 0 (.code ⟨68, none⟩ body68 (T68 (L c n 1 g) (L d n 1 g') i w) []) (base0 9 tabs) = some (.done .normal (T68 (L c n 1 g) (L d n 1 g') ((i + 1 : Nat) : Int) w') [], base0 9 tabs) := by
  have e : IntKind.i64.wrap ((i : Int) + 1) = ((i + 1 : Nat) : Int) := by rw [wrap64 (by omega) (by omega)]; rfl
  rw [← e]
  exact seg 100 [(4, .br true), (2, .ok), (0, .is (.int .u8 x)), (2, .ok), (0, .is (.int .u8 x)), (1, .br false)] (m := 26) (js := [0, 1, 5]) (vs := [L c n 1 g, L d n 1 g', .int .i64 (IntKind.i64.wrap ((i : Int) + 1))])
    (ob := [decide ((i : Int) < n) = true, (0 : Int) ≤ i ∧ (i : Int) < n, c[i * 1]? = some (.int .u8 x), (0 : Int) ≤ i ∧ (i : Int) < n, d[i * 1]? = some (.int .u8 x), (x != x) = false]) (by kernel_rfl)
    ⟨decide_eq_true (by omega), ⟨by omega, by omega⟩, by rw [Nat.mul_one]; exact hx, ⟨by omega, by omega⟩, by rw [Nat.mul_one]; exact hy, bne_self_eq_false x⟩
theorem diff68 (c d : List Value) (n g g' : Nat) (i : Nat) (x y : Int) (w : Nat → Value) (h1 : i < n) (hx : c[i]? = some (.int .u8 x)) (hy : d[i]? = some (.int .u8 y)) (hxy : x ≠ y) :
    ∃ w', runW Tryz.prog (envT t3) 0 (.code ⟨68, none⟩ body68 (T68 (L c n 1 g) (L d n 1 g') i w) []) (base0 9 tabs) = some (.done .ret (fillT 26 [(4, .bool false)] w') [], base0 9 tabs) :=
  seg 100 [(4, .br true), (2, .ok), (0, .is (.int .u8 x)), (2, .ok), (0, .is (.int .u8 y)), (1, .br true)] (m := 26) (js := [4]) (vs := [.bool false])
    (ob := [decide ((i : Int) < n) = true, (0 : Int) ≤ i ∧ (i : Int) < n, c[i * 1]? = some (.int .u8 x), (0 : Int) ≤ i ∧ (i : Int) < n, d[i * 1]? = some (.int .u8 y), (x != y) = true]) (by kernel_rfl)
    ⟨decide_eq_true (by omega), ⟨by omega, by omega⟩, by rw [Nat.mul_one]; exact hx, ⟨by omega, by omega⟩, by rw [Nat.mul_one]; exact hy, bne_iff_ne.2 hxy⟩
theorem end68 (c d : List Value) (n g g' : Nat) (i : Int) (w : Nat → Value) (h1 : n ≤ i) :
    ∃ w', runW Tryz.prog (envT t3) 0 (.code ⟨68, none⟩ body68 (T68 (L c n 1 g) (L d n 1 g') i w) []) (base0 9 tabs) = some (.done (.exit 0) (fillT 26 [] w') [], base0 9 tabs) :=
  seg 100 [(4, .br false)] (m := 26) (js := []) (vs := []) (ob := [decide (i < n) = false]) (by kernel_rfl) (decide_eq_false (by omega))
theorem loop68 (l m : List UInt8) (n g g' : Nat) (hl : l.length = n) (hm : m.length = n) (hn : n < 9223372036854775807) : ∀ (k i : Nat) (w : Nat → Value), i + k = n →
    ∃ w', runW Tryz.prog (envT t3) 0 (.code ⟨68, none⟩ (.loop body68) (T68 (L (bys l) n 1 g) (L (bys m) n 1 g') i w) []) (base0 9 tabs) =
      some (bif l.drop i == m.drop i then .done (.exit 0) (fillT 26 [] w') [] else .done .ret (fillT 26 [(4, .bool false)] w') [], base0 9 tabs) := by
  intro k
  induction k with
  | zero =>
    intro i w hi
    rw [List.drop_of_length_le (by omega), List.drop_of_length_le (by omega)]
    obtain ⟨w', h⟩ := end68 (bys l) (bys m) n g g' i w (by omega)
    exact ⟨w', loop_out (by intro h; cases h) h⟩
  | succ k ih =>
    intro i w hi
    have hil : i < l.length := by omega
    have him : i < m.length := by omega
    have hx : (bys l)[i]? = some (.int .u8 l[i].toNat) := by rw [bys_get, List.getElem?_eq_getElem hil]; rfl
    have hy : (bys m)[i]? = some (.int .u8 m[i].toNat) := by rw [bys_get, List.getElem?_eq_getElem him]; rfl
    rw [List.drop_eq_getElem_cons hil, List.drop_eq_getElem_cons him]
    by_cases h : l[i] = m[i]
    · rw [← h] at hy
      obtain ⟨w1, h1⟩ := next68 (bys l) (bys m) n g g' i l[i].toNat w (by omega) hx hy hn
      obtain ⟨w', h2⟩ := ih (i + 1) w1 (by omega)
      refine ⟨w', ?_⟩
      rw [show (l[i] :: l.drop (i + 1) == m[i] :: m.drop (i + 1)) = (l.drop (i + 1) == m.drop (i + 1)) by rw [List.cons_beq_cons, h, beq_self_eq_true, Bool.true_and]]
      exact loop_next h1 h2
    · obtain ⟨w', h1⟩ := diff68 (bys l) (bys m) n g g' i l[i].toNat m[i].toNat w (by omega) hx hy (fun e => h (UInt8.toNat_inj.1 (Int.ofNat.inj e)))
      refine ⟨w', ?_⟩
      rw [show (l[i] :: l.drop (i + 1) == m[i] :: m.drop (i + 1)) = false by rw [List.cons_beq_cons, beq_eq_false_iff_ne.2 h, Bool.false_and]]
      exact loop_out (by intro h; cases h) h1
theorem p68_nn : Pure Tryz.prog 9 tabs 68 [.slice none 0 0, .slice none 0 0] (.bool true) :=
  pureT t3_ok (n := 100) (v := .bool true) [] [] (by kernel_rfl) trivial rfl (.bool true)
theorem p68_nl (c : List Value) (n g : Nat) : Pure Tryz.prog 9 tabs 68 [.slice none 0 0, L c n 1 g] (.bool (decide (n = 0))) := by
  by_cases h : n = 0
  · rw [decide_eq_true h]
    exact pureT t3_ok (n := 100) (v := .bool true) [(6, .br false)] [((0 : Int) != n) = false] (by kernel_rfl) (by subst h; rfl) rfl (.bool true)
  · rw [decide_eq_false h]
    exact pureT t3_ok (n := 100) (v := .bool false) [(6, .br true)] [((0 : Int) != n) = true] (by kernel_rfl) (by simp [All]; omega) rfl (.bool false)
theorem p68_ln (c : List Value) (n g : Nat) : Pure Tryz.prog 9 tabs 68 [L c n 1 g, .slice none 0 0] (.bool (decide (n = 0))) := by
  by_cases h : n = 0
  · rw [decide_eq_true h]
    subst h
    exact pureT t3_ok (n := 100) (v := .bool true) [] [] (by kernel_rfl) trivial rfl (.bool true)
  · rw [decide_eq_false h]
    exact pureT t3_ok (n := 100) (v := .bool false) [(6, .br true)] [((n : Int) != 0) = true] (by kernel_rfl) (by simp [All]; omega) rfl (.bool false)
theorem p68_ll (l m : List UInt8) (g g' : Nat) (hn : l.length < 9223372036854775807) : Pure Tryz.prog 9 tabs 68 [L (bys l) l.length 1 g, L (bys m) m.length 1 g'] (.bool (l == m)) := by
  by_cases hm : m.length = l.length
  · obtain ⟨w', h⟩ := loop68 l m l.length g g' rfl hm hn l.length 0 (fun j => Go.Va.look [(4, .bool false), (6, L (bys l) l.length 1 g), (7, .int .i64 l.length), (8, L (bys m) l.length 1 g'), (9, .int .i64 l.length), (10, .bool ((l.length : Int) != (l.length : Int)))] j undef) (by omega)
    rw [hm]
    rw [List.drop_zero, List.drop_zero] at h
    cases e : l == m with
    | true =>
      rw [e] at h
      exact pureT t3_ok (n := 100) (v := .bool true) [(6, .br false), (1, .skip (.done (.exit 0) (fillT 26 [] w') []) (base0 9 tabs))] [((l.length : Int) != l.length) = false, _] (by kernel_rfl) ⟨bne_self_eq_false _, h⟩ rfl (.bool true)
    | false =>
      rw [e] at h
      exact pureT t3_ok (n := 100) (v := .bool false) [(6, .br false), (1, .skip (.done .ret (fillT 26 [(4, .bool false)] w') []) (base0 9 tabs))] [((l.length : Int) != l.length) = false, _] (by kernel_rfl) ⟨bne_self_eq_false _, h⟩ rfl (.bool false)
  · rw [show (l == m) = false from beq_eq_false_iff_ne.2 fun e => hm (by rw [e])]
    exact pureT t3_ok (n := 100) (v := .bool false) [(6, .br true)] [((l.length : Int) != m.length) = true] (by kernel_rfl) (by simp [All]; omega) rfl (.bool false)
theorem k68_ok : KOk Tryz.prog 9 tabs 68 k111 := by
  intro args v h
  unfold k111 at h
  split at h
  · rename_i a b
    split at h
    · rename_i l m hl hm
      cases h
      rcases asB_spec hl with ⟨ea, el⟩ | ⟨g, _, ea, hb⟩ <;> rcases asB_spec hm with ⟨eb, em⟩ | ⟨g', _, eb, hb'⟩
      · subst ea el eb em; exact p68_nn
      · subst ea el eb
        have := p68_nl (bys m) m.length g'
        cases m <;> exact this
      · subst ea eb em
        have := p68_ln (bys l) l.length g
        cases l <;> exact this
      · subst ea eb; exact p68_ll l m g g' (by omega)
    · cases h
  · cases h

noncomputable def body27 : Code := codeOf Tryz.prog 27 [.r, .r, .l, .r, .b, .b]
def T27 (a b : Value) (i : Int) (w : Nat → Value) : List Value := fillT 26 [(0, a), (1, b), (5, .int .i64 i)] w
theorem next27 (c d : List Value) (n g g' : Nat) (i : Nat) (x : Int) (w : Nat → Value) (h1 : i < n) (hx : c[i]? = some (.int .u8 x)) (hy : d[i]? = some (.int .u8 x)) (hn : n < 9223372036854775807) :
    ∃ w', runW Tryz.prog (envT t3) 0 (.code ⟨27, none⟩ body27 (T27 (L c n 1 g) (L d n 1 g') i w) []) (base0 9 tabs) = some (.done .normal (T27 (L c n 1 g) (L d n 1 g') ((i + 1 : Nat) : Int) w') [], base0 9 tabs) := by
  have e : IntKind.i64.wrap ((i : Int) + 1) = ((i + 1 : Nat) : Int) := by rw [wrap64 (by omega) (by omega)]; rfl
  rw [← e]
  exact seg 100 [(4, .br true), (2, .ok), (0, .is (.int .u8 x)), (2, .ok), (0, .is (.int .u8 x)), (1, .br false)] (m := 26) (js := [0, 1, 5]) (vs := [L c n 1 g, L d n 1 g', .int .i64 (IntKind.i64.wrap ((i : Int) + 1))])
    (ob := [decide ((i : Int) < n) = true, (0 : Int) ≤ i ∧ (i : Int) < n, c[i * 1]? = some (.int .u8 x), (0 : Int) ≤ i ∧ (i : Int) < n, d[i * 1]? = some (.int .u8 x), (x != x) = false]) (by kernel_rfl)
    ⟨decide_eq_true (by omega), ⟨by omega, by omega⟩, by rw [Nat.mul_one]; exact hx, ⟨by omega, by omega⟩, by rw [Nat.mul_one]; exact hy, bne_self_eq_false x⟩
theorem diff27 (c d : List Value) (n g g' : Nat) (i : Nat) (x y : Int) (w : Nat → Value) (h1 : i < n) (hx : c[i]? = some (.int .u8 x)) (hy : d[i]? = some (.int .u8 y)) (hxy : x ≠ y) :
    ∃ w', runW Tryz.prog (envT t3) 0 (.code ⟨27, none⟩ body27 (T27 (L c n 1 g) (L d n 1 g') i w) []) (base0 9 tabs) = some (.done .ret (fillT 26 [(4, .bool false)] w') [], base0 9 tabs) :=
  seg 100 [(4, .br true), (2, .ok), (0, .is (.int .u8 x)), (2, .ok), (0, .is (.int .u8 y)), (1, .br true)] (m := 26) (js := [4]) (vs := [.bool false])
    (ob := [decide ((i : Int) < n) = true, (0 : Int) ≤ i ∧ (i : Int) < n, c[i * 1]? = some (.int .u8 x), (0 : Int) ≤ i ∧ (i : Int) < n, d[i * 1]? = some (.int .u8 y), (x != y) = true]) (by kernel_rfl)
    ⟨decide_eq_true (by omega), ⟨by omega, by omega⟩, by rw [Nat.mul_one]; exact hx, ⟨by omega, by omega⟩, by rw [Nat.mul_one]; exact hy, bne_iff_ne.2 hxy⟩
theorem end27 (c d : List Value) (n g g' : Nat) (i : Int) (w : Nat → Value) (h1 : n ≤ i) :
    ∃ w', runW Tryz.prog (envT t3) 0 (.code ⟨27, none⟩ body27 (T27 (L c n 1 g) (L d n 1 g') i w) []) (base0 9 tabs) = some (.done (.exit 0) (fillT 26 [] w') [], base0 9 tabs) :=
  seg 100 [(4, .br false)] (m := 26) (js := []) (vs := []) (ob := [decide (i < n) = false]) (by kernel_rfl) (decide_eq_false (by omega))
theorem loop27 (l m : List UInt8) (n g g' : Nat) (hl : l.length = n) (hm : m.length = n) (hn : n < 9223372036854775807) : ∀ (k i : Nat) (w : Nat → Value), i + k = n →
    ∃ w', runW Tryz.prog (envT t3) 0 (.code ⟨27, none⟩ (.loop body27) (T27 (L (bys l) n 1 g) (L (bys m) n 1 g') i w) []) (base0 9 tabs) =
      some (bif l.drop i == m.drop i then .done (.exit 0) (fillT 26 [] w') [] else .done .ret (fillT 26 [(4, .bool false)] w') [], base0 9 tabs) := by
  intro k
  induction k with
  | zero =>
    intro i w hi
    rw [List.drop_of_length_le (by omega), List.drop_of_length_le (by omega)]
    obtain ⟨w', h⟩ := end27 (bys l) (bys m) n g g' i w (by omega)
    exact ⟨w', loop_out (by intro h; cases h) h⟩
  | succ k ih =>
    intro i w hi
    have hil : i < l.length := by omega
    have him : i < m.length := by omega
    have hx : (bys l)[i]? = some (.int .u8 l[i].toNat) := by rw [bys_get, List.getElem?_eq_getElem hil]; rfl
    have hy : (bys m)[i]? = some (.int .u8 m[i].toNat) := by rw [bys_get, List.getElem?_eq_getElem him]; rfl
    rw [List.drop_eq_getElem_cons hil, List.drop_eq_getElem_cons him]
    by_cases h : l[i] = m[i]
    · rw [← h] at hy
      obtain ⟨w1, h1⟩ := next27 (bys l) (bys m) n g g' i l[i].toNat w (by omega) hx hy hn
      obtain ⟨w', h2⟩ := ih (i + 1) w1 (by omega)
      refine ⟨w', ?_⟩
      rw [show (l[i] :: l.drop (i + 1) == m[i] :: m.drop (i + 1)) = (l.drop (i + 1) == m.drop (i + 1)) by rw [List.cons_beq_cons, h, beq_self_eq_true, Bool.true_and]]
      exact loop_next h1 h2
    · obtain ⟨w', h1⟩ := diff27 (bys l) (bys m) n g g' i l[i].toNat m[i].toNat w (by omega) hx hy (fun e => h (UInt8.toNat_inj.1 (Int.ofNat.inj e)))
      refine ⟨w', ?_⟩
      rw [show (l[i] :: l.drop (i + 1) == m[i] :: m.drop (i + 1)) = false by rw [List.cons_beq_cons, beq_eq_false_iff_ne.2 h, Bool.false_and]]
      exact loop_out (by intro h; cases h) h1
theorem p27_nn : Pure Tryz.prog 9 tabs 27 [.slice none 0 0, .slice none 0 0] (.bool true) :=
  pureT t3_ok (n := 100) (v := .bool true) [] [] (by kernel_rfl) trivial rfl (.bool true)
theorem p27_nl (c : List Value) (n g : Nat) : Pure Tryz.prog 9 tabs 27 [.slice none 0 0, L c n 1 g] (.bool (decide (n = 0))) := by
  by_cases h : n = 0
  · rw [decide_eq_true h]
    exact pureT t3_ok (n := 100) (v := .bool true) [(6, .br false)] [((0 : Int) != n) = false] (by kernel_rfl) (by subst h; rfl) rfl (.bool true)
  · rw [decide_eq_false h]
    exact pureT t3_ok (n := 100) (v := .bool false) [(6, .br true)] [((0 : Int) != n) = true] (by kernel_rfl) (by simp [All]; omega) rfl (.bool false)
theorem p27_ln (c : List Value) (n g : Nat) : Pure Tryz.prog 9 tabs 27 [L c n 1 g, .slice none 0 0] (.bool (decide (n = 0))) := by
  by_cases h : n = 0
  · rw [decide_eq_true h]
    subst h
    exact pureT t3_ok (n := 100) (v := .bool true) [] [] (by kernel_rfl) trivial rfl (.bool true)
  · rw [decide_eq_false h]
    exact pureT t3_ok (n := 100) (v := .bool false) [(6, .br true)] [((n : Int) != 0) = true] (by kernel_rfl) (by simp [All]; omega) rfl (.bool false)
theorem p27_ll (l m : List UInt8) (g g' : Nat) (hn : l.length < 9223372036854775807) : Pure Tryz.prog 9 tabs 27 [L (bys l) l.length 1 g, L (bys m) m.length 1 g'] (.bool (l == m)) := by
  by_cases hm : m.length = l.length
  · obtain ⟨w', h⟩ := loop27 l m l.length g g' rfl hm hn l.length 0 (fun j => Go.Va.look [(4, .bool false), (6, L (bys l) l.length 1 g), (7, .int .i64 l.length), (8, L (bys m) l.length 1 g'), (9, .int .i64 l.length), (10, .bool ((l.length : Int) != (l.length : Int)))] j undef) (by omega)
    rw [hm]
    rw [List.drop_zero, List.drop_zero] at h
    cases e : l == m with
    | true =>
      rw [e] at h
      exact pureT t3_ok (n := 100) (v := .bool true) [(6, .br false), (1, .skip (.done (.exit 0) (fillT 26 [] w') []) (base0 9 tabs))] [((l.length : Int) != l.length) = false, _] (by kernel_rfl) ⟨bne_self_eq_false _, h⟩ rfl (.bool true)
    | false =>
      rw [e] at h
      exact pureT t3_ok (n := 100) (v := .bool false) [(6, .br false), (1, .skip (.done .ret (fillT 26 [(4, .bool false)] w') []) (base0 9 tabs))] [((l.length : Int) != l.length) = false, _] (by kernel_rfl) ⟨bne_self_eq_false _, h⟩ rfl (.bool false)
  · rw [show (l == m) = false from beq_eq_false_iff_ne.2 fun e => hm (by rw [e])]
    exact pureT t3_ok (n := 100) (v := .bool false) [(6, .br true)] [((l.length : Int) != m.length) = true] (by kernel_rfl) (by simp [All]; omega) rfl (.bool false)
theorem k27_ok : KOk Tryz.prog 9 tabs 27 k111 := by
  intro args v h
  unfold k111 at h
  split at h
  · rename_i a b
    split at h
    · rename_i l m hl hm
      cases h
      rcases asB_spec hl with ⟨ea, el⟩ | ⟨g, _, ea, hb⟩ <;> rcases asB_spec hm with ⟨eb, em⟩ | ⟨g', _, eb, hb'⟩
      · subst ea el eb em; exact p27_nn
      · subst ea el eb
        have := p27_nl (bys m) m.length g'
        cases m <;> exact this
      · subst ea eb em
        have := p27_ln (bys l) l.length g
        cases l <;> exact this
      · subst ea eb; exact p27_ll l m g g' (by omega)
    · cases h
  · cases h

end Go.Proofs.YtcjjlajpbakaoaaGreatDoor

/-
  SUPERBLOCK (chapter 36): numbers and their bytes by the document.
-/
namespace Go.Proofs.YtcjjlajpbakaoaaGreatDoor
open Go.Va

theorem by58_4 (n : Int) : Pure Tryz.prog 9 tabs 58 [.int .u64 n, .int .i64 4] (L [.int .u8 (rb n 24), .int .u8 (rb n 16), .int .u8 (rb n 8), .int .u8 (rb n 0)] 4 1 0) :=
  pureT t3_ok (n := 300) (v := L [.int .u8 (rb n 24), .int .u8 (rb n 16), .int .u8 (rb n 8), .int .u8 (rb n 0)] 4 1 11) [] [] (by kernel_rfl) trivial rfl (PF_list (by omega) (PF_plainL (by kernel_rfl)))
theorem p58_4 (n : Nat) : Pure Tryz.prog 9 tabs 58 [.int .u64 (n : Int), .int .i64 4] (L (bys (be4 n)) 4 1 0) := by
  have e : bys (be4 n) = [.int .u8 (rb (n : Int) 24), .int .u8 (rb (n : Int) 16), .int .u8 (rb (n : Int) 8), .int .u8 (rb (n : Int) 0)] := by
    unfold bys be4
    simp only [List.map_cons, List.map_nil]
    rw [show rb (n : Int) 24 = ((byt n 24).toNat : Int) from rb_nat n 24 (by omega), show rb (n : Int) 16 = ((byt n 16).toNat : Int) from rb_nat n 16 (by omega), show rb (n : Int) 8 = ((byt n 8).toNat : Int) from rb_nat n 8 (by omega), show rb (n : Int) 0 = ((byt n 0).toNat : Int) from rb_nat n 0 (by omega)]
  rw [e]
  exact by58_4 n

theorem by58_8 (n : Int) : Pure Tryz.prog 9 tabs 58 [.int .u64 n, .int .i64 8] (L [.int .u8 (rb n 56), .int .u8 (rb n 48), .int .u8 (rb n 40), .int .u8 (rb n 32), .int .u8 (rb n 24), .int .u8 (rb n 16), .int .u8 (rb n 8), .int .u8 (rb n 0)] 8 1 0) :=
  pureT t3_ok (n := 300) (v := L [.int .u8 (rb n 56), .int .u8 (rb n 48), .int .u8 (rb n 40), .int .u8 (rb n 32), .int .u8 (rb n 24), .int .u8 (rb n 16), .int .u8 (rb n 8), .int .u8 (rb n 0)] 8 1 11) [] [] (by kernel_rfl) trivial rfl (PF_list (by omega) (PF_plainL (by kernel_rfl)))
theorem p58_8 (n : Nat) : Pure Tryz.prog 9 tabs 58 [.int .u64 (n : Int), .int .i64 8] (L (bys (be8 n)) 8 1 0) := by
  have e : bys (be8 n) = [.int .u8 (rb (n : Int) 56), .int .u8 (rb (n : Int) 48), .int .u8 (rb (n : Int) 40), .int .u8 (rb (n : Int) 32), .int .u8 (rb (n : Int) 24), .int .u8 (rb (n : Int) 16), .int .u8 (rb (n : Int) 8), .int .u8 (rb (n : Int) 0)] := by
    unfold bys be8
    simp only [List.map_cons, List.map_nil]
    rw [show rb (n : Int) 56 = ((byt n 56).toNat : Int) from rb_nat n 56 (by omega), show rb (n : Int) 48 = ((byt n 48).toNat : Int) from rb_nat n 48 (by omega), show rb (n : Int) 40 = ((byt n 40).toNat : Int) from rb_nat n 40 (by omega), show rb (n : Int) 32 = ((byt n 32).toNat : Int) from rb_nat n 32 (by omega), show rb (n : Int) 24 = ((byt n 24).toNat : Int) from rb_nat n 24 (by omega), show rb (n : Int) 16 = ((byt n 16).toNat : Int) from rb_nat n 16 (by omega), show rb (n : Int) 8 = ((byt n 8).toNat : Int) from rb_nat n 8 (by omega), show rb (n : Int) 0 = ((byt n 0).toNat : Int) from rb_nat n 0 (by omega)]
  rw [e]
  exact by58_8 n

theorem by109_8 (n : Int) : Pure Tryz.prog 9 tabs 109 [.int .i64 n, .int .i64 8] (L [.int .u8 (rb n 56), .int .u8 (rb n 48), .int .u8 (rb n 40), .int .u8 (rb n 32), .int .u8 (rb n 24), .int .u8 (rb n 16), .int .u8 (rb n 8), .int .u8 (rb n 0)] 8 1 0) :=
  pureT t3_ok (n := 300) (v := L [.int .u8 (rb n 56), .int .u8 (rb n 48), .int .u8 (rb n 40), .int .u8 (rb n 32), .int .u8 (rb n 24), .int .u8 (rb n 16), .int .u8 (rb n 8), .int .u8 (rb n 0)] 8 1 11) [] [] (by kernel_rfl) trivial rfl (PF_list (by omega) (PF_plainL (by kernel_rfl)))
theorem p109_8 (n : Nat) : Pure Tryz.prog 9 tabs 109 [.int .i64 (n : Int), .int .i64 8] (L (bys (be8 n)) 8 1 0) := by
  have e : bys (be8 n) = [.int .u8 (rb (n : Int) 56), .int .u8 (rb (n : Int) 48), .int .u8 (rb (n : Int) 40), .int .u8 (rb (n : Int) 32), .int .u8 (rb (n : Int) 24), .int .u8 (rb (n : Int) 16), .int .u8 (rb (n : Int) 8), .int .u8 (rb (n : Int) 0)] := by
    unfold bys be8
    simp only [List.map_cons, List.map_nil]
    rw [show rb (n : Int) 56 = ((byt n 56).toNat : Int) from rb_nat n 56 (by omega), show rb (n : Int) 48 = ((byt n 48).toNat : Int) from rb_nat n 48 (by omega), show rb (n : Int) 40 = ((byt n 40).toNat : Int) from rb_nat n 40 (by omega), show rb (n : Int) 32 = ((byt n 32).toNat : Int) from rb_nat n 32 (by omega), show rb (n : Int) 24 = ((byt n 24).toNat : Int) from rb_nat n 24 (by omega), show rb (n : Int) 16 = ((byt n 16).toNat : Int) from rb_nat n 16 (by omega), show rb (n : Int) 8 = ((byt n 8).toNat : Int) from rb_nat n 8 (by omega), show rb (n : Int) 0 = ((byt n 0).toNat : Int) from rb_nat n 0 (by omega)]
  rw [e]
  exact by109_8 n

def k58 : List Value → Option Value
  | [.int .u64 n, .int .i64 w] => bif decide (0 ≤ n) then
      (bif decide (w = 4) then some (L (bys (be4 n.toNat)) 4 1 0) else bif decide (w = 8) then some (L (bys (be8 n.toNat)) 8 1 0) else none) else none
  | _ => none
theorem k58_ok : KOk Tryz.prog 9 tabs 58 k58 := by
  intro args u h
  unfold k58 at h
  split at h
  · rename_i n w
    cases h0 : decide (0 ≤ n) with
    | false => rw [h0] at h; cases h
    | true =>
      rw [h0, cond_true] at h
      obtain ⟨m, rfl⟩ := Int.eq_ofNat_of_zero_le (of_decide_eq_true h0)
      rw [Int.toNat_natCast] at h
      cases h4 : decide (w = 4) with
      | true =>
        rw [h4, cond_true] at h
        cases h
        rw [of_decide_eq_true h4]
        exact p58_4 m
      | false =>
        rw [h4, cond_false] at h
        cases h8 : decide (w = 8) with
        | true =>
          rw [h8, cond_true] at h
          cases h
          rw [of_decide_eq_true h8]
          exact p58_8 m
        | false => rw [h8] at h; cases h
  · cases h
def k109 : List Value → Option Value
  | [.int .i64 n, .int .i64 w] => bif decide (0 ≤ n) && decide (w = 8) then some (L (bys (be8 n.toNat)) 8 1 0) else none
  | _ => none
theorem k109_ok : KOk Tryz.prog 9 tabs 109 k109 := by
  intro args u h
  unfold k109 at h
  split at h
  · rename_i n w
    cases h0 : (decide (0 ≤ n) && decide (w = 8)) with
    | false => rw [h0] at h; cases h
    | true =>
      rw [h0, cond_true] at h
      cases h
      simp only [Bool.and_eq_true, decide_eq_true_eq] at h0
      obtain ⟨m, rfl⟩ := Int.eq_ofNat_of_zero_le h0.1
      rw [h0.2, Int.toNat_natCast]
      exact p109_8 m
  · cases h

theorem val4_raw (x0 x1 x2 x3 : Int) (g : Nat) : Pure Tryz.prog 9 tabs 65 [L [.int .u8 x0, .int .u8 x1, .int .u8 x2, .int .u8 x3] 4 1 g] (.int .u64 (orU (orU (orU (orU 0 x0) x1) x2) x3)) :=
  pureT t3_ok (n := 600) (v := .int .u64 (orU (orU (orU (orU 0 x0) x1) x2) x3)) [] [] (by kernel_rfl) trivial rfl (.int _ _)
theorem p65_4 (l : List UInt8) (g : Nat) (hl : l.length = 4) : Pure Tryz.prog 9 tabs 65 [L (bys l) 4 1 g] (.int .u64 (valB l : Nat)) := by
  match l, hl with
  | [u0, u1, u2, u3], _ =>
    have t0 : u0.toNat < 256 := u0.toNat_lt; have t1 : u1.toNat < 256 := u1.toNat_lt; have t2 : u2.toNat < 256 := u2.toNat_lt; have t3 : u3.toNat < 256 := u3.toNat_lt
    have e : ((valB [u0, u1, u2, u3] : Nat) : Int) = (orU (orU (orU (orU ((0 : Nat) : Int) (u0.toNat : Int)) (u1.toNat : Int)) (u2.toNat : Int)) (u3.toNat : Int)) := by
      rw [show orU ((0 : Nat) : Int) ((u0.toNat : Nat) : Int) = (((0 * 256 + u0.toNat) : Nat) : Int) from orU_nat (y := 0) (x := u0.toNat) (by omega) t0, show orU (((0 * 256 + u0.toNat) : Nat) : Int) ((u1.toNat : Nat) : Int) = ((((0 * 256 + u0.toNat) * 256 + u1.toNat) : Nat) : Int) from orU_nat (y := (0 * 256 + u0.toNat)) (x := u1.toNat) (by omega) t1, show orU ((((0 * 256 + u0.toNat) * 256 + u1.toNat) : Nat) : Int) ((u2.toNat : Nat) : Int) = (((((0 * 256 + u0.toNat) * 256 + u1.toNat) * 256 + u2.toNat) : Nat) : Int) from orU_nat (y := ((0 * 256 + u0.toNat) * 256 + u1.toNat)) (x := u2.toNat) (by omega) t2, show orU (((((0 * 256 + u0.toNat) * 256 + u1.toNat) * 256 + u2.toNat) : Nat) : Int) ((u3.toNat : Nat) : Int) = ((((((0 * 256 + u0.toNat) * 256 + u1.toNat) * 256 + u2.toNat) * 256 + u3.toNat) : Nat) : Int) from orU_nat (y := (((0 * 256 + u0.toNat) * 256 + u1.toNat) * 256 + u2.toNat)) (x := u3.toNat) (by omega) t3]
      rfl
    rw [e]
    exact val4_raw u0.toNat u1.toNat u2.toNat u3.toNat g

theorem val8_raw (x0 x1 x2 x3 x4 x5 x6 x7 : Int) (g : Nat) : Pure Tryz.prog 9 tabs 65 [L [.int .u8 x0, .int .u8 x1, .int .u8 x2, .int .u8 x3, .int .u8 x4, .int .u8 x5, .int .u8 x6, .int .u8 x7] 8 1 g] (.int .u64 (orU (orU (orU (orU (orU (orU (orU (orU 0 x0) x1) x2) x3) x4) x5) x6) x7)) :=
  pureT t3_ok (n := 600) (v := .int .u64 (orU (orU (orU (orU (orU (orU (orU (orU 0 x0) x1) x2) x3) x4) x5) x6) x7)) [] [] (by kernel_rfl) trivial rfl (.int _ _)
theorem p65_8 (l : List UInt8) (g : Nat) (hl : l.length = 8) : Pure Tryz.prog 9 tabs 65 [L (bys l) 8 1 g] (.int .u64 (valB l : Nat)) := by
  match l, hl with
  | [u0, u1, u2, u3, u4, u5, u6, u7], _ =>
    have t0 : u0.toNat < 256 := u0.toNat_lt; have t1 : u1.toNat < 256 := u1.toNat_lt; have t2 : u2.toNat < 256 := u2.toNat_lt; have t3 : u3.toNat < 256 := u3.toNat_lt; have t4 : u4.toNat < 256 := u4.toNat_lt; have t5 : u5.toNat < 256 := u5.toNat_lt; have t6 : u6.toNat < 256 := u6.toNat_lt; have t7 : u7.toNat < 256 := u7.toNat_lt
    have e : ((valB [u0, u1, u2, u3, u4, u5, u6, u7] : Nat) : Int) = (orU (orU (orU (orU (orU (orU (orU (orU ((0 : Nat) : Int) (u0.toNat : Int)) (u1.toNat : Int)) (u2.toNat : Int)) (u3.toNat : Int)) (u4.toNat : Int)) (u5.toNat : Int)) (u6.toNat : Int)) (u7.toNat : Int)) := by
      rw [show orU ((0 : Nat) : Int) ((u0.toNat : Nat) : Int) = (((0 * 256 + u0.toNat) : Nat) : Int) from orU_nat (y := 0) (x := u0.toNat) (by omega) t0, show orU (((0 * 256 + u0.toNat) : Nat) : Int) ((u1.toNat : Nat) : Int) = ((((0 * 256 + u0.toNat) * 256 + u1.toNat) : Nat) : Int) from orU_nat (y := (0 * 256 + u0.toNat)) (x := u1.toNat) (by omega) t1, show orU ((((0 * 256 + u0.toNat) * 256 + u1.toNat) : Nat) : Int) ((u2.toNat : Nat) : Int) = (((((0 * 256 + u0.toNat) * 256 + u1.toNat) * 256 + u2.toNat) : Nat) : Int) from orU_nat (y := ((0 * 256 + u0.toNat) * 256 + u1.toNat)) (x := u2.toNat) (by omega) t2, show orU (((((0 * 256 + u0.toNat) * 256 + u1.toNat) * 256 + u2.toNat) : Nat) : Int) ((u3.toNat : Nat) : Int) = ((((((0 * 256 + u0.toNat) * 256 + u1.toNat) * 256 + u2.toNat) * 256 + u3.toNat) : Nat) : Int) from orU_nat (y := (((0 * 256 + u0.toNat) * 256 + u1.toNat) * 256 + u2.toNat)) (x := u3.toNat) (by omega) t3, show orU ((((((0 * 256 + u0.toNat) * 256 + u1.toNat) * 256 + u2.toNat) * 256 + u3.toNat) : Nat) : Int) ((u4.toNat : Nat) : Int) = (((((((0 * 256 + u0.toNat) * 256 + u1.toNat) * 256 + u2.toNat) * 256 + u3.toNat) * 256 + u4.toNat) : Nat) : Int) from orU_nat (y := ((((0 * 256 + u0.toNat) * 256 + u1.toNat) * 256 + u2.toNat) * 256 + u3.toNat)) (x := u4.toNat) (by omega) t4, show orU (((((((0 * 256 + u0.toNat) * 256 + u1.toNat) * 256 + u2.toNat) * 256 + u3.toNat) * 256 + u4.toNat) : Nat) : Int) ((u5.toNat : Nat) : Int) = ((((((((0 * 256 + u0.toNat) * 256 + u1.toNat) * 256 + u2.toNat) * 256 + u3.toNat) * 256 + u4.toNat) * 256 + u5.toNat) : Nat) : Int) from orU_nat (y := (((((0 * 256 + u0.toNat) * 256 + u1.toNat) * 256 + u2.toNat) * 256 + u3.toNat) * 256 + u4.toNat)) (x := u5.toNat) (by omega) t5, show orU ((((((((0 * 256 + u0.toNat) * 256 + u1.toNat) * 256 + u2.toNat) * 256 + u3.toNat) * 256 + u4.toNat) * 256 + u5.toNat) : Nat) : Int) ((u6.toNat : Nat) : Int) = (((((((((0 * 256 + u0.toNat) * 256 + u1.toNat) * 256 + u2.toNat) * 256 + u3.toNat) * 256 + u4.toNat) * 256 + u5.toNat) * 256 + u6.toNat) : Nat) : Int) from orU_nat (y := ((((((0 * 256 + u0.toNat) * 256 + u1.toNat) * 256 + u2.toNat) * 256 + u3.toNat) * 256 + u4.toNat) * 256 + u5.toNat)) (x := u6.toNat) (by omega) t6, show orU (((((((((0 * 256 + u0.toNat) * 256 + u1.toNat) * 256 + u2.toNat) * 256 + u3.toNat) * 256 + u4.toNat) * 256 + u5.toNat) * 256 + u6.toNat) : Nat) : Int) ((u7.toNat : Nat) : Int) = ((((((((((0 * 256 + u0.toNat) * 256 + u1.toNat) * 256 + u2.toNat) * 256 + u3.toNat) * 256 + u4.toNat) * 256 + u5.toNat) * 256 + u6.toNat) * 256 + u7.toNat) : Nat) : Int) from orU_nat (y := (((((((0 * 256 + u0.toNat) * 256 + u1.toNat) * 256 + u2.toNat) * 256 + u3.toNat) * 256 + u4.toNat) * 256 + u5.toNat) * 256 + u6.toNat)) (x := u7.toNat) (by omega) t7]
      rfl
    rw [e]
    exact val8_raw u0.toNat u1.toNat u2.toNat u3.toNat u4.toNat u5.toNat u6.toNat u7.toNat g

def k65 : List Value → Option Value
  | [v] => (match asL v, asB v with
    | some _, some l => bif Nat.beq l.length 4 || Nat.beq l.length 8 then some (.int .u64 (valB l : Nat)) else none
    | _, _ => none)
  | _ => none
theorem k65_ok : KOk Tryz.prog 9 tabs 65 k65 := by
  intro args u h
  unfold k65 at h
  split at h
  · rename_i v
    split at h
    · rename_i x l hL hB
      rcases asB_spec hB with ⟨rfl, _⟩ | ⟨g, hg, rfl, _⟩
      · cases hL
      · cases hb : (Nat.beq l.length 4 || Nat.beq l.length 8) with
        | false => rw [hb] at h; cases h
        | true =>
          rw [hb, cond_true] at h
          cases h
          rw [Bool.or_eq_true] at hb
          rcases hb with h4 | h8
          · have := Nat.eq_of_beq_eq_true h4
            rw [this]
            exact p65_4 l g this
          · have := Nat.eq_of_beq_eq_true h8
            rw [this]
            exact p65_8 l g this
    · cases h
  · cases h

end Go.Proofs.YtcjjlajpbakaoaaGreatDoor
