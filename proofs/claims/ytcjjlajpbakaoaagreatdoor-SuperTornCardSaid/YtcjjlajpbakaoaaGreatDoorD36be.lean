/-
  SUPERBLOCK (chapter 36): SuperTorn.
-/
import Derived.Test.YtcjjlajpbakaoaaGreatDoorD36bc
import Derived.Test.YtcjjlajpbakaoaaGreatDoorD36bd
import Derived.Test.YtcjjlajpbakaoaaGreatDoorD36ax
namespace Go.Proofs.YtcjjlajpbakaoaaGreatDoor
open Go.Va

def tT : Ktab := (31, k31) :: (25, k25) :: t13
theorem tT_ok : TOk Tryz.prog 9 tabs tT := ⟨k31_ok, k25_ok, t13_ok⟩
noncomputable def body9 : Code := codeOf Tryz.prog 9 [.r, .r, .r, .r, .r, .r, .l, .r, .b, .b]
def T9 (q q' : List Value) (i : Int) (w : Nat → Value) : List Value := fillT 94 [(5, .pointer (some ⟨11, 0, none⟩)), (6, .pointer (some ⟨12, 0, none⟩)), (7, L q 128 1 1), (9, L q' 128 1 1), (11, .int .i64 i)] w

/-! ## An open heap: structs are written and read -/

theorem z36_spl (l : List Value) (h : l.length = 6) : spl z36 (0 + 0) l = l := by
  unfold spl
  rw [h, Nat.zero_add, List.take_zero, List.nil_append, show z36.drop (0 + 6) = [] from rfl, List.append_nil]
theorem store36 (σ : AS) (e a b c d s : Int) : (σ.push (.cells z36 true (none, some 36) none)).setCells 0 ⟨σ.next, 0, none⟩ (supL e a b c d s) 0 = some (σ.push (bx 36 e a b c d s)) := by
  rw [setCells_all (Nat.zero_le _) (supL e a b c d s) _ z36 0 0 (get_push_eq rfl) (by show 0 + 0 + 6 ≤ 6; omega) rfl, z36_spl _ rfl, push_put]
  rfl
theorem info36 : ∃ i, Tryz.prog.info? 36 = some i ∧ i.size = 6 := by
  have h : (Tryz.prog.info? 36).map (·.size) = some 6 := by kernel_rfl
  cases hi : Tryz.prog.info? 36 with
  | none => rw [hi] at h; cases h
  | some i => rw [hi] at h; exact ⟨i, rfl, Option.some.inj h⟩
theorem load36 {σ : AS} {p : Nat} {e a b c d s : Int} (h : σ.get p = some (bx 36 e a b c d s)) (lim : Nat) : runA Tryz.prog lim (loadVar 36 ⟨p, 0, none⟩) σ = some (sup e a b c d s, σ) := by
  obtain ⟨i, hi, hs⟩ := info36
  unfold loadVar isAgg
  rw [runA_bind, runA_bind, runA_underlying, und36]
  dsimp only [Option.map]
  rw [show runA Tryz.prog lim (Pure.pure true : Sem Bool) σ = some (true, σ) from rfl]
  dsimp only
  rw [if_pos rfl, runA_bind, runA_sizeOf, hi]
  dsimp only [Option.map]
  rw [hs, runA_bind]
  unfold loadCells
  rw [loadCells_of h 6 0 #[] (by show 0 + 0 + 6 ≤ 6; omega)]
  rfl
/-- The bytes as a string. -/
def sB (l : List UInt8) : ByteArray := ⟨l.toArray⟩
theorem und37 : Tryz.prog.underlying 37 = some (.slice 5) := by kernel_rfl
theorem und9 : Tryz.prog.underlying 9 = some .string := by kernel_rfl
theorem strB (l : List UInt8) : strL Tryz.prog 37 9 (bys l) 1 = some (.string (sB l)) := by
  unfold strL
  rw [und37, und9]
  dsimp only
  rw [und5, bytesOf_bys]
  rfl
theorem sB_eq (l m : List UInt8) : ((sB l).toList == (sB m).toList) = (l == m) := by
  rw [ByteArray.toList_eq, ByteArray.toList_eq]
  rfl

/-! ## A round -/

theorem r9a (e a b c d s x1 x2 x3 x4 x5 x6 i : Int) (q q' v : List Value) (sb so : ByteArray) (σ σ1 : AS) (w : Nat → Value) (h1 : decide (i ≤ 128) = true)
    (a1 : ∀ σ, (envT tT).ov 31 [L q 128 1 1, L q' 128 1 1, .int .i64 i] 0 σ = some (.tuple #[L v 128 1 1, .int .i64 0], σ)) (a2 : ∀ σ, (envT tT).ov 25 [L v 128 1 1] 0 σ = some (.tuple #[sup x1 x2 x3 x4 x5 x6, .int .i64 0], σ))
    (st : (σ.push (.cells z36 true (none, some 36) none)).setCells 0 ⟨σ.next, 0, none⟩ (supL x1 x2 x3 x4 x5 x6) 0 = some σ1) (l1 : strL Tryz.prog 37 9 v 1 = some (.string sb)) (l2 : strL Tryz.prog 37 9 q 1 = some (.string so)) (c1 : (sb.toList == so.toList) = true)
    (g1 : runA Tryz.prog 0 (loadVar 36 ⟨σ.next, 0, none⟩) σ1 = some (sup x1 x2 x3 x4 x5 x6, σ1)) (g2 : runA Tryz.prog 0 (loadVar 36 ⟨11, 0, none⟩) σ1 = some (sup e a b c d s, σ1))
    (n1 : runA Tryz.prog 0 (binOp .neq 36 (sup x1 x2 x3 x4 x5 x6) (sup e a b c d s)) σ1 = some (.bool false, σ1)) :
    ∃ w', runW Tryz.prog (envT tT) 0 (.code ⟨9, none⟩ body9 (T9 q q' i w) []) σ = some (.done .normal (T9 q q' (IntKind.i64.wrap (i + 1)) w') [], σ1) :=
  seg 300 [(2, .br true), (3, .ov (.tuple #[L v 128 1 1, .int .i64 0])), (6, .ov (.tuple #[sup x1 x2 x3 x4 x5 x6, .int .i64 0])), (4, .sem undef σ1), (5, .is (.string sb)), (1, .is (.string so)), (2, .br true), (3, .sem (sup x1 x2 x3 x4 x5 x6) σ1), (0, .sem (sup e a b c d s) σ1), (0, .sem (.bool false) σ1)] (m := 94) (js := [5, 6, 7, 9, 11]) (vs := [.pointer (some ⟨11, 0, none⟩), .pointer (some ⟨12, 0, none⟩), L q 128 1 1, L q' 128 1 1, .int .i64 (IntKind.i64.wrap (i + 1))])
    (ob := [_, _, _, _, _, _, _, _, _, _]) (by kernel_rfl) ⟨h1, a1, a2, st, l1, l2, c1, g1, g2, n1⟩
theorem r9b (e a b c d s x1 x2 x3 x4 x5 x6 i : Int) (q q' v : List Value) (sb so sf : ByteArray) (σ σ1 : AS) (w : Nat → Value) (h1 : decide (i ≤ 128) = true)
    (a1 : ∀ σ, (envT tT).ov 31 [L q 128 1 1, L q' 128 1 1, .int .i64 i] 0 σ = some (.tuple #[L v 128 1 1, .int .i64 0], σ)) (a2 : ∀ σ, (envT tT).ov 25 [L v 128 1 1] 0 σ = some (.tuple #[sup x1 x2 x3 x4 x5 x6, .int .i64 0], σ))
    (st : (σ.push (.cells z36 true (none, some 36) none)).setCells 0 ⟨σ.next, 0, none⟩ (supL x1 x2 x3 x4 x5 x6) 0 = some σ1) (l1 : strL Tryz.prog 37 9 v 1 = some (.string sb)) (l2 : strL Tryz.prog 37 9 q 1 = some (.string so)) (c1 : (sb.toList == so.toList) = false)
    (l3 : strL Tryz.prog 37 9 q' 1 = some (.string sf)) (c2 : (sb.toList == sf.toList) = true)
    (g1 : runA Tryz.prog 0 (loadVar 36 ⟨σ.next, 0, none⟩) σ1 = some (sup x1 x2 x3 x4 x5 x6, σ1)) (g2 : runA Tryz.prog 0 (loadVar 36 ⟨12, 0, none⟩) σ1 = some (sup e a b c d s, σ1))
    (n1 : runA Tryz.prog 0 (binOp .neq 36 (sup x1 x2 x3 x4 x5 x6) (sup e a b c d s)) σ1 = some (.bool false, σ1)) :
    ∃ w', runW Tryz.prog (envT tT) 0 (.code ⟨9, none⟩ body9 (T9 q q' i w) []) σ = some (.done .normal (T9 q q' (IntKind.i64.wrap (i + 1)) w') [], σ1) :=
  seg 300 [(2, .br true), (3, .ov (.tuple #[L v 128 1 1, .int .i64 0])), (6, .ov (.tuple #[sup x1 x2 x3 x4 x5 x6, .int .i64 0])), (4, .sem undef σ1), (5, .is (.string sb)), (1, .is (.string so)), (2, .br false), (1, .is (.string sb)), (1, .is (.string sf)), (2, .br true), (3, .sem (sup x1 x2 x3 x4 x5 x6) σ1), (0, .sem (sup e a b c d s) σ1), (0, .sem (.bool false) σ1)] (m := 94) (js := [5, 6, 7, 9, 11]) (vs := [.pointer (some ⟨11, 0, none⟩), .pointer (some ⟨12, 0, none⟩), L q 128 1 1, L q' 128 1 1, .int .i64 (IntKind.i64.wrap (i + 1))])
    (ob := [_, _, _, _, _, _, _, _, _, _, _, _, _]) (by kernel_rfl) ⟨h1, a1, a2, st, l1, l2, c1, l1, l3, c2, g1, g2, n1⟩
theorem r9c (x1 x2 x3 x4 x5 x6 i r : Int) (q q' v : List Value) (sb so sf : ByteArray) (σ σ1 : AS) (w : Nat → Value) (h1 : decide (i ≤ 128) = true)
    (a1 : ∀ σ, (envT tT).ov 31 [L q 128 1 1, L q' 128 1 1, .int .i64 i] 0 σ = some (.tuple #[L v 128 1 1, .int .i64 0], σ)) (a2 : ∀ σ, (envT tT).ov 25 [L v 128 1 1] 0 σ = some (.tuple #[sup x1 x2 x3 x4 x5 x6, .int .i64 r], σ))
    (st : (σ.push (.cells z36 true (none, some 36) none)).setCells 0 ⟨σ.next, 0, none⟩ (supL x1 x2 x3 x4 x5 x6) 0 = some σ1) (l1 : strL Tryz.prog 37 9 v 1 = some (.string sb)) (l2 : strL Tryz.prog 37 9 q 1 = some (.string so)) (c1 : (sb.toList == so.toList) = false)
    (l3 : strL Tryz.prog 37 9 q' 1 = some (.string sf)) (c2 : (sb.toList == sf.toList) = false) (c3 : (r == 0) = false) :
    ∃ w', runW Tryz.prog (envT tT) 0 (.code ⟨9, none⟩ body9 (T9 q q' i w) []) σ = some (.done .normal (T9 q q' (IntKind.i64.wrap (i + 1)) w') [], σ1) :=
  seg 300 [(2, .br true), (3, .ov (.tuple #[L v 128 1 1, .int .i64 0])), (6, .ov (.tuple #[sup x1 x2 x3 x4 x5 x6, .int .i64 r])), (4, .sem undef σ1), (5, .is (.string sb)), (1, .is (.string so)), (2, .br false), (1, .is (.string sb)), (1, .is (.string sf)), (2, .br false), (3, .br false)] (m := 94) (js := [5, 6, 7, 9, 11]) (vs := [.pointer (some ⟨11, 0, none⟩), .pointer (some ⟨12, 0, none⟩), L q 128 1 1, L q' 128 1 1, .int .i64 (IntKind.i64.wrap (i + 1))])
    (ob := [_, _, _, _, _, _, _, _, _, _, _]) (by kernel_rfl) ⟨h1, a1, a2, st, l1, l2, c1, l1, l3, c2, c3⟩
theorem end9 (q q' : List Value) (i : Int) (σ : AS) (w : Nat → Value) (h1 : decide (i ≤ 128) = false) :
    ∃ w', runW Tryz.prog (envT tT) 0 (.code ⟨9, none⟩ body9 (T9 q q' i w) []) σ = some (.done (.exit 0) (fillT 94 [] w') [], σ) :=
  seg 300 [(2, .br false)] (m := 94) (js := []) (vs := []) (ob := [decide (i ≤ 128) = false]) (by kernel_rfl) h1

theorem ovT_31 (l m : List UInt8) (k g g' : Nat) (hl : l.length = 128) (hm : m.length = 128) (hk : k ≤ 128) (hg : g ≤ 1) (hg' : g' ≤ 1) (lim : Nat) (σ : AS) :
    (envT tT).ov 31 [L (bys l) 128 1 g, L (bys m) 128 1 g', .int .i64 (k : Int)] lim σ = some (.tuple #[L (bys (torn l m k)) 128 1 1, .int .i64 0], σ) := by
  refine envK rfl rfl (show [strip (L (bys l) 128 1 g), strip (L (bys m) 128 1 g'), strip (.int .i64 (k : Int))] = [L (bys l) l.length 1 g, L (bys m) m.length 1 g', .int .i64 (k : Int)] by rw [strip_le hg, strip_le hg', hl, hm]; rfl) ?_ ?_
  · show (flatB 100 (L (bys l) l.length 1 g) && (flatB 100 (L (bys m) m.length 1 g') && (flatB 100 (.int .i64 (k : Int)) && true))) = true
    rw [flat_L hg, flat_L hg']; rfl
  · show k31 [L (bys l) l.length 1 g, L (bys m) m.length 1 g', .int .i64 (k : Int)] = _
    unfold k31
    dsimp only
    rw [asL_L', asL_L', asB_L hg (by omega), asB_L hg' (by omega)]
    dsimp only
    rw [hl, hm, decide_eq_true (show (0 : Int) ≤ (k : Int) by omega), decide_eq_true (show (k : Int) ≤ 128 by omega), Int.toNat_natCast]
    rfl
theorem ovT_25 (l : List UInt8) (n g : Nat) (hn : l.length = n) (hg : g ≤ 1) (hl : n < 1000000) (lim : Nat) (σ : AS) : (envT tT).ov 25 [L (bys l) n 1 g] lim σ = some (decO l, σ) := by
  subst hn
  refine envK rfl rfl (show [strip (L (bys l) l.length 1 g)] = [L (bys l) l.length 1 g] by rw [strip_le hg]) (flat_args1 hg) ?_
  show k25 [L (bys l) l.length 1 g] = _
  unfold k25
  dsimp only
  rw [asB_L hg (by omega)]
  dsimp only
  rw [show Nat.blt l.length 1000000 = true from blt_iff.2 hl]
  rfl
theorem ovT_22 (e a b c d s : Int) (s0 : 0 ≤ s) (s1 : s < 18446744073709551616) (lim : Nat) (σ : AS) : (envT tT).ov 22 [sup e a b c d s] lim σ = some (encV e a b c d s, σ) := by
  refine envK rfl rfl (show _ = [sup e a b c d s] from rfl) rfl ?_
  unfold tT t13
  rw [pfT_ne rfl, pfT_ne rfl, pfT_eq]
  show (bif decide (0 ≤ s) && decide (s < 18446744073709551616) then some (encV e a b c d s) else none) = _
  rw [decide_eq_true s0, decide_eq_true s1]
  rfl
theorem loop9 (e a b c d s e' a' b' c' d' s' : Nat) (h1 : 1 ≤ e) (h2 : e ≤ 1099511627776) (hc : chk a b c d s = true) (hs : s < 18446744073709551616) (h1' : 1 ≤ e') (h2' : e' ≤ 1099511627776) (hc' : chk a' b' c' d' s' = true) (hs' : s' < 18446744073709551616) (hne : e ≠ e') :
    ∀ (k i : Nat) (w : Nat → Value) (σ : AS), i + k = 129 → σ.get 11 = some (bx 36 e a b c d s) → σ.get 12 = some (bx 36 e' a' b' c' d' s') → 13 ≤ σ.next →
    ∃ w' σ', runW Tryz.prog (envT tT) 0 (.code ⟨9, none⟩ (.loop body9) (T9 (bys (encL e a b c d s)) (bys (encL e' a' b' c' d' s')) i w) []) σ = some (.done (.exit 0) (fillT 94 [] w') [], σ') := by
  intro k
  induction k with
  | zero =>
    intro i w σ hi _ _ _
    obtain ⟨w', h⟩ := end9 (bys (encL e a b c d s)) (bys (encL e' a' b' c' d' s')) i σ w (decide_eq_false (by omega))
    exact ⟨w', σ, loop_out (by intro h; cases h) h⟩
  | succ k ih =>
    intro i w σ hi g5 g6 hn
    have hE := encL_len e a b c d s
    have hE' := encL_len e' a' b' c' d' s'
    have ht := torn_len (k := i) hE hE' (by omega)
    have i1 : decide ((i : Int) ≤ 128) = true := decide_eq_true (by omega)
    have a1 := ovT_31 (encL e a b c d s) (encL e' a' b' c' d' s') i 1 1 hE hE' (by omega) (by omega) (by omega) 0
    have a2 := ovT_25 (torn (encL e a b c d s) (encL e' a' b' c' d' s') i) 128 1 ht (by omega) (by omega) 0
    have l1 := strB (torn (encL e a b c d s) (encL e' a' b' c' d' s') i)
    have l2 := strB (encL e a b c d s)
    have l3 := strB (encL e' a' b' c' d' s')
    have hw : IntKind.i64.wrap ((i : Int) + 1) = ((i + 1 : Nat) : Int) := by rw [wrap64 (by omega) (by omega)]; rfl
    by_cases q1 : torn (encL e a b c d s) (encL e' a' b' c' d' s') i = encL e a b c d s
    · rw [q1] at a1 a2 l1
      rw [dec_enc e a b c d s h1 h2 hc hs] at a2
      have f1 : (σ.push (bx 36 e a b c d s)).get 11 = some (bx 36 e a b c d s) := by rw [get_push_ne (by omega), g5]
      have f2 : (σ.push (bx 36 e a b c d s)).get 12 = some (bx 36 e' a' b' c' d' s') := by rw [get_push_ne (by omega), g6]
      obtain ⟨w1, r⟩ := r9a e a b c d s e a b c d s i _ _ _ _ _ σ (σ.push (bx 36 e a b c d s)) w i1 a1 a2 (store36 σ _ _ _ _ _ _) l1 l2 (beq_self_eq_true _) (load36 (get_push_eq rfl) 0) (load36 f1 0) (by rw [neSup 36 (.inl rfl), eqS_self]; rfl)
      rw [hw] at r
      obtain ⟨w', σ', r'⟩ := ih (i + 1) w1 _ (by omega) f1 f2 (by rw [next_push]; omega)
      exact ⟨w', σ', loop_next r r'⟩
    · have c1 : ((sB (torn (encL e a b c d s) (encL e' a' b' c' d' s') i)).toList == (sB (encL e a b c d s)).toList) = false := by rw [sB_eq]; exact beq_eq_false_iff_ne.2 q1
      by_cases q2 : torn (encL e a b c d s) (encL e' a' b' c' d' s') i = encL e' a' b' c' d' s'
      · rw [q2] at a1 a2 l1 c1
        rw [dec_enc e' a' b' c' d' s' h1' h2' hc' hs'] at a2
        have f1 : (σ.push (bx 36 e' a' b' c' d' s')).get 11 = some (bx 36 e a b c d s) := by rw [get_push_ne (by omega), g5]
        have f2 : (σ.push (bx 36 e' a' b' c' d' s')).get 12 = some (bx 36 e' a' b' c' d' s') := by rw [get_push_ne (by omega), g6]
        obtain ⟨w1, r⟩ := r9b e' a' b' c' d' s' e' a' b' c' d' s' i _ _ _ _ _ _ σ (σ.push (bx 36 e' a' b' c' d' s')) w i1 a1 a2 (store36 σ _ _ _ _ _ _) l1 l2 c1 l3 (beq_self_eq_true _) (load36 (get_push_eq rfl) 0) (load36 f2 0) (by rw [neSup 36 (.inl rfl), eqS_self]; rfl)
        rw [hw] at r
        obtain ⟨w', σ', r'⟩ := ih (i + 1) w1 _ (by omega) f1 f2 (by rw [next_push]; omega)
        exact ⟨w', σ', loop_next r r'⟩
      · have c2 : ((sB (torn (encL e a b c d s) (encL e' a' b' c' d' s') i)).toList == (sB (encL e' a' b' c' d' s')).toList) = false := by rw [sB_eq]; exact beq_eq_false_iff_ne.2 q2
        obtain ⟨r0, hr0, hd⟩ := torn_law e a b c d s e' a' b' c' d' s' i (by omega) (by omega) hne (by omega) q1 q2
        rw [show decO (torn (encL e a b c d s) (encL e' a' b' c' d' s') i) = err r0 from hd] at a2
        have f1 : (σ.push (bx 36 0 0 0 0 0 0)).get 11 = some (bx 36 e a b c d s) := by rw [get_push_ne (by omega), g5]
        have f2 : (σ.push (bx 36 0 0 0 0 0 0)).get 12 = some (bx 36 e' a' b' c' d' s') := by rw [get_push_ne (by omega), g6]
        obtain ⟨w1, r⟩ := r9c 0 0 0 0 0 0 i r0 _ _ _ _ _ _ σ (σ.push (bx 36 0 0 0 0 0 0)) w i1 a1 a2 (store36 σ _ _ _ _ _ _) l1 l2 c1 l3 c2 (beq_eq_false_iff_ne.2 hr0)
        rw [hw] at r
        obtain ⟨w', σ', r'⟩ := ih (i + 1) w1 _ (by omega) f1 f2 (by rw [next_push]; omega)
        exact ⟨w', σ', loop_next r r'⟩

/-! ## The law -/

def drL (e l s c t sd : Int) : List Value := [.int .u64 e, .int .u16 l, .int .u16 s, .int .u16 c, .int .u8 t, .int .u64 sd]
def S9 (x1 x2 x3 x4 x5 x6 z1 z2 z3 z4 z5 z6 e a b c d s e' a' b' c' d' s' : Int) : AS := ((((base0 9 tabs).push (.cells (drL x1 x2 x3 x4 x5 x6) true (none, some 61) none)).push (.cells (drL z1 z2 z3 z4 z5 z6) true (none, some 61) none)).push (bx 36 e a b c d s)).push (bx 36 e' a' b' c' d' s')
def w9a (x1 x2 x3 x4 x5 x6 z1 z2 z3 z4 z5 z6 e a b c d s e' a' b' c' d' s' : Int) (q q' : List Value) : Nat → Value := fun j => Go.Va.look [(0, .agg ⟨[.int .u64 x1, .int .u16 x2, .int .u16 x3, .int .u16 x4, .int .u8 x5, .int .u64 x6]⟩), (1, .agg ⟨[.int .u64 z1, .int .u16 z2, .int .u16 z3, .int .u16 z4, .int .u8 z5, .int .u64 z6]⟩), (2, .pointer (some ⟨9, 0, none⟩)), (3, .pointer (some ⟨10, 0, none⟩)), (4, .bool false), (8, .int .i64 0), (10, .int .i64 0), (16, .agg ⟨[.int .u64 x1, .int .u16 x2, .int .u16 x3, .int .u16 x4, .int .u8 x5, .int .u64 x6]⟩), (17, .agg ⟨[.int .i64 e, .int .i64 a, .int .i64 b, .int .i64 c, .int .i64 d, .int .u64 s]⟩), (18, .agg ⟨[.int .u64 z1, .int .u16 z2, .int .u16 z3, .int .u16 z4, .int .u8 z5, .int .u64 z6]⟩), (19, .agg ⟨[.int .i64 e', .int .i64 a', .int .i64 b', .int .i64 c', .int .i64 d', .int .u64 s']⟩), (20, .pointer (some ⟨11, 0, none⟩)), (21, .int .i64 e), (22, .pointer (some ⟨12, 0, none⟩)), (23, .int .i64 e'), (24, .bool (e == e')), (30, .tuple ⟨[(L (q) 128 1 1), .int .i64 0]⟩), (31, .agg ⟨[.int .i64 e, .int .i64 a, .int .i64 b, .int .i64 c, .int .i64 d, .int .u64 s]⟩), (32, .tuple ⟨[(L (q) 128 1 1), .int .i64 0]⟩), (33, (L (q) 128 1 1)), (34, .int .i64 0), (35, .tuple ⟨[(L (q') 128 1 1), .int .i64 0]⟩), (36, .agg ⟨[.int .i64 e', .int .i64 a', .int .i64 b', .int .i64 c', .int .i64 d', .int .u64 s']⟩), (37, .tuple ⟨[(L (q') 128 1 1), .int .i64 0]⟩), (38, (L (q') 128 1 1)), (39, .int .i64 0), (40, .int .i64 0), (41, .bool (0 != 0)), (42, .bool (0 != 0)), (43, .int .i64 0), (44, .bool (0 != 0)), (45, .bool (0 != 0))] j undef
def w9b (x1 x2 x3 x4 x5 x6 z1 z2 z3 z4 z5 z6 e a b c d s e' a' b' c' d' s' E : Int) (q q' : List Value) : Nat → Value := fun j => Go.Va.look [(0, .agg ⟨[.int .u64 x1, .int .u16 x2, .int .u16 x3, .int .u16 x4, .int .u8 x5, .int .u64 x6]⟩), (1, .agg ⟨[.int .u64 z1, .int .u16 z2, .int .u16 z3, .int .u16 z4, .int .u8 z5, .int .u64 z6]⟩), (2, .pointer (some ⟨9, 0, none⟩)), (3, .pointer (some ⟨10, 0, none⟩)), (4, .bool false), (8, .int .i64 0), (10, .int .i64 0), (16, .agg ⟨[.int .u64 x1, .int .u16 x2, .int .u16 x3, .int .u16 x4, .int .u8 x5, .int .u64 x6]⟩), (17, .agg ⟨[.int .i64 e, .int .i64 a, .int .i64 b, .int .i64 c, .int .i64 d, .int .u64 s]⟩), (18, .agg ⟨[.int .u64 z1, .int .u16 z2, .int .u16 z3, .int .u16 z4, .int .u8 z5, .int .u64 z6]⟩), (19, .agg ⟨[.int .i64 e', .int .i64 a', .int .i64 b', .int .i64 c', .int .i64 d', .int .u64 s']⟩), (20, .pointer (some ⟨11, 0, none⟩)), (21, .int .i64 e), (22, .pointer (some ⟨12, 0, none⟩)), (23, .int .i64 e'), (24, .bool (e == e')), (25, .pointer (some ⟨12, 0, none⟩)), (26, .int .i64 e'), (27, .int .i64 (e'.tmod 1099511627776)), (28, .int .i64 E), (29, .pointer (some ⟨12, 0, none⟩)), (30, .tuple ⟨[(L (q) 128 1 1), .int .i64 0]⟩), (31, .agg ⟨[.int .i64 e, .int .i64 a, .int .i64 b, .int .i64 c, .int .i64 d, .int .u64 s]⟩), (32, .tuple ⟨[(L (q) 128 1 1), .int .i64 0]⟩), (33, (L (q) 128 1 1)), (34, .int .i64 0), (35, .tuple ⟨[(L (q') 128 1 1), .int .i64 0]⟩), (36, .agg ⟨[.int .i64 E, .int .i64 a', .int .i64 b', .int .i64 c', .int .i64 d', .int .u64 s']⟩), (37, .tuple ⟨[(L (q') 128 1 1), .int .i64 0]⟩), (38, (L (q') 128 1 1)), (39, .int .i64 0), (40, .int .i64 0), (41, .bool (0 != 0)), (42, .bool (0 != 0)), (43, .int .i64 0), (44, .bool (0 != 0)), (45, .bool (0 != 0))] j undef
theorem law9_a (x1 x2 x3 x4 x5 x6 z1 z2 z3 z4 z5 z6 e a b c d s e' a' b' c' d' s' : Int) (q q' : List Value) (w' : Nat → Value) (σ' : AS) (m1 : ∀ σ, (envT tT).ov 30 [drf x1 x2 x3 x4 x5 x6] 0 σ = some (sup e a b c d s, σ)) (m2 : ∀ σ, (envT tT).ov 30 [drf z1 z2 z3 z4 z5 z6] 0 σ = some (sup e' a' b' c' d' s', σ)) (c1 : (e == e') = false)
    (p1 : ∀ σ, (envT tT).ov 22 [sup e a b c d s] 0 σ = some (.tuple #[L q 128 1 1, .int .i64 0], σ)) (p2 : ∀ σ, (envT tT).ov 22 [sup e' a' b' c' d' s'] 0 σ = some (.tuple #[L q' 128 1 1, .int .i64 0], σ))
    (lo : runW Tryz.prog (envT tT) 0 (.code ⟨9, none⟩ (.loop body9) (T9 q q' 0 (w9a x1 x2 x3 x4 x5 x6 z1 z2 z3 z4 z5 z6 e a b c d s e' a' b' c' d' s' q q')) []) (S9 x1 x2 x3 x4 x5 x6 z1 z2 z3 z4 z5 z6 e a b c d s e' a' b' c' d' s') = some (.done (.exit 0) (fillT 94 [] w') [], σ')) :
    Pure Tryz.prog 9 tabs 9 [drf x1 x2 x3 x4 x5 x6, drf z1 z2 z3 z4 z5 z6] (.bool true) :=
  pureT tT_ok (n := 1000) (v := .bool true) [(4, .ov (sup e a b c d s)), (1, .ov (sup e' a' b' c' d' s')), (9, .br false), (1, .ov (.tuple #[L q 128 1 1, .int .i64 0])), (6, .ov (.tuple #[L q' 128 1 1, .int .i64 0])), (13, .skip (.done (.exit 0) (fillT 94 [] w') []) σ')] [_, _, _, _, _, _] (by kernel_rfl) ⟨m1, m2, c1, p1, p2, lo⟩ rfl (.bool _)
theorem law9_b (x1 x2 x3 x4 x5 x6 z1 z2 z3 z4 z5 z6 e a b c d s e' a' b' c' d' s' E : Int) (q q' : List Value) (w' : Nat → Value) (σ' : AS) (m1 : ∀ σ, (envT tT).ov 30 [drf x1 x2 x3 x4 x5 x6] 0 σ = some (sup e a b c d s, σ)) (m2 : ∀ σ, (envT tT).ov 30 [drf z1 z2 z3 z4 z5 z6] 0 σ = some (sup e' a' b' c' d' s', σ)) (c1 : (e == e') = true)
    (hE : Value.int .i64 (IntKind.i64.wrap (1 + e'.tmod 1099511627776)) = .int .i64 E)
    (p1 : ∀ σ, (envT tT).ov 22 [sup e a b c d s] 0 σ = some (.tuple #[L q 128 1 1, .int .i64 0], σ)) (p2 : ∀ σ, (envT tT).ov 22 [sup E a' b' c' d' s'] 0 σ = some (.tuple #[L q' 128 1 1, .int .i64 0], σ))
    (lo : runW Tryz.prog (envT tT) 0 (.code ⟨9, none⟩ (.loop body9) (T9 q q' 0 (w9b x1 x2 x3 x4 x5 x6 z1 z2 z3 z4 z5 z6 e a b c d s e' a' b' c' d' s' E q q')) []) (S9 x1 x2 x3 x4 x5 x6 z1 z2 z3 z4 z5 z6 e a b c d s E a' b' c' d' s') = some (.done (.exit 0) (fillT 94 [] w') [], σ')) :
    Pure Tryz.prog 9 tabs 9 [drf x1 x2 x3 x4 x5 x6, drf z1 z2 z3 z4 z5 z6] (.bool true) :=
  pureT tT_ok (n := 1000) (v := .bool true) [(4, .ov (sup e a b c d s)), (1, .ov (sup e' a' b' c' d' s')), (9, .br true), (3, .eq (.int .i64 E)), (3, .ov (.tuple #[L q 128 1 1, .int .i64 0])), (6, .ov (.tuple #[L q' 128 1 1, .int .i64 0])), (13, .skip (.done (.exit 0) (fillT 94 [] w') []) σ')] [_, _, _, _, _, _, _] (by kernel_rfl) ⟨m1, m2, c1, hE, p1, p2, lo⟩ rfl (.bool _)

end Go.Proofs.YtcjjlajpbakaoaaGreatDoor
