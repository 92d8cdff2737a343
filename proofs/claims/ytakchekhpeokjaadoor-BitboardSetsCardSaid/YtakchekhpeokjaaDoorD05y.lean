/-
  BITBOARD (chapter 05): slices.IsSorted; an environment in which List is not replaced.
-/
import Derived.Test.YtakchekhpeokjaaDoorD05x
namespace Go.Proofs.YtakchekhpeokjaaDoor
open Go.Va

noncomputable def body38 : Code := codeOf Tryd.prog 38 [.r, .l, .r, .b, .b]
def T38 (v : Value) (i : Int) (w : Nat → Value) : List Value := fillT 21 [(0, v), (3, .int .i64 i)] w
theorem next38 (c : List Value) (n g k : Nat) (x y : Int) (w : Nat → Value) (h1 : k + 1 < n) (hx : c[k + 1]? = some (.int .i64 x)) (hy : c[k]? = some (.int .i64 y)) (hxy : ¬ x < y) (hn : n < 9223372036854775807) :
    ∃ w', runW Tryd.prog env7 0 (.code ⟨38, none⟩ body38 (T38 (L c n 1 g) ((k + 1 : Nat) : Int) w) []) (base0 4 tabs) = some (.done .normal (T38 (L c n 1 g) (k : Int) w') [], base0 4 tabs) := by
  have e : IntKind.i64.wrap (((k + 1 : Nat) : Int) - 1) = (k : Int) := by rw [wrap64 (by omega) (by omega)]; omega
  have h := seg (P := Tryd.prog) (E := env7) (lim := 0) (k := .code ⟨38, none⟩ body38 (T38 (L c n 1 g) ((k + 1 : Nat) : Int) w) []) (σ := base0 4 tabs) 100 [(1, .br true), (3, .ok), (0, .is (.int .i64 x)), (3, .ok), (0, .is (.int .i64 y)), (7, .br false), (6, .br false)] (m := 21) (js := [0, 3]) (e := .normal) (ds := []) (σ' := base0 4 tabs)
    (vs := [L c n 1 g, .int .i64 (IntKind.i64.wrap (((k + 1 : Nat) : Int) - 1))])
    (ob := [decide (((k + 1 : Nat) : Int) > 0) = true, (0 : Int) ≤ ((k + 1 : Nat) : Int) ∧ ((k + 1 : Nat) : Int) < n, c[(k + 1) * 1]? = some (.int .i64 x),
      (0 : Int) ≤ IntKind.i64.wrap (((k + 1 : Nat) : Int) - 1) ∧ IntKind.i64.wrap (((k + 1 : Nat) : Int) - 1) < n, c[(IntKind.i64.wrap (((k + 1 : Nat) : Int) - 1)).toNat * 1]? = some (.int .i64 y), (x != x) = false, decide (x < y) = false]) (by kernel_rfl)
    ⟨decide_eq_true (by omega), ⟨by omega, by omega⟩, by rw [Nat.mul_one]; exact hx, by rw [e]; omega, by rw [e, Nat.mul_one, Int.toNat_natCast]; exact hy, bne_self_eq_false x, decide_eq_false hxy⟩
  rw [e] at h
  exact h
theorem end38 (v : Value) (w : Nat → Value) :
    ∃ w', runW Tryd.prog env7 0 (.code ⟨38, none⟩ body38 (T38 v 0 w) []) (base0 4 tabs) = some (.done (.exit 0) (fillT 21 [] w') [], base0 4 tabs) :=
  seg 100 [] (m := 21) (js := []) (vs := []) (ob := []) (by kernel_rfl) trivial
theorem loop38 (l : List Int) (n g : Nat) (hl : l.length = n) (hn : n < 9223372036854775807) (hs : l.Pairwise (· < ·)) : ∀ (k : Nat) (w : Nat → Value), k < n →
    ∃ w', runW Tryd.prog env7 0 (.code ⟨38, none⟩ (.loop body38) (T38 (L (zs l) n 1 g) k w) []) (base0 4 tabs) = some (.done (.exit 0) (fillT 21 [] w') [], base0 4 tabs) := by
  intro k
  induction k with
  | zero =>
    intro w hk
    obtain ⟨w', h⟩ := end38 (L (zs l) n 1 g) w
    exact ⟨w', loop_out (by intro h; cases h) h⟩
  | succ k ih =>
    intro w hk
    have hx : (zs l)[k + 1]? = some (.int .i64 l[k + 1]) := by rw [zs_get, List.getElem?_eq_getElem (by omega)]; rfl
    have hy : (zs l)[k]? = some (.int .i64 l[k]) := by rw [zs_get, List.getElem?_eq_getElem (by omega)]; rfl
    have := List.pairwise_iff_getElem.1 hs k (k + 1) (by omega) (by omega) (by omega)
    obtain ⟨w1, h1⟩ := next38 (zs l) n g k l[k + 1] l[k] w (by omega) hx hy (by omega) hn
    obtain ⟨w', h2⟩ := ih w1 (by omega)
    exact ⟨w', loop_next h1 h2⟩
theorem p38_nil : Pure Tryd.prog 4 tabs 38 [.slice none 0 0] (.bool true) :=
  pureT t7_ok fns7 (n := 100) (v := .bool true) [] [] (by kernel_rfl) trivial rfl (.bool _)
theorem p38_zero (c : List Value) (g : Nat) : Pure Tryd.prog 4 tabs 38 [L c 0 1 g] (.bool true) :=
  pureT t7_ok fns7 (n := 100) (v := .bool true) [] [] (by kernel_rfl) trivial rfl (.bool _)
theorem p38_l (l : List Int) (n g : Nat) (hl : l.length = n + 1) (hn : n + 1 < 9223372036854775807) (hs : l.Pairwise (· < ·)) : Pure Tryd.prog 4 tabs 38 [L (zs l) (n + 1) 1 g] (.bool true) := by
  have e : IntKind.i64.wrap (((n + 1 : Nat) : Int) - 1) = (n : Int) := by rw [wrap64 (by omega) (by omega)]; omega
  obtain ⟨w', h⟩ := loop38 l (n + 1) g hl hn hs n (fun j => Go.Va.look [(2, .bool false), (4, L (zs l) (n + 1) 1 g), (5, .int .i64 ((n + 1 : Nat) : Int)), (6, .int .i64 n)] j undef) (by omega)
  rw [← e] at h
  exact pureT t7_ok fns7 (n := 100) (v := .bool true) [(5, .skip (.done (.exit 0) (fillT 21 [] w') []) (base0 4 tabs))] [_] (by kernel_rfl) h rfl (.bool _)
open Classical in
noncomputable def k38 : List Value → Option Value
  | [a] => match zl a with
    | some l => if l.Pairwise (· < ·) then some (.bool true) else none
    | none => none
  | _ => none
theorem p38 : KOk Tryd.prog 4 tabs 38 k38 := by
  intro args v h
  unfold k38 at h
  split at h
  · rename_i a
    split at h
    · rename_i l hl
      split at h
      · rename_i hs
        cases h
        rcases zl_spec hl with ⟨ea, el, _⟩ | ⟨g, _, ea, hb⟩
        · subst ea el; exact p38_nil
        · subst ea
          cases hlen : l.length with
          | zero => exact p38_zero _ g
          | succ n => exact p38_l l n g hlen (by omega) hs
      · cases h
    · cases h
  · cases h
theorem k38_eq {v : Value} {l : List Int} (h : IsZ v l) (hs : l.Pairwise (· < ·)) : k38 [v] = some (.bool true) := by
  unfold k38; dsimp only; rw [zl_eq h]; dsimp only; rw [if_pos hs]

/-! ## The environment -/

def k21 : List Value → Option Value
  | [.int .u64 s] => bif inU s then some (lowV (BitVec.ofInt 64 s)) else none
  | _ => none
def k37 : List Value → Option Value
  | [.int .u64 s] => bif inU s then some (.int .i64 ((bitsL (BitVec.ofInt 64 s)).length : Int)) else none
  | _ => none
theorem k21_u (x : BitVec 64) : k21 [.int .u64 (u x)] = some (lowV x) := by
  unfold k21; dsimp only
  rw [inU_u, cond_true, show BitVec.ofInt 64 (u x) = x from ofInt_u x]
theorem k37_u (x : BitVec 64) : k37 [.int .u64 (u x)] = some (.int .i64 ((bitsL x).length : Int)) := by
  unfold k37; dsimp only
  rw [inU_u, cond_true, show BitVec.ofInt 64 (u x) = x from ofInt_u x]
theorem KOk_u {f : FuncId} {k : List Value → Option Value} {g : BitVec 64 → Value} (hp : ∀ x, Pure Tryd.prog 4 tabs f [.int .u64 (u x)] (g x))
    (hk : ∀ args v, k args = some v → ∃ s, args = [.int .u64 s] ∧ inU s = true ∧ v = g (BitVec.ofInt 64 s)) : KOk Tryd.prog 4 tabs f k := by
  intro args v h
  obtain ⟨s, rfl, hs, rfl⟩ := hk args v h
  have := hp (BitVec.ofInt 64 s)
  rw [← ofInt_inU hs] at this
  exact this
theorem p21k : KOk Tryd.prog 4 tabs 21 k21 := KOk_u p21 fun args v h => by
  unfold k21 at h
  split at h
  · rename_i s
    cases hs : inU s with
    | false => rw [hs] at h; cases h
    | true => rw [hs] at h; cases h; exact ⟨s, rfl, hs, rfl⟩
  · cases h
theorem p37k : KOk Tryd.prog 4 tabs 37 k37 := KOk_u p37 fun args v h => by
  unfold k37 at h
  split at h
  · rename_i s
    cases hs : inU s with
    | false => rw [hs] at h; cases h
    | true => rw [hs] at h; cases h; exact ⟨s, rfl, hs, rfl⟩
  · cases h
/-- List is not replaced here: its answer may grow. -/
noncomputable def t8 : Ktab := (16, k16) :: (21, k21) :: (36, k36) :: (37, k37) :: (38, k38) :: (39, k39) :: t6
theorem t8_ok : TOk Tryd.prog 4 tabs t8 := ⟨p16, p21k, p36, p37k, p38, p39, t6_ok⟩
noncomputable def env8 : Env := envT t8
set_option maxRecDepth 100000 in
theorem fns8 : fnB Tryd.prog 4 env8 okL = true := by kernel_rfl
theorem ov8_52 (x : BitVec 64) (lim : Nat) (σ : AS) : env8.ov 52 [.int .u64 (u x)] lim σ = some (.int .i64 (tz x), σ) :=
  envK rfl rfl rfl rfl (by unfold t8; rw [pfT_ne rfl, pfT_ne rfl, pfT_ne rfl, pfT_ne rfl, pfT_ne rfl, pfT_ne rfl, pf52]; exact k52_u x)
theorem ov8_21 (x : BitVec 64) (lim : Nat) (σ : AS) : env8.ov 21 [.int .u64 (u x)] lim σ = some (lowV x, σ) :=
  envK rfl rfl rfl rfl (by unfold t8; rw [pfT_ne rfl, pfT_eq]; exact k21_u x)
theorem ov8_37 (x : BitVec 64) (lim : Nat) (σ : AS) : env8.ov 37 [.int .u64 (u x)] lim σ = some (.int .i64 ((bitsL x).length : Int), σ) :=
  envK rfl rfl rfl rfl (by unfold t8; rw [pfT_ne rfl, pfT_ne rfl, pfT_ne rfl, pfT_eq]; exact k37_u x)
theorem IsZ_flat {v : Value} {l : List Int} (h : IsZ v l) : flatB 100 v = true := by
  rcases h with ⟨e, _⟩ | ⟨g, hg, e, _⟩
  · rw [e]; rfl
  · rw [e]; exact Nat.ble_eq_true_of_le hg
/-- A replaced function of a list. -/
theorem envZ {t : Ktab} {f : FuncId} {a a' : Value} {l : List Int} {lim : Nat} {σ : AS} {v : Value} (h1 : Nat.beq f 76 = false) (h2 : Nat.beq f 81 = false) (ea : strip a = a') (ha : IsZ a' l) (h : pfT t f [a'] = some v) : (envT t).ov f [a] lim σ = some (v, σ) := by
  refine envT_ov h1 h2 (pureOv_of ?_ ?_)
  · show (flatB 100 (strip a) && true) = true
    rw [ea, IsZ_flat ha]; rfl
  · show pfT t f [strip a] = _
    rw [ea, h]
theorem ov8_38 {a a' : Value} {l : List Int} (lim : Nat) (σ : AS) (ea : strip a = a') (ha : IsZ a' l) (hs : l.Pairwise (· < ·)) : env8.ov 38 [a] lim σ = some (.bool true, σ) :=
  envZ rfl rfl ea ha (by unfold t8; rw [pfT_ne rfl, pfT_ne rfl, pfT_ne rfl, pfT_ne rfl, pfT_eq]; exact k38_eq ha hs)
theorem ov8_36 {a a' : Value} {l : List Int} (lim : Nat) (σ : AS) (ea : strip a = a') (ha : IsZ a' l) : env8.ov 36 [a] lim σ = some (ofV l, σ) :=
  envZ rfl rfl ea ha (by unfold t8; rw [pfT_ne rfl, pfT_ne rfl, pfT_eq]; unfold k36; dsimp only; rw [zl_eq ha])
theorem ov8_39 {a a' : Value} {l : List Int} (m : Int) (lim : Nat) (σ : AS) (ea : strip a = a') (ha : IsZ a' l) : env8.ov 39 [a, .int .i64 m] lim σ = some (.bool (decide (m ∈ l)), σ) := by
  refine envT_ov rfl rfl (pureOv_of ?_ ?_)
  · show (flatB 100 (strip a) && (flatB 100 (strip (.int .i64 m)) && true)) = true
    rw [ea, IsZ_flat ha]; rfl
  · show pfT t8 39 [strip a, .int .i64 m] = _
    rw [ea]; unfold t8
    rw [pfT_ne rfl, pfT_ne rfl, pfT_ne rfl, pfT_ne rfl, pfT_ne rfl, pfT_eq]
    unfold k39; dsimp only; rw [zl_eq ha]
end Go.Proofs.YtakchekhpeokjaaDoor
