/-
  BITBOARD (chapter 05): the document's List.
-/
import Derived.Test.YtakchekhpeokjaaDoorD05ra
namespace Go.Proofs.YtakchekhpeokjaaDoor
open Go.Va

def k23 : List Value → Option Value
  | [.int .u64 s, .int .i64 n] => bif inU s then some (.bool (hasS s n)) else none
  | _ => none
noncomputable def t9 : Ktab := (23, k23) :: t8
theorem p23k : KOk Tryd.prog 4 tabs 23 k23 := by
  intro args v h
  unfold k23 at h
  split at h
  · rename_i s n
    cases hs : inU s with
    | false => rw [hs] at h; cases h
    | true =>
      rw [hs] at h
      cases h
      have := p23 (BitVec.ofInt 64 s) n
      rw [← ofInt_inU hs] at this
      exact this
  · cases h
theorem t9_ok : TOk Tryd.prog 4 tabs t9 := ⟨p23k, t8_ok⟩
noncomputable def env9 : Env := envT t9
set_option maxRecDepth 100000 in
theorem fns9 : fnB Tryd.prog 4 env9 okL = true := by kernel_rfl
theorem ov9_23 (x : BitVec 64) (n : Int) (lim : Nat) (σ : AS) : env9.ov 23 [.int .u64 (u x), .int .i64 n] lim σ = some (.bool (hasS (u x) n), σ) :=
  envK rfl rfl rfl rfl (by unfold t9; rw [pfT_eq]; unfold k23; dsimp only; rw [inU_u, cond_true])

noncomputable def body26 : Code := codeOf Tryd.prog 26 [.r, .r, .l, .r, .b, .b]
def T26 (v : Value) (s i : Int) (w : Nat → Value) : List Value := fillT 17 [(0, .int .u64 s), (3, v), (4, .int .i64 i)] w
noncomputable def R1 (c : List Value) : AS := (base0 4 tabs).push (.tail c.length 1 3)
theorem in26_nil (s i : Int) (w : Nat → Value) (h1 : decide (i < 64) = true) (h2 : ∀ σ, env9.ov 23 [.int .u64 s, .int .i64 i] 0 σ = some (.bool true, σ)) :
    ∃ w', runW Tryd.prog env9 0 (.code ⟨26, none⟩ body26 (T26 (.slice none 0 0) s i w) []) (base0 4 tabs) = some (.done .normal (T26 (L [.int .i64 i] 1 1 6) s (IntKind.i64.wrap (i + 1)) w') [], R1 [.int .i64 i]) :=
  seg 100 [(1, .br true), (3, .ov (.bool true))] (m := 17) (js := [0, 3, 4]) (vs := [.int .u64 s, L [.int .i64 i] 1 1 6, .int .i64 (IntKind.i64.wrap (i + 1))])
    (ob := [decide (i < 64) = true, (∀ σ, env9.ov 23 [.int .u64 s, .int .i64 i] 0 σ = some (.bool true, σ))]) (by kernel_rfl) ⟨h1, h2⟩
theorem in26 (s i : Int) (c : List Value) (n : Nat) (w : Nat → Value) (h1 : decide (i < 64) = true) (h2 : ∀ σ, env9.ov 23 [.int .u64 s, .int .i64 i] 0 σ = some (.bool true, σ)) (h3 : n < 99) :
    ∃ w', runW Tryd.prog env9 0 (.code ⟨26, none⟩ body26 (T26 (L c n 1 6) s i w) []) (R1 c) = some (.done .normal (T26 (L (c ++ [.int .i64 i]) (n + 1) 1 6) s (IntKind.i64.wrap (i + 1)) w') [], R1 (c ++ [.int .i64 i])) :=
  seg 100 [(1, .br true), (3, .ov (.bool true)), (4, .ok)] (m := 17) (js := [0, 3, 4]) (vs := [.int .u64 s, L (c ++ [.int .i64 i]) (n + 1) 1 6, .int .i64 (IntKind.i64.wrap (i + 1))])
    (ob := [decide (i < 64) = true, (∀ σ, env9.ov 23 [.int .u64 s, .int .i64 i] 0 σ = some (.bool true, σ)), c.length = c.length ∧ (n + 1) * 8 ≤ 70368744177664]) (by kernel_rfl) ⟨h1, h2, rfl, by omega⟩
theorem out26_nil (s i : Int) (σ : AS) (w : Nat → Value) (h1 : decide (i < 64) = true) (h2 : ∀ σ, env9.ov 23 [.int .u64 s, .int .i64 i] 0 σ = some (.bool false, σ)) :
    ∃ w', runW Tryd.prog env9 0 (.code ⟨26, none⟩ body26 (T26 (.slice none 0 0) s i w) []) σ = some (.done .normal (T26 (.slice none 0 0) s (IntKind.i64.wrap (i + 1)) w') [], σ) :=
  seg 100 [(1, .br true), (3, .ov (.bool false))] (m := 17) (js := [0, 3, 4]) (vs := [.int .u64 s, .slice none 0 0, .int .i64 (IntKind.i64.wrap (i + 1))])
    (ob := [decide (i < 64) = true, (∀ σ, env9.ov 23 [.int .u64 s, .int .i64 i] 0 σ = some (.bool false, σ))]) (by kernel_rfl) ⟨h1, h2⟩
theorem out26 (s i : Int) (c : List Value) (n : Nat) (σ : AS) (w : Nat → Value) (h1 : decide (i < 64) = true) (h2 : ∀ σ, env9.ov 23 [.int .u64 s, .int .i64 i] 0 σ = some (.bool false, σ)) :
    ∃ w', runW Tryd.prog env9 0 (.code ⟨26, none⟩ body26 (T26 (L c n 1 6) s i w) []) σ = some (.done .normal (T26 (L c n 1 6) s (IntKind.i64.wrap (i + 1)) w') [], σ) :=
  seg 100 [(1, .br true), (3, .ov (.bool false))] (m := 17) (js := [0, 3, 4]) (vs := [.int .u64 s, L c n 1 6, .int .i64 (IntKind.i64.wrap (i + 1))])
    (ob := [decide (i < 64) = true, (∀ σ, env9.ov 23 [.int .u64 s, .int .i64 i] 0 σ = some (.bool false, σ))]) (by kernel_rfl) ⟨h1, h2⟩
theorem end26_nil (s : Int) (σ : AS) (w : Nat → Value) :
    ∃ w', runW Tryd.prog env9 0 (.code ⟨26, none⟩ body26 (T26 (.slice none 0 0) s 64 w) []) σ = some (.done (.exit 0) (T26 (.slice none 0 0) s 64 w') [], σ) :=
  seg 100 [] (m := 17) (js := [0, 3, 4]) (vs := [.int .u64 s, .slice none 0 0, .int .i64 64]) (ob := []) (by kernel_rfl) trivial
theorem end26 (s : Int) (c : List Value) (n : Nat) (σ : AS) (w : Nat → Value) :
    ∃ w', runW Tryd.prog env9 0 (.code ⟨26, none⟩ body26 (T26 (L c n 1 6) s 64 w) []) σ = some (.done (.exit 0) (T26 (L c n 1 6) s 64 w') [], σ) :=
  seg 100 [] (m := 17) (js := [0, 3, 4]) (vs := [.int .u64 s, L c n 1 6, .int .i64 64]) (ob := []) (by kernel_rfl) trivial

/-- The list so far, and the heap. -/
def LV (p : List Nat) : Value := match p with
  | [] => .slice none 0 0
  | p => L (ints p) p.length 1 6
noncomputable def ST (p : List Nat) : AS := match p with
  | [] => base0 4 tabs
  | p => R1 (ints p)
def upTo (x : BitVec 64) (i : Nat) : List Nat := (List.range i).filter x.getLsbD
theorem upTo_succ (x : BitVec 64) (i : Nat) : upTo x (i + 1) = upTo x i ++ (bif x.getLsbD i then [i] else []) := by
  unfold upTo
  rw [List.range_succ, List.filter_append]
  cases h : x.getLsbD i <;> simp [List.filter, h]
theorem upTo_len (x : BitVec 64) (i : Nat) : (upTo x i).length ≤ i := by
  unfold upTo
  exact Nat.le_trans (List.length_filter_le ..) (by simp)
theorem LV_cons (a : Nat) (p : List Nat) : LV (a :: p) = L (ints (a :: p)) (a :: p).length 1 6 := rfl
theorem ST_cons (a : Nat) (p : List Nat) : ST (a :: p) = R1 (ints (a :: p)) := rfl
theorem step26 (x : BitVec 64) (i : Nat) (w : Nat → Value) (hi : i < 64) :
    ∃ w', runW Tryd.prog env9 0 (.code ⟨26, none⟩ body26 (T26 (LV (upTo x i)) (u x) i w) []) (ST (upTo x i)) = some (.done .normal (T26 (LV (upTo x (i + 1))) (u x) ((i + 1 : Nat) : Int) w') [], ST (upTo x (i + 1))) := by
  have e1 : IntKind.i64.wrap ((i : Int) + 1) = ((i + 1 : Nat) : Int) := by rw [wrap64 (by omega) (by omega)]; rfl
  have h2 : ∀ σ, env9.ov 23 [.int .u64 (u x), .int .i64 i] 0 σ = some (.bool (x.getLsbD i), σ) := fun σ => by
    rw [ov9_23, hasS_u x i (by omega) (by omega), Int.toNat_natCast]
  have h1 : decide ((i : Int) < 64) = true := decide_eq_true (by omega)
  rw [← e1, upTo_succ]
  have hlen := upTo_len x i
  cases h : x.getLsbD i with
  | true =>
    rw [h] at h2
    rw [cond_true]
    cases hp : upTo x i with
    | nil => exact in26_nil (u x) i w h1 h2
    | cons a p =>
      rw [hp] at hlen
      obtain ⟨w', h3⟩ := in26 (u x) i (ints (a :: p)) (a :: p).length w h1 h2 (by omega)
      refine ⟨w', ?_⟩
      rw [List.cons_append, LV_cons, ST_cons, LV_cons, ST_cons, show ints (a :: (p ++ [i])) = ints (a :: p) ++ [.int .i64 (i : Int)] by simp [ints], show (a :: (p ++ [i])).length = (a :: p).length + 1 by simp]
      exact h3
  | false =>
    rw [h] at h2
    rw [cond_false, List.append_nil]
    cases hp : upTo x i with
    | nil => exact out26_nil (u x) i _ w h1 h2
    | cons a p => exact out26 (u x) i (ints (a :: p)) (a :: p).length _ w h1 h2
theorem loop26 (x : BitVec 64) : ∀ (k i : Nat) (w : Nat → Value), i + k = 64 →
    ∃ w', runW Tryd.prog env9 0 (.code ⟨26, none⟩ (.loop body26) (T26 (LV (upTo x i)) (u x) i w) []) (ST (upTo x i)) = some (.done (.exit 0) (T26 (LV (bitsL x)) (u x) 64 w') [], ST (bitsL x)) := by
  intro k
  induction k with
  | zero =>
    intro i w hi
    obtain rfl : i = 64 := by omega
    rw [show upTo x 64 = bitsL x from rfl]
    have : ∃ w', runW Tryd.prog env9 0 (.code ⟨26, none⟩ body26 (T26 (LV (bitsL x)) (u x) 64 w) []) (ST (bitsL x)) = some (.done (.exit 0) (T26 (LV (bitsL x)) (u x) 64 w') [], ST (bitsL x)) := by
      cases hp : bitsL x with
      | nil => exact end26_nil (u x) _ w
      | cons a p => exact end26 (u x) (ints (a :: p)) (a :: p).length _ w
    obtain ⟨w', h⟩ := this
    exact ⟨w', loop_out (by intro h; cases h) h⟩
  | succ k ih =>
    intro i w hi
    obtain ⟨w1, h1⟩ := step26 x i w (by omega)
    obtain ⟨w', h2⟩ := ih (i + 1) w1 (by omega)
    exact ⟨w', loop_next h1 h2⟩
/-- From the start. -/
theorem loop26_all (x : BitVec 64) (w : Nat → Value) :
    ∃ w', runW Tryd.prog env9 0 (.code ⟨26, none⟩ (.loop body26) (T26 (.slice none 0 0) (u x) 0 w) []) (base0 4 tabs) = some (.done (.exit 0) (T26 (LV (bitsL x)) (u x) 64 w') [], ST (bitsL x)) := loop26 x 64 0 w rfl
theorem p26 (x : BitVec 64) : Pure Tryd.prog 4 tabs 26 [.int .u64 (u x)] (lstV (bitsL x)) := by
  obtain ⟨w', h⟩ := loop26_all x (fun j => Go.Va.look [(2, Value.slice none 0 0)] j undef)
  have hP := lstV_PF (bitsL x)
  cases hp : bitsL x with
  | nil =>
    rw [hp] at h
    exact pureT t9_ok fns9 (n := 100) (v := .slice none 0 0) [(3, .skip (.done (.exit 0) (T26 (.slice none 0 0) (u x) 64 w') []) (base0 4 tabs))] [_] (by kernel_rfl) h rfl (.sliceNone 0 0)
  | cons a p =>
    rw [hp] at h hP
    exact pureT t9_ok fns9 (n := 100) (v := L (ints (a :: p)) (a :: p).length 1 6) [(3, .skip (.done (.exit 0) (T26 (L (ints (a :: p)) (a :: p).length 1 6) (u x) 64 w') []) (R1 (ints (a :: p))))] [_] (by kernel_rfl) h rfl hP
end Go.Proofs.YtakchekhpeokjaaDoor
