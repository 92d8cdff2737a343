/-
  BITBOARD (chapter 05): the document's Shift: its loop.
-/
import Derived.Test.YtakchekhpeokjaaDoorD05rg
namespace Go.Proofs.YtakchekhpeokjaaDoor
open Go.Va

def stays (f r x : Int) : Bool := inr (toF x f) 8 && inr (toR x r) 8
/-- The moved squares. -/
def mvd (f r : Int) (l : List Int) : List Int := (l.filter (stays f r)).map fun x => toS x f r
def OV (p : List Int) : Value := match p with
  | [] => .slice none 0 0
  | p => L (zs p) p.length 1 6
noncomputable def OS (p : List Int) : AS := match p with
  | [] => base0 4 tabs
  | p => R1 (zs p)
theorem OV_cons (a : Int) (p : List Int) : OV (a :: p) = L (zs (a :: p)) (a :: p).length 1 6 := rfl
theorem OS_cons (a : Int) (p : List Int) : OS (a :: p) = R1 (zs (a :: p)) := rfl
theorem round27 (c : List Value) (p : List Int) (n i : Nat) (x f r : Int) (w : Nat → Value) (h1 : i < n) (hx : c[i]? = some (.int .i64 x)) (hk : p.length < 99) :
    ∃ w', runW Tryd.prog env11 0 (.code ⟨27, none⟩ body27 (T27 f r (OV p) (L c n 1 0) i w) []) (OS p) =
      some (.done .normal (T27 f r (OV (p ++ bif stays f r x then [toS x f r] else [])) (L c n 1 0) (IntKind.i64.wrap ((i : Int) + 1)) w') [], OS (p ++ bif stays f r x then [toS x f r] else [])) := by
  unfold stays inr
  cases g0 : decide (toF x f ≥ 0) with
  | false =>
    rw [Bool.false_and, Bool.false_and, cond_false, List.append_nil]
    cases p with
    | nil => exact off27n0 c n i x f r w h1 hx g0
    | cons a p => exact off27l0 c _ _ n i x f r w h1 hx g0
  | true =>
  cases g1 : decide (toF x f < 8) with
  | false =>
    rw [Bool.and_false, Bool.false_and, cond_false, List.append_nil]
    cases p with
    | nil => exact off27n1 c n i x f r w h1 hx g0 g1
    | cons a p => exact off27l1 c _ _ n i x f r w h1 hx g0 g1
  | true =>
  cases g2 : decide (toR x r ≥ 0) with
  | false =>
    rw [Bool.false_and, Bool.and_false, cond_false, List.append_nil]
    cases p with
    | nil => exact off27n2 c n i x f r w h1 hx g0 g1 g2
    | cons a p => exact off27l2 c _ _ n i x f r w h1 hx g0 g1 g2
  | true =>
  cases g3 : decide (toR x r < 8) with
  | false =>
    rw [Bool.and_false, Bool.and_false, cond_false, List.append_nil]
    cases p with
    | nil => exact off27n3 c n i x f r w h1 hx g0 g1 g2 g3
    | cons a p => exact off27l3 c _ _ n i x f r w h1 hx g0 g1 g2 g3
  | true =>
    simp only [Bool.and_self, cond_true]
    cases p with
    | nil => exact on27n c n i x f r w h1 hx g0 g1 g2 g3
    | cons a p =>
      obtain ⟨w', h⟩ := on27l c (zs (a :: p)) (a :: p).length n i x f r w h1 hx g0 g1 g2 g3 hk
      refine ⟨w', ?_⟩
      rw [List.cons_append, OV_cons, OS_cons, OV_cons, OS_cons, show zs (a :: (p ++ [toS x f r])) = zs (a :: p) ++ [.int .i64 (toS x f r)] by simp [zs], show (a :: (p ++ [toS x f r])).length = (a :: p).length + 1 by simp]
      exact h
theorem mvd_len (f r : Int) (l : List Int) : (mvd f r l).length ≤ l.length := by
  unfold mvd
  rw [List.length_map]
  exact List.length_filter_le ..
theorem mvd_succ (f r : Int) (l : List Int) (i : Nat) (h : i < l.length) : mvd f r (l.take (i + 1)) = mvd f r (l.take i) ++ bif stays f r l[i] then [toS l[i] f r] else [] := by
  unfold mvd
  rw [List.take_succ_eq_append_getElem h, List.filter_append, List.map_append]
  congr 1
  cases e : stays f r l[i] <;> simp [List.filter, e]
theorem loop27 (l : List Int) (f r : Int) (n : Nat) (hl : l.length = n) (hn : n ≤ 64) : ∀ (k i : Nat) (w : Nat → Value), i + k = n →
    ∃ w', runW Tryd.prog env11 0 (.code ⟨27, none⟩ (.loop body27) (T27 f r (OV (mvd f r (l.take i))) (L (zs l) n 1 0) i w) []) (OS (mvd f r (l.take i))) =
      some (.done (.exit 0) (T27 f r (OV (mvd f r l)) (L (zs l) n 1 0) n w') [], OS (mvd f r l)) := by
  intro k
  induction k with
  | zero =>
    intro i w hi
    obtain rfl : i = n := by omega
    rw [List.take_of_length_le (by omega)]
    have : ∃ w', runW Tryd.prog env11 0 (.code ⟨27, none⟩ body27 (T27 f r (OV (mvd f r l)) (L (zs l) i 1 0) i w) []) (OS (mvd f r l)) = some (.done (.exit 0) (T27 f r (OV (mvd f r l)) (L (zs l) i 1 0) i w') [], OS (mvd f r l)) := by
      cases mvd f r l with
      | nil => exact end27n (zs l) i i f r w (by omega)
      | cons a p => exact end27l (zs l) _ _ i i f r w (by omega)
    obtain ⟨w', h⟩ := this
    exact ⟨w', loop_out (by intro h; cases h) h⟩
  | succ k ih =>
    intro i w hi
    have hil : i < l.length := by omega
    have hx : (zs l)[i]? = some (.int .i64 l[i]) := by rw [zs_get, List.getElem?_eq_getElem hil]; rfl
    have e1 : IntKind.i64.wrap ((i : Int) + 1) = ((i + 1 : Nat) : Int) := by rw [wrap64 (by omega) (by omega)]; rfl
    have hlen := mvd_len f r (l.take i)
    rw [List.length_take] at hlen
    obtain ⟨w1, h1⟩ := round27 (zs l) (mvd f r (l.take i)) n i l[i] f r w (by omega) hx (by omega)
    rw [e1, ← mvd_succ f r l i hil] at h1
    obtain ⟨w', h2⟩ := ih (i + 1) w1 (by omega)
    exact ⟨w', loop_next h1 h2⟩
end Go.Proofs.YtakchekhpeokjaaDoor
