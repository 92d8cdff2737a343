/-
  BITBOARD (chapter 05): the text of a set; the document's Text.
-/
import Derived.Test.YtakchekhpeokjaaDoorD05rj
namespace Go.Proofs.YtakchekhpeokjaaDoor
open Go.Va

def dotx (b : Bool) : UInt8 := bif b then 120 else 46
/-- The first f places of the rank r. -/
def rowB (x : BitVec 64) (r f : Nat) : List UInt8 := (List.range f).map fun j => dotx (x.getLsbD (8 * r + j))
/-- The k upper ranks. -/
def topB (x : BitVec 64) : Nat → List UInt8
  | 0 => []
  | k + 1 => topB x k ++ (rowB x (7 - k) 8 ++ [10])
def str (l : List UInt8) : ByteArray := ⟨l.toArray⟩
def textS (x : BitVec 64) : ByteArray := str (topB x 8)
theorem topB_succ (x : BitVec 64) (k : Nat) : topB x (k + 1) = topB x k ++ (rowB x (7 - k) 8 ++ [10]) := rfl
theorem str_app (a b : List UInt8) : str a ++ str b = str (a ++ b) := by
  apply ba_ext
  unfold str
  simp [ByteArray.data_append]
theorem str_size (a : List UInt8) : (str a).size = a.length := by
  show a.toArray.size = _
  simp
theorem rowB_len (x : BitVec 64) (r f : Nat) : (rowB x r f).length = f := by unfold rowB; simp
theorem rowB_succ (x : BitVec 64) (r f : Nat) : rowB x r (f + 1) = rowB x r f ++ [dotx (x.getLsbD (8 * r + f))] := by
  unfold rowB
  rw [List.range_succ, List.map_append]; rfl
theorem topB_len (x : BitVec 64) : ∀ k, (topB x k).length = 9 * k
  | 0 => rfl
  | k + 1 => by
    unfold topB
    rw [List.length_append, topB_len x k, List.length_append, rowB_len]; simp; omega

theorem ov11_23 (x : BitVec 64) (n : Int) (lim : Nat) (σ : AS) : env11.ov 23 [.int .u64 (u x), .int .i64 n] lim σ = some (.bool (hasS (u x) n), σ) :=
  envK rfl rfl rfl rfl (by unfold t11 t10 t9; rw [pfT_ne rfl, pfT_ne rfl, pfT_ne rfl, pfT_eq]; unfold k23; dsimp only; rw [inU_u, cond_true])

noncomputable def body33 : Code := codeOf Tryd.prog 33 [.r, .r, .l, .r, .b, .b]
noncomputable def body33i : Code := codeOf Tryd.prog 33 [.r, .r, .l, .r, .b, .b, .r, .l, .b, .l, .r, .b, .b]
def T33 (x : Int) (s : ByteArray) (r f : Int) (w : Nat → Value) : List Value := fillT 27 [(0, .int .u64 x), (3, .string s), (4, .int .i64 r), (5, .int .i64 f)] w
def T33' (x : Int) (s : ByteArray) (r : Int) (w : Nat → Value) : List Value := fillT 27 [(0, .int .u64 x), (3, .string s), (4, .int .i64 r)] w
def plc (r f : Int) : Int := IntKind.i64.wrap (IntKind.i64.wrap (8 * r) + f)

theorem on33 (x r f : Int) (s : ByteArray) (σ : AS) (w : Nat → Value) (h1 : decide (f < 8) = true) (h2 : ∀ σ, env11.ov 23 [.int .u64 x, .int .i64 (plc r f)] 0 σ = some (.bool true, σ)) (h3 : ((s.size + (ByteArray.mk #[120]).size : Nat) : Int) ≤ IntKind.i64.max) :
    ∃ w', runW Tryd.prog env11 0 (.code ⟨33, none⟩ body33i (T33 x s r f w) []) σ = some (.done .normal (T33 x (s ++ ⟨#[120]⟩) r (IntKind.i64.wrap (f + 1)) w') [], σ) :=
  seg 100 [(1, .br true), (6, .ov (.bool true)), (2, .ok)] (m := 27) (js := [0, 3, 4, 5]) (vs := [.int .u64 x, .string (s ++ ⟨#[120]⟩), .int .i64 r, .int .i64 (IntKind.i64.wrap (f + 1))])
    (ob := [decide (f < 8) = true, (∀ σ, env11.ov 23 [.int .u64 x, .int .i64 (plc r f)] 0 σ = some (.bool true, σ)), ((s.size + (ByteArray.mk #[120]).size : Nat) : Int) ≤ IntKind.i64.max]) (by kernel_rfl) ⟨h1, h2, h3⟩
theorem off33 (x r f : Int) (s : ByteArray) (σ : AS) (w : Nat → Value) (h1 : decide (f < 8) = true) (h2 : ∀ σ, env11.ov 23 [.int .u64 x, .int .i64 (plc r f)] 0 σ = some (.bool false, σ)) (h3 : ((s.size + (ByteArray.mk #[46]).size : Nat) : Int) ≤ IntKind.i64.max) :
    ∃ w', runW Tryd.prog env11 0 (.code ⟨33, none⟩ body33i (T33 x s r f w) []) σ = some (.done .normal (T33 x (s ++ ⟨#[46]⟩) r (IntKind.i64.wrap (f + 1)) w') [], σ) :=
  seg 100 [(1, .br true), (6, .ov (.bool false)), (2, .ok)] (m := 27) (js := [0, 3, 4, 5]) (vs := [.int .u64 x, .string (s ++ ⟨#[46]⟩), .int .i64 r, .int .i64 (IntKind.i64.wrap (f + 1))])
    (ob := [decide (f < 8) = true, (∀ σ, env11.ov 23 [.int .u64 x, .int .i64 (plc r f)] 0 σ = some (.bool false, σ)), ((s.size + (ByteArray.mk #[46]).size : Nat) : Int) ≤ IntKind.i64.max]) (by kernel_rfl) ⟨h1, h2, h3⟩
theorem end33i (x r f : Int) (s : ByteArray) (σ : AS) (w : Nat → Value) (h1 : decide (f < 8) = false) :
    ∃ w', runW Tryd.prog env11 0 (.code ⟨33, none⟩ body33i (T33 x s r f w) []) σ = some (.done (.exit 2) (T33 x s r f w') [], σ) :=
  seg 100 [(1, .br false)] (m := 27) (js := [0, 3, 4, 5]) (vs := [.int .u64 x, .string s, .int .i64 r, .int .i64 f]) (ob := [decide (f < 8) = false]) (by kernel_rfl) h1

theorem size_ok {n : Nat} (h : n < 1000) (m : Nat) (hm : m < 1000) : ((n + m : Nat) : Int) ≤ IntKind.i64.max := by
  show ((n + m : Nat) : Int) ≤ 9223372036854775807
  omega
theorem loop33i (x : BitVec 64) (r : Nat) (hr : r < 8) (p : List UInt8) (hp : p.length < 900) (σ : AS) : ∀ (k f : Nat) (w : Nat → Value), f + k = 8 →
    ∃ w', runW Tryd.prog env11 0 (.code ⟨33, none⟩ (.loop body33i) (T33 (u x) (str (p ++ rowB x r f)) r f w) []) σ = some (.done (.exit 2) (T33 (u x) (str (p ++ rowB x r 8)) r 8 w') [], σ) := by
  intro k
  induction k with
  | zero =>
    intro f w hf
    obtain rfl : f = 8 := by omega
    obtain ⟨w', h⟩ := end33i (u x) r 8 (str (p ++ rowB x r 8)) σ w (by decide)
    exact ⟨w', loop_out (by intro h; cases h) h⟩
  | succ k ih =>
    intro f w hf
    have hpl : plc r f = ((8 * r + f : Nat) : Int) := by
      unfold plc
      rw [wrap64 (n := 8 * (r : Int)) (by omega) (by omega), wrap64 (by omega) (by omega)]
      omega
    have hov : ∀ σ, env11.ov 23 [.int .u64 (u x), .int .i64 (plc r f)] 0 σ = some (.bool (x.getLsbD (8 * r + f)), σ) := fun σ => by
      rw [ov11_23, hpl, hasS_u x _ (by omega) (by omega), Int.toNat_natCast]
    have hlt : decide ((f : Int) < 8) = true := decide_eq_true (by omega)
    have e1 : IntKind.i64.wrap ((f : Int) + 1) = ((f + 1 : Nat) : Int) := by rw [wrap64 (by omega) (by omega)]; rfl
    have hsz : (str (p ++ rowB x r f)).size < 1000 := by rw [str_size, List.length_append, rowB_len]; omega
    have e2 : ∀ b : UInt8, str (p ++ rowB x r f) ++ ⟨#[b]⟩ = str (p ++ (rowB x r f ++ [b])) := fun b => by
      rw [← List.append_assoc]; exact str_app _ [b]
    have : ∃ w', runW Tryd.prog env11 0 (.code ⟨33, none⟩ body33i (T33 (u x) (str (p ++ rowB x r f)) r f w) []) σ = some (.done .normal (T33 (u x) (str (p ++ rowB x r (f + 1))) r ((f + 1 : Nat) : Int) w') [], σ) := by
      rw [rowB_succ, ← e1]
      cases hb : x.getLsbD (8 * r + f) with
      | true =>
        rw [hb] at hov
        obtain ⟨w', h⟩ := on33 (u x) r f (str (p ++ rowB x r f)) σ w hlt hov (size_ok hsz _ (by decide))
        rw [e2] at h
        exact ⟨w', h⟩
      | false =>
        rw [hb] at hov
        obtain ⟨w', h⟩ := off33 (u x) r f (str (p ++ rowB x r f)) σ w hlt hov (size_ok hsz _ (by decide))
        rw [e2] at h
        exact ⟨w', h⟩
    obtain ⟨w1, h1⟩ := this
    obtain ⟨w', h2⟩ := ih (f + 1) w1 (by omega)
    exact ⟨w', loop_next h1 h2⟩

theorem out33 (x r : Int) (s s' : ByteArray) (σ : AS) (w : Nat → Value) (h1 : decide (r ≥ 0) = true)
    (h2 : ∀ w, ∃ w', runW Tryd.prog env11 0 (.code ⟨33, none⟩ (.loop body33i) (T33 x s r 0 w) []) σ = some (.done (.exit 2) (T33 x s' r 8 w') [], σ)) (h3 : ((s'.size + (ByteArray.mk #[10]).size : Nat) : Int) ≤ IntKind.i64.max) :
    ∃ w', runW Tryd.prog env11 0 (.code ⟨33, none⟩ body33 (T33' x s r w) []) σ = some (.done .normal (T33' x (s' ++ ⟨#[10]⟩) (IntKind.i64.wrap (r - 1)) w') [], σ) := by
  obtain ⟨w1, h⟩ := h2 (fun j => Go.Va.look [(6, .int .i64 r), (7, .bool true)] j (w j))
  exact seg 100 [(1, .br true), (2, .skip (.done (.exit 2) (T33 x s' r 8 w1) []) σ), (1, .ok)] (m := 27) (js := [0, 3, 4]) (vs := [.int .u64 x, .string (s' ++ ⟨#[10]⟩), .int .i64 (IntKind.i64.wrap (r - 1))])
    (ob := [decide (r ≥ 0) = true, runW Tryd.prog env11 0 (.code ⟨33, none⟩ (.loop body33i) (T33 x s r 0 (fun j => Go.Va.look [(6, .int .i64 r), (7, .bool true)] j (w j))) []) σ = some (.done (.exit 2) (T33 x s' r 8 w1) [], σ), ((s'.size + (ByteArray.mk #[10]).size : Nat) : Int) ≤ IntKind.i64.max]) (by kernel_rfl) ⟨h1, h, h3⟩
theorem end33 (x r : Int) (s : ByteArray) (σ : AS) (w : Nat → Value) (h1 : decide (r ≥ 0) = false) :
    ∃ w', runW Tryd.prog env11 0 (.code ⟨33, none⟩ body33 (T33' x s r w) []) σ = some (.done (.exit 0) (T33' x s r w') [], σ) :=
  seg 100 [(1, .br false)] (m := 27) (js := [0, 3, 4]) (vs := [.int .u64 x, .string s, .int .i64 r]) (ob := [decide (r ≥ 0) = false]) (by kernel_rfl) h1
theorem loop33 (x : BitVec 64) (σ : AS) : ∀ (k : Nat) (w : Nat → Value), k ≤ 8 →
    ∃ w', runW Tryd.prog env11 0 (.code ⟨33, none⟩ (.loop body33) (T33' (u x) (str (topB x (8 - k))) ((k : Int) - 1) w) []) σ = some (.done (.exit 0) (T33' (u x) (textS x) (-1) w') [], σ) := by
  intro k
  induction k with
  | zero =>
    intro w _
    obtain ⟨w', h⟩ := end33 (u x) (-1) (textS x) σ w (by decide)
    exact ⟨w', loop_out (by intro h; cases h) h⟩
  | succ k ih =>
    intro w hk
    have hlen : (topB x (8 - (k + 1))).length < 900 := by rw [topB_len]; omega
    have e0 : (((k + 1 : Nat) : Int) - 1) = (k : Int) := by omega
    have e1 : IntKind.i64.wrap ((k : Int) - 1) = (k : Int) - 1 := wrap64 (by omega) (by omega)
    have e2 : str (topB x (8 - (k + 1)) ++ rowB x k 8) ++ ⟨#[10]⟩ = str (topB x (8 - k)) := by
      rw [show (⟨#[10]⟩ : ByteArray) = str [10] from rfl, str_app, show 8 - k = (8 - (k + 1)) + 1 by omega, topB_succ, show 7 - (8 - (k + 1)) = k by omega, List.append_assoc]
    obtain ⟨w1, h1⟩ := out33 (u x) k (str (topB x (8 - (k + 1)))) (str (topB x (8 - (k + 1)) ++ rowB x k 8)) σ w (decide_eq_true (by omega))
      (fun w => by
        have := loop33i x k (by omega) (topB x (8 - (k + 1))) hlen σ 8 0 w rfl
        rw [show rowB x k 0 = [] from rfl, List.append_nil] at this
        exact this) (size_ok (by rw [str_size, List.length_append, rowB_len]; omega) _ (by decide))
    rw [e1, e2] at h1
    obtain ⟨w', h2⟩ := ih w1 (by omega)
    rw [e0]
    exact ⟨w', loop_next h1 h2⟩

theorem p33 (x : BitVec 64) : Pure Tryd.prog 4 tabs 33 [.int .u64 (u x)] (.string (textS x)) := by
  obtain ⟨w', h⟩ := loop33 x (base0 4 tabs) 8 (fun j => Go.Va.look [(2, Value.string ⟨#[]⟩)] j undef) (by omega)
  rw [show str (topB x (8 - 8)) = ⟨#[]⟩ from rfl, show (((8 : Nat) : Int) - 1) = 7 from rfl] at h
  exact pureT t11_ok fns11 (n := 100) (v := .string (textS x)) [(3, .skip (.done (.exit 0) (T33' (u x) (textS x) (-1) w') []) (base0 4 tabs))] [_] (by kernel_rfl) h rfl (.string _)
end Go.Proofs.YtakchekhpeokjaaDoor
