/-
  BITBOARD (chapter 05): what All and List answer.
-/
import Derived.Test.YtakchekhpeokjaaDoorD05q
namespace Go.Proofs.YtakchekhpeokjaaDoor
open Go.Va

def subS (a b : Int) : Int := IntKind.u64.wrap (a - b)
noncomputable def body51 : Code := codeOf Tryd.prog 51 [.r, .b, .b]
noncomputable def loop15 : Code := codeOf Tryd.prog 15 [.r, .r, .r, .r, .l, .r, .b]
noncomputable def asg15 : Code := match loop15 with
  | .rangeFunc _ _ a _ => a
  | _ => .skip
noncomputable def bod15 : Code := match loop15 with
  | .rangeFunc _ _ _ b => b
  | _ => .skip
def P4 (n : Nat) : Value := .pointer (some ⟨n, 0, none⟩)
def F51 : Value := .func (.func 51) #[] #[P4 5]
/-- The loop's object. -/
noncomputable def lp15 (s : Int) : Go.Loop :=
  { state := .ready, pending := none, fn := 15, tmps := #[.int .u64 s, undef, .slice none 0 0, P4 4, F51, undef, .int .u64 s, F51, F51, .bool false, F51, undef, undef, undef, undef, undef, undef, undef, undef, undef],
    params := #[11], assign := asg15, body := bod15, defers := 6 }
noncomputable def S0 (s : Int) : AS := ((((base0 4 tabs).push (.cells [.slice none 0 0] true (none, some 31) none)).push (.cells [.int .u64 s] true (none, some 23) none)).push (.obj (.deferred (some [])))).push (.obj (.loop (lp15 s)))
noncomputable def S1 (s : Int) (c : List Value) (n : Nat) : AS := ((S0 s).put 4 (some (.cells [L c n 1 10] true (none, some 31) none))).push (.tail c.length 1 3)
def T51 (r : Int) (w : Nat → Value) : List Value := fillT 16 [(0, .func (.yield 7) #[] #[]), (1, P4 5), (3, .int .u64 r)] w

theorem next51_nil (s r : Int) (n : Int) (w : Nat → Value) (h1 : (r != 0) = true) (h2 : ∀ σ, env6.ov 52 [.int .u64 r] 0 σ = some (.int .i64 n, σ)) :
    ∃ w', runW Tryd.prog env6 0 (.code ⟨51, none⟩ body51 (T51 r w) []) (S0 s) = some (.done .normal (T51 (andS r (subS r 1)) w') [], S1 s [.int .i64 n] 1) :=
  seg 100 [(1, .br true), (3, .ov (.int .i64 n))] (m := 16) (js := [0, 1, 3]) (vs := [.func (.yield 7) #[] #[], P4 5, .int .u64 (andS r (subS r 1))])
    (ob := [(r != 0) = true, (∀ σ, env6.ov 52 [.int .u64 r] 0 σ = some (.int .i64 n, σ))]) (by kernel_rfl) ⟨h1, h2⟩
theorem next51 (s r : Int) (n : Int) (c : List Value) (m : Nat) (w : Nat → Value) (h1 : (r != 0) = true) (h2 : ∀ σ, env6.ov 52 [.int .u64 r] 0 σ = some (.int .i64 n, σ)) (h3 : c.length = m) (h4 : m < 99) :
    ∃ w', runW Tryd.prog env6 0 (.code ⟨51, none⟩ body51 (T51 r w) []) (S1 s c m) = some (.done .normal (T51 (andS r (subS r 1)) w') [], S1 s (c ++ [.int .i64 n]) (m + 1)) :=
  seg 100 [(1, .br true), (3, .ov (.int .i64 n)), (5, .ok), (3, .br false)] (m := 16) (js := [0, 1, 3]) (vs := [.func (.yield 7) #[] #[], P4 5, .int .u64 (andS r (subS r 1))])
    (ob := [(r != 0) = true, (∀ σ, env6.ov 52 [.int .u64 r] 0 σ = some (.int .i64 n, σ)), c.length = c.length ∧ (m + 1) * 8 ≤ 70368744177664, (((m + 1 : Nat) : Int) == 100) = false]) (by kernel_rfl)
    ⟨h1, h2, ⟨rfl, by omega⟩, beq_eq_false_iff_ne.2 (by intro e; have e : m + 1 = 100 := Int.ofNat.inj e; omega)⟩
theorem end51 (s : Int) (c : List Value) (m : Nat) (w : Nat → Value) :
    ∃ w', runW Tryd.prog env6 0 (.code ⟨51, none⟩ body51 (T51 0 w) []) (S1 s c m) = some (.done (.exit 0) (T51 0 w') [], S1 s c m) :=
  seg 100 [] (m := 16) (js := [0, 1, 3]) (vs := [.func (.yield 7) #[] #[], P4 5, .int .u64 0]) (ob := []) (by kernel_rfl) trivial

theorem rest_u (x : BitVec 64) : andS (u x) (subS (u x) 1) = u (restB x) := by
  have hn : BitVec.ofInt 64 (IntKind.u64.wrap (u x - 1)) = x - 1#64 := by
    refine BitVec.eq_of_toNat_eq ?_
    rw [BitVec.toNat_ofInt, BitVec.toNat_sub]
    unfold IntKind.wrap u
    simp only [IntKind.signed, Bool.false_and, Bool.false_eq_true, if_false]
    show (((x.toNat : Int) - 1) % (2 ^ 64 : Int) % ((2 ^ 64 : Nat) : Int)).toNat = (2 ^ 64 - (1#64).toNat + x.toNat) % 2 ^ 64
    have := x.isLt
    have h1 : (1#64).toNat = 1 := rfl
    omega
  unfold andS subS
  rw [ofInt_u, show BitVec.ofInt IntKind.u64.bits (IntKind.u64.wrap (u x - 1)) = x - 1#64 from hn]
  exact wrap_toNat (restB x)
theorem u_ne {x : BitVec 64} (h : x ≠ 0#64) : (u x != 0) = true := by
  rw [bne_iff_ne]
  intro e
  refine h (BitVec.eq_of_toNat_eq ?_)
  unfold u at e
  show x.toNat = 0
  omega
def ints (l : List Nat) : List Value := l.map fun n : Nat => .int .i64 n

theorem loop51 (s : Int) : ∀ (k : Nat) (x : BitVec 64) (c : List Value) (m : Nat) (w : Nat → Value), (bitsL x).length = k → c.length = m → m + k < 99 →
    ∃ w', runW Tryd.prog env6 0 (.code ⟨51, none⟩ (.loop body51) (T51 (u x) w) []) (S1 s c m) = some (.done (.exit 0) (T51 0 w') [], S1 s (c ++ ints (bitsL x)) (m + k)) := by
  intro k
  induction k with
  | zero =>
    intro x c m w h1 h2 h3
    have e := List.eq_nil_of_length_eq_zero h1
    rw [e, bits_ne e]
    obtain ⟨w', h⟩ := end51 s c m w
    refine ⟨w', ?_⟩
    rw [show c ++ ints [] = c from List.append_nil c]
    exact loop_out (by intro h; cases h) h
  | succ k ih =>
    intro x c m w h1 h2 h3
    have hx : x ≠ 0#64 := by
      intro e; rw [e, bits_zero] at h1; cases h1
    have hb := bits_cons hx
    rw [hb] at h1
    obtain ⟨w1, h⟩ := next51 s (u x) (tz x) c m w (u_ne hx) (fun σ => ov52 x 0 σ) h2 (by omega)
    rw [rest_u] at h
    obtain ⟨w', h'⟩ := ih (restB x) (c ++ [.int .i64 (tz x)]) (m + 1) w1 (by simpa using h1) (by simp [h2]) (by omega)
    refine ⟨w', ?_⟩
    rw [hb, show c ++ ints (tz x :: bitsL (restB x)) = c ++ [.int .i64 (tz x)] ++ ints (bitsL (restB x)) by simp [ints], show m + (k + 1) = m + 1 + k by omega]
    exact loop_next h h'
/-- From the start. -/
theorem loop51_all (s : Int) (x : BitVec 64) (w : Nat → Value) (hx : x ≠ 0#64) :
    ∃ w', runW Tryd.prog env6 0 (.code ⟨51, none⟩ (.loop body51) (T51 (u x) w) []) (S0 s) = some (.done (.exit 0) (T51 0 w') [], S1 s (ints (bitsL x)) (bitsL x).length) := by
  have hb := bits_cons hx
  obtain ⟨w1, h⟩ := next51_nil s (u x) (tz x) w (u_ne hx) (fun σ => ov52 x 0 σ)
  rw [rest_u] at h
  have hl := bitsL_length x
  rw [hb, List.length_cons] at hl
  obtain ⟨w', h'⟩ := loop51 s (bitsL (restB x)).length (restB x) [.int .i64 (tz x)] 1 w1 rfl rfl (by omega)
  refine ⟨w', ?_⟩
  rw [hb, show ints (tz x :: bitsL (restB x)) = [.int .i64 (tz x)] ++ ints (bitsL (restB x)) by simp [ints], List.length_cons, Nat.add_comm]
  exact loop_next h h'

/-- A list of squares, as the program keeps it. -/
def lstV (l : List Nat) : Value := match l with
  | [] => .slice none 0 0
  | l => L (ints l) l.length 1 0
theorem ints_PF (l : List Nat) : ∀ v ∈ ints l, PF v := PF_ints .i64 (fun n : Nat => (n : Int)) l
theorem lstV_PF (l : List Nat) : PF (lstV l) := by
  unfold lstV
  split
  · exact .sliceNone 0 0
  · exact PF_list (by omega) (ints_PF _)

theorem p15_zero : Pure Tryd.prog 4 tabs 15 [.int .u64 0] (.slice none 0 0) :=
  pureT t6_ok fns6 (n := 100) (v := .slice none 0 0) [] [] (by kernel_rfl) trivial rfl (.sliceNone 0 0)
theorem p15 (x : BitVec 64) : Pure Tryd.prog 4 tabs 15 [.int .u64 (u x)] (lstV (bitsL x)) := by
  by_cases hx : x = 0#64
  · subst hx
    rw [bits_zero]
    exact p15_zero
  · obtain ⟨w', h⟩ := loop51_all (u x) x (fun j => Go.Va.look [(4, Value.int .u64 (u x))] j undef) hx
    have hl : lstV (bitsL x) = L (ints (bitsL x)) (bitsL x).length 1 0 := by rw [bits_cons hx]; rfl
    rw [hl]
    exact pureT t6_ok fns6 (n := 1000) (v := L (ints (bitsL x)) (bitsL x).length 1 10) [(15, .skip (.done (.exit 0) (T51 0 w') []) (S1 (u x) (ints (bitsL x)) (bitsL x).length))] [_]
      (by kernel_rfl) h rfl (PF_list (by omega) (ints_PF _))
end Go.Proofs.YtakchekhpeokjaaDoor
