/-
  WHAT A RUN WITH HINTS SAYS OF A CALL; values that are told apart by the kernel.
-/
import Derived.Test.YtakchekhpeokjaaDoorVaH3
namespace Go.Va

theorem pureH {P : Program} {G : Nat} {ok : FuncId → Bool} {draws : FuncId → Nat → Option Plan} {isOv : FuncId → Bool} {pf : FuncId → List Value → Option Value} {tabs : List (Nat × List Value)} (hZ : ZeroOk P) (hM : P.follows .mixedOrders = true) (ht : tabsB G tabs = true)
    (hpf : ∀ f args v, isOv f = true → pf f args = some v → Pure P G tabs f args v) (hFn : FnOk P G (pureEnv ok draws isOv pf)) {n : Nat} {f : FuncId} {args : List Value} {v : Value} {hs : List (Nat × Hint)} {ob : List Prop}
    (hr : upshot (runH P (pureEnv ok draws isOv pf) n 0 (.call f args) (base0 G tabs) ⟨hs, []⟩) = some (v, ob)) (ho : All ob) (ha : args.all (plainB 100) = true) (hv : plainB 100 v = true) : Pure P G tabs f args v := by
  obtain ⟨_, σ', h⟩ := run_of hr ho
  exact top hZ hM ht hpf hFn h ha hv

/-- Equality of plain values of few kinds, for the kernel. -/
def veq1 : Value → Value → Bool
  | .int k n, .int k' n' => decide (k = k') && decide (n = n')
  | .bool a, .bool b => a == b
  | .string a, .string b => a.data.toList == b.data.toList
  | _, _ => false
def veqL : List Value → List Value → Bool
  | [], [] => true
  | a :: l, b :: m => veq1 a b && veqL l m
  | _, _ => false
def veq : Value → Value → Bool
  | .tuple a, .tuple b => veqL a.toList b.toList
  | a, b => veq1 a b

theorem ba_ext {a b : ByteArray} (h : a.data.toList = b.data.toList) : a = b := by
  cases a; cases b
  congr
  exact Array.toList_inj.1 h

theorem veq1_eq {a b : Value} (h : veq1 a b = true) : a = b := by
  unfold veq1 at h
  split at h
  · simp only [Bool.and_eq_true, decide_eq_true_eq] at h; rw [h.1, h.2]
  · rw [eq_of_beq h]
  · rw [ba_ext (eq_of_beq h)]
  · cases h
theorem veqL_eq : ∀ {l m : List Value}, veqL l m = true → l = m
  | [], [], _ => rfl
  | a :: l, b :: m, h => by
    simp only [veqL, Bool.and_eq_true] at h
    rw [veq1_eq h.1, veqL_eq h.2]
  | [], _ :: _, h => by cases h
  | _ :: _, [], h => by cases h
theorem veq_eq {a b : Value} (h : veq a b = true) : a = b := by
  unfold veq at h
  split at h
  · rename_i x y
    have := veqL_eq h
    rw [Array.toList_inj.1 this]
  · exact veq1_eq h

def valIs (v : Value) : Option (Out × AS) → Bool
  | some (.val u, _) => veq u v
  | _ => false
theorem valIs_spec {v : Value} {r : Option (Out × AS)} (h : valIs v r = true) : ∃ σ', r = some (.val v, σ') := by
  unfold valIs at h
  split at h
  · rename_i u σ'
    exact ⟨σ', by rw [veq_eq h]⟩
  · cases h

/-- Numbers that fit are what they are. -/
theorem wrap_fits (k : IntKind) {n : Int} (h1 : k.min ≤ n) (h2 : n ≤ k.max) : k.wrap n = n := by
  unfold IntKind.wrap
  cases k <;> simp only [IntKind.min, IntKind.max, IntKind.bits, IntKind.signed] at * <;> simp at * <;> omega

theorem wrap64 {n : Int} (h1 : -9223372036854775808 ≤ n) (h2 : n ≤ 9223372036854775807) : IntKind.i64.wrap n = n := wrap_fits .i64 h1 h2

end Go.Va
