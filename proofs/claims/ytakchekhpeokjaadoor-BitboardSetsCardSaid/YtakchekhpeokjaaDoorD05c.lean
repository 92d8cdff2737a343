/-
  BITBOARD (chapter 05): works is true; environments in which it is replaced.
-/
import Derived.Test.YtakchekhpeokjaaDoorD05b
import Derived.Test.YtakchekhpeokjaaDoorVap4
namespace Go.Proofs.YtakchekhpeokjaaDoor
open Go.Va

theorem mix_good (isP : FuncId → Bool) (pf : FuncId → List Value → Option Value) : OvGood (mixEnv isP pf) := by
  intro f args lim
  show Go.Va.Good lim (fun σ => bif Nat.beq f 76 then noEscA args σ else bif Nat.beq f 81 then makeNoZeroA 5 args σ else pureOv pf f args σ)
  exact Go.Va.Good.cond good_noEsc (Go.Va.Good.cond good_makeNoZero good_pureOv)

theorem name76 : (Tryd.f76.name == "runtime.NumGoroutine") = false := by kernel_rfl
theorem body76 : Tryd.f76.body.isNone = true := by kernel_rfl
theorem next76 : Extern.findNext Tryd.f76 = none := by kernel_rfl
theorem find76 : Extern.find Tryd.f76 = some Extern.AbiNoEscape.same := by kernel_rfl
theorem name81 : (Tryd.f81.name == "runtime.NumGoroutine") = false := by kernel_rfl
theorem body81 : Tryd.f81.body.isNone = true := by kernel_rfl
theorem next81 : Extern.findNext Tryd.f81 = none := by kernel_rfl
theorem find81 : Extern.find Tryd.f81 = some (Extern.BytealgMakeNoZero.makeNoZero #[3] #[60]) := by kernel_rfl

theorem mix_ok {isP : FuncId → Bool} {pf : FuncId → List Value → Option Value} 
    (hpf : ∀ f args v, isP f = true → pf f args = some v → Pure Tryd.prog 4 tabs f args v) (w : World) (hT : Tabs 4 tabs w) : OvOk Tryd.prog (CodeK 4 (mixEnv isP pf)) w w.heap.size 4 (mixEnv isP pf) := by
  intro f args lim σ v σ' hi hr
  have hr : (bif Nat.beq f 76 then noEscA args σ else bif Nat.beq f 81 then makeNoZeroA 5 args σ else pureOv pf f args σ) = some (v, σ') := hr
  cases h1 : Nat.beq f 76 with
  | true =>
    rw [h1, cond_true] at hr
    obtain rfl : f = 76 := Nat.eq_of_beq_eq_true h1
    exact ov_noEsc Tryd.func76 name76 body76 next76 find76 args lim σ v σ' hr
  | false =>
    rw [h1, cond_false] at hr
    cases h2 : Nat.beq f 81 with
    | true =>
      rw [h2, cond_true] at hr
      obtain rfl : f = 81 := Nat.eq_of_beq_eq_true h2
      exact ov_makeNoZero Tryd.func81 name81 body81 next81 find81 Tryd.underlying60 args lim σ v σ' hr
    | false =>
      rw [h2, cond_false] at hr
      have hi : (Nat.beq f 76 || Nat.beq f 81 || isP f) = true := hi
      rw [h1, h2, Bool.false_or, Bool.false_or] at hi
      intro β τ w1 args' hw hl hR hf hG ha
      exact pureOv_ok rfl (fun a v => hpf f a v hi) hT hT.1 hr hl hR ha

theorem pureM {isP : FuncId → Bool} {pf : FuncId → List Value → Option Value} 
    (hpf : ∀ f args v, isP f = true → pf f args = some v → Pure Tryd.prog 4 tabs f args v) (hFn : fnB Tryd.prog 4 (mixEnv isP pf) okL = true)
    {n : Nat} {f : FuncId} {args : List Value} {v : Value} (hs : List (Nat × Hint)) (ob : List Prop)
    (hr : upshot (runH Tryd.prog (mixEnv isP pf) n 0 (.call f args) (base0 4 tabs) ⟨hs, []⟩) = some (v, ob)) (ho : All ob) {u : Value} (hu : strip v = u) (hv : PF u) : Pure Tryd.prog 4 tabs f args u :=
  topH zeroOk mixed rfl (mix_good isP pf) (mix_ok hpf) (fnOk_of rfl hFn) hr ho hu hv

def dots : Value := .string ⟨#[46, 46, 46, 46, 46, 46, 46, 46]⟩
def pf1 : FuncId → List Value → Option Value
  | 56, [.string s, .int .i64 n] => bif veq1 (.string s) (.string ⟨#[46]⟩) && decide (n = 8) then some dots else none
  | _, _ => none
def is1 (f : Nat) : Bool := Nat.beq f 56
theorem pf1_pure : ∀ f args v, is1 f = true → pf1 f args = some v → Pure Tryd.prog 4 tabs f args v := by
  intro f args v _ hp
  unfold pf1 at hp
  split at hp
  · rename_i s n _
    cases hb : (veq1 (.string s) (.string ⟨#[46]⟩) && decide (n = 8)) with
    | false => rw [hb] at hp; cases hp
    | true =>
      rw [hb, cond_true] at hp
      cases hp
      simp only [Bool.and_eq_true, decide_eq_true_eq] at hb
      have hs : Value.string s = .string ⟨#[46]⟩ := veq1_eq hb.1
      cases hs
      rw [hb.2]
      exact repeat_pure ⟨#[46]⟩ 8 (by decide) (by decide) (by decide) (by decide)
  · cases hp

set_option maxRecDepth 100000 in
theorem fns2 : fnB Tryd.prog 4 (mixEnv is1 pf1) okL = true := by kernel_rfl

def isVal (v : Value → Bool) : Option (Out × AS) → Bool
  | some (.val u, _) => v u
  | _ => false
def isTrue : Value → Bool
  | .bool true => true
  | _ => false
theorem isTrue_spec {r : Option (Out × AS)} (h : isVal isTrue r = true) : ∃ σ', r = some (.val (.bool true), σ') := by
  unfold isVal at h
  split at h
  · rename_i u σ'
    unfold isTrue at h
    split at h
    · exact ⟨_, rfl⟩
    · cases h
  · cases h

set_option maxRecDepth 1000000 in
theorem works_run : isVal isTrue (run Tryd.prog (mixEnv is1 pf1) 3000 0 (.call 13 []) (base0 4 tabs)) = true := by kernel_rfl
theorem works_pure : Pure Tryd.prog 4 tabs 13 [] (.bool true) := by
  obtain ⟨σ', h⟩ := isTrue_spec works_run
  exact topW zeroOk mixed rfl (mix_good is1 pf1) (mix_ok pf1_pure) (fnOk_of rfl fns2) (runW_of h) rfl (.bool _)

/-- Repeat and works replaced. -/
def pf2 : FuncId → List Value → Option Value
  | 13, [] => some (.bool true)
  | f, args => pf1 f args
def is2 (f : Nat) : Bool := Nat.beq f 56 || Nat.beq f 13
theorem pf2_pure : ∀ f args v, is2 f = true → pf2 f args = some v → Pure Tryd.prog 4 tabs f args v := by
  intro f args v hf hp
  unfold pf2 at hp
  split at hp
  · cases hp; exact works_pure
  · rename_i h13
    simp only [is2, Bool.or_eq_true] at hf
    rcases hf with hf | hf
    · exact pf1_pure f args v hf hp
    · obtain rfl : f = 13 := Nat.eq_of_beq_eq_true hf
      cases hp
def envW : Env := mixEnv is2 pf2
set_option maxRecDepth 100000 in
theorem fnsW : fnB Tryd.prog 4 envW okL = true := by kernel_rfl
/-- The answer is told apart from the run's by its right to grow alone; 'plain': no list stands in it. -/
theorem pureWk {n : Nat} {f : FuncId} {args : List Value} {v : Value} (hs : List (Nat × Hint)) (ob : List Prop)
    (hr : upshot (runH Tryd.prog envW n 0 (.call f args) (base0 4 tabs) ⟨hs, []⟩) = some (v, ob)) (ho : All ob) (hu : strip v = v) (hv : plainB 100 v = true) : Pure Tryd.prog 4 tabs f args v :=
  pureM pf2_pure fnsW hs ob hr ho hu (plain_PF 100 v hv)

end Go.Proofs.YtakchekhpeokjaaDoor
