/-
  SUPERBLOCK (chapter 36): environments in which functions of plain values are replaced; strings counted and searched for one byte.
-/
import Derived.Test.YtcjjlajpbakaoaaGreatDoorD36b
import Derived.Test.YtcjjlajpbakaoaaGreatDoorVap4
import Derived.Test.YtcjjlajpbakaoaaGreatDoorVap5
import Derived.Lib.Bytealg
namespace Go.Proofs.YtcjjlajpbakaoaaGreatDoor
open Go.Va

theorem codeB_draws {G : Nat} {E E' : Env} {fn : FuncId} (h : E.draws = E'.draws) : ∀ c, codeB G E fn c = codeB G E' fn c := by
  intro c
  induction c <;> simp_all [codeB]
theorem fnB_draws {P : Program} {G : Nat} {E E' : Env} (h : E.draws = E'.draws) (l : List Nat) : fnB P G E l = fnB P G E' l := by
  unfold fnB
  congr 1
  funext f
  cases P.funcs[f]? with
  | none => rfl
  | some fn =>
    dsimp only
    cases fn.body with
    | none => rfl
    | some c =>
      dsimp only
      rw [codeB_draws h]
theorem fnsM (isP : FuncId → Bool) (pf : FuncId → List Value → Option Value) : fnB Tryz.prog 9 (mixEnv isP pf) okL = true :=
  (fnB_draws (E := mixEnv isP pf) (E' := env1) rfl okL).trans fns1

theorem mix_good (isP : FuncId → Bool) (pf : FuncId → List Value → Option Value) : OvGood (mixEnv isP pf) := by
  intro f args lim
  show Go.Va.Good lim (fun σ => bif Nat.beq f 169 then noEscA args σ else bif Nat.beq f 170 then makeNoZeroA 5 args σ else pureOv pf f args σ)
  exact Go.Va.Good.cond good_noEsc (Go.Va.Good.cond good_makeNoZero good_pureOv)

theorem name169 : (Tryz.f169.name == "runtime.NumGoroutine") = false := by kernel_rfl
theorem body169 : Tryz.f169.body.isNone = true := by kernel_rfl
theorem next169 : Extern.findNext Tryz.f169 = none := by kernel_rfl
theorem find169 : Extern.find Tryz.f169 = some Extern.AbiNoEscape.same := by kernel_rfl
theorem name170 : (Tryz.f170.name == "runtime.NumGoroutine") = false := by kernel_rfl
theorem body170 : Tryz.f170.body.isNone = true := by kernel_rfl
theorem next170 : Extern.findNext Tryz.f170 = none := by kernel_rfl
theorem find170 : Extern.find Tryz.f170 = some (Extern.BytealgMakeNoZero.makeNoZero #[3] #[37]) := by kernel_rfl

theorem mix_ok {isP : FuncId → Bool} {pf : FuncId → List Value → Option Value} 
    (hpf : ∀ f args v, isP f = true → pf f args = some v → Pure Tryz.prog 9 tabs f args v) (w : World) (hT : Tabs 9 tabs w) : OvOk Tryz.prog (CodeK 9 (mixEnv isP pf)) w w.heap.size 9 (mixEnv isP pf) := by
  intro f args lim σ v σ' hi hr
  have hr : (bif Nat.beq f 169 then noEscA args σ else bif Nat.beq f 170 then makeNoZeroA 5 args σ else pureOv pf f args σ) = some (v, σ') := hr
  cases h1 : Nat.beq f 169 with
  | true =>
    rw [h1, cond_true] at hr
    obtain rfl : f = 169 := Nat.eq_of_beq_eq_true h1
    exact ov_noEsc Tryz.func169 name169 body169 next169 find169 args lim σ v σ' hr
  | false =>
    rw [h1, cond_false] at hr
    cases h2 : Nat.beq f 170 with
    | true =>
      rw [h2, cond_true] at hr
      obtain rfl : f = 170 := Nat.eq_of_beq_eq_true h2
      exact ov_makeNoZero Tryz.func170 name170 body170 next170 find170 Tryz.underlying37 args lim σ v σ' hr
    | false =>
      rw [h2, cond_false] at hr
      have hi : (Nat.beq f 169 || Nat.beq f 170 || isP f) = true := hi
      rw [h1, h2, Bool.false_or, Bool.false_or] at hi
      intro β τ w1 args' hw hl hR hf hG ha
      exact pureOv_ok rfl (fun a v => hpf f a v hi) hT hT.1 hr hl hR ha

/-- The environment of a table. -/
def envT (l : Ktab) : Env := mixEnv (isT l) (pfT l)
theorem pureT {l : Ktab} (hl : TOk Tryz.prog 9 tabs l) {n : Nat} {f : FuncId} {args : List Value} {v u : Value} (hs : List (Nat × Hint)) (ob : List Prop)
    (hr : upshot (runH Tryz.prog (envT l) n 0 (.call f args) (base0 9 tabs) ⟨hs, []⟩) = some (v, ob)) (ho : All ob) (hu : strip v = u) (hv : PF u) : Pure Tryz.prog 9 tabs f args u :=
  topH zeroOk mixed rfl (mix_good _ _) (mix_ok fun f args v _ h => pfT_pure hl f args v h) (fnOk_of rfl (fnsM _ _)) hr ho hu hv
theorem pureR {l : Ktab} (hl : TOk Tryz.prog 9 tabs l) {f : FuncId} {args : List Value} {v u : Value} {σ' : AS}
    (hr : runW Tryz.prog (envT l) 0 (.call f args) (base0 9 tabs) = some (.val v, σ')) (hu : strip v = u) (hv : PF u) : Pure Tryz.prog 9 tabs f args u :=
  topW zeroOk mixed rfl (mix_good _ _) (mix_ok fun f args v _ h => pfT_pure hl f args v h) (fnOk_of rfl (fnsM _ _)) hr hu hv
theorem pfT_ne {g f : FuncId} {k : List Value → Option Value} {l : Ktab} {args : List Value} (h : Nat.beq g f = false) : pfT ((g, k) :: l) f args = pfT l f args := by
  show (bif Nat.beq g f then k args else pfT l f args) = _
  rw [h, cond_false]
theorem pfT_eq {f : FuncId} {k : List Value → Option Value} {l : Ktab} {args : List Value} : pfT ((f, k) :: l) f args = k args := by
  show (bif Nat.beq f f then k args else pfT l f args) = _
  rw [Nat.beq_refl, cond_true]
theorem envT_ov {l : Ktab} {f : FuncId} {args : List Value} {lim : Nat} {σ : AS} {v : Value} (h1 : Nat.beq f 169 = false) (h2 : Nat.beq f 170 = false) (h : pureOv (pfT l) f args σ = some (v, σ)) : (envT l).ov f args lim σ = some (v, σ) := by
  show (bif Nat.beq f 169 then noEscA args σ else bif Nat.beq f 170 then makeNoZeroA 5 args σ else pureOv (pfT l) f args σ) = _
  rw [h1, h2]
  exact h
/-- A replaced function of the table. -/
theorem envK {l : Ktab} {f : FuncId} {args args' : List Value} {lim : Nat} {σ : AS} {v : Value} (h1 : Nat.beq f 169 = false) (h2 : Nat.beq f 170 = false) (h3 : args.map strip = args') (h4 : args'.all (flatB 100) = true) (h : pfT l f args' = some v) :
    (envT l).ov f args lim σ = some (v, σ) := envT_ov h1 h2 (pureOv_of (by rw [h3]; exact h4) (by rw [h3]; exact h))

/-- A function of the model's own that answers at once. -/
theorem pure_of_same {P : Program} {G : Nat} {tabs : List (Nat × List Value)} {f : FuncId} {args : List Value} {v : Value} (ha : args.all (plainB 100) = true) (hv : plainB 100 v = true) (h : ∀ w, (callFunc f args.toArray).run P w = .ok (.value v) w) : Pure P G tabs f args v := by
  refine ⟨plain_PF 100 v hv, fun w hT z hz args' hargs => ?_⟩
  have ea : args' = args.toArray := by
    have := plain_lRel_eq args args'.toList ha hargs
    rw [← this]
  subst ea
  exact .value (h w) ⟨RowKit.Below.refl _ _, z, hz, .refl _, plain_rel 100 v hv⟩

theorem next173 : Extern.findNext Tryz.f173 = Option.none := by kernel_rfl
theorem find173 : Extern.find Tryz.f173 = some Extern.BytealgCount.count := by kernel_rfl
theorem body173 : Tryz.f173.body.isNone = true := by kernel_rfl
theorem name173 : (Tryz.f173.name == "runtime.NumGoroutine") = false := by kernel_rfl
theorem next196 : Extern.findNext Tryz.f196 = Option.none := by kernel_rfl
theorem find196 : Extern.find Tryz.f196 = some Extern.BytealgIndexByte.indexByte := by kernel_rfl
theorem body196 : Tryz.f196.body.isNone = true := by kernel_rfl
theorem name196 : (Tryz.f196.name == "runtime.NumGoroutine") = false := by kernel_rfl
def k173 : List Value → Option Value
  | [.string s, .int .u8 c] => some (.int .i64 (Lib.countByte s.data.toList c.toNat.toUInt8))
  | _ => none
def k196 : List Value → Option Value
  | [.string s, .int .u8 c] => some (.int .i64 (Lib.indexByte s.data.toList c.toNat.toUInt8))
  | _ => none
theorem p173 : KOk Tryz.prog 9 tabs 173 k173 := by
  intro args v hp
  unfold k173 at hp
  split at hp
  · rename_i s c
    simp only [Option.some.injEq] at hp
    subst hp
    refine pure_of_same rfl rfl fun w => ?_
    unfold callFunc
    rw [run_bind', show (Go.program).run Tryz.prog w = .ok Tryz.prog w from rfl]
    simp only [Tryz.func173, name173, Bool.false_eq_true, if_false, body173, if_true, next173, find173]
    rw [run_bind', show ∀ m, (Go.mark m).run Tryz.prog w = .ok () w from fun _ => rfl]
    dsimp only
    rw [run_bind', Lib.run_countString]
    rfl
  · cases hp
theorem p196 : KOk Tryz.prog 9 tabs 196 k196 := by
  intro args v hp
  unfold k196 at hp
  split at hp
  · rename_i s c
    simp only [Option.some.injEq] at hp
    subst hp
    refine pure_of_same rfl rfl fun w => ?_
    unfold callFunc
    rw [run_bind', show (Go.program).run Tryz.prog w = .ok Tryz.prog w from rfl]
    simp only [Tryz.func196, name196, Bool.false_eq_true, if_false, body196, if_true, next196, find196]
    rw [run_bind', show ∀ m, (Go.mark m).run Tryz.prog w = .ok () w from fun _ => rfl]
    dsimp only
    rw [run_bind', Lib.run_indexByteString]
    rfl
  · cases hp

def inI (n : Int) : Bool := decide (-9223372036854775808 ≤ n) && decide (n ≤ 9223372036854775807)
def k44 : List Value → Option Value
  | [.int .i64 n] => bif inI n then some (itoaV n) else none
  | _ => none
theorem k44_ok : KOk Tryz.prog 9 tabs 44 k44 := by
  intro args v hp
  unfold k44 at hp
  split at hp
  · rename_i n
    cases hb : inI n with
    | false => rw [hb] at hp; cases hp
    | true =>
      rw [hb, cond_true] at hp
      cases hp
      simp only [inI, Bool.and_eq_true, decide_eq_true_eq] at hb
      exact p44 n hb.1 hb.2
  · cases hp

def t1 : Ktab := [(44, k44), (173, k173), (196, k196)]
theorem t1_ok : TOk Tryz.prog 9 tabs t1 := ⟨k44_ok, p173, p196, trivial⟩

end Go.Proofs.YtcjjlajpbakaoaaGreatDoor
