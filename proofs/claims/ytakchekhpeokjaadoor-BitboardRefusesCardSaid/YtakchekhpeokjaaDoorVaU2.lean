/-
  ENVIRONMENTS in which functions of plain values are replaced, and some functions without a body: abi.NoEscape, bytealg.MakeNoZero.
-/
import Derived.Test.YtakchekhpeokjaaDoorVaT4
import Derived.Laws.Externs
import Derived.Lib.MakeNoZero
namespace Go.Va
open Go.RowKit
variable {P : Program} {G : Nat}

/-- THE TOP THEOREM, of any environment. -/
theorem topE {E : Env} {tabs : List (Nat × List Value)} (hZ : ZeroOk P) (hM : P.follows .mixedOrders = true) (ht : tabsB G tabs = true) (hGood : OvGood E)
    (hOk : ∀ w, Tabs G tabs w → OvOk P (CodeK G E) w w.heap.size G E) (hFn : FnOk P G E) {f : FuncId} {args : List Value} {v : Value} {σ' : AS}
    (hr : runW P E 0 (.call f args) (base0 G tabs) = some (.val v, σ')) (ha : args.all (plainB 100) = true) (hv : plainB 100 v = true) : Pure P G tabs f args v := by
  intro w hT
  obtain ⟨n, hr⟩ := runW_some hr
  have hS := (sound (W0 := w) (N0 := w.heap.size) hZ hM hGood (hOk w hT) hFn n).1
  have hn : (base0 G tabs).next = G := base0_next tabs _
  refine (hS 0 f args (base0 G tabs) v σ' hr (inj0 G) (base0 G tabs) w args.toArray (base0_wf ht) ⟨rfl, fun _ _ => rfl⟩ (base0_R ht hT) (fun i h1 h2 => ?_) (fun g hg => ?_) (plain_lRel args ha)).mono fun v' w' h => ?_
  · unfold inj0; rw [if_neg (by omega)]
  · unfold inj0; rw [if_pos hg]
  · obtain ⟨β', τ', _, _, hR, hvr⟩ := h
    exact ⟨plain_eq 100 v v' hv hvr, hR.base⟩

theorem topH {E : Env} {tabs : List (Nat × List Value)} (hZ : ZeroOk P) (hM : P.follows .mixedOrders = true) (ht : tabsB G tabs = true) (hGood : OvGood E)
    (hOk : ∀ w, Tabs G tabs w → OvOk P (CodeK G E) w w.heap.size G E) (hFn : FnOk P G E) {n : Nat} {f : FuncId} {args : List Value} {v : Value} {hs : List (Nat × Hint)} {ob : List Prop}
    (hr : upshot (runH P E n 0 (.call f args) (base0 G tabs) ⟨hs, []⟩) = some (v, ob)) (ho : All ob) (ha : args.all (plainB 100) = true) (hv : plainB 100 v = true) : Pure P G tabs f args v := by
  obtain ⟨m, σ', h⟩ := run_of hr ho
  exact topE hZ hM ht hGood hOk hFn (runW_of h) ha hv

/-- abi.NoEscape: the value as it is. -/
def noEscA (args : List Value) (σ : AS) : Option (Value × AS) :=
  match args with
  | [x] => some (x, σ)
  | _ => none
/-- bytealg.MakeNoZero: a row of which nothing is known. -/
def makeNoZeroA (e : TypeId) (args : List Value) (σ : AS) : Option (Value × AS) :=
  match args with
  | [.int .i64 n] => bif decide (0 ≤ n) && decide (n ≤ 281474976710656) then some (.slice (some ⟨σ.next, 0, none⟩) n.toNat 0, σ.push (.cells [] true (some 1, some e) none)) else none
  | _ => none

theorem good_noEsc {lim : Nat} {args : List Value} : Good lim (fun σ => noEscA args σ) := by
  unfold noEscA
  split
  · exact good_some _
  · exact good_none
theorem good_makeNoZero {lim : Nat} {e : TypeId} {args : List Value} : Good lim (fun σ => makeNoZeroA e args σ) := by
  unfold makeNoZeroA
  split
  · exact Good.cond (good_push (mk := fun r => .slice (some ⟨r, 0, none⟩) _ 0)) good_none
  · exact good_none

/-- One function is rightly replaced, in these worlds. -/
def OvAt (P : Program) (K : FuncId → Code → Prop) (W0 : World) (N0 G : Nat) (f : FuncId) (ov : List Value → Nat → AS → Option (Value × AS)) : Prop :=
  ∀ args lim σ v σ', ov args lim σ = some (v, σ') → ∀ β τ w (args' : Array Value), σ.Wf → σ.Like τ → R K W0 N0 β τ w → Fresh β σ σ' → GlobOk G β → lRel β args args'.toList → Lands P (callFunc f args') w (Post K W0 N0 β σ σ' τ v)

variable {K : FuncId → Code → Prop} {W0 : World} {N0 : Nat}

theorem ov_noEsc {f : FuncId} {fn : Func} (hf : P.funcs[f]? = some fn) (hname : (fn.name == "runtime.NumGoroutine") = false) (hb : fn.body.isNone = true) (hn : Extern.findNext fn = none) (he : Extern.find fn = some Extern.AbiNoEscape.same) :
    OvAt P K W0 N0 G f fun args _ σ => noEscA args σ := by
  intro args lim σ v σ' hr β τ w args' hw hl hR hF hG ha
  unfold noEscA at hr
  dsimp only at hr
  split at hr
  case h_2 => cases hr
  cases hr
  obtain ⟨x', rfl, hx⟩ := one_arg ha
  refine .value (v := x') (w' := w) ?_ ⟨β, τ, .refl _ _, .refl hl, hR, hx⟩
  rw [run_callFunc_extern hf hname hb hn he, Lib.run_noEscape]
  rfl

theorem ov_makeNoZero {f : FuncId} {fn : Func} {ps : Array TypeId} {t e : TypeId} (hf : P.funcs[f]? = some fn) (hname : (fn.name == "runtime.NumGoroutine") = false) (hb : fn.body.isNone = true) (hn : Extern.findNext fn = none)
    (he : Extern.find fn = some (Extern.BytealgMakeNoZero.makeNoZero ps #[t])) (ht : P.underlying t = some (.slice e)) : OvAt P K W0 N0 G f fun args _ σ => makeNoZeroA e args σ := by
  intro args lim σ v σ' hr β τ w args' hw hl hR hF hG ha
  unfold makeNoZeroA at hr
  dsimp only at hr
  split at hr
  case h_2 => cases hr
  rename_i n
  cases hb0 : (decide (0 ≤ n) && decide (n ≤ 281474976710656)) with
  | false => rw [hb0] at hr; cases hr
  | true =>
    rw [hb0, cond_true] at hr
    cases hr
    simp only [Bool.and_eq_true, decide_eq_true_eq] at hb0
    obtain ⟨x', rfl, hx⟩ := one_arg ha
    cases hx
    obtain ⟨m, rfl⟩ : ∃ m : Nat, n = m := ⟨n.toNat, by omega⟩
    obtain ⟨cs, h1, h2, _⟩ := Lib.run_makeNoZero (P := P) w ps t e ht m (by omega)
    have hcall : (callFunc f #[.int .i64 m]).run P w = .ok (.value (.slice (some ⟨w.heap.size, 0, none⟩) m cs.size)) (w.drew.drew.alloc (.cells cs e)) := by
      rw [run_callFunc_extern hf hname hb hn he, h1]
      rfl
    have hRd : R K W0 N0 β τ w.drew.drew := by
      have := (hR.drawn (w.drawn + 1)).drawn (w.drawn + 1 + 1)
      exact this
    have hfn : β τ.next = none := by
      rw [hl.1]
      exact hF _ (Nat.le_refl _) (by simp)
    obtain ⟨R2, hle⟩ := hRd.push hfn (x := .cells [] true (some 1, some e) none) (o' := .cells cs e) (e := ⟨w.heap.size, 0, some (0, 1, cs.size)⟩) rfl
      ⟨cs, e, (0, 0), rfl, fun i hi => by simp at hi, fun _ i _ h => by simp at h, rfl, fun T hT => by cases hT; exact ⟨rfl, fun h => by cases h⟩⟩
    have hnx : τ.next = σ.next := hl.1
    refine .value hcall ⟨_, τ.push (.cells [] true (some 1, some e) none), ⟨hle, fun i e' h' => ?_⟩, ⟨by simp [hnx], fun id hid => ?_, fun id hid => ?_⟩, R2, ?_⟩
    · replace h' : (if i = τ.next then some (⟨w.heap.size, 0, some (0, 1, cs.size)⟩ : Ent) else β i) = some e' := h'
      split at h'
      · exact .inr ⟨by omega, by rw [AS.next_push]; omega⟩
      · exact .inl h'
    · rw [AS.get_push, AS.get_push, hnx]
      simp only [AS.next_push] at hid
      split
      · rfl
      · exact hl.2 _ (by omega)
    · simp only [AS.next_push] at hid
      rw [AS.get_push, if_neg (by omega)]
    · have : ((m : Int)).toNat = m := by omega
      rw [this]
      refine .slice m ⟨rfl, ⟨w.heap.size, 0, some (0, 1, cs.size)⟩, by show (if σ.next = τ.next then _ else _) = _; rw [hnx, if_pos rfl], rfl⟩ (.inr ⟨⟨w.heap.size, 0, some (0, 1, cs.size)⟩, 0, 1, cs.size, by show (if σ.next = τ.next then _ else _) = _; rw [hnx, if_pos rfl], rfl, by simp, by simp, Nat.zero_le _⟩)

/-- A contract of the shelf's kind, as a pure function. -/
theorem pure_of_calls {tabs : List (Nat × List Value)} {f : FuncId} {fn : Func} {args : List Value} {v : Value} (hfn : P.funcs[f]? = some fn) (hname : (fn.name == "runtime.NumGoroutine") = false) (hb : fn.body.isNone = false)
    (h : ∀ w, Tabs G tabs w → Calls P f args.toArray w fun e w' => e = .returned v ∧ Below w.heap.size w w') : Pure P G tabs f args v := by
  intro w hT
  have hcall : (callFunc f args.toArray).run P w = .ok (.enter f args.toArray) w := by
    unfold callFunc
    rw [run_bind']
    show (match P.funcs[f]? with | none => _ | some fn => _ : Sem Next).run P w = _
    rw [hfn]
    simp only [hname, Bool.false_eq_true, if_false, hb]
    rfl
  exact .enter hcall ((h w hT).mono fun e w' ⟨he, hb⟩ => ⟨_, he, rfl, hb⟩)

end Go.Va
