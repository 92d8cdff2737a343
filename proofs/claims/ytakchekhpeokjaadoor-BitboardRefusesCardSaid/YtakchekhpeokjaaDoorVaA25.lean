/-
  THE TOP: a run of the interpreter over the laid tables is a call of the machine; functions of plain values may be replaced.
-/
import Derived.Test.YtakchekhpeokjaaDoorVaA24
namespace Go.Va
open Go.RowKit
variable {P : Program} {G : Nat} {E : Env}

theorem plain_eq {β : Inj} : ∀ (n : Nat) (v v' : Value), plainB n v = true → vRel β v v' → v' = v := by
  intro n
  induction n with
  | zero => intro v v' h; simp [plainB] at h
  | succ n ih =>
    have arr : ∀ (xs ys : Array Value), xs.toList.all (plainB n) = true → xs.size = ys.size → (∀ i (h : i < xs.size) (h' : i < ys.size), vRel β xs[i] ys[i]) → ys = xs := by
      intro xs ys h hs hr
      refine Array.ext hs.symm fun i hi hi' => ?_
      exact ih _ _ (List.all_eq_true.1 h _ (by simp)) (hr i hi' hi)
    intro v v' h hr
    cases hr <;> first | rfl | (simp [plainB] at h; done) | skip
    case func fn fn' f f' c c' hfn h1 h2 h3 h4 =>
      simp only [plainB, Bool.and_eq_true] at h
      have e1 : fn' = fn := by
        cases fn <;> first | exact hfn | (simp at h)
      rw [e1, arr _ _ h.1.2 h1 h2, arr _ _ h.2 h3 h4]
    case iface t a a' ha =>
      simp only [plainB] at h
      rw [ih _ _ h ha]
    case agg f f' h1 h2 => simp only [plainB] at h; rw [arr _ _ h h1 h2]
    case tuple f f' h1 h2 => simp only [plainB] at h; rw [arr _ _ h h1 h2]
    all_goals (cases n <;> simp [plainB] at h)

/-- The tables that lie in the heap when all begins: which place, and what it holds. -/
def base0 (G : Nat) (tabs : List (Nat × List Value)) : AS := tabs.foldl (fun σ x => σ.put x.1 (some (.cells x.2 false (none, none) none))) { tr := .leaf, next := G }

/-- The tables lie in the world. -/
def Tabs (G : Nat) (tabs : List (Nat × List Value)) (w : World) : Prop :=
  G ≤ w.heap.size ∧ ∀ x ∈ tabs, ∃ C ty fr, w.heap[x.1]? = some (.cells C ty fr) ∧ ∀ i (_ : i < x.2.length), C[i]? = some x.2[i]

def tabsB (G : Nat) (tabs : List (Nat × List Value)) : Bool := tabs.all fun x => Nat.blt x.1 G && x.2.all (plainB 100)

theorem get_leaf (k : Nat) : (Tr.leaf : Tr AObj).get k = none := rfl

theorem base0_get (G : Nat) : ∀ (tabs : List (Nat × List Value)) (σ : AS) (id : Nat) (x : AObj), (tabs.foldl (fun σ x => σ.put x.1 (some (.cells x.2 false (none, none) none))) σ).get id = some x → σ.get id = some x ∨ ∃ y ∈ tabs, y.1 = id ∧ x = .cells y.2 false (none, none) none
  | [], σ, id, x, h => .inl h
  | y :: tabs, σ, id, x, h => by
    rcases base0_get G tabs _ id x h with h1 | ⟨z, hz, h2⟩
    · rw [AS.get_put] at h1
      split at h1
      · rename_i e
        exact .inr ⟨y, by simp, e.symm, by cases h1; rfl⟩
      · exact .inl h1
    · exact .inr ⟨z, by simp [hz], h2⟩
theorem base0_next : ∀ (tabs : List (Nat × List Value)) (σ : AS), (tabs.foldl (fun σ x => σ.put x.1 (some (.cells x.2 false (none, none) none))) σ).next = σ.next
  | [], σ => rfl
  | y :: tabs, σ => by
    show (tabs.foldl _ (σ.put y.1 _)).next = _
    rw [base0_next tabs]; simp

def inj0 (G : Nat) : Inj := fun i => if i < G then some ⟨i, 0, none⟩ else none

theorem base0_spec {tabs : List (Nat × List Value)} {id : Nat} {x : AObj} (h : (base0 G tabs).get id = some x) : ∃ y ∈ tabs, y.1 = id ∧ x = .cells y.2 false (none, none) none := by
  rcases base0_get G tabs _ id x h with h1 | h1
  · cases h1
  · exact h1

theorem base0_wf {tabs : List (Nat × List Value)} (ht : tabsB G tabs = true) : (base0 G tabs).Wf := by
  refine ⟨fun id hid => ?_, fun id x q hx hq => ?_⟩
  · cases h : (base0 G tabs).get id with
    | none => rfl
    | some x =>
      obtain ⟨y, hy, rfl, _⟩ := base0_spec h
      have := List.all_eq_true.1 ht y hy
      simp only [Bool.and_eq_true] at this
      have h1 := this.1
      rw [Nat.blt_eq] at h1
      have : (base0 G tabs).next = G := base0_next tabs _
      omega
  · obtain ⟨y, hy, _, rfl⟩ := base0_spec hx
    cases hq

theorem base0_R {K : FuncId → Code → Prop} {tabs : List (Nat × List Value)} (ht : tabsB G tabs = true) {w : World} (hT : Tabs G tabs w) : R K w w.heap.size (inj0 G) (base0 G tabs) w := by
  have hi : ∀ {i e}, inj0 G i = some e → i < G ∧ e = ⟨i, 0, none⟩ := by
    intro i e h
    unfold inj0 at h
    split at h
    · rename_i hlt; cases h; exact ⟨hlt, rfl⟩
    · cases h
  refine ⟨fun {id e c rw lo pv} hb hg => ?_, fun {id e o} hb hg => ?_, fun {i j ei ej x y} hij hbi hbj hgi hgj ho heq => ?_, fun {id e} hb => ?_, ⟨rfl, rfl, rfl, Nat.le_refl _, fun _ _ => rfl⟩, Nat.le_refl _, fun {id e r} hb hg => ?_⟩
  · obtain ⟨y, hy, rfl, hx⟩ := base0_spec hg
    cases hx
    obtain ⟨_, rfl⟩ := hi hb
    obtain ⟨C, ty, fr, h1, h2⟩ := hT.2 y hy
    have hpl := List.all_eq_true.1 ht y hy
    simp only [Bool.and_eq_true] at hpl
    refine ⟨C, ty, fr, h1, fun i hi => ⟨_, by rw [Nat.zero_add]; exact h2 i hi, plain_rel 100 _ (List.all_eq_true.1 hpl.2 _ (by simp))⟩, fun h => (by cases h), rfl, fun T hT => by cases hT⟩
  · obtain ⟨y, hy, _, hx⟩ := base0_spec hg; cases hx
  · obtain ⟨_, rfl⟩ := hi hbi
    obtain ⟨_, rfl⟩ := hi hbj
    exact absurd heq hij
  · obtain ⟨h, rfl⟩ := hi hb; have := hT.1; show id < _; omega
  · obtain ⟨y, hy, _, hx⟩ := base0_spec hg; cases hx

theorem plain_lRel {β : Inj} : ∀ l : List Value, l.all (plainB 100) = true → lRel β l l
  | [], _ => trivial
  | v :: l, h => by simp only [List.all_cons, Bool.and_eq_true] at h; exact ⟨plain_rel 100 v h.1, plain_lRel l h.2⟩

/-- WHAT A PURE FUNCTION DOES: it returns the value, and nothing that was there has turned. -/
def Pure (P : Program) (G : Nat) (tabs : List (Nat × List Value)) (f : FuncId) (args : List Value) (v : Value) : Prop :=
  ∀ w, Tabs G tabs w → Lands P (callFunc f args.toArray) w fun v' w' => v' = v ∧ Below w.heap.size w w'

/-- The functions that are replaced: by functions of plain values. -/
def pureEnv (ok : FuncId → Bool) (draws : FuncId → Nat → Option Plan) (isOv : FuncId → Bool) (pf : FuncId → List Value → Option Value) : Env :=
  { isOv, ok, draws, ov := fun f args _ σ => bif args.all (plainB 100) then (match pf f args with | some v => bif plainB 100 v then some (v, σ) else none | none => none) else none }

theorem pureEnv_good {ok : FuncId → Bool} {draws : FuncId → Nat → Option Plan} {isOv : FuncId → Bool} {pf : FuncId → List Value → Option Value} : OvGood (pureEnv ok draws isOv pf) := by
  intro f args lim
  simp only [pureEnv]
  refine Good.cond ?_ good_none
  cases pf f args with
  | none => exact good_none
  | some v => exact Good.cond (good_some v) good_none

theorem R.below {K : FuncId → Code → Prop} {W0 : World} {N0 : Nat} {β : Inj} {σ : AS} {w w' : World} (hR : R K W0 N0 β σ w) (hb : Below w.heap.size w w') : R K W0 N0 β σ w' := by
  have hsz : w.heap.size ≤ w'.heap.size := hb.size
  have get : ∀ j, j < w.heap.size → w'.heap[j]? = w.heap[j]? := hb.block
  exact
  { cells := fun hb' hg => by
      obtain ⟨C, ty, fr, h1, h2, h3, h4⟩ := hR.cells hb' hg
      exact ⟨C, ty, fr, by rw [get _ (hR.lt hb')]; exact h1, h2, h3, h4⟩
    obj := fun hb' hg => by
      obtain ⟨h1, h2, o', h3, h4⟩ := hR.obj hb' hg
      exact ⟨h1, h2, o', by rw [get _ (hR.lt hb')]; exact h3, h4⟩
    excl := hR.excl
    lt := fun hb' => by have := hR.lt hb'; omega
    base := hR.base.trans (hb.mono hR.top)
    top := by have := hR.top; omega
    code := hR.code }

theorem plain_lRel_eq {β : Inj} : ∀ (l m : List Value), l.all (plainB 100) = true → lRel β l m → m = l
  | [], [], _, _ => rfl
  | v :: l, u :: m, h, hr => by
    simp only [List.all_cons, Bool.and_eq_true] at h
    rw [plain_eq 100 v u h.1 hr.1, plain_lRel_eq l m h.2 hr.2]
  | [], _ :: _, _, hr => hr.elim
  | _ :: _, [], _, hr => hr.elim

theorem Tabs.below {tabs : List (Nat × List Value)} {N0 : Nat} {W0 w : World} (hT : Tabs G tabs W0) (ht : tabsB G tabs = true) (hG : G ≤ N0) (hb : Below N0 W0 w) : Tabs G tabs w := by
  refine ⟨Nat.le_trans hT.1 hb.size, fun x hx => ?_⟩
  obtain ⟨C, ty, fr, h1, h2⟩ := hT.2 x hx
  have := List.all_eq_true.1 ht x hx
  simp only [Bool.and_eq_true] at this
  have h3 := this.1
  rw [Nat.blt_eq] at h3
  exact ⟨C, ty, fr, by rw [hb.block _ (by omega)]; exact h1, h2⟩

theorem pureEnv_ok {K : FuncId → Code → Prop} {ok : FuncId → Bool} {draws : FuncId → Nat → Option Plan} {isOv : FuncId → Bool} {pf : FuncId → List Value → Option Value} {tabs : List (Nat × List Value)} (ht : tabsB G tabs = true)
    (hpf : ∀ f args v, isOv f = true → pf f args = some v → Pure P G tabs f args v) {W0 : World} {N0 : Nat} (hT : Tabs G tabs W0) (hN : G ≤ N0) : OvOk P K W0 N0 G (pureEnv ok draws isOv pf) := by
  intro f args lim σ v σ' hi hr β τ w args' hw hl hR hf hG ha
  simp only [pureEnv] at hi hr
  cases hpl : args.all (plainB 100) with
  | false => rw [hpl] at hr; cases hr
  | true =>
    rw [hpl, cond_true] at hr
    cases hv : pf f args with
    | none => rw [hv] at hr; cases hr
    | some u =>
      rw [hv] at hr
      dsimp only at hr
      cases hu : plainB 100 u with
      | false => rw [hu] at hr; cases hr
      | true =>
        rw [hu] at hr
        simp only [cond_true, Option.some.injEq, Prod.mk.injEq] at hr
        obtain ⟨rfl, rfl⟩ := hr
        have ea : args' = args.toArray := by
          have := plain_lRel_eq args args'.toList hpl ha
          rw [← this]
        rw [ea]
        refine (hpf f args u hi hv w (hT.below ht hN hR.base)).mono fun v' w' h => ?_
        obtain ⟨rfl, hb⟩ := h
        exact ⟨β, τ, .refl _ _, .refl hl, hR.below hb, plain_rel 100 _ hu⟩

/-- THE TOP THEOREM: what the interpreter answers, the machine answers; of what was there, nothing has turned. -/
theorem top {ok : FuncId → Bool} {draws : FuncId → Nat → Option Plan} {isOv : FuncId → Bool} {pf : FuncId → List Value → Option Value} {tabs : List (Nat × List Value)} (hZ : ZeroOk P) (hM : P.follows .mixedOrders = true) (ht : tabsB G tabs = true)
    (hpf : ∀ f args v, isOv f = true → pf f args = some v → Pure P G tabs f args v) (hFn : FnOk P G (pureEnv ok draws isOv pf)) {n : Nat} {f : FuncId} {args : List Value} {v : Value} {σ' : AS}
    (hr : run P (pureEnv ok draws isOv pf) n 0 (.call f args) (base0 G tabs) = some (.val v, σ')) (ha : args.all (plainB 100) = true) (hv : plainB 100 v = true) : Pure P G tabs f args v := by
  intro w hT
  have hS := (sound (W0 := w) (N0 := w.heap.size) hZ hM pureEnv_good (pureEnv_ok ht hpf hT hT.1) hFn n).1
  have hn : (base0 G tabs).next = G := base0_next tabs _
  refine (hS 0 f args (base0 G tabs) v σ' hr (inj0 G) (base0 G tabs) w args.toArray (base0_wf ht) ⟨rfl, fun _ _ => rfl⟩ (base0_R ht hT) (fun i h1 h2 => ?_) (fun g hg => ?_) (plain_lRel args ha)).mono fun v' w' h => ?_
  · unfold inj0; rw [if_neg (by omega)]
  · unfold inj0; rw [if_pos hg]
  · obtain ⟨β', τ', _, _, hR, hvr⟩ := h
    exact ⟨plain_eq 100 v v' hv hvr, hR.base⟩

/-- A pure function that has a body is called so. -/
theorem Pure.calls {tabs : List (Nat × List Value)} {f : FuncId} {args : List Value} {v : Value} (h : Pure P G tabs f args v) {fn : Func} (hfn : P.funcs[f]? = some fn) (hb : fn.body.isNone = false) (hname : (fn.name == "runtime.NumGoroutine") = false) {w : World} (hT : Tabs G tabs w) :
    Calls P f args.toArray w fun e w' => e = .returned v ∧ Below w.heap.size w w' := by
  have hcall : (callFunc f args.toArray).run P w = .ok (.enter f args.toArray) w := by
    unfold callFunc
    rw [run_bind']
    show (match P.funcs[f]? with | none => _ | some fn => _ : Sem Next).run P w = _
    rw [hfn]
    simp only [hname, Bool.false_eq_true, if_false, hb]
    rfl
  cases h w hT with
  | value h1 => rw [hcall] at h1; cases h1
  | skip h1 => rw [hcall] at h1; cases h1
  | row h1 => rw [hcall] at h1; cases h1
  | round h1 => rw [hcall] at h1; cases h1
  | enter h1 q =>
    rw [hcall] at h1
    cases h1
    intro cs
    obtain ⟨e, w', fr, ⟨v', rfl, rfl, hb⟩, r⟩ := q cs
    exact ⟨_, w', fr, ⟨rfl, hb⟩, r⟩

end Go.Va
