/-
  SIMULATION: the loops over functions, the deferred calls of them; cap.
-/
import Derived.Test.YtakchekhpeokjaaDoorVaA16
import Derived.Test.YtakchekhpeokjaaDoorVaA17
namespace Go.Va
open Go.RowKit
variable {P : Program} {K : FuncId → Code → Prop} {W0 : World} {N0 : Nat}

def lpRel (K : FuncId → Code → Prop) (β : Inj) (r r' : Loop) : Prop := oRel β (.loop r) (.loop r') ∧ K r.fn r.assign ∧ K r.fn r.body

theorem sim_getLoop {β : Inj} {l : Nat} {e : Ent} (he : β l = some e) : Sim P K W0 N0 β (Instr.getLoop l) (Instr.getLoop e.b) (fun β' r r' => β' = β ∧ lpRel K β r r') := by
  unfold Instr.getLoop
  refine Sim.getObj_bind he fun o o' ho hL => ?_
  cases ho with
  | loop h1 h2 h3 h4 h5 h6 ht hd h0 he' =>
    have := hL _ rfl
    exact .ret ⟨rfl, .loop h1 h2 h3 h4 h5 h6 ht hd h0 he', this⟩
  | _ => exact Sim.stuck

/-- The marks of a frame for the deferred calls of its loops over functions. -/
def dRel (β : Inj) : List Nat → List Deferred → Prop
  | [], [] => True
  | i :: l, d :: m => (∃ e a, β i = some e ∧ e.o = 0 ∧ d = { target := .collected e.b, args := a }) ∧ dRel β l m
  | _, _ => False

theorem dRel.mono {β β' : Inj} (hb : β.le β') : ∀ {l : List Nat} {m : List Deferred}, dRel β l m → dRel β' l m
  | [], [], _ => trivial
  | _ :: _, _ :: _, h => by
    obtain ⟨⟨e, a, h1, h2⟩, h3⟩ := h
    exact ⟨⟨e, a, hb _ _ h1, h2⟩, dRel.mono hb h3⟩
  | [], _ :: _, h => h.elim
  | _ :: _, [], h => h.elim
theorem dRel.append {β : Inj} : ∀ {l l2 : List Nat} {m m2 : List Deferred}, dRel β l m → dRel β l2 m2 → dRel β (l ++ l2) (m ++ m2)
  | [], _, [], _, _, h => h
  | _ :: _, _, _ :: _, _, h, k => ⟨h.1, dRel.append h.2 k⟩
  | [], _, _ :: _, _, h, _ => h.elim
  | _ :: _, _, [], _, h, _ => h.elim

def rdRel (β : Inj) : Option Nat → Option Nat → Prop
  | none, none => True
  | some l, some l' => ∃ e, β l = some e ∧ e.o = 0 ∧ l' = e.b
  | _, _ => False
theorem rdRel.mono {β β' : Inj} (hb : β.le β') {a a' : Option Nat} (h : rdRel β a a') : rdRel β' a a' := by
  cases a <;> cases a' <;> first | exact h | skip
  obtain ⟨e, h1, h2⟩ := h
  exact ⟨e, hb _ _ h1, h2⟩

def enRel (β : Inj) (r r' : Nat × List Deferred) : Prop := ∃ e, β r.1 = some e ∧ e.o = 0 ∧ r'.1 = e.b ∧ ∀ m, markIds r.2 = some m → dRel β m r'.2

theorem sim_enterLoop {β : Inj} {fn : FuncId} {t t' : Array Value} (ht : arrRel β t t') {params : Array Tmp} {assign body : Code} (hK1 : K fn assign) (hK2 : K fn body) {a a' : Option Nat} (ha : rdRel β a a') :
    Sim P K W0 N0 β (Instr.enterLoop fn t params assign body a) (Instr.enterLoop fn t' params assign body a') enRel := by
  unfold Instr.enterLoop
  have fin : ∀ (β1 : Inj) (d : Nat) (ed : Ent) (mk mk' : List Deferred), β.le β1 → β1 d = some ed → ed.o = 0 → (∀ m, markIds mk = some m → dRel β1 m mk') →
      Sim P K W0 N0 β1 (do pure (← newObj (.loop { state := .ready, pending := none, fn, tmps := t, params, assign, body, defers := d }), mk)) (do pure (← newObj (.loop { state := .ready, pending := none, fn, tmps := t', params, assign, body, defers := ed.b }), mk')) enRel := by
    intro β1 d ed mk mk' hb hd h0 hm
    refine Sim.newObj_bind (.loop rfl rfl rfl rfl rfl rfl (ht.mono hb) hd h0 rfl) (fun r hr => by cases hr; exact ⟨hK1, hK2⟩) fun β2 r e hb2 he h1 _ => ?_
    exact .ret ⟨e, he, h1, rfl, fun m h => (hm m h).mono hb2⟩
  cases a with
  | none =>
    cases a' with
    | some _ => exact ha.elim
    | none =>
      simp only [pure_bind]
      refine Sim.newObj_bind .def1 (fun r hr => by cases hr) fun β1 r e hb he h0 _ => ?_
      refine fin β1 r e _ _ hb he h0 fun m hm => ?_
      simp only [markIds, Option.some.injEq] at hm
      subst hm
      exact ⟨⟨e, _, he, h0, rfl⟩, trivial⟩
  | some l =>
    cases a' with
    | none => exact ha.elim
    | some l' =>
      obtain ⟨e, he, h0, rfl⟩ := ha
      simp only [pure_bind]
      refine Sim.bind0 (sim_getLoop he) fun r r' hr => ?_
      obtain ⟨hr, _⟩ := hr
      cases hr with
      | loop h1 h2 h3 h4 h5 h6 ht' hd h0' he' =>
        rw [he']
        refine fin β _ _ _ _ (.refl _) hd h0' fun m hm => ?_
        simp only [markIds, Option.some.injEq] at hm
        subst hm
        trivial

theorem fold_rel {β : Inj} : ∀ (ps : List Tmp) {as as' : List Value} {t t' : Array Value}, lRel β as as' → arrRel β t t' →
    arrRel β ((ps.zip as).foldl (fun tmps (x : Tmp × Value) => tmps.setIfInBounds x.1 x.2) t) ((ps.zip as').foldl (fun tmps (x : Tmp × Value) => tmps.setIfInBounds x.1 x.2) t')
  | [], _, _, _, _, _, ht => by simpa using ht
  | p :: ps, [], [], _, _, _, ht => by simpa using ht
  | p :: ps, a :: as, a' :: as', t, t', h, ht => by
    simp only [List.zip_cons_cons, List.foldl_cons]
    refine fold_rel ps h.2 (arrRel_iff.2 ?_)
    simp only [Array.toList_setIfInBounds]
    exact lRel.set h.1 _ (arrRel_iff.1 ht)
  | p :: ps, [], _ :: _, _, _, h, _ => h.elim
  | p :: ps, _ :: _, [], _, _, h, _ => h.elim

/-- A round is begun. -/
def ynRel (K : FuncId → Code → Prop) (β : Inj) (n n' : Next) : Prop :=
  ∃ l e fn t t' a b, n = .round l fn t a b ∧ n' = .round e.b fn t' a b ∧ β l = some e ∧ e.o = 0 ∧ arrRel β t t' ∧ K fn a ∧ K fn b

theorem sim_yield {β : Inj} {l : Nat} {e : Ent} (he : β l = some e) (h0 : e.o = 0) {as as' : Array Value} (ha : arrRel β as as') :
    Sim P K W0 N0 β (Instr.yield l as) (Instr.yield e.b as') (ynRel K) := by
  unfold Instr.yield
  refine Sim.bind0 (sim_getLoop he) fun r r' hr => ?_
  obtain ⟨hr, hk⟩ := hr
  cases hr with
  | loop h1 h2 h3 h4 h5 h6 ht' hd h0' he' =>
    rw [← ha.1, h4]
    by_cases hs : as.size ≠ r.params.size
    · rw [if_pos hs, if_pos hs]
      exact Sim.stuck
    · rw [if_neg hs, if_neg hs]
      dsimp only
      have hh := fold_rel r.params.toList (arrRel_iff.1 ha) ht'
      rw [← Array.toList_zip, ← Array.toList_zip, Array.foldl_toList, Array.foldl_toList] at hh
      rw [h3, h5, h6]
      exact .ret ⟨l, e, r.fn, _, _, r.assign, r.body, rfl, rfl, he, h0, hh, hk.1, hk.2⟩

theorem sim_beginRound {β : Inj} {l : Nat} {e : Ent} (he : β l = some e) : Sim P K W0 N0 β (Instr.beginRound l) (Instr.beginRound e.b) (fun β' _ _ => β' = β) := by
  unfold Instr.beginRound
  refine Sim.bind0 (sim_getLoop he) fun r r' hr => ?_
  obtain ⟨hr, hk⟩ := hr
  cases hr with
  | loop h1 h2 h3 h4 h5 h6 ht' hd h0' he' =>
    refine Sim.setObj_bind he (.loop rfl h2 h3 h4 h5 h6 ht' hd h0' he') (fun q hq => by cases hq; exact hk) ?_
    rw [h1]
    cases r.state
    · exact .ret rfl
    all_goals exact Sim.runtimePanic

theorem sim_endRound {β : Inj} {l : Nat} {e : Ent} (he : β l = some e) (j : Option Code) : Sim P K W0 N0 β (Instr.endRound l j) (Instr.endRound e.b j) (fun β' v v' => β' = β ∧ vRel β v v') := by
  unfold Instr.endRound
  refine Sim.bind0 (sim_getLoop he) fun r r' hr => ?_
  obtain ⟨hr, hk⟩ := hr
  cases hr with
  | loop h1 h2 h3 h4 h5 h6 ht' hd h0' he' =>
    refine Sim.setObj_bind he (.loop rfl rfl h3 h4 h5 h6 ht' hd h0' he') (fun q hq => by cases hq; exact hk) ?_
    exact .ret ⟨rfl, .bool _⟩

theorem sim_endLoop {β : Inj} {l : Nat} {e : Ent} (he : β l = some e) : Sim P K W0 N0 β (Instr.endLoop l) (Instr.endLoop e.b) (fun β' v v' => β' = β ∧ v' = v) := by
  unfold Instr.endLoop
  refine Sim.bind0 (sim_getLoop he) fun r r' hr => ?_
  obtain ⟨hr, hk⟩ := hr
  cases hr with
  | loop h1 h2 h3 h4 h5 h6 ht' hd h0' he' =>
    rw [h1]
    cases hb : (r.state == LoopState.busy) with
    | true => simp only [if_true]; exact Never.sim (Never.bind (never_runtimePanic _))
    | false =>
      simp only [Bool.false_eq_true, if_false]
      refine Sim.setObj_bind he (.loop rfl h2 h3 h4 h5 h6 ht' hd h0' he') (fun q hq => by cases hq; exact hk) ?_
      exact .ret ⟨rfl, h2⟩

theorem sim_takeDeferred {β : Inj} {l : Nat} {e : Ent} (he : β l = some e) : Sim P K W0 N0 β (Instr.takeDeferred l) (Instr.takeDeferred e.b) (fun β' v v' => β' = β ∧ v' = v) := by
  unfold Instr.takeDeferred
  refine Sim.getObj_bind he fun o o' ho hL => ?_
  cases ho with
  | def1 =>
    refine Sim.setObj_bind he .def0 (fun q hq => by cases hq) ?_
    exact .ret ⟨rfl, rfl⟩
  | _ => exact Sim.stuck

theorem sim2_cap {β : Inj} {_lim : Nat} {argTypes : Array TypeId} {ty : TypeId} {args : List Value} {args' : Array Value} (ha : lRel β args args'.toList) :
    Sim2 P K W0 N0 β (fun σ => capA P argTypes args σ) (Builtin.cap_ argTypes ty args') := by
  intro σ w v σ' hw hR hr hf
  simp only [capA] at hr
  split at hr
  case h_2 => cases hr
  rename_i sType base l cap h0
  have e0 : args'.toList.length = 1 := by rw [← ha.length]; rfl
  obtain ⟨x', hx'⟩ : ∃ x', args'.toList = [x'] := by
    cases h : args'.toList with
    | nil => rw [h] at e0; simp at e0
    | cons a r => cases r with
      | nil => exact ⟨a, rfl⟩
      | cons b r => rw [h] at e0; simp at e0
  have ea : args'[0]? = some x' := by rw [← Array.getElem?_toList, hx']; rfl
  rw [hx'] at ha
  have hv : vRel β (.slice base l cap) x' := ha.1
  split at hr
  case h_2 => cases hr
  rename_i elem hd
  have run : ∀ c b', x' = .slice b' l c → (Builtin.cap_ argTypes ty args').run P w = .ok (goInt c) w := by
    intro c b' hx
    unfold Builtin.cap_
    rw [h0, ea, hx]
    dsimp only
    rw [run_bind', run_underlying' _ w _ hd]
    rfl
  cases base with
  | none =>
    simp only [Option.some.injEq, Prod.mk.injEq] at hr
    obtain ⟨rfl, rfl⟩ := hr
    cases hv
    exact ⟨_, w, β, run _ _ rfl, .refl _ _, hR, .int _ _⟩
  | some p =>
    dsimp only at hr
    cases hc : (p.spot.isNone && σ.exact p cap) with
    | false => simp [hc] at hr
    | true =>
      simp only [hc, cond_true, Option.some.injEq, Prod.mk.injEq] at hr
      obtain ⟨rfl, rfl⟩ := hr
      simp only [Bool.and_eq_true] at hc
      cases hv with
      | slice _ h hcap =>
        have := exact_cap hR hcap hc.2
        exact ⟨_, w, β, run _ _ rfl, .refl _ _, hR, by rw [this]; exact .int _ _⟩
      | void a' c' h => rw [Option.isNone_iff_eq_none] at hc; rw [hc.1] at h; cases h

end Go.Va
