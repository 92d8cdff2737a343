/-
  SIMULATION: the primitives, and the small helpers of the model.
-/
import Derived.Test.YtakchekhpeokjaaDoorVaA3
namespace Go.Va
open Go.RowKit
variable {P : Program} {K : FuncId → Code → Prop} {W0 : World} {N0 : Nat}

def LoopOk (K : FuncId → Code → Prop) (o : Obj) : Prop := ∀ r, o = .loop r → K r.fn r.assign ∧ K r.fn r.body

theorem Sim.newCells {α α' : Type} {β : Inj} {C C' : Array Value} {ty : TypeId} {k : Nat → Sem α} {k' : Nat → Sem α'} {A : Inj → α → α' → Prop} (hC : arrRel β C C')
    (hk : ∀ β' r e, β.le β' → β' r = some e → e.o = 0 → e.tail = none → Sim P K W0 N0 β' (k r) (k' e.b) A) :
    Sim P K W0 N0 β (.new (.cells C ty) k) (.new (.cells C' ty) k') A := by
  intro lim σ w u σ2 hw hR hr hf
  simp only [runA, fresh, cond_true, Bool.and_self, Nat.beq] at hr
  have kp := kept_push lim σ (.cells C.toList true (none, some ty) none) (fun q h => by cases h)
  have k2 := nx_runA _ hr
  have hn : σ.next < σ2.next := by have := k2.next; simp at this; omega
  have hl := arrRel_iff.1 hC
  obtain ⟨R1, hle⟩ := hR.push (hf _ (Nat.le_refl _) hn) (x := .cells C.toList true (none, some ty) none) (o' := .cells C' ty) (e := ⟨w.heap.size, 0, none⟩) rfl
    ⟨C', ty, (0, 0), rfl, fun i hi => by
      have hi' : i < C'.toList.length := by rw [← hl.length]; exact hi
      exact ⟨C'.toList[i], by simp at hi'; simp [hi'], hl.get i hi hi'⟩, fun _ i _ h => by simp at h, rfl, fun T hT => by cases hT; exact ⟨rfl, fun _ => ⟨rfl, by have := hl.length; simpa using this.symm⟩⟩⟩
  obtain ⟨u', w', β', e1, x1, R2, a1⟩ := hk _ σ.next ⟨w.heap.size, 0, none⟩ hle (by simp) rfl rfl lim _ _ u σ2 trivial R1 hr (fun i h h' => by
    simp at h
    show (if i = σ.next then _ else β i) = none
    rw [if_neg (by omega)]; exact hf i (by omega) h')
  refine ⟨u', w', β', by simp only [Sem.run]; exact e1, ⟨hle.trans x1.1, fun i e he => ?_⟩, R2, a1⟩
  rcases x1.2 i e he with h | h
  · dsimp only at h
    split at h
    · exact .inr ⟨by omega, by omega⟩
    · exact .inl h
  · simp at h; exact .inr ⟨by omega, h.2⟩

theorem Sim.newObj {α α' : Type} {β : Inj} {o o' : Obj} {k : Nat → Sem α} {k' : Nat → Sem α'} {A : Inj → α → α' → Prop} (ho : oRel β o o') (hL : LoopOk K o)
    (hk : ∀ β' r e, β.le β' → β' r = some e → e.o = 0 → e.tail = none → Sim P K W0 N0 β' (k r) (k' e.b) A) :
    Sim P K W0 N0 β (.new o k) (.new o' k') A := by
  intro lim σ w u σ2 hw hR hr hf
  have hfr : fresh o = some (.obj o) := by cases ho <;> rfl
  simp only [runA, hfr] at hr
  have kp := kept_push lim σ (.obj o) (fun q h => by cases h)
  have k2 := nx_runA _ hr
  have hn : σ.next < σ2.next := by have := k2.next; simp at this; omega
  obtain ⟨R1, hle⟩ := hR.push (hf _ (Nat.le_refl _) hn) (x := .obj o) (o' := o') (e := ⟨w.heap.size, 0, none⟩) rfl ⟨rfl, ho, hL⟩
  obtain ⟨u', w', β', e1, x1, R2, a1⟩ := hk _ σ.next ⟨w.heap.size, 0, none⟩ hle (by simp) rfl rfl lim _ _ u σ2 trivial R1 hr (fun i h h' => by
    simp at h
    show (if i = σ.next then _ else β i) = none
    rw [if_neg (by omega)]; exact hf i (by omega) h')
  refine ⟨u', w', β', by simp only [Sem.run]; exact e1, ⟨hle.trans x1.1, fun i e he => ?_⟩, R2, a1⟩
  rcases x1.2 i e he with h | h
  · dsimp only at h
    split at h
    · exact .inr ⟨by omega, by omega⟩
    · exact .inl h
  · simp at h; exact .inr ⟨by omega, h.2⟩

theorem Sim.getObj {α α' : Type} {β : Inj} {r : Nat} {e : Ent} {k : Obj → Sem α} {k' : Obj → Sem α'} {A : Inj → α → α' → Prop} (he : β r = some e)
    (hk : ∀ o o', oRel β o o' → LoopOk K o → Sim P K W0 N0 β (k o) (k' o') A) : Sim P K W0 N0 β (.getObj r k) (.getObj e.b k') A := by
  intro lim σ w u σ2 hw hR hr hf
  simp only [runA] at hr
  split at hr
  · rename_i o hg
    obtain ⟨_, _, o', h1, h2⟩ := hR.obj he hg
    obtain ⟨u', w', β', e1, x1, R2, a1⟩ := hk o o' h2 (fun l hl => hR.code he (by rw [hg, hl])) lim σ w u σ2 hw hR hr hf
    refine ⟨u', w', β', ?_, x1, R2, a1⟩
    simp only [Sem.run, h1]
    cases h2 <;> exact e1
  · cases hr

theorem R.setObj {β : Inj} {σ : AS} {w : World} (hR : R K W0 N0 β σ w) {r : Nat} {e : Ent} {o0 o o' : Obj} (he : β r = some e) (hg : σ.get r = some (.obj o0)) (ho : oRel β o o') (hL : LoopOk K o) :
    R K W0 N0 β (σ.put r (some (.obj o))) { w with heap := w.heap.setIfInBounds e.b o' } := by
  obtain ⟨hN, h0, o0', hh, _⟩ := hR.obj he hg
  have hlt := hR.lt he
  have heap : ∀ j, (w.heap.setIfInBounds e.b o')[j]? = if e.b = j then some o' else w.heap[j]? := by
    intro j
    rw [Array.getElem?_setIfInBounds]
    split
    · rename_i h; subst h; simp
    · rfl
  have other : ∀ {j ej y}, j ≠ r → β j = some ej → σ.get j = some y → e.b ≠ ej.b := by
    intro j ej y hj hbj hgj heq
    have := hR.excl (Ne.symm hj) he hbj hg hgj rfl heq
    cases this
  constructor
  · intro id e' c rw' lo pv hb hg'
    rw [AS.get_put] at hg'
    split at hg'
    · cases hg'
    · rename_i hid
      obtain ⟨C, ty, fr, k1, k2⟩ := hR.cells hb hg'
      exact ⟨C, ty, fr, by simp only []; rw [heap, if_neg (other hid hb hg')]; exact k1, k2⟩
  · intro id e' o1 hb hg'
    rw [AS.get_put] at hg'
    split at hg'
    · rename_i hid; subst hid
      rw [he] at hb; cases hb
      simp only [Option.some.injEq, AObj.obj.injEq] at hg'
      subst hg'
      exact ⟨hN, h0, o', by simp only []; rw [heap, if_pos rfl], ho⟩
    · rename_i hid
      obtain ⟨k1, k2, o2, k3, k4⟩ := hR.obj hb hg'
      exact ⟨k1, k2, o2, by simp only []; rw [heap, if_neg (other hid hb hg')]; exact k3, k4⟩
  · intro i j ei ej x y hij hbi hbj hgi hgj hx heq
    rw [AS.get_put] at hgi hgj
    by_cases hi : i = r
    · subst hi
      rw [if_neg (Ne.symm hij)] at hgj
      rw [he] at hbi; cases hbi
      exact absurd heq (other (Ne.symm hij) hbj hgj)
    · rw [if_neg hi] at hgi
      by_cases hj : j = r
      · subst hj
        rw [he] at hbj; cases hbj
        exact absurd heq.symm (other hi hbi hgi)
      · rw [if_neg hj] at hgj
        exact hR.excl hij hbi hbj hgi hgj hx heq
  · intro id e' hb
    have := hR.lt hb
    simpa using this
  · refine hR.base.trans ⟨rfl, rfl, rfl, by simp, fun j hj => ?_⟩
    simp only []
    rw [heap, if_neg (by omega)]
  · have := hR.top; simpa using this
  · intro id e' l hb' hg'
    rw [AS.get_put] at hg'
    split at hg'
    · simp only [Option.some.injEq, AObj.obj.injEq] at hg'
      exact hL l hg'
    · exact hR.code hb' hg'

theorem Sim.setObj {α α' : Type} {β : Inj} {r : Nat} {e : Ent} {o o' : Obj} {k : Sem α} {k' : Sem α'} {A : Inj → α → α' → Prop} (he : β r = some e) (ho : oRel β o o') (hL : LoopOk K o)
    (hk : Sim P K W0 N0 β k k' A) : Sim P K W0 N0 β (.setObj r o k) (.setObj e.b o' k') A := by
  intro lim σ w u σ2 hw hR hr hf
  simp only [runA] at hr
  split at hr
  · rename_i o0 hg
    cases hb : (Nat.ble lim r && plainObj o) with
    | false => simp [hb] at hr
    | true =>
      simp only [hb, cond_true] at hr
      simp only [Bool.and_eq_true] at hb
      obtain ⟨u', w', β', e1, x1, R2, a1⟩ := hk lim _ _ u σ2 trivial (hR.setObj he hg ho hL) hr hf
      refine ⟨u', w', β', ?_, x1, R2, a1⟩
      obtain ⟨_, _, o1, h1, h2⟩ := hR.obj he hg
      simp only [Sem.run, h1]
      cases h2 <;> exact e1
  · cases hr

theorem Sim.choose {α α' : Type} {β : Inj} {q q' : Question} {k : Nat → Sem α} {k' : Nat → Sem α'} {A : Inj → α → α' → Prop} (hq : q.forced = true → q'.forced = true)
    (hk : Sim P K W0 N0 β (k 0) (k' 0) A) : Sim P K W0 N0 β (.choose q k) (.choose q' k') A := by
  intro lim σ w u σ2 hw hR hr hf
  simp only [runA] at hr
  cases hb : q.forced with
  | false => simp [hb] at hr
  | true =>
    simp only [hb, cond_true] at hr
    obtain ⟨u', w', β', e1, x1, R2, a1⟩ := hk lim σ w u σ2 hw hR hr hf
    exact ⟨u', w', β', by simp only [Sem.run, hq hb, if_true]; exact e1, x1, R2, a1⟩

theorem Sim.program {α α' : Type} {β : Inj} {k : Program → Sem α} {k' : Program → Sem α'} {A : Inj → α → α' → Prop} (hk : Sim P K W0 N0 β (k P) (k' P) A) :
    Sim P K W0 N0 β (.program k) (.program k') A := fun lim σ w u σ2 hw hR hr hf => hk lim σ w u σ2 hw hR hr hf

theorem Sim.mark {α α' : Type} {β : Inj} {m m' : Mark} {k : Sem α} {k' : Sem α'} {A : Inj → α → α' → Prop} (hk : Sim P K W0 N0 β k k' A) :
    Sim P K W0 N0 β (.mark m k) (.mark m' k') A := fun lim σ w u σ2 hw hR hr hf => hk lim σ w u σ2 hw hR hr hf

/-! ## What never comes to an answer -/

def Never (P : Program) {α : Type} (s : Sem α) : Prop := ∀ lim σ, runA P lim s σ = none
theorem Never.sim {α α' : Type} {β : Inj} {s : Sem α} {s' : Sem α'} {A : Inj → α → α' → Prop} (h : Never P s) : Sim P K W0 N0 β s s' A := .vac h
theorem Never.bind {α γ : Type} {s : Sem α} {k : α → Sem γ} (h : Never P s) : Never P (s >>= k) := fun lim σ => by rw [runA_bind, h]
theorem Never.bind_r {α γ : Type} {s : Sem α} {k : α → Sem γ} (h : ∀ v, Never P (k v)) : Never P (s >>= k) := fun lim σ => by
  rw [runA_bind]; split
  · exact h _ _ _
  · rfl
theorem never_halt {α : Type} (x : Halt) : Never P (.halt x : Sem α) := fun _ _ => rfl
theorem never_stuck {α : Type} (x : String) : Never P (stuck x : Sem α) := fun _ _ => rfl
theorem never_unsupported {α : Type} (x : Unsupported) : Never P (unsupported x : Sem α) := fun _ _ => rfl
theorem never_goPanic {α : Type} (v : Value) : Never P (goPanic v : Sem α) := fun _ _ => rfl
theorem never_throw {α : Type} (v : String) : Never P (Go.throw v : Sem α) := fun _ _ => rfl
theorem never_runtimePanic {α : Type} (e : RuntimeError) : Never P (runtimePanic e : Sem α) := by
  unfold runtimePanic
  refine .bind_r fun p => ?_
  cases e with
  | bounds x y s c => exact never_goPanic _
  | error m => exact never_goPanic _
  | plain m => exact never_goPanic _
  | nilDeref => exact never_goPanic _
  | typeAssertion i c a m => exact .bind_r fun _ => .bind_r fun _ => never_goPanic _
  | panicNil => exact .bind_r fun _ => .bind_r fun _ => never_goPanic _
  | unhashable t => exact never_goPanic _
theorem never_boundsPanic {α : Type} (k : IntKind) (x y : Int) (c : BoundsCode) : Never P (boundsPanic k x y c : Sem α) := by
  unfold boundsPanic
  dsimp only
  split
  · exact .bind_r fun _ => never_runtimePanic _
  · exact .bind_r fun _ => never_runtimePanic _
theorem Sim.stuck {α α' : Type} {β : Inj} {x : String} {s' : Sem α'} {A : Inj → α → α' → Prop} : Sim P K W0 N0 β (Go.stuck x : Sem α) s' A := (never_stuck x).sim
theorem Sim.unsupported {α α' : Type} {β : Inj} {x : Unsupported} {s' : Sem α'} {A : Inj → α → α' → Prop} : Sim P K W0 N0 β (Go.unsupported x : Sem α) s' A := (never_unsupported x).sim
theorem Sim.runtimePanic {α α' : Type} {β : Inj} {x : RuntimeError} {s' : Sem α'} {A : Inj → α → α' → Prop} : Sim P K W0 N0 β (Go.runtimePanic x : Sem α) s' A := (never_runtimePanic x).sim
theorem Sim.boundsPanic {α α' : Type} {β : Inj} {k : IntKind} {x y : Int} {c : BoundsCode} {s' : Sem α'} {A : Inj → α → α' → Prop} : Sim P K W0 N0 β (Go.boundsPanic k x y c : Sem α) s' A := (never_boundsPanic k x y c).sim

/-! ## Values without places -/

/-- No place stands in the value (the number bounds the depth). -/
def plainB : Nat → Value → Bool
  | 0, _ => false
  | _ + 1, .bool _ | _ + 1, .int .. | _ + 1, .float .. | _ + 1, .complex .. | _ + 1, .string _ | _ + 1, .pointer none | _ + 1, .slice none .. | _ + 1, .map none | _ + 1, .nilFunc | _ + 1, .nilIface => true
  | n + 1, .iface _ v => plainB n v
  | n + 1, .agg xs => xs.toList.all (plainB n)
  | n + 1, .tuple xs => xs.toList.all (plainB n)
  | n + 1, .func fn f c => (match fn with | .yield _ => false | _ => true) && f.toList.all (plainB n) && c.toList.all (plainB n)
  | _ + 1, _ => false

theorem plain_rel {β : Inj} : ∀ (n : Nat) (v : Value), plainB n v = true → vRel β v v := by
  intro n
  induction n with
  | zero => intro v h; simp [plainB] at h
  | succ n ih =>
    have arr : ∀ xs : Array Value, xs.toList.all (plainB n) = true → ∀ i (h : i < xs.size) (h' : i < xs.size), vRel β xs[i] xs[i] := by
      intro xs h i hi _
      rw [List.all_eq_true] at h
      exact ih _ (h _ (by simp))
    intro v h
    match v, h with
    | .bool b, _ => exact .bool b
    | .int k n, _ => exact .int k n
    | .float k n, _ => exact .float k n
    | .complex k n m, _ => exact .complex k n m
    | .string s, _ => exact .string s
    | .pointer none, _ => exact .ptrNone
    | .slice none l c, _ => exact .sliceNone l c
    | .map none, _ => exact .mapNone
    | .nilFunc, _ => exact .nilFunc
    | .nilIface, _ => exact .nilIface
    | .iface t v, h => exact .iface t (ih v h)
    | .agg xs, h => exact .agg rfl (arr xs h)
    | .tuple xs, h => exact .tuple rfl (arr xs h)
    | .func fn f c, h =>
      simp only [plainB, Bool.and_eq_true] at h
      refine .func ?_ rfl (arr f h.1.2) rfl (arr c h.2)
      cases fn <;> first | rfl | (simp at h)

/-- The zero values of the program's types hold no places. -/
def ZeroOk (P : Program) : Prop := ∀ t i z, P.info? t = some i → i.zero = some z → z.cells.size = i.size ∧ ∀ β, vRel β z z

/-! ## Look-ups of types -/

theorem Sim.look_bind {α γ γ' : Type} {β : Inj} {s : Sem α} {k : α → Sem γ} {k' : α → Sem γ'} {B : Inj → γ → γ' → Prop} (d? : Option α) (h1 : ∀ lim σ, runA P lim s σ = d?.map fun d => (d, σ))
    (h2 : ∀ w d, d? = some d → s.run P w = .ok d w) (hk : ∀ d, d? = some d → Sim P K W0 N0 β (k d) (k' d) B) : Sim P K W0 N0 β (s >>= k) (s >>= k') B := by
  intro lim σ w u σ2 hw hR hr hf
  rw [runA_bind, h1] at hr
  cases hd : d? with
  | none => rw [hd] at hr; cases hr
  | some d =>
    rw [hd] at hr
    obtain ⟨u', w', β', e1, x1, R1, a1⟩ := hk d hd lim σ w u σ2 hw hR hr hf
    exact ⟨u', w', β', by rw [run_bind', h2 w d hd]; exact e1, x1, R1, a1⟩

theorem runA_underlying (t : TypeId) (lim : Nat) (σ : AS) : runA P lim (underlying t) σ = (P.underlying t).map fun d => (d, σ) := by
  have : underlying t = Go.program >>= fun p => match p.underlying t with | some d => Pure.pure d | none => stuck "no such type" := rfl
  rw [this, runA_bind]
  show runA P lim (match P.underlying t with | some d => Pure.pure d | none => stuck "no such type") σ = _
  cases P.underlying t <;> rfl
theorem run_underlying' (t : TypeId) (w : World) (d : TypeDesc) (h : P.underlying t = some d) : (underlying t).run P w = .ok d w := by
  have : underlying t = Go.program >>= fun p => match p.underlying t with | some d => Pure.pure d | none => stuck "no such type" := rfl
  rw [this, run_bind']
  show (match P.underlying t with | some d => Pure.pure d | none => stuck "no such type" : Sem TypeDesc).run P w = _
  rw [h]; rfl
theorem runA_typeInfo (t : TypeId) (lim : Nat) (σ : AS) : runA P lim (typeInfo t) σ = (P.info? t).map fun d => (d, σ) := by
  have : typeInfo t = Go.program >>= fun p => match p.info? t with | some d => Pure.pure d | none => stuck "no such type" := rfl
  rw [this, runA_bind]
  show runA P lim (match P.info? t with | some d => Pure.pure d | none => stuck "no such type") σ = _
  cases P.info? t <;> rfl
theorem run_typeInfo' (t : TypeId) (w : World) (d : TypeInfo) (h : P.info? t = some d) : (typeInfo t).run P w = .ok d w := by
  have : typeInfo t = Go.program >>= fun p => match p.info? t with | some d => Pure.pure d | none => stuck "no such type" := rfl
  rw [this, run_bind']
  show (match P.info? t with | some d => Pure.pure d | none => stuck "no such type" : Sem TypeInfo).run P w = _
  rw [h]; rfl

theorem Sim.underlying_bind {γ γ' : Type} {β : Inj} {t : TypeId} {k : TypeDesc → Sem γ} {k' : TypeDesc → Sem γ'} {B : Inj → γ → γ' → Prop}
    (hk : ∀ d, P.underlying t = some d → Sim P K W0 N0 β (k d) (k' d) B) : Sim P K W0 N0 β (underlying t >>= k) (underlying t >>= k') B :=
  Sim.look_bind _ (runA_underlying t) (fun w d h => run_underlying' t w d h) hk

theorem Sim.typeInfo_bind {γ γ' : Type} {β : Inj} {t : TypeId} {k : TypeInfo → Sem γ} {k' : TypeInfo → Sem γ'} {B : Inj → γ → γ' → Prop}
    (hk : ∀ d, P.info? t = some d → Sim P K W0 N0 β (k d) (k' d) B) : Sim P K W0 N0 β (typeInfo t >>= k) (typeInfo t >>= k') B :=
  Sim.look_bind _ (runA_typeInfo t) (fun w d h => run_typeInfo' t w d h) hk

theorem runA_sizeOf (t : TypeId) (lim : Nat) (σ : AS) : runA P lim (sizeOf t) σ = (P.info? t).map fun d => (d.size, σ) := by
  have : sizeOf t = typeInfo t >>= fun i => Pure.pure i.size := rfl
  rw [this, runA_bind, runA_typeInfo]
  cases P.info? t <;> rfl
theorem run_sizeOf' (t : TypeId) (w : World) (d : TypeInfo) (h : P.info? t = some d) : (sizeOf t).run P w = .ok d.size w := by
  have : sizeOf t = typeInfo t >>= fun i => Pure.pure i.size := rfl
  rw [this, run_bind', run_typeInfo' t w d h]; rfl

theorem Sim.sizeOf_bind {γ γ' : Type} {β : Inj} {t : TypeId} {k : Nat → Sem γ} {k' : Nat → Sem γ'} {B : Inj → γ → γ' → Prop}
    (hk : ∀ d, P.info? t = some d → Sim P K W0 N0 β (k d.size) (k' d.size) B) : Sim P K W0 N0 β (sizeOf t >>= k) (sizeOf t >>= k') B := by
  refine Sim.look_bind ((P.info? t).map (·.size)) (fun lim σ => ?_) (fun w d h => ?_) (fun d h => ?_)
  · rw [runA_sizeOf]; cases P.info? t <;> rfl
  · cases hi : P.info? t with
    | none => rw [hi] at h; cases h
    | some i => rw [hi] at h; cases h; exact run_sizeOf' t w i hi
  · cases hi : P.info? t with
    | none => rw [hi] at h; cases h
    | some i => rw [hi] at h; cases h; exact hk i hi

theorem runA_zeroValue (t : TypeId) (lim : Nat) (σ : AS) : runA P lim (zeroValue t) σ = ((P.info? t).bind (·.zero)).map fun d => (d, σ) := by
  have : zeroValue t = typeInfo t >>= fun i => match i.zero with | some v => Pure.pure v | none => unsupported (.resourceLimit "a value of more than 2^22 cells") := rfl
  rw [this, runA_bind, runA_typeInfo]
  cases P.info? t with
  | none => rfl
  | some i => simp only [Option.map_some, Option.bind_some]; cases i.zero <;> rfl
theorem run_zeroValue' (t : TypeId) (w : World) (i : TypeInfo) (z : Value) (h : P.info? t = some i) (hz : i.zero = some z) : (zeroValue t).run P w = .ok z w := by
  have : zeroValue t = typeInfo t >>= fun i => match i.zero with | some v => Pure.pure v | none => unsupported (.resourceLimit "a value of more than 2^22 cells") := rfl
  rw [this, run_bind', run_typeInfo' t w i h]
  simp only [hz]; rfl

theorem Sim.zeroValue_bind {γ γ' : Type} {β : Inj} (hZ : ZeroOk P) {t : TypeId} {k : Value → Sem γ} {k' : Value → Sem γ'} {B : Inj → γ → γ' → Prop}
    (hk : ∀ i z, P.info? t = some i → i.zero = some z → vRel β z z → Sim P K W0 N0 β (k z) (k' z) B) : Sim P K W0 N0 β (zeroValue t >>= k) (zeroValue t >>= k') B := by
  refine Sim.look_bind ((P.info? t).bind (·.zero)) (fun lim σ => runA_zeroValue t lim σ) (fun w d h => ?_) (fun d h => ?_)
  · cases hi : P.info? t with
    | none => rw [hi] at h; cases h
    | some i => rw [hi] at h; exact run_zeroValue' t w i d hi h
  · cases hi : P.info? t with
    | none => rw [hi] at h; cases h
    | some i => rw [hi] at h; exact hk i d hi h ((hZ t i d hi h).2 β)

def aggD : TypeDesc → Bool
  | .struct _ | .array _ _ => true
  | _ => false
theorem isAgg_eq (t : TypeId) : isAgg t = underlying t >>= fun d => Pure.pure (aggD d) := by
  have : isAgg t = underlying t >>= fun d => match d with | .struct _ | .array _ _ => Pure.pure true | _ => Pure.pure false := rfl
  rw [this]
  congr 1
  funext d
  cases d <;> rfl

theorem Sim.isAgg_bind {γ γ' : Type} {β : Inj} {t : TypeId} {k : Bool → Sem γ} {k' : Bool → Sem γ'} {B : Inj → γ → γ' → Prop}
    (hk : ∀ d, P.underlying t = some d → Sim P K W0 N0 β (k (aggD d)) (k' (aggD d)) B) : Sim P K W0 N0 β (isAgg t >>= k) (isAgg t >>= k') B := by
  refine Sim.look_bind ((P.underlying t).map aggD) (fun lim σ => ?_) (fun w d h => ?_) (fun d h => ?_)
  · rw [isAgg_eq, runA_bind, runA_underlying]; cases P.underlying t <;> rfl
  · cases hi : P.underlying t with
    | none => rw [hi] at h; cases h
    | some i => rw [hi] at h; cases h; rw [isAgg_eq, run_bind', run_underlying' t w i hi]; rfl
  · cases hi : P.underlying t with
    | none => rw [hi] at h; cases h
    | some i => rw [hi] at h; cases h; exact hk i hi

theorem Sim.program_bind {γ γ' : Type} {β : Inj} {k : Program → Sem γ} {k' : Program → Sem γ'} {B : Inj → γ → γ' → Prop}
    (hk : Sim P K W0 N0 β (k P) (k' P) B) : Sim P K W0 N0 β (Go.program >>= k) (Go.program >>= k') B := .program hk

theorem Sim.ret {α α' : Type} {β : Inj} {v : α} {v' : α'} {A : Inj → α → α' → Prop} (h : A β v v') : Sim P K W0 N0 β (Pure.pure v : Sem α) (Pure.pure v' : Sem α') A := .pure h

theorem Sim.ite {α α' : Type} {β : Inj} {c : Prop} [Decidable c] {s t : Sem α} {s' t' : Sem α'} {A : Inj → α → α' → Prop} (h : c → Sim P K W0 N0 β s s' A) (h' : ¬ c → Sim P K W0 N0 β t t' A) :
    Sim P K W0 N0 β (if c then s else t) (if c then s' else t') A := by
  by_cases hc : c
  · rw [if_pos hc, if_pos hc]; exact h hc
  · rw [if_neg hc, if_neg hc]; exact h' hc

/-! ## Rows of cells -/

theorem aRel.add {β : Inj} {a a' : Addr} (h : aRel β a a') (n : Nat) : aRel β (a.add n) (a'.add n) := by
  obtain ⟨hs, e, he, rfl⟩ := h
  unfold Addr.add
  split
  · exact ⟨hs, e, he, rfl⟩
  · exact ⟨rfl, e, he, by simp [Nat.add_assoc]⟩

theorem Sim.loadCellsFrom_bind {γ γ' : Type} {β : Inj} {a a' : Addr} {B : Inj → γ → γ' → Prop} (ha : aRel β a a') : ∀ (n i : Nat) (acc acc' : Array Value) (k : Array Value → Sem γ) (k' : Array Value → Sem γ'),
    arrRel β acc acc' → (∀ c c', arrRel β c c' → c.size = acc.size + n → Sim P K W0 N0 β (k c) (k' c') B) →
    Sim P K W0 N0 β (loadCellsFrom a i n acc >>= k) (loadCellsFrom a' i n acc' >>= k') B
  | 0, i, acc, acc', k, k', h, hk => hk _ _ h rfl
  | n + 1, i, acc, acc', k, k', h, hk => by
    refine Sim.load (ha.add i) fun v v' hv => ?_
    refine Sim.loadCellsFrom_bind ha n (i + 1) (acc.push v) (acc'.push v') k k' ?_ (fun c c' hc hs => hk c c' hc (by rw [hs]; simp; omega))
    rw [arrRel_iff] at *
    simp only [Array.toList_push]
    exact h.append ⟨hv, trivial⟩

theorem arrRel_empty {β : Inj} : arrRel β #[] #[] := ⟨rfl, fun i hi _ => by simp at hi⟩

theorem Sim.loadCells_bind {γ γ' : Type} {β : Inj} {a a' : Addr} {n : Nat} {k : Array Value → Sem γ} {k' : Array Value → Sem γ'} {B : Inj → γ → γ' → Prop} (ha : aRel β a a')
    (hk : ∀ c c', arrRel β c c' → c.size = n → Sim P K W0 N0 β (k c) (k' c') B) : Sim P K W0 N0 β (loadCells a n >>= k) (loadCells a' n >>= k') B :=
  Sim.loadCellsFrom_bind ha n 0 #[] #[] k k' arrRel_empty (fun c c' hc hs => hk c c' hc (by simpa using hs))

theorem Sim.storeCells_bind {γ γ' : Type} {β : Inj} {a a' : Addr} {B : Inj → γ → γ' → Prop} (ha : aRel β a a') {k : Unit → Sem γ} {k' : Unit → Sem γ'} (hk : Sim P K W0 N0 β (k ()) (k' ()) B) :
    ∀ (l l' : List Value) (i : Nat), lRel β l l' → Sim P K W0 N0 β (storeCells a l i >>= k) (storeCells a' l' i >>= k') B
  | [], [], _, _ => hk
  | _ :: l, _ :: l', i, h => .store (ha.add i) h.1 (Sim.storeCells_bind ha hk l l' (i + 1) h.2)
  | [], _ :: _, _, h => h.elim
  | _ :: _, [], _, h => h.elim

theorem Sim.load_bind {γ γ' : Type} {β : Inj} {a a' : Addr} {k : Value → Sem γ} {k' : Value → Sem γ'} {B : Inj → γ → γ' → Prop} (ha : aRel β a a')
    (hk : ∀ v v', vRel β v v' → Sim P K W0 N0 β (k v) (k' v') B) : Sim P K W0 N0 β (Go.load a >>= k) (Go.load a' >>= k') B := .load ha hk

theorem Sim.loadVar_bind {γ γ' : Type} {β : Inj} {t : TypeId} {a a' : Addr} {k : Value → Sem γ} {k' : Value → Sem γ'} {B : Inj → γ → γ' → Prop} (ha : aRel β a a')
    (hk : ∀ v v', vRel β v v' → Sim P K W0 N0 β (k v) (k' v') B) : Sim P K W0 N0 β (loadVar t a >>= k) (loadVar t a' >>= k') B := by
  have : Sim P K W0 N0 β (loadVar t a) (loadVar t a') (fun β' v v' => β' = β ∧ vRel β v v') := by
    unfold loadVar
    refine Sim.isAgg_bind fun b _ => ?_
    cases aggD b with
    | true =>
      simp only [if_true]
      refine Sim.sizeOf_bind fun d _ => ?_
      exact Sim.loadCells_bind ha fun c c' hc _ => .ret ⟨rfl, .agg hc.1 hc.2⟩
    | false =>
      simp only [Bool.false_eq_true, if_false]
      exact Sim.load ha fun v v' hv => .pure ⟨rfl, hv⟩
  refine this.bind fun β' v v' _ h => ?_
  obtain ⟨rfl, h⟩ := h
  exact hk v v' h

theorem cells_rel {β : Inj} {v v' : Value} (h : vRel β v v') : arrRel β v.cells v'.cells := by
  have one : ∀ {v v'}, vRel β v v' → arrRel β #[v] #[v'] := fun h => arrRel_iff.2 ⟨h, trivial⟩
  cases h with
  | agg h1 h2 => exact ⟨h1, h2⟩
  | bool b => exact one (.bool b)
  | int k n => exact one (.int k n)
  | float k n => exact one (.float k n)
  | complex k n m => exact one (.complex k n m)
  | string s => exact one (.string s)
  | ptrNone => exact one .ptrNone
  | ptr h => exact one (.ptr h)
  | sliceNone l c => exact one (.sliceNone l c)
  | slice l h hc => exact one (.slice l h hc)
  | void a' c' h => exact one (.void a' c' h)
  | mapNone => exact one .mapNone
  | chanNone => exact one .chanNone
  | map h h0 => exact one (.map h h0)
  | func h hf h1 hc h2 => exact one (.func h hf h1 hc h2)
  | nilFunc => exact one .nilFunc
  | iface t h => exact one (.iface t h)
  | nilIface => exact one .nilIface
  | tuple h1 h2 => exact one (.tuple h1 h2)

theorem Sim.storeVar_bind {γ γ' : Type} {β : Inj} {t : TypeId} {a a' : Addr} {v v' : Value} {k : Unit → Sem γ} {k' : Unit → Sem γ'} {B : Inj → γ → γ' → Prop} (ha : aRel β a a') (hv : vRel β v v')
    (hk : Sim P K W0 N0 β (k ()) (k' ()) B) : Sim P K W0 N0 β (storeVar t a v >>= k) (storeVar t a' v' >>= k') B := by
  have : Sim P K W0 N0 β (storeVar t a v) (storeVar t a' v') (fun β' _ _ => β' = β) := by
    have hc := cells_rel hv
    unfold storeVar
    refine Sim.sizeOf_bind fun d _ => ?_
    rw [← hc.1]
    by_cases h : v.cells.size ≠ d.size
    · rw [if_pos h, if_pos h]; exact (Never.bind (never_stuck _)).sim
    · rw [if_neg h, if_neg h]
      have := Sim.storeCells_bind (P := P) (K := K) (W0 := W0) (N0 := N0) (B := fun β' _ _ => β' = β) (k := Pure.pure) (k' := Pure.pure) ha (.ret rfl) v.cells.toList v'.cells.toList 0 (arrRel_iff.1 hc)
      simpa using this
  refine this.bind fun β' _ _ _ h => ?_
  subst h
  exact hk

theorem Sim.newRow_bind {γ γ' : Type} {β : Inj} {t : TypeId} {C C' : Array Value} {k : Addr → Sem γ} {k' : Addr → Sem γ'} {B : Inj → γ → γ' → Prop} (hC : arrRel β C C')
    (hk : ∀ β' a a', β.le β' → aRel β' a a' → (∃ e, β' a.block = some e ∧ e.o = 0 ∧ e.tail = none) → a.off = 0 → Sim P K W0 N0 β' (k a) (k' a') B) : Sim P K W0 N0 β (newRow t C >>= k) (newRow t C' >>= k') B :=
  Sim.newCells hC fun β' r e hle he h0 ht => hk β' ⟨r, 0, none⟩ ⟨e.b, 0, none⟩ hle ⟨rfl, e, he, by simp [h0]⟩ ⟨e, he, h0, ht⟩ rfl

theorem Sim.newVar_bind {γ γ' : Type} {β : Inj} {t : TypeId} {v v' : Value} {k : Addr → Sem γ} {k' : Addr → Sem γ'} {B : Inj → γ → γ' → Prop} (hv : vRel β v v')
    (hk : ∀ β' a a', β.le β' → aRel β' a a' → Sim P K W0 N0 β' (k a) (k' a') B) : Sim P K W0 N0 β (newVar t v >>= k) (newVar t v' >>= k') B :=
  Sim.newRow_bind (cells_rel hv) fun β' a a' hle ha _ _ => hk β' a a' hle ha

theorem arrRel_extract {β : Inj} {C C' : Array Value} (h : arrRel β C C') (i j : Nat) : arrRel β (C.extract i j) (C'.extract i j) := by
  rw [arrRel_iff] at *
  simp only [Array.toList_extract, List.extract]
  exact (h.drop i).take _

theorem Sim.part_bind {γ γ' : Type} {β : Inj} {t : TypeId} {C C' : Array Value} {off : Nat} {k : Value → Sem γ} {k' : Value → Sem γ'} {B : Inj → γ → γ' → Prop} (hC : arrRel β C C')
    (hk : ∀ v v', vRel β v v' → Sim P K W0 N0 β (k v) (k' v') B) : Sim P K W0 N0 β (part t C off >>= k) (part t C' off >>= k') B := by
  have : Sim P K W0 N0 β (part t C off) (part t C' off) (fun β' v v' => β' = β ∧ vRel β v v') := by
    unfold part
    refine Sim.isAgg_bind fun b _ => ?_
    cases aggD b with
    | true =>
      simp only [if_true]
      refine Sim.sizeOf_bind fun d _ => .ret ⟨rfl, ?_⟩
      have := arrRel_extract hC off (off + d.size)
      exact .agg this.1 this.2
    | false =>
      simp only [Bool.false_eq_true, if_false]
      have hl := arrRel_iff.1 hC
      cases hv : C[off]? with
      | none => exact .stuck
      | some v =>
        obtain ⟨v', h1, h2⟩ := hl.getElem? off (v := v) (by simpa using hv)
        have h1' : C'[off]? = some v' := by simpa using h1
        rw [h1']
        exact .ret ⟨rfl, h2⟩
  refine this.bind fun β' v v' _ h => ?_
  obtain ⟨rfl, h⟩ := h
  exact hk v v' h

end Go.Va
