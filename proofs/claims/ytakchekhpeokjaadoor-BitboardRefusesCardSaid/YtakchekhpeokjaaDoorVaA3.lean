/-
  HOW THE ABSTRACT HEAP LIES IN THE MODEL'S: an injection of its places, related values, the relation of the heaps, and what it gives for each step of a computation.
-/
import Derived.Test.YtakchekhpeokjaaDoorVaA2
namespace Go.Va
open Go.RowKit

/-- Where a place lies: its block, its first cell; of a row that may have room behind its end: its length, the size of an element, the size of the block. -/
structure Ent where
  b : Nat
  o : Nat
  tail : Option (Nat × Nat × Nat)

abbrev Inj := Nat → Option Ent

def Inj.le (β β' : Inj) : Prop := ∀ i e, β i = some e → β' i = some e
theorem Inj.le.refl (β : Inj) : β.le β := fun _ _ h => h
theorem Inj.le.trans {a b c : Inj} (h : a.le b) (k : b.le c) : a.le c := fun i e he => k i e (h i e he)

def aRel (β : Inj) (a a' : Addr) : Prop := a.spot = none ∧ ∃ e, β a.block = some e ∧ a' = ⟨e.b, e.o + a.off, none⟩

def capRel (β : Inj) (a : Addr) (c c' : Nat) : Prop :=
  c = c' ∨ ∃ e sz esz real, β a.block = some e ∧ e.tail = some (sz, esz, real) ∧ a.off + c * esz = sz ∧ e.o + a.off + c' * esz = real ∧ c ≤ c'

def fnRel (β : Inj) : Fn → Fn → Prop
  | .yield l, f' => ∃ e, β l = some e ∧ e.o = 0 ∧ f' = .yield e.b
  | f, f' => f' = f

inductive vRel (β : Inj) : Value → Value → Prop where
  | bool (b : Bool) : vRel β (.bool b) (.bool b)
  | int (k : IntKind) (n : Int) : vRel β (.int k n) (.int k n)
  | float (k : FloatKind) (n : Nat) : vRel β (.float k n) (.float k n)
  | complex (k : FloatKind) (n m : Nat) : vRel β (.complex k n m) (.complex k n m)
  | string (s : ByteArray) : vRel β (.string s) (.string s)
  | ptrNone : vRel β (.pointer none) (.pointer none)
  | ptr {a a' : Addr} (h : aRel β a a') : vRel β (.pointer (some a)) (.pointer (some a'))
  | sliceNone (l c : Nat) : vRel β (.slice none l c) (.slice none l c)
  | slice {a a' : Addr} {c c' : Nat} (l : Nat) (h : aRel β a a') (hc : capRel β a c c') : vRel β (.slice (some a) l c) (.slice (some a') l c')
  | void {a : Addr} (a' : Addr) (c' : Nat) (h : a.spot.isSome = true) : vRel β (.slice (some a) 0 0) (.slice (some a') 0 c')
  | mapNone : vRel β (.map none) (.map none)
  | chanNone : vRel β (.chan none) (.chan none)
  | map {r : Nat} {e : Ent} (h : β r = some e) (h0 : e.o = 0) : vRel β (.map (some r)) (.map (some e.b))
  | func {fn fn' : Fn} {f f' c c' : Array Value} (h : fnRel β fn fn') (hf : f.size = f'.size) (hf' : ∀ i (h : i < f.size) (h' : i < f'.size), vRel β f[i] f'[i])
      (hc : c.size = c'.size) (hc' : ∀ i (h : i < c.size) (h' : i < c'.size), vRel β c[i] c'[i]) : vRel β (.func fn f c) (.func fn' f' c')
  | nilFunc : vRel β .nilFunc .nilFunc
  | iface (t : TypeId) {v v' : Value} (h : vRel β v v') : vRel β (.iface t v) (.iface t v')
  | nilIface : vRel β .nilIface .nilIface
  | agg {f f' : Array Value} (hf : f.size = f'.size) (hf' : ∀ i (h : i < f.size) (h' : i < f'.size), vRel β f[i] f'[i]) : vRel β (.agg f) (.agg f')
  | tuple {f f' : Array Value} (hf : f.size = f'.size) (hf' : ∀ i (h : i < f.size) (h' : i < f'.size), vRel β f[i] f'[i]) : vRel β (.tuple f) (.tuple f')

theorem aRel.mono {β β' : Inj} {a a' : Addr} (hb : β.le β') (h : aRel β a a') : aRel β' a a' := by
  obtain ⟨h0, e, he, h1⟩ := h; exact ⟨h0, e, hb _ _ he, h1⟩
theorem capRel.mono {β β' : Inj} {a : Addr} {c c' : Nat} (hb : β.le β') (h : capRel β a c c') : capRel β' a c c' := by
  rcases h with h | ⟨e, sz, esz, real, he, h1⟩
  · exact .inl h
  · exact .inr ⟨e, sz, esz, real, hb _ _ he, h1⟩
theorem fnRel.mono {β β' : Inj} {f f' : Fn} (hb : β.le β') (h : fnRel β f f') : fnRel β' f f' := by
  cases f with
  | yield l => obtain ⟨e, he, h1⟩ := h; exact ⟨e, hb _ _ he, h1⟩
  | _ => exact h
theorem vRel.mono {β β' : Inj} {v v' : Value} (hb : β.le β') (h : vRel β v v') : vRel β' v v' := by
  induction h with
  | bool b => exact .bool b
  | int k n => exact .int k n
  | float k n => exact .float k n
  | complex k n m => exact .complex k n m
  | string s => exact .string s
  | ptrNone => exact .ptrNone
  | ptr h => exact .ptr (h.mono hb)
  | sliceNone l c => exact .sliceNone l c
  | slice l h hc => exact .slice l (h.mono hb) (hc.mono hb)
  | void a' c' h => exact .void a' c' h
  | mapNone => exact .mapNone
  | chanNone => exact .chanNone
  | map h h0 => exact .map (hb _ _ h) h0
  | func h hf _ hc _ ih1 ih2 => exact .func (h.mono hb) hf ih1 hc ih2
  | nilFunc => exact .nilFunc
  | iface t _ ih => exact .iface t ih
  | nilIface => exact .nilIface
  | agg hf _ ih => exact .agg hf ih
  | tuple hf _ ih => exact .tuple hf ih

/-- Related rows of values. -/
def arrRel (β : Inj) (f f' : Array Value) : Prop := f.size = f'.size ∧ ∀ i (_ : i < f.size) (_ : i < f'.size), vRel β f[i] f'[i]
def lRel (β : Inj) : List Value → List Value → Prop
  | [], [] => True
  | a :: l, b :: m => vRel β a b ∧ lRel β l m
  | _, _ => False

theorem lRel.length {β : Inj} : ∀ {l m : List Value}, lRel β l m → l.length = m.length
  | [], [], _ => rfl
  | _ :: _, _ :: _, h => by simp [lRel.length h.2]
  | [], _ :: _, h => h.elim
  | _ :: _, [], h => h.elim
theorem lRel.get {β : Inj} : ∀ {l m : List Value} (i : Nat) (hi : i < l.length) (hi' : i < m.length), lRel β l m → vRel β l[i] m[i]
  | _ :: _, _ :: _, 0, _, _, h => h.1
  | _ :: _, _ :: _, i + 1, hi, hi', h => lRel.get i (by simpa using hi) (by simpa using hi') h.2
  | [], _, _, hi, _, _ => by simp at hi
  | _ :: _, [], _, _, _, h => h.elim
theorem lRel.of_get {β : Inj} : ∀ {l m : List Value}, l.length = m.length → (∀ i (hi : i < l.length) (hi' : i < m.length), vRel β l[i] m[i]) → lRel β l m
  | [], [], _, _ => trivial
  | a :: l, b :: m, hl, h => ⟨h 0 (by simp) (by simp), lRel.of_get (by simpa using hl) fun i hi hi' => h (i + 1) (by simpa using hi) (by simpa using hi')⟩
  | [], _ :: _, hl, _ => by simp at hl
  | _ :: _, [], hl, _ => by simp at hl
theorem lRel.mono {β β' : Inj} (hb : β.le β') : ∀ {l m : List Value}, lRel β l m → lRel β' l m
  | [], [], _ => trivial
  | _ :: _, _ :: _, h => ⟨h.1.mono hb, lRel.mono hb h.2⟩
  | [], _ :: _, h => h.elim
  | _ :: _, [], h => h.elim
theorem lRel.append {β : Inj} : ∀ {l m a b : List Value}, lRel β l m → lRel β a b → lRel β (l ++ a) (m ++ b)
  | [], [], _, _, _, h => h
  | _ :: _, _ :: _, _, _, h, k => ⟨h.1, lRel.append h.2 k⟩
  | [], _ :: _, _, _, h, _ => h.elim
  | _ :: _, [], _, _, h, _ => h.elim
theorem lRel.replicate {β : Inj} {v v' : Value} (h : vRel β v v') : ∀ n, lRel β (List.replicate n v) (List.replicate n v')
  | 0 => trivial
  | n + 1 => ⟨h, lRel.replicate h n⟩
theorem lRel.drop {β : Inj} : ∀ {l m : List Value} (n : Nat), lRel β l m → lRel β (l.drop n) (m.drop n)
  | _, _, 0, h => h
  | [], [], _ + 1, _ => trivial
  | _ :: _, _ :: _, n + 1, h => lRel.drop n h.2
  | [], _ :: _, _, h => h.elim
  | _ :: _, [], _, h => h.elim
theorem lRel.take {β : Inj} : ∀ {l m : List Value} (n : Nat), lRel β l m → lRel β (l.take n) (m.take n)
  | _, _, 0, _ => by simp [lRel]
  | [], [], _ + 1, _ => trivial
  | _ :: _, _ :: _, n + 1, h => ⟨h.1, lRel.take n h.2⟩
  | [], _ :: _, _, h => h.elim
  | _ :: _, [], _, h => h.elim
theorem lRel.set {β : Inj} {v v' : Value} (hv : vRel β v v') : ∀ {l m : List Value} (n : Nat), lRel β l m → lRel β (l.set n v) (m.set n v')
  | [], [], _, _ => trivial
  | _ :: _, _ :: _, 0, h => ⟨hv, h.2⟩
  | _ :: _, _ :: _, n + 1, h => ⟨h.1, lRel.set hv n h.2⟩
  | [], _ :: _, _, h => h.elim
  | _ :: _, [], _, h => h.elim
theorem lRel.getElem? {β : Inj} {l m : List Value} (h : lRel β l m) (i : Nat) {v : Value} (hv : l[i]? = some v) : ∃ v', m[i]? = some v' ∧ vRel β v v' := by
  obtain ⟨hi, rfl⟩ := List.getElem?_eq_some_iff.1 hv
  have hi' : i < m.length := by rw [← h.length]; exact hi
  exact ⟨m[i], List.getElem?_eq_getElem hi', h.get i hi hi'⟩
theorem lRel.none {β : Inj} {l m : List Value} (h : lRel β l m) (i : Nat) (hv : l[i]? = none) : m[i]? = none := by
  rw [List.getElem?_eq_none_iff] at *; rw [← h.length]; exact hv

theorem arrRel_iff {β : Inj} {f f' : Array Value} : arrRel β f f' ↔ lRel β f.toList f'.toList := by
  constructor
  · rintro ⟨h1, h2⟩
    exact lRel.of_get (by simpa using h1) fun i hi hi' => by simpa using h2 i (by simpa using hi) (by simpa using hi')
  · intro h
    exact ⟨by simpa using h.length, fun i hi hi' => by have := lRel.get i (by simpa using hi) (by simpa using hi') h; simp only [Array.getElem_toList] at this; exact this⟩
theorem arrRel.mono {β β' : Inj} (hb : β.le β') {f f' : Array Value} (h : arrRel β f f') : arrRel β' f f' := ⟨h.1, fun i hi hi' => (h.2 i hi hi').mono hb⟩

def eRel (β : Inj) (e e' : MapEntry) : Prop := vRel β e.key e'.key ∧ vRel β e.val e'.val ∧ e.born = e'.born
def esRel (β : Inj) : List MapEntry → List MapEntry → Prop
  | [], [] => True
  | a :: l, b :: m => eRel β a b ∧ esRel β l m
  | _, _ => False

inductive oRel (β : Inj) : Obj → Obj → Prop where
  | map {es es' : Array MapEntry} (n : Nat) (h : esRel β es.toList es'.toList) : oRel β (.map es n) (.map es' n)
  | iter (s : ByteArray) (n : Nat) : oRel β (.stringIter s n) (.stringIter s n)
  | loop {l l' : Loop} {e : Ent} (h1 : l'.state = l.state) (h2 : l'.pending = l.pending) (h3 : l'.fn = l.fn) (h4 : l'.params = l.params) (h5 : l'.assign = l.assign) (h6 : l'.body = l.body)
      (ht : arrRel β l.tmps l'.tmps) (hd : β l.defers = some e) (h0 : e.o = 0) (he : l'.defers = e.b) : oRel β (.loop l) (.loop l')
  | def0 : oRel β (.deferred none) (.deferred none)
  | def1 : oRel β (.deferred (some [])) (.deferred (some []))

theorem eRel.mono {β β' : Inj} (hb : β.le β') {e e' : MapEntry} (h : eRel β e e') : eRel β' e e' := ⟨h.1.mono hb, h.2.1.mono hb, h.2.2⟩
theorem esRel.mono {β β' : Inj} (hb : β.le β') : ∀ {l m : List MapEntry}, esRel β l m → esRel β' l m
  | [], [], _ => trivial
  | _ :: _, _ :: _, h => ⟨h.1.mono hb, esRel.mono hb h.2⟩
  | [], _ :: _, h => h.elim
  | _ :: _, [], h => h.elim
theorem oRel.mono {β β' : Inj} (hb : β.le β') {o o' : Obj} (h : oRel β o o') : oRel β' o o' := by
  cases h with
  | map n h => exact .map n (h.mono hb)
  | iter s n => exact .iter s n
  | loop h1 h2 h3 h4 h5 h6 ht hd h0 he => exact .loop h1 h2 h3 h4 h5 h6 (ht.mono hb) (hb _ _ hd) h0 he
  | def0 => exact .def0
  | def1 => exact .def1

def AObj.own : AObj → Bool
  | .cells _ rw _ _ => rw
  | .obj _ => true

/-- What is known of the end of a row, and of its type. -/
def TlOk (e : Ent) (lo : Lo) (n : Nat) (ty : TypeId) (sz : Nat) : Prop :=
  (e.tail = lo.1.map fun esz => (n, esz, sz)) ∧ ∀ T, lo.2 = some T → ty = T ∧ (lo.1 = none → e.o = 0 ∧ sz = n)

/-- THE RELATION of the two heaps. K: what the bodies of the loops that lie in the heap are known to be; W0, N0: the world, and its size, before all. -/
structure R (K : FuncId → Code → Prop) (W0 : World) (N0 : Nat) (β : Inj) (σ : AS) (w : World) : Prop where
  cells : ∀ {id e c rw lo pv}, β id = some e → σ.get id = some (.cells c rw lo pv) →
    ∃ C ty fr, w.heap[e.b]? = some (.cells C ty fr) ∧ (∀ i (_ : i < c.length), ∃ v', C[e.o + i]? = some v' ∧ vRel β c[i] v') ∧
      (rw = true → N0 ≤ e.b ∧ ∀ i, i < C.size → ¬ (fr.1 ≤ i ∧ i < fr.2)) ∧ TlOk e lo c.length ty C.size
  obj : ∀ {id e o}, β id = some e → σ.get id = some (.obj o) → N0 ≤ e.b ∧ e.o = 0 ∧ ∃ o', w.heap[e.b]? = some o' ∧ oRel β o o'
  excl : ∀ {i j ei ej x y}, i ≠ j → β i = some ei → β j = some ej → σ.get i = some x → σ.get j = some y → x.own = true → ei.b = ej.b → prevOf x = some j
  lt : ∀ {id e}, β id = some e → e.b < w.heap.size
  base : Below N0 W0 w
  top : N0 ≤ w.heap.size
  code : ∀ {id e r}, β id = some e → σ.get id = some (.obj (.loop r)) → K r.fn r.assign ∧ K r.fn r.body

/-- The places that a run makes are new to the injection. -/
def Fresh (β : Inj) (σ σ' : AS) : Prop := ∀ id, σ.next ≤ id → id < σ'.next → β id = none

/-- The injection grows by places that the run has made. -/
def Ext (β β' : Inj) (σ σ' : AS) : Prop := β.le β' ∧ ∀ i e, β' i = some e → β i = some e ∨ (σ.next ≤ i ∧ i < σ'.next)

theorem Ext.refl (β : Inj) (σ : AS) : Ext β β σ σ := ⟨.refl _, fun _ _ h => .inl h⟩
theorem Ext.trans {β β1 β2 : Inj} {σ σ1 σ2 : AS} (h : Ext β β1 σ σ1) (k : Ext β1 β2 σ1 σ2) (h1 : σ.next ≤ σ1.next) (h2 : σ1.next ≤ σ2.next) : Ext β β2 σ σ2 := by
  refine ⟨h.1.trans k.1, fun i e he => ?_⟩
  rcases k.2 i e he with he | ⟨_, _⟩
  · rcases h.2 i e he with he | ⟨_, _⟩
    · exact .inl he
    · exact .inr ⟨by omega, by omega⟩
  · exact .inr ⟨by omega, by omega⟩
theorem Fresh.left {β : Inj} {σ σ1 σ2 : AS} (h : Fresh β σ σ2) (h2 : σ1.next ≤ σ2.next) : Fresh β σ σ1 := fun i h1 h3 => h i h1 (by omega)
theorem Fresh.right {β β1 : Inj} {σ σ1 σ2 : AS} (h : Fresh β σ σ2) (hx : Ext β β1 σ σ1) (h1 : σ.next ≤ σ1.next) : Fresh β1 σ1 σ2 := fun i h2 h3 => by
  cases he : β1 i with
  | none => rfl
  | some e =>
    rcases hx.2 i e he with he' | ⟨_, _⟩
    · rw [h i (by omega) h3] at he'; cases he'
    · omega

/-- Any heap at all: how the relation is kept does not hang on what lies beyond 'next'. -/
def AS.Any (_ : AS) : Prop := True

/-- The number grows. -/
structure Nx (σ σ' : AS) : Prop where
  next : σ.next ≤ σ'.next

theorem nx_runA {α : Type} {P : Program} {lim : Nat} (s : Sem α) : ∀ {σ σ' : AS} {v : α}, runA P lim s σ = some (v, σ') → Nx σ σ' := by
  induction s with
  | pure a => intro σ σ' v h; simp only [runA, Option.some.injEq, Prod.mk.injEq] at h; rw [h.2]; exact ⟨Nat.le_refl _⟩
  | load m a k ih => intro σ σ' v h; simp only [runA] at h; split at h <;> first | exact ih _ h | cases h
  | store m a x k ih =>
    intro σ σ' v h; simp only [runA] at h
    cases ho : oneCell x with
    | false => rw [ho] at h; cases h
    | true =>
      rw [ho, cond_true] at h
      split at h
      · rename_i σ1 hs
        have h1 := (ih h).next
        have h2 := (kept_setCell hs).next
        exact ⟨by omega⟩
      · cases h
  | new o k ih =>
    intro σ σ' v h; simp only [runA] at h
    split at h
    · have h1 := (ih _ h).next
      simp only [AS.next_push] at h1
      exact ⟨by omega⟩
    · cases h
  | shape r k ih => intro σ σ' v h; cases h
  | freeze a n k ih => intro σ σ' v h; cases h
  | frozen a k ih => intro σ σ' v h; cases h
  | getObj r k ih => intro σ σ' v h; simp only [runA] at h; split at h <;> first | exact ih _ h | cases h
  | setObj r o k ih =>
    intro σ σ' v h; simp only [runA] at h
    split at h
    · cases hb : (Nat.ble lim r && plainObj o) with
      | false => rw [hb] at h; cases h
      | true =>
        rw [hb, cond_true] at h
        have h1 := (ih h).next
        simp only [AS.next_put] at h1
        exact ⟨h1⟩
    · cases h
  | choose q k ih =>
    intro σ σ' v h; simp only [runA] at h
    cases hb : q.forced with
    | false => rw [hb] at h; cases h
    | true => rw [hb, cond_true] at h; exact ih _ h
  | sys c k ih => intro σ σ' v h; cases h
  | program k ih => intro σ σ' v h; exact ih _ h
  | mark m k ih => intro σ σ' v h; exact ih h
  | halt x => intro σ σ' v h; cases h

section sim
variable (P : Program) (K : FuncId → Code → Prop) (W0 : World) (N0 : Nat)

/-- A COMPUTATION OVER THE ABSTRACT HEAP AND ONE OVER THE MODEL'S: where the first comes to an answer, the second does, and they are related. -/
def Sim {α α' : Type} (β : Inj) (s : Sem α) (s' : Sem α') (A : Inj → α → α' → Prop) : Prop :=
  ∀ lim σ w v σ', σ.Any → R K W0 N0 β σ w → runA P lim s σ = some (v, σ') → Fresh β σ σ' →
    ∃ v' w' β', s'.run P w = .ok v' w' ∧ Ext β β' σ σ' ∧ R K W0 N0 β' σ' w' ∧ A β' v v'
end sim

variable {P : Program} {K : FuncId → Code → Prop} {W0 : World} {N0 : Nat}

theorem Sim.pure {α α' : Type} {β : Inj} {v : α} {v' : α'} {A : Inj → α → α' → Prop} (h : A β v v') : Sim P K W0 N0 β (.pure v) (.pure v') A := by
  intro lim σ w u σ' hw hR hr _
  simp only [runA, Option.some.injEq, Prod.mk.injEq] at hr
  obtain ⟨rfl, rfl⟩ := hr
  exact ⟨v', w, β, rfl, .refl _ _, hR, h⟩

theorem Sim.vac {α α' : Type} {β : Inj} {s : Sem α} {s' : Sem α'} {A : Inj → α → α' → Prop} (h : ∀ lim σ, runA P lim s σ = none) : Sim P K W0 N0 β s s' A := by
  intro lim σ w u σ' hw hR hr _
  rw [h] at hr; cases hr

theorem Sim.halt {α α' : Type} {β : Inj} {x : Halt} {s' : Sem α'} {A : Inj → α → α' → Prop} : Sim P K W0 N0 β (.halt x : Sem α) s' A := .vac fun _ _ => rfl

theorem runA_bind {α α' : Type} (lim : Nat) (s : Sem α) (k : α → Sem α') : ∀ σ, runA P lim (s >>= k) σ = match runA P lim s σ with
    | some (v, σ') => runA P lim (k v) σ'
    | none => none := by
  change ∀ σ, runA P lim (s.bind k) σ = _
  induction s with
  | pure a => intro σ; rfl
  | load m a j ih => intro σ; simp only [Sem.bind, runA]; split <;> simp [ih]
  | store m a v j ih =>
    intro σ; simp only [Sem.bind, runA]
    cases oneCell v
    · rfl
    · simp only [cond_true]; split <;> simp [ih]
  | new o j ih => intro σ; simp only [Sem.bind, runA]; split <;> simp [ih]
  | shape r j ih => intro σ; rfl
  | freeze a n j ih => intro σ; rfl
  | frozen a j ih => intro σ; rfl
  | getObj r j ih => intro σ; simp only [Sem.bind, runA]; split <;> simp [ih]
  | setObj r o j ih =>
    intro σ; simp only [Sem.bind, runA]
    split
    · cases (Nat.ble lim r && plainObj o)
      · rfl
      · simp [ih]
    · rfl
  | choose q j ih =>
    intro σ; simp only [Sem.bind, runA]
    cases q.forced <;> simp [ih]
  | sys c j ih => intro σ; rfl
  | program j ih => intro σ; exact ih _ σ
  | mark m j ih => intro σ; exact ih σ
  | halt x => intro σ; rfl

theorem run_bind' {α α' : Type} (s : Sem α) (k : α → Sem α') : ∀ w, (s >>= k).run P w = match s.run P w with
    | .ok v w' => (k v).run P w'
    | .halt h w' => .halt h w' := by
  change ∀ w, (s.bind k).run P w = _
  induction s with
  | pure a => intro w; rfl
  | load m a j ih =>
    intro w; simp only [Sem.bind, Sem.run]
    split
    · exact ih _ w
    · split <;> simp [ih]
  | store m a v j ih =>
    intro w
    cases v <;> simp only [Sem.bind, Sem.run] <;> first | rfl | (split <;> first | (split <;> simp [ih]) | simp [ih])
  | new o j ih => intro w; exact ih _ _
  | shape r j ih => intro w; exact ih _ _
  | freeze a n j ih => intro w; exact ih _
  | frozen a j ih => intro w; exact ih _ _
  | getObj r j ih =>
    intro w; simp only [Sem.bind, Sem.run]
    split <;> simp [ih]
  | setObj r o j ih =>
    intro w; simp only [Sem.bind, Sem.run]
    split <;> simp [ih]
  | choose q j ih =>
    intro w; simp only [Sem.bind, Sem.run]
    split <;> simp [ih]
  | sys c j ih => intro w; exact ih _ _
  | program j ih => intro w; exact ih _ _
  | mark m j ih => intro w; exact ih _
  | halt x => intro w; rfl

theorem Sim.bind {α α' γ γ' : Type} {β : Inj} {s : Sem α} {s' : Sem α'} {k : α → Sem γ} {k' : α' → Sem γ'} {A : Inj → α → α' → Prop} {B : Inj → γ → γ' → Prop}
    (h : Sim P K W0 N0 β s s' A) (hk : ∀ β' v v', β.le β' → A β' v v' → Sim P K W0 N0 β' (k v) (k' v') B) : Sim P K W0 N0 β (s >>= k) (s' >>= k') B := by
  intro lim σ w u σ2 hw hR hr hf
  rw [runA_bind] at hr
  split at hr
  · rename_i v σ1 h1
    have k1 := nx_runA _ h1
    have k2 := nx_runA _ hr
    obtain ⟨v', w1, β1, e1, x1, R1, a1⟩ := h lim σ w v σ1 hw hR h1 (hf.left k2.next)
    obtain ⟨u', w2, β2, e2, x2, R2, b2⟩ := hk β1 v v' x1.1 a1 lim σ1 w1 u σ2 trivial R1 hr (hf.right x1 k1.next)
    refine ⟨u', w2, β2, ?_, x1.trans x2 k1.next k2.next, R2, b2⟩
    rw [run_bind', e1]; exact e2
  · cases hr

theorem Sim.mono {α α' : Type} {β : Inj} {s : Sem α} {s' : Sem α'} {A B : Inj → α → α' → Prop} (h : Sim P K W0 N0 β s s' A) (hab : ∀ β' v v', β.le β' → A β' v v' → B β' v v') : Sim P K W0 N0 β s s' B := by
  intro lim σ w u σ2 hw hR hr hf
  obtain ⟨v', w1, β1, e1, x1, R1, a1⟩ := h lim σ w u σ2 hw hR hr hf
  exact ⟨v', w1, β1, e1, x1, R1, hab _ _ _ x1.1 a1⟩

/-! ## The heap's own lemmas -/

theorem heap_setCell_get (w : World) (a : Addr) (v : Value) (r : Nat) :
    (w.setCell a v).heap[r]? = if a.block = r then (w.heap[r]?).map (fun | .cells c elem fr => .cells (if a.spot.isSome then c else c.setIfInBounds a.off v) elem fr | o => o) else w.heap[r]? := by
  simp only [World.setCell, Array.getElem?_modify]
  split
  · cases w.heap[r]? with
    | none => rfl
    | some o => cases o <;> rfl
  · rfl

theorem cell?_of_heap {w : World} {b off : Nat} {C : Array Value} {ty : TypeId} {fr : Nat × Nat} (h : w.heap[b]? = some (.cells C ty fr)) : w.cell? ⟨b, off, none⟩ = C[off]? := by
  simp [World.cell?, h]

theorem frozen?_of_heap {w : World} {b off : Nat} {C : Array Value} {ty : TypeId} {fr : Nat × Nat} (h : w.heap[b]? = some (.cells C ty fr)) (hn : ¬ (fr.1 ≤ off ∧ off < fr.2)) : w.frozen? ⟨b, off, none⟩ = false := by
  obtain ⟨lo, hi⟩ := fr
  simp only [World.frozen?, h, Bool.and_eq_false_iff, decide_eq_false_iff_not]
  rcases Nat.lt_or_ge off lo with h' | h'
  · exact .inl (by omega)
  · exact .inr (by intro h2; exact hn ⟨h', h2⟩)

/-- A read. -/
theorem R.load {β : Inj} {σ : AS} {w : World} (hR : R K W0 N0 β σ w) {a a' : Addr} (ha : aRel β a a') {v : Value} (hv : σ.cell? a = some v) : ∃ v', w.cell? a' = some v' ∧ vRel β v v' := by
  obtain ⟨hs, e, he, rfl⟩ := ha
  unfold AS.cell? at hv
  split at hv
  · rename_i c rw lo pv _ hg
    obtain ⟨C, ty, fr, h1, h2, _⟩ := hR.cells he hg
    obtain ⟨hi, rfl⟩ := List.getElem?_eq_some_iff.1 hv
    obtain ⟨v', h3, h4⟩ := h2 a.off hi
    exact ⟨v', by rw [cell?_of_heap h1]; exact h3, h4⟩
  · cases hv

theorem Sim.load {α α' : Type} {β : Inj} {m : Mode} {a a' : Addr} {k : Value → Sem α} {k' : Value → Sem α'} {A : Inj → α → α' → Prop} (ha : aRel β a a')
    (hk : ∀ v v', vRel β v v' → Sim P K W0 N0 β (k v) (k' v') A) : Sim P K W0 N0 β (.load m a k) (.load m a' k') A := by
  intro lim σ w u σ2 hw hR hr hf
  simp only [runA] at hr
  split at hr
  · rename_i v hv
    obtain ⟨v', h1, h2⟩ := hR.load ha hv
    obtain ⟨u', w', β', e1, x1, R1, a1⟩ := hk v v' h2 lim σ w u σ2 hw hR hr hf
    exact ⟨u', w', β', by simp only [Sem.run, h1]; exact e1, x1, R1, a1⟩
  · cases hr

theorem oneCell_rel {β : Inj} {v v' : Value} (h : vRel β v v') (h1 : oneCell v = true) : oneCell v' = true := by
  cases h <;> first | rfl | (simp [oneCell] at h1)

/-- A write. -/
theorem R.store {β : Inj} {σ σ' : AS} {w : World} (hR : R K W0 N0 β σ w) {a a' : Addr} (ha : aRel β a a') {v v' : Value} (hv : vRel β v v') {lim : Nat} (h : σ.setCell lim a v = some σ') :
    (∃ old, w.cell? a' = some old) ∧ w.frozen? a' = false ∧ R K W0 N0 β σ' (w.setCell a' v') := by
  obtain ⟨hs, e, he, rfl⟩ := ha
  obtain ⟨_, c, lo, pv, hg, hl, ho, hn, hq, h2⟩ := AS.setCell_spec h
  obtain ⟨C, ty, fr, hC, hc, hrw, htl⟩ := hR.cells he hg
  obtain ⟨hN, hfr⟩ := hrw rfl
  obtain ⟨old, hold, _⟩ := hc a.off ho
  have hlt : e.o + a.off < C.size := (Array.getElem?_eq_some_iff.1 hold).1
  refine ⟨⟨old, by rw [cell?_of_heap hC]; exact hold⟩, frozen?_of_heap hC (hfr _ hlt), ?_⟩
  have heap : ∀ r, (w.setCell ⟨e.b, e.o + a.off, none⟩ v').heap[r]? = if e.b = r then some (.cells (C.setIfInBounds (e.o + a.off) v') ty fr) else w.heap[r]? := by
    intro r
    rw [heap_setCell_get]
    by_cases hr : e.b = r
    · subst hr; simp [hC]
    · simp [hr]
  have other : ∀ {j ej y}, j ≠ a.block → β j = some ej → σ'.get j = some y → σ.get j = some y ∧ e.b ≠ ej.b := by
    intro j ej y hj hbj hgj
    rw [h2, if_neg hj] at hgj
    split at hgj
    · cases hgj
    · rename_i hp
      refine ⟨hgj, fun heq => hp ?_⟩
      exact hR.excl (Ne.symm hj) he hbj hg hgj rfl heq
  constructor
  · intro id e' c' rw' lo' pv' hb' hg'
    by_cases hid : id = a.block
    · subst hid
      rw [he] at hb'; cases hb'
      rw [h2, if_pos rfl] at hg'
      simp only [Option.some.injEq, AObj.cells.injEq] at hg'
      obtain ⟨rfl, rfl, rfl, rfl⟩ := hg'
      refine ⟨_, ty, fr, by rw [heap, if_pos rfl], fun i hi => ?_, fun _ => ⟨hN, by simpa using hfr⟩, by simpa using htl⟩
      simp only [List.length_set] at hi
      by_cases hia : i = a.off
      · subst hia
        exact ⟨v', by simp [hlt], by simpa using hv⟩
      · obtain ⟨u, hu, hr⟩ := hc i hi
        refine ⟨u, by rw [Array.getElem?_setIfInBounds_ne (by omega)]; exact hu, ?_⟩
        rw [List.getElem_set_ne (Ne.symm hia)]; exact hr
    · obtain ⟨g1, g2⟩ := other hid hb' hg'
      obtain ⟨C', ty', fr', k1, k2, k3, k4⟩ := hR.cells hb' g1
      exact ⟨C', ty', fr', by rw [heap, if_neg g2]; exact k1, k2, k3, k4⟩
  · intro id e' o' hb' hg'
    by_cases hid : id = a.block
    · subst hid
      rw [h2, if_pos rfl] at hg'; cases hg'
    · obtain ⟨g1, g2⟩ := other hid hb' hg'
      obtain ⟨k1, k2, o'', k3, k4⟩ := hR.obj hb' g1
      exact ⟨k1, k2, o'', by rw [heap, if_neg g2]; exact k3, k4⟩
  · intro i j ei ej x y hij hbi hbj hgi hgj hx heq
    by_cases hi : i = a.block
    · subst hi
      have hj : j ≠ a.block := Ne.symm hij
      obtain ⟨g1, g2⟩ := other hj hbj hgj
      rw [he] at hbi; cases hbi
      exact absurd heq g2
    · obtain ⟨g1, g2⟩ := other hi hbi hgi
      by_cases hj : j = a.block
      · subst hj
        rw [he] at hbj; cases hbj
        exact absurd heq.symm g2
      · obtain ⟨g3, _⟩ := other hj hbj hgj
        exact hR.excl hij hbi hbj g1 g3 hx heq
  · intro id e' hb'
    have := hR.lt hb'
    simpa [World.setCell] using this
  · exact hR.base.setCell (p := ⟨e.b, e.o + a.off, none⟩) hN v'
  · have := hR.top
    simpa [World.setCell] using this
  · intro id e' r hb' hg'
    by_cases hid : id = a.block
    · subst hid; rw [h2, if_pos rfl] at hg'; cases hg'
    · rw [h2, if_neg hid] at hg'
      split at hg'
      · cases hg'
      · exact hR.code hb' hg'

theorem Sim.store {α α' : Type} {β : Inj} {m : Mode} {a a' : Addr} {v v' : Value} {k : Sem α} {k' : Sem α'} {A : Inj → α → α' → Prop} (ha : aRel β a a') (hv : vRel β v v')
    (hk : Sim P K W0 N0 β k k' A) : Sim P K W0 N0 β (.store m a v k) (.store m a' v' k') A := by
  intro lim σ w u σ2 hw hR hr hf
  simp only [runA] at hr
  cases hb : oneCell v with
  | false => simp [hb] at hr
  | true =>
    simp only [hb, cond_true] at hr
    split at hr
    · rename_i σ1 hs
      obtain ⟨⟨old, h1⟩, h2, R1⟩ := hR.store ha hv hs
      have k1 := kept_setCell hs
      have k2 := nx_runA _ hr
      have hn : σ1.next = σ.next := by obtain ⟨_, _, _, _, _, _, _, hn, _⟩ := AS.setCell_spec hs; exact hn
      obtain ⟨u', w', β', e1, x1, R2, a1⟩ := hk lim σ1 _ u σ2 trivial R1 hr (fun i h h' => hf i (by omega) h')
      refine ⟨u', w', β', ?_, ⟨x1.1, fun i e he => ?_⟩, R2, a1⟩
      · have hb' := oneCell_rel hv hb
        cases v' <;> simp only [Sem.run, h1, h2] <;> first | exact e1 | (simp [oneCell] at hb')
      · rcases x1.2 i e he with h | h
        · exact .inl h
        · exact .inr ⟨by omega, h.2⟩
    · cases hr

/-- A new object. -/
theorem R.push {β : Inj} {σ : AS} {w : World} (hR : R K W0 N0 β σ w) (hf : β σ.next = none) {x : AObj} {o' : Obj} {e : Ent} (he : e.b = w.heap.size)
    (hx : match x with
      | .cells c rw lo _ => ∃ C ty fr, o' = .cells C ty fr ∧ (∀ i (_ : i < c.length), ∃ v', C[e.o + i]? = some v' ∧ vRel β c[i] v') ∧ (rw = true → ∀ i, i < C.size → ¬ (fr.1 ≤ i ∧ i < fr.2)) ∧
          TlOk e lo c.length ty C.size
      | .obj o => e.o = 0 ∧ oRel β o o' ∧ ∀ r, o = .loop r → K r.fn r.assign ∧ K r.fn r.body) :
    R K W0 N0 (fun i => if i = σ.next then some e else β i) (σ.push x) { w with heap := w.heap.push o' } ∧ β.le (fun i => if i = σ.next then some e else β i) := by
  have hle : β.le (fun i => if i = σ.next then some e else β i) := by
    intro i e' h
    simp only []
    rw [if_neg (by rintro rfl; rw [hf] at h; cases h)]; exact h
  refine ⟨?_, hle⟩
  have heap : ∀ r, (w.heap.push o')[r]? = if r = w.heap.size then some o' else w.heap[r]? := fun r => by rw [Array.getElem?_push]
  constructor
  · intro id e' c rw' lo pv hb hg
    rw [AS.get_push] at hg
    by_cases hid : id = σ.next
    · rw [if_pos hid] at hb hg
      simp only [Option.some.injEq] at hb hg
      subst hb hg
      obtain ⟨C, ty, fr, rfl, h1, h2, h3⟩ := hx
      refine ⟨C, ty, fr, by simp only []; rw [heap, if_pos he], fun i hi => ?_, fun h => ⟨by have := hR.top; omega, h2 h⟩, h3⟩
      obtain ⟨v', k1, k2⟩ := h1 i hi
      exact ⟨v', k1, k2.mono hle⟩
    · rw [if_neg hid] at hb hg
      obtain ⟨C, ty, fr, k1, k2, k3, k4⟩ := hR.cells hb hg
      refine ⟨C, ty, fr, by simp only []; rw [heap, if_neg (by have := hR.lt hb; omega)]; exact k1, fun i hi => ?_, k3, k4⟩
      obtain ⟨v', m1, m2⟩ := k2 i hi
      exact ⟨v', m1, m2.mono hle⟩
  · intro id e' o hb hg
    rw [AS.get_push] at hg
    by_cases hid : id = σ.next
    · rw [if_pos hid] at hb hg
      simp only [Option.some.injEq] at hb hg
      subst hb hg
      exact ⟨by have := hR.top; omega, hx.1, o', by simp only []; rw [heap, if_pos he], hx.2.1.mono hle⟩
    · rw [if_neg hid] at hb hg
      obtain ⟨k1, k2, o'', k3, k4⟩ := hR.obj hb hg
      exact ⟨k1, k2, o'', by simp only []; rw [heap, if_neg (by have := hR.lt hb; omega)]; exact k3, k4.mono hle⟩
  · intro i j ei ej y z hij hbi hbj hgi hgj hy heq
    rw [AS.get_push] at hgi hgj
    by_cases hi : i = σ.next
    · rw [if_pos hi] at hbi
      rw [if_neg (by omega)] at hbj
      simp only [Option.some.injEq] at hbi
      subst hbi
      have := hR.lt hbj; omega
    · rw [if_neg hi] at hbi hgi
      by_cases hj : j = σ.next
      · rw [if_pos hj] at hbj
        simp only [Option.some.injEq] at hbj
        subst hbj
        have := hR.lt hbi; omega
      · rw [if_neg hj] at hbj hgj
        exact hR.excl hij hbi hbj hgi hgj hy heq
  · intro id e' hb
    show e'.b < (w.heap.push o').size
    rw [Array.size_push]
    by_cases hid : id = σ.next
    · rw [if_pos hid] at hb; simp only [Option.some.injEq] at hb; subst hb; omega
    · rw [if_neg hid] at hb; have := hR.lt hb; omega
  · exact hR.base.alloc hR.top o'
  · have := hR.top
    show N0 ≤ (w.heap.push o').size
    rw [Array.size_push]; omega
  · intro id e' r hb hg
    rw [AS.get_push] at hg
    by_cases hid : id = σ.next
    · rw [if_pos hid] at hg
      simp only [Option.some.injEq] at hg
      subst hg
      exact hx.2.2 r rfl
    · rw [if_neg hid] at hg hb; exact hR.code hb hg

end Go.Va
