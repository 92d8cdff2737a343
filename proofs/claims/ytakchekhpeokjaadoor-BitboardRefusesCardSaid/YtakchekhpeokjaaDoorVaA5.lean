/-
  SIMULATION: the operations.
-/
import Derived.Test.YtakchekhpeokjaaDoorVaA4
namespace Go.Va
open Go.RowKit
variable {P : Program} {K : FuncId → Code → Prop} {W0 : World} {N0 : Nat}

/-- Equal answers, no place made. -/
def eqRel {α : Type} (β : Inj) : Inj → α → α → Prop := fun β' r r' => β' = β ∧ r = r'

theorem Sim.eta {α α' : Type} {β : Inj} {s : Sem α} {s' : Sem α'} {A : Inj → α → α' → Prop} (h : Sim P K W0 N0 β (s >>= Pure.pure) (s' >>= Pure.pure) A) : Sim P K W0 N0 β s s' A := by
  intro lim σ w u σ2 hw hR hr hf
  obtain ⟨v', w1, β1, e1, x1, R1, a1⟩ := h lim σ w u σ2 hw hR (by rw [runA_bind, hr]; rfl) hf
  refine ⟨v', w1, β1, ?_, x1, R1, a1⟩
  rw [run_bind'] at e1
  split at e1
  · rename_i v w' h1
    rw [h1]; exact e1
  · cases e1

theorem Sim.bindEq {α γ γ' : Type} {β : Inj} {s s' : Sem α} {k : α → Sem γ} {k' : α → Sem γ'} {B : Inj → γ → γ' → Prop}
    (h : Sim P K W0 N0 β s s' (eqRel β)) (hk : ∀ v, Sim P K W0 N0 β (k v) (k' v) B) : Sim P K W0 N0 β (s >>= k) (s' >>= k') B :=
  h.bind fun β' v v' _ e => by obtain ⟨rfl, rfl⟩ := e; exact hk v

theorem Sim.bindV {γ γ' : Type} {β : Inj} {s s' : Sem Value} {k : Value → Sem γ} {k' : Value → Sem γ'} {B : Inj → γ → γ' → Prop}
    (h : Sim P K W0 N0 β s s' vRel) (hk : ∀ β' v v', β.le β' → vRel β' v v' → Sim P K W0 N0 β' (k v) (k' v') B) : Sim P K W0 N0 β (s >>= k) (s' >>= k') B := h.bind hk

theorem Sim.bind0 {α α' γ γ' : Type} {β : Inj} {s : Sem α} {s' : Sem α'} {k : α → Sem γ} {k' : α' → Sem γ'} {A : α → α' → Prop} {B : Inj → γ → γ' → Prop}
    (h : Sim P K W0 N0 β s s' (fun β' v v' => β' = β ∧ A v v')) (hk : ∀ v v', A v v' → Sim P K W0 N0 β (k v) (k' v') B) : Sim P K W0 N0 β (s >>= k) (s' >>= k') B :=
  h.bind fun β' v v' _ e => by obtain ⟨rfl, e⟩ := e; exact hk v v' e

theorem sim_asIntOf {β : Inj} {v v' : Value} (h : vRel β v v') : Sim P K W0 N0 β (asIntOf v) (asIntOf v') (eqRel β) := by
  cases h <;> first | exact .ret ⟨rfl, rfl⟩ | exact Sim.unsupported | exact Sim.stuck
theorem sim_asInt {β : Inj} {v v' : Value} (h : vRel β v v') : Sim P K W0 N0 β (asInt v) (asInt v') (eqRel β) := by
  unfold asInt
  exact Sim.bindEq (sim_asIntOf h) fun v => .ret ⟨rfl, rfl⟩
theorem sim_asBool {β : Inj} {v v' : Value} (h : vRel β v v') : Sim P K W0 N0 β (asBool v) (asBool v') (eqRel β) := by
  cases h <;> first | exact .ret ⟨rfl, rfl⟩ | exact Sim.stuck
theorem sim_asAgg {β : Inj} {v v' : Value} (h : vRel β v v') : Sim P K W0 N0 β (asAgg v) (asAgg v') (fun β' c c' => β' = β ∧ arrRel β c c') := by
  cases h <;> first | exact Sim.stuck | (rename_i h1 h2; exact .ret ⟨rfl, h1, h2⟩)
theorem sim_sureAddr {β : Inj} {v v' : Value} (h : vRel β v v') : Sim P K W0 N0 β (Instr.sureAddr v) (Instr.sureAddr v') (fun β' c c' => β' = β ∧ aRel β c c') := by
  cases h <;> first | exact Sim.stuck | (rename_i h1; exact .ret ⟨rfl, h1⟩)

theorem sim_alloc {β : Inj} (hZ : ZeroOk P) (e : TypeId) : Sim P K W0 N0 β (Instr.alloc e true (.tuple #[])) (Instr.alloc e true (.tuple #[])) vRel := by
  unfold Instr.alloc
  refine Sim.zeroValue_bind hZ fun i z _ _ hz => ?_
  exact Sim.newVar_bind hz fun β' a a' _ ha => .ret (.ptr ha)

theorem sim_box {β : Inj} {v v' : Value} (hv : vRel β v v') (e : TypeId) : Sim P K W0 N0 β (Instr.box e v) (Instr.box e v') vRel := by
  unfold Instr.box
  exact Sim.newVar_bind hv fun β' a a' _ ha => .ret (.ptr ha)

theorem sim_loadVar {β : Inj} {t : TypeId} {a a' : Addr} (ha : aRel β a a') : Sim P K W0 N0 β (loadVar t a) (loadVar t a') (fun β' v v' => β' = β ∧ vRel β v v') :=
  Sim.eta (Sim.loadVar_bind ha fun _ _ h => .ret ⟨rfl, h⟩)

theorem sim_loadAt {β : Inj} {v v' : Value} (hv : vRel β v v') (t : TypeId) : Sim P K W0 N0 β (Instr.loadAt t v) (Instr.loadAt t v') (fun β' v v' => β' = β ∧ vRel β v v') := by
  unfold Instr.loadAt
  exact Sim.bind0 (sim_sureAddr hv) fun a a' ha => sim_loadVar ha

theorem sim_storeAt {β : Inj} {a a' v v' : Value} (ha : vRel β a a') (hv : vRel β v v') (t : TypeId) : Sim P K W0 N0 β (Instr.storeAt t a v) (Instr.storeAt t a' v') (fun β' _ _ => β' = β) := by
  unfold Instr.storeAt
  exact Sim.bind0 (sim_sureAddr ha) fun a a' ha => Sim.eta (Sim.storeVar_bind ha hv (.ret rfl))

theorem never_byteOf {a : Addr} (h : a.spot = none) : Never P (byteOf a) := by
  intro lim σ
  unfold byteOf
  rw [h]
  simp only []
  rw [runA_bind]
  show (match runA P lim Go.program σ with | some (v, σ') => _ | none => none) = none
  have : runA P lim Go.program σ = some (P, σ) := rfl
  rw [this]
  simp only []
  rw [runA_bind]
  have h2 : runA P lim (noView a) σ = none := by
    unfold noView
    rw [runA_bind]
    have h3 : runA P lim (viewAt a.block) σ = none := by
      unfold viewAt
      rw [runA_bind]
      have : runA P lim (shape a.block) σ = none := rfl
      rw [this]
    rw [h3]
  rw [h2]

theorem never_partAt {a : Addr} (h : a.spot = none) (c b : Nat) : Never P (partAt a c b) := by
  unfold partAt
  exact Never.bind (never_byteOf h)

theorem sim_fieldPlace {β : Inj} {a a' : Addr} (ha : aRel β a a') (f : Field) : Sim P K W0 N0 β (fieldPlace a f) (fieldPlace a' f) (fun β' c c' => β' = β ∧ aRel β c c') := by
  unfold fieldPlace
  refine Sim.sizeOf_bind fun d _ => Sim.ite (fun _ => ?_) fun _ => .ret ⟨rfl, ha.add _⟩
  exact (never_partAt ha.1 _ _).sim

theorem sim_fieldAt {β : Inj} {v v' : Value} (hv : vRel β v v') (s : TypeId) (f : Nat) : Sim P K W0 N0 β (Instr.fieldAt s v f) (Instr.fieldAt s v' f) vRel := by
  unfold Instr.fieldAt
  refine Sim.underlying_bind fun d _ => ?_
  cases d <;> first | exact Sim.stuck | skip
  rename_i fields _
  simp only []
  cases fields[f]? with
  | none => exact Sim.stuck
  | some fd =>
    refine Sim.bind0 (sim_sureAddr hv) fun a a' ha => ?_
    exact Sim.bind0 (sim_fieldPlace ha fd) fun a a' ha => .ret (.ptr ha)

theorem sim_field {β : Inj} {v v' : Value} (hv : vRel β v v') (s : TypeId) (f : Nat) : Sim P K W0 N0 β (Instr.field s v f) (Instr.field s v' f) vRel := by
  unfold Instr.field
  refine Sim.underlying_bind fun d _ => ?_
  cases d <;> first | exact Sim.stuck | skip
  rename_i fields _
  simp only []
  cases fields[f]? with
  | none => exact Sim.stuck
  | some fd =>
    refine Sim.bind0 (sim_asAgg hv) fun c c' hc => ?_
    exact Sim.eta (Sim.part_bind hc fun v v' h => .ret h)

theorem sim_indexAt {β : Inj} {x x' i i' : Value} (hx : vRel β x x') (hi : vRel β i i') (t : TypeId) : Sim P K W0 N0 β (Instr.indexAt t x i) (Instr.indexAt t x' i') vRel := by
  unfold Instr.indexAt
  refine Sim.bindEq (sim_asIntOf hi) fun ki => ?_
  obtain ⟨k, i⟩ := ki
  simp only []
  refine Sim.underlying_bind fun d hd => ?_
  cases d <;> first | exact (Never.bind (never_stuck _)).sim | skip
  case slice e =>
    cases hx <;> first | exact (Never.bind (never_stuck _)).sim | skip
    case sliceNone l c =>
      show Sim P K W0 N0 β (underlying t >>= _) (underlying t >>= _) vRel
      refine Sim.underlying_bind fun d hd => ?_
      exact Sim.boundsPanic
    case slice a a' c c' l h hc =>
      show Sim P K W0 N0 β (underlying t >>= _) (underlying t >>= _) vRel
      refine Sim.underlying_bind fun d hd => ?_
      refine Sim.ite (fun _ => ?_) fun _ => Sim.ite (fun _ => Sim.unsupported) fun _ => Sim.boundsPanic
      exact Sim.sizeOf_bind fun d _ => .ret (.ptr (h.add _))
    case void a a' c' h =>
      show Sim P K W0 N0 β (underlying t >>= _) (underlying t >>= _) vRel
      refine Sim.underlying_bind fun d hd => ?_
      simp only []
      rw [if_neg (by omega)]
      split
      · exact Sim.unsupported
      · exact Sim.boundsPanic
  case array n e =>
    refine Sim.bind0 (sim_sureAddr hx) fun a a' ha => ?_
    show Sim P K W0 N0 β (underlying t >>= _) (underlying t >>= _) vRel
    refine Sim.underlying_bind fun d hd => ?_
    refine Sim.ite (fun _ => ?_) fun _ => Sim.ite (fun _ => Sim.unsupported) fun _ => Sim.boundsPanic
    exact Sim.sizeOf_bind fun d _ => .ret (.ptr (ha.add _))

theorem sim_index {β : Inj} {x x' i i' : Value} (hx : vRel β x x') (hi : vRel β i i') (t : TypeId) : Sim P K W0 N0 β (Instr.index t x i) (Instr.index t x' i') vRel := by
  unfold Instr.index
  refine Sim.bindEq (sim_asIntOf hi) fun ki => ?_
  obtain ⟨k, i⟩ := ki
  simp only []
  refine Sim.underlying_bind fun d hd => ?_
  cases d <;> first | exact Sim.stuck | skip
  case string =>
    cases hx <;> first | exact Sim.stuck | skip
    case string s =>
      simp only []
      cases (if 0 ≤ i then s[i.toNat]? else none) with
      | none => exact Sim.boundsPanic
      | some b => exact .ret (.int _ _)
  case array n e =>
    cases hx <;> first | exact Sim.stuck | skip
    case agg c c' h1 h2 =>
      refine Sim.ite (fun _ => ?_) fun _ => Sim.boundsPanic
      exact Sim.sizeOf_bind fun d _ => Sim.eta (Sim.part_bind ⟨h1, h2⟩ fun v v' h => .ret h)

theorem sim_arrayAt {β : Inj} {x x' : Value} (hx : vRel β x x') (ho : arrOkA x = true) (t : TypeId) : Sim P K W0 N0 β (Instr.arrayAt t x) (Instr.arrayAt t x') vRel := by
  unfold Instr.arrayAt
  refine Sim.underlying_bind fun d hd => ?_
  cases d <;> first | exact Sim.stuck | skip
  case array n e =>
    cases hx <;> first | exact Sim.stuck | skip
    case sliceNone l c => exact Sim.ite (fun _ => Sim.runtimePanic) fun _ => .ret .ptrNone
    case slice a a' c c' l h hc => exact Sim.ite (fun _ => Sim.runtimePanic) fun _ => .ret (.ptr h)
    case void a a' c' h => simp only [arrOkA, Option.isNone_iff_eq_none] at ho; rw [ho] at h; cases h

theorem sim_extract {β : Inj} {x x' : Value} (hx : vRel β x x') (i : Nat) : Sim P K W0 N0 β (Instr.extract x i) (Instr.extract x' i) (fun β' v v' => β' = β ∧ vRel β v v') := by
  cases hx <;> first | exact Sim.stuck | skip
  case tuple f f' h1 h2 =>
    have hl := arrRel_iff.1 ⟨h1, h2⟩
    simp only [Instr.extract]
    cases hv : f[i]? with
    | none => exact Sim.stuck
    | some v =>
      obtain ⟨v', h3, h4⟩ := hl.getElem? i (v := v) (by simpa using hv)
      have h3' : f'[i]? = some v' := by simpa using h3
      rw [h3']
      exact .ret ⟨rfl, h4⟩

theorem sim_makeInterface {β : Inj} {x x' : Value} (hx : vRel β x x') (t : TypeId) : Sim P K W0 N0 β (Instr.makeInterface t x) (Instr.makeInterface t x') vRel := by
  unfold Instr.makeInterface
  refine Sim.underlying_bind fun d hd => ?_
  cases d <;> first | exact Sim.stuck | exact .ret (.iface _ hx)

theorem esRel_nil {β : Inj} : esRel β [] [] := trivial

theorem sim_makeMap {β : Inj} {t : TypeId} {r r' : Option Value} (hr : ∀ v, r = some v → ∃ v', r' = some v' ∧ vRel β v v') (hn : r = none → r' = none) : Sim P K W0 N0 β (Instr.makeMap t r) (Instr.makeMap t r') vRel := by
  unfold Instr.makeMap
  have fin : Sim P K W0 N0 β (do pure (.map (some (← newObj (.map #[] 0)))) : Sem Value) (do pure (.map (some (← newObj (.map #[] 0))))) vRel :=
    Sim.newObj (.map 0 esRel_nil) (fun r h => by cases h) fun β' r e _ he h0 _ => .ret (.map he h0)
  cases r with
  | none => rw [hn rfl]; exact fin
  | some v =>
    obtain ⟨v', rfl, hv⟩ := hr v rfl
    simp only []
    refine Sim.underlying_bind fun d hd => ?_
    cases d <;> first | exact Sim.stuck | skip
    exact Sim.bindEq (sim_asInt hv) fun _ => fin

theorem vRel_default {β : Inj} : vRel β default default := plain_rel 1 _ rfl

theorem arrRel_getBang {β : Inj} {f f' : Array Value} (h : arrRel β f f') (i : Nat) : vRel β f[i]! f'[i]! := by
  by_cases hi : i < f.size
  · have hi' : i < f'.size := by rw [← h.1]; exact hi
    rw [getElem!_pos f i hi, getElem!_pos f' i hi']
    exact h.2 i hi hi'
  · have hi' : ¬ i < f'.size := by rw [← h.1]; exact hi
    rw [getElem!_neg f i hi, getElem!_neg f' i hi']
    exact vRel_default

theorem arrRel_map {β : Inj} {ι : Type} {l : Array ι} {f f' : ι → Value} (h : ∀ i, vRel β (f i) (f' i)) : arrRel β (l.map f) (l.map f') :=
  ⟨by simp, fun i hi hi' => by simpa using h _⟩

theorem sim_makeSlice {β : Inj} (hZ : ZeroOk P) {t : TypeId} {l l' c c' : Value} (hl : vRel β l l') (hc : vRel β c c') : Sim P K W0 N0 β (Instr.makeSlice t l c) (Instr.makeSlice t l' c') vRel := by
  unfold Instr.makeSlice
  refine Sim.underlying_bind fun d hd => ?_
  cases d <;> first | exact Sim.stuck | skip
  rename_i elem
  refine Sim.bindEq (sim_asInt hl) fun len => Sim.bindEq (sim_asInt hc) fun cap => ?_
  refine Sim.typeInfo_bind fun i hi => ?_
  simp only []
  split
  · split
    · exact (Never.bind (never_runtimePanic _)).sim
    · split
      · exact (Never.bind (never_runtimePanic _)).sim
      · exact (Never.bind_r fun _ => Never.bind (never_runtimePanic _)).sim
  · have hask : ∀ {γ γ' : Type} (n : Nat) (k : Unit → Sem γ) (k' : Unit → Sem γ') (B : Inj → γ → γ' → Prop), Sim P K W0 N0 β (k ()) (k' ()) B → Sim P K W0 N0 β (askRoom n >>= k) (askRoom n >>= k') B := by
      intro γ γ' n k k' B h
      unfold askRoom
      split
      · exact Sim.mark h
      · exact h
    refine hask _ _ _ _ ?_
    refine Sim.sizeOf_bind fun i' hi' => ?_
    refine Sim.ite (fun _ => ?_) fun _ => ?_
    · show Sim P K W0 N0 β (newRow elem _ >>= _) (newRow elem _ >>= _) vRel
      exact Sim.newRow_bind (arrRel_map fun i => arrRel_getBang arrRel_empty _) fun β' a a' _ ha _ _ => .ret (vRel.slice _ ha (.inl rfl))
    · refine Sim.zeroValue_bind hZ fun i z _ _ hz => ?_
      show Sim P K W0 N0 β (newRow elem _ >>= _) (newRow elem _ >>= _) vRel
      exact Sim.newRow_bind (arrRel_map fun i => arrRel_getBang (cells_rel hz) _) fun β' a a' _ ha _ _ => .ret (vRel.slice _ ha (.inl rfl))

end Go.Va
