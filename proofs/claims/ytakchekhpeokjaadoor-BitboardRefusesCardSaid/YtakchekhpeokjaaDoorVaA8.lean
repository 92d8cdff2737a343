/-
  SIMULATION: conversions, slices of strings and arrays, maps, ranges, builtins.
-/
import Derived.Test.YtakchekhpeokjaaDoorVaA7
namespace Go.Va
open Go.RowKit
variable {P : Program} {K : FuncId → Code → Prop} {W0 : World} {N0 : Nat}

theorem sim_convert {β : Inj} {src dst : TypeId} {x x' : Value} (hx : vRel β x x') (ho : convOk P src dst x = true) : Sim P K W0 N0 β (convert src dst x) (convert src dst x') vRel := by
  unfold convert
  refine Sim.underlying_bind fun d1 h1 => Sim.underlying_bind fun d2 h2 => ?_
  cases hx with
  | int k n =>
    simp only [convOk, h2] at ho
    cases d2 <;> first | cases ho | skip
    · exact .ret (.int _ _)
    · exact .ret (.string _)
  | string s =>
    simp only [convOk, h2] at ho
    cases d2 <;> first | exact .ret (vRel.string _) | cases ho
  | sliceNone l c =>
    simp only [convOk, h1, h2] at ho
    cases d1 <;> first | cases ho | skip
    cases d2 <;> first | cases ho | skip
    refine Sim.underlying_bind fun d3 _ => ?_
    cases d3 <;> first | exact Sim.stuck | skip
    rename_i k _
    cases k <;> first | exact Sim.stuck | exact sim_bytesToString (.sliceNone _ _) | exact sim_runesToString (.sliceNone _ _)
  | slice l h hc =>
    simp only [convOk, h1, h2] at ho
    cases d1 <;> first | cases ho | skip
    cases d2 <;> first | cases ho | skip
    refine Sim.underlying_bind fun d3 _ => ?_
    cases d3 <;> first | exact Sim.stuck | skip
    rename_i k _
    cases k <;> first | exact Sim.stuck | exact sim_bytesToString (.slice _ h hc) | exact sim_runesToString (.slice _ h hc)
  | void a c h =>
    simp only [convOk, h1, h2] at ho
    cases d1 <;> first | cases ho | skip
    cases d2 <;> first | cases ho | skip
    refine Sim.underlying_bind fun d3 _ => ?_
    cases d3 <;> first | exact Sim.stuck | skip
    rename_i k _
    cases k <;> first | exact Sim.stuck | exact sim_bytesToString (.void _ _ h) | exact sim_runesToString (.void _ _ h)
  | _ => cases ho

/-- Optional operands. -/
def ovRel (β : Inj) : Option Value → Option Value → Prop
  | none, none => True
  | some v, some v' => vRel β v v'
  | _, _ => False

theorem Sim.pure_bind {α α' γ γ' : Type} {β : Inj} {v : α} {v' : α'} {k : α → Sem γ} {k' : α' → Sem γ'} {B : Inj → γ → γ' → Prop} (h : Sim P K W0 N0 β (k v) (k' v') B) :
    Sim P K W0 N0 β (Pure.pure v >>= k) (Pure.pure v' >>= k') B := h

theorem sim_sliceBound {β : Inj} {x x' : Value} (hx : vRel β x x') (y : Nat) (c : BoundsCode) : Sim P K W0 N0 β (Instr.sliceBound x y c) (Instr.sliceBound x' y c) (eqRel β) := by
  unfold Instr.sliceBound
  refine Sim.bindEq (sim_asIntOf hx) fun ki => ?_
  obtain ⟨k, i⟩ := ki
  exact Sim.ite (fun _ => .ret ⟨rfl, rfl⟩) fun _ => Sim.boundsPanic

theorem sim_sliceBounds {β : Inj} {lo lo' hi hi' mx mx' : Option Value} (h1 : ovRel β lo lo') (h2 : ovRel β hi hi') (h3 : ovRel β mx mx') (b : Bool) (n c : Nat) :
    Sim P K W0 N0 β (Instr.sliceBounds b n c lo hi mx) (Instr.sliceBounds b n c lo' hi' mx') (eqRel β) := by
  unfold Instr.sliceBounds
  dsimp only
  cases mx <;> cases mx' <;> first | exact h3.elim | skip
  · refine Sim.pure_bind ?_
    cases hi <;> cases hi' <;> first | exact h2.elim | skip
    · refine Sim.pure_bind ?_
      cases lo <;> cases lo' <;> first | exact h1.elim | skip
      · exact Sim.pure_bind (Sim.ret ⟨rfl, rfl⟩)
      · exact Sim.bindEq (sim_sliceBound h1 _ _) fun _ => Sim.ret ⟨rfl, rfl⟩
    · refine Sim.bindEq (sim_sliceBound h2 _ _) fun _ => ?_
      cases lo <;> cases lo' <;> first | exact h1.elim | skip
      · exact Sim.pure_bind (Sim.ret ⟨rfl, rfl⟩)
      · exact Sim.bindEq (sim_sliceBound h1 _ _) fun _ => Sim.ret ⟨rfl, rfl⟩
  · refine Sim.bindEq (sim_sliceBound h3 _ _) fun _ => ?_
    cases hi <;> cases hi' <;> first | exact h2.elim | skip
    · exact Never.sim (Never.bind (never_stuck _))
    · refine Sim.bindEq (sim_sliceBound h2 _ _) fun _ => ?_
      cases lo <;> cases lo' <;> first | exact h1.elim | skip
      · exact Sim.pure_bind (Sim.ret ⟨rfl, rfl⟩)
      · exact Sim.bindEq (sim_sliceBound h1 _ _) fun _ => Sim.ret ⟨rfl, rfl⟩

theorem never_asAddr_none : Never P (asAddr (.pointer none)) := by
  unfold asAddr
  exact never_runtimePanic _

def isSl : Value → Bool
  | .slice .. => true
  | _ => false

theorem sim_sliceAt {β : Inj} {t : TypeId} {x x' : Value} {lo lo' hi hi' mx mx' : Option Value} (hx : vRel β x x') (hs : isSl x = false) (h1 : ovRel β lo lo') (h2 : ovRel β hi hi') (h3 : ovRel β mx mx') :
    Sim P K W0 N0 β (Instr.sliceAt t x lo hi mx) (Instr.sliceAt t x' lo' hi' mx') vRel := by
  have part : ∀ (a a' : Addr) (n : Nat) (e : TypeId), aRel β a a' → Sim P K W0 N0 β
      (do let (l, h, m) ← Instr.sliceBounds false n n lo hi mx
          let size ← sizeOf e
          pure (Value.slice (some (if m = l then a else a.add (l * size))) (h - l) (m - l)))
      (do let (l, h, m) ← Instr.sliceBounds false n n lo' hi' mx'
          let size ← sizeOf e
          pure (Value.slice (some (if m = l then a' else a'.add (l * size))) (h - l) (m - l))) vRel := by
    intro a a' n e ha
    refine Sim.bindEq (sim_sliceBounds h1 h2 h3 _ _ _) fun r => ?_
    obtain ⟨l, h, m⟩ := r
    refine Sim.sizeOf_bind fun i _ => .ret (vRel.slice _ ?_ (.inl rfl))
    split
    · exact ha
    · exact ha.add _
  have gen : Sim P K W0 N0 β (Instr.slice t x lo hi mx) (Instr.slice t x' lo' hi' mx') vRel := by
    unfold Instr.slice
    refine Sim.underlying_bind fun d _ => ?_
    cases d <;> first | exact Sim.stuck | skip
    case string =>
      cases hx <;> first | exact Sim.stuck | skip
      case string s =>
        have hm : mx.isSome = mx'.isSome := by cases mx <;> cases mx' <;> first | rfl | exact h3.elim
        dsimp only
        rw [← hm]
        refine Sim.ite (fun _ => (Never.bind (never_stuck _)).sim) fun _ => ?_
        refine Sim.bindEq (sim_sliceBounds h1 h2 (show ovRel β none none from trivial) _ _ _) fun r => ?_
        obtain ⟨l, h, m⟩ := r
        exact .ret (.string _)
    case pointer arr _ =>
      have hp : ∀ {γ γ' : Type} (k : Addr → Sem γ) (k' : Addr → Sem γ') (B : Inj → γ → γ' → Prop), (∀ a a', aRel β a a' → Sim P K W0 N0 β (k a) (k' a') B) → Sim P K W0 N0 β (asAddr x >>= k) (asAddr x' >>= k') B := by
        intro γ γ' k k' B hk
        cases hx <;> first | exact Never.sim (Never.bind (never_stuck _)) | exact Never.sim (Never.bind never_asAddr_none) | skip
        case ptr a a' h => exact hk _ _ h
      refine hp _ _ _ fun a a' ha => ?_
      refine Sim.underlying_bind fun d2 _ => ?_
      cases d2 <;> first | exact Sim.stuck | exact part a a' _ _ ha
    case slice e _ =>
      cases hx <;> first | exact Sim.stuck | (cases hs)
  unfold Instr.sliceAt
  refine Sim.underlying_bind fun d _ => ?_
  cases d <;> first | exact gen | skip
  case array n e _ => exact Sim.bind0 (sim_sureAddr hx) fun a a' ha => part a a' n e ha

theorem Sim.getObj_bind {γ γ' : Type} {β : Inj} {r : Nat} {e : Ent} {k : Obj → Sem γ} {k' : Obj → Sem γ'} {B : Inj → γ → γ' → Prop} (he : β r = some e)
    (hk : ∀ o o', oRel β o o' → LoopOk K o → Sim P K W0 N0 β (k o) (k' o') B) : Sim P K W0 N0 β (Go.getObj r >>= k) (Go.getObj e.b >>= k') B := Sim.getObj he hk
theorem Sim.of_obj {γ γ' : Type} {β : Inj} {r : Nat} {e : Ent} {k : Obj → Sem γ} {s' : Sem γ'} {B : Inj → γ → γ' → Prop} (he : β r = some e)
    (h : e.o = 0 → Sim P K W0 N0 β (Go.getObj r >>= k) s' B) : Sim P K W0 N0 β (Go.getObj r >>= k) s' B := by
  intro lim σ w u σ2 hw hR hr hf
  have h0 : e.o = 0 := by
    have h1 := hr
    change runA P lim (.getObj r k) σ = some (u, σ2) at h1
    simp only [runA] at h1
    split at h1
    · rename_i o hg; exact (hR.obj he hg).2.1
    · cases h1
  exact h h0 lim σ w u σ2 hw hR hr hf
theorem Sim.setObj_bind {γ γ' : Type} {β : Inj} {r : Nat} {e : Ent} {o o' : Obj} {k : Unit → Sem γ} {k' : Unit → Sem γ'} {B : Inj → γ → γ' → Prop} (he : β r = some e) (ho : oRel β o o') (hL : LoopOk K o)
    (hk : Sim P K W0 N0 β (k ()) (k' ()) B) : Sim P K W0 N0 β (Go.setObj r o >>= k) (Go.setObj e.b o' >>= k') B := Sim.setObj he ho hL hk
theorem Sim.newObj_bind {γ γ' : Type} {β : Inj} {o o' : Obj} {k : Nat → Sem γ} {k' : Nat → Sem γ'} {B : Inj → γ → γ' → Prop} (ho : oRel β o o') (hL : LoopOk K o)
    (hk : ∀ β' r e, β.le β' → β' r = some e → e.o = 0 → e.tail = none → Sim P K W0 N0 β' (k r) (k' e.b) B) : Sim P K W0 N0 β (Go.newObj o >>= k) (Go.newObj o' >>= k') B := Sim.newObj ho hL hk

/-! ## Maps -/

theorem sim_findAsking {β : Inj} {k k' : Value} (hk : vRel β k k') (kt : TypeId) : ∀ {es es' : List MapEntry} (i : Nat), esRel β es es' →
    Sim P K W0 N0 β (Instr.findAsking kt k es i) (Instr.findAsking kt k' es' i) (fun β' r r' => β' = β ∧ ((r = none ∧ r' = none) ∨ ∃ j v v', r = some (j, v) ∧ r' = some (j, v') ∧ vRel β v v'))
  | [], [], i, _ => .ret ⟨rfl, .inl ⟨rfl, rfl⟩⟩
  | e :: es, e' :: es', i, h => by
    unfold Instr.findAsking
    refine Sim.bindEq (sim_equal kt hk h.1.1) fun b => Sim.ite (fun _ => .ret ⟨rfl, .inr ⟨i, _, _, rfl, rfl, h.1.2.1⟩⟩) fun _ => ?_
    exact sim_findAsking hk kt (i + 1) h.2
  | [], _ :: _, _, h => h.elim
  | _ :: _, [], _, h => h.elim

theorem sameNow_rel {β : Inj} {kd : TypeDesc} {a a' b b' : Value} (ha : vRel β a a') (hb : vRel β b b') : Instr.sameNow kd a b = Instr.sameNow kd a' b' := by
  cases kd <;> first | rfl | (cases ha <;> first | rfl | (cases hb <;> rfl))

theorem findNow_rel {β : Inj} {kd : TypeDesc} {k k' : Value} (hk : vRel β k k') : ∀ {es es' : List MapEntry} (i : Nat), esRel β es es' →
    (Instr.findNow kd k es i = none ∧ Instr.findNow kd k' es' i = none) ∨ (Instr.findNow kd k es i = some none ∧ Instr.findNow kd k' es' i = some none) ∨
      ∃ j v v', Instr.findNow kd k es i = some (some (j, v)) ∧ Instr.findNow kd k' es' i = some (some (j, v')) ∧ vRel β v v'
  | [], [], i, _ => .inr (.inl ⟨rfl, rfl⟩)
  | e :: es, e' :: es', i, h => by
    unfold Instr.findNow
    rw [← sameNow_rel hk h.1.1]
    cases Instr.sameNow kd k e.key with
    | none => exact .inl ⟨rfl, rfl⟩
    | some b =>
      cases b with
      | true => exact .inr (.inr ⟨i, _, _, rfl, rfl, h.1.2.1⟩)
      | false => exact findNow_rel hk (i + 1) h.2
  | [], _ :: _, _, h => h.elim
  | _ :: _, [], _, h => h.elim

theorem sim_findKey {β : Inj} {k k' : Value} (hk : vRel β k k') (kt : TypeId) {es es' : List MapEntry} (h : esRel β es es') :
    Sim P K W0 N0 β (Instr.findKey kt k es) (Instr.findKey kt k' es') (fun β' r r' => β' = β ∧ ((r = none ∧ r' = none) ∨ ∃ j v v', r = some (j, v) ∧ r' = some (j, v') ∧ vRel β v v')) := by
  unfold Instr.findKey
  refine Sim.underlying_bind fun d _ => ?_
  rcases findNow_rel (kd := d) hk 0 h with ⟨h1, h2⟩ | ⟨h1, h2⟩ | ⟨j, v, v', h1, h2, hv⟩
  · rw [h1, h2]; exact sim_findAsking hk kt 0 h
  · rw [h1, h2]; exact .ret ⟨rfl, .inl ⟨rfl, rfl⟩⟩
  · rw [h1, h2]; exact .ret ⟨rfl, .inr ⟨j, v, v', rfl, rfl, hv⟩⟩

theorem sim_checkKey_bind {β : Inj} {mt kt et : TypeId} (hm : P.underlying mt = some (.map kt et)) (ho : keyOk P mt = true) (b b' : Bool) (v v' : Value) {γ γ' : Type} {k : Unit → Sem γ} {k' : Unit → Sem γ'} {B : Inj → γ → γ' → Prop}
    (h : Sim P K W0 N0 β (k ()) (k' ()) B) : Sim P K W0 N0 β (Instr.checkKey b 10000 kt v >>= k) (Instr.checkKey b' 10000 kt v' >>= k') B := by
  unfold keyOk at ho
  rw [hm] at ho
  dsimp only at ho
  cases hk : P.underlying kt with
  | none =>
    refine Never.sim (Never.bind fun lim σ => ?_)
    unfold Instr.checkKey
    rw [runA_bind, runA_underlying, hk]; rfl
  | some d =>
    rw [hk] at ho
    have hd : ∀ (b : Bool) (v : Value), (∀ lim σ, runA P lim (Instr.checkKey b 10000 kt v) σ = some ((), σ)) ∧ ∀ w, (Instr.checkKey b 10000 kt v).run P w = .ok () w := by
      intro b v
      unfold Instr.checkKey
      refine ⟨fun lim σ => ?_, fun w => ?_⟩
      · rw [runA_bind, runA_underlying, hk]
        cases d <;> first | (cases v <;> rfl; done) | cases ho
      · rw [run_bind', run_underlying' _ _ _ hk]
        cases d <;> first | (cases v <;> rfl; done) | cases ho
    intro lim σ w u σ2 hw hR hr hf
    rw [runA_bind, (hd b v).1] at hr
    obtain ⟨u', w', β', e1, x1, R1, a1⟩ := h lim σ w u σ2 hw hR hr hf
    exact ⟨u', w', β', by rw [run_bind', (hd b' v').2]; exact e1, x1, R1, a1⟩

theorem esRel_isEmpty {β : Inj} {es es' : Array MapEntry} (h : esRel β es.toList es'.toList) : es.isEmpty = es'.isEmpty := by
  obtain ⟨es⟩ := es
  obtain ⟨es'⟩ := es'
  cases es <;> cases es' <;> first | rfl | exact h.elim

theorem sim_lookup {β : Inj} (hZ : ZeroOk P) {t : TypeId} {x x' i i' : Value} (hx : vRel β x x') (hi : vRel β i i') (ho : keyOk P t = true) (ok : Bool) : Sim P K W0 N0 β (Instr.lookup t x i ok) (Instr.lookup t x' i' ok) vRel := by
  unfold Instr.lookup
  refine Sim.underlying_bind fun d hd => ?_
  cases d <;> first | exact Sim.stuck | skip
  case map kt et =>
    have fin : ∀ v v' (b : Bool), vRel β v v' → Sim P K W0 N0 β (pure (if ok then .tuple #[v, .bool b] else v) : Sem Value) (pure (if ok then .tuple #[v', .bool b] else v')) vRel := by
      intro v v' b hv
      cases ok
      · exact .ret hv
      · have := arrRel_iff.2 (show lRel β #[v, .bool b].toList #[v', .bool b].toList from ⟨hv, .bool b, trivial⟩)
        exact .ret (vRel.tuple this.1 this.2)
    have rest : ∀ es es' : Array MapEntry, esRel β es.toList es'.toList → Sim P K W0 N0 β
        (do Instr.checkKey es.isEmpty 10000 kt i
            let (v, b) ← match ← Instr.findKey kt i es.toList with
              | some (_, v) => pure (v, true)
              | none => pure (← zeroValue et, false)
            pure (if ok then .tuple #[v, .bool b] else v) : Sem Value)
        (do Instr.checkKey es'.isEmpty 10000 kt i'
            let (v, b) ← match ← Instr.findKey kt i' es'.toList with
              | some (_, v) => pure (v, true)
              | none => pure (← zeroValue et, false)
            pure (if ok then .tuple #[v, .bool b] else v)) vRel := by
      intro es es' hes
      refine sim_checkKey_bind hd ho _ _ _ _ ?_
      refine Sim.bind0 (sim_findKey hi kt hes) fun r r' hr => ?_
      rcases hr with ⟨rfl, rfl⟩ | ⟨j, v, v', rfl, rfl, hv⟩
      · exact Sim.zeroValue_bind hZ fun i z _ _ hz => fin z z false hz
      · exact fin v v' true hv
    cases hx <;> first | exact Never.sim (Never.bind (never_stuck _)) | skip
    case mapNone => exact rest #[] #[] trivial
    case map r e he h0 =>
      refine Sim.getObj_bind he fun o o' hoo hLL => ?_
      cases hoo with
      | map n hes => exact rest _ _ hes
      | _ => exact Never.sim (Never.bind (never_stuck _))

theorem esRel_getElem? {β : Inj} : ∀ {l m : List MapEntry} (i : Nat), esRel β l m → (l[i]? = none ∧ m[i]? = none) ∨ ∃ e e', l[i]? = some e ∧ m[i]? = some e' ∧ eRel β e e'
  | [], [], _, _ => .inl ⟨rfl, rfl⟩
  | e :: _, e' :: _, 0, h => .inr ⟨e, e', rfl, rfl, h.1⟩
  | _ :: l, _ :: m, i + 1, h => esRel_getElem? (l := l) (m := m) i h.2
  | [], _ :: _, _, h => h.elim
  | _ :: _, [], _, h => h.elim

theorem esRel_modify {β : Inj} {f f' : MapEntry → MapEntry} (hf : ∀ e e', eRel β e e' → eRel β (f e) (f' e')) : ∀ {l m : List MapEntry} (i : Nat), esRel β l m → esRel β (l.modify i f) (m.modify i f')
  | [], [], _, _ => by simp [esRel]
  | e :: _, e' :: _, 0, h => ⟨hf _ _ h.1, h.2⟩
  | _ :: l, _ :: m, i + 1, h => ⟨h.1, esRel_modify hf (l := l) (m := m) i h.2⟩
  | [], _ :: _, _, h => h.elim
  | _ :: _, [], _, h => h.elim

theorem esRel_append {β : Inj} : ∀ {l m a b : List MapEntry}, esRel β l m → esRel β a b → esRel β (l ++ a) (m ++ b)
  | [], [], _, _, _, h => h
  | _ :: _, _ :: _, _, _, h, k => ⟨h.1, esRel_append h.2 k⟩
  | [], _ :: _, _, _, h, _ => h.elim
  | _ :: _, [], _, _, h, _ => h.elim

theorem esRel_erase {β : Inj} : ∀ {l m : List MapEntry} (i : Nat), esRel β l m → esRel β (l.eraseIdx i) (m.eraseIdx i)
  | [], [], _, _ => by simp [esRel]
  | _ :: _, _ :: _, 0, h => h.2
  | _ :: l, _ :: m, i + 1, h => ⟨h.1, esRel_erase (l := l) (m := m) i h.2⟩
  | [], _ :: _, _, h => h.elim
  | _ :: _, [], _, h => h.elim

theorem sameBits_rel {β : Inj} : ∀ (d : Nat) {o o' n n' : Value}, vRel β o o' → vRel β n n' → Instr.sameBits d o n = true → Instr.sameBits d o' n' = true := by
  intro d
  induction d with
  | zero =>
    intro o o' n n' ho hn h
    cases ho <;> first | (cases hn <;> first | exact h | cases h) | skip
    · rename_i a a' ha
      cases hn <;> first | cases h | skip
      rename_i b b' hb
      simp only [Instr.sameBits, beq_iff_eq, Option.some.injEq] at h ⊢
      subst h
      obtain ⟨_, e, he, rfl⟩ := ha
      obtain ⟨_, e', he', rfl⟩ := hb
      rw [he] at he'; cases he'; rfl
  | succ d ih =>
    have zips : ∀ (xs xs' ys ys' : List Value), lRel β xs xs' → lRel β ys ys' → ((xs.zip ys).all fun (x, y) => Instr.sameBits d x y) = true → ((xs'.zip ys').all fun (x, y) => Instr.sameBits d x y) = true := by
      intro xs
      induction xs with
      | nil => intro xs' ys ys' h1 h2 _; cases xs' with | nil => rfl | cons _ _ => exact h1.elim
      | cons x xs ih2 =>
        intro xs' ys ys' h1 h2 h
        cases xs' with
        | nil => exact h1.elim
        | cons x' xs' =>
          cases ys with
          | nil => cases ys' with | nil => rfl | cons _ _ => exact h2.elim
          | cons y ys =>
            cases ys' with
            | nil => exact h2.elim
            | cons y' ys' =>
              simp only [List.zip_cons_cons, List.all_cons, Bool.and_eq_true] at h ⊢
              exact ⟨ih h1.1 h2.1 h.1, ih2 _ _ _ h1.2 h2.2 h.2⟩
    intro o o' n n' ho hn h
    cases ho <;> first | (cases hn <;> first | exact h | cases h) | skip
    · rename_i a a' ha
      cases hn <;> first | cases h | skip
      rename_i b b' hb
      simp only [Instr.sameBits, beq_iff_eq, Option.some.injEq] at h ⊢
      subst h
      obtain ⟨_, e, he, rfl⟩ := ha
      obtain ⟨_, e', he', rfl⟩ := hb
      rw [he] at he'; cases he'; rfl
    · rename_i t v v' h1
      cases hn <;> first | cases h | skip
      rename_i u u' h2
      simp only [Instr.sameBits, Bool.and_eq_true] at h ⊢
      exact ⟨h.1, ih h1 h2 h.2⟩
    · rename_i f f' h1 h2
      cases hn <;> first | cases h | skip
      rename_i g g' h3 h4
      simp only [Instr.sameBits, Bool.and_eq_true] at h ⊢
      rw [← h1, ← h3]
      exact ⟨h.1, zips _ _ _ _ (arrRel_iff.1 ⟨h1, h2⟩) (arrRel_iff.1 ⟨h3, h4⟩) h.2⟩

/-- Which key stays: equal bits, or a draw. -/
theorem sim_keyThatStays_bind {β : Inj} {o o' n n' : Value} (ho : vRel β o o') (hn : vRel β n n') {γ γ' : Type} {k : Value → Sem γ} {k' : Value → Sem γ'} {B : Inj → γ → γ' → Prop}
    (hk : Sim P K W0 N0 β (k n) (k' n') B) : Sim P K W0 N0 β (Instr.keyThatStays o n >>= k) (Instr.keyThatStays o' n' >>= k') B := by
  unfold Instr.keyThatStays
  cases hb : Instr.sameBits 10000 o n with
  | true => rw [sameBits_rel 10000 ho hn hb]; exact hk
  | false => exact Never.sim (Never.bind (Never.bind fun lim σ => rfl))

theorem sim_mapUpdate {β : Inj} {t : TypeId} {m m' k k' v v' : Value} (hm : vRel β m m') (hk : vRel β k k') (hv : vRel β v v') (ho : keyOk P t = true) :
    Sim P K W0 N0 β (Instr.mapUpdate t m k v) (Instr.mapUpdate t m' k' v') (fun β' _ _ => β' = β) := by
  unfold Instr.mapUpdate
  refine Sim.underlying_bind fun d hd => ?_
  cases d <;> first | exact Sim.stuck | skip
  case map kt et =>
    cases hm <;> first | exact Sim.stuck | exact Sim.runtimePanic | skip
    case map r e he h0 =>
      refine Sim.getObj_bind he fun o o' hoo hLL => ?_
      cases hoo with
      | map n hes =>
        rename_i es es'
        refine sim_checkKey_bind hd ho _ _ _ _ ?_
        refine Sim.bind0 (sim_findKey hk kt hes) fun r r' hr => ?_
        rcases hr with ⟨rfl, rfl⟩ | ⟨j, u, u', rfl, rfl, hu⟩
        · refine Sim.eta (Sim.setObj_bind he (.map _ ?_) (fun r h => by cases h) (.ret rfl))
          simp only [Array.toList_push]
          exact esRel_append hes ⟨⟨hk, hv, rfl⟩, trivial⟩
        · have hold : vRel β (((es[j]?).map (·.key)).getD k) (((es'[j]?).map (·.key)).getD k') := by
            rcases esRel_getElem? j hes with ⟨h1, h2⟩ | ⟨e1, e2, h1, h2, h3⟩
            · have h1' : es[j]? = none := by simpa using h1
              have h2' : es'[j]? = none := by simpa using h2
              rw [h1', h2']; exact hk
            · have h1' : es[j]? = some e1 := by simpa using h1
              have h2' : es'[j]? = some e2 := by simpa using h2
              rw [h1', h2']; exact h3.1
          refine sim_keyThatStays_bind hold hk ?_
          refine Sim.eta (Sim.setObj_bind he (.map _ ?_) (fun r h => by cases h) (.ret rfl))
          simp only [Array.toList_modify]
          refine esRel_modify ?_ j hes
          intro e e' h
          exact ⟨hk, hv, h.2.2⟩
      | _ => exact Never.sim (never_stuck _)

theorem sim_delete {β : Inj} {argTypes : Array TypeId} {t : TypeId} {args args' : Array Value} (ha : arrRel β args args') (ho : (argTypes[0]?).any (keyOk P) = true) :
    Sim P K W0 N0 β (Builtin.delete_ argTypes t args) (Builtin.delete_ argTypes t args') vRel := by
  have hl := arrRel_iff.1 ha
  unfold Builtin.delete_
  cases h0 : argTypes[0]? with
  | none => rw [h0] at ho; cases ho
  | some mt =>
    rw [h0] at ho
    cases h1 : args[0]? with
    | none => exact Sim.stuck
    | some m =>
      cases h2 : args[1]? with
      | none => exact Sim.stuck
      | some k =>
        obtain ⟨m', g1, hm⟩ := hl.getElem? 0 (v := m) (by simpa using h1)
        obtain ⟨k', g2, hk⟩ := hl.getElem? 1 (v := k) (by simpa using h2)
        have g1' : args'[0]? = some m' := by simpa using g1
        have g2' : args'[1]? = some k' := by simpa using g2
        rw [g1', g2']
        dsimp only
        have ho : keyOk P mt = true := ho
        have fin : vRel β (.tuple #[]) (.tuple #[]) := plain_rel 2 _ rfl
        refine Sim.underlying_bind fun d hd => ?_
        cases d <;> first | exact Sim.stuck | skip
        case map kt et =>
          cases hm <;> first | exact Never.sim (Never.bind (never_stuck _)) | skip
          case mapNone => exact sim_checkKey_bind hd ho _ _ _ _ (.ret fin)
          case map r e he h0 =>
            refine Sim.getObj_bind he fun o o' hoo hLL => ?_
            cases hoo with
            | map n hes =>
              rename_i es es'
              refine sim_checkKey_bind hd ho _ _ _ _ ?_
              refine Sim.bind0 (sim_findKey hk kt hes) fun r r' hr => ?_
              rcases hr with ⟨rfl, rfl⟩ | ⟨j, u, u', rfl, rfl, hu⟩
              · exact Sim.setObj_bind he (.map _ hes) (fun r h => by cases h) (.ret fin)
              · refine Sim.setObj_bind he (.map _ ?_) (fun r h => by cases h) (.ret fin)
                simp only [Array.eraseIdxIfInBounds]
                have hsz : es.size = es'.size := by
                  have : ∀ {l m : List MapEntry}, esRel β l m → l.length = m.length := by
                    intro l
                    induction l with
                    | nil => intro m h; cases m with | nil => rfl | cons _ _ => exact h.elim
                    | cons a l ih => intro m h; cases m with | nil => exact h.elim | cons b m => simp [ih h.2]
                  simpa using this hes
                by_cases hj : j < es.size
                · rw [dif_pos hj, dif_pos (hsz ▸ hj)]
                  simp only [Array.toList_eraseIdx]
                  exact esRel_erase j hes
                · rw [dif_neg hj, dif_neg (hsz ▸ hj)]; exact hes
            | _ => exact Never.sim (Never.bind (never_stuck _))

/-! ## Ranges over strings -/

theorem sim_range {β : Inj} {t : TypeId} {x x' : Value} (hx : vRel β x x') : Sim P K W0 N0 β (Instr.range t x) (Instr.range t x') vRel := by
  unfold Instr.range
  refine Sim.underlying_bind fun d hd => ?_
  cases d <;> first | exact Never.sim (Never.bind (never_stuck _)) | skip
  case string =>
    cases hx <;> first | exact Never.sim (Never.bind (never_stuck _)) | skip
    case string s =>
      exact Sim.newObj_bind (.iter s 0) (fun r h => by cases h) fun β' r e _ he h0 _ => .ret (.ptr ⟨rfl, e, he, by simp [h0]⟩)
  case map k e =>
    cases hx <;> first | exact Never.sim (Never.bind (never_stuck _)) | skip
    case mapNone => exact Never.sim fun lim σ => rfl
    case map r e he h0 =>
      refine Sim.getObj_bind he fun o o' hoo hLL => ?_
      cases hoo with
      | map n hes => exact Never.sim fun lim σ => rfl
      | _ => exact Never.sim (Never.bind (never_stuck _))

theorem sim_next {β : Inj} {t : TypeId} {b : Bool} {x x' : Value} (hx : vRel β x x') : Sim P K W0 N0 β (Instr.next x b t) (Instr.next x' b t) vRel := by
  have over : vRel β (.tuple #[.bool false]) (.tuple #[.bool false]) := plain_rel 2 _ rfl
  unfold Instr.next
  cases hx <;> first | exact Sim.stuck | skip
  case ptr a a' h =>
    obtain ⟨hs, e, he, rfl⟩ := h
    obtain ⟨ab, ao, as⟩ := a
    dsimp only at hs he
    subst hs
    cases ao with
    | succ n => exact Sim.stuck
    | zero =>
      refine Sim.of_obj he fun h0 => ?_
      rw [h0]
      refine Sim.getObj_bind he fun o o' hoo hLL => ?_
      cases hoo with
      | iter s n =>
        cases b with
        | false => exact Sim.stuck
        | true =>
          refine Sim.ite (fun _ => ?_) fun _ => .ret over
          refine Sim.setObj_bind he (.iter _ _) (fun r h => by cases h) (.ret ?_)
          exact plain_rel 2 _ rfl
      | _ => cases b <;> exact Sim.stuck

end Go.Va
