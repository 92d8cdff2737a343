/-
  SIMULATION: slices of slices, append, strings to slices, the builtins.
-/
import Derived.Test.YtakchekhpeokjaaDoorVaA8
namespace Go.Va
open Go.RowKit
variable {P : Program} {K : FuncId → Code → Prop} {W0 : World} {N0 : Nat}

theorem sim_lenOf {β : Inj} {x x' : Value} (hx : vRel β x x') : Sim P K W0 N0 β (Builtin.lenOf x) (Builtin.lenOf x') (eqRel β) := by
  cases hx <;> first | exact Sim.stuck | exact .ret ⟨rfl, rfl⟩

theorem sim_firstCells {β : Inj} {x x' : Value} (hx : vRel β x x') (size n : Nat) : Sim P K W0 N0 β (Builtin.firstCells size n x) (Builtin.firstCells size n x') (fun β' c c' => β' = β ∧ arrRel β c c') := by
  cases hx <;> first | exact Sim.stuck | skip
  case string s =>
    refine .ret ⟨rfl, ?_⟩
    exact arrRel_map fun b => .int _ _
  case sliceNone l c => exact .ret ⟨rfl, arrRel_empty⟩
  case slice a a' c c' l h hc => exact Sim.eta (Sim.loadCells_bind h fun c c' hc _ => .ret ⟨rfl, hc⟩)
  case void a a' c' h =>
    simp only [Builtin.firstCells]
    cases hn : n * size with
    | zero => exact .ret ⟨rfl, arrRel_empty⟩
    | succ k =>
      refine Never.sim fun lim σ => ?_
      show runA P lim (.load .plain (a.add 0) _) σ = none
      have : σ.cell? (a.add 0) = none := by
        have : a.add 0 = a := by simp [Addr.add]
        rw [this]
        unfold AS.cell?
        split
        · rename_i h' _; rw [h'] at h; cases h
        · rfl
      simp only [runA, this]

theorem sim_storeCells {β : Inj} {a a' : Addr} (ha : aRel β a a') {l l' : List Value} (h : lRel β l l') : Sim P K W0 N0 β (storeCells a l) (storeCells a' l') (fun β' _ _ => β' = β) :=
  Sim.eta (Sim.storeCells_bind ha (.ret rfl) l l' 0 h)

theorem sim_copy {β : Inj} {argTypes : Array TypeId} {t : TypeId} {args args' : Array Value} (ha : arrRel β args args') :
    Sim P K W0 N0 β (Builtin.copy_ argTypes t args) (Builtin.copy_ argTypes t args') vRel := by
  have hl := arrRel_iff.1 ha
  unfold Builtin.copy_
  cases h0 : argTypes[0]? with
  | none => exact Sim.stuck
  | some mt =>
    cases h1 : args[0]? with
    | none => exact Sim.stuck
    | some m =>
      cases h2 : args[1]? with
      | none => exact Sim.stuck
      | some k =>
        obtain ⟨m', g1, hm⟩ := hl.getElem? 0 (v := m) (by simpa using h1)
        obtain ⟨k', g2, hk⟩ := hl.getElem? 1 (v := k) (by simpa using h2)
        have g1' : args'[0]? = some m' := by simpa using g1
        have g2' : args'[1]? = some k' := by simpa using g2
        rw [g1', g2']
        dsimp only
        refine Sim.underlying_bind fun d hd => ?_
        cases d <;> first | exact Sim.stuck | skip
        case slice e =>
          cases hm <;> first | exact Sim.stuck | skip
          case sliceNone l c =>
            refine Sim.bindEq (sim_lenOf hk) fun n => Sim.sizeOf_bind fun i _ => Sim.bind0 (sim_firstCells hk _ _) fun c c' _ => ?_
            exact Sim.ret (vRel.int _ _)
          case slice a a' c c' l h hc =>
            refine Sim.bindEq (sim_lenOf hk) fun n => Sim.sizeOf_bind fun i _ => Sim.bind0 (sim_firstCells hk _ _) fun c c' hcc => ?_
            refine Sim.storeCells_bind h ?_ _ _ 0 (arrRel_iff.1 hcc)
            exact .ret (vRel.int _ _)
          case void a a' c' h =>
            refine Sim.bindEq (sim_lenOf hk) fun n => Sim.sizeOf_bind fun i _ => Sim.bind0 (sim_firstCells hk _ _) fun c c' hcc => ?_
            have hll := arrRel_iff.1 hcc
            have key : ∀ l l' : List Value, lRel β l l' → Sim P K W0 N0 β (storeCells a l >>= fun _ => pure (goInt (Nat.min n 0))) (storeCells a' l' >>= fun _ => pure (goInt (Nat.min n 0))) vRel := by
              intro l l' hll
              cases l with
              | nil => cases l' with
                | nil => exact .ret (.int _ _)
                | cons _ _ => exact hll.elim
              | cons v l =>
                refine Never.sim fun lim σ => ?_
                show runA P lim (.store .plain (a.add 0) v _) σ = none
                have : σ.setCell lim (a.add 0) v = none := by
                  have : a.add 0 = a := by simp [Addr.add]
                  rw [this]
                  unfold AS.setCell
                  split
                  · rename_i h' _; rw [h'] at h; cases h
                  · rfl
                simp only [runA, this]
                cases oneCell v <;> rfl
            exact key _ _ hll

theorem sim_len {β : Inj} {argTypes : Array TypeId} {t : TypeId} {args args' : Array Value} (ha : arrRel β args args') : Sim P K W0 N0 β (Builtin.len_ argTypes t args) (Builtin.len_ argTypes t args') vRel := by
  have hl := arrRel_iff.1 ha
  unfold Builtin.len_
  cases h0 : argTypes[0]? with
  | none => exact Sim.stuck
  | some mt =>
    cases h1 : args[0]? with
    | none => exact Sim.stuck
    | some m =>
      obtain ⟨m', g1, hm⟩ := hl.getElem? 0 (v := m) (by simpa using h1)
      have g1' : args'[0]? = some m' := by simpa using g1
      rw [g1']
      dsimp only
      refine Sim.underlying_bind fun d hd => ?_
      cases d <;> first | exact Sim.stuck | exact .ret (.int _ _) | skip
      case string => cases hm <;> first | exact Sim.stuck | exact .ret (.int _ _)
      case pointer arr =>
        refine Sim.underlying_bind fun d2 _ => ?_
        cases d2 <;> first | exact Sim.stuck | exact .ret (.int _ _)
      case slice e => cases hm <;> first | exact Sim.stuck | exact .ret (.int _ _)
      case map k e =>
        cases hm <;> first | exact Sim.stuck | exact .ret (.int _ _) | skip
        case map r e he h0 =>
          refine Sim.getObj_bind he fun o o' hoo hLL => ?_
          cases hoo with
          | map n hes =>
            rename_i es es'
            have hsz : es.size = es'.size := by
              have : ∀ {l m : List MapEntry}, esRel β l m → l.length = m.length := by
                intro l
                induction l with
                | nil => intro m h; cases m with | nil => rfl | cons _ _ => exact h.elim
                | cons a l ih => intro m h; cases m with | nil => exact h.elim | cons b m => simp [ih h.2]
              simpa using this hes
            dsimp only
            rw [hsz]
            exact .ret (.int _ _)
          | _ => exact Sim.stuck
      case chan => cases hm <;> first | exact Sim.stuck | exact .ret (.int _ _)

theorem sim_clear {β : Inj} (hZ : ZeroOk P) {argTypes : Array TypeId} {t : TypeId} {args args' : Array Value} (ha : arrRel β args args') : Sim P K W0 N0 β (Builtin.clear_ argTypes t args) (Builtin.clear_ argTypes t args') vRel := by
  have hl := arrRel_iff.1 ha
  have fin : vRel β (.tuple #[]) (.tuple #[]) := plain_rel 2 _ rfl
  unfold Builtin.clear_
  cases h0 : argTypes[0]? with
  | none => exact Sim.stuck
  | some mt =>
    cases h1 : args[0]? with
    | none => exact Sim.stuck
    | some m =>
      obtain ⟨m', g1, hm⟩ := hl.getElem? 0 (v := m) (by simpa using h1)
      have g1' : args'[0]? = some m' := by simpa using g1
      rw [g1']
      dsimp only
      refine Sim.underlying_bind fun d hd => ?_
      cases hm
      case mapNone => cases d <;> exact .ret fin
      case sliceNone l c => cases d <;> exact .ret fin
      case void a a' c' h => cases d <;> exact .ret fin
      case map r e he h0 =>
        have : Sim P K W0 N0 β (getObj r >>= fun o => match o with | .map _ clock => (do setObj r (.map #[] clock); pure (.tuple #[])) | _ => (do stuck "clear: map expected"; pure (.tuple #[])) : Sem Value)
            (getObj e.b >>= fun o => match o with | .map _ clock => (do setObj e.b (.map #[] clock); pure (.tuple #[])) | _ => (do stuck "clear: map expected"; pure (.tuple #[]))) vRel := by
          refine Sim.getObj_bind he fun o o' hoo hLL => ?_
          cases hoo with
          | map n hes => exact Sim.setObj_bind he (.map (es := #[]) (es' := #[]) _ trivial) (fun r h => by cases h) (Sim.ret fin)
          | _ => exact Never.sim (Never.bind (never_stuck _))
        cases d <;> exact this
      case slice a a' c c' l h hc =>
        cases l with
        | zero => cases d <;> exact .ret fin
        | succ n =>
          cases d <;> first | exact Never.sim (Never.bind (never_stuck _)) | skip
          case slice e =>
            refine Sim.zeroValue_bind hZ fun i z _ _ hz => ?_
            refine Sim.storeCells_bind h ?_ _ _ 0 (arrRel_iff.1 ?_)
            · exact .ret fin
            · exact arrRel_map fun i => arrRel_getBang (cells_rel hz) _
      all_goals (cases d <;> exact Never.sim (Never.bind (never_stuck _)))

theorem sim_min2 {β : Inj} {x x' y y' : Value} (hx : vRel β x x') (hy : vRel β y y') (hf : unOkA x = true) : Sim P K W0 N0 β (Builtin.min2 x y) (Builtin.min2 x' y') (fun β' v v' => β' = β ∧ vRel β v v' ∧ unOkA v = true) := by
  cases hx with
  | int k n => cases hy <;> first | exact Sim.stuck | exact Sim.unsupported | exact .ret ⟨rfl, .int _ _, rfl⟩
  | string s =>
    cases hy <;> first | exact Sim.stuck | exact Sim.unsupported | skip
    rename_i s'
    refine Sim.bind0 (sim_stringOp (β := β) .leq s s') fun v v' hv => ?_
    obtain ⟨rfl, h⟩ := hv
    refine Sim.bindEq (sim_asBool h) fun b => .ret ⟨rfl, ?_, ?_⟩
    · cases b <;> exact .string _
    · cases b <;> rfl
  | float k n => cases hf
  | complex k n m => cases hf
  | _ => cases hy <;> first | exact Sim.stuck | exact Sim.unsupported

theorem sim_max2 {β : Inj} {x x' y y' : Value} (hx : vRel β x x') (hy : vRel β y y') (hf : unOkA x = true) : Sim P K W0 N0 β (Builtin.max2 x y) (Builtin.max2 x' y') (fun β' v v' => β' = β ∧ vRel β v v' ∧ unOkA v = true) := by
  cases hx with
  | int k n => cases hy <;> first | exact Sim.stuck | exact Sim.unsupported | exact .ret ⟨rfl, .int _ _, rfl⟩
  | string s =>
    cases hy <;> first | exact Sim.stuck | exact Sim.unsupported | skip
    rename_i s'
    refine Sim.bind0 (sim_stringOp (β := β) .geq s s') fun v v' hv => ?_
    obtain ⟨rfl, h⟩ := hv
    refine Sim.bindEq (sim_asBool h) fun b => .ret ⟨rfl, ?_, ?_⟩
    · cases b <;> exact .string _
    · cases b <;> rfl
  | float k n => cases hf
  | complex k n m => cases hf
  | _ => cases hy <;> first | exact Sim.stuck | exact Sim.unsupported

theorem sim_foldM {β : Inj} {f : Value → Value → Sem Value} (hf : ∀ {x x' y y' : Value}, vRel β x x' → vRel β y y' → unOkA x = true → Sim P K W0 N0 β (f x y) (f x' y') (fun β' v v' => β' = β ∧ vRel β v v' ∧ unOkA v = true)) :
    ∀ {l l' : List Value} {x x' : Value}, lRel β l l' → vRel β x x' → unOkA x = true → Sim P K W0 N0 β (l.foldlM f x) (l'.foldlM f x') vRel
  | [], [], x, x', _, hx, _ => .ret hx
  | y :: l, y' :: l', x, x', hl, hx, ho => by
    simp only [List.foldlM_cons]
    refine Sim.bind0 (hf hx hl.1 ho) fun v v' hv => ?_
    exact sim_foldM hf hl.2 hv.1 hv.2
  | [], _ :: _, _, _, h, _, _ => h.elim
  | _ :: _, [], _, _, h, _, _ => h.elim

end Go.Va
