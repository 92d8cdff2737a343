/-
  SIMULATION: an operation of any kind that calls nothing.
-/
import Derived.Test.YtakchekhpeokjaaDoorVaA15
namespace Go.Va
open Go.RowKit
variable {P : Program} {K : FuncId → Code → Prop} {W0 : World} {N0 : Nat}

def nRel (β : Inj) : Next → Next → Prop
  | .value v, n' => ∃ v', n' = .value v' ∧ vRel β v v'
  | .skip, n' => n' = .skip
  | _, _ => False

theorem simVal {β : Inj} {s s' : Sem Value} (h : Sim P K W0 N0 β s s' vRel) : Sim P K W0 N0 β (do pure (Next.value (← s))) (do pure (Next.value (← s'))) nRel :=
  h.bind fun _ _ v' _ hv => .ret ⟨v', rfl, hv⟩
theorem simVal0 {β : Inj} {s s' : Sem Value} (h : Sim P K W0 N0 β s s' (fun β' v v' => β' = β ∧ vRel β v v')) : Sim P K W0 N0 β (do pure (Next.value (← s))) (do pure (Next.value (← s'))) nRel :=
  Sim.bind0 h fun _ v' hv => .ret ⟨v', rfl, hv⟩
theorem simUnit {β : Inj} {s s' : Sem Unit} (h : Sim P K W0 N0 β s s' (fun β' _ _ => β' = β)) : Sim P K W0 N0 β (do s; pure Next.skip) (do s'; pure Next.skip) nRel :=
  h.bind fun _ _ _ _ _ => .ret (A := nRel) (v := Next.skip) (v' := Next.skip) rfl

theorem psRel_map {β : Inj} {ρ ρ' : Operand → Value} : ∀ {l : List (Nat × Operand)}, (∀ x ∈ l.map (·.2), vRel β (ρ x) (ρ' x)) → psRel β (l.map fun (i, x) => (i, ρ x)) (l.map fun (i, x) => (i, ρ' x))
  | [], _ => trivial
  | (i, x) :: l, h => ⟨rfl, h x (by simp), psRel_map fun y hy => h y (by simp only [List.map_cons, List.mem_cons]; exact .inr hy)⟩

theorem arrRel_mapO {β : Inj} {ρ ρ' : Operand → Value} {xs : Array Operand} (h : ∀ x ∈ xs, vRel β (ρ x) (ρ' x)) : arrRel β (xs.map ρ) (xs.map ρ') :=
  ⟨by simp, fun i hi hi' => by simp only [Array.getElem_map]; exact h _ (by simp)⟩

theorem ovRel_map {β : Inj} {ρ ρ' : Operand → Value} {o : Option Operand} (h : ∀ x, o = some x → vRel β (ρ x) (ρ' x)) : ovRel β (o.map ρ) (o.map ρ') := by
  cases o with
  | none => trivial
  | some x => exact h x rfl

theorem sim_execOp {β : Inj} (hZ : ZeroOk P) {ρ ρ' : Operand → Value} {o : Oper} (hρ : ∀ x ∈ o.op.operands, vRel β (ρ x) (ρ' x)) (hfn : ∀ fn f c, o.op = .makeFunc fn f c → ∀ l, fn ≠ .yield l) (hg : generic P o.op = true) :
    Sim P K W0 N0 β (execOp ρ o) (execOp ρ' o) nRel := by
  obtain ⟨dst, op, type, pos, after, guard⟩ := o
  cases op <;> simp only [Op.operands] at hρ <;> (try (simp only [generic] at hg; done)) <;> simp only [execOp]
  case move x => exact .ret ⟨_, rfl, hρ x (by simp)⟩
  case assign x => exact .ret ⟨_, rfl, hρ x (by simp)⟩
  case pick c a b =>
    refine Sim.bindEq (sim_asBool (hρ c (by simp))) fun b' => .ret ⟨_, rfl, ?_⟩
    cases b' with
    | true => exact hρ a (by simp)
    | false => exact hρ b (by simp)
  case alloc e => exact simVal (sim_alloc hZ e)
  case box e x => exact simVal (sim_box (hρ x (by simp)) e)
  case build t ps =>
    refine simVal (sim_build hZ ?_)
    simp only [Array.toList_map]
    exact psRel_map fun x hx => hρ x (by simpa using hx)
  case buildSlice t n ps =>
    refine simVal (sim_buildSlice hZ ?_)
    simp only [Array.toList_map]
    exact psRel_map fun x hx => hρ x (by simpa using hx)
  case insert t m k v => exact simUnit (sim_mapUpdate (hρ m (by simp)) (hρ k (by simp)) (hρ v (by simp)) hg)
  case load t a => exact simVal0 (sim_loadAt (hρ a (by simp)) t)
  case store t a v => exact simUnit (sim_storeAt (hρ a (by simp)) (hρ v (by simp)) t)
  case makeInterface t x => exact simVal (sim_makeInterface (hρ x (by simp)) t)
  case makeFunc fn f c =>
    have h1 := arrRel_mapO (β := β) (ρ := ρ) (ρ' := ρ') (xs := f) fun x hx => hρ x (by simp [hx])
    have h2 := arrRel_mapO (β := β) (ρ := ρ) (ρ' := ρ') (xs := c) fun x hx => hρ x (by simp [hx])
    refine simVal (s := Instr.makeFunc _ _ _) (s' := Instr.makeFunc _ _ _) (.ret (vRel.func ?_ h1.1 h1.2 h2.1 h2.2))
    cases fn with
    | yield l => exact absurd rfl (hfn _ _ _ rfl l)
    | _ => rfl
  case makeMap t r =>
    refine simVal (sim_makeMap (fun v hv => ?_) fun h => ?_)
    · cases r with
      | none => cases hv
      | some x => simp only [Option.map_some, Option.some.injEq] at hv; subst hv; exact ⟨_, rfl, hρ x (by simp)⟩
    · cases r with
      | none => rfl
      | some x => cases h
  case makeSlice t l c => exact simVal (sim_makeSlice hZ (hρ l (by simp)) (hρ c (by simp)))
  case fieldAddr t x f => exact simVal (sim_fieldAt (hρ x (by simp)) t f)
  case field t x f => exact simVal (sim_field (hρ x (by simp)) t f)
  case indexAddr t x i => exact simVal (sim_indexAt (hρ x (by simp)) (hρ i (by simp)) t)
  case index t x i => exact simVal (sim_index (hρ x (by simp)) (hρ i (by simp)) t)
  case lookup t x i ok => exact simVal (sim_lookup hZ (hρ x (by simp)) (hρ i (by simp)) hg ok)
  case mapUpdate t m k v => exact simUnit (sim_mapUpdate (hρ m (by simp)) (hρ k (by simp)) (hρ v (by simp)) hg)
  case range t x => exact simVal (sim_range (hρ x (by simp)))
  case next x b => exact simVal (sim_next (hρ x (by simp)))
  case extract x i => exact simVal0 (sim_extract (hρ x (by simp)) i)
  all_goals cases hg

/-- The builtins that are carried out as the model does. -/
theorem sim_builtin {β : Inj} (hZ : ZeroOk P) {b : Builtin} {argTypes : Array TypeId} {type : TypeId} {consts : Array Bool} {args args' : Array Value} (ha : arrRel β args args') (ht : tame P argTypes b = true)
    (hu : ∀ v, args.toList.head? = some v → (b = .min ∨ b = .max) → unOkA v = true) : Sim P K W0 N0 β (builtin b argTypes type consts args) (builtin b argTypes type consts args') nRel := by
  have fold : ∀ (f : Value → Value → Sem Value) (why : String), (∀ {x x' y y' : Value}, vRel β x x' → vRel β y y' → unOkA x = true → Sim P K W0 N0 β (f x y) (f x' y') (fun β' v v' => β' = β ∧ vRel β v v' ∧ unOkA v = true)) → (∀ v, args.toList.head? = some v → unOkA v = true) →
      Sim P K W0 N0 β (match args.toList with | [] => stuck why | x :: rest => rest.foldlM f x) (match args'.toList with | [] => stuck why | x :: rest => rest.foldlM f x) vRel := by
    intro f why hf hu
    have hl := arrRel_iff.1 ha
    cases h1 : args.toList with
    | nil => exact Sim.stuck
    | cons x rest =>
      rw [h1] at hl hu
      cases h2 : args'.toList with
      | nil => rw [h2] at hl; exact hl.elim
      | cons x' rest' =>
        rw [h2] at hl
        exact sim_foldM hf hl.2 hl.1 (hu x rfl)
  cases b <;> (try (cases ht; done)) <;> simp only [builtin]
  case copy => exact simVal (sim_copy ha)
  case delete => exact simVal (sim_delete ha ht)
  case len => exact simVal (sim_len ha)
  case clear => exact simVal (sim_clear hZ ha)
  case min => exact simVal (fold Builtin.min2 _ sim_min2 fun v hv => hu v hv (.inl rfl))
  case max => exact simVal (fold Builtin.max2 _ sim_max2 fun v hv => hu v hv (.inr rfl))

end Go.Va
