/-
  SIMULATION: the operations, to the end.
-/
import Derived.Test.YtakchekhpeokjaaDoorVaA6
namespace Go.Va
open Go.RowKit
variable {P : Program} {K : FuncId → Code → Prop} {W0 : World} {N0 : Nat}

/-! ## Built values -/

/-- Parts: the same places, related values. -/
def psRel (β : Inj) : List (Nat × Value) → List (Nat × Value) → Prop
  | [], [] => True
  | (i, v) :: l, (j, u) :: m => i = j ∧ vRel β v u ∧ psRel β l m
  | _, _ => False

theorem psRel.mono {β β' : Inj} (hb : β.le β') : ∀ {l m}, psRel β l m → psRel β' l m
  | [], [], _ => trivial
  | (_, _) :: _, (_, _) :: _, h => ⟨h.1, h.2.1.mono hb, psRel.mono hb h.2.2⟩
  | [], _ :: _, h => h.elim
  | (_, _) :: _, [], h => h.elim

theorem put_rel {β : Inj} (off : Nat) : ∀ {l m : List Value} (j : Nat) {cs cs' : Array Value}, lRel β l m → arrRel β cs cs' →
    arrRel β ((l.zipIdx j).foldl (fun cs (c, j) => cs.setIfInBounds (off + j) c) cs) ((m.zipIdx j).foldl (fun cs (c, j) => cs.setIfInBounds (off + j) c) cs')
  | [], [], _, _, _, _, h => h
  | v :: l, u :: m, j, cs, cs', hl, h => by
    simp only [List.zipIdx_cons, List.foldl_cons]
    refine put_rel off (j + 1) hl.2 ?_
    rw [arrRel_iff] at *
    simp only [Array.toList_setIfInBounds]
    exact h.set hl.1 _
  | [], _ :: _, _, _, _, h, _ => h.elim
  | _ :: _, [], _, _, _, h, _ => h.elim

theorem fill_rel {β : Inj} (place : Nat → Option (Nat × Nat)) : ∀ {l m : List (Nat × Value)} {cs cs' : Array Value}, psRel β l m → arrRel β cs cs' →
    (Instr.fill place cs l = none ∧ Instr.fill place cs' m = none) ∨ ∃ r r', Instr.fill place cs l = some r ∧ Instr.fill place cs' m = some r' ∧ arrRel β r r'
  | [], [], cs, cs', _, h => .inr ⟨cs, cs', rfl, rfl, h⟩
  | (i, v) :: l, (j, u) :: m, cs, cs', hp, h => by
    obtain ⟨rfl, hv, hp⟩ := hp
    have hc := cells_rel hv
    simp only [Instr.fill]
    cases place i with
    | none => exact .inl ⟨rfl, rfl⟩
    | some p =>
      obtain ⟨off, size⟩ := p
      simp only []
      rw [← hc.1, ← h.1]
      split
      · exact .inl ⟨rfl, rfl⟩
      · refine fill_rel place hp ?_
        have := put_rel off 0 (arrRel_iff.1 hc) h
        rw [← Array.foldl_toList, ← Array.foldl_toList]
        simp only [Array.toList_zipIdx]
        exact this
  | [], _ :: _, _, _, h, _ => h.elim
  | (_, _) :: _, [], _, _, h, _ => h.elim

theorem Sim.mapLook_bind {ι α γ γ' : Type} {β : Inj} {f : ι → Sem α} (hf : ∀ i {γ γ' : Type} (k : α → Sem γ) (k' : α → Sem γ') (B : Inj → γ → γ' → Prop), (∀ d, Sim P K W0 N0 β (k d) (k' d) B) → Sim P K W0 N0 β (f i >>= k) (f i >>= k') B)
    (xs : Array ι) {k : Array α → Sem γ} {k' : Array α → Sem γ'} {B : Inj → γ → γ' → Prop} (hk : ∀ d, Sim P K W0 N0 β (k d) (k' d) B) :
    Sim P K W0 N0 β (xs.mapM f >>= k) (xs.mapM f >>= k') B := by
  have main : ∀ (l : List ι), Sim P K W0 N0 β (l.mapM f) (l.mapM f) (eqRel β) := by
    intro l
    induction l with
    | nil => rw [List.mapM_nil]; exact .ret ⟨rfl, rfl⟩
    | cons a l ih =>
      rw [List.mapM_cons]
      exact hf a _ _ _ fun d => Sim.bindEq ih fun ds => .ret ⟨rfl, rfl⟩
  rw [Array.mapM_eq_mapM_toList]
  refine Sim.bindEq ?_ hk
  rw [← bind_pure_comp]
  exact Sim.bindEq (main _) fun ds => .ret ⟨rfl, rfl⟩

theorem sim_build {β : Inj} (hZ : ZeroOk P) {t : TypeId} {ps ps' : Array (Nat × Value)} (h : psRel β ps.toList ps'.toList) : Sim P K W0 N0 β (Instr.build t ps) (Instr.build t ps') vRel := by
  unfold Instr.build
  refine Sim.zeroValue_bind hZ fun i z _ _ hz => ?_
  refine Sim.underlying_bind fun d hd => ?_
  have hc := cells_rel hz
  cases d <;> first | exact Sim.stuck | skip
  case struct fs =>
    refine Sim.mapLook_bind (fun f γ γ' k k' B hk => ?_) fs fun places => ?_
    · have : (do pure (f.offset, ← sizeOf f.type) : Sem (Nat × Nat)) = sizeOf f.type >>= fun n => pure (f.offset, n) := rfl
      refine Sim.bindEq (Sim.sizeOf_bind fun d _ => .ret ⟨rfl, rfl⟩) hk
    · rcases fill_rel (places[·]?) h hc with ⟨h1, h2⟩ | ⟨r, r', h1, h2, hr⟩
      · rw [h1, h2]; exact Sim.stuck
      · rw [h1, h2]; exact .ret (vRel.agg hr.1 hr.2)
  case array n e =>
    refine Sim.sizeOf_bind fun d _ => ?_
    rcases fill_rel (fun i => some (i * d.size, d.size)) h hc with ⟨h1, h2⟩ | ⟨r, r', h1, h2, hr⟩
    · rw [h1, h2]; exact Sim.stuck
    · rw [h1, h2]; exact .ret (vRel.agg hr.1 hr.2)

theorem sim_buildSlice {β : Inj} (hZ : ZeroOk P) {t : TypeId} {n : Nat} {ps ps' : Array (Nat × Value)} (h : psRel β ps.toList ps'.toList) : Sim P K W0 N0 β (Instr.buildSlice t n ps) (Instr.buildSlice t n ps') vRel := by
  unfold Instr.buildSlice
  refine Sim.underlying_bind fun d hd => ?_
  cases d <;> first | exact Sim.stuck | skip
  rename_i elem
  refine Sim.sizeOf_bind fun i hi => ?_
  refine Sim.ite (fun _ => (Never.bind (never_unsupported _)).sim) fun _ => ?_
  have fin : ∀ z, arrRel β z z → Sim P K W0 N0 β
      (match Instr.fill (fun j => some (j * i.size, i.size)) ((Array.range (n * i.size)).map (z[· % z.size]!)) ps.toList with
        | some cells => do pure (Value.slice (some (← newRow elem cells)) n n)
        | _ => stuck "buildSlice: a part of the wrong size")
      (match Instr.fill (fun j => some (j * i.size, i.size)) ((Array.range (n * i.size)).map (z[· % z.size]!)) ps'.toList with
        | some cells => do pure (Value.slice (some (← newRow elem cells)) n n)
        | _ => stuck "buildSlice: a part of the wrong size") vRel := by
    intro z hz
    rcases fill_rel (fun j => some (j * i.size, i.size)) h (arrRel_map (l := Array.range (n * i.size)) fun j => arrRel_getBang hz (j % z.size)) with ⟨h1, h2⟩ | ⟨r, r', h1, h2, hr⟩
    · rw [h1, h2]; exact Sim.stuck
    · rw [h1, h2]
      exact Sim.newRow_bind hr fun β' a a' _ ha _ _ => .ret (vRel.slice _ ha (.inl rfl))
  refine Sim.ite (fun _ => fin _ arrRel_empty) fun _ => ?_
  exact Sim.zeroValue_bind hZ fun i z _ _ hz => fin _ (cells_rel hz)

/-! ## Conversions -/

theorem sim_bytesToString {β : Inj} {x x' : Value} (hx : vRel β x x') : Sim P K W0 N0 β (Conv.bytesToString x) (Conv.bytesToString x') vRel := by
  have loop : ∀ (l m : List Value) (s : ByteArray), lRel β l m →
      Sim P K W0 N0 β (forIn l s fun c s => match c with
          | .int .u8 n => pure (ForInStep.yield (s.push (UInt8.ofNat n.toNat)))
          | _ => stuck "bytesToString: byte expected")
        (forIn m s fun c s => match c with
          | .int .u8 n => pure (ForInStep.yield (s.push (UInt8.ofNat n.toNat)))
          | _ => stuck "bytesToString: byte expected") (eqRel β) := by
    intro l
    induction l with
    | nil => intro m s h; cases m with | nil => exact .ret ⟨rfl, rfl⟩ | cons a m => exact h.elim
    | cons a l ih =>
      intro m s h
      cases m with
      | nil => exact h.elim
      | cons b m =>
        obtain ⟨h1, h2⟩ := h
        simp only [List.forIn_cons]
        cases h1 <;> first | exact (Never.bind (never_stuck _)).sim | skip
        rename_i k n
        cases k <;> first | exact (Never.bind (never_stuck _)).sim | exact ih m _ h2
  unfold Conv.bytesToString
  cases hx <;> first | exact Sim.stuck | skip
  case sliceNone l c => exact .ret (.string _)
  case slice a a' c c' l h hc =>
    refine Sim.loadCells_bind h fun c c' hc _ => ?_
    rw [← Array.forIn_toList, ← Array.forIn_toList]
    exact Sim.bindEq (loop _ _ _ (arrRel_iff.1 hc)) fun s => .ret (.string s)
  case void a a' c' h => exact .ret (.string _)

theorem sim_runesToString {β : Inj} {x x' : Value} (hx : vRel β x x') : Sim P K W0 N0 β (Conv.runesToString x) (Conv.runesToString x') vRel := by
  have loop : ∀ (l m : List Value) (s : ByteArray), lRel β l m →
      Sim P K W0 N0 β (forIn l s fun c s => match c with
          | .int .i32 n => pure (ForInStep.yield (s ++ Utf8.encode n))
          | _ => stuck "runesToString: rune expected")
        (forIn m s fun c s => match c with
          | .int .i32 n => pure (ForInStep.yield (s ++ Utf8.encode n))
          | _ => stuck "runesToString: rune expected") (eqRel β) := by
    intro l
    induction l with
    | nil => intro m s h; cases m with | nil => exact .ret ⟨rfl, rfl⟩ | cons a m => exact h.elim
    | cons a l ih =>
      intro m s h
      cases m with
      | nil => exact h.elim
      | cons b m =>
        obtain ⟨h1, h2⟩ := h
        simp only [List.forIn_cons]
        cases h1 <;> first | exact (Never.bind (never_stuck _)).sim | skip
        rename_i k n
        cases k <;> first | exact (Never.bind (never_stuck _)).sim | exact ih m _ h2
  unfold Conv.runesToString
  cases hx <;> first | exact Sim.stuck | skip
  case sliceNone l c => exact .ret (.string _)
  case slice a a' c c' l h hc =>
    refine Sim.loadCells_bind h fun c c' hc _ => ?_
    rw [← Array.forIn_toList, ← Array.forIn_toList]
    exact Sim.bindEq (loop _ _ _ (arrRel_iff.1 hc)) fun s => .ret (.string s)
  case void a a' c' h => exact .ret (.string _)

end Go.Va
