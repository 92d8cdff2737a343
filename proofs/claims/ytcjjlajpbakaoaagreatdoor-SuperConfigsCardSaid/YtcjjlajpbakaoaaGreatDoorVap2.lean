/-
  An executable interpreter over the program's form and what it stands for, part 2.
-/
import Derived.Test.YtcjjlajpbakaoaaGreatDoorVap1
import Derived.IntWalk
import Derived.Lib.Builder
import Derived.Lib.UnsafeStr
import Derived.Calls

/-
  SIMULATION: slices of slices, append, strings to slices, the builtins.
-/
namespace Go.Va
open Go.RowKit
variable {P : Program} {K : FuncId → Code → Prop} {W0 : World} {N0 : Nat}

theorem sim_lenOf {β : Inj} {x x' : Value} (hx : vRel β x x') : Sim P K W0 N0 β (Builtin.lenOf x) (Builtin.lenOf x') (eqRel β) := by
  cases hx <;> first | exact Sim.stuck | exact .ret ⟨rfl, rfl⟩

theorem sim_firstCells {β : Inj} {x x' : Value} (hx : vRel β x x') (size n : Nat) : Sim P K W0 N0 β (Builtin.firstCells size n x) (Builtin.firstCells size n x') (fun β' c c' => β' = β ∧ arrRel β c c') := by
  cases hx <;> first | exact Sim.stuck | skip
  case string s =>
    refine .ret ⟨rfl, ?_⟩
    exact arrRel_map fun b => .int _ _
  case sliceNone l c => exact .ret ⟨rfl, arrRel_empty⟩
  case slice a a' c c' l h hc => exact Sim.eta (Sim.loadCells_bind h fun c c' hc _ => .ret ⟨rfl, hc⟩)
  case void a a' c' h =>
    simp only [Builtin.firstCells]
    cases hn : n * size with
    | zero => exact .ret ⟨rfl, arrRel_empty⟩
    | succ k =>
      refine Never.sim fun lim σ => ?_
      show runA P lim (.load .plain (a.add 0) _) σ = none
      have : σ.cell? (a.add 0) = none := by
        have : a.add 0 = a := by simp [Addr.add]
        rw [this]
        unfold AS.cell?
        split
        · rename_i h' _; rw [h'] at h; cases h
        · rfl
      simp only [runA, this]

theorem sim_storeCells {β : Inj} {a a' : Addr} (ha : aRel β a a') {l l' : List Value} (h : lRel β l l') : Sim P K W0 N0 β (storeCells a l) (storeCells a' l') (fun β' _ _ => β' = β) :=
  Sim.eta (Sim.storeCells_bind ha (.ret rfl) l l' 0 h)

theorem sim_copy {β : Inj} {argTypes : Array TypeId} {t : TypeId} {args args' : Array Value} (ha : arrRel β args args') :
    Sim P K W0 N0 β (Builtin.copy_ argTypes t args) (Builtin.copy_ argTypes t args') vRel := by
  have hl := arrRel_iff.1 ha
  unfold Builtin.copy_
  cases h0 : argTypes[0]? with
  | none => exact Sim.stuck
  | some mt =>
    cases h1 : args[0]? with
    | none => exact Sim.stuck
    | some m =>
      cases h2 : args[1]? with
      | none => exact Sim.stuck
      | some k =>
        obtain ⟨m', g1, hm⟩ := hl.getElem? 0 (v := m) (by simpa using h1)
        obtain ⟨k', g2, hk⟩ := hl.getElem? 1 (v := k) (by simpa using h2)
        have g1' : args'[0]? = some m' := by simpa using g1
        have g2' : args'[1]? = some k' := by simpa using g2
        rw [g1', g2']
        dsimp only
        refine Sim.underlying_bind fun d hd => ?_
        cases d <;> first | exact Sim.stuck | skip
        case slice e =>
          cases hm <;> first | exact Sim.stuck | skip
          case sliceNone l c =>
            refine Sim.bindEq (sim_lenOf hk) fun n => Sim.sizeOf_bind fun i _ => Sim.bind0 (sim_firstCells hk _ _) fun c c' _ => ?_
            exact Sim.ret (vRel.int _ _)
          case slice a a' c c' l h hc =>
            refine Sim.bindEq (sim_lenOf hk) fun n => Sim.sizeOf_bind fun i _ => Sim.bind0 (sim_firstCells hk _ _) fun c c' hcc => ?_
            refine Sim.storeCells_bind h ?_ _ _ 0 (arrRel_iff.1 hcc)
            exact .ret (vRel.int _ _)
          case void a a' c' h =>
            refine Sim.bindEq (sim_lenOf hk) fun n => Sim.sizeOf_bind fun i _ => Sim.bind0 (sim_firstCells hk _ _) fun c c' hcc => ?_
            have hll := arrRel_iff.1 hcc
            have key : ∀ l l' : List Value, lRel β l l' → Sim P K W0 N0 β (storeCells a l >>= fun _ => pure (goInt (Nat.min n 0))) (storeCells a' l' >>= fun _ => pure (goInt (Nat.min n 0))) vRel := by
              intro l l' hll
              cases l with
              | nil => cases l' with
                | nil => exact .ret (.int _ _)
                | cons _ _ => exact hll.elim
              | cons v l =>
                refine Never.sim fun lim σ => ?_
                show runA P lim (.store .plain (a.add 0) v _) σ = none
                have : σ.setCell lim (a.add 0) v = none := by
                  have : a.add 0 = a := by simp [Addr.add]
                  rw [this]
                  unfold AS.setCell
                  split
                  · rename_i h' _; rw [h'] at h; cases h
                  · rfl
                simp only [runA, this]
                cases oneCell v <;> rfl
            exact key _ _ hll

theorem sim_len {β : Inj} {argTypes : Array TypeId} {t : TypeId} {args args' : Array Value} (ha : arrRel β args args') : Sim P K W0 N0 β (Builtin.len_ argTypes t args) (Builtin.len_ argTypes t args') vRel := by
  have hl := arrRel_iff.1 ha
  unfold Builtin.len_
  cases h0 : argTypes[0]? with
  | none => exact Sim.stuck
  | some mt =>
    cases h1 : args[0]? with
    | none => exact Sim.stuck
    | some m =>
      obtain ⟨m', g1, hm⟩ := hl.getElem? 0 (v := m) (by simpa using h1)
      have g1' : args'[0]? = some m' := by simpa using g1
      rw [g1']
      dsimp only
      refine Sim.underlying_bind fun d hd => ?_
      cases d <;> first | exact Sim.stuck | exact .ret (.int _ _) | skip
      case string => cases hm <;> first | exact Sim.stuck | exact .ret (.int _ _)
      case pointer arr =>
        refine Sim.underlying_bind fun d2 _ => ?_
        cases d2 <;> first | exact Sim.stuck | exact .ret (.int _ _)
      case slice e => cases hm <;> first | exact Sim.stuck | exact .ret (.int _ _)
      case map k e =>
        cases hm <;> first | exact Sim.stuck | exact .ret (.int _ _) | skip
        case map r e he h0 =>
          refine Sim.getObj_bind he fun o o' hoo hLL => ?_
          cases hoo with
          | map n hes =>
            rename_i es es'
            have hsz : es.size = es'.size := by
              have : ∀ {l m : List MapEntry}, esRel β l m → l.length = m.length := by
                intro l
                induction l with
                | nil => intro m h; cases m with | nil => rfl | cons _ _ => exact h.elim
                | cons a l ih => intro m h; cases m with | nil => exact h.elim | cons b m => simp [ih h.2]
              simpa using this hes
            dsimp only
            rw [hsz]
            exact .ret (.int _ _)
          | _ => exact Sim.stuck
      case chan => cases hm <;> first | exact Sim.stuck | exact .ret (.int _ _)

theorem sim_clear {β : Inj} (hZ : ZeroOk P) {argTypes : Array TypeId} {t : TypeId} {args args' : Array Value} (ha : arrRel β args args') : Sim P K W0 N0 β (Builtin.clear_ argTypes t args) (Builtin.clear_ argTypes t args') vRel := by
  have hl := arrRel_iff.1 ha
  have fin : vRel β (.tuple #[]) (.tuple #[]) := plain_rel 2 _ rfl
  unfold Builtin.clear_
  cases h0 : argTypes[0]? with
  | none => exact Sim.stuck
  | some mt =>
    cases h1 : args[0]? with
    | none => exact Sim.stuck
    | some m =>
      obtain ⟨m', g1, hm⟩ := hl.getElem? 0 (v := m) (by simpa using h1)
      have g1' : args'[0]? = some m' := by simpa using g1
      rw [g1']
      dsimp only
      refine Sim.underlying_bind fun d hd => ?_
      cases hm
      case mapNone => cases d <;> exact .ret fin
      case sliceNone l c => cases d <;> exact .ret fin
      case void a a' c' h => cases d <;> exact .ret fin
      case map r e he h0 =>
        have : Sim P K W0 N0 β (getObj r >>= fun o => match o with | .map _ clock => (do setObj r (.map #[] clock); pure (.tuple #[])) | _ => (do stuck "clear: map expected"; pure (.tuple #[])) : Sem Value)
            (getObj e.b >>= fun o => match o with | .map _ clock => (do setObj e.b (.map #[] clock); pure (.tuple #[])) | _ => (do stuck "clear: map expected"; pure (.tuple #[]))) vRel := by
          refine Sim.getObj_bind he fun o o' hoo hLL => ?_
          cases hoo with
          | map n hes => exact Sim.setObj_bind he (.map (es := #[]) (es' := #[]) _ trivial) (fun r h => by cases h) (Sim.ret fin)
          | _ => exact Never.sim (Never.bind (never_stuck _))
        cases d <;> exact this
      case slice a a' c c' l h hc =>
        cases l with
        | zero => cases d <;> exact .ret fin
        | succ n =>
          cases d <;> first | exact Never.sim (Never.bind (never_stuck _)) | skip
          case slice e =>
            refine Sim.zeroValue_bind hZ fun i z _ _ hz => ?_
            refine Sim.storeCells_bind h ?_ _ _ 0 (arrRel_iff.1 ?_)
            · exact .ret fin
            · exact arrRel_map fun i => arrRel_getBang (cells_rel hz) _
      all_goals (cases d <;> exact Never.sim (Never.bind (never_stuck _)))

theorem sim_min2 {β : Inj} {x x' y y' : Value} (hx : vRel β x x') (hy : vRel β y y') (hf : unOkA x = true) : Sim P K W0 N0 β (Builtin.min2 x y) (Builtin.min2 x' y') (fun β' v v' => β' = β ∧ vRel β v v' ∧ unOkA v = true) := by
  cases hx with
  | int k n => cases hy <;> first | exact Sim.stuck | exact Sim.unsupported | exact .ret ⟨rfl, .int _ _, rfl⟩
  | string s =>
    cases hy <;> first | exact Sim.stuck | exact Sim.unsupported | skip
    rename_i s'
    refine Sim.bind0 (sim_stringOp (β := β) .leq s s') fun v v' hv => ?_
    obtain ⟨rfl, h⟩ := hv
    refine Sim.bindEq (sim_asBool h) fun b => .ret ⟨rfl, ?_, ?_⟩
    · cases b <;> exact .string _
    · cases b <;> rfl
  | float k n => cases hf
  | complex k n m => cases hf
  | _ => cases hy <;> first | exact Sim.stuck | exact Sim.unsupported

theorem sim_max2 {β : Inj} {x x' y y' : Value} (hx : vRel β x x') (hy : vRel β y y') (hf : unOkA x = true) : Sim P K W0 N0 β (Builtin.max2 x y) (Builtin.max2 x' y') (fun β' v v' => β' = β ∧ vRel β v v' ∧ unOkA v = true) := by
  cases hx with
  | int k n => cases hy <;> first | exact Sim.stuck | exact Sim.unsupported | exact .ret ⟨rfl, .int _ _, rfl⟩
  | string s =>
    cases hy <;> first | exact Sim.stuck | exact Sim.unsupported | skip
    rename_i s'
    refine Sim.bind0 (sim_stringOp (β := β) .geq s s') fun v v' hv => ?_
    obtain ⟨rfl, h⟩ := hv
    refine Sim.bindEq (sim_asBool h) fun b => .ret ⟨rfl, ?_, ?_⟩
    · cases b <;> exact .string _
    · cases b <;> rfl
  | float k n => cases hf
  | complex k n m => cases hf
  | _ => cases hy <;> first | exact Sim.stuck | exact Sim.unsupported

theorem sim_foldM {β : Inj} {f : Value → Value → Sem Value} (hf : ∀ {x x' y y' : Value}, vRel β x x' → vRel β y y' → unOkA x = true → Sim P K W0 N0 β (f x y) (f x' y') (fun β' v v' => β' = β ∧ vRel β v v' ∧ unOkA v = true)) :
    ∀ {l l' : List Value} {x x' : Value}, lRel β l l' → vRel β x x' → unOkA x = true → Sim P K W0 N0 β (l.foldlM f x) (l'.foldlM f x') vRel
  | [], [], x, x', _, hx, _ => .ret hx
  | y :: l, y' :: l', x, x', hl, hx, ho => by
    simp only [List.foldlM_cons]
    refine Sim.bind0 (hf hx hl.1 ho) fun v v' hv => ?_
    exact sim_foldM hf hl.2 hv.1 hv.2
  | [], _ :: _, _, _, h, _, _ => h.elim
  | _ :: _, [], _, _, h, _, _ => h.elim

end Go.Va

/-
  SIMULATION: slices of slices, append, strings to slices.
-/
namespace Go.Va
open Go.RowKit
variable {P : Program} {K : FuncId → Code → Prop} {W0 : World} {N0 : Nat}

/-- A step over the abstract heap, and a computation of the model. -/
def Sim2 (P : Program) (K : FuncId → Code → Prop) (W0 : World) (N0 : Nat) (β : Inj) (f : AS → Option (Value × AS)) (s' : Sem Value) : Prop :=
  ∀ σ w v σ', σ.Any → R K W0 N0 β σ w → f σ = some (v, σ') → Fresh β σ σ' →
    ∃ v' w' β', s'.run P w = .ok v' w' ∧ Ext β β' σ σ' ∧ R K W0 N0 β' σ' w' ∧ vRel β' v v'

theorem Sim.two {β : Inj} {s s' : Sem Value} (h : Sim P K W0 N0 β s s' vRel) (lim : Nat) : Sim2 P K W0 N0 β (fun σ => runA P lim s σ) s' :=
  fun σ w v σ' hw hR hr hf => h lim σ w v σ' hw hR hr hf

theorem asN_spec {o : Option Value} {d n : Nat} (h : asN o d = some n) : (o = none ∧ n = d) ∨ ∃ k m, o = some (.int k m) ∧ 0 ≤ m ∧ n = m.toNat := by
  cases o with
  | none => simp only [asN, Option.some.injEq] at h; exact .inl ⟨rfl, h.symm⟩
  | some v =>
    cases v <;> simp only [asN] at h <;> first | cases h | skip
    rename_i k m
    cases hm : decide (0 ≤ m) with
    | false => simp [hm] at h
    | true =>
      simp only [hm, cond_true, Option.some.injEq] at h
      exact .inr ⟨k, m, rfl, of_decide_eq_true hm, h.symm⟩

theorem ovRel_int {β : Inj} {o o' : Option Value} (h : ovRel β o o') : (o = none → o' = none) ∧ ∀ k m, o = some (.int k m) → o' = some (.int k m) := by
  cases o with
  | none => cases o' with
    | none => exact ⟨fun _ => rfl, fun _ _ h => (by cases h)⟩
    | some _ => exact h.elim
  | some v => cases o' with
    | none => exact h.elim
    | some v' => exact ⟨fun h => (by cases h), fun k m e => (by cases e; cases h; rfl)⟩

theorem run_sliceBound {k : IntKind} {n : Int} {y : Nat} {c : BoundsCode} (w : World) (h0 : 0 ≤ n) (h1 : n.toNat ≤ y) : (Instr.sliceBound (.int k n) y c).run P w = .ok n.toNat w := by
  have h2 : n ≤ (y : Int) := by omega
  unfold Instr.sliceBound
  rw [run_bind']
  show (if 0 ≤ n ∧ n ≤ (y : Int) then (pure n.toNat : Sem Nat) else boundsPanic k n y c).run P w = _
  rw [if_pos ⟨h0, h2⟩]; rfl

/-- Bounds that hold. -/
theorem run_sliceBounds {lo hi mx : Option Value} {len cap l h m : Nat} (b : Bool) (w : World) (h1 : asN lo 0 = some l) (h2 : asN hi len = some h) (h3 : asN mx cap = some m)
    (hlh : l ≤ h) (hhm : h ≤ m) (hmc : m ≤ cap) (hmh : mx.isSome = true → hi.isSome = true) : (Instr.sliceBounds b len cap lo hi mx).run P w = .ok (l, h, m) w := by
  have low : ∀ c, (match lo with | some v => Instr.sliceBound v h c | none => pure 0 : Sem Nat).run P w = .ok l w := by
    intro c
    rcases asN_spec h1 with ⟨rfl, rfl⟩ | ⟨k, n, rfl, hn, rfl⟩
    · rfl
    · exact run_sliceBound w hn hlh
  unfold Instr.sliceBounds
  dsimp only
  have lowk : (do let l ← match lo with | some v => Instr.sliceBound v h (if mx.isSome then .slice3C else .sliceB) | none => pure 0
                  pure (l, h, m) : Sem (Nat × Nat × Nat)).run P w = .ok (l, h, m) w := by
    have := low (if mx.isSome then .slice3C else .sliceB)
    cases lo with
    | none =>
      rw [run_bind']; rw [show (pure 0 : Sem Nat).run P w = .ok 0 w from rfl]
      simp only [asN, Option.some.injEq] at h1; subst h1; rfl
    | some v => rw [run_bind']; simp only [] at this; rw [this]; rfl
  have highk : (do let h' ← match hi, mx with
                    | some v, some _ => Instr.sliceBound v m .slice3B
                    | some v, none => Instr.sliceBound v m (if b then .sliceAcap else .sliceAlen)
                    | none, none => pure len
                    | none, some _ => stuck "Slice: max without high"
                   let l ← match lo with | some v => Instr.sliceBound v h' (if mx.isSome then .slice3C else .sliceB) | none => pure 0
                   pure (l, h', m) : Sem (Nat × Nat × Nat)).run P w = .ok (l, h, m) w := by
    cases hi with
    | none =>
      cases mx with
      | some v => simp at hmh
      | none =>
        simp only [asN, Option.some.injEq] at h2; subst h2
        exact lowk
    | some v =>
      rcases asN_spec h2 with ⟨hh, _⟩ | ⟨k, n, hh, hn, rfl⟩
      · cases hh
      · cases hh
        cases mx with
        | none =>
          have := run_sliceBound (P := P) (k := k) (c := if b then .sliceAcap else .sliceAlen) w hn hhm
          rw [run_bind', this]; exact lowk
        | some u =>
          have := run_sliceBound (P := P) (k := k) (c := .slice3B) w hn hhm
          rw [run_bind', this]; exact lowk
  cases mx with
  | none =>
    simp only [asN, Option.some.injEq] at h3; subst h3
    exact highk
  | some u =>
    rcases asN_spec h3 with ⟨hh, _⟩ | ⟨k, n, hh, hn, rfl⟩
    · cases hh
    · cases hh
      have := run_sliceBound (P := P) (k := k) (c := if b then .slice3Acap else .slice3Alen) w hn hmc
      rw [run_bind', this]; exact highk

theorem run_slice_slice {t elem : TypeId} {i : TypeInfo} (hd : P.underlying t = some (.slice elem)) (hi : P.info? elem = some i) {base : Option Addr} {lo hi' mx : Option Value} {len cap l h m : Nat} (w : World)
    (hb : (Instr.sliceBounds true len cap lo hi' mx).run P w = .ok (l, h, m) w) :
    (Instr.sliceAt t (.slice base len cap) lo hi' mx).run P w = .ok (.slice (if m = l then base else base.map (·.add (l * i.size))) (h - l) (m - l)) w := by
  unfold Instr.sliceAt
  rw [run_bind', run_underlying' t w _ hd]
  dsimp only
  unfold Instr.slice
  rw [run_bind', run_underlying' t w _ hd]
  dsimp only
  rw [run_bind', hb]
  dsimp only
  rw [run_bind', run_sizeOf' elem w i hi]
  rfl

/-- Where the abstract slice is known to end its capacity, the model's does too. -/
theorem exact_cap {β : Inj} {σ : AS} {w : World} (hR : R K W0 N0 β σ w) {p : Addr} {c c' : Nat} (hc : capRel β p c c') (he : σ.exact p c = true) : c' = c := by
  rcases hc with rfl | ⟨e, sz, esz, real, hb, ht, h1, h2, h3⟩
  · rfl
  · unfold AS.exact at he
    split at he
    · rename_i cs rw pv hg
      obtain ⟨C, ty, fr, _, _, _, k, _⟩ := hR.cells hb hg
      rw [ht] at k; cases k
    · rename_i cs rw es pv hg
      obtain ⟨C, ty, fr, _, _, _, k, _⟩ := hR.cells hb hg
      rw [ht] at k
      simp only [Option.map_some, Option.some.injEq, Prod.mk.injEq] at k
      have := blt_iff.1 he
      obtain ⟨rfl, rfl, rfl⟩ := k
      omega
    · cases he

theorem capRel.add {β : Inj} {p : Addr} {c c' n size : Nat} (hc : capRel β p c c') (hn : n ≤ c) (hs : ∀ e sz esz real, β p.block = some e → e.tail = some (sz, esz, real) → esz = size ∨ c = c') :
    capRel β (p.add (n * size)) (c - n) (c' - n) := by
  rcases hc with rfl | ⟨e, sz, esz, real, hb, ht, h1, h2, h3⟩
  · exact .inl rfl
  · rcases hs e sz esz real hb ht with rfl | rfl
    · refine .inr ⟨e, sz, esz, real, ?_, ht, ?_, ?_, by omega⟩
      · unfold Addr.add; split <;> exact hb
      · have : (p.add (n * esz)).off = p.off + n * esz := by unfold Addr.add; split <;> simp_all
        rw [this, Nat.sub_mul]
        have : n * esz ≤ c * esz := Nat.mul_le_mul_right _ hn
        omega
      · have : (p.add (n * esz)).off = p.off + n * esz := by unfold Addr.add; split <;> simp_all
        rw [this, Nat.sub_mul]
        have : n * esz ≤ c' * esz := Nat.mul_le_mul_right _ (by omega)
        omega
    · exact .inl rfl

theorem asN_rel {β : Inj} {o o' : Option Value} {d n : Nat} (h : ovRel β o o') (ho : asN o d = some n) : asN o' d = some n := by
  rcases asN_spec ho with ⟨rfl, rfl⟩ | ⟨k, m, rfl, _, _⟩
  · rw [(ovRel_int h).1 rfl]; rfl
  · rw [(ovRel_int h).2 k m rfl]; exact ho

theorem ovRel_isSome {β : Inj} {o o' : Option Value} (h : ovRel β o o') : o.isSome = o'.isSome := by
  cases o <;> cases o' <;> first | rfl | exact h.elim

theorem sim2_slice {β : Inj} {t : TypeId} {x x' : Value} {lo lo' hi hi' mx mx' : Option Value} (hx : vRel β x x') (h1 : ovRel β lo lo') (h2 : ovRel β hi hi') (h3 : ovRel β mx mx') (lim : Nat) :
    Sim2 P K W0 N0 β (fun σ => sliceA P lim t x lo hi mx σ) (Instr.sliceAt t x' lo' hi' mx') := by
  by_cases hs : isSl x = false
  · have : (fun σ => sliceA P lim t x lo hi mx σ) = fun σ => runA P lim (Instr.sliceAt t x lo hi mx) σ := by
      funext σ
      cases x <;> first | rfl | cases hs
    rw [this]
    exact (sim_sliceAt hx hs h1 h2 h3).two lim
  · intro σ w v σ' hw hR hr hf
    have hx0 : ∃ base len cap, x = .slice base len cap := by
      cases x <;> first | exact ⟨_, _, _, rfl⟩ | exact absurd rfl hs
    obtain ⟨base, len, cap, rfl⟩ := hx0
    simp only [sliceA] at hr
    cases hso : sliceOf P σ t base len cap lo hi mx with
    | none => rw [hso] at hr; cases hr
    | some u =>
      rw [hso] at hr
      simp only [Option.some.injEq, Prod.mk.injEq] at hr
      obtain ⟨rfl, rfl⟩ := hr
      unfold sliceOf at hso
      split at hso
      · rename_i elem hd
        split at hso
        · rename_i i hi0
          split at hso
          · rename_i l h m e1 e2 e3
            cases hb : (Nat.ble l h && Nat.ble h m && Nat.ble m cap && (mx.isNone || hi.isSome)) with
            | false => simp [hb] at hso
            | true =>
              simp only [hb, cond_true] at hso
              simp only [Bool.and_eq_true, Bool.or_eq_true] at hb
              obtain ⟨⟨⟨b1, b2⟩, b3⟩, b4⟩ := hb
              have b1 : l ≤ h := Nat.ble_eq ▸ b1
              have b2 : h ≤ m := Nat.ble_eq ▸ b2
              have b3 : m ≤ cap := Nat.ble_eq ▸ b3
              have b4 : mx'.isSome = true → hi'.isSome = true := by
                rw [← ovRel_isSome h3, ← ovRel_isSome h2]
                intro hm
                rcases b4 with b4 | b4
                · rw [Option.isNone_iff_eq_none] at b4; rw [b4] at hm; cases hm
                · exact b4
              have done : ∀ {base' : Option Addr} {cap' m' : Nat} {v' : Value}, asN mx' cap' = some m' → m ≤ m' → m' ≤ cap' → x' = .slice base' len cap' →
                  vRel β u (.slice (if m' = l then base' else base'.map (·.add (l * i.size))) (h - l) (m' - l)) →
                  ∃ v' w' β', (Instr.sliceAt t x' lo' hi' mx').run P w = .ok v' w' ∧ Ext β β' σ σ ∧ R K W0 N0 β' σ w' ∧ vRel β' u v' := by
                intro base' cap' m' _ g1 g2 g3 g4 g5
                subst g4
                exact ⟨_, w, β, run_slice_slice hd hi0 w (run_sliceBounds true w (asN_rel h1 e1) (asN_rel h2 e2) g1 b1 (by omega) g3 b4), .refl _ _, hR, g5⟩
              have cap3 : ∀ cap' : Nat, cap ≤ cap' → ∃ m', asN mx' cap' = some m' ∧ m ≤ m' ∧ m' ≤ cap' ∧ (mx.isSome = true → m' = m) ∧ (mx.isSome = false → m' = cap' ∧ m = cap) := by
                intro cap' hc
                rcases asN_spec e3 with ⟨rfl, rfl⟩ | ⟨k, n, rfl, hn, rfl⟩
                · rw [(ovRel_int h3).1 rfl]
                  exact ⟨cap', rfl, hc, Nat.le_refl _, fun h => (by cases h), fun _ => ⟨rfl, rfl⟩⟩
                · rw [(ovRel_int h3).2 k n rfl]
                  exact ⟨n.toNat, e3, Nat.le_refl _, by omega, fun _ => rfl, fun h => (by cases h)⟩
              cases hx with
              | sliceNone _ _ =>
                simp only [Option.some.injEq] at hso
                subst hso
                obtain ⟨m', g1, g2, g3, g4, g5⟩ := cap3 cap (Nat.le_refl _)
                have hmm : m' = m := by
                  cases hms : mx.isSome with
                  | true => exact g4 hms
                  | false => obtain ⟨rfl, rfl⟩ := g5 hms; rfl
                subst hmm
                refine done (v' := .nilFunc) g1 g2 g3 rfl ?_
                split <;> exact .sliceNone _ _
              | void a' c' hsp =>
                simp only [hsp, cond_true, Option.some.injEq] at hso
                subst hso
                obtain ⟨m', g1, g2, g3, g4, g5⟩ := cap3 c' (Nat.zero_le _)
                refine done (v' := .nilFunc) g1 g2 g3 rfl ?_
                have : h - l = 0 := by omega
                rw [this]
                split <;> exact .void _ _ hsp
              | slice _ ha hc =>
                rename_i p p' cap'
                have hsp : p.spot = none := ha.1
                simp only [hsp, Option.isSome_none, cond_false] at hso
                cases hgn : (σ.get p.block).isNone with
                | true => simp [hgn] at hso
                | false =>
                simp only [hgn, cond_false] at hso
                have hcc : cap ≤ cap' := by
                  rcases hc with rfl | ⟨_, _, _, _, _, _, _, _, h⟩
                  · exact Nat.le_refl _
                  · exact h
                obtain ⟨m', g1, g2, g3, g4, g5⟩ := cap3 cap' hcc
                cases hml : Nat.beq m l with
                | true =>
                  have hml' : m = l := Nat.eq_of_beq_eq_true hml
                  simp only [hml, cond_true] at hso
                  cases hex0 : (mx.isSome || σ.exact p cap || Nat.beq l 0) with
                  | true =>
                    simp only [hex0, cond_true, Option.some.injEq] at hso
                    subst hso
                    cases hex : (mx.isSome || σ.exact p cap) with
                    | false =>
                      rw [hex, Bool.false_or] at hex0
                      have hl0 : l = 0 := Nat.eq_of_beq_eq_true hex0
                      simp only [Bool.or_eq_false_iff] at hex
                      obtain ⟨rfl, rfl⟩ := g5 hex.1
                      subst hl0
                      refine done (v' := .nilFunc) g1 g2 g3 rfl ?_
                      have hadd : (some p').map (·.add (0 * i.size)) = some p' := by
                        simp [Addr.add]
                      rw [hadd, ite_self]
                      exact .slice _ ha hc
                    | true =>
                      have hmm : m' = m := by
                        cases hms : mx.isSome with
                        | true => exact g4 hms
                        | false =>
                          rw [hms, Bool.false_or] at hex
                          obtain ⟨rfl, rfl⟩ := g5 hms
                          exact exact_cap hR hc hex
                      subst hmm
                      refine done (v' := .nilFunc) g1 g2 g3 rfl ?_
                      rw [if_pos hml']
                      exact .slice _ ha (.inl rfl)
                  | false =>
                    simp only [hex0, cond_false, Option.some.injEq] at hso
                    subst hso
                    refine done (v' := .nilFunc) g1 g2 g3 rfl ?_
                    have : h - l = 0 := by omega
                    rw [this]
                    split <;> exact .void _ _ rfl
                | false =>
                  have hml' : m ≠ l := by intro e; rw [e] at hml; simp at hml
                  simp only [hml, cond_false] at hso
                  cases hex : (mx.isSome || σ.exact p cap || σ.looseIs p i.size) with
                  | false => simp [hex] at hso
                  | true =>
                    simp only [hex, cond_true, Option.some.injEq] at hso
                    subst hso
                    refine done (v' := .nilFunc) g1 g2 g3 rfl ?_
                    have hm'l : m' ≠ l := by omega
                    rw [if_neg hm'l]
                    refine .slice _ (ha.add _) ?_
                    cases hms : mx.isSome with
                    | true => rw [g4 hms]; exact .inl rfl
                    | false =>
                      obtain ⟨rfl, rfl⟩ := g5 hms
                      rw [hms, Bool.false_or, Bool.or_eq_true] at hex
                      rcases hex with hex | hex
                      · rw [exact_cap hR hc hex]; exact .inl rfl
                      · refine hc.add (by omega) fun e sz esz real hb ht => .inl ?_
                        unfold AS.looseIs at hex
                        split at hex
                        · rename_i cs rw es pv hg
                          obtain ⟨C, ty, fr, _, _, _, k, _⟩ := hR.cells hb hg
                          rw [ht] at k
                          simp only [Option.map_some, Option.some.injEq, Prod.mk.injEq] at k
                          rw [k.2.1]
                          exact Nat.eq_of_beq_eq_true hex
                        · cases hex
          · cases hso
        · cases hso
      · cases hso

end Go.Va

/-
  SIMULATION: append.
-/
namespace Go.Va
open Go.RowKit
variable {P : Program} {K : FuncId → Code → Prop} {W0 : World} {N0 : Nat}

/-- Rows may be forgotten, or no longer be written. -/
theorem R.weaken {β : Inj} {σ σ' : AS} {w : World} (hR : R K W0 N0 β σ w)
    (h : ∀ j x, σ'.get j = some x → σ.get j = some x ∨ ∃ c rw lo pv, σ.get j = some (.cells c rw lo pv) ∧ x = .cells c false lo none) : R K W0 N0 β σ' w := by
  constructor
  · intro id e c rw lo pv hb hg
    rcases h id _ hg with h1 | ⟨c', rw', lo', pv', h1, h2⟩
    · exact hR.cells hb h1
    · cases h2
      obtain ⟨C, ty, fr, k1, k2, k3, k4⟩ := hR.cells hb h1
      exact ⟨C, ty, fr, k1, k2, fun h => (by cases h), k4⟩
  · intro id e o hb hg
    rcases h id _ hg with h1 | ⟨c', rw', lo', pv', h1, h2⟩
    · exact hR.obj hb h1
    · cases h2
  · intro i j ei ej x y hij hbi hbj hgi hgj hx heq
    have hj : ∃ y', σ.get j = some y' := by
      rcases h j _ hgj with h1 | ⟨_, _, _, _, h1, _⟩
      · exact ⟨_, h1⟩
      · exact ⟨_, h1⟩
    obtain ⟨y', hj⟩ := hj
    rcases h i _ hgi with h1 | ⟨c', rw', lo', pv', h1, h2⟩
    · exact hR.excl hij hbi hbj h1 hj hx heq
    · subst h2; cases hx
  · exact hR.lt
  · exact hR.base
  · exact hR.top
  · intro id e r hb hg
    rcases h id _ hg with h1 | ⟨c', rw', lo', pv', h1, h2⟩
    · exact hR.code hb h1
    · cases h2
  · refine hR.zr.keep rfl rfl (fun _ _ _ _ => rfl) (Nat.le_refl _) (fun id e x hb hg hx => ?_) (fun id e n esz T hb hg => ⟨hb, ?_⟩)
    · rcases h id _ hg with h1 | ⟨c', rw', lo', pv', h1, h2⟩
      · exact .inl ⟨_, _, _, hb, h1, hx, fun h => h, rfl⟩
      · subst h2; exact .inl ⟨_, _, _, hb, h1, trivial, fun h => (by cases h), rfl⟩
    · rcases h id _ hg with h1 | ⟨c', rw', lo', pv', h1, h2⟩
      · exact h1
      · cases h2

theorem run_store1 {a : Addr} {v old : Value} {w : World} (k : Sem Unit) (h1 : w.cell? a = some old) (h2 : w.frozen? a = false) (h3 : flat v = true) : (Sem.store .plain a v k).run P w = k.run P (w.setCell a v) := by
  cases v <;> simp only [Sem.run, h1, h2] <;> first | rfl | cases h3

theorem run_storeCells : ∀ (vs : List Value) (i : Nat) (w : World) (b off : Nat) (C : Array Value) (ty : TypeId) (fr : Nat × Nat), w.heap[b]? = some (.cells C ty fr) → off + i + vs.length ≤ C.size →
    (∀ j, j < C.size → ¬ (fr.1 ≤ j ∧ j < fr.2)) → vs.all flat = true → N0 ≤ b → Below N0 W0 w →
    ∃ w' C', (storeCells ⟨b, off, none⟩ vs i).run P w = .ok () w' ∧ w'.heap[b]? = some (.cells C' ty fr) ∧ C'.size = C.size ∧ (∀ j, j < off + i ∨ off + i + vs.length ≤ j → C'[j]? = C[j]?) ∧
      (∀ k (_ : k < vs.length), C'[off + i + k]? = some vs[k]) ∧ (∀ r, r ≠ b → w'.heap[r]? = w.heap[r]?) ∧ w'.heap.size = w.heap.size ∧ Below N0 W0 w'
  | [], i, w, b, off, C, ty, fr, hC, _, _, _, _, hB => ⟨w, C, rfl, hC, rfl, fun _ _ => rfl, fun k h => by simp at h, fun _ _ => rfl, rfl, hB⟩
  | v :: vs, i, w, b, off, C, ty, fr, hC, hl, hfr, ho, hN, hB => by
    simp only [List.length_cons] at hl
    simp only [List.all_cons, Bool.and_eq_true] at ho
    have ha : (⟨b, off, none⟩ : Addr).add i = ⟨b, off + i, none⟩ := by
      unfold Addr.add; split
      · rename_i h; subst h; rfl
      · rfl
    have hlt : off + i < C.size := by omega
    have hcell : w.cell? ⟨b, off + i, none⟩ = some C[off + i] := by rw [cell?_of_heap hC]; simp [hlt]
    have hfz := frozen?_of_heap hC (hfr _ hlt)
    have hheap : ∀ r, (w.setCell ⟨b, off + i, none⟩ v).heap[r]? = if b = r then some (.cells (C.setIfInBounds (off + i) v) ty fr) else w.heap[r]? := by
      intro r
      rw [heap_setCell_get]
      by_cases hr : b = r
      · subst hr; simp [hC]
      · simp [hr]
    obtain ⟨w', C', e1, e2, e3, e4, e5, e6, e7, e8⟩ := run_storeCells vs (i + 1) (w.setCell ⟨b, off + i, none⟩ v) b off (C.setIfInBounds (off + i) v) ty fr (by rw [hheap, if_pos rfl]) (by simp; omega) (by simpa using hfr) ho.2 hN
      (hB.setCell (p := ⟨b, off + i, none⟩) hN v)
    refine ⟨w', C', ?_, e2, by simpa using e3, fun j hj => ?_, fun k hk => ?_, fun r hr => ?_, by rw [e7]; simp [World.setCell], e8⟩
    · show (Sem.store .plain ((⟨b, off, none⟩ : Addr).add i) v (storeCells ⟨b, off, none⟩ vs (i + 1))).run P w = _
      rw [ha, run_store1 _ hcell hfz ho.1]; exact e1
    · simp only [List.length_cons] at hj
      rw [e4 j (by omega), Array.getElem?_setIfInBounds_ne (by omega)]
    · cases k with
      | zero =>
        rw [Nat.add_zero, e4 _ (by omega)]
        simp [hlt]
      | succ k =>
        simp only [List.length_cons] at hk
        have := e5 k (by omega)
        rw [show off + i + (k + 1) = off + (i + 1) + k by omega, this]
        simp
    · rw [e6 r hr, hheap, if_neg (Ne.symm hr)]

theorem growBy_le (n : Nat) : ∀ (k c : Nat), 256 ≤ c → c ≤ 2 * n → Builtin.growBy n k c ≤ 2 * n
  | 0, c, _, h => h
  | k + 1, c, h0, h => by
    unfold Builtin.growBy
    split
    · exact h
    · exact growBy_le n k _ (by omega) (by omega)

theorem nextslicecap_le {n c : Nat} (h : c < n) : Builtin.nextslicecap n c ≤ 2 * n := by
  unfold Builtin.nextslicecap
  split
  · omega
  · split
    · omega
    · exact growBy_le n 4 c (by omega) (by omega)

theorem R.drawn {β : Inj} {σ : AS} {w : World} (hR : R K W0 N0 β σ w) (n : Nat) : R K W0 N0 β σ { w with drawn := n } :=
  ⟨hR.cells, hR.obj, hR.excl, hR.lt, hR.base.trans ⟨rfl, rfl, rfl, Nat.le_refl _, fun _ _ => rfl⟩, hR.top, hR.code, hR.zr.keep rfl rfl (fun _ _ _ _ => rfl) (Nat.le_refl _) (fun _ _ _ hb hg hx => .inl ⟨_, _, _, hb, hg, hx, fun h => h, rfl⟩) fun _ _ _ _ _ hb hg => ⟨hb, hg⟩⟩

theorem run_loadCellsFrom_same {a : Addr} : ∀ (n i : Nat) (acc c : Array Value) (w w' : World), (loadCellsFrom a i n acc).run P w = .ok c w' → w' = w
  | 0, i, acc, c, w, w', h => by
    simp only [loadCellsFrom] at h
    cases h; rfl
  | n + 1, i, acc, c, w, w', h => by
    have : (Sem.load .plain (a.add i) fun v => loadCellsFrom a (i + 1) n (acc.push v)).run P w = .ok c w' := h
    simp only [Sem.run] at this
    split at this
    · exact run_loadCellsFrom_same n _ _ _ _ _ this
    · split at this
      · exact run_loadCellsFrom_same n _ _ _ _ _ this
      · cases this

theorem run_firstCells_same {x : Value} {size n : Nat} {c : Array Value} {w w' : World} (h : (Builtin.firstCells size n x).run P w = .ok c w') : w' = w := by
  unfold Builtin.firstCells at h
  split at h
  · exact run_loadCellsFrom_same _ _ _ _ _ _ h
  · cases h; rfl
  · cases h; rfl
  · cases h

theorem runA_loadCellsFrom_same {a : Addr} {lim : Nat} : ∀ (n i : Nat) (acc c : Array Value) (σ σ' : AS), runA P lim (loadCellsFrom a i n acc) σ = some (c, σ') → σ' = σ
  | 0, i, acc, c, σ, σ', h => by
    simp only [loadCellsFrom] at h
    cases h; rfl
  | n + 1, i, acc, c, σ, σ', h => by
    have : runA P lim (Sem.load .plain (a.add i) fun v => loadCellsFrom a (i + 1) n (acc.push v)) σ = some (c, σ') := h
    simp only [runA] at this
    split at this
    · exact runA_loadCellsFrom_same n _ _ _ _ _ this
    · cases this

theorem runA_firstCells_same {x : Value} {size n lim : Nat} {c : Array Value} {σ σ' : AS} (h : runA P lim (Builtin.firstCells size n x) σ = some (c, σ')) : σ' = σ := by
  unfold Builtin.firstCells at h
  split at h
  · exact runA_loadCellsFrom_same _ _ _ _ _ _ h
  · cases h; rfl
  · cases h; rfl
  · cases h

theorem setCells_run {lim : Nat} {a : Addr} : ∀ (l : List Value) (i : Nat) (σ σ' : AS), σ.setCells lim a l i = some σ' → runA P lim (storeCells a l i) σ = some ((), σ')
  | [], i, σ, σ', h => by simp only [AS.setCells, Option.some.injEq] at h; subst h; rfl
  | v :: l, i, σ, σ', h => by
    simp only [AS.setCells] at h
    show runA P lim (Sem.store .plain (a.add i) v (storeCells a l (i + 1))) σ = _
    simp only [runA]
    cases ho : oneCell v with
    | false => simp [ho] at h
    | true =>
      simp only [ho, cond_true] at h ⊢
      cases hs : σ.setCell lim (a.add i) v with
      | none => rw [hs] at h; cases h
      | some σ1 => rw [hs] at h; exact setCells_run l (i + 1) σ1 σ' h

/-! ## Lists -/

theorem asL_spec {x : Value} {c : List Value} {n e g : Nat} (h : asL x = some (c, n, e, g)) : ∃ nm d, x = .tuple #[.func (.methodOf KL nm) ⟨c⟩ #[.slice none n g, .slice none e d]] := by
  unfold asL at h
  split at h
  · rename_i t nm c' n' g' e' d
    cases hb : Nat.beq t KL with
    | false => rw [hb] at h; cases h
    | true =>
      rw [hb, cond_true] at h
      have := Nat.eq_of_beq_eq_true hb
      subst this
      cases h
      exact ⟨nm, d, rfl⟩
  · cases h
theorem asP_spec {x : Value} {c : List Value} {k : Nat} (h : asP x = some (c, k)) : ∃ nm d, x = .tuple #[.func (.methodOf KP nm) ⟨c⟩ #[.slice none k d]] := by
  unfold asP at h
  split at h
  · rename_i t nm c' k' d
    cases hb : Nat.beq t KP with
    | false => rw [hb] at h; cases h
    | true =>
      rw [hb, cond_true] at h
      have := Nat.eq_of_beq_eq_true hb
      subst this
      cases h
      exact ⟨nm, d, rfl⟩
  · cases h

/-- What may stand in a list. -/
def Cells (c : List Value) : Prop := ∀ v ∈ c, oneCell v = true ∧ PF v
theorem Cells.all {c : List Value} (h : Cells c) : c.all oneCell = true := List.all_eq_true.2 fun v hv => (h v hv).1
theorem Cells.append {c d : List Value} (h : Cells c) (k : Cells d) : Cells (c ++ d) := fun v hv => by
  rcases List.mem_append.1 hv with hv | hv
  · exact h v hv
  · exact k v hv
theorem Cells.nil : Cells [] := fun v hv => by cases hv
theorem Cells.cut {c : List Value} (h : Cells c) (k n : Nat) : Cells ((c.drop k).take n) := fun v hv => h v (List.mem_of_mem_drop (List.mem_of_mem_take hv))

/-- What a list is to the model. -/
structure Lst (β : Inj) (c : List Value) (n e g : Nat) (x' : Value) (cs' : Array Value) (b o c' : Nat) : Prop where
  eq : x' = .slice (some ⟨b, o, none⟩) n c'
  len : c.length = n * e
  at' : ZAt β b o cs'
  rel : lRel β c cs'.toList
  one : Cells c
  cap : n ≤ c'
  grow : gRel β b o c.length e n c' g

theorem list_inv {β : Inj} {x x' : Value} {c : List Value} {n e g : Nat} (hx : vRel β x x') (h : asL x = some (c, n, e, g)) : ∃ cs' b o c', Lst β c n e g x' cs' b o c' := by
  obtain ⟨nm, d, rfl⟩ := asL_spec h
  cases hx with
  | tuple hf hr => exact absurd rfl (tuple_enc hf hr).1
  | @lst _ cs' _ _ _ _ _ b o c' hs hne hz h1 hr hn hg =>
    refine ⟨cs', b, o, c', rfl, hne, hz, arrRel_iff.1 ⟨hs, hr⟩, ?_, hn, hg⟩
    intro v hv
    obtain ⟨i, hi, rfl⟩ := List.getElem_of_mem hv
    exact h1 i (by simpa using hi)
theorem place_inv {β : Inj} {x x' : Value} {c : List Value} {k : Nat} (hx : vRel β x x') (h : asP x = some (c, k)) : ∃ cs' b o, x' = .pointer (some ⟨b, o + k, none⟩) ∧ ZAt β b o cs' ∧ lRel β c cs'.toList ∧ Cells c := by
  obtain ⟨nm, d, rfl⟩ := asP_spec h
  cases hx with
  | tuple hf hr => exact absurd rfl (tuple_enc hf hr).2
  | @lpt _ cs' _ _ _ b o hs hz h1 hr =>
    refine ⟨cs', b, o, rfl, hz, arrRel_iff.1 ⟨hs, hr⟩, ?_⟩
    intro v hv
    obtain ⟨i, hi, rfl⟩ := List.getElem_of_mem hv
    exact h1 i (by simpa using hi)
theorem Lst.shut {β : Inj} {c : List Value} {n e g : Nat} {x' : Value} {cs' : Array Value} {b o c' : Nat} (h : Lst β c n e g x' cs' b o c') : vRel β (L c n e g) x' := by
  rw [h.eq]
  have hr : arrRel β ⟨c⟩ cs' := arrRel_iff.2 h.rel
  refine .lst hr.1 h.len h.at' (fun i hi => h.one _ (by simp)) hr.2 h.cap h.grow
theorem place_shut {β : Inj} {c : List Value} {k : Nat} {cs' : Array Value} {b o : Nat} (hz : ZAt β b o cs') (hr : lRel β c cs'.toList) (h1 : Cells c) : vRel β (Pt c k) (.pointer (some ⟨b, o + k, none⟩)) := by
  have hr : arrRel β ⟨c⟩ cs' := arrRel_iff.2 hr
  exact .lpt hr.1 hz (fun i hi => h1 _ (by simp)) hr.2

theorem ZAt.cell {β : Inj} {σ : AS} {w : World} (hR : R K W0 N0 β σ w) {b o : Nat} {cs' : Array Value} (hz : ZAt β b o cs') (i : Nat) (hi : i < cs'.size) : w.cell? ⟨b, o + i, none⟩ = some cs'[i] := by
  obtain ⟨tg, h⟩ := hz i hi
  obtain ⟨C, ty, fr, h1, h2⟩ := hR.zr.zone h
  rw [cell?_of_heap h1]; exact h2

theorem run_loadZ {β : Inj} {σ : AS} {w : World} (hR : R K W0 N0 β σ w) {b o : Nat} {cs' : Array Value} (hz : ZAt β b o cs') {k : Nat} : ∀ (n i : Nat) (acc : Array Value), k + i + n ≤ cs'.size →
    (loadCellsFrom ⟨b, o + k, none⟩ i n acc).run P w = .ok (acc ++ cs'.extract (k + i) (k + i + n)) w
  | 0, i, acc, _ => by
    simp only [loadCellsFrom]
    have : cs'.extract (k + i) (k + i + 0) = #[] := by simp; omega
    rw [this, Array.append_empty]; rfl
  | n + 1, i, acc, h => by
    show (Sem.load .plain ((⟨b, o + k, none⟩ : Addr).add i) fun v => loadCellsFrom ⟨b, o + k, none⟩ (i + 1) n (acc.push v)).run P w = _
    have ha : (⟨b, o + k, none⟩ : Addr).add i = ⟨b, o + (k + i), none⟩ := by
      unfold Addr.add
      split
      · rename_i h0; subst h0; rfl
      · simp [Nat.add_assoc]
    rw [ha]
    have hc := hz.cell hR (k + i) (by omega)
    simp only [Sem.run, hc]
    have ih := run_loadZ hR hz (k := k) n (i + 1) (acc.push cs'[k + i]) (by omega)
    have e2 : acc.push cs'[k + i] ++ cs'.extract (k + (i + 1)) (k + (i + 1) + n) = acc ++ cs'.extract (k + i) (k + i + (n + 1)) := by
      apply Array.ext'
      simp only [Array.toList_append, Array.toList_push, Array.toList_extract, List.extract, List.append_assoc]
      congr 1
      have e3 : k + (i + 1) + n - (k + (i + 1)) = n := by omega
      have e4 : k + i + (n + 1) - (k + i) = n + 1 := by omega
      rw [e3, e4]
      have hlt : k + i < cs'.toList.length := by simp; omega
      rw [List.drop_eq_getElem_cons hlt, List.take_succ_cons, show k + (i + 1) = k + i + 1 from rfl]
      simp
    rw [← e2]
    exact ih

/-- What is appended: the mode, the number, the cells, and that the model comes to related cells. -/
theorem newCells_spec {β : Inj} (_ : ZeroOk P) {lim : Nat} {elem : TypeId} {i : TypeInfo} (_ : P.info? elem = some i) {xt : Option TypeId} {x x' : Value} (hx : vRel β x x') {σ : AS} {new : List Value} {n : Nat}
    (h : newCells P lim i xt x σ = some (new, n)) :
    (∃ k0 l t z, xt = some t ∧ (∃ k, P.underlying t = some (.int k)) ∧ x = .int k0 l ∧ x' = .int k0 l ∧ 0 ≤ l ∧ l ≤ 17179869184 ∧ i.bytes ≤ 4096 ∧ n = l.toNat ∧ i.zero = some z ∧
        new = (if n * i.size = 0 then #[] else Builtin.zeroCells z.cells n).toList) ∨
    (∃ t d, xt = some t ∧ P.underlying t = some d ∧ (∀ k, d ≠ .int k) ∧ (∀ w, (Builtin.lenOf x').run P w = .ok n w) ∧
        ∀ w, R K W0 N0 β σ w → σ.Any → ∃ new', (Builtin.firstCells i.size n x').run P w = .ok new' w ∧ lRel β new new'.toList) := by
  unfold newCells at h
  cases xt with
  | none => cases h
  | some t =>
    simp only [Option.bind_some] at h
    cases hd : P.underlying t with
    | none => rw [hd] at h; cases h
    | some d =>
      rw [hd] at h
      by_cases hint : ∃ k, d = .int k
      · obtain ⟨k, rfl⟩ := hint
        dsimp only at h
        split at h
        · rename_i k0 l z hz
          cases hx
          cases hb : (decide (0 ≤ l) && decide (l ≤ 17179869184) && Nat.ble i.bytes 4096) with
          | false => simp [hb] at h
          | true =>
            simp only [hb, cond_true, Option.some.injEq, Prod.mk.injEq] at h
            simp only [Bool.and_eq_true, decide_eq_true_eq] at hb
            obtain ⟨h1, rfl⟩ := h
            refine .inl ⟨k0, l, t, z, rfl, ⟨k, hd⟩, rfl, rfl, hb.1.1, hb.1.2, Nat.ble_eq ▸ hb.2, rfl, hz, ?_⟩
            rw [← h1]
            by_cases h0 : l.toNat * i.size = 0
            · rw [if_pos h0, h0]; rfl
            · rw [if_neg h0]
              cases hbq : Nat.beq (l.toNat * i.size) 0 with
              | true => exact absurd (Nat.eq_of_beq_eq_true hbq) h0
              | false => rfl
        · cases h
      · refine .inr ⟨t, d, rfl, hd, fun k e => hint ⟨k, e⟩, ?_⟩
        cases hla : asL x with
        | some q =>
          obtain ⟨c, m, e, g⟩ := q
          rw [hla] at h
          obtain ⟨cs', b, o, c', hL⟩ := list_inv hx hla
          obtain ⟨nm, dd, rfl⟩ := asL_spec hla
          by_cases hsl : ∃ el, d = .slice el
          · obtain ⟨el, rfl⟩ := hsl
            dsimp only at h
            cases hb : Nat.beq e i.size with
            | false => rw [hb] at h; cases h
            | true =>
              rw [hb, cond_true] at h
              cases h
              have he := Nat.eq_of_beq_eq_true hb
              subst he
              refine ⟨fun w => by rw [hL.eq]; rfl, fun w hR hw => ⟨cs', ?_, hL.rel⟩⟩
              have hsz : cs'.size = n * i.size := by have := hL.rel.length; simp only [Array.length_toList] at this; rw [← this, hL.len]
              rw [hL.eq]
              have := run_loadZ (P := P) hR hL.at' (k := 0) (n * i.size) 0 #[] (by omega)
              simp only [Nat.add_zero, Nat.zero_add, Array.empty_append] at this
              have e1 : cs'.extract 0 (n * i.size) = cs' := by rw [← hsz]; simp
              rw [e1] at this
              exact this
          · exfalso
            cases d <;> first | exact absurd ⟨_, rfl⟩ hsl | exact absurd ⟨_, rfl⟩ hint | (cases h; done)
        | none =>
        rw [hla] at h
        have h' : (match lenOfA x with
            | some n => match runA P lim (Builtin.firstCells i.size n x) σ with
              | some (c, _) => some (c.toList, n)
              | none => none
            | none => none) = some (new, n) := by
          cases d <;> first | exact h | exact absurd ⟨_, rfl⟩ hint
        cases hl : lenOfA x with
        | none => rw [hl] at h'; cases h'
        | some m =>
          rw [hl] at h'
          dsimp only at h'
          cases hr : runA P lim (Builtin.firstCells i.size m x) σ with
          | none => rw [hr] at h'; cases h'
          | some r =>
            obtain ⟨c, σ1⟩ := r
            rw [hr] at h'
            simp only [Option.some.injEq, Prod.mk.injEq] at h'
            obtain ⟨rfl, rfl⟩ := h'
            refine ⟨fun w => ?_, fun w hR hw => ?_⟩
            · cases hx <;> first | (cases hl; rfl) | cases hl
            · have := runA_firstCells_same hr
              subst this
              obtain ⟨c', w', β', e1, x1, R1, rfl, e2⟩ := sim_firstCells hx i.size m lim _ w c _ hw hR hr (fun i h h' => by omega)
              have := run_firstCells_same e1
              subst this
              exact ⟨c', e1, arrRel_iff.1 e2⟩

end Go.Va

/-
  SIMULATION: append, to the end.
-/
namespace Go.Va
open Go.RowKit
variable {P : Program} {K : FuncId → Code → Prop} {W0 : World} {N0 : Nat}

/-- What comes behind the slice: zeros, or another row's cells. -/
def behind (size : Nat) (elem : TypeId) (x : Value) (n : Nat) : Bool → Sem (Array Value)
  | true => if n * size = 0 then pure #[] else zeroValue elem >>= fun z => pure (Builtin.zeroCells z.cells n)
  | false => Builtin.firstCells size n x

/-- The mode of an append. -/
structure Mode1 (P : Program) (i : TypeInfo) (t : TypeId) (d : TypeDesc) (x : Value) (n : Nat) (b : Bool) : Prop where
  und : P.underlying t = some d
  yes : b = true → (∃ k, d = .int k) ∧ ∃ k l, x = .int k l ∧ 0 ≤ l ∧ l ≤ 17179869184 ∧ n = l.toNat ∧ i.bytes ≤ 4096
  no : b = false → (∀ k, d ≠ .int k) ∧ ∀ w, (Builtin.lenOf x).run P w = .ok n w

theorem run_append_in {argTypes : Array TypeId} {ty sType elem t : TypeId} {d : TypeDesc} {i : TypeInfo} {base : Option Addr} {sLen sCap n : Nat} {x : Value} {b : Bool} {w : World} {new : Array Value} (h0 : argTypes[0]? = some sType)
    (h1 : argTypes[1]? = some t) (hd : P.underlying sType = some (.slice elem)) (hi : P.info? elem = some i) (hm : Mode1 P i t d x n b) (hle : sLen + n ≤ sCap) (hn : (behind i.size elem x n b).run P w = .ok new w) :
    (Builtin.append_ argTypes ty #[.slice base sLen sCap, x]).run P w =
      (match base with
        | some a => storeCells (a.add (sLen * i.size)) new.toList >>= fun _ => pure (.slice base (sLen + n) sCap)
        | none => pure (.slice base (sLen + n) sCap) : Sem Value).run P w := by
  have r1 : ∀ w, (underlying sType).run P w = .ok (.slice elem) w := fun w => run_underlying' _ w _ hd
  have r2 : ∀ w, (underlying t).run P w = .ok d w := fun w => run_underlying' _ w _ hm.und
  have r3 : ∀ w, (sizeOf elem).run P w = .ok i.size w := fun w => run_sizeOf' _ w _ hi
  have r4 : ∀ w, (typeInfo elem).run P w = .ok i w := fun w => run_typeInfo' _ w _ hi
  have a0 : (#[Value.slice base sLen sCap, x] : Array Value)[0]? = some (.slice base sLen sCap) := rfl
  have a1 : (#[Value.slice base sLen sCap, x] : Array Value)[1]? = some x := rfl
  have rp : ∀ {α : Type} (a : α) (w : World), (pure a : Sem α).run P w = .ok a w := fun _ _ => rfl
  cases b with
  | false =>
    obtain ⟨hnd, hlen⟩ := hm.no rfl
    have hz : (match d with | .int _ => true | _ => false) = false := by cases d <;> first | rfl | exact absurd rfl (hnd _)
    simp only [behind] at hn
    unfold Builtin.append_
    simp only [h0, h1, a0, a1, run_bind', r1, r2, r3, rp, Bool.false_eq_true, if_false, hlen, if_pos hle, Bool.not_false, if_true, hn]
    cases base <;> rfl
  | true =>
    obtain ⟨⟨k0, rfl⟩, k, l, rfl, hl0, hl1, rfl, hby⟩ := hm.yes rfl
    have hw : IntKind.i64.wrap l = l := IntWalk.i64_in _ ⟨by omega, by omega⟩
    have r5 : ∀ w, (asInt (.int k l)).run P w = .ok l w := fun _ => rfl
    have c1 : ¬ l < 0 := by omega
    have c2 : ¬ l * (i.bytes : Int) > 2 ^ 48 := by
      have : l * (i.bytes : Int) ≤ 17179869184 * 4096 := Int.mul_le_mul hl1 (by omega) (by omega) (by omega)
      omega
    have hn' : (if l.toNat * i.size = 0 then pure #[] else zeroValue elem >>= fun z => pure (Builtin.zeroCells z.cells l.toNat) : Sem (Array Value)).run P w = .ok new w := hn
    unfold Builtin.append_
    simp only [h0, h1, a0, a1, run_bind', r1, r2, r3, r4, r5, rp, if_true, hw, if_neg c1, if_neg c2, if_pos hle, Bool.not_true, Bool.false_eq_true, if_false]
    by_cases hq : l.toNat * i.size = 0
    · rw [if_pos hq] at hn' ⊢
      simp only [rp] at hn' ⊢
      cases hn'
      cases base <;> rfl
    · rw [if_neg hq] at hn' ⊢
      rw [run_bind'] at hn' ⊢
      rw [hn']
      cases base <;> rfl

/-- The world behind a draw. -/
def drawn1 (w : World) : World := { w with drawn := w.drawn + 1 }

theorem run_append_grow {argTypes : Array TypeId} {ty sType elem t : TypeId} {d : TypeDesc} {i : TypeInfo} {z : Value} {base : Option Addr} {sLen sCap n : Nat} {x : Value} {b : Bool} {w : World} {old new : Array Value} (h0 : argTypes[0]? = some sType)
    (h1 : argTypes[1]? = some t) (hd : P.underlying sType = some (.slice elem)) (hi : P.info? elem = some i) (hz : i.zero = some z) (hm : Mode1 P i t d x n b) (hle : ¬ sLen + n ≤ sCap) (hby : (sLen + n) * i.bytes ≤ 70368744177664) (hb0 : 0 < i.bytes)
    (ho : (Builtin.firstCells i.size sLen (.slice base sLen sCap)).run P (drawn1 w) = .ok old (drawn1 w)) (hn : (behind i.size elem x n b).run P (drawn1 w) = .ok new (drawn1 w)) :
    ∃ cap, sLen + n ≤ cap ∧ (Builtin.append_ argTypes ty #[.slice base sLen sCap, x]).run P w =
      .ok (.slice (some ⟨w.heap.size, 0, none⟩) (sLen + n) cap)
        { drawn1 w with heap := w.heap.push (.cells (old ++ new ++ Builtin.zeroCells z.cells (cap - (sLen + n))) elem) } := by
  have r1 : ∀ w, (underlying sType).run P w = .ok (.slice elem) w := fun w => run_underlying' _ w _ hd
  have r2 : ∀ w, (underlying t).run P w = .ok d w := fun w => run_underlying' _ w _ hm.und
  have r3 : ∀ w, (sizeOf elem).run P w = .ok i.size w := fun w => run_sizeOf' _ w _ hi
  have r4 : ∀ w, (typeInfo elem).run P w = .ok i w := fun w => run_typeInfo' _ w _ hi
  have r6 : ∀ w, (zeroValue elem).run P w = .ok z w := fun w => run_zeroValue' _ w _ _ hi hz
  have a0 : (#[Value.slice base sLen sCap, x] : Array Value)[0]? = some (.slice base sLen sCap) := rfl
  have a1 : (#[Value.slice base sLen sCap, x] : Array Value)[1]? = some x := rfl
  have rp : ∀ {α : Type} (a : α) (w : World), (pure a : Sem α).run P w = .ok a w := fun _ _ => rfl
  have rc : ∀ (w : World), (choose (.appendCap (sLen + n) sCap elem)).run P w = .ok (sLen + n + w.tape w.drawn (.appendCap (sLen + n) sCap elem) % (2 ^ 63 - (sLen + n))) (drawn1 w) := fun w => rfl
  have ra : ∀ (m : Nat) (w : World), (askRoom m).run P w = .ok () w := by
    intro m w
    unfold askRoom
    split <;> rfl
  have rn : ∀ (C : Array Value) (w : World), (newRow elem C).run P w = .ok ⟨w.heap.size, 0, none⟩ { w with heap := w.heap.push (.cells C elem) } := fun _ _ => rfl
  have hneed : sLen + n ≤ 70368744177664 := Nat.le_trans (Nat.le_mul_of_pos_right _ hb0) hby
  have c3 : ¬ (((sLen + n : Nat) : Int) > IntKind.i64.max ∧ (b = true ∨ i.bytes = 0)) := by
    rintro ⟨h, _⟩
    have : IntKind.i64.max = 9223372036854775807 := rfl
    omega
  have c4 : ¬ (Builtin.nextslicecap (sLen + n) sCap * i.bytes > 2 ^ 48) := by
    have h1 := nextslicecap_le (n := sLen + n) (c := sCap) (by omega)
    have h2 : Builtin.nextslicecap (sLen + n) sCap * i.bytes ≤ 2 * (sLen + n) * i.bytes := Nat.mul_le_mul_right _ h1
    rw [Nat.mul_assoc] at h2
    omega
  refine ⟨sLen + n + w.tape w.drawn (.appendCap (sLen + n) sCap elem) % (2 ^ 63 - (sLen + n)), by omega, ?_⟩
  cases b with
  | false =>
    obtain ⟨hnd, hlen⟩ := hm.no rfl
    have hz : (match d with | .int _ => true | _ => false) = false := by cases d <;> first | rfl | exact absurd rfl (hnd _)
    simp only [behind] at hn
    unfold Builtin.append_
    simp only [Bool.false_eq_true, false_or] at c3
    simp only [h0, h1, a0, a1, run_bind', r1, r2, r3, r4, rp, Bool.false_eq_true, if_false, hlen, if_neg hle, Bool.not_false, if_true, false_or, if_neg c3, if_neg c4, rc, ra, ho, hn, r6, rn]
    rfl
  | true =>
    obtain ⟨⟨k0, rfl⟩, k, l, rfl, hl0, hl1, rfl, hby'⟩ := hm.yes rfl
    have hw : IntKind.i64.wrap l = l := IntWalk.i64_in _ ⟨by omega, by omega⟩
    have r5 : ∀ w, (asInt (.int k l)).run P w = .ok l w := fun _ => rfl
    have c1 : ¬ l < 0 := by omega
    have c2 : ¬ l * (i.bytes : Int) > 2 ^ 48 := by
      have : l * (i.bytes : Int) ≤ 17179869184 * 4096 := Int.mul_le_mul hl1 (by omega) (by omega) (by omega)
      omega
    have hn' : (if l.toNat * i.size = 0 then pure #[] else zeroValue elem >>= fun z => pure (Builtin.zeroCells z.cells l.toNat) : Sem (Array Value)).run P (drawn1 w) = .ok new (drawn1 w) := hn
    simp only [true_or, and_true] at c3
    unfold Builtin.append_
    simp only [h0, h1, a0, a1, run_bind', r1, r2, r3, r4, r5, rp, if_true, hw, if_neg c1, if_neg c2, if_neg hle, Bool.not_true, Bool.false_eq_true, if_false, true_or, and_true, if_neg c3, if_neg c4, rc, ra, ho, r6, rn]
    by_cases hq : l.toNat * i.size = 0
    · rw [if_pos hq] at hn' ⊢
      simp only [rp] at hn' ⊢
      cases hn'
      rfl
    · rw [if_neg hq] at hn' ⊢
      simp only [run_bind', r6, rp] at hn' ⊢
      cases hn'
      rfl

end Go.Va

/-
  SIMULATION: append and the relation of the heaps.
-/
namespace Go.Va
open Go.RowKit
variable {P : Program} {K : FuncId → Code → Prop} {W0 : World} {N0 : Nat}

/-- A row goes on behind its end, in its own block. -/
theorem R.extend {β : Inj} {σ : AS} {w w' : World} (hR : R K W0 N0 β σ w) {A : Nat} {e : Ent} {C C' : Array Value} {ty : TypeId} {fr : Nat × Nat} {all : List Value} {esz on : Nat} {pv : Option Nat} {oty : Option TypeId} (hty : ∀ T, oty = some T → ty = T)
    (he : β A = some e) (hf : β σ.next = none) (hN : N0 ≤ e.b) (hC : w.heap[e.b]? = some (.cells C ty fr)) (hw' : w'.heap[e.b]? = some (.cells C' ty fr)) (hs : C'.size = C.size)
    (hfr : FrOk fr C.size) (hoth : ∀ r, r ≠ e.b → w'.heap[r]? = w.heap[r]?) (hsz : w'.heap.size = w.heap.size) (hB : Below N0 W0 w')
    (hA : ∀ x, σ.get A = some x → ∃ c lo, x = .cells c false lo none ∧ (∀ i, i < c.length → C'[e.o + i]? = C[e.o + i]?) ∧ pv = some A)
    (hall : ∀ i (_ : i < all.length), ∃ v', C'[on + i]? = some v' ∧ vRel β all[i] v')
    (hex : ∀ j ej y, j ≠ A → β j = some ej → σ.get j = some y → ej.b ≠ e.b) (hzn : ∀ j, β.z e.b j = none) :
    R K W0 N0 (β.put σ.next ⟨e.b, on, some (all.length, esz, C.size)⟩) (σ.push (.cells all true (some esz, oty) pv)) w' := by
  have hle := Inj.le_put hf ⟨e.b, on, some (all.length, esz, C.size)⟩
  have hAn : A ≠ σ.next := by rintro rfl; rw [hf] at he; cases he
  constructor
  · intro id e' c rw' lo pv' hb hg
    rw [AS.get_push] at hg
    unfold Inj.put at hb
    dsimp only at hb
    by_cases hid : id = σ.next
    · rw [if_pos hid] at hb hg
      simp only [Option.some.injEq, AObj.cells.injEq] at hb hg
      obtain ⟨rfl, rfl, rfl, rfl⟩ := hg
      subst hb
      refine ⟨C', ty, fr, hw', fun i hi => ?_, fun _ => ⟨hN, by rw [hs]; exact hfr⟩, by simp [hs], fun T hT => ⟨hty T hT, fun h => by cases h⟩⟩
      obtain ⟨v', k1, k2⟩ := hall i hi
      exact ⟨v', k1, k2.mono hle⟩
    · rw [if_neg hid] at hb hg
      by_cases hidA : id = A
      · subst hidA
        rw [he] at hb; cases hb
        obtain ⟨c1, lo1, h1, h2, h3⟩ := hA _ hg
        cases h1
        obtain ⟨C2, ty2, fr2, k1, k2, k3, k4⟩ := hR.cells he hg
        rw [hC] at k1; cases k1
        refine ⟨C', ty, fr, hw', fun i hi => ?_, fun h => (by cases h), by rw [hs]; exact k4⟩
        obtain ⟨v', m1, m2⟩ := k2 i hi
        exact ⟨v', by rw [h2 i hi]; exact m1, m2.mono hle⟩
      · obtain ⟨C2, ty2, fr2, k1, k2, k3, k4⟩ := hR.cells hb hg
        refine ⟨C2, ty2, fr2, by rw [hoth _ (hex id e' _ hidA hb hg)]; exact k1, fun i hi => ?_, k3, k4⟩
        obtain ⟨v', m1, m2⟩ := k2 i hi
        exact ⟨v', m1, m2.mono hle⟩
  · intro id e' o hb hg
    rw [AS.get_push] at hg
    unfold Inj.put at hb
    dsimp only at hb
    by_cases hid : id = σ.next
    · rw [if_pos hid] at hg; cases hg
    · rw [if_neg hid] at hb hg
      by_cases hidA : id = A
      · subst hidA
        obtain ⟨c1, lo1, h1, _⟩ := hA _ hg
        cases h1
      · obtain ⟨k1, k2, o2, k3, k4⟩ := hR.obj hb hg
        exact ⟨k1, k2, o2, by rw [hoth _ (hex id e' _ hidA hb hg)]; exact k3, k4.mono hle⟩
  · intro i j ei ej x y hij hbi hbj hgi hgj hx heq
    rw [AS.get_push] at hgi hgj
    unfold Inj.put at hbi hbj
    dsimp only at hbi hbj
    by_cases hi : i = σ.next
    · rw [if_pos hi] at hbi hgi
      rw [if_neg (by omega)] at hbj hgj
      simp only [Option.some.injEq] at hbi hgi
      subst hbi hgi
      by_cases hjA : j = A
      · subst hjA
        obtain ⟨_, _, _, _, h3⟩ := hA _ hgj
        exact h3
      · exact absurd heq.symm (hex j ej _ hjA hbj hgj)
    · rw [if_neg hi] at hbi hgi
      by_cases hj : j = σ.next
      · rw [if_pos hj] at hbj
        simp only [Option.some.injEq] at hbj
        subst hbj
        by_cases hiA : i = A
        · subst hiA
          obtain ⟨_, _, h1, _⟩ := hA _ hgi
          subst h1; cases hx
        · exact absurd heq (hex i ei _ hiA hbi hgi)
      · rw [if_neg hj] at hbj hgj
        exact hR.excl hij hbi hbj hgi hgj hx heq
  · intro id e' hb
    unfold Inj.put at hb
    dsimp only at hb
    rw [hsz]
    split at hb
    · simp only [Option.some.injEq] at hb; subst hb; have := hR.lt he; exact this
    · exact hR.lt hb
  · exact hB
  · rw [hsz]; exact hR.top
  · intro id e' r hb hg
    unfold Inj.put at hb
    dsimp only at hb
    rw [AS.get_push] at hg
    split at hg
    · cases hg
    · rename_i hne
      rw [if_neg hne] at hb
      exact hR.code hb hg
  · refine hR.zr.keep rfl rfl (fun b j c hc => hoth _ ?_) (by omega) (fun id e' x hb hg hx => ?_) (fun id e' n es T hb hg => ?_)
    · rintro rfl; rw [hzn] at hc; cases hc
    · unfold Inj.put at hb
      rw [AS.get_push] at hg
      dsimp only at hb
      split at hg
      · rename_i hid
        rw [if_pos hid] at hb
        cases hb
        exact .inr hzn
      · rename_i hne
        rw [if_neg hne] at hb
        exact .inl ⟨_, _, _, hb, hg, hx, fun h => h, rfl⟩
    · unfold Inj.put at hb
      rw [AS.get_push] at hg
      dsimp only at hb
      split at hg
      · cases hg
      · rename_i hne
        rw [if_neg hne] at hb
        exact ⟨hb, hg⟩

theorem size_zeroCells (z : Array Value) (n : Nat) : (Builtin.zeroCells z n).size = n * z.size := by simp [Builtin.zeroCells]

theorem lRel_oneCell {β : Inj} : ∀ {l m : List Value}, lRel β l m → l.all oneCell = true → m.all flat = true
  | [], [], _, _ => rfl
  | a :: l, b :: m, h, ho => by
    simp only [List.all_cons, Bool.and_eq_true] at ho ⊢
    exact ⟨oneCell_rel h.1 ho.1, lRel_oneCell h.2 ho.2⟩
  | [], _ :: _, h, _ => h.elim
  | _ :: _, [], h, _ => h.elim

/-- The slice's own cells are read. -/
theorem run_old {β : Inj} {σ : AS} {w : World} (hR : R K W0 N0 β σ w) (_ : σ.Any) {p p' : Addr} (ha : aRel β p p') {c : List Value} {rw : Bool} {lo : Lo} {pv : Option Nat} (hg : σ.get p.block = some (.cells c rw lo pv)) {size sLen : Nat}
    (hl : p.off + sLen * size ≤ c.length) (cap : Nat) : ∃ old, (Builtin.firstCells size sLen (.slice (some p') sLen cap)).run P w = .ok old w ∧ lRel β ((c.drop p.off).take (sLen * size)) old.toList := by
  have key : ∀ (n i : Nat) (acc : Array Value), p.off + i + n ≤ c.length → ∃ r, (loadCellsFrom p' i n acc).run P w = .ok r w ∧ r.size = acc.size + n ∧ (∀ j, j < acc.size → r[j]? = acc[j]?) ∧
      ∀ j (h : j < n) (h' : p.off + i + j < c.length), ∃ v', r[acc.size + j]? = some v' ∧ vRel β c[p.off + i + j] v' := by
    intro n
    induction n with
    | zero => intro i acc h; exact ⟨acc, rfl, rfl, fun _ _ => rfl, fun j h => by omega⟩
    | succ n ih =>
      intro i acc h
      have hcell : σ.cell? (p.add i) = some c[p.off + i] := by
        unfold AS.cell?
        have h1 : (p.add i).spot = none := by unfold Addr.add; split; exact ha.1; rfl
        have h2 : (p.add i).block = p.block := by unfold Addr.add; split <;> rfl
        have h3 : (p.add i).off = p.off + i := by unfold Addr.add; split <;> simp_all
        rw [h1, h2, hg, h3]
        exact List.getElem?_eq_getElem (by omega)
      obtain ⟨v', k1, k2⟩ := hR.load (ha.add i) hcell
      obtain ⟨r, e1, e2, e3, e4⟩ := ih (i + 1) (acc.push v') (by omega)
      refine ⟨r, ?_, by rw [e2]; simp; omega, fun j hj => ?_, fun j hj hj' => ?_⟩
      · show (Sem.load .plain (p'.add i) fun v => loadCellsFrom p' (i + 1) n (acc.push v)).run P w = _
        simp only [Sem.run, k1]; exact e1
      · rw [e3 j (by simp; omega)]; exact Array.getElem?_push_lt hj |>.trans (by simp [hj])
      · cases j with
        | zero => exact ⟨v', by rw [e3 _ (by simp)]; simp, by simpa using k2⟩
        | succ j =>
          obtain ⟨u, g1, g2⟩ := e4 j (by omega) (by omega)
          refine ⟨u, by simp only [Array.size_push] at g1; rw [show acc.size + (j + 1) = acc.size + 1 + j by omega]; exact g1, ?_⟩
          have : p.off + (i + 1) + j = p.off + i + (j + 1) := by omega
          simpa [this] using g2
  obtain ⟨r, e1, e2, _, e4⟩ := key (sLen * size) 0 #[] (by omega)
  refine ⟨r, e1, lRel.of_get (by simp [e2]; omega) fun i hi hi' => ?_⟩
  simp only [List.length_take, List.length_drop] at hi
  obtain ⟨v', g1, g2⟩ := e4 i (by omega) (by omega)
  have : r.toList[i] = v' := by
    simp at g1
    obtain ⟨h1, h2⟩ := Array.getElem?_eq_some_iff.1 g1
    simpa using h2
  rw [this]
  simpa using g2

end Go.Va

/-
  SIMULATION: append: the theorem.
-/
namespace Go.Va
open Go.RowKit
variable {P : Program} {K : FuncId → Code → Prop} {W0 : World} {N0 : Nat}

theorem behind_run {β : Inj} (hZ : ZeroOk P) {lim : Nat} {elem : TypeId} {i : TypeInfo} (hi : P.info? elem = some i) {xt : Option TypeId} {x x' : Value} (hx : vRel β x x') {σ : AS} {new : List Value} {n : Nat}
    (h : newCells P lim i xt x σ = some (new, n)) :
    ∃ t d b, xt = some t ∧ Mode1 P i t d x' n b ∧ ∀ w, R K W0 N0 β σ w → σ.Any → ∃ new', (behind i.size elem x' n b).run P w = .ok new' w ∧ lRel β new new'.toList := by
  rcases newCells_spec (K := K) (W0 := W0) (N0 := N0) hZ hi hx h with ⟨k0, l, t, z, rfl, ⟨k, hk⟩, rfl, rfl, h1, h2, h3, rfl, hz, rfl⟩ | ⟨t, d, rfl, hd, hno, hlen, hrun⟩
  · refine ⟨t, .int k, true, rfl, ⟨hk, fun _ => ⟨⟨k, rfl⟩, k0, l, rfl, h1, h2, rfl, h3⟩, fun h => by cases h⟩, fun w hR hw => ?_⟩
    refine ⟨if l.toNat * i.size = 0 then #[] else Builtin.zeroCells z.cells l.toNat, ?_, ?_⟩
    · unfold behind
      by_cases hq : l.toNat * i.size = 0
      · rw [if_pos hq, if_pos hq]; rfl
      · rw [if_neg hq, if_neg hq, run_bind', run_zeroValue' _ w _ _ hi hz]; rfl
    · by_cases hq : l.toNat * i.size = 0
      · rw [if_pos hq]; trivial
      · rw [if_neg hq]
        exact arrRel_iff.1 (arrRel_map fun j => arrRel_getBang (cells_rel ((hZ _ _ _ hi hz).2 β)) _)
  · exact ⟨t, d, false, rfl, ⟨hd, fun h => (by cases h), fun _ => ⟨hno, hlen⟩⟩, fun w hR hw => hrun w hR hw⟩

/-- The heap behind an append to a row that may have room. -/
theorem sim2_append {β : Inj} (hZ : ZeroOk P) {lim : Nat} {argTypes : Array TypeId} {ty : TypeId} {args : List Value} {args' : Array Value} (ha : lRel β args args'.toList) :
    Sim2 P K W0 N0 β (fun σ => appendA P lim argTypes args σ) (Builtin.append_ argTypes ty args') := by
  intro σ w v σ' hw hR hr hf
  simp only [appendA] at hr
  split at hr
  case h_2 => cases hr
  rename_i sType base sLen sCap x h0
  obtain ⟨s', x', rfl⟩ : ∃ s' x', args' = #[s', x'] := by
    obtain ⟨l⟩ := args'
    match l, ha with
    | [a, b], _ => exact ⟨a, b, rfl⟩
    | [], h => exact h.elim
    | [_], h => exact h.2.elim
    | _ :: _ :: _ :: _, h => exact h.2.2.elim
  obtain ⟨hs, hx, _⟩ := ha
  cases hd : P.underlying sType with
  | none => rw [hd] at hr; cases hr
  | some dd =>
  rw [hd] at hr
  cases dd <;> first | cases hr | skip
  rename_i elem
  dsimp only at hr
  cases hi : P.info? elem with
  | none => rw [hi] at hr; cases hr
  | some i =>
  rw [hi] at hr
  dsimp only at hr
  cases hnc : newCells P lim i argTypes[1]? x σ with
  | none => rw [hnc] at hr; cases hr
  | some nc =>
  obtain ⟨new, n⟩ := nc
  rw [hnc] at hr
  dsimp only at hr
  unfold append1 at hr
  obtain ⟨t, d, b, h1, hm, hbeh⟩ := behind_run (K := K) (W0 := W0) (N0 := N0) hZ hi hx hnc
  obtain ⟨new1, hb1, hl1⟩ := hbeh w hR hw
  have hRd := hR.drawn (w.drawn + 1)
  obtain ⟨new2, hb2, hl2⟩ := hbeh (drawn1 w) hRd hw
  cases hle : Nat.ble (sLen + n) sCap with
  | true =>
    have hle' : sLen + n ≤ sCap := Nat.ble_eq ▸ hle
    simp only [hle, cond_true] at hr
    cases hs with
    | sliceNone _ _ =>
      simp only [Option.some.injEq, Prod.mk.injEq] at hr
      obtain ⟨rfl, rfl⟩ := hr
      exact ⟨_, w, β, by rw [run_append_in h0 h1 hd hi hm hle' hb1]; rfl, .refl _ _, hR, .sliceNone _ _⟩
    | slice _ hp hc =>
      rename_i p p' cap'
      have hcc : sCap ≤ cap' := by
        rcases hc with rfl | ⟨_, _, _, _, _, _, _, _, h⟩
        · exact Nat.le_refl _
        · exact h
      dsimp only at hr
      cases hst : σ.setCells lim (p.add (sLen * i.size)) new 0 with
      | none => rw [hst] at hr; cases hr
      | some σ1 =>
        rw [hst] at hr
        simp only [Option.some.injEq, Prod.mk.injEq] at hr
        obtain ⟨rfl, rfl⟩ := hr
        obtain ⟨_, w', β', e1, x1, R1, rfl⟩ := sim_storeCells (P := P) (hp.add (sLen * i.size)) hl1 lim σ w () σ1 hw hR (setCells_run new 0 σ σ1 hst) hf
        refine ⟨.slice (some p') (sLen + n) cap', w', β', ?_, x1, R1, .slice _ hp hc⟩
        rw [run_append_in h0 h1 hd hi hm (by omega) hb1]
        dsimp only
        rw [run_bind', e1]; rfl
    | void a' c' hsp =>
      rename_i p
      dsimp only at hr
      have hn0 : n = 0 := by omega
      have hadd : p.add (0 * i.size) = p := by simp [Addr.add]
      rw [hadd] at hr
      cases hnew : new with
      | nil =>
        rw [hnew] at hr hl1
        simp only [AS.setCells, Option.some.injEq, Prod.mk.injEq] at hr
        obtain ⟨rfl, rfl⟩ := hr
        have hn1 : new1.toList = [] := by
          cases h : new1.toList with
          | nil => rfl
          | cons a l => rw [h] at hl1; exact hl1.elim
        refine ⟨.slice (some a') (0 + n) c', w, β, ?_, .refl _ _, hR, by rw [hn0]; exact .void _ _ hsp⟩
        rw [run_append_in h0 h1 hd hi hm (by omega) hb1]
        dsimp only
        rw [hn1]; rfl
      | cons u l =>
        rw [hnew] at hr
        have : σ.setCells lim p (u :: l) 0 = none := by
          simp only [AS.setCells]
          have h2 : σ.setCell lim (p.add 0) u = none := by
            have : p.add 0 = p := by simp [Addr.add]
            rw [this]
            unfold AS.setCell
            split
            · rename_i h' _; rw [h'] at hsp; cases hsp
            · rfl
          rw [h2]; cases oneCell u <;> rfl
        rw [this] at hr; cases hr
  | false =>
    have hle' : ¬ sLen + n ≤ sCap := by intro h; rw [Nat.ble_eq_true_of_le h] at hle; cases hle
    simp only [hle, cond_false] at hr
    cases hcond : (Nat.ble ((sLen + n) * i.bytes) 70368744177664 && Nat.blt 0 i.bytes && i.zero.isSome && new.all oneCell && Nat.beq new.length (n * i.size)) with
    | false => simp [hcond] at hr
    | true =>
      simp only [hcond, cond_true] at hr
      simp only [Bool.and_eq_true] at hcond
      obtain ⟨⟨⟨⟨q1, q2⟩, q3⟩, q4⟩, q5⟩ := hcond
      have q1 : (sLen + n) * i.bytes ≤ 70368744177664 := Nat.ble_eq ▸ q1
      have q2 : 0 < i.bytes := blt_iff.1 q2
      have q5 : new.length = n * i.size := Nat.eq_of_beq_eq_true q5
      obtain ⟨z, hz⟩ := Option.isSome_iff_exists.1 q3
      have hzs := (hZ _ _ _ hi hz).1
      have hzr := (hZ _ _ _ hi hz).2
      -- a new row, in the model too
      have grow : ∀ {base' : Option Addr} {cap' : Nat} {old : List Value} {old' : Array Value} {σ1 : AS} {pv : Option Nat}, s' = .slice base' sLen cap' → ¬ sLen + n ≤ cap' →
          (Builtin.firstCells i.size sLen (.slice base' sLen cap')).run P (drawn1 w) = .ok old' (drawn1 w) → lRel β old old'.toList → old.length = sLen * i.size → R K W0 N0 β σ1 w → σ1.next = σ.next →
          (v, σ') = (.slice (some ⟨σ.next, 0, none⟩) (sLen + n) (sLen + n), σ1.push (.cells (old ++ new) true (some i.size, some elem) pv)) →
          ∃ v' w' β', (Builtin.append_ argTypes ty #[s', x']).run P w = .ok v' w' ∧ Ext β β' σ σ' ∧ R K W0 N0 β' σ' w' ∧ vRel β' v v' := by
        intro base' cap' old old' σ1 pv g1 g2 g3 g4 g5 g6 g7 g8
        subst g1
        obtain ⟨cap, c1, c2⟩ := run_append_grow (ty := ty) h0 h1 hd hi hz hm g2 q1 q2 g3 hb2
        simp only [Prod.mk.injEq] at g8
        obtain ⟨rfl, rfl⟩ := g8
        have hfn : β σ.next = none := hf _ (Nat.le_refl _) (by simp [g7])
        have hR1 := (g6.drawn (w.drawn + 1))
        have hlen : (old ++ new).length = (sLen + n) * i.size := by simp [g5, q5, Nat.add_mul]
        have hCs : (old' ++ new2 ++ Builtin.zeroCells z.cells (cap - (sLen + n))).size = cap * i.size := by
          have e1 := g4.length
          have e2 := hl2.length
          simp only [Array.length_toList] at e1 e2
          simp only [Array.size_append, size_zeroCells, hzs, ← e1, ← e2, g5, q5]
          rw [← Nat.add_mul, ← Nat.add_mul]
          congr 1; omega
        have hll : lRel β (old ++ new) (old' ++ new2).toList := by rw [Array.toList_append]; exact g4.append hl2
        obtain ⟨R2, hle2⟩ := hR1.push (x := .cells (old ++ new) true (some i.size, some elem) pv) (o' := .cells (old' ++ new2 ++ Builtin.zeroCells z.cells (cap - (sLen + n))) elem)
          (e := ⟨w.heap.size, 0, some ((old ++ new).length, i.size, cap * i.size)⟩) (by rw [g7]; exact hfn) rfl
          ⟨_, _, (0, 0), rfl, fun j hj => by
            obtain ⟨u, u1, u2⟩ := hll.getElem? j (List.getElem?_eq_getElem hj)
            refine ⟨u, ?_, u2⟩
            simp only [Nat.zero_add]
            have : j < (old' ++ new2).size := by have := hll.length; simp only [Array.length_toList] at this; omega
            rw [Array.getElem?_append_left this]
            rw [Array.getElem?_toList] at u1
            exact u1, fun _ => FrOk.zero, by rw [hCs]; rfl, fun T hT => by cases hT; exact ⟨rfl, fun h => by cases h⟩⟩
        rw [g7] at R2 hle2
        refine ⟨_, _, _, c2, ⟨hle2, fun j e he => ?_⟩, R2, ?_⟩
        · unfold Inj.put at he
          dsimp only at he
          split at he
          · exact .inr ⟨by omega, by simp [g7]; omega⟩
          · exact .inl he
        · refine .slice _ ⟨rfl, ⟨w.heap.size, 0, some ((old ++ new).length, i.size, cap * i.size)⟩, Inj.put_self .., rfl⟩ ?_
          exact .inr ⟨⟨w.heap.size, 0, some ((old ++ new).length, i.size, cap * i.size)⟩, (old ++ new).length, i.size, cap * i.size, Inj.put_self .., rfl, by rw [hlen]; simp, by simp, by omega⟩
      cases hs with
      | sliceNone _ _ =>
        cases hsl : Nat.beq sLen 0 with
        | false => simp [hsl] at hr
        | true =>
          simp only [hsl, cond_true, Option.some.injEq] at hr
          have hsl' : sLen = 0 := Nat.eq_of_beq_eq_true hsl
          exact grow (old := []) (old' := #[]) rfl hle' rfl trivial (by simp [hsl']) hR rfl (by rw [← hr]; rfl)
      | void a' c' hsp =>
        dsimp only at hr
        split at hr
        · rename_i h' _; rw [h'] at hsp; cases hsp
        · cases hr
      | slice _ hp hc =>
        rename_i p p' cap'
        dsimp only at hr
        split at hr
        case h_2 => cases hr
        rename_i c rw lo pv hspn hg
        cases hl : Nat.ble (p.off + sLen * i.size) c.length with
        | false => simp [hl] at hr
        | true =>
        have hl' : p.off + sLen * i.size ≤ c.length := Nat.ble_eq ▸ hl
        simp only [hl, cond_true] at hr
        obtain ⟨old', o1, o2⟩ := run_old (P := P) hRd hw hp hg hl' cap'
        have olen : ((c.drop p.off).take (sLen * i.size)).length = sLen * i.size := by simp; omega
        cases hex : σ.exact p sCap with
        | true =>
          simp only [hex, cond_true, Option.some.injEq] at hr
          have := exact_cap hR hc hex
          subst this
          exact grow rfl hle' o1 o2 olen hR rfl (by rw [← hr])
        | false =>
        simp only [hex, cond_false] at hr
        cases hcnd : (rw && Nat.ble lim p.block && (lo == (some i.size, some elem))) with
        | false => simp [hcnd] at hr
        | true =>
        simp only [hcnd, cond_true] at hr
        simp only [Bool.and_eq_true, beq_iff_eq] at hcnd
        obtain ⟨⟨rfl, _⟩, rfl⟩ := hcnd
        cases hk : σ.kill lim pv with
        | none => rw [hk] at hr; cases hr
        | some σ1 =>
        rw [hk] at hr
        dsimp only at hr
        obtain ⟨k1, k2, _⟩ := AS.kill_get hk
        have hcommon : ∃ X pv', (v, σ') = (.slice (some ⟨σ.next, 0, none⟩) (sLen + n) (sLen + n), (σ1.put p.block X).push (.cells ((c.drop p.off).take (sLen * i.size) ++ new) true (some i.size, some elem) pv')) ∧
            ((X = some (.cells c false (some i.size, some elem) none) ∧ pv' = some p.block ∧ sLen = sCap) ∨ (X = none ∧ pv' = none)) := by
          cases hq : Nat.beq sLen sCap with
          | true =>
            simp only [hq, cond_true, Option.some.injEq] at hr
            exact ⟨_, _, hr.symm, .inl ⟨rfl, rfl, Nat.eq_of_beq_eq_true hq⟩⟩
          | false =>
            simp only [hq, cond_false, Option.some.injEq] at hr
            exact ⟨_, _, hr.symm, .inr ⟨rfl, rfl⟩⟩
        obtain ⟨X, pv', hvσ, hX⟩ := hcommon
        have hget : ∀ j, (σ1.put p.block X).get j = if j = p.block then X else if pv = some j then none else σ.get j := by
          intro j
          rw [AS.get_put]
          split
          · rfl
          · exact k2 j
        have hweak : R K W0 N0 β (σ1.put p.block X) w := by
          refine hR.weaken fun j y hy => ?_
          rw [hget] at hy
          split at hy
          · rename_i hj; subst hj
            rcases hX with ⟨rfl, _, _⟩ | ⟨rfl, _⟩
            · simp only [Option.some.injEq] at hy
              exact .inr ⟨c, true, (some i.size, some elem), pv, hg, hy.symm⟩
            · cases hy
          · split at hy
            · cases hy
            · exact .inl hy
        by_cases hroom : sLen + n ≤ cap'
        · rcases hc with rfl | ⟨e, sz, esz, real, hb, ht, c1, c2, c3⟩
          · exact absurd hroom hle'
          · obtain ⟨_, e', he', rfl⟩ := hp
            rw [hb] at he'; cases he'
            obtain ⟨C, ty0, fr, hC, hcc, hrw, htl, htt⟩ := hR.cells hb hg
            obtain ⟨hN, hfr⟩ := hrw rfl
            rw [ht] at htl
            simp only [Option.map_some, Option.some.injEq, Prod.mk.injEq] at htl
            obtain ⟨rfl, rfl, rfl⟩ := htl
            have hn1 : new1.toList.length = n * i.size := by rw [← hl1.length, q5]
            have hmul : (sLen + n) * i.size ≤ cap' * i.size := Nat.mul_le_mul_right _ hroom
            rw [Nat.add_mul] at hmul
            have hadd : (⟨e.b, e.o + p.off, none⟩ : Addr).add (sLen * i.size) = ⟨e.b, e.o + p.off + sLen * i.size, none⟩ := by
              unfold Addr.add
              split
              · rename_i h; rw [h]; rfl
              · rfl
            obtain ⟨w', C', e1, e2, e3, e4, e5, e6, e7, e8⟩ := run_storeCells (P := P) new1.toList 0 w e.b (e.o + p.off + sLen * i.size) C ty0 fr hC (by omega) hfr.nf (lRel_oneCell hl1 q4) hN hR.base
            simp only [Prod.mk.injEq] at hvσ
            obtain ⟨rfl, rfl⟩ := hvσ
            have hfn : β σ.next = none := hf _ (Nat.le_refl _) (by simp [k1])
            have hnx : (σ1.put p.block X).next = σ.next := k1
            have R2 := hweak.extend (oty := some elem) (fun T hT => by cases hT; exact (htt _ rfl).1) (pv := pv') (esz := i.size) (on := e.o + p.off) (all := (c.drop p.off).take (sLen * i.size) ++ new) hb (by rw [hnx]; exact hfn) hN hC e2 e3 hfr e6 e7 e8 (fun y hy => by
                rw [hget, if_pos rfl] at hy
                rcases hX with ⟨rfl, rfl, hss⟩ | ⟨rfl, _⟩
                · simp only [Option.some.injEq] at hy
                  refine ⟨c, (some i.size, some elem), hy.symm, fun j hj => e4 _ (.inl ?_), rfl⟩
                  rw [hss]; omega
                · cases hy)
              (fun j hj => by
                by_cases hj1 : j < sLen * i.size
                · have h3 : j < ((c.drop p.off).take (sLen * i.size)).length := by rw [olen]; exact hj1
                  obtain ⟨u, u1, u2⟩ := hcc (p.off + j) (by omega)
                  refine ⟨u, ?_, ?_⟩
                  · rw [e4 _ (.inl (by omega)), show e.o + p.off + j = e.o + (p.off + j) by omega]; exact u1
                  · rw [List.getElem_append_left h3]
                    simpa using u2
                · have h3 : ((c.drop p.off).take (sLen * i.size)).length ≤ j := by rw [olen]; omega
                  simp only [List.length_append, olen] at hj
                  have h4 : j - sLen * i.size < new.length := by omega
                  have h5 := e5 (j - sLen * i.size) (by rw [← hl1.length]; exact h4)
                  refine ⟨new1.toList[j - sLen * i.size]'(by rw [← hl1.length]; exact h4), ?_, ?_⟩
                  · rw [show e.o + p.off + j = e.o + p.off + sLen * i.size + 0 + (j - sLen * i.size) by omega]; exact h5
                  · rw [List.getElem_append_right h3]
                    simp only [olen]
                    exact hl1.get _ h4 _)
              (fun j ej y hj hbj hy heq => by
                rw [hget, if_neg hj] at hy
                split at hy
                · cases hy
                · rename_i hpj
                  exact hpj (hR.excl (Ne.symm hj) hb hbj hg hy rfl heq.symm))
              (hR.zr.own hb hg rfl)
            rw [hnx] at R2
            refine ⟨.slice (some ⟨e.b, e.o + p.off, none⟩) (sLen + n) cap', w', _, ?_, ⟨Inj.le_put hfn _, fun j e2 he2 => ?_⟩, R2, ?_⟩
            · rw [run_append_in h0 h1 hd hi hm hroom hb1]
              dsimp only
              rw [hadd, run_bind', e1]; rfl
            · unfold Inj.put at he2
              dsimp only at he2
              split at he2
              · exact .inr ⟨by omega, by simp [k1]; omega⟩
              · exact .inl he2
            · refine .slice _ ⟨rfl, ⟨e.b, e.o + p.off, some (((c.drop p.off).take (sLen * i.size) ++ new).length, i.size, C.size)⟩, by simp [Inj.put], rfl⟩ (.inr ⟨⟨e.b, e.o + p.off, some (((c.drop p.off).take (sLen * i.size) ++ new).length, i.size, C.size)⟩, ((c.drop p.off).take (sLen * i.size) ++ new).length, i.size, C.size, by simp [Inj.put], rfl, ?_, ?_, by omega⟩)
              · simp only [List.length_append, olen, q5, Nat.add_mul]; omega
              · simp only [Nat.add_zero]; omega
        · exact grow rfl hroom o1 o2 olen hweak k1 hvσ

end Go.Va

/-
  SIMULATION: unsafe.Pointer and back; unsafe.SliceData, unsafe.String.
-/
namespace Go.Va
open Go.RowKit
section
variable {P : Program} {K : FuncId → Code → Prop} {W0 : World} {N0 : Nat}

theorem shape_of_heap {w : World} {b : Nat} {C : Array Value} {ty : TypeId} {fr : Nat × Nat} (h : w.heap[b]? = some (.cells C ty fr)) : w.shape? b = some (ty, C.size) := by
  simp [World.shape?, h]

theorem sim2_ptrConv {β : Inj} {src dst : TypeId} {a a' : Addr} (ha : aRel β a a') : Sim2 P K W0 N0 β (fun σ => ptrConv P src dst a σ) (convert src dst (.pointer (some a'))) := by
  intro σ w v σ' hw hR hr hf
  unfold ptrConv at hr
  obtain ⟨hsp, e, he, rfl⟩ := ha
  dsimp only at hr
  split at hr
  case h_2 => cases hr
  rename_i x hg
  cases hb0 : (a.spot.isNone && ptrOk P src dst a.off x) with
  | false => rw [hb0] at hr; cases hr
  | true =>
  rw [hb0, cond_true] at hr
  cases hr
  simp only [Bool.and_eq_true] at hb0
  have hok := hb0.2
  unfold ptrOk at hok
  split at hok
  case h_2 => cases hok
  rename_i c rw lo pv
  obtain ⟨C, ty, fr, hC, hc, _, htl, htt⟩ := hR.cells he hg
  have hshape := shape_of_heap hC
  split at hok
  · rename_i t hs hd
    split at hok
    case h_2 => cases hok
    rename_i j hj
    simp only [Bool.and_eq_true, Bool.not_eq_true'] at hok
    have h1 : j.size ≠ 0 := Nat.ne_of_beq_eq_false hok.1
    have h2 : a.off < c.length := blt_iff.1 hok.2
    obtain ⟨u, hu, _⟩ := hc a.off h2
    have h3 : e.o + a.off < C.size := (Array.getElem?_eq_some_iff.1 hu).1
    exact ⟨_, w, β, Lib.run_to_unsafe w ⟨e.b, e.o + a.off, none⟩ hs hd hj h1 hshape h3, .refl _ _, hR, .ptr ⟨hsp, e, he, rfl⟩⟩
  · rename_i u hs hd
    split at hok
    case h_2 => cases hok
    rename_i T
    simp only [Bool.and_eq_true] at hok
    obtain ⟨⟨h1, h2⟩, h3⟩ := hok
    have h1 : a.off = 0 := Nat.eq_of_beq_eq_true h1
    obtain ⟨j, hj⟩ := Option.isSome_iff_exists.1 h2
    obtain ⟨rfl, h4⟩ := htt T rfl
    obtain ⟨h5, h6⟩ := h4 rfl
    refine ⟨_, w, β, Lib.run_from_unsafe w ⟨e.b, e.o + a.off, none⟩ hs hd hj hshape ?_, .refl _ _, hR, .ptr ⟨hsp, e, he, rfl⟩⟩
    rw [h5, h1, h6]
    exact h3
  · cases hok

theorem one_arg {β : Inj} {x : Value} {args' : Array Value} (ha : lRel β [x] args'.toList) : ∃ x', args' = #[x'] ∧ vRel β x x' := by
  cases h : args'.toList with
  | nil => rw [h] at ha; exact ha.elim
  | cons y l =>
    rw [h] at ha
    cases l with
    | nil => exact ⟨y, by rw [← Array.toList_inj, h], ha.1⟩
    | cons _ _ => exact ha.2.elim
theorem two_args {β : Inj} {x y : Value} {args' : Array Value} (ha : lRel β [x, y] args'.toList) : ∃ x' y', args' = #[x', y'] ∧ vRel β x x' ∧ vRel β y y' := by
  cases h : args'.toList with
  | nil => rw [h] at ha; exact ha.elim
  | cons u l =>
    rw [h] at ha
    cases l with
    | nil => exact ha.2.elim
    | cons v m =>
      cases m with
      | nil => exact ⟨u, v, by rw [← Array.toList_inj, h], ha.1, ha.2.1⟩
      | cons _ _ => exact ha.2.2.elim

theorem sim2_data {β : Inj} {argTypes : Array TypeId} {ty : TypeId} {args : List Value} {args' : Array Value} (ha : lRel β args args'.toList) :
    Sim2 P K W0 N0 β (fun σ => dataA args σ) (Builtin.unsafeSliceData_ argTypes ty args') := by
  intro σ w v σ' hw hR hr hf
  unfold dataA at hr
  dsimp only at hr
  split at hr
  · cases hr
    obtain ⟨x', rfl, hx⟩ := one_arg ha
    cases hx
    exact ⟨_, w, β, rfl, .refl _ _, hR, .ptrNone⟩
  · rename_i a l c
    obtain ⟨x', rfl, hx⟩ := one_arg ha
    cases hb : (a.spot.isNone && !(Nat.beq c 0)) with
    | false => rw [hb] at hr; cases hr
    | true =>
      rw [hb, cond_true] at hr
      cases hr
      simp only [Bool.and_eq_true, Bool.not_eq_true', Option.isNone_iff_eq_none] at hb
      have h1 : c ≠ 0 := Nat.ne_of_beq_eq_false hb.2
      cases hx with
      | @slice _ a' _ c' _ h hc =>
        have h2 : c' ≠ 0 := by
          rcases hc with rfl | ⟨_, _, _, _, _, _, _, _, h3⟩
          · exact h1
          · omega
        exact ⟨_, w, β, Lib.run_unsafeSliceData_row w _ _ a' _ c' h2, .refl _ _, hR, .ptr h⟩
      | void a' c' h => rw [hb.1] at h; cases h
  · cases hr

theorem liesAt_bytes' {e : TypeId} (hc : P.cellsOf e = 1) (count off n : Nat) (hn : off + n ≤ count) : liesAt P P.depth e count off e n = true := by
  have hd : P.depth = (2 * (P.types.size + Made.depth) + 1) + 1 := rfl
  rw [hd]
  simp only [liesAt, Bool.or_eq_true]
  left
  rw [hd]
  simp [rowAt, hc, hn, sameLayout, Nat.mod_one]

theorem addr_add {b o i : Nat} : (⟨b, o, none⟩ : Addr).add i = ⟨b, o + i, none⟩ := by
  unfold Addr.add
  split
  · rename_i h; rw [h]; rfl
  · rfl

theorem run_loadBytes' {w : World} : ∀ (l : List UInt8) (vs : List Value) (b o : Nat) (acc : ByteArray), bytesOf vs = some l → (∀ j (h : j < vs.length), w.cell? ⟨b, o + j, none⟩ = some vs[j]) →
    (loadBytes ⟨b, o, none⟩ acc l.length).run P w = .ok ⟨acc.data ++ l.toArray⟩ w
  | l, [], b, o, acc, h, _ => by
    simp only [bytesOf, Option.some.injEq] at h
    subst h
    simp [loadBytes]
  | l, v :: vs, b, o, acc, h, hc => by
    unfold bytesOf at h
    split at h
    · cases ‹v :: vs = []›
    · rename_i x l' heq
      cases heq
      split at h
      · rename_i r hr
        cases h
        have h0 : w.cell? ⟨b, o, none⟩ = some (.int .u8 x) := hc 0 (by simp)
        have ih := run_loadBytes' r vs b (o + 1) (acc.push x.toNat.toUInt8) hr (fun j hj => by
          have := hc (j + 1) (by simpa using hj)
          rw [show o + 1 + j = o + (j + 1) by omega]; simpa using this)
        simp only [List.length_cons, loadBytes, Sem.run_bind, run_load, h0, Result.andThen, addr_add]
        rw [ih]
        congr 1
        apply ByteArray.ext
        simp [ByteArray.push]
      · cases h
    · cases h

theorem bytesOf_length : ∀ {vs : List Value} {l : List UInt8}, bytesOf vs = some l → l.length = vs.length
  | [], l, h => by simp only [bytesOf, Option.some.injEq] at h; subst h; rfl
  | v :: vs, l, h => by
    unfold bytesOf at h
    split at h
    · cases ‹v :: vs = []›
    · rename_i x l' heq
      cases heq
      split at h
      · rename_i r hr
        cases h
        simp [bytesOf_length hr]
      · cases h
    · cases h

theorem bytesOf_rel {β : Inj} : ∀ {vs : List Value} {l : List UInt8} {us : List Value}, bytesOf vs = some l → lRel β vs us → us = vs
  | [], l, us, h, hr => by cases us with
    | nil => rfl
    | cons _ _ => exact hr.elim
  | v :: vs, l, us, h, hr => by
    cases us with
    | nil => exact hr.elim
    | cons u us =>
      unfold bytesOf at h
      split at h
      · cases ‹v :: vs = []›
      · rename_i x l' heq
        cases heq
        split at h
        · rename_i r hr'
          have := bytesOf_rel hr' hr.2
          subst this
          have h1 := hr.1
          cases h1
          rfl
        · cases h
      · cases h

/-- Cells are frozen: of rows that are no longer written. -/
theorem R.freeze {β : Inj} {σ : AS} {w : World} (hR : R K W0 N0 β σ w) {e : Ent} (hN : N0 ≤ e.b) (o n : Nat) (h : ∀ id e' c lo pv, β id = some e' → σ.get id = some (.cells c true lo pv) → e'.b ≠ e.b)
    (ho : ∀ id e' x, β id = some e' → σ.get id = some (.obj x) → e'.b ≠ e.b) (hzn : ∀ j, β.z e.b j = none) : R K W0 N0 β σ (w.freeze ⟨e.b, o, none⟩ n) := by
  by_cases hn : n = 0
  · unfold World.freeze; rw [if_pos hn]; exact hR
  have heap : ∀ r, (w.freeze ⟨e.b, o, none⟩ n).heap[r]? = if e.b = r then (w.heap[r]?).map (fun | .cells c elem (lo, hi) => .cells c elem (if lo == hi then (o, o + n) else (min lo o, max hi (o + n))) | x => x) else w.heap[r]? := by
    intro r
    unfold World.freeze
    rw [if_neg hn]
    simp only [Array.getElem?_modify]
    by_cases hr : e.b = r
    · rw [if_pos hr, if_pos hr]
      cases w.heap[r]? with
      | none => rfl
      | some x => cases x <;> rfl
    · rw [if_neg hr, if_neg hr]
  have size : (w.freeze ⟨e.b, o, none⟩ n).heap.size = w.heap.size := by
    unfold World.freeze; rw [if_neg hn]; simp
  constructor
  · intro id e' c rw' lo pv hb hg
    obtain ⟨C, ty, fr, k1, k2, k3, k4⟩ := hR.cells hb hg
    by_cases heq : e.b = e'.b
    · refine ⟨C, ty, _, by rw [heap, if_pos heq, k1]; rfl, k2, fun hrw => ?_, k4⟩
      subst hrw
      exact absurd heq.symm (h id e' c lo pv hb hg)
    · exact ⟨C, ty, fr, by rw [heap, if_neg heq]; exact k1, k2, k3, k4⟩
  · intro id e' x hb hg
    obtain ⟨k1, k2, o', k3, k4⟩ := hR.obj hb hg
    exact ⟨k1, k2, o', by rw [heap, if_neg (Ne.symm (ho id e' x hb hg))]; exact k3, k4⟩
  · exact hR.excl
  · intro id e' hb; rw [size]; exact hR.lt hb
  · exact Lib.below_freeze hR.base hN n
  · rw [size]; exact hR.top
  · exact hR.code
  · refine hR.zr.keep rfl rfl (fun b j c hc => ?_) (by rw [size]; exact Nat.le_refl _) (fun _ _ _ hb hg hx => .inl ⟨_, _, _, hb, hg, hx, fun h => h, rfl⟩) fun _ _ _ _ _ hb hg => ⟨hb, hg⟩
    rw [heap, if_neg]
    rintro rfl; rw [hzn] at hc; cases hc

theorem sim2_ustr {β : Inj} {lim : Nat} {argTypes : Array TypeId} {ty : TypeId} {args : List Value} {args' : Array Value} (ha : lRel β args args'.toList) :
    Sim2 P K W0 N0 β (fun σ => ustrA P lim argTypes args σ) (Builtin.unsafeString_ argTypes ty args') := by
  intro σ w v σ' hw hR hr hf
  unfold ustrA at hr
  dsimp only at hr
  split at hr
  case h_2 => cases hr
  rename_i p k n
  obtain ⟨x', y', rfl, hx, hy⟩ := two_args ha
  cases hy
  obtain ⟨p', rfl⟩ : ∃ p', x' = .pointer p' := by cases hx <;> exact ⟨_, rfl⟩
  split at hr
  case h_2 => cases hr
  rename_i pt hpt
  have hmax : IntKind.i64.max = 9223372036854775807 := rfl
  have hdef : Builtin.unsafeString_ argTypes ty #[.pointer p', .int k n] =
      (do
        let n ← asInt (.int k n)
        let some pt := argTypes[0]? | stuck "unsafe.String: no argument types"
        if n < 0 then runtimePanic (.error "unsafe.String: len out of range")
        if n > IntKind.i64.max then unsupported (.unsafePointer "String: a length above the largest int")
        match p' with
        | none =>
          if n = 0 then pure (.string .empty)
          else runtimePanic (.error "unsafe.String: ptr is nil and len is not zero")
        | some a =>
          if n = 0 then pure (.string .empty)
          else if ← variablesAt a (← elemOf pt) n.toNat then do
            let s ← loadBytes a .empty n.toNat
            freeze a n.toNat
            pure (.string s)
          else unsupported (.unsafePointer "String: not so many bytes at ptr")) := rfl
  cases hz : decide (n = 0) with
  | true =>
    rw [hz, cond_true] at hr
    cases hr
    have h0 : n = 0 := of_decide_eq_true hz
    subst h0
    refine ⟨.string .empty, w, β, ?_, .refl _ _, hR, .string _⟩
    rw [hdef, hpt]
    cases p' <;> simp [asInt, asIntOf, hmax]
  | false =>
    rw [hz, cond_false] at hr
    have h0 : n ≠ 0 := of_decide_eq_false hz
    split at hr
    case h_2 => cases hr
    rename_i e0 a hpe
    cases hx with
    | @ptr _ a' haa =>
    obtain ⟨hsp, e, he, rfl⟩ := haa
    split at hr
    case h_2 => cases hr
    rename_i c lo pv _ hg
    cases hcnd : (lo.2 == some e0 && Nat.beq (P.cellsOf e0) 1 && decide (0 ≤ n) && Nat.ble (a.off + n.toNat) c.length && Nat.ble n.toNat 1099511627776 && Nat.ble lim a.block) with
    | false => rw [hcnd] at hr; cases hr
    | true =>
    rw [hcnd, cond_true] at hr
    simp only [Bool.and_eq_true, beq_iff_eq, decide_eq_true_eq] at hcnd
    obtain ⟨⟨⟨⟨⟨c1, c2⟩, c3⟩, c4⟩, c5⟩, _⟩ := hcnd
    have c2 : P.cellsOf e0 = 1 := Nat.eq_of_beq_eq_true c2
    have c4 : a.off + n.toNat ≤ c.length := Nat.ble_eq ▸ c4
    have c5 : n.toNat ≤ 1099511627776 := Nat.ble_eq ▸ c5
    split at hr
    case h_2 => cases hr
    rename_i s σ1 hs hk
    cases hr
    obtain ⟨C, tyC, fr, hC, hc, hrw, htl, htt⟩ := hR.cells he hg
    obtain ⟨hN, hfr⟩ := hrw rfl
    obtain ⟨rfl, _⟩ := htt e0 c1
    have hlen : s.length = n.toNat := by
      rw [bytesOf_length hs]; simp; omega
    have hcell : ∀ j (h : j < ((c.drop a.off).take n.toNat).length), w.cell? ⟨e.b, e.o + a.off + j, none⟩ = some ((c.drop a.off).take n.toNat)[j] := by
      intro j hj
      have hj' : j < n.toNat := by simp at hj; omega
      obtain ⟨u, hu, hur⟩ := hc (a.off + j) (by omega)
      rw [cell?_of_heap hC, Nat.add_assoc, hu]
      have hmem : ((c.drop a.off).take n.toNat)[j] = c[a.off + j] := by simp
      rw [hmem]
      have hb : ∃ x, c[a.off + j] = .int .u8 x := by
        have : ∀ {vs : List Value} {l : List UInt8}, bytesOf vs = some l → ∀ v ∈ vs, ∃ x, v = .int .u8 x := by
          intro vs
          induction vs with
          | nil => intro l _ v hv; cases hv
          | cons z zs ih =>
            intro l hl v hv
            unfold bytesOf at hl
            split at hl
            · cases ‹z :: zs = []›
            · rename_i x l' heq
              cases heq
              split at hl
              · rename_i r hr'
                rcases List.mem_cons.1 hv with rfl | hv
                · exact ⟨_, rfl⟩
                · exact ih hr' v hv
              · cases hl
            · cases hl
        exact this hs _ (by rw [← hmem]; exact List.getElem_mem hj)
      obtain ⟨x, hx⟩ := hb
      rw [hx] at hur ⊢
      cases hur
      rfl
    have hlies := liesAt_bytes' (P := P) c2 (C.size / P.cellsOf tyC) (e.o + a.off) n.toNat (by
      rw [c2, Nat.div_one]
      have hlast : a.off + n.toNat - 1 < c.length := by omega
      obtain ⟨u, hu, _⟩ := hc (a.off + n.toNat - 1) hlast
      have := (Array.getElem?_eq_some_iff.1 hu).1
      have hpos : 0 < n.toNat := by omega
      omega)
    have hload := run_loadBytes' (P := P) (w := w) s _ e.b (e.o + a.off) .empty hs hcell
    rw [hlen] at hload
    have hshape := shape_of_heap hC
    have hneg : ¬ n < 0 := by omega
    have hbig : ¬ (9223372036854775807 : Int) < n := by omega
    obtain ⟨k1, k2, k3⟩ := AS.kill_get hk
    have hget : ∀ j, (σ1.put a.block (some (.cells c false lo none))).get j = if j = a.block then some (.cells c false lo none) else if pv = some j then none else σ.get j := by
      intro j
      rw [AS.get_put]
      split
      · rfl
      · exact k2 j
    have hweak : R K W0 N0 β (σ1.put a.block (some (.cells c false lo none))) w := by
      refine hR.weaken fun j y hy => ?_
      rw [hget] at hy
      split at hy
      · rename_i hj; subst hj
        simp only [Option.some.injEq] at hy
        exact .inr ⟨c, true, lo, pv, hg, hy.symm⟩
      · split at hy
        · cases hy
        · exact .inl hy
    have hother : ∀ id e' y, β id = some e' → (σ1.put a.block (some (.cells c false lo none))).get id = some y → id ≠ a.block → e'.b ≠ e.b := by
      intro id e' y hb hy hid heq
      rw [hget, if_neg hid] at hy
      split at hy
      · cases hy
      · rename_i hp
        exact hp (hR.excl (Ne.symm hid) he hb hg hy rfl heq.symm)
    refine ⟨.string ⟨s.toArray⟩, w.freeze ⟨e.b, e.o + a.off, none⟩ n.toNat, β, ?_, ⟨.refl _, fun i e' h => .inl h⟩, hweak.freeze hN (e.o + a.off) n.toNat (fun id e' c' lo' pv' hb hy => ?_) (fun id e' x hb hy => ?_) (hR.zr.own he hg rfl), .string _⟩
    · rw [hdef, hpt]
      simp [asInt, asIntOf, hmax, hbig, hneg, h0, variablesAt, hshape, elemOf, run_underlying hpe, hlies, hload]
    · by_cases hid : id = a.block
      · subst hid; rw [hget, if_pos rfl] at hy; cases hy
      · exact hother id e' _ hb hy hid
    · by_cases hid : id = a.block
      · subst hid; rw [hget, if_pos rfl] at hy; cases hy
      · exact hother id e' _ hb hy hid
end
end Go.Va

/-
  SIMULATION: strings to slices; cap; then an operation of any kind.
-/
namespace Go.Va
open Go.RowKit
variable {P : Program} {K : FuncId → Code → Prop} {W0 : World} {N0 : Nat}

theorem modify_push (xs : Array Obj) (a : Obj) (f : Obj → Obj) : (xs.push a).modify xs.size f = xs.push (f a) := by
  apply Array.ext_getElem?
  intro i
  rw [Array.getElem?_modify, Array.getElem?_push, Array.getElem?_push]
  by_cases h : xs.size = i
  · subst h; simp
  · rw [if_neg h, if_neg (Ne.symm h), if_neg (Ne.symm h)]

/-- A new row with room behind its end. -/
theorem R.pushLoose {β : Inj} {σ : AS} {w : World} (hR : R K W0 N0 β σ w) (hf : β σ.next = none) {c : List Value} {C : Array Value} {ty : TypeId} {fr : Nat × Nat} {cap : Nat}
    (hc : ∀ i (_ : i < c.length), ∃ v', C[i]? = some v' ∧ vRel β c[i] v') (hfr : FrOk fr C.size) (hcap : C.size = cap) (hle : c.length ≤ cap) :
    ∃ β', β.le β' ∧ (∀ i e, β' i = some e → β i = some e ∨ i = σ.next) ∧ R K W0 N0 β' (σ.push (.cells c true (some 1, some ty) none)) { drawn1 w with heap := w.heap.push (.cells C ty fr) } ∧
      vRel β' (.slice (some ⟨σ.next, 0, none⟩) c.length c.length) (.slice (some ⟨w.heap.size, 0, none⟩) c.length cap) := by
  have hR1 := hR.drawn (w.drawn + 1)
  obtain ⟨R2, hle2⟩ := hR1.push (x := .cells c true (some 1, some ty) none) (o' := .cells C ty fr) (e := ⟨w.heap.size, 0, some (c.length, 1, cap)⟩) hf rfl
    ⟨C, ty, fr, rfl, fun i hi => by simpa using hc i hi, fun _ => hfr, by rw [hcap]; rfl, fun T hT => by cases hT; exact ⟨rfl, fun h => by cases h⟩⟩
  refine ⟨_, hle2, fun i e he => ?_, R2, ?_⟩
  · unfold Inj.put at he
    dsimp only at he
    split at he
    · rename_i h; exact .inr h
    · exact .inl he
  · refine .slice _ ⟨rfl, ⟨w.heap.size, 0, some (c.length, 1, cap)⟩, Inj.put_self .., rfl⟩ (.inr ⟨⟨w.heap.size, 0, some (c.length, 1, cap)⟩, c.length, 1, cap, Inj.put_self .., rfl, by simp, by simp, hle⟩)

theorem run_mark (h : Array Obj) (C : Array Value) (e : TypeId) (w : World) {n : Nat} (hC : C.size = n) :
    (markStringish ⟨h.size, 0, none⟩).run P { w with heap := h.push (.cells C e) } = .ok () { w with heap := h.push (.cells C e (n, n + 1)) } := by
  subst hC
  have h1 : (World.shape? { w with heap := h.push (.cells C e) } h.size) = some (e, C.size) := by
    simp [World.shape?]
  unfold markStringish
  rw [run_bind']
  have r1 : (shape h.size).run P { w with heap := h.push (.cells C e) } = .ok (some (e, C.size)) { w with heap := h.push (.cells C e) } := by
    show (Sem.shape h.size .pure).run P _ = _
    simp only [Sem.run, h1]
  rw [r1]
  dsimp only
  show (Sem.freeze ⟨h.size, C.size, none⟩ 1 (.pure ())).run P _ = _
  simp only [Sem.run, World.freeze, Nat.one_ne_zero, if_false, modify_push]
  rfl

theorem sim2_conv {β : Inj} {lim : Nat} {src dst : TypeId} {x x' : Value} (hx : vRel β x x') (hns : ∀ a l c, x = .slice (some a) l c → sameT P src dst = false) : Sim2 P K W0 N0 β (fun σ => convA P lim src dst x σ) (convert src dst x') := by
  by_cases hp : ∃ a, x = .pointer (some a)
  · obtain ⟨a, rfl⟩ := hp
    cases hx with
    | ptr ha => exact sim2_ptrConv ha
  by_cases hs : ∃ s, x = .string s
  case neg =>
    intro σ w v σ' hw hR hr hf
    have hr' : (bif convOk P src dst x then runA P lim (convert src dst x) σ else none) = some (v, σ') := by
      by_cases hsl : ∃ a l c, x = .slice (some a) l c
      · obtain ⟨a, l, c, rfl⟩ := hsl
        simp only [convA, hns _ _ _ rfl, cond_false] at hr
        exact hr
      · cases x <;> first | exact hr | exact absurd ⟨_, rfl⟩ hs | (rename_i o; cases o <;> first | exact hr | exact absurd ⟨_, rfl⟩ hp) | (rename_i o l c; cases o <;> first | exact hr | exact absurd ⟨_, _, _, rfl⟩ hsl)
    cases ho : convOk P src dst x with
    | false => rw [ho] at hr'; cases hr'
    | true =>
      rw [ho] at hr'
      exact sim_convert hx ho lim σ w v σ' hw hR hr' hf
  case pos =>
    obtain ⟨s, rfl⟩ := hs
    cases hx
    intro σ w v σ' hw hR hr hf
    simp only [convA] at hr
    have gen : (bif convOk P src dst (.string s) then runA P lim (convert src dst (.string s)) σ else none) = some (v, σ') →
        ∃ v' w' β', (convert src dst (.string s)).run P w = .ok v' w' ∧ Ext β β' σ σ' ∧ R K W0 N0 β' σ' w' ∧ vRel β' v v' := by
      intro hr'
      cases ho : convOk P src dst (.string s) with
      | false => rw [ho] at hr'; cases hr'
      | true =>
        rw [ho] at hr'
        exact sim_convert (.string s) ho lim σ w v σ' hw hR hr' hf
    split at hr
    · rename_i e hd1 hd2
      have r1 := run_underlying' src w _ hd1
      have r2 := run_underlying' dst w _ hd2
      split at hr
      · rename_i hd3
        have r3 := run_underlying' e w _ hd3
        simp only [Option.some.injEq, Prod.mk.injEq] at hr
        obtain ⟨rfl, rfl⟩ := hr
        have hfn : β σ.next = none := hf _ (Nat.le_refl _) (by simp)
        have hlen : (s.data.toList.map fun b => Value.int .u8 (b.toNat : Int)).length = s.size := by rw [List.length_map, Array.length_toList]; rfl
        have hq : ∃ cap, s.size ≤ cap ∧ (convert src dst (.string s)).run P w = .ok (.slice (some ⟨w.heap.size, 0, none⟩) s.size cap)
            { drawn1 w with heap := w.heap.push (.cells ((s.data.map fun b => Value.int .u8 (b.toNat : Int)) ++ Array.replicate (cap - s.size) (.int .u8 0)) e (cap, cap + 1)) } := by
          refine ⟨s.size + w.tape w.drawn (.appendCap s.size 0 e) % (2 ^ 63 - s.size), by omega, ?_⟩
          unfold convert
          rw [run_bind', r1]
          dsimp only
          rw [run_bind', r2]
          dsimp only
          rw [run_bind', r3]
          dsimp only
          unfold Conv.stringToBytes
          rw [run_bind']
          have rc : (choose (.appendCap s.size 0 e)).run P w = .ok (s.size + w.tape w.drawn (.appendCap s.size 0 e) % (2 ^ 63 - s.size)) (drawn1 w) := rfl
          rw [rc]
          have hcp : s.size ≤ s.size + w.tape w.drawn (.appendCap s.size 0 e) % (2 ^ 63 - s.size) := by omega
          generalize s.size + w.tape w.drawn (.appendCap s.size 0 e) % (2 ^ 63 - s.size) = cap at hcp
          dsimp only
          rw [run_bind']
          have rn : (newRow e ((s.data.map fun b => Value.int .u8 (b.toNat : Int)) ++ Array.replicate (cap - s.size) (.int .u8 0))).run P (drawn1 w) =
            .ok ⟨w.heap.size, 0, none⟩ { drawn1 w with heap := w.heap.push (.cells ((s.data.map fun b => Value.int .u8 (b.toNat : Int)) ++ Array.replicate (cap - s.size) (.int .u8 0)) e) } := rfl
          rw [rn]
          dsimp only
          rw [run_bind', run_mark (n := cap) w.heap _ e (drawn1 w) (by
            rw [Array.size_append, Array.size_map, Array.size_replicate]
            show s.size + (cap - s.size) = cap
            omega)]
          rfl
        obtain ⟨cap, c1, c2⟩ := hq
        obtain ⟨β', b1, b2, b3, b4⟩ := hR.pushLoose hfn (c := s.data.toList.map fun b => Value.int .u8 (b.toNat : Int)) (C := (s.data.map fun b => Value.int .u8 (b.toNat : Int)) ++ Array.replicate (cap - s.size) (.int .u8 0)) (ty := e) (fr := (cap, cap + 1)) (cap := cap)
          (fun j hj => by
            refine ⟨_, ?_, plain_rel 1 _ (by simp [plainB])⟩
            have hj' : j < (s.data.map fun b => Value.int .u8 (b.toNat : Int)).size := by rw [Array.size_map]; rw [List.length_map, Array.length_toList] at hj; exact hj
            rw [Array.getElem?_append_left hj', Array.getElem?_eq_getElem hj']
            simp)
          (.inr (by
            rw [Array.size_append, Array.size_map, Array.size_replicate]
            have : s.data.size = s.size := rfl
            dsimp only
            omega))
          (by
            rw [Array.size_append, Array.size_map, Array.size_replicate]
            show s.size + (cap - s.size) = cap
            omega) (by rw [hlen]; exact c1)
        rw [hlen] at b4
        refine ⟨_, _, β', c2, ⟨b1, fun j e2 he2 => ?_⟩, b3, b4⟩
        rcases b2 j e2 he2 with h | rfl
        · exact .inl h
        · exact .inr ⟨Nat.le_refl _, by simp⟩
      · rename_i hd3
        have r3 := run_underlying' e w _ hd3
        simp only [Option.some.injEq, Prod.mk.injEq] at hr
        obtain ⟨rfl, rfl⟩ := hr
        have hfn : β σ.next = none := hf _ (Nat.le_refl _) (by simp)
        have hpl : ∀ (b i : Nat) (acc : Array Value), (∀ k (h : k < acc.size), plainB 1 acc[k] = true) → ∀ k (h : k < (Conv.runesFrom s b i acc).size), plainB 1 (Conv.runesFrom s b i acc)[k] = true := by
          intro b
          induction b with
          | zero => intro i acc h k hk; exact h k hk
          | succ b ih =>
            intro i acc h
            unfold Conv.runesFrom
            split
            · refine ih _ _ fun k hk => ?_
              rw [Array.getElem_push]
              split
              · exact h k _
              · rfl
            · exact h
        generalize hel : Conv.runesFrom s s.size 0 #[] = el at *
        have hel1 : ∀ k (h : k < el.size), plainB 1 el[k] = true := by
          rw [← hel]
          exact hpl _ _ _ fun k h => by simp at h
        have hq : ∃ cap, el.size ≤ cap ∧ (convert src dst (.string s)).run P w = .ok (.slice (some ⟨w.heap.size, 0, none⟩) el.size cap)
            { drawn1 w with heap := w.heap.push (.cells (el ++ Array.replicate (cap - el.size) (.int .i32 0)) e) } := by
          refine ⟨el.size + w.tape w.drawn (.appendCap el.size 0 e) % (2 ^ 63 - el.size), by omega, ?_⟩
          unfold convert
          rw [run_bind', r1]
          dsimp only
          rw [run_bind', r2]
          dsimp only
          rw [run_bind', r3]
          dsimp only
          unfold Conv.stringToRunes
          rw [hel]
          rfl
        obtain ⟨cap, c1, c2⟩ := hq
        have hsz : (el ++ Array.replicate (cap - el.size) (Value.int .i32 0)).size = cap := by
          rw [Array.size_append, Array.size_replicate]; omega
        obtain ⟨β', b1, b2, b3, b4⟩ := hR.pushLoose hfn (c := el.toList) (C := el ++ Array.replicate (cap - el.size) (.int .i32 0)) (ty := e) (fr := (0, 0)) (cap := cap)
          (fun j hj => by
            rw [Array.length_toList] at hj
            refine ⟨el[j], ?_, ?_⟩
            · rw [Array.getElem?_append_left hj, Array.getElem?_eq_getElem hj]
            · rw [Array.getElem_toList]; exact plain_rel 1 _ (hel1 j hj))
          FrOk.zero hsz (by rw [Array.length_toList]; exact c1)
        rw [Array.length_toList] at b4
        refine ⟨_, _, β', c2, ⟨b1, fun j e2 he2 => ?_⟩, b3, by rw [Array.length_toList]; exact b4⟩
        rcases b2 j e2 he2 with h | rfl
        · exact .inl h
        · exact .inr ⟨Nat.le_refl _, by simp⟩
      · cases hr
    · exact gen hr

end Go.Va

/-
  SIMULATION: an operation of any kind that calls nothing.
-/
namespace Go.Va
open Go.RowKit
variable {P : Program} {K : FuncId → Code → Prop} {W0 : World} {N0 : Nat}

def nRel (β : Inj) : Next → Next → Prop
  | .value v, n' => ∃ v', n' = .value v' ∧ vRel β v v'
  | .skip, n' => n' = .skip
  | _, _ => False

theorem simVal {β : Inj} {s s' : Sem Value} (h : Sim P K W0 N0 β s s' vRel) : Sim P K W0 N0 β (do pure (Next.value (← s))) (do pure (Next.value (← s'))) nRel :=
  h.bind fun _ _ v' _ hv => .ret ⟨v', rfl, hv⟩
theorem simVal0 {β : Inj} {s s' : Sem Value} (h : Sim P K W0 N0 β s s' (fun β' v v' => β' = β ∧ vRel β v v')) : Sim P K W0 N0 β (do pure (Next.value (← s))) (do pure (Next.value (← s'))) nRel :=
  Sim.bind0 h fun _ v' hv => .ret ⟨v', rfl, hv⟩
theorem simUnit {β : Inj} {s s' : Sem Unit} (h : Sim P K W0 N0 β s s' (fun β' _ _ => β' = β)) : Sim P K W0 N0 β (do s; pure Next.skip) (do s'; pure Next.skip) nRel :=
  h.bind fun _ _ _ _ _ => .ret (A := nRel) (v := Next.skip) (v' := Next.skip) rfl

theorem psRel_map {β : Inj} {ρ ρ' : Operand → Value} : ∀ {l : List (Nat × Operand)}, (∀ x ∈ l.map (·.2), vRel β (ρ x) (ρ' x)) → psRel β (l.map fun (i, x) => (i, ρ x)) (l.map fun (i, x) => (i, ρ' x))
  | [], _ => trivial
  | (i, x) :: l, h => ⟨rfl, h x (by simp), psRel_map fun y hy => h y (by simp only [List.map_cons, List.mem_cons]; exact .inr hy)⟩

theorem arrRel_mapO {β : Inj} {ρ ρ' : Operand → Value} {xs : Array Operand} (h : ∀ x ∈ xs, vRel β (ρ x) (ρ' x)) : arrRel β (xs.map ρ) (xs.map ρ') :=
  ⟨by simp, fun i hi hi' => by simp only [Array.getElem_map]; exact h _ (by simp)⟩

theorem ovRel_map {β : Inj} {ρ ρ' : Operand → Value} {o : Option Operand} (h : ∀ x, o = some x → vRel β (ρ x) (ρ' x)) : ovRel β (o.map ρ) (o.map ρ') := by
  cases o with
  | none => trivial
  | some x => exact h x rfl

theorem sim_execOp {β : Inj} (hZ : ZeroOk P) {ρ ρ' : Operand → Value} {o : Oper} (hρ : ∀ x ∈ o.op.operands, vRel β (ρ x) (ρ' x)) (hfn : ∀ fn f c, o.op = .makeFunc fn f c → ∀ l, fn ≠ .yield l) (hx : ∀ x i, o.op = .extract x i → asL (ρ x) = none ∧ asP (ρ x) = none) (hg : generic P o.op = true) :
    Sim P K W0 N0 β (execOp ρ o) (execOp ρ' o) nRel := by
  obtain ⟨dst, op, type, pos, after, guard⟩ := o
  cases op <;> simp only [Op.operands] at hρ <;> (try (simp only [generic] at hg; done)) <;> simp only [execOp]
  case move x => exact .ret ⟨_, rfl, hρ x (by simp)⟩
  case assign x => exact .ret ⟨_, rfl, hρ x (by simp)⟩
  case pick c a b =>
    refine Sim.bindEq (sim_asBool (hρ c (by simp))) fun b' => .ret ⟨_, rfl, ?_⟩
    cases b' with
    | true => exact hρ a (by simp)
    | false => exact hρ b (by simp)
  case alloc e => exact simVal (sim_alloc hZ e)
  case box e x => exact simVal (sim_box (hρ x (by simp)) e)
  case build t ps =>
    refine simVal (sim_build hZ ?_)
    simp only [Array.toList_map]
    exact psRel_map fun x hx => hρ x (by simpa using hx)
  case buildSlice t n ps =>
    refine simVal (sim_buildSlice hZ ?_)
    simp only [Array.toList_map]
    exact psRel_map fun x hx => hρ x (by simpa using hx)
  case insert t m k v => exact simUnit (sim_mapUpdate (hρ m (by simp)) (hρ k (by simp)) (hρ v (by simp)) hg)
  case load t a => exact simVal0 (sim_loadAt (hρ a (by simp)) t)
  case store t a v => exact simUnit (sim_storeAt (hρ a (by simp)) (hρ v (by simp)) t)
  case makeInterface t x => exact simVal (sim_makeInterface (hρ x (by simp)) t)
  case makeFunc fn f c =>
    have h1 := arrRel_mapO (β := β) (ρ := ρ) (ρ' := ρ') (xs := f) fun x hx => hρ x (by simp [hx])
    have h2 := arrRel_mapO (β := β) (ρ := ρ) (ρ' := ρ') (xs := c) fun x hx => hρ x (by simp [hx])
    refine simVal (s := Instr.makeFunc _ _ _) (s' := Instr.makeFunc _ _ _) (.ret (vRel.func ?_ h1.1 h1.2 h2.1 h2.2))
    cases fn with
    | func f => rfl
    | _ => cases hg
  case makeMap t r =>
    refine simVal (sim_makeMap (fun v hv => ?_) fun h => ?_)
    · cases r with
      | none => cases hv
      | some x => simp only [Option.map_some, Option.some.injEq] at hv; subst hv; exact ⟨_, rfl, hρ x (by simp)⟩
    · cases r with
      | none => rfl
      | some x => cases h
  case makeSlice t l c => exact simVal (sim_makeSlice hZ (hρ l (by simp)) (hρ c (by simp)))
  case fieldAddr t x f => exact simVal (sim_fieldAt (hρ x (by simp)) t f)
  case field t x f => exact simVal (sim_field (hρ x (by simp)) t f)
  case indexAddr t x i => exact simVal (sim_indexAt (hρ x (by simp)) (hρ i (by simp)) t)
  case index t x i => exact simVal (sim_index (hρ x (by simp)) (hρ i (by simp)) t)
  case lookup t x i ok => exact simVal (sim_lookup hZ (hρ x (by simp)) (hρ i (by simp)) hg ok)
  case mapUpdate t m k v => exact simUnit (sim_mapUpdate (hρ m (by simp)) (hρ k (by simp)) (hρ v (by simp)) hg)
  case range t x => exact simVal (sim_range (hρ x (by simp)))
  case next x b => exact simVal (sim_next (hρ x (by simp)))
  case entry x => exact simVal (sim_entry (hρ x (by simp)))
  case extract x i => exact simVal0 (sim_extract (hρ x (by simp)) (hx x i rfl) i)
  all_goals cases hg

/-- The builtins that are carried out as the model does. -/
theorem sim_builtin {β : Inj} (hZ : ZeroOk P) {b : Builtin} {argTypes : Array TypeId} {type : TypeId} {consts : Array Bool} {args args' : Array Value} (ha : arrRel β args args') (ht : tame P argTypes b = true)
    (hu : ∀ v, args.toList.head? = some v → (b = .min ∨ b = .max) → unOkA v = true) : Sim P K W0 N0 β (builtin b argTypes type consts args) (builtin b argTypes type consts args') nRel := by
  have fold : ∀ (f : Value → Value → Sem Value) (why : String), (∀ {x x' y y' : Value}, vRel β x x' → vRel β y y' → unOkA x = true → Sim P K W0 N0 β (f x y) (f x' y') (fun β' v v' => β' = β ∧ vRel β v v' ∧ unOkA v = true)) → (∀ v, args.toList.head? = some v → unOkA v = true) →
      Sim P K W0 N0 β (match args.toList with | [] => stuck why | x :: rest => rest.foldlM f x) (match args'.toList with | [] => stuck why | x :: rest => rest.foldlM f x) vRel := by
    intro f why hf hu
    have hl := arrRel_iff.1 ha
    cases h1 : args.toList with
    | nil => exact Sim.stuck
    | cons x rest =>
      rw [h1] at hl hu
      cases h2 : args'.toList with
      | nil => rw [h2] at hl; exact hl.elim
      | cons x' rest' =>
        rw [h2] at hl
        exact sim_foldM hf hl.2 hl.1 (hu x rfl)
  cases b <;> (try (cases ht; done)) <;> simp only [builtin]
  case copy => exact simVal (sim_copy ha)
  case delete => exact simVal (sim_delete ha ht)
  case len => exact simVal (sim_len ha)
  case clear => exact simVal (sim_clear hZ ha)
  case min => exact simVal (fold Builtin.min2 _ sim_min2 fun v hv => hu v hv (.inl rfl))
  case max => exact simVal (fold Builtin.max2 _ sim_max2 fun v hv => hu v hv (.inr rfl))

end Go.Va

/-
  A RUN OF THE INTERPRETER LOOKS AT NOTHING BEYOND 'next', AND WRITES NOTHING BELOW 'lim'.
-/
namespace Go.Va
variable {P : Program}

/-- A step that keeps what lies below 'lim', and looks at nothing beyond 'next'. -/
def Good {γ : Type} (lim : Nat) (f : AS → Option (γ × AS)) : Prop :=
  ∀ σ v σ', f σ = some (v, σ') → σ.Wf → Kept lim σ σ' ∧ ∀ τ, σ.Like τ → ∃ τ', f τ = some (v, τ') ∧ σ'.Led τ τ'

theorem Kept.any {lim : Nat} {σ σ' : AS} (h : Kept σ.next σ σ') : Kept lim σ σ' := ⟨h.next, h.wf, fun i _ hn => h.old i hn hn⟩

theorem good_runA {α : Type} {lim : Nat} (s : Sem α) : Good lim (runA P lim s) := fun _ _ _ h hw => blind_runA s h hw

theorem exact_like {σ τ : AS} (hw : σ.Wf) (hl : σ.Like τ) {p : Addr} {c : Nat} (h : (σ.get p.block).isSome = true) : τ.exact p c = σ.exact p c := by
  unfold AS.exact
  obtain ⟨x, hx⟩ := Option.isSome_iff_exists.1 h
  rw [hl.2 _ (lt_of_get hw hx)]

/-- The places that a look-up of a row asks of are the same. -/
theorem get_like {σ τ : AS} (hw : σ.Wf) (hl : σ.Like τ) {r : Nat} {x : AObj} (h : σ.get r = some x) : τ.get r = some x := by
  rw [hl.2 _ (lt_of_get hw h)]; exact h

theorem sliceOf_like {σ τ : AS} (hw : σ.Wf) (hl : σ.Like τ) {t : TypeId} {base : Option Addr} {len cap : Nat} {lo hi mx : Option Value} {v : Value} (h : sliceOf P σ t base len cap lo hi mx = some v) :
    sliceOf P τ t base len cap lo hi mx = some v := by
  unfold sliceOf at *
  split at h
  · rename_i elem hd
    split at h
    · rename_i i hi0
      split at h
      · rename_i l hh m e1 e2 e3
        cases hb : (Nat.ble l hh && Nat.ble hh m && Nat.ble m cap && (mx.isNone || hi.isSome)) with
        | false => simp [hb] at h
        | true =>
          simp only [hb, cond_true] at h ⊢
          cases base with
          | none => exact h
          | some p =>
            dsimp only at h ⊢
            cases hsp : p.spot.isSome with
            | true => simp only [hsp, cond_true] at h ⊢; exact h
            | false =>
              simp only [hsp, cond_false] at h ⊢
              cases hg : σ.get p.block with
              | none => rw [hg] at h; cases h
              | some x =>
                have hg' := get_like hw hl hg
                have h1 := exact_like hw hl (p := p) (c := cap) (by rw [hg]; rfl)
                have h2 : τ.looseIs p i.size = σ.looseIs p i.size := by
                  unfold AS.looseIs
                  rw [hg, hg']
                rw [hg', h1, h2]
                rw [hg] at h
                exact h
      · cases h
    · cases h
  · cases h

theorem good_slice {lim : Nat} {t : TypeId} {x : Value} {lo hi mx : Option Value} : Good lim (fun σ => sliceA P lim t x lo hi mx σ) := by
  intro σ v σ' h hw
  cases x
  case slice base len cap =>
    simp only [sliceA] at h ⊢
    cases hs : sliceOf P σ t base len cap lo hi mx with
    | none => rw [hs] at h; cases h
    | some u =>
      rw [hs] at h
      simp only [Option.some.injEq, Prod.mk.injEq] at h
      obtain ⟨rfl, rfl⟩ := h
      exact ⟨.refl _ _, fun τ hl => ⟨τ, by rw [sliceOf_like hw hl hs], .refl hl⟩⟩
  all_goals exact good_runA _ σ v σ' h hw

theorem newCells_like {σ τ : AS} (hw : σ.Wf) (hl : σ.Like τ) {lim : Nat} {i : TypeInfo} {xt : Option TypeId} {x : Value} {r : List Value × Nat} (h : newCells P lim i xt x σ = some r) : newCells P lim i xt x τ = some r := by
  unfold newCells at *
  split at h
  · exact h
  split at h
  · exact h
  · split at h
    · rename_i n hn
      split at h
      · rename_i c σ1 hr
        obtain ⟨τ', h1, _⟩ := (blind_runA _ hr hw).2 τ hl
        rw [h1]; exact h
      · cases h
    · cases h
  · cases h

theorem setCells_good {lim : Nat} {a : Addr} : ∀ (l : List Value) (i : Nat) (σ σ' : AS), σ.setCells lim a l i = some σ' → σ.Wf → Kept lim σ σ' ∧ ∀ τ, σ.Like τ → ∃ τ', τ.setCells lim a l i = some τ' ∧ σ'.Led τ τ'
  | [], i, σ, σ', h, hw => by
    simp only [AS.setCells, Option.some.injEq] at h
    subst h
    exact ⟨.refl _ _, fun τ hl => ⟨τ, rfl, .refl hl⟩⟩
  | v :: l, i, σ, σ', h, hw => by
    simp only [AS.setCells] at h ⊢
    cases ho : oneCell v with
    | false => simp [ho] at h
    | true =>
      simp only [ho, cond_true] at h ⊢
      cases hs : σ.setCell lim (a.add i) v with
      | none => rw [hs] at h; cases h
      | some σ1 =>
        rw [hs] at h
        have hk := kept_setCell hs
        obtain ⟨h1, h2⟩ := setCells_good l (i + 1) σ1 σ' h (hk.wf hw)
        refine ⟨hk.trans h1, fun τ hl => ?_⟩
        obtain ⟨τ1, e1, e2⟩ := led_setCell hw hl hs
        obtain ⟨τ2, e3, e4⟩ := h2 τ1 e2.like
        exact ⟨τ2, by rw [e1]; exact e3, e2.trans e4 h1.next⟩

theorem good_append1 {lim : Nat} {elem : TypeId} {i : TypeInfo} {base : Option Addr} {sLen sCap n : Nat} {new : List Value} : Good lim (fun σ => append1 lim elem i base sLen sCap n new σ) := by
  intro σ v σ' h hw
  unfold append1 at h ⊢
  cases hle : Nat.ble (sLen + n) sCap with
  | true =>
    simp only [hle, cond_true] at h ⊢
    cases base with
    | none =>
      simp only [Option.some.injEq, Prod.mk.injEq] at h ⊢
      obtain ⟨rfl, rfl⟩ := h
      exact ⟨.refl _ _, fun τ hl => ⟨τ, ⟨rfl, rfl⟩, .refl hl⟩⟩
    | some p =>
      dsimp only at h ⊢
      cases hs : σ.setCells lim (p.add (sLen * i.size)) new 0 with
      | none => rw [hs] at h; cases h
      | some σ1 =>
        rw [hs] at h
        simp only [Option.some.injEq, Prod.mk.injEq] at h
        obtain ⟨rfl, rfl⟩ := h
        obtain ⟨h1, h2⟩ := setCells_good _ _ _ _ hs hw
        refine ⟨h1, fun τ hl => ?_⟩
        obtain ⟨τ1, e1, e2⟩ := h2 τ hl
        exact ⟨τ1, by rw [e1], e2⟩
  | false =>
    simp only [hle, cond_false] at h ⊢
    cases hcond : (Nat.ble ((sLen + n) * i.bytes) 70368744177664 && Nat.blt 0 i.bytes && i.zero.isSome && new.all oneCell && Nat.beq new.length (n * i.size)) with
    | false => simp [hcond] at h
    | true =>
      simp only [hcond, cond_true] at h ⊢
      cases base with
      | none =>
        cases hsl : Nat.beq sLen 0 with
        | false => simp [hsl] at h
        | true =>
          simp only [hsl, cond_true, Option.some.injEq, Prod.mk.injEq] at h ⊢
          obtain ⟨rfl, rfl⟩ := h
          exact ⟨kept_push _ _ _ (fun q hq => by cases hq), fun τ hl => ⟨τ.push (.cells new true (some i.size, some elem) none), ⟨by rw [hl.1], rfl⟩, led_push hl _⟩⟩
      | some p =>
        dsimp only at h ⊢
        split at h
        case h_2 => cases h
        rename_i c rw lo pv hspn hg
        have hlt := lt_of_get hw hg
        rw [hspn]
        cases hl' : Nat.ble (p.off + sLen * i.size) c.length with
        | false => simp [hl'] at h
        | true =>
        simp only [hl', cond_true] at h
        cases hex : σ.exact p sCap with
        | true =>
          simp only [hex, cond_true, Option.some.injEq, Prod.mk.injEq] at h
          obtain ⟨rfl, rfl⟩ := h
          refine ⟨kept_push _ _ _ (fun q hq => by cases hq), fun τ hl => ⟨τ.push (.cells ((c.drop p.off).take (sLen * i.size) ++ new) true (some i.size, some elem) none), ?_, led_push hl _⟩⟩
          rw [get_like hw hl hg]
          dsimp only
          rw [hl', exact_like hw hl (by rw [hg]; rfl), hex, hl.1]; rfl
        | false =>
          simp only [hex, cond_false] at h
          cases hcnd : (rw && Nat.ble lim p.block && (lo == (some i.size, some elem))) with
          | false => simp [hcnd] at h
          | true =>
            simp only [hcnd, cond_true] at h
            have hcnd' := hcnd
            simp only [Bool.and_eq_true, beq_iff_eq] at hcnd'
            have hlim : lim ≤ p.block := Nat.ble_eq ▸ hcnd'.1.2
            cases hk : σ.kill lim pv with
            | none => rw [hk] at h; cases h
            | some σ1 =>
              rw [hk] at h
              dsimp only at h
              obtain ⟨k1, k2, _⟩ := AS.kill_get hk
              have hkk := kept_kill hk
              have main : ∀ (X : Option AObj) (pv' : Option Nat) (all : List Value), (∀ y, X = some y → prevOf y = none) → (∀ q, pv' = some q → q = p.block) →
                  Kept lim σ ((σ1.put p.block X).push (.cells all true (some i.size, some elem) pv')) ∧ ∀ τ, σ.Like τ → ∃ τ1, τ.kill lim pv = some τ1 ∧ ((σ1.put p.block X).push (.cells all true (some i.size, some elem) pv')).Led τ ((τ1.put p.block X).push (.cells all true (some i.size, some elem) pv')) := by
                intro X pv' all hX hpv
                refine ⟨hkk.trans ((kept_put hlim (by omega) (fun _ y q hy hq => by rw [hX y hy] at hq; cases hq)).trans (kept_push _ _ _ (fun q hq => ?_))), fun τ hl => ?_⟩
                · have := hpv q hq
                  simp only [AS.next_put]; omega
                · obtain ⟨τ1, e1, e2⟩ := led_kill hl (fun q hq => hw.prev _ _ q hg hq) hk
                  have e3 := led_put e2.like (r := p.block) (by omega) X
                  have e4 := led_push e3.like (.cells all true (some i.size, some elem) pv')
                  exact ⟨τ1, e1, (e2.trans e3 (by simp)).trans e4 (by simp)⟩
              cases hq : Nat.beq sLen sCap with
              | true =>
                simp only [hq, cond_true, Option.some.injEq, Prod.mk.injEq] at h
                obtain ⟨rfl, rfl⟩ := h
                obtain ⟨m1, m2⟩ := main (some (.cells c false lo none)) (some p.block) ((c.drop p.off).take (sLen * i.size) ++ new) (fun y hy => by cases hy; rfl) (fun q hq => by cases hq; rfl)
                refine ⟨m1, fun τ hl => ?_⟩
                obtain ⟨τ1, e1, e2⟩ := m2 τ hl
                refine ⟨_, ?_, e2⟩
                rw [get_like hw hl hg]
                dsimp only
                rw [hl', exact_like hw hl (by rw [hg]; rfl), hex, hcnd, e1, hl.1]
                rfl
              | false =>
                simp only [hq, cond_false, Option.some.injEq, Prod.mk.injEq] at h
                obtain ⟨rfl, rfl⟩ := h
                obtain ⟨m1, m2⟩ := main none none ((c.drop p.off).take (sLen * i.size) ++ new) (fun y hy => by cases hy) (fun q hq => by cases hq)
                refine ⟨m1, fun τ hl => ?_⟩
                obtain ⟨τ1, e1, e2⟩ := m2 τ hl
                refine ⟨_, ?_, e2⟩
                rw [get_like hw hl hg]
                dsimp only
                rw [hl', exact_like hw hl (by rw [hg]; rfl), hex, hcnd, e1, hl.1]
                rfl

theorem good_append {lim : Nat} {argTypes : Array TypeId} {args : List Value} : Good lim (fun σ => appendA P lim argTypes args σ) := by
  intro σ v σ' h hw
  simp only [appendA] at h ⊢
  split at h
  case h_2 => cases h
  rename_i sType base sLen sCap x h0
  cases hd : P.underlying sType with
  | none => rw [hd] at h; cases h
  | some dd =>
  rw [hd] at h
  cases dd <;> first | cases h | skip
  rename_i elem
  dsimp only at h ⊢
  cases hi : P.info? elem with
  | none => rw [hi] at h; cases h
  | some i =>
  rw [hi] at h
  dsimp only at h ⊢
  cases hnc : newCells P lim i argTypes[1]? x σ with
  | none => rw [hnc] at h; cases h
  | some nc =>
  obtain ⟨new, n⟩ := nc
  rw [hnc] at h
  obtain ⟨h1, h2⟩ := good_append1 σ v σ' h hw
  refine ⟨h1, fun τ hl => ?_⟩
  obtain ⟨τ', e1, e2⟩ := h2 τ hl
  exact ⟨τ', by rw [newCells_like hw hl hnc]; exact e1, e2⟩

theorem good_ptrConv {lim : Nat} {src dst : TypeId} {a : Addr} : Good lim (fun σ => ptrConv P src dst a σ) := by
  intro σ v σ' h hw
  unfold ptrConv at h
  dsimp only at h
  split at h
  · rename_i x hg
    cases hb : (a.spot.isNone && ptrOk P src dst a.off x) with
    | false => rw [hb] at h; cases h
    | true =>
      rw [hb, cond_true] at h
      cases h
      refine ⟨.refl _ _, fun τ hl => ⟨τ, ?_, .refl hl⟩⟩
      show ptrConv P src dst a τ = _
      unfold ptrConv
      rw [get_like hw hl hg]
      dsimp only
      rw [hb, cond_true]
  · cases h

theorem good_none {γ : Type} {lim : Nat} : Good lim (fun _ => (none : Option (γ × AS))) := fun _ _ _ h => by cases h
theorem good_some {γ : Type} {lim : Nat} (v : γ) : Good lim (fun σ => some (v, σ)) := fun σ u σ' h _ => by
  simp only [Option.some.injEq, Prod.mk.injEq] at h ⊢
  obtain ⟨rfl, rfl⟩ := h
  exact ⟨.refl _ _, fun τ hl => ⟨τ, ⟨rfl, rfl⟩, .refl hl⟩⟩
theorem Good.ext {γ : Type} {lim : Nat} {f g : AS → Option (γ × AS)} (h : Good lim f) (e : ∀ σ, g σ = f σ) : Good lim g := by
  have : g = f := funext e
  rw [this]; exact h
theorem Good.cond {γ : Type} {lim : Nat} {b : Bool} {f g : AS → Option (γ × AS)} (hf : Good lim f) (hg : Good lim g) : Good lim (fun σ => bif b then f σ else g σ) := by
  cases b
  · exact hg
  · exact hf

/-- A row that was just made becomes a list: that touches nothing else. -/
theorem good_freezeR {known : Bool} {lim r l c : Nat} : Good lim (fun σ => freezeR P known lim r l c σ) := by
  intro σ u σ' h hw
  unfold freezeR at h
  dsimp only at h
  split at h
  · rename_i cs T hg
    have hlt := lt_of_get hw hg
    cases hi : P.info? T with
    | none => rw [hi] at h; cases h
    | some i =>
      rw [hi] at h
      dsimp only at h
      cases hb : (Nat.ble lim r && Nat.beq l c && (known || Nat.beq cs.length (l * i.size) && (cs.map strip).all cellOk)) with
      | false => rw [hb] at h; cases h
      | true =>
        rw [hb, cond_true] at h
        cases h
        have hb' := hb
        simp only [Bool.and_eq_true] at hb'
        refine ⟨kept_put (Nat.ble_eq ▸ hb'.1.1) hlt (fun _ y q hy hq => by cases hy), fun τ hl => ⟨τ.put r none, ?_, led_put hl hlt _⟩⟩
        unfold freezeR
        dsimp only
        rw [get_like hw hl hg]
        dsimp only
        rw [hi]
        dsimp only
        rw [hb, cond_true]
  · rename_i cs e T hg
    have hlt := lt_of_get hw hg
    cases hb : (Nat.ble lim r && Nat.beq l c && (known || Nat.beq cs.length (l * e) && (cs.map strip).all cellOk) && Nat.blt 0 l && Nat.blt 0 e) with
    | false => rw [hb] at h; cases h
    | true =>
      rw [hb, cond_true] at h
      cases h
      have hb' := hb
      simp only [Bool.and_eq_true] at hb'
      refine ⟨kept_put (Nat.ble_eq ▸ hb'.1.1.1.1) hlt (fun _ y q hy hq => by cases hy; cases hq), fun τ hl => ⟨τ.put r _, ?_, led_put hl hlt _⟩⟩
      unfold freezeR
      dsimp only
      rw [get_like hw hl hg]
      dsimp only
      rw [hb, cond_true]
  · cases h
theorem good_freeze {known : Bool} {lim : Nat} {v : Value} : Good lim (fun σ => freezeA P known lim v σ) := by
  unfold freezeA
  split
  · exact good_freezeR.cond good_none
  · exact good_none

theorem good_freezeB {lim : Nat} {v : Value} : Good lim (fun σ => freezeB lim v σ) := by
  unfold freezeB
  split
  case h_2 => exact good_none
  rename_i a l c
  refine Good.cond ?_ good_none
  intro σ u σ' h hw
  dsimp only at h
  split at h
  case h_2 => cases h
  rename_i cs T hg
  have hlt := lt_of_get hw hg
  cases hb : (Nat.ble lim a.block && Nat.beq l c && Nat.beq cs.length l && (cs.map strip).all cellOk) with
  | false => rw [hb] at h; cases h
  | true =>
    rw [hb, cond_true] at h
    cases h
    have hb' := hb
    simp only [Bool.and_eq_true] at hb'
    refine ⟨kept_put (Nat.ble_eq ▸ hb'.1.1.1) hlt (fun _ y q hy hq => by cases hy), fun τ hl => ⟨τ.put a.block none, ?_, led_put hl hlt _⟩⟩
    dsimp only
    rw [get_like hw hl hg]
    dsimp only
    rw [hb, cond_true]
theorem good_conv {lim : Nat} {src dst : TypeId} {x : Value} : Good lim (fun σ => convA P lim src dst x σ) := by
  intro σ v σ' h hw
  have gen : ∀ x, (bif convOk P src dst x then runA P lim (convert src dst x) σ else none) = some (v, σ') →
      Kept lim σ σ' ∧ ∀ τ, σ.Like τ → ∃ τ', (bif convOk P src dst x then runA P lim (convert src dst x) τ else none) = some (v, τ') ∧ σ'.Led τ τ' := by
    intro x hx
    cases ho : convOk P src dst x with
    | false => rw [ho] at hx; cases hx
    | true => rw [ho] at hx; exact good_runA _ σ v σ' hx hw
  cases x
  case string s =>
    simp only [convA] at h ⊢
    split at h
    · rename_i e hd1 hd2
      split at h
      · rename_i hd3
        simp only [Option.some.injEq, Prod.mk.injEq] at h ⊢
        obtain ⟨rfl, rfl⟩ := h
        exact ⟨kept_push _ _ _ (fun q hq => by cases hq), fun τ hl => ⟨_, ⟨by rw [hl.1], rfl⟩, led_push hl _⟩⟩
      · rename_i hd3
        simp only [Option.some.injEq, Prod.mk.injEq] at h ⊢
        obtain ⟨rfl, rfl⟩ := h
        exact ⟨kept_push _ _ _ (fun q hq => by cases hq), fun τ hl => ⟨_, ⟨by rw [hl.1], rfl⟩, led_push hl _⟩⟩
      · cases h
    · exact gen _ h
  case pointer o =>
    cases o with
    | none => simp only [convA] at h ⊢; exact gen _ h
    | some a =>
      simp only [convA] at h ⊢
      exact good_ptrConv σ v σ' h hw
  case slice o l c =>
    cases o with
    | none => simp only [convA] at h ⊢; exact gen _ h
    | some a =>
      simp only [convA] at h ⊢
      cases hst : sameT P src dst with
      | true =>
        rw [hst, cond_true] at h
        exact good_freeze σ v σ' h hw
      | false =>
        rw [hst, cond_false] at h
        exact gen _ h
  all_goals (simp only [convA] at h ⊢; exact gen _ h)

theorem good_cap {lim : Nat} {argTypes : Array TypeId} {args : List Value} : Good lim (fun σ => capA P argTypes args σ) := by
  intro σ v σ' h hw
  simp only [capA] at h ⊢
  split at h
  case h_2 => cases h
  rename_i sType base l cap h0
  split at h
  case h_2 => cases h
  cases base with
  | none =>
    simp only [Option.some.injEq, Prod.mk.injEq] at h ⊢
    obtain ⟨rfl, rfl⟩ := h
    exact ⟨.refl _ _, fun τ hl => ⟨τ, ⟨rfl, rfl⟩, .refl hl⟩⟩
  | some p =>
    dsimp only at h ⊢
    cases hc : (p.spot.isNone && σ.exact p cap) with
    | false => simp [hc] at h
    | true =>
      simp only [hc, cond_true, Option.some.injEq, Prod.mk.injEq] at h
      obtain ⟨rfl, rfl⟩ := h
      refine ⟨.refl _ _, fun τ hl => ⟨τ, ?_, .refl hl⟩⟩
      simp only [Bool.and_eq_true] at hc
      have hg : (σ.get p.block).isSome = true := by
        have := hc.2
        unfold AS.exact at this
        cases hh : σ.get p.block with
        | none => rw [hh] at this; cases this
        | some x => rfl
      rw [exact_like hw hl hg, hc.1, hc.2]; rfl

/-! ## The interpreter -/

/-- A step, and then another. -/
def andThen {γ δ : Type} (r : Option (γ × AS)) (g : γ → AS → Option (δ × AS)) : Option (δ × AS) :=
  match r with
  | some (v, σ1) => g v σ1
  | none => none

theorem Good.bind {γ δ : Type} {lim : Nat} {f : AS → Option (γ × AS)} {g : γ → AS → Option (δ × AS)} (hf : Good lim f) (hg : ∀ v, Good lim (g v)) :
    Good lim (fun σ => andThen (f σ) g) := by
  intro σ v σ2 h hw
  dsimp only at h ⊢
  cases h1 : f σ with
  | none => rw [h1] at h; cases h
  | some r =>
    obtain ⟨u, σ1⟩ := r
    rw [h1] at h
    obtain ⟨k1, b1⟩ := hf σ u σ1 h1 hw
    obtain ⟨k2, b2⟩ := hg u σ1 v σ2 h (k1.wf hw)
    refine ⟨k1.trans k2, fun τ hl => ?_⟩
    obtain ⟨τ1, e1, l1⟩ := b1 τ hl
    obtain ⟨τ2, e2, l2⟩ := b2 τ1 l1.like
    exact ⟨τ2, by rw [e1]; exact e2, l1.trans l2 k2.next⟩

theorem good_sliceX {E : Env} {lim : Nat} {o : Oper} {t : TypeId} {x : Value} {lo hi mx : Option Value} : Good lim (fun σ => sliceX P E lim o t x lo hi mx σ) := by
  unfold sliceX
  refine Good.cond ?_ good_slice
  exact (Good.bind (good_slice (P := P)) (g := fun v σ => freezeB lim v σ) fun v => good_freezeB).ext fun σ => by
    unfold andThen
    cases sliceA P lim t x lo hi mx σ <;> rfl

/-- The replaced functions look at nothing beyond 'next', and keep what lies below 'lim'. -/
theorem good_data {lim : Nat} {args : List Value} : Good lim (fun σ => dataA args σ) := by
  unfold dataA
  split
  · exact good_some _
  · exact Good.cond (good_some _) good_none
  · exact good_none

theorem good_ustr {lim : Nat} {argTypes : Array TypeId} {args : List Value} : Good lim (fun σ => ustrA P lim argTypes args σ) := by
  unfold ustrA
  split
  case h_2 => exact good_none
  rename_i p k n
  split
  case h_2 => exact good_none
  rename_i pt hpt
  refine Good.cond (good_some _) ?_
  split
  case h_2 => exact good_none
  rename_i e a _
  intro σ v σ' h hw
  dsimp only at h
  split at h
  case h_2 => cases h
  rename_i c lo pv hsp hg
  cases hb : (lo.2 == some e && Nat.beq (P.cellsOf e) 1 && decide (0 ≤ n) && Nat.ble (a.off + n.toNat) c.length && Nat.ble n.toNat 1099511627776 && Nat.ble lim a.block) with
  | false => rw [hb] at h; cases h
  | true =>
    rw [hb, cond_true] at h
    have hb' := hb
    simp only [Bool.and_eq_true] at hb'
    have hlb : lim ≤ a.block := Nat.ble_eq ▸ hb'.2
    split at h
    case h_2 => cases h
    rename_i s σ1 hs hk
    cases h
    have hlt := lt_of_get hw hg
    have hpv : ∀ q, pv = some q → q < σ.next := fun q hq => hw.prev _ _ q hg (by rw [hq]; rfl)
    have k1 := kept_kill hk
    refine ⟨k1.trans (kept_put hlb (by rw [(AS.kill_get hk).1]; exact hlt) (fun _ y q hy hq => by cases hy; cases hq)), fun τ hl => ?_⟩
    have hgτ : τ.get a.block = some (.cells c true lo pv) := get_like hw hl hg
    obtain ⟨n1, g1, q1⟩ := AS.kill_get hk
    have hkτ : ∃ τ1, τ.kill lim pv = some τ1 := by
      cases pv with
      | none => exact ⟨τ, rfl⟩
      | some q =>
        have hle : Nat.ble lim q = true := by
          cases hlq : Nat.ble lim q with
          | true => rfl
          | false => simp [AS.kill, hlq] at hk
        exact ⟨τ.put q none, by simp [AS.kill, hle]⟩
    obtain ⟨τ1, hkτ⟩ := hkτ
    obtain ⟨n2, g2, _⟩ := AS.kill_get hkτ
    refine ⟨τ1.put a.block (some (.cells c false lo none)), ?_, ⟨?_, fun id hid => ?_, fun id hid => ?_⟩⟩
    · dsimp only
      rw [hsp, hgτ]
      dsimp only
      rw [hb, cond_true, hs, hkτ]
    · simp only [AS.next_put]; rw [n2, n1, hl.1]
    · simp only [AS.next_put] at hid
      rw [AS.get_put, AS.get_put, g2, g1]
      split
      · rfl
      · split
        · rfl
        · exact hl.2 _ (by omega)
    · simp only [AS.next_put] at hid
      rw [AS.get_put, g2, if_neg (by omega), if_neg (fun hq => by have := hpv _ hq; omega)]

theorem newOk_like {σ τ : AS} (hw : σ.Wf) (hl : σ.Like τ) {lim : Nat} {i : TypeInfo} {xt : Option TypeId} {x : Value} {r : List Value × Nat} (h : newOk P lim i xt x σ = some r) : newOk P lim i xt x τ = some r := by
  unfold newOk at *
  cases hn : newCells P lim i xt x σ with
  | none => rw [hn] at h; cases h
  | some q => rw [newCells_like hw hl hn]; rw [hn] at h; exact h

theorem good_appBody {lim : Nat} {argTypes : Array TypeId} {x : Value} {k : TypeId → TypeInfo → List Value → Nat → AS → Option (Value × AS)} (hk : ∀ a b c d, Good lim (k a b c d)) :
    Good lim (fun σ => appBody P lim argTypes x σ fun a b c d => k a b c d σ) := by
  intro σ v σ' h hw
  unfold appBody at h
  dsimp only at h
  cases h0 : argTypes[0]? with
  | none => rw [h0] at h; cases h
  | some sType =>
  rw [h0] at h
  dsimp only at h
  cases hd : P.underlying sType with
  | none => rw [hd] at h; cases h
  | some dd =>
  rw [hd] at h
  cases dd <;> first | cases h | skip
  rename_i elem
  dsimp only at h
  cases hi : P.info? elem with
  | none => rw [hi] at h; cases h
  | some i =>
  rw [hi] at h
  dsimp only at h
  cases hn : newOk P lim i argTypes[1]? x σ with
  | none => rw [hn] at h; cases h
  | some q =>
  obtain ⟨new, n⟩ := q
  rw [hn] at h
  dsimp only at h
  cases hb : (Nat.blt 0 i.bytes && i.zero.isSome && Nat.blt 0 i.size) with
  | false => rw [hb] at h; cases h
  | true =>
    rw [hb, cond_true] at h
    obtain ⟨h1, h2⟩ := hk elem i new n σ v σ' h hw
    refine ⟨h1, fun τ hl => ?_⟩
    obtain ⟨τ', e1, e2⟩ := h2 τ hl
    refine ⟨τ', ?_, e2⟩
    unfold appBody
    dsimp only
    rw [h0]
    dsimp only
    rw [hd]
    dsimp only
    rw [hi]
    dsimp only
    rw [newOk_like hw hl hn]
    dsimp only
    rw [hb, cond_true]
    exact e1

theorem good_grow {lim : Nat} (c : List Value) (n e : Nat) (T : TypeId) : Good lim (fun σ => some (growNew c n e T σ)) := by
  intro σ v σ' h hw
  cases h
  refine ⟨kept_push _ _ _ (fun q hq => by cases hq), fun τ hl => ⟨_, by dsimp only; unfold growNew; rw [hl.1], led_push hl _⟩⟩

def OvGood (E : Env) : Prop := ∀ f args lim, Good lim (fun σ => E.ov f args lim σ)
def RecGood (rec : Rec) : Prop := ∀ lim k, Good lim (fun σ => rec lim k σ)

theorem Good.map {γ δ : Type} {lim : Nat} {f : AS → Option (γ × AS)} (hf : Good lim f) (g : γ → AS → Option (δ × AS)) (hg : ∀ v, Good lim (g v)) {h : AS → Option (δ × AS)}
    (e : ∀ σ, h σ = andThen (f σ) g) : Good lim h := (hf.bind hg).ext e

/-- A step that writes nothing of what was there, is good for every bound. -/
theorem good_whole {lim : Nat} {c : List Value} {g : Nat} {v : Value} : Good lim (fun σ => bif wholeL c g σ then some (v, σ) else none) := by
  intro σ u σ' h hw
  dsimp only at h
  cases hb : wholeL c g σ with
  | false => rw [hb] at h; cases h
  | true =>
    rw [hb] at h
    cases h
    refine ⟨.refl _ _, fun τ hl => ⟨τ, ?_, .refl hl⟩⟩
    have : wholeL c g τ = true := by
      unfold wholeL at hb ⊢
      match g, hb with
      | t + 2, hb =>
        dsimp only at hb ⊢
        split at hb
        · rename_i m _ _ hg
          rw [hl.2 _ (lt_of_get hw hg), hg]
          exact hb
        · cases hb
    dsimp only
    rw [this]; rfl

theorem Good.quiet {γ : Type} {lim : Nat} {f : Nat → AS → Option (γ × AS)} (h : ∀ l, Good l (f l)) (q : Bool) : Good lim (fun σ => f (bif q then σ.next else lim) σ) := by
  cases q
  · exact h lim
  · intro σ v σ' hr hw
    obtain ⟨k, b⟩ := h σ.next σ v σ' hr hw
    refine ⟨k.any, fun τ hl => ?_⟩
    obtain ⟨τ', e, l⟩ := b τ hl
    exact ⟨τ', by show f τ.next τ = _; rw [hl.1]; exact e, l⟩

theorem runA_sizeOf2 (t : TypeId) (lim : Nat) (σ : AS) : runA P lim (sizeOf t) σ = (P.info? t).map fun d => (d.size, σ) := by
  have : sizeOf t = typeInfo t >>= fun i => Pure.pure i.size := rfl
  rw [this, runA_bind, runA_typeInfo]
  cases P.info? t <;> rfl
theorem wrap64a {n : Int} (h1 : -9223372036854775808 ≤ n) (h2 : n ≤ 9223372036854775807) : IntKind.i64.wrap n = n := by
  have e : IntKind.i64.wrap n = if decide (n % 18446744073709551616 ≥ 9223372036854775808) = true then n % 18446744073709551616 - 18446744073709551616 else n % 18446744073709551616 := rfl
  rw [e]
  by_cases h : n % 18446744073709551616 ≥ 9223372036854775808
  · rw [if_pos (by simpa using h)]; omega
  · rw [if_neg (by simpa using h)]; omega
theorem isZ8_eq {v : Value} (h : isZ8 v = true) : v = .int .u8 0 := by
  unfold isZ8 at h
  split at h
  · rw [of_decide_eq_true h]
  · cases h
theorem mkFast_run {lim : Nat} {σ σ' : AS} {st : TypeId} {x y v : Value} (h : mkFast P st x y σ = some (v, σ')) : runA P lim (Instr.makeSlice st x y) σ = some (v, σ') := by
  unfold mkFast at h
  split at h
  case h_2 => cases h
  rename_i el hT
  split at h
  case h_2 => cases h
  rename_i i hi
  split at h
  case h_2 => cases h
  rename_i z n m hz
  cases hb : (decide (n = m) && decide (0 < n) && decide (n ≤ 1000000000) && decide (i.bytes * n.toNat ≤ 281474976710656) && Nat.beq z.cells.size i.size && Nat.blt 0 i.size && z.cells.toList.all isZ8) with
  | false => rw [hb] at h; cases h
  | true =>
  rw [hb, cond_true] at h
  cases h
  simp only [Bool.and_eq_true, decide_eq_true_eq] at hb
  obtain ⟨⟨⟨⟨⟨⟨rfl, h0⟩, hn⟩, hby⟩, hsz⟩, hps⟩, hall⟩ := hb
  have hsz := Nat.eq_of_beq_eq_true hsz
  rw [Nat.blt_eq] at hps
  obtain ⟨k, rfl⟩ := Int.eq_ofNat_of_zero_le (Int.le_of_lt h0)
  rw [Int.toNat_natCast] at hby ⊢
  unfold Instr.makeSlice
  rw [runA_bind, runA_underlying, hT]
  dsimp only [Option.map]
  rw [runA_bind, show runA P lim (asInt (.int .i64 (k : Nat))) σ = some ((k : Int), σ) from rfl]
  dsimp only
  rw [runA_bind, show runA P lim (asInt (.int .i64 (k : Nat))) σ = some ((k : Int), σ) from rfl]
  dsimp only
  rw [runA_bind, runA_typeInfo, hi]
  dsimp only [Option.map]
  have hw : IntKind.i64.wrap (k : Int) = k := wrap64a (by omega) (by omega)
  rw [hw]
  have hbi : ((i.bytes : Int) * k) ≤ 281474976710656 := by
    have : ((i.bytes * k : Nat) : Int) ≤ 281474976710656 := by omega
    rw [Int.natCast_mul] at this
    exact this
  have hlt : decide ((k : Int) < 0) = false := decide_eq_false (by omega)
  have hbb : decide (((i.bytes : Int) * k) > 2 ^ 48) = false := decide_eq_false (by
    show ¬ ((i.bytes : Int) * k) > 2 ^ 48
    have : (2 : Int) ^ 48 = 281474976710656 := by decide
    omega)
  have hc0 : (decide ((k : Int) < 0) || decide ((i.bytes : Int) * k > 2 ^ 48) || decide ((k : Int) < 0) || decide ((k : Int) > k)) = false := by
    rw [hlt, hbb]; simp
  rw [if_neg (fun h => by rw [hc0] at h; cases h)]
  have har : runA P lim (askRoom ((k : Int).toNat * i.bytes)) σ = some ((), σ) := by
    unfold askRoom
    split <;> rfl
  rw [runA_bind, har]
  dsimp only
  rw [runA_bind, runA_sizeOf2, hi]
  dsimp only [Option.map]
  have hks : k * i.size ≠ 0 := Nat.mul_ne_zero (by omega) (by omega)
  rw [Int.toNat_natCast, if_neg hks, runA_bind, runA_zeroValue, hi]
  dsimp only [Option.bind, Option.map]
  rw [hz]
  dsimp only
  rw [runA_bind, show runA P lim (Pure.pure z.cells : Sem (Array Value)) σ = some (z.cells, σ) from rfl]
  dsimp only
  have hl : ((Array.range (k * i.size)).map fun j => z.cells[j % z.cells.size]!).toList = List.replicate (k * i.size) (.int .u8 0) := by
    rw [Array.toList_map]
    refine List.ext_getElem (by simp) fun j h1 h2 => ?_
    simp only [List.getElem_map, List.getElem_replicate]
    have hj : (Array.range (k * i.size)).toList[j]'(by simpa using h2) % z.cells.size < z.cells.size := Nat.mod_lt _ (by omega)
    rw [getElem!_pos z.cells _ hj]
    exact isZ8_eq (List.all_eq_true.1 hall _ (by simp))
  show some (Value.slice (some ⟨σ.next, 0, none⟩) k k, σ.push (.cells ((Array.range (k * i.size)).map fun j => z.cells[j % z.cells.size]!).toList true (none, some el) none)) = _
  rw [hl]
theorem operB_makeSlice {E : Env} {rec : Rec} {lim : Nat} {o : Oper} {t : List Value} {σ : AS} {st : TypeId} {l c : Operand} (ho : o.op = .makeSlice st l c) : operB P E rec lim o t σ = nextAny (runA P lim (execOp (ev t) o) σ) := by
  unfold operB
  rw [ho]
  dsimp only
  cases hm : mkFast P st (ev t l) (ev t c) σ with
  | none => rfl
  | some r =>
    obtain ⟨v, σ'⟩ := r
    have h2 : runA P lim (execOp (ev t) o) σ = some (.value v, σ') := by
      unfold execOp
      rw [ho]
      dsimp only
      rw [runA_bind, mkFast_run hm]
      rfl
    rw [h2]
    rfl

section
variable {E : Env} {rec : Rec} (hE : OvGood E) (hr : RecGood rec)

include hr in
theorem good_recVal {lim : Nat} {k : Task} : Good lim (fun σ => match rec lim k σ with | some (.val v, σ') => some (v, σ') | _ => none) := by
  refine (hr lim k).map (fun o σ1 => match o with | .val v => some (v, σ1) | _ => none) (fun o => by cases o <;> first | exact good_some _ | exact good_none) fun σ => ?_
  rcases h : rec lim k σ with _ | ⟨o, σ1⟩
  · rfl
  · cases o <;> rfl

include hE hr
theorem good_enter {lim : Nat} {f : FuncId} {args : List Value} : Good lim (fun σ => enterA P E rec lim f args σ) := by
  unfold enterA
  exact (hE f args lim).cond (good_recVal hr)

theorem good_apply {lim : Nat} {f : Value} {args : List Value} : Good lim (fun σ => applyA P E rec lim f args σ) := by
  unfold applyA
  split
  · exact good_enter hE hr
  · rename_i l first captured
    refine (good_runA (P := P) (lim := lim) (Instr.yield l (first ++ args.toArray))).map (fun e σ1 => match e with | .round l f t assign body => (match rec lim (.round l f t.toList assign body) σ1 with | some (.val v, σ') => some (v, σ') | _ => none) | _ => none) (fun e => ?_) fun σ => ?_
    · cases e <;> first | exact good_recVal hr | exact good_none
    · rcases h : runA P lim (Instr.yield l (first ++ args.toArray)) σ with _ | ⟨o, σ1⟩
      · rfl
      · cases o <;> rfl
  · exact good_none

theorem good_operB {lim : Nat} {o : Oper} {t : List Value} : Good lim (fun σ => operB P E rec lim o t σ) := by
  have nx : ∀ (s : Sem Next) , Good lim (fun σ => nextVal (runA P lim s σ)) := fun s => by
    refine (good_runA (P := P) (lim := lim) s).map (fun n σ1 => match n with | .value v => some (v, σ1) | _ => none) (fun n => ?_) fun σ => ?_
    · cases n <;> first | exact good_some _ | exact good_none
    · rcases h : runA P lim s σ with _ | ⟨n, σ1⟩
      · rfl
      · cases n <;> rfl
  have nx2 : ∀ (s : Sem Next) , Good lim (fun σ => nextAny (runA P lim s σ)) := fun s => by
    refine (good_runA (P := P) (lim := lim) s).map (fun n σ1 => match n with | .value v => some (v, σ1) | .skip => some (undef, σ1) | _ => none) (fun n => ?_) fun σ => ?_
    · cases n <;> first | exact good_some _ | exact good_none
    · rcases h : runA P lim s σ with _ | ⟨n, σ1⟩
      · rfl
      · cases n <;> rfl
  by_cases hm : ∃ st l c, o.op = .makeSlice st l c
  · obtain ⟨st, l, c, hm⟩ := hm
    exact (nx2 _).ext fun σ => operB_makeSlice hm
  unfold operB
  split
  · exact good_sliceX
  · exact good_conv
  · exact (good_runA _).cond good_none
  · exact (good_some _).cond good_none
  · exact (good_runA _).cond good_none
  · exact (good_runA _).cond good_none
  · split
    · exact good_append
    · exact good_cap
    · exact good_data
    · exact good_ustr
    · exact (nx _).cond good_none
    · exact good_apply hE hr
    · exact good_none
  · rename_i st l c ho; exact absurd ⟨st, l, c, ho⟩ hm
  · exact (nx2 _).cond good_none


omit hE hr in
theorem good_val {lim : Nat} (x : Option Value) : Good lim (fun σ => x.map fun v => (v, σ)) := by
  cases x with
  | none => exact good_none
  | some v => exact good_some v

omit hE hr in
/-- An operation of lists is one at every heap, or at none. -/
theorem lop_shape {lim : Nat} {o : Oper} {t : List Value} : (∀ σ, lop P E lim o t σ = none) ∨ ∃ f : AS → Option (Value × AS), (∀ σ, lop P E lim o t σ = some (f σ)) ∧ Good lim f := by
  have val : ∀ x : Option Value, Good lim (fun σ => x.map fun v => (v, σ)) := fun x => by
    cases x with
    | none => exact good_none
    | some v => exact good_some v
  unfold lop
  cases o.op <;> dsimp only <;> try exact .inl fun _ => rfl
  case indexAddr xt x i =>
    rcases h1 : asL (ev t x) with _ | ⟨c, n, e, g⟩
    · rcases h2 : asP (ev t x) with _ | ⟨c, k⟩
      · exact .inl fun _ => rfl
      · exact .inr ⟨_, fun _ => rfl, val _⟩
    · exact .inr ⟨_, fun _ => rfl, val _⟩
  case load ty x =>
    rcases h2 : asP (ev t x) with _ | ⟨c, k⟩
    · exact .inl fun _ => rfl
    · exact .inr ⟨_, fun _ => rfl, val _⟩
  case fieldAddr s x f =>
    rcases h2 : asP (ev t x) with _ | ⟨c, k⟩
    · exact .inl fun _ => rfl
    · exact .inr ⟨_, fun _ => rfl, val _⟩
  case nilCheck x =>
    rcases h2 : asP (ev t x) with _ | ⟨c, k⟩
    · exact .inl fun _ => rfl
    · exact .inr ⟨_, fun _ => rfl, good_some _⟩
  case extract x i =>
    cases ((asP (ev t x)).isSome || (asL (ev t x)).isSome) with
    | false => exact .inl fun _ => rfl
    | true => exact .inr ⟨_, fun _ => rfl, good_none⟩
  case sliceToArrayPointer d x =>
    rcases h1 : asL (ev t x) with _ | ⟨c, n, e, g⟩
    · exact .inl fun _ => rfl
    · exact .inr ⟨_, fun _ => rfl, val _⟩
  case slice st x lo hi mx =>
    rcases h1 : asL (ev t x) with _ | ⟨c, n, e, g⟩
    · rcases h2 : asP (ev t x) with _ | ⟨c, k⟩
      · exact .inl fun _ => rfl
      · exact .inr ⟨_, fun _ => rfl, val _⟩
    · exact .inr ⟨_, fun _ => rfl, val _⟩
  case convert src dst x =>
    rcases h1 : asL (ev t x) with _ | ⟨c, n, e, g⟩
    · exact .inl fun _ => rfl
    · exact .inr ⟨_, fun _ => rfl, Good.cond good_whole (val _)⟩
  case binOp op bt x y g =>
    rcases h1 : asL (ev t x) with _ | ⟨c, n, e, g⟩
    · rcases h2 : asL (ev t y) with _ | ⟨c, n, e, g⟩
      · exact .inl fun _ => rfl
      · dsimp only
        split
        · exact .inr ⟨_, fun _ => rfl, val _⟩
        · exact .inr ⟨_, fun _ => rfl, good_none⟩
        · rename_i h; cases h
    · split
      · exact .inr ⟨_, fun _ => rfl, val _⟩
      · exact .inr ⟨_, fun _ => rfl, good_none⟩
      · rename_i h; cases h
  case buildSlice ty len parts =>
    cases E.rows o with
    | true => exact .inl fun _ => rfl
    | false => exact .inr ⟨_, fun _ => rfl, val _⟩
  case call c =>
    split
    · split
      · rename_i x _ _ _
        rcases h1 : asL x with _ | ⟨c, n, e, g⟩
        · exact .inl fun _ => rfl
        · exact .inr ⟨_, fun _ => rfl, good_some _⟩
      · exact .inl fun _ => rfl
    · unfold appendL
      split
      · rename_i s x _
        split
        · exact .inr ⟨_, fun _ => rfl, good_appBody fun _ _ _ _ => (good_some _).cond good_none⟩
        · exact .inr ⟨_, fun _ => rfl, good_appBody fun _ _ _ _ => (good_some _).cond ((good_grow _ _ _ _).cond good_none)⟩
        · rename_i c m e tt _
          refine .inr ⟨_, fun _ => rfl, good_appBody fun elem i new n => ?_⟩
          intro σ v σ' h hw
          dsimp only at h
          split at h
          · rename_i k e' T hg
            cases hb : (Nat.ble ((m + n) * i.bytes) 70368744177664 && Nat.beq e i.size && Nat.beq k c.length && Nat.beq e' e && Nat.beq T elem && Nat.ble lim tt) with
            | false => rw [hb] at h; cases h
            | true =>
              rw [hb, cond_true] at h
              cases h
              have hlt := lt_of_get hw hg
              simp only [Bool.and_eq_true] at hb
              refine ⟨kept_put (Nat.ble_eq ▸ hb.2) hlt (fun _ y q hy hq => by cases hy; cases hq), fun τ hl => ⟨τ.put tt _, ?_, led_put hl hlt _⟩⟩
              dsimp only
              rw [get_like hw hl hg]
              dsimp only
              simp only [hb, Bool.and_self, cond_true]
          · cases h
        · cases E.rows o with
          | true => exact .inl fun _ => rfl
          | false =>
            simp only [cond_false]
            split
            · exact .inr ⟨_, fun _ => rfl, good_appBody fun _ _ _ _ => (good_some _).cond ((good_grow _ _ _ _).cond good_none)⟩
            · exact .inl fun _ => rfl
      · exact .inl fun _ => rfl
    · unfold copyL
      split
      · rename_i d x _
        split
        · rename_i c n e g _
          refine .inr ⟨_, fun _ => rfl, ?_⟩
          split
          · split
            · refine Good.cond ?_ good_none
              intro σ v σ' h hw
              dsimp only at h
              split at h
              · rename_i σ1 hs
                cases h
                obtain ⟨h1, h2⟩ := setCells_good _ _ _ _ hs hw
                refine ⟨h1, fun τ hl => ?_⟩
                obtain ⟨τ', e1, e2⟩ := h2 τ hl
                exact ⟨τ', by dsimp only; rw [e1], e2⟩
              · cases h
            · exact good_none
          · exact good_none
        · exact .inl fun _ => rfl
      · exact .inl fun _ => rfl
    · exact .inl fun _ => rfl

theorem good_oper {lim : Nat} {o : Oper} {t : List Value} : Good lim (fun σ => operA P E rec lim o t σ) := by
  unfold operA
  rcases lop_shape (P := P) (E := E) (lim := lim) (o := o) (t := t) with h | ⟨f, h1, h2⟩
  · simp only [h]
    cases hf : freezes P E o with
    | false =>
      refine (good_operB (P := P) hE hr (o := o) (t := t)).ext fun σ => ?_
      rcases operB P E rec lim o t σ with _ | ⟨v, σ'⟩ <;> rfl
    | true =>
      intro σ v σ' hh hw
      dsimp only at hh
      split at hh
      · rename_i u σ1 ho
        rw [cond_true] at hh
        obtain ⟨k1, l1⟩ := good_operB hE hr (o := o) (t := t) σ u σ1 ho hw
        obtain ⟨k2, l2⟩ := good_freeze (P := P) σ1 v σ' hh (k1.wf hw)
        refine ⟨⟨Nat.le_trans k1.next k2.next, fun hw => k2.wf (k1.wf hw), fun id h1 h2 => by rw [k2.old id h2 (by have := k1.next; omega)]; exact k1.old id h1 h2⟩, fun τ hl => ?_⟩
        obtain ⟨τ1, e1, e2⟩ := l1 τ hl
        obtain ⟨τ2, e3, e4⟩ := l2 τ1 e2.like
        dsimp only at e1 e3
        refine ⟨τ2, ?_, e2.trans e4 k2.next⟩
        dsimp only
        rw [e1]
        dsimp only
        rw [cond_true, hl.1]
        exact e3
      · cases hh
  · simp only [h1]; exact h2

theorem good_ops {lim : Nat} {ops : Array Oper} {q : Bool} : ∀ (l : List Oper) (t : List Value), Good lim (fun σ => opsA P E rec ops q lim l t σ)
  | [], t => good_some t
  | o :: rest, t => by
    unfold opsA
    refine Good.cond ?_ (good_ops rest _)
    refine (Good.quiet (f := fun l σ => operA P E rec l o t σ) (fun _ => good_oper hE hr) q).map (fun v σ1 => opsA P E rec ops q lim rest (putT t o.dst v) σ1) (fun v => good_ops rest (putT t o.dst v)) fun σ => ?_
    rcases operA P E rec (bif q then σ.next else lim) o t σ with _ | ⟨v, σ1⟩ <;> rfl

theorem good_op1 {lim : Nat} {ops : Array Oper} {q : Bool} {o : Oper} {t : List Value} : Good lim (fun σ => op1 P E rec ops q lim o t σ) := by
  unfold op1
  exact Good.cond (Good.quiet (f := fun l σ => operA P E rec l o t σ) (fun _ => good_oper hE hr) q) (good_some _)

theorem good_opsI {lim : Nat} {ops : Array Oper} : ∀ (l : List (Nat × Bool)) (t : List Value), Good lim (fun σ => opsI P E rec ops lim l t σ)
  | [], t => good_some t
  | x :: l, t => by
    unfold opsI
    cases ops[x.1]? with
    | none => exact good_none
    | some o =>
      refine (good_op1 (P := P) (lim := lim) hE hr (q := x.2) (ops := ops) (o := o) (t := t)).map (fun v σ1 => opsI P E rec ops lim l (putT t o.dst v) σ1) (fun v => good_opsI l _) fun σ => ?_
      dsimp only
      rcases op1 P E rec ops x.2 lim o t σ with _ | ⟨v, σ1⟩ <;> rfl

omit hE hr in
theorem good_take {lim : Nat} : ∀ ds, Good lim (fun σ => (takeA P lim ds σ).map fun σ' => ((), σ'))
  | [] => good_some ()
  | d :: ds => by
    refine (good_runA (P := P) (lim := lim) (Instr.takeDeferred d)).map (fun c σ1 => match c with | [] => (takeA P lim ds σ1).map fun σ' => ((), σ') | _ => none) (fun c => ?_) fun σ => ?_
    · cases c
      · exact good_take ds
      · exact good_none
    · simp only [takeA]
      rcases h : runA P lim (Instr.takeDeferred d) σ with _ | ⟨o, σ1⟩
      · rfl
      · cases o <;> rfl

omit hE in
theorem good_then {lim : Nat} {f : AS → Option (Out × AS)} (hf : Good lim f) (g : Out → Option Task) (k : Out → Out) {h : AS → Option (Out × AS)}
    (e : ∀ σ, h σ = andThen (f σ) fun v σ1 => (g v).elim (some (k v, σ1)) fun T => rec lim T σ1) : Good lim h := by
  refine hf.map _ (fun v => ?_) e
  cases g v
  · exact good_some _
  · exact hr _ _

theorem good_step {lim : Nat} (k : Task) : Good lim (fun σ => stepA P E rec lim k σ) := by
  cases k with
  | code x c t ds =>
    cases c with
    | skip => exact good_some _
    | label => exact good_some _
    | exit id => exact good_some _
    | goto l => exact good_some _
    | ret => exact good_some _
    | refuse m => exact good_none
    | scope body => exact hr _ _
    | region id ops draw =>
      simp only [stepA]
      refine Good.cond ?_ ?_
      · split
        · rename_i pl _
          refine (good_opsI (P := P) (lim := lim) hE hr (ops := ops) pl.l t).map (fun t1 σ1 => some (.done .normal t1 ds, σ1)) (fun t1 => good_some _) fun σ => ?_
          rcases opsI P E rec ops lim pl.l t σ with _ | ⟨t1, σ1⟩ <;> rfl
        · exact good_none
      · refine (good_ops (P := P) (lim := lim) hE hr (q := false) (ops := ops) ops.toList t).map (fun t1 σ1 => some (.done .normal t1 ds, σ1)) (fun t1 => good_some _) fun σ => ?_
        rcases opsA P E rec ops false lim ops.toList t σ with _ | ⟨t1, σ1⟩ <;> rfl
    | seq a b =>
      simp only [stepA]
      refine good_then hr (hr lim (.code x a t ds)) (fun | .done .normal t1 ds1 => some (.code x b t1 ds1) | _ => none) id fun σ => ?_
      rcases rec lim (.code x a t ds) σ with _ | ⟨o, σ1⟩
      · rfl
      · rcases o with ⟨e, t1, ds1⟩ | v
        · cases e <;> rfl
        · rfl
    | cond c a b =>
      simp only [stepA]
      split
      · exact hr _ _
      · exact good_none
    | block id body =>
      simp only [stepA]
      refine good_then hr (hr lim (.code x body t ds)) (fun _ => none) (fun | .done (.exit id') t1 ds1 => .done (bif Nat.beq id' id then .normal else .exit id') t1 ds1 | o => o) fun σ => ?_
      rcases rec lim (.code x body t ds) σ with _ | ⟨o, σ1⟩
      · rfl
      · rcases o with ⟨e, t1, ds1⟩ | v
        · cases e <;> rfl
        · rfl
    | loop body =>
      simp only [stepA]
      refine good_then hr (hr lim (.code x body t ds)) (fun | .done .normal t1 ds1 => some (.code x (.loop body) t1 ds1) | _ => none) id fun σ => ?_
      rcases rec lim (.code x body t ds) σ with _ | ⟨o, σ1⟩
      · rfl
      · rcases o with ⟨e, t1, ds1⟩ | v
        · cases e <;> rfl
        · rfl
    | rangeFunc f params assign body =>
      simp only [stepA]
      unfold rangeA
      have main : ∀ l m, Good lim (fun τ => andThen (applyA P E rec lim (ev t f) [.func (.yield l) #[] #[]] τ) fun _ σ2 => rangeEnd P lim t (m ++ ds) l σ2) := by
        intro l m
        refine (good_apply hE hr).bind fun _ => ?_
        refine (good_runA (P := P) (lim := lim) (Instr.endLoop l)).map (fun c σ3 => match c with
          | none => some (.done .normal t (m ++ ds), σ3)
          | some .ret => some (.done .ret t (m ++ ds), σ3)
          | some (.exit id) => some (.done (.exit id) t (m ++ ds), σ3)
          | some (.goto g) => some (.done (.goto g) t (m ++ ds), σ3)
          | _ => none) (fun c => ?_) fun τ => ?_
        · rcases c with _ | c
          · exact good_some _
          · cases c <;> first | exact good_some _ | exact good_none
        · unfold rangeEnd
          rcases runA P lim (Instr.endLoop l) τ with _ | ⟨c, σ3⟩
          · rfl
          · rcases c with _ | c
            · rfl
            · cases c <;> rfl
      refine (good_runA (P := P) (lim := lim) (Instr.enterLoop x.fn t.toArray params assign body x.round)).map (fun lm τ => match markIds lm.2 with
        | some m => andThen (applyA P E rec lim (ev t f) [.func (.yield lm.1) #[] #[]] τ) fun _ σ2 => rangeEnd P lim t (m ++ ds) lm.1 σ2
        | none => none) (fun lm => ?_) fun τ => ?_
      · obtain ⟨l, mark⟩ := lm
        dsimp only
        rcases markIds mark with _ | m
        · exact good_none
        · exact main l m
      · rcases runA P lim (Instr.enterLoop x.fn t.toArray params assign body x.round) τ with _ | ⟨⟨l, mark⟩, σ1⟩
        · rfl
        · simp only [andThen]
          rcases markIds mark with _ | m
          · rfl
          · dsimp only
            rcases applyA P E rec lim (ev t f) [.func (.yield l) #[] #[]] σ1 with _ | ⟨_, _⟩ <;> rfl
  | scope x body cur t ds =>
    simp only [stepA]
    refine good_then hr (hr lim (.code x cur t ds)) (fun | .done (.goto l) t1 ds1 => (findLabel body l).map fun rest => .scope x body rest t1 ds1 | _ => none) id fun σ => ?_
    rcases rec lim (.code x cur t ds) σ with _ | ⟨o, σ1⟩
    · rfl
    · rcases o with ⟨e, t1, ds1⟩ | v
      · cases e with
        | goto l => simp only [andThen]; cases findLabel body l <;> rfl
        | _ => rfl
      · rfl
  | call f args =>
    simp only [stepA]
    refine Good.cond ?_ good_none
    split
    · split
      · rename_i fn _ _ c _
        refine (hr lim (.code ⟨f, none⟩ c (args ++ List.replicate (fn.ntmps - args.length) undef) [])).map (fun o σ1 => match o with
          | .done e t1 ds1 => (match e with
            | .normal | .ret => andThen ((takeA P lim ds1 σ1).map fun σ' => ((), σ')) fun _ σ2 => andThen (runA P lim (results fn t1.toArray) σ2) fun v σ3 => some (.val v, σ3)
            | _ => none)
          | _ => none) (fun o => ?_) fun σ => ?_
        · rcases o with ⟨e, t1, ds1⟩ | v
          · cases e
            case normal => exact (good_take ds1).bind fun _ => (good_runA _).bind fun _ => good_some _
            case ret => exact (good_take ds1).bind fun _ => (good_runA _).bind fun _ => good_some _
            all_goals exact good_none
          · exact good_none
        · rcases rec lim (.code ⟨f, none⟩ c (args ++ List.replicate (fn.ntmps - args.length) undef) []) σ with _ | ⟨o, σ1⟩
          · rfl
          · rcases o with ⟨e, t1, ds1⟩ | v
            · cases e <;> first | rfl | (simp only [andThen]; rcases takeA P lim ds1 σ1 with _ | σ2 <;> first | rfl | (simp only [Option.map]; rcases runA P lim (results fn t1.toArray) σ2 with _ | ⟨_, _⟩ <;> rfl))
            · rfl
      · exact good_none
    · exact good_none
  | round l f t assign body =>
    simp only [stepA]
    refine (hr lim (.code ⟨f, some l⟩ assign t [])).map (fun o σ1 => match o with
      | .done .normal t1 [] => andThen (runA P lim (Instr.beginRound l) σ1) fun _ σ2 => andThen (rec lim (.code ⟨f, some l⟩ body t1 []) σ2) fun o σ3 => (match o with
            | .done e _ [] => andThen (runA P lim (Instr.endRound l (match e with | .normal => none | .ret => some .ret | .exit id => some (.exit id) | .goto g => some (.goto g))) σ3) fun v σ4 => some (.val v, σ4)
            | _ => none)
      | _ => none) (fun o => ?_) fun σ => ?_
    · rcases o with ⟨e, t1, ds1⟩ | v
      · cases e with
        | normal =>
          cases ds1 with
          | nil =>
            refine (good_runA _).bind fun _ => (hr _ _).bind fun o => ?_
            rcases o with ⟨e, t2, ds2⟩ | v
            · cases ds2 with
              | nil => exact (good_runA _).bind fun _ => good_some _
              | cons _ _ => exact good_none
            · exact good_none
          | cons _ _ => exact good_none
        | _ => exact good_none
      · exact good_none
    · rcases rec lim (.code ⟨f, some l⟩ assign t []) σ with _ | ⟨o, σ1⟩
      · rfl
      · rcases o with ⟨e, t1, ds1⟩ | v
        · cases e with
          | normal =>
            cases ds1 with
            | nil =>
              simp only [andThen]
              rcases runA P lim (Instr.beginRound l) σ1 with _ | ⟨u, σ2⟩
              · rfl
              · dsimp only
                rcases rec lim (.code ⟨f, some l⟩ body t1 []) σ2 with _ | ⟨o, σ3⟩
                · rfl
                · rcases o with ⟨e, t2, ds2⟩ | v
                  · cases ds2 with
                    | nil =>
                      dsimp only
                      rcases runA P lim (Instr.endRound l _) σ3 with _ | ⟨_, _⟩ <;> rfl
                    | cons _ _ => rfl
                  · rfl
            | cons _ _ => rfl
          | _ => rfl
        · rfl
end

theorem good_run {E : Env} (hE : OvGood E) : ∀ n, RecGood (run P E n)
  | 0 => fun _ _ => good_none
  | n + 1 => fun _ k => good_step hE (good_run hE n) k

end Go.Va

/-
  SIMULATION: the loops over functions, the deferred calls of them; cap.
-/
namespace Go.Va
open Go.RowKit
variable {P : Program} {K : FuncId → Code → Prop} {W0 : World} {N0 : Nat}

def lpRel (K : FuncId → Code → Prop) (β : Inj) (r r' : Loop) : Prop := oRel β (.loop r) (.loop r') ∧ K r.fn r.assign ∧ K r.fn r.body

theorem sim_getLoop {β : Inj} {l : Nat} {e : Ent} (he : β l = some e) : Sim P K W0 N0 β (Instr.getLoop l) (Instr.getLoop e.b) (fun β' r r' => β' = β ∧ lpRel K β r r') := by
  unfold Instr.getLoop
  refine Sim.getObj_bind he fun o o' ho hL => ?_
  cases ho with
  | loop h1 h2 h3 h4 h5 h6 ht hd h0 he' =>
    have := hL _ rfl
    exact .ret ⟨rfl, .loop h1 h2 h3 h4 h5 h6 ht hd h0 he', this⟩
  | _ => exact Sim.stuck

/-- The marks of a frame for the deferred calls of its loops over functions. -/
def dRel (β : Inj) : List Nat → List Deferred → Prop
  | [], [] => True
  | i :: l, d :: m => (∃ e a, β i = some e ∧ e.o = 0 ∧ d = { target := .collected e.b, args := a }) ∧ dRel β l m
  | _, _ => False

theorem dRel.mono {β β' : Inj} (hb : β.le β') : ∀ {l : List Nat} {m : List Deferred}, dRel β l m → dRel β' l m
  | [], [], _ => trivial
  | _ :: _, _ :: _, h => by
    obtain ⟨⟨e, a, h1, h2⟩, h3⟩ := h
    exact ⟨⟨e, a, hb.m _ _ h1, h2⟩, dRel.mono hb h3⟩
  | [], _ :: _, h => h.elim
  | _ :: _, [], h => h.elim
theorem dRel.append {β : Inj} : ∀ {l l2 : List Nat} {m m2 : List Deferred}, dRel β l m → dRel β l2 m2 → dRel β (l ++ l2) (m ++ m2)
  | [], _, [], _, _, h => h
  | _ :: _, _, _ :: _, _, h, k => ⟨h.1, dRel.append h.2 k⟩
  | [], _, _ :: _, _, h, _ => h.elim
  | _ :: _, _, [], _, h, _ => h.elim

def rdRel (β : Inj) : Option Nat → Option Nat → Prop
  | none, none => True
  | some l, some l' => ∃ e, β l = some e ∧ e.o = 0 ∧ l' = e.b
  | _, _ => False
theorem rdRel.mono {β β' : Inj} (hb : β.le β') {a a' : Option Nat} (h : rdRel β a a') : rdRel β' a a' := by
  cases a <;> cases a' <;> first | exact h | skip
  obtain ⟨e, h1, h2⟩ := h
  exact ⟨e, hb.m _ _ h1, h2⟩

def enRel (β : Inj) (r r' : Nat × List Deferred) : Prop := ∃ e, β r.1 = some e ∧ e.o = 0 ∧ r'.1 = e.b ∧ ∀ m, markIds r.2 = some m → dRel β m r'.2

theorem sim_enterLoop {β : Inj} {fn : FuncId} {t t' : Array Value} (ht : arrRel β t t') {params : Array Tmp} {assign body : Code} (hK1 : K fn assign) (hK2 : K fn body) {a a' : Option Nat} (ha : rdRel β a a') :
    Sim P K W0 N0 β (Instr.enterLoop fn t params assign body a) (Instr.enterLoop fn t' params assign body a') enRel := by
  unfold Instr.enterLoop
  have fin : ∀ (β1 : Inj) (d : Nat) (ed : Ent) (mk mk' : List Deferred), β.le β1 → β1 d = some ed → ed.o = 0 → (∀ m, markIds mk = some m → dRel β1 m mk') →
      Sim P K W0 N0 β1 (do pure (← newObj (.loop { state := .ready, pending := none, fn, tmps := t, params, assign, body, defers := d }), mk)) (do pure (← newObj (.loop { state := .ready, pending := none, fn, tmps := t', params, assign, body, defers := ed.b }), mk')) enRel := by
    intro β1 d ed mk mk' hb hd h0 hm
    refine Sim.newObj_bind (.loop rfl rfl rfl rfl rfl rfl (ht.mono hb) hd h0 rfl) (fun r hr => by cases hr; exact ⟨hK1, hK2⟩) fun β2 r e hb2 he h1 _ => ?_
    exact .ret ⟨e, he, h1, rfl, fun m h => (hm m h).mono hb2⟩
  cases a with
  | none =>
    cases a' with
    | some _ => exact ha.elim
    | none =>
      simp only [pure_bind]
      refine Sim.newObj_bind .def1 (fun r hr => by cases hr) fun β1 r e hb he h0 _ => ?_
      refine fin β1 r e _ _ hb he h0 fun m hm => ?_
      simp only [markIds, Option.some.injEq] at hm
      subst hm
      exact ⟨⟨e, _, he, h0, rfl⟩, trivial⟩
  | some l =>
    cases a' with
    | none => exact ha.elim
    | some l' =>
      obtain ⟨e, he, h0, rfl⟩ := ha
      simp only [pure_bind]
      refine Sim.bind0 (sim_getLoop he) fun r r' hr => ?_
      obtain ⟨hr, _⟩ := hr
      cases hr with
      | loop h1 h2 h3 h4 h5 h6 ht' hd h0' he' =>
        rw [he']
        refine fin β _ _ _ _ (.refl _) hd h0' fun m hm => ?_
        simp only [markIds, Option.some.injEq] at hm
        subst hm
        trivial

theorem fold_rel {β : Inj} : ∀ (ps : List Tmp) {as as' : List Value} {t t' : Array Value}, lRel β as as' → arrRel β t t' →
    arrRel β ((ps.zip as).foldl (fun tmps (x : Tmp × Value) => tmps.setIfInBounds x.1 x.2) t) ((ps.zip as').foldl (fun tmps (x : Tmp × Value) => tmps.setIfInBounds x.1 x.2) t')
  | [], _, _, _, _, _, ht => by simpa using ht
  | p :: ps, [], [], _, _, _, ht => by simpa using ht
  | p :: ps, a :: as, a' :: as', t, t', h, ht => by
    simp only [List.zip_cons_cons, List.foldl_cons]
    refine fold_rel ps h.2 (arrRel_iff.2 ?_)
    simp only [Array.toList_setIfInBounds]
    exact lRel.set h.1 _ (arrRel_iff.1 ht)
  | p :: ps, [], _ :: _, _, _, h, _ => h.elim
  | p :: ps, _ :: _, [], _, _, h, _ => h.elim

/-- A round is begun. -/
def ynRel (K : FuncId → Code → Prop) (β : Inj) (n n' : Next) : Prop :=
  ∃ l e fn t t' a b, n = .round l fn t a b ∧ n' = .round e.b fn t' a b ∧ β l = some e ∧ e.o = 0 ∧ arrRel β t t' ∧ K fn a ∧ K fn b

theorem sim_yield {β : Inj} {l : Nat} {e : Ent} (he : β l = some e) (h0 : e.o = 0) {as as' : Array Value} (ha : arrRel β as as') :
    Sim P K W0 N0 β (Instr.yield l as) (Instr.yield e.b as') (ynRel K) := by
  unfold Instr.yield
  refine Sim.bind0 (sim_getLoop he) fun r r' hr => ?_
  obtain ⟨hr, hk⟩ := hr
  cases hr with
  | loop h1 h2 h3 h4 h5 h6 ht' hd h0' he' =>
    rw [← ha.1, h4]
    by_cases hs : as.size ≠ r.params.size
    · rw [if_pos hs, if_pos hs]
      exact Sim.stuck
    · rw [if_neg hs, if_neg hs]
      dsimp only
      have hh := fold_rel r.params.toList (arrRel_iff.1 ha) ht'
      rw [← Array.toList_zip, ← Array.toList_zip, Array.foldl_toList, Array.foldl_toList] at hh
      rw [h3, h5, h6]
      exact .ret ⟨l, e, r.fn, _, _, r.assign, r.body, rfl, rfl, he, h0, hh, hk.1, hk.2⟩

theorem sim_beginRound {β : Inj} {l : Nat} {e : Ent} (he : β l = some e) : Sim P K W0 N0 β (Instr.beginRound l) (Instr.beginRound e.b) (fun β' _ _ => β' = β) := by
  unfold Instr.beginRound
  refine Sim.bind0 (sim_getLoop he) fun r r' hr => ?_
  obtain ⟨hr, hk⟩ := hr
  cases hr with
  | loop h1 h2 h3 h4 h5 h6 ht' hd h0' he' =>
    refine Sim.setObj_bind he (.loop rfl h2 h3 h4 h5 h6 ht' hd h0' he') (fun q hq => by cases hq; exact hk) ?_
    rw [h1]
    cases r.state
    · exact .ret rfl
    all_goals exact Sim.runtimePanic

theorem sim_endRound {β : Inj} {l : Nat} {e : Ent} (he : β l = some e) (j : Option Code) : Sim P K W0 N0 β (Instr.endRound l j) (Instr.endRound e.b j) (fun β' v v' => β' = β ∧ vRel β v v') := by
  unfold Instr.endRound
  refine Sim.bind0 (sim_getLoop he) fun r r' hr => ?_
  obtain ⟨hr, hk⟩ := hr
  cases hr with
  | loop h1 h2 h3 h4 h5 h6 ht' hd h0' he' =>
    refine Sim.setObj_bind he (.loop rfl rfl h3 h4 h5 h6 ht' hd h0' he') (fun q hq => by cases hq; exact hk) ?_
    exact .ret ⟨rfl, .bool _⟩

theorem sim_endLoop {β : Inj} {l : Nat} {e : Ent} (he : β l = some e) : Sim P K W0 N0 β (Instr.endLoop l) (Instr.endLoop e.b) (fun β' v v' => β' = β ∧ v' = v) := by
  unfold Instr.endLoop
  refine Sim.bind0 (sim_getLoop he) fun r r' hr => ?_
  obtain ⟨hr, hk⟩ := hr
  cases hr with
  | loop h1 h2 h3 h4 h5 h6 ht' hd h0' he' =>
    rw [h1]
    cases hb : (r.state == LoopState.busy) with
    | true => simp only [if_true]; exact Never.sim (Never.bind (never_runtimePanic _))
    | false =>
      simp only [Bool.false_eq_true, if_false]
      refine Sim.setObj_bind he (.loop rfl h2 h3 h4 h5 h6 ht' hd h0' he') (fun q hq => by cases hq; exact hk) ?_
      exact .ret ⟨rfl, h2⟩

theorem sim_takeDeferred {β : Inj} {l : Nat} {e : Ent} (he : β l = some e) : Sim P K W0 N0 β (Instr.takeDeferred l) (Instr.takeDeferred e.b) (fun β' v v' => β' = β ∧ v' = v) := by
  unfold Instr.takeDeferred
  refine Sim.getObj_bind he fun o o' ho hL => ?_
  cases ho with
  | def1 =>
    refine Sim.setObj_bind he .def0 (fun q hq => by cases hq) ?_
    exact .ret ⟨rfl, rfl⟩
  | _ => exact Sim.stuck

theorem sim2_cap {β : Inj} {_lim : Nat} {argTypes : Array TypeId} {ty : TypeId} {args : List Value} {args' : Array Value} (ha : lRel β args args'.toList) :
    Sim2 P K W0 N0 β (fun σ => capA P argTypes args σ) (Builtin.cap_ argTypes ty args') := by
  intro σ w v σ' hw hR hr hf
  simp only [capA] at hr
  split at hr
  case h_2 => cases hr
  rename_i sType base l cap h0
  have e0 : args'.toList.length = 1 := by rw [← ha.length]; rfl
  obtain ⟨x', hx'⟩ : ∃ x', args'.toList = [x'] := by
    cases h : args'.toList with
    | nil => rw [h] at e0; simp at e0
    | cons a r => cases r with
      | nil => exact ⟨a, rfl⟩
      | cons b r => rw [h] at e0; simp at e0
  have ea : args'[0]? = some x' := by rw [← Array.getElem?_toList, hx']; rfl
  rw [hx'] at ha
  have hv : vRel β (.slice base l cap) x' := ha.1
  split at hr
  case h_2 => cases hr
  rename_i elem hd
  have run : ∀ c b', x' = .slice b' l c → (Builtin.cap_ argTypes ty args').run P w = .ok (goInt c) w := by
    intro c b' hx
    unfold Builtin.cap_
    rw [h0, ea, hx]
    dsimp only
    rw [run_bind', run_underlying' _ w _ hd]
    rfl
  cases base with
  | none =>
    simp only [Option.some.injEq, Prod.mk.injEq] at hr
    obtain ⟨rfl, rfl⟩ := hr
    cases hv
    exact ⟨_, w, β, run _ _ rfl, .refl _ _, hR, .int _ _⟩
  | some p =>
    dsimp only at hr
    cases hc : (p.spot.isNone && σ.exact p cap) with
    | false => simp [hc] at hr
    | true =>
      simp only [hc, cond_true, Option.some.injEq, Prod.mk.injEq] at hr
      obtain ⟨rfl, rfl⟩ := hr
      simp only [Bool.and_eq_true] at hc
      cases hv with
      | slice _ h hcap =>
        have := exact_cap hR hcap hc.2
        exact ⟨_, w, β, run _ _ rfl, .refl _ _, hR, by rw [this]; exact .int _ _⟩
      | void a' c' h => rw [Option.isNone_iff_eq_none] at hc; rw [hc.1] at h; cases h

end Go.Va

/-
  THE MACHINE: the steps of a frame, which may be that of a round of a loop over a function; what it is that a call lands.
-/
namespace Go.Va
variable {P : Program}

/-- A frame that runs. -/
def Fr (b : Frame) (t : Array Value) (d : List Deferred) (k : List Item) : Frame := { b with tmps := t, defers := d, todo := k, mode := .run }

def evA (t : Array Value) : Operand → Value
  | .tmp i => t.getD i undef
  | .const v => v
  | .global g => .pointer (some ⟨g, 0, none⟩)
  | .func f => .func (.func f) #[] #[]

def putA (t : Array Value) (dst : Option Tmp) (v : Value) : Array Value :=
  match dst with
  | some d => t.setIfInBounds d v
  | none => t

theorem Fr_eval (b : Frame) (t : Array Value) (d : List Deferred) (k : List Item) : (Fr b t d k).eval = evA t := funext fun x => by cases x <;> rfl

theorem Fr_finish (b : Frame) (t : Array Value) (d : List Deferred) (ops : Array Oper) (i : Nat) (rest : List Nat) (k : List Item) (v : Value) :
    (Fr b t d (.inRegion ops (i :: rest) :: k)).finish v = Fr b (putA t ((ops[i]?).bind (·.dst)) v) d (.inRegion ops rest :: k) := by
  cases h : (ops[i]?).bind (·.dst) <;> simp [Frame.finish, Fr, putA, h]

section moves
variable {b : Frame} {t : Array Value} {d : List Deferred} {k : List Item} {cs : List Frame} {w : World}

theorem st_skip : step P (lone (Fr b t d (.code .skip :: k)) cs w) = .next (lone (Fr b t d k) cs w) := step_lone_go (by simp [stepG, stepG.exec, Fr])
theorem st_label {l : Nat} : step P (lone (Fr b t d (.code (.label l) :: k)) cs w) = .next (lone (Fr b t d k) cs w) := step_lone_go (by simp [stepG, stepG.exec, Fr])
theorem st_inBlock {l : Nat} : step P (lone (Fr b t d (.inBlock l :: k)) cs w) = .next (lone (Fr b t d k) cs w) := step_lone_go (by simp [stepG, stepG.exec, Fr])
theorem st_inScope {l : Code} : step P (lone (Fr b t d (.inScope l :: k)) cs w) = .next (lone (Fr b t d k) cs w) := step_lone_go (by simp [stepG, stepG.exec, Fr])
theorem st_seq {x y : Code} : step P (lone (Fr b t d (.code (.seq x y) :: k)) cs w) = .next (lone (Fr b t d (.code x :: .code y :: k)) cs w) := step_lone_go (by simp [stepG, stepG.exec, Fr])
theorem st_cond {c : Operand} {x y : Code} {v : Bool} (h : evA t c = .bool v) :
    step P (lone (Fr b t d (.code (.cond c x y) :: k)) cs w) = .next (lone (Fr b t d (.code (bif v then x else y) :: k)) cs w) :=
  step_lone_go (by
    have := congrFun (Fr_eval b t d (.code (.cond c x y) :: k)) c
    simp only [Fr] at this
    simp [stepG, stepG.exec, Fr, this, h])
theorem st_block {id : Nat} {c : Code} : step P (lone (Fr b t d (.code (.block id c) :: k)) cs w) = .next (lone (Fr b t d (.code c :: .inBlock id :: k)) cs w) := step_lone_go (by simp [stepG, stepG.exec, Fr])
theorem st_loop {c : Code} : step P (lone (Fr b t d (.code (.loop c) :: k)) cs w) = .next (lone (Fr b t d (.code c :: .inLoop c :: k)) cs w) := step_lone_go (by simp [stepG, stepG.exec, Fr])
theorem st_inLoop {c : Code} : step P (lone (Fr b t d (.inLoop c :: k)) cs w) = .next (lone (Fr b t d (.code c :: .inLoop c :: k)) cs w) := step_lone_go (by simp [stepG, stepG.exec, Fr])
theorem st_scope {c : Code} : step P (lone (Fr b t d (.code (.scope c) :: k)) cs w) = .next (lone (Fr b t d (.code c :: .inScope c :: k)) cs w) := step_lone_go (by simp [stepG, stepG.exec, Fr])
theorem st_exit {id : Nat} {k' : List Item} (h : exitTo id k = some k') : step P (lone (Fr b t d (.code (.exit id) :: k)) cs w) = .next (lone (Fr b t d k') cs w) :=
  step_lone_go (by simp [stepG, stepG.exec, Fr, h])
theorem st_goto {l : Nat} {k' : List Item} (h : gotoIn l k = some k') : step P (lone (Fr b t d (.code (.goto l) :: k)) cs w) = .next (lone (Fr b t d k') cs w) :=
  step_lone_go (by simp [stepG, stepG.exec, Fr, h])
theorem st_region {id : Nat} {ops : Array Oper} : step P (lone (Fr b t d (.code (.region id ops false) :: k)) cs w) = .next (lone (Fr b t d (.inRegion ops (List.range ops.size) :: k)) cs w) :=
  step_lone_go (by simp [stepG, stepG.exec, Fr])
theorem st_region_draw {id : Nat} {ops : Array Oper} : step P (lone (Fr b t d (.code (.region id ops true) :: k)) cs w) =
    .next (lone (Fr b t d (.inRegion ops (Region.schedule (P.follows .mixedOrders) ops (w.tape w.drawn (.order b.fn id))) :: k)) cs { w with drawn := w.drawn + 1 }) :=
  step_lone_go (by simp [stepG, stepG.exec, Fr, choose, Sem.run, Question.forced, Question.cut])
theorem st_region_end {ops : Array Oper} : step P (lone (Fr b t d (.inRegion ops [] :: k)) cs w) = .next (lone (Fr b t d k) cs w) := step_lone_go (by simp [stepG, stepG.exec, Fr])
theorem st_unwanted {ops : Array Oper} {i : Nat} {rest : List Nat} (h : ((ops[i]?).map (Region.wanted · (yielded ops t))).getD false = false) :
    step P (lone (Fr b t d (.inRegion ops (i :: rest) :: k)) cs w) = .next (lone (Fr b (putA t ((ops[i]?).bind (·.dst)) undef) d (.inRegion ops rest :: k)) cs w) := by
  rw [← Fr_finish]
  exact step_lone_go (by
    simp only [Fr] at *
    simp [stepG, stepG.exec, h])
/-- The frame has come to its end. -/
theorem st_leave (hr : b.roundOf = none) : step P (lone (Fr b t d []) cs w) = .next (lone { Fr b t d [] with mode := .returning } cs w) := step_lone_go (by simp [stepG, stepG.exec, Fr, hr])
theorem st_ret (hr : b.roundOf = none) : step P (lone (Fr b t d (.code .ret :: k)) cs w) = .next (lone { Fr b t d (.code .ret :: k) with mode := .returning } cs w) := step_lone_go (by simp [stepG, stepG.exec, Fr, hr])
/-- A mark among the deferred calls is taken. -/
theorem st_mark {fr : Frame} {r : Nat} {a : Array Value} {ds : List Deferred} {w' : World} (hm : fr.mode = .returning) (hd : fr.defers = { target := .collected r, args := a } :: ds)
    (h : (Instr.takeDeferred r).run P w = .ok [] w') : step P (lone fr cs w) = .next (lone { fr with defers := ds } cs w') :=
  step_lone_go (by simp [stepG, hm, unwind, hd, h])
theorem st_endRange {l : Nat} {j : Option Code} {w' : World} (h : (Instr.endLoop l).run P w = .ok j w') :
    step P (lone (Fr b t d (.endRangeFunc l :: k)) cs w) = .next (lone (Fr b t d ((j.map Item.code).toList ++ k)) cs w') :=
  step_lone_go (by simp [stepG, stepG.exec, Fr, h])
theorem st_beginRound {l : Nat} {w' : World} (hr : b.roundOf = some l) (h : (Instr.beginRound l).run P w = .ok () w') :
    step P (lone (Fr b t d (.beginRound :: k)) cs w) = .next (lone (Fr b t d k) cs w') :=
  step_lone_go (by simp [stepG, stepG.exec, stepG.apply, Fr, hr, h, Result.andThen, Frame.finish])
/-- A round ends. -/
theorem st_endRound {c : Frame} {l : Nat} {v : Value} {w' : World} (hr : b.roundOf = some l) (hk : b.kind = .normal) (h : (Instr.endRound l none).run P w = .ok v w') :
    step P (lone (Fr b t d []) (c :: cs) w) = .next (lone (c.finish v) cs w') :=
  step_lone_go (by simp [stepG, stepG.exec, Fr, hr, hk, h, doReturn])
theorem st_endRoundRet {c : Frame} {l : Nat} {v : Value} {w' : World} (hr : b.roundOf = some l) (hk : b.kind = .normal) (h : (Instr.endRound l (some .ret)).run P w = .ok v w') :
    step P (lone (Fr b t d (.code .ret :: k)) (c :: cs) w) = .next (lone (c.finish v) cs w') :=
  step_lone_go (by simp [stepG, stepG.exec, Fr, hr, hk, h, doReturn])
theorem st_endRoundExit {c : Frame} {l id : Nat} {v : Value} {w' : World} (he : exitTo id k = none) (hr : b.roundOf = some l) (hk : b.kind = .normal) (h : (Instr.endRound l (some (.exit id))).run P w = .ok v w') :
    step P (lone (Fr b t d (.code (.exit id) :: k)) (c :: cs) w) = .next (lone (c.finish v) cs w') :=
  step_lone_go (by simp [stepG, stepG.exec, Fr, hr, hk, h, he, doReturn])
theorem st_endRoundGoto {c : Frame} {l id : Nat} {v : Value} {w' : World} (he : gotoIn id k = none) (hr : b.roundOf = some l) (hk : b.kind = .normal) (h : (Instr.endRound l (some (.goto id))).run P w = .ok v w') :
    step P (lone (Fr b t d (.code (.goto id) :: k)) (c :: cs) w) = .next (lone (c.finish v) cs w') :=
  step_lone_go (by simp [stepG, stepG.exec, Fr, hr, hk, h, he, doReturn])
end moves

/-- WHAT A CALL LANDS: it comes to a value, at once or by a frame of its own. -/
inductive Lands (P : Program) (s : Sem Next) (w : World) (Q : Value → World → Prop) : Prop where
  | value {v : Value} {w' : World} (h : s.run P w = .ok (.value v) w') (q : Q v w')
  | skip {w' : World} (h : s.run P w = .ok .skip w') (q : Q undef w')
  | enter {f : FuncId} {args : Array Value} {w1 : World} (h : s.run P w = .ok (.enter f args) w1) (q : Calls P f args w1 fun e w' => ∃ v, e = .returned v ∧ Q v w')
  | row {row : String} {args : Array Value} {w1 : World} (h : s.run P w = .ok (.row row args) w1) (q : Rows P row args w1 Q)
  | round {l : Nat} {f : FuncId} {t : Array Value} {a body : Code} {w1 : World} (h : s.run P w = .ok (.round l f t a body) w1)
      (q : ∀ (c : Frame) cs, ∃ v w', Q v w' ∧ Steps P (lone (Frame.round l f t a body .normal) (c :: cs) w1) (lone (c.finish v) cs w'))

theorem Lands.mono {s : Sem Next} {w : World} {Q Q' : Value → World → Prop} (h : Lands P s w Q) (hq : ∀ v w', Q v w' → Q' v w') : Lands P s w Q' := by
  cases h with
  | value h q => exact .value h (hq _ _ q)
  | skip h q => exact .skip h (hq _ _ q)
  | enter h q =>
    refine .enter h fun cs => ?_
    obtain ⟨e, w', fr, ⟨v, he, q⟩, r⟩ := q cs
    exact ⟨e, w', fr, ⟨v, he, hq _ _ q⟩, r⟩
  | row h q => exact .row h (q.mono hq)
  | round h q =>
    refine .round h fun c cs => ?_
    obtain ⟨v, w', q, r⟩ := q c cs
    exact ⟨v, w', hq _ _ q, r⟩

theorem Lands.congr {s s' : Sem Next} {w : World} {Q : Value → World → Prop} (h : Lands P s w Q) (e : s'.run P w = s.run P w) : Lands P s' w Q := by
  cases h with
  | value h q => exact .value (e.trans h) q
  | skip h q => exact .skip (e.trans h) q
  | enter h q => exact .enter (e.trans h) q
  | row h q => exact .row (e.trans h) q
  | round h q => exact .round (e.trans h) q

/-- The items that a call is made at. -/
def Calling : List Item → Prop
  | .inRegion .. :: _ | .inRangeFunc _ :: _ => True
  | _ => False

/-- A frame whose step is a call goes on with what the call lands. -/
theorem Lands.steps {s : Sem Next} {w : World} {Q : Value → World → Prop} (h : Lands P s w Q) {fr0 fr : Frame} {cs : List Frame} {w0 : World} (hc : Calling fr.todo)
    (hs : (stepG P true { frame := fr0, callers := cs, status := .running, dying := none } w0).bare = (stepG.apply P true fr cs none s w).bare) :
    ∃ v w', Q v w' ∧ Steps P (lone fr0 cs w0) (lone (fr.finish v) cs w') := by
  obtain ⟨fn, tmps, todo, defers, mode, kind, roundOf⟩ := fr
  cases todo with
  | nil => exact hc.elim
  | cons it k =>
  cases it <;> first | exact hc.elim | skip
  all_goals
    cases h with
    | value h q => exact ⟨_, _, q, .one (step_lone_go (by rw [hs]; simp [stepG.apply, h]))⟩
    | skip h q => exact ⟨_, _, q, .one (step_lone_go (by rw [hs]; simp [stepG.apply, h]))⟩
    | enter h q =>
      obtain ⟨e, w', fr', ⟨v, rfl, q⟩, hsteps, _, hleave⟩ := q (⟨fn, tmps, _, defers, mode, kind, roundOf⟩ :: cs)
      exact ⟨v, w', q, .head (step_lone_go (by rw [hs]; simp [stepG.apply, h])) (Steps.trans hsteps (.one (step_leave_returned hleave)))⟩
    | row h q =>
      obtain ⟨v, w', q, hsteps⟩ := q ⟨fn, tmps, _, defers, mode, kind, roundOf⟩ cs
      exact ⟨v, w', q, .head (step_lone_go (by rw [hs]; simp [stepG.apply, h])) hsteps⟩
    | round h q =>
      obtain ⟨v, w', q, hsteps⟩ := q ⟨fn, tmps, _, defers, mode, kind, roundOf⟩ cs
      exact ⟨v, w', q, .head (step_lone_go (by rw [hs]; simp [stepG.apply, h])) hsteps⟩

end Go.Va
