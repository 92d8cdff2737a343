/-
  SIMULATION: the results of a function; the deferred calls that are taken; what is asked of the code.
-/
import Derived.Test.YtakchekhpeokjaaDoorVaB3
namespace Go.Va
open Go.RowKit
variable {P : Program} {K : FuncId → Code → Prop} {W0 : World} {N0 G : Nat} {E : Env} {rec : Rec}

/-! ## Computations that only read -/

def RO (P : Program) {α : Type} (s : Sem α) : Prop := ∀ w v w', s.run P w = .ok v w' → w' = w
theorem RO.pure {α : Type} (v : α) : RO P (Pure.pure v : Sem α) := fun w u w' h => by cases h; rfl
theorem RO.halt {α : Type} (x : Halt) : RO P (.halt x : Sem α) := fun w u w' h => by cases h
theorem RO.bind {α γ : Type} {s : Sem α} {k : α → Sem γ} (h : RO P s) (hk : ∀ v, RO P (k v)) : RO P (s >>= k) := fun w u w' hr => by
  rw [run_bind'] at hr
  cases hs : s.run P w with
  | ok v w1 => rw [hs] at hr; rw [hk v w1 u w' hr, h w v w1 hs]
  | halt x w1 => rw [hs] at hr; cases hr
theorem RO.load (m : Mode) (a : Addr) {α : Type} {k : Value → Sem α} (hk : ∀ v, RO P (k v)) : RO P (.load m a k) := fun w u w' hr => by
  simp only [Sem.run] at hr
  split at hr
  · exact hk _ w u w' hr
  · split at hr <;> first | exact hk _ w u w' hr | cases hr
theorem RO.program : RO P Go.program := fun w u w' h => by cases h; rfl
theorem RO.underlying (t : TypeId) : RO P (Go.underlying t) := by
  have : Go.underlying t = Go.program >>= fun p => match p.underlying t with | some d => Pure.pure d | none => stuck "no such type" := rfl
  rw [this]
  refine RO.program.bind fun p => ?_
  split
  · exact .pure _
  · exact .halt _
theorem RO.ite {α : Type} {c : Prop} [Decidable c] {s t : Sem α} (h : RO P s) (h' : RO P t) : RO P (if c then s else t) := by
  split
  · exact h
  · exact h'

theorem RO.loadCellsFrom (a : Addr) : ∀ (n i : Nat) (acc : Array Value), RO P (Go.loadCellsFrom a i n acc)
  | 0, _, _ => .pure _
  | n + 1, i, acc => RO.load _ _ fun v => RO.loadCellsFrom a n (i + 1) (acc.push v)

theorem RO.typeInfo (t : TypeId) : RO P (Go.typeInfo t) := by
  unfold Go.typeInfo
  refine RO.program.bind fun p => ?_
  split
  · exact .pure _
  · exact .halt _
theorem RO.sizeOf (t : TypeId) : RO P (Go.sizeOf t) := by
  unfold Go.sizeOf
  exact (RO.typeInfo t).bind fun i => .pure _
theorem RO.isAgg (t : TypeId) : RO P (Go.isAgg t) := by
  unfold Go.isAgg
  refine (RO.underlying t).bind fun d => ?_
  cases d <;> exact .pure _
theorem RO.loadVar (t : TypeId) (a : Addr) : RO P (Go.loadVar t a) := by
  unfold Go.loadVar
  refine (RO.isAgg t).bind fun b => ?_
  cases b with
  | true => exact (RO.sizeOf t).bind fun d => (RO.loadCellsFrom a d 0 #[]).bind fun c => .pure _
  | false => exact RO.load _ _ fun v => .pure _

theorem RO.mapM {α γ : Type} {f : α → Sem γ} (h : ∀ x, RO P (f x)) : ∀ l : List α, RO P (l.mapM f)
  | [] => by rw [List.mapM_nil]; exact .pure _
  | x :: l => by rw [List.mapM_cons]; exact (h x).bind fun v => (RO.mapM h l).bind fun vs => .pure _

def resOf (t : Array Value) : ResultVar → Sem Value
  | .tmp i => Pure.pure (t.getD i undef)
  | .cell a ty => do loadVar ty (← asAddr (t.getD a undef))

def packed (vs : Array Value) : Value := if h : vs.size = 1 then vs[0] else .tuple vs

theorem results_eq (fn : Func) (t : Array Value) : results fn t = (fn.results.toList.mapM (resOf t)) >>= fun l => Pure.pure (packed l.toArray) := by
  unfold results
  rw [Array.mapM_eq_mapM_toList]
  have e : (fun x => match x with
      | ResultVar.tmp i => (Pure.pure (t.getD i undef) : Sem Value)
      | .cell a ty => do loadVar ty (← asAddr (t.getD a undef))) = resOf t := by funext x; cases x <;> rfl
  simp only [map_eq_pure_bind, bind_assoc, pure_bind]
  rfl

theorem RO.asAddr (v : Value) : RO P (Go.asAddr v) := by
  intro w u w' h
  unfold Go.asAddr at h
  split at h <;> first | (cases h; done) | (cases h; rfl)

theorem RO.results (fn : Func) (t : Array Value) : RO P (Go.results fn t) := by
  rw [results_eq]
  refine (RO.mapM (fun x => ?_) _).bind fun l => .pure _
  cases x with
  | tmp i => exact .pure _
  | cell a ty => exact (RO.asAddr _).bind fun a => RO.loadVar ty a

theorem arr_get {β : Inj} {t t' : Array Value} (ht : arrRel β t t') (i : Nat) : vRel β (t.getD i undef) (t'.getD i undef) := by
  rw [Array.getD_eq_getD_getElem?, Array.getD_eq_getD_getElem?]
  rcases (lRel.look (arrRel_iff.1 ht) i : lkRel β t.toList[i]? t'[i]?) with ⟨h1, h2⟩ | ⟨v, v', h1, h2, h3⟩
  · rw [Array.getElem?_toList] at h1; rw [h1, h2]; exact rel_undef
  · rw [Array.getElem?_toList] at h1; rw [h1, h2]; exact h3

theorem sim_resMap {β : Inj} {t t' : Array Value} (ht : arrRel β t t') : ∀ l : List ResultVar, Sim P K W0 N0 β (l.mapM (resOf t)) (l.mapM (resOf t')) (fun β' v v' => β' = β ∧ lRel β v v')
  | [] => by rw [List.mapM_nil]; exact .ret ⟨rfl, trivial⟩
  | x :: l => by
    have hx : Sim P K W0 N0 β (resOf t x) (resOf t' x) (fun β' v v' => β' = β ∧ vRel β v v') := by
      cases x with
      | tmp i => exact .ret ⟨rfl, arr_get ht i⟩
      | cell a ty =>
        have hv := arr_get ht a
        show Sim P K W0 N0 β (Go.asAddr (t.getD a undef) >>= fun a => loadVar ty a) (Go.asAddr (t'.getD a undef) >>= fun a => loadVar ty a) _
        generalize t.getD a undef = p at hv
        generalize t'.getD a undef = p' at hv
        cases hv with
        | ptr h => exact sim_loadVar h
        | ptrNone => exact Never.sim (Never.bind (s := Go.asAddr (.pointer none)) fun _ _ => rfl)
        | _ => exact Never.sim (Never.bind fun _ _ => rfl)
    rw [List.mapM_cons, List.mapM_cons]
    refine Sim.bind0 hx fun v v' hv => ?_
    refine Sim.bind0 (sim_resMap ht l) fun vs vs' hvs => ?_
    exact .ret ⟨rfl, hv, hvs⟩

theorem packed_rel {β : Inj} {vs vs' : Array Value} (h : arrRel β vs vs') : vRel β (packed vs) (packed vs') := by
  unfold packed
  by_cases h1 : vs.size = 1
  · rw [dif_pos h1, dif_pos (h.1 ▸ h1)]
    exact h.2 0 _ _
  · rw [dif_neg h1, dif_neg (h.1 ▸ h1)]
    exact .tuple h.1 h.2

theorem sim_results {β : Inj} {fn : Func} {t t' : Array Value} (ht : arrRel β t t') : Sim P K W0 N0 β (results fn t) (results fn t') (fun β' v v' => β' = β ∧ vRel β v v') := by
  rw [results_eq, results_eq]
  refine Sim.bind0 (sim_resMap ht _) fun vs vs' hvs => ?_
  exact .ret ⟨rfl, packed_rel (arrRel_iff.2 hvs)⟩

/-! ## What is asked of the code -/

def codeB (G : Nat) (E : Env) (fn : FuncId) : Code → Bool
  | .region id ops draw => ops.toList.all (opB G) && (bif draw then (match E.draws fn id with | some pl => planAll ops pl | none => true) else true)
  | .seq a b => codeB G E fn a && codeB G E fn b
  | .cond c a b => okO G c && codeB G E fn a && codeB G E fn b
  | .block _ a => codeB G E fn a
  | .loop a => codeB G E fn a
  | .scope a => codeB G E fn a
  | .rangeFunc f _ a b => okO G f && codeB G E fn a && codeB G E fn b
  | _ => true

/-- The code of a function is in order. -/
def CodeK (G : Nat) (E : Env) (fn : FuncId) (c : Code) : Prop := codeB G E fn c = true

theorem codeB_find {fn : FuncId} {l : Nat} : ∀ (c : Code) {rest : Code}, codeB G E fn c = true → findLabel c l = some rest → codeB G E fn rest = true := by
  intro c
  induction c with
  | seq a b iha ihb =>
    intro rest h hf
    simp only [codeB, Bool.and_eq_true] at h
    simp only [findLabel] at hf
    split at hf
    · rename_i r hr
      simp only [Option.some.injEq] at hf
      subst hf
      simp only [codeB, Bool.and_eq_true]
      exact ⟨iha h.1 hr, h.2⟩
    · exact ihb h.2 hf
  | label l' =>
    intro rest h hf
    simp only [findLabel] at hf
    split at hf
    · simp only [Option.some.injEq] at hf; subst hf; rfl
    · cases hf
  | _ => intro rest h hf; simp only [findLabel] at hf; cases hf

/-- The functions that are looked at are in order. -/
def FnOk (P : Program) (G : Nat) (E : Env) : Prop := ∀ f fn c, E.ok f = true → P.funcs[f]? = some fn → fn.body = some c → codeB G E f c = true ∧ (fn.name == "runtime.NumGoroutine") = false

/-! ## The deferred calls -/

theorem next_take {lim i : Nat} {σ σ1 : AS} {q : List Deferred} (h1 : runA P lim (Instr.takeDeferred i) σ = some (q, σ1)) : σ1.next = σ.next := by
  have h2 := h1
  have : Instr.takeDeferred i = (.getObj i fun o => match o with
    | .deferred (some ds) => .setObj i (.deferred none) (.pure ds)
    | _ => stuck "range over a function: the deferred calls have been taken") := by
      unfold Instr.takeDeferred
      show Sem.getObj i _ = _
      congr 1
  rw [this] at h2
  simp only [runA] at h2
  split at h2
  · rename_i o hg
    cases o <;> first | cases h2 | skip
    rename_i q
    cases q with
    | none => cases h2
    | some q =>
      simp only [runA] at h2
      rw [hg] at h2
      simp only [plainObj, Bool.and_true] at h2
      cases hb : Nat.ble lim i with
      | false => rw [hb] at h2; cases h2
      | true =>
        rw [hb] at h2
        simp only [cond_true, Option.some.injEq, Prod.mk.injEq] at h2
        rw [← h2.2]; simp
  · cases h2

theorem kept_take {lim : Nat} : ∀ (ds : List Nat) {σ σ' : AS}, takeA P lim ds σ = some σ' → σ.Wf → Kept lim σ σ' ∧ σ'.next = σ.next
  | [], σ, σ', h, _ => by simp only [takeA, Option.some.injEq] at h; rw [h]; exact ⟨.refl _ _, rfl⟩
  | d :: ds, σ, σ', h, hw => by
    simp only [takeA] at h
    split at h
    · rename_i s1 hs1
      have k1 := kept_runA hs1 hw
      obtain ⟨k2, h2⟩ := kept_take ds h (k1.wf hw)
      exact ⟨k1.trans k2, by rw [h2, next_take hs1]⟩
    · cases h

theorem takes {lim : Nat} {cs : List Frame} : ∀ (ds : List Nat) (dr : List Deferred) (σ σ' τ : AS) (β : Inj) (w : World) (fr : Frame), takeA P lim ds σ = some σ' → dRel β ds dr → σ.Wf → σ.Like τ → R K W0 N0 β τ w → fr.mode = .returning → fr.defers = dr →
    ∃ w' τ', σ'.Led τ τ' ∧ R K W0 N0 β τ' w' ∧ Kept lim σ σ' ∧ σ'.next = σ.next ∧ Steps P (lone fr cs w) (lone { fr with defers := [] } cs w')
  | [], [], σ, σ', τ, β, w, fr, h, _, hw, hl, hR, hm, hd => by
    simp only [takeA, Option.some.injEq] at h
    subst h
    refine ⟨w, τ, .refl hl, hR, .refl _ _, rfl, ?_⟩
    have : fr = { fr with defers := [] } := by rw [← hd]
    rw [← this]
    exact .refl _ _
  | i :: ds, x :: dr, σ, σ', τ, β, w, fr, h, hdr, hw, hl, hR, hm, hd => by
    simp only [takeA] at h
    split at h
    case h_2 => cases h
    rename_i σ1 h1
    obtain ⟨⟨e, a, he, h0, rfl⟩, hdr⟩ := hdr
    have k1 := kept_runA h1 hw
    have hn : σ1.next = σ.next := next_take h1
    obtain ⟨v', w1, β1, τ1, er, x1, l1, R1, rfl, rfl⟩ := (sim_takeDeferred (P := P) (K := K) (W0 := W0) (N0 := N0) he).at hw hl hR h1 (fun j h2 h3 => by omega)
    obtain ⟨w2, τ2, l2, R2, k2, hn2, s2⟩ := takes ds dr σ1 σ' τ1 β1 w1 { fr with defers := dr } h hdr (k1.wf hw) l1.like R1 hm rfl
    exact ⟨w2, τ2, l1.trans l2 k2.next, R2, k1.trans k2, by omega, .head (st_mark hm hd er) s2⟩
  | [], _ :: _, _, _, _, _, _, _, _, h, _, _, _, _, _ => h.elim
  | _ :: _, [], _, _, _, _, _, _, _, h, _, _, _, _, _ => h.elim

end Go.Va
