/-
  An executable interpreter over the program's form and what it stands for, part 3.
-/
import Derived.Test.YtakchekhpeokjaaDoorVap2
import Derived.Laws.Externs
import Derived.Lib.MakeNoZero
import Derived.ChangeSame

/-
  SIMULATION: blind operations may run later; the plans of a region in each mode.
-/
namespace Go.Va
variable {P : Program} {E : Env} {rec : Rec} {ops : Array Oper} {lim : Nat}

theorem op1_congr {q : Bool} {o : Oper} {t t' : List Value} (h : ∀ d ∈ o.looksAt ops, t'[d]? = t[d]?) (σ : AS) : op1 P E rec ops q lim o t' σ = op1 P E rec ops q lim o t σ := by
  have hop : ∀ x ∈ o.op.operands, ev t' x = ev t x := by
    intro x hx
    cases x with
    | tmp i =>
      simp only [ev]
      have := h i (by
        unfold Oper.looksAt
        exact List.mem_append_left _ (List.mem_filterMap.2 ⟨.tmp i, by simpa using hx, rfl⟩))
      rw [List.getD_eq_getElem?_getD, List.getD_eq_getElem?_getD, this]
    | _ => rfl
  have hw : Region.wanted o (yieldedL ops t') = Region.wanted o (yieldedL ops t) := by
    unfold Region.wanted
    cases hg : o.guard with
    | none => rfl
    | some gb =>
      obtain ⟨g, b⟩ := gb
      have : yieldedL ops t' g = yieldedL ops t g := by
        unfold yieldedL
        cases hd : (ops[g]?).bind (·.dst) with
        | none => rfl
        | some d =>
          have hl := h d (by
            unfold Oper.looksAt
            refine List.mem_append_right _ ?_
            rw [hg]
            simp [hd])
          simp only [Option.bind_some]
          rw [hl]
      simp only [this]
  unfold op1
  rw [hw, operA_congr hop]

theorem putT_look {t : List Value} {dst : Option Tmp} {v : Value} {d : Tmp} (h : dst ≠ some d) : (putT t dst v)[d]? = t[d]? := by
  cases dst with
  | none => rfl
  | some e =>
    simp only [putT]
    rw [List.getElem?_set_ne]
    intro he; exact h (by rw [he])

theorem putT_comm {t : List Value} {a b : Option Tmp} {u v : Value} (h : ∀ d, a = some d → b ≠ some d) : putT (putT t a u) b v = putT (putT t b v) a u := by
  cases a with
  | none => rfl
  | some d =>
    cases b with
    | none => rfl
    | some e =>
      simp only [putT]
      rw [List.set_comm]
      intro he; exact h d rfl (by rw [he])

theorem opsI_swap {x y : Nat × Bool} {p o : Oper} (hp : ops[x.1]? = some p) (ho : ops[y.1]? = some o) (hb : blindO p = true) (hap : p.apart ops o = true) {l : List (Nat × Bool)} {t : List Value} {σ : AS} {R : List Value × AS}
    (h : opsI P E rec ops lim (x :: y :: l) t σ = some R) : opsI P E rec ops lim (y :: x :: l) t σ = some R := by
  obtain ⟨h1, h3, h2⟩ := Oper.apart_spec hap
  rw [opsI_cons, hp] at h
  dsimp only at h
  cases e1 : op1 P E rec ops x.2 lim p t σ with
  | none => rw [e1] at h; cases h
  | some r =>
    obtain ⟨v, σ1⟩ := r
    obtain ⟨rfl, hv⟩ := blind_op1 hb e1
    rw [e1] at h
    have h : opsI P E rec ops lim (y :: l) (putT t p.dst v) σ1 = some R := h
    rw [opsI_cons, ho] at h
    dsimp only at h
    have hl1 : ∀ d ∈ o.looksAt ops, (putT t p.dst v)[d]? = t[d]? := fun d hd => putT_look fun he => h1 d he hd
    rw [op1_congr hl1] at h
    cases e2 : op1 P E rec ops y.2 lim o t σ1 with
    | none => rw [e2] at h; cases h
    | some r2 =>
      obtain ⟨u, σ2⟩ := r2
      rw [e2] at h
      have h : opsI P E rec ops lim l (putT (putT t p.dst v) o.dst u) σ2 = some R := h
      have hl2 : ∀ d ∈ p.looksAt ops, (putT t o.dst u)[d]? = t[d]? := fun d hd => putT_look fun he => h2 d he hd
      rw [opsI_cons, ho]
      dsimp only
      rw [e2]
      show opsI P E rec ops lim (x :: l) (putT t o.dst u) σ2 = some R
      rw [opsI_cons, hp]
      dsimp only
      rw [op1_congr hl2, hv x.2 lim σ2]
      show opsI P E rec ops lim l (putT (putT t o.dst u) p.dst v) σ2 = some R
      rw [← putT_comm h3]
      exact h

theorem opsI_swap' {x y : Nat × Bool} {p o : Oper} (hp : ops[x.1]? = some p) (ho : ops[y.1]? = some o) (hb : blindO o = true) (hap : p.apart ops o = true) {l : List (Nat × Bool)} {t : List Value} {σ : AS} {R : List Value × AS}
    (h : opsI P E rec ops lim (x :: y :: l) t σ = some R) : opsI P E rec ops lim (y :: x :: l) t σ = some R := by
  obtain ⟨h1, h3, h2⟩ := Oper.apart_spec hap
  rw [opsI_cons, hp] at h
  dsimp only at h
  cases e1 : op1 P E rec ops x.2 lim p t σ with
  | none => rw [e1] at h; cases h
  | some r =>
    obtain ⟨v, σ1⟩ := r
    rw [e1] at h
    have h : opsI P E rec ops lim (y :: l) (putT t p.dst v) σ1 = some R := h
    rw [opsI_cons, ho] at h
    dsimp only at h
    have hl1 : ∀ d ∈ o.looksAt ops, (putT t p.dst v)[d]? = t[d]? := fun d hd => putT_look fun he => h1 d he hd
    rw [op1_congr hl1] at h
    cases e2 : op1 P E rec ops y.2 lim o t σ1 with
    | none => rw [e2] at h; cases h
    | some r2 =>
      obtain ⟨u, σ2⟩ := r2
      obtain ⟨rfl, hv⟩ := blind_op1 hb e2
      rw [e2] at h
      have h : opsI P E rec ops lim l (putT (putT t p.dst v) o.dst u) σ2 = some R := h
      have hl2 : ∀ d ∈ p.looksAt ops, (putT t o.dst u)[d]? = t[d]? := fun d hd => putT_look fun he => h2 d he hd
      rw [opsI_cons, ho]
      dsimp only
      rw [hv y.2 lim σ]
      show opsI P E rec ops lim (x :: l) (putT t o.dst u) σ = some R
      rw [opsI_cons, hp]
      dsimp only
      rw [op1_congr hl2, e1]
      show opsI P E rec ops lim l (putT (putT t o.dst u) p.dst v) σ2 = some R
      rw [← putT_comm h3]
      exact h

def passB (ops : Array Oper) (i j : Nat) : Bool := match ops[i]?, ops[j]? with
  | some p, some o => (blindO p || blindO o) && p.apart ops o
  | _, _ => false

/-- The first runs k places later. -/
def sinkL (ops : Array Oper) (x : Nat × Bool) : Nat → List (Nat × Bool) → Option (List (Nat × Bool))
  | 0, l => some (x :: l)
  | k + 1, y :: l => bif passB ops x.1 y.1 then (sinkL ops x k l).map (y :: ·) else none
  | _ + 1, [] => none

def moveAt (ops : Array Oper) : List (Nat × Bool) → Nat → Nat → Option (List (Nat × Bool))
  | x :: l, 0, k => sinkL ops x k l
  | x :: l, i + 1, k => (moveAt ops l i k).map (x :: ·)
  | [], _, _ => none

def movesL (ops : Array Oper) : List (Nat × Nat) → List (Nat × Bool) → Option (List (Nat × Bool))
  | [], l => some l
  | m :: ms, l => (moveAt ops l m.1 m.2).bind (movesL ops ms)

theorem opsI_head {x : Nat × Bool} {l l' : List (Nat × Bool)} (h : ∀ t σ R, opsI P E rec ops lim l t σ = some R → opsI P E rec ops lim l' t σ = some R) : ∀ t σ R, opsI P E rec ops lim (x :: l) t σ = some R → opsI P E rec ops lim (x :: l') t σ = some R := by
  intro t σ R hr
  rw [opsI_cons] at hr ⊢
  cases ho : ops[x.1]? with
  | none => rw [ho] at hr; cases hr
  | some o =>
    rw [ho] at hr
    dsimp only at hr ⊢
    rcases e : op1 P E rec ops x.2 lim o t σ with _ | ⟨v, σ1⟩
    · rw [e] at hr; cases hr
    · rw [e] at hr
      exact h _ _ _ hr

theorem sinkL_run {x : Nat × Bool} : ∀ (k : Nat) (l l' : List (Nat × Bool)), sinkL ops x k l = some l' → ∀ t σ R, opsI P E rec ops lim (x :: l) t σ = some R → opsI P E rec ops lim l' t σ = some R
  | 0, l, l', h => by simp only [sinkL, Option.some.injEq] at h; subst h; exact fun _ _ _ h => h
  | k + 1, [], l', h => by simp only [sinkL] at h; cases h
  | k + 1, y :: l, l', h => by
    simp only [sinkL] at h
    cases hp : passB ops x.1 y.1 with
    | false => rw [hp] at h; cases h
    | true =>
      rw [hp, cond_true] at h
      cases hs : sinkL ops x k l with
      | none => rw [hs] at h; cases h
      | some m =>
        rw [hs] at h
        simp only [Option.map_some, Option.some.injEq] at h
        subst h
        intro t σ R hr
        have : opsI P E rec ops lim (y :: x :: l) t σ = some R := by
          unfold passB at hp
          split at hp
          · rename_i p o h1 h2
            simp only [Bool.and_eq_true, Bool.or_eq_true] at hp
            rcases hp.1 with hb | hb
            · exact opsI_swap h1 h2 hb hp.2 hr
            · exact opsI_swap' h1 h2 hb hp.2 hr
          · cases hp
        exact opsI_head (sinkL_run k l m hs) t σ R this

theorem moveAt_run : ∀ (l : List (Nat × Bool)) (i k : Nat) (l' : List (Nat × Bool)), moveAt ops l i k = some l' → ∀ t σ R, opsI P E rec ops lim l t σ = some R → opsI P E rec ops lim l' t σ = some R
  | [], _, _, _, h => by cases ‹Nat› <;> cases h
  | x :: l, 0, k, l', h => sinkL_run k l l' h
  | x :: l, i + 1, k, l', h => by
    simp only [moveAt] at h
    cases hm : moveAt ops l i k with
    | none => rw [hm] at h; cases h
    | some m =>
      rw [hm] at h
      simp only [Option.map_some, Option.some.injEq] at h
      subst h
      exact opsI_head (moveAt_run l i k m hm)

theorem movesL_run : ∀ (ms : List (Nat × Nat)) (l l' : List (Nat × Bool)), movesL ops ms l = some l' → ∀ t σ R, opsI P E rec ops lim l t σ = some R → opsI P E rec ops lim l' t σ = some R
  | [], l, l', h => by simp only [movesL, Option.some.injEq] at h; subst h; exact fun _ _ _ h => h
  | m :: ms, l, l', h => by
    simp only [movesL] at h
    cases hm : moveAt ops l m.1 m.2 with
    | none => rw [hm] at h; cases h
    | some l1 =>
      rw [hm] at h
      exact fun t σ R hr => movesL_run ms l1 l' h t σ R (moveAt_run l m.1 m.2 l1 hm t σ R hr)

/-- A region that draws: its plan. -/
def planAll (ops : Array Oper) (pl : Plan) : Bool := planB .any ops pl.l pl.gs

end Go.Va

/-
  SIMULATION: the results of a function; the deferred calls that are taken; what is asked of the code.
-/
namespace Go.Va
open Go.RowKit
variable {P : Program} {K : FuncId → Code → Prop} {W0 : World} {N0 G : Nat} {E : Env} {rec : Rec}

/-! ## Computations that only read -/

def RO (P : Program) {α : Type} (s : Sem α) : Prop := ∀ w v w', s.run P w = .ok v w' → w' = w
theorem RO.pure {α : Type} (v : α) : RO P (Pure.pure v : Sem α) := fun w u w' h => by cases h; rfl
theorem RO.halt {α : Type} (x : Halt) : RO P (.halt x : Sem α) := fun w u w' h => by cases h
theorem RO.bind {α γ : Type} {s : Sem α} {k : α → Sem γ} (h : RO P s) (hk : ∀ v, RO P (k v)) : RO P (s >>= k) := fun w u w' hr => by
  rw [run_bind'] at hr
  cases hs : s.run P w with
  | ok v w1 => rw [hs] at hr; rw [hk v w1 u w' hr, h w v w1 hs]
  | halt x w1 => rw [hs] at hr; cases hr
theorem RO.load (m : Mode) (a : Addr) {α : Type} {k : Value → Sem α} (hk : ∀ v, RO P (k v)) : RO P (.load m a k) := fun w u w' hr => by
  simp only [Sem.run] at hr
  split at hr
  · exact hk _ w u w' hr
  · split at hr <;> first | exact hk _ w u w' hr | cases hr
theorem RO.program : RO P Go.program := fun w u w' h => by cases h; rfl
theorem RO.underlying (t : TypeId) : RO P (Go.underlying t) := by
  have : Go.underlying t = Go.program >>= fun p => match p.underlying t with | some d => Pure.pure d | none => stuck "no such type" := rfl
  rw [this]
  refine RO.program.bind fun p => ?_
  split
  · exact .pure _
  · exact .halt _
theorem RO.ite {α : Type} {c : Prop} [Decidable c] {s t : Sem α} (h : RO P s) (h' : RO P t) : RO P (if c then s else t) := by
  split
  · exact h
  · exact h'

theorem RO.loadCellsFrom (a : Addr) : ∀ (n i : Nat) (acc : Array Value), RO P (Go.loadCellsFrom a i n acc)
  | 0, _, _ => .pure _
  | n + 1, i, acc => RO.load _ _ fun v => RO.loadCellsFrom a n (i + 1) (acc.push v)

theorem RO.typeInfo (t : TypeId) : RO P (Go.typeInfo t) := by
  unfold Go.typeInfo
  refine RO.program.bind fun p => ?_
  split
  · exact .pure _
  · exact .halt _
theorem RO.sizeOf (t : TypeId) : RO P (Go.sizeOf t) := by
  unfold Go.sizeOf
  exact (RO.typeInfo t).bind fun i => .pure _
theorem RO.isAgg (t : TypeId) : RO P (Go.isAgg t) := by
  unfold Go.isAgg
  refine (RO.underlying t).bind fun d => ?_
  cases d <;> exact .pure _
theorem RO.loadVar (t : TypeId) (a : Addr) : RO P (Go.loadVar t a) := by
  unfold Go.loadVar
  refine (RO.isAgg t).bind fun b => ?_
  cases b with
  | true => exact (RO.sizeOf t).bind fun d => (RO.loadCellsFrom a d 0 #[]).bind fun c => .pure _
  | false => exact RO.load _ _ fun v => .pure _

theorem RO.mapM {α γ : Type} {f : α → Sem γ} (h : ∀ x, RO P (f x)) : ∀ l : List α, RO P (l.mapM f)
  | [] => by rw [List.mapM_nil]; exact .pure _
  | x :: l => by rw [List.mapM_cons]; exact (h x).bind fun v => (RO.mapM h l).bind fun vs => .pure _

def resOf (t : Array Value) : ResultVar → Sem Value
  | .tmp i => Pure.pure (t.getD i undef)
  | .cell a ty => do loadVar ty (← asAddr (t.getD a undef))

def packed (vs : Array Value) : Value := if h : vs.size = 1 then vs[0] else .tuple vs

theorem results_eq (fn : Func) (t : Array Value) : results fn t = (fn.results.toList.mapM (resOf t)) >>= fun l => Pure.pure (packed l.toArray) := by
  unfold results
  rw [Array.mapM_eq_mapM_toList]
  have e : (fun x => match x with
      | ResultVar.tmp i => (Pure.pure (t.getD i undef) : Sem Value)
      | .cell a ty => do loadVar ty (← asAddr (t.getD a undef))) = resOf t := by funext x; cases x <;> rfl
  simp only [map_eq_pure_bind, bind_assoc, pure_bind]
  rfl

theorem RO.asAddr (v : Value) : RO P (Go.asAddr v) := by
  intro w u w' h
  unfold Go.asAddr at h
  split at h <;> first | (cases h; done) | (cases h; rfl)

theorem RO.results (fn : Func) (t : Array Value) : RO P (Go.results fn t) := by
  rw [results_eq]
  refine (RO.mapM (fun x => ?_) _).bind fun l => .pure _
  cases x with
  | tmp i => exact .pure _
  | cell a ty => exact (RO.asAddr _).bind fun a => RO.loadVar ty a

theorem arr_get {β : Inj} {t t' : Array Value} (ht : arrRel β t t') (i : Nat) : vRel β (t.getD i undef) (t'.getD i undef) := by
  rw [Array.getD_eq_getD_getElem?, Array.getD_eq_getD_getElem?]
  rcases (lRel.look (arrRel_iff.1 ht) i : lkRel β t.toList[i]? t'[i]?) with ⟨h1, h2⟩ | ⟨v, v', h1, h2, h3⟩
  · rw [Array.getElem?_toList] at h1; rw [h1, h2]; exact rel_undef
  · rw [Array.getElem?_toList] at h1; rw [h1, h2]; exact h3

theorem sim_resMap {β : Inj} {t t' : Array Value} (ht : arrRel β t t') : ∀ l : List ResultVar, Sim P K W0 N0 β (l.mapM (resOf t)) (l.mapM (resOf t')) (fun β' v v' => β' = β ∧ lRel β v v')
  | [] => by rw [List.mapM_nil]; exact .ret ⟨rfl, trivial⟩
  | x :: l => by
    have hx : Sim P K W0 N0 β (resOf t x) (resOf t' x) (fun β' v v' => β' = β ∧ vRel β v v') := by
      cases x with
      | tmp i => exact .ret ⟨rfl, arr_get ht i⟩
      | cell a ty =>
        have hv := arr_get ht a
        show Sim P K W0 N0 β (Go.asAddr (t.getD a undef) >>= fun a => loadVar ty a) (Go.asAddr (t'.getD a undef) >>= fun a => loadVar ty a) _
        generalize t.getD a undef = p at hv
        generalize t'.getD a undef = p' at hv
        cases hv with
        | ptr h => exact sim_loadVar h
        | ptrNone => exact Never.sim (Never.bind (s := Go.asAddr (.pointer none)) fun _ _ => rfl)
        | _ => exact Never.sim (Never.bind fun _ _ => rfl)
    rw [List.mapM_cons, List.mapM_cons]
    refine Sim.bind0 hx fun v v' hv => ?_
    refine Sim.bind0 (sim_resMap ht l) fun vs vs' hvs => ?_
    exact .ret ⟨rfl, hv, hvs⟩

theorem packed_rel {β : Inj} {vs vs' : Array Value} (h : arrRel β vs vs') : vRel β (packed vs) (packed vs') := by
  unfold packed
  by_cases h1 : vs.size = 1
  · rw [dif_pos h1, dif_pos (h.1 ▸ h1)]
    exact h.2 0 _ _
  · rw [dif_neg h1, dif_neg (h.1 ▸ h1)]
    exact .tuple h.1 h.2

theorem sim_results {β : Inj} {fn : Func} {t t' : Array Value} (ht : arrRel β t t') : Sim P K W0 N0 β (results fn t) (results fn t') (fun β' v v' => β' = β ∧ vRel β v v') := by
  rw [results_eq, results_eq]
  refine Sim.bind0 (sim_resMap ht _) fun vs vs' hvs => ?_
  exact .ret ⟨rfl, packed_rel (arrRel_iff.2 hvs)⟩

/-! ## What is asked of the code -/

def codeB (G : Nat) (E : Env) (fn : FuncId) : Code → Bool
  | .region id ops draw => ops.toList.all (opB G) && (bif draw then (match E.draws fn id with | some pl => planAll ops pl | none => true) else true)
  | .seq a b => codeB G E fn a && codeB G E fn b
  | .cond c a b => okO G c && codeB G E fn a && codeB G E fn b
  | .block _ a => codeB G E fn a
  | .loop a => codeB G E fn a
  | .scope a => codeB G E fn a
  | .rangeFunc f _ a b => okO G f && codeB G E fn a && codeB G E fn b
  | _ => true

/-- The code of a function is in order. -/
def CodeK (G : Nat) (E : Env) (fn : FuncId) (c : Code) : Prop := codeB G E fn c = true

theorem codeB_find {fn : FuncId} {l : Nat} : ∀ (c : Code) {rest : Code}, codeB G E fn c = true → findLabel c l = some rest → codeB G E fn rest = true := by
  intro c
  induction c with
  | seq a b iha ihb =>
    intro rest h hf
    simp only [codeB, Bool.and_eq_true] at h
    simp only [findLabel] at hf
    split at hf
    · rename_i r hr
      simp only [Option.some.injEq] at hf
      subst hf
      simp only [codeB, Bool.and_eq_true]
      exact ⟨iha h.1 hr, h.2⟩
    · exact ihb h.2 hf
  | label l' =>
    intro rest h hf
    simp only [findLabel] at hf
    split at hf
    · simp only [Option.some.injEq] at hf; subst hf; rfl
    · cases hf
  | _ => intro rest h hf; simp only [findLabel] at hf; cases hf

/-- The functions that are looked at are in order. -/
def FnOk (P : Program) (G : Nat) (E : Env) : Prop := ∀ f fn c, E.ok f = true → P.funcs[f]? = some fn → fn.body = some c → codeB G E f c = true ∧ (fn.name == "runtime.NumGoroutine") = false

/-! ## The deferred calls -/

theorem next_take {lim i : Nat} {σ σ1 : AS} {q : List Deferred} (h1 : runA P lim (Instr.takeDeferred i) σ = some (q, σ1)) : σ1.next = σ.next := by
  have h2 := h1
  have : Instr.takeDeferred i = (.getObj i fun o => match o with
    | .deferred (some ds) => .setObj i (.deferred none) (.pure ds)
    | _ => stuck "range over a function: the deferred calls have been taken") := by
      unfold Instr.takeDeferred
      show Sem.getObj i _ = _
      congr 1
  rw [this] at h2
  simp only [runA] at h2
  split at h2
  · rename_i o hg
    cases o <;> first | cases h2 | skip
    rename_i q
    cases q with
    | none => cases h2
    | some q =>
      simp only [runA] at h2
      rw [hg] at h2
      simp only [plainObj, Bool.and_true] at h2
      cases hb : Nat.ble lim i with
      | false => rw [hb] at h2; cases h2
      | true =>
        rw [hb] at h2
        simp only [cond_true, Option.some.injEq, Prod.mk.injEq] at h2
        rw [← h2.2]; simp
  · cases h2

theorem kept_take {lim : Nat} : ∀ (ds : List Nat) {σ σ' : AS}, takeA P lim ds σ = some σ' → σ.Wf → Kept lim σ σ' ∧ σ'.next = σ.next
  | [], σ, σ', h, _ => by simp only [takeA, Option.some.injEq] at h; rw [h]; exact ⟨.refl _ _, rfl⟩
  | d :: ds, σ, σ', h, hw => by
    simp only [takeA] at h
    split at h
    · rename_i s1 hs1
      have k1 := kept_runA hs1 hw
      obtain ⟨k2, h2⟩ := kept_take ds h (k1.wf hw)
      exact ⟨k1.trans k2, by rw [h2, next_take hs1]⟩
    · cases h

theorem takes {lim : Nat} {cs : List Frame} : ∀ (ds : List Nat) (dr : List Deferred) (σ σ' τ : AS) (β : Inj) (w : World) (fr : Frame), takeA P lim ds σ = some σ' → dRel β ds dr → σ.Wf → σ.Like τ → R K W0 N0 β τ w → fr.mode = .returning → fr.defers = dr →
    ∃ w' τ', σ'.Led τ τ' ∧ R K W0 N0 β τ' w' ∧ Kept lim σ σ' ∧ σ'.next = σ.next ∧ Steps P (lone fr cs w) (lone { fr with defers := [] } cs w')
  | [], [], σ, σ', τ, β, w, fr, h, _, hw, hl, hR, hm, hd => by
    simp only [takeA, Option.some.injEq] at h
    subst h
    refine ⟨w, τ, .refl hl, hR, .refl _ _, rfl, ?_⟩
    have : fr = { fr with defers := [] } := by rw [← hd]
    rw [← this]
    exact .refl _ _
  | i :: ds, x :: dr, σ, σ', τ, β, w, fr, h, hdr, hw, hl, hR, hm, hd => by
    simp only [takeA] at h
    split at h
    case h_2 => cases h
    rename_i σ1 h1
    obtain ⟨⟨e, a, he, h0, rfl⟩, hdr⟩ := hdr
    have k1 := kept_runA h1 hw
    have hn : σ1.next = σ.next := next_take h1
    obtain ⟨v', w1, β1, τ1, er, x1, l1, R1, rfl, rfl⟩ := (sim_takeDeferred (P := P) (K := K) (W0 := W0) (N0 := N0) he).at hw hl hR h1 (fun j h2 h3 => by omega)
    obtain ⟨w2, τ2, l2, R2, k2, hn2, s2⟩ := takes ds dr σ1 σ' τ1 β1 w1 { fr with defers := dr } h hdr (k1.wf hw) l1.like R1 hm rfl
    exact ⟨w2, τ2, l1.trans l2 k2.next, R2, k1.trans k2, by omega, .head (st_mark hm hd er) s2⟩
  | [], _ :: _, _, _, _, _, _, _, _, h, _, _, _, _, _ => h.elim
  | _ :: _, [], _, _, _, _, _, _, _, h, _, _, _, _, _ => h.elim

end Go.Va

/-
  SIMULATION: code.
-/
namespace Go.Va
open Go.RowKit
variable {P : Program} {W0 : World} {N0 G : Nat} {E : Env} {rec : Rec}

/-- Where the machine is led by an exit. -/
def Lead : Ex → List Item → List Item → Prop
  | .normal, k, k' => k' = k
  | .ret, _, k' => ∃ pre, k' = .code .ret :: pre
  | .exit id, k, k' => ∃ pre, k' = .code (.exit id) :: pre ∧ exitTo id pre = exitTo id k
  | .goto l, k, k' => ∃ pre, k' = .code (.goto l) :: pre ∧ gotoIn l pre = gotoIn l k

/-- Code comes to its end. -/
def CodePost (P : Program) (G : Nat) (E : Env) (W0 : World) (N0 : Nat) (β : Inj) (σ σ' τ : AS) (w : World) (tr : Array Value) (dr : List Deferred) (b : Frame) (cs : List Frame) (start k : List Item) (e : Ex) (t1 : List Value) (ds1 : List Nat) : Prop :=
  ∃ w' β' τ' tr' dr' k', Ext β β' σ σ' ∧ σ'.Led τ τ' ∧ R (CodeK G E) W0 N0 β' τ' w' ∧ lRel β' t1 tr'.toList ∧ dRel β' ds1 dr' ∧ Lead e k k' ∧ Steps P (lone (Fr b tr dr start) cs w) (lone (Fr b tr' dr' k') cs w')

section
variable (P W0 N0 G E)
def CodeOk (rec : Rec) : Prop := ∀ lim x c t ds σ o σ', rec lim (.code x c t ds) σ = some (o, σ') → codeB G E x.fn c = true → ∀ β τ w (tr : Array Value) dr (b : Frame), σ.Wf → σ.Like τ → R (CodeK G E) W0 N0 β τ w → Fresh β σ σ' → GlobOk G β →
  lRel β t tr.toList → dRel β ds dr → b.fn = x.fn → rdRel β x.round b.roundOf → ∀ (it : Item), (it = .code c ∨ ∃ body, c = .loop body ∧ it = .inLoop body) → ∀ k cs,
  ∃ e t1 ds1, o = .done e t1 ds1 ∧ CodePost P G E W0 N0 β σ σ' τ w tr dr b cs (it :: k) k e t1 ds1
def ScopeOk (rec : Rec) : Prop := ∀ lim x body c t ds σ o σ', rec lim (.scope x body c t ds) σ = some (o, σ') → codeB G E x.fn body = true → codeB G E x.fn c = true → ∀ β τ w (tr : Array Value) dr (b : Frame), σ.Wf → σ.Like τ → R (CodeK G E) W0 N0 β τ w → Fresh β σ σ' → GlobOk G β →
  lRel β t tr.toList → dRel β ds dr → b.fn = x.fn → rdRel β x.round b.roundOf → ∀ k cs,
  ∃ e t1 ds1, o = .done e t1 ds1 ∧ CodePost P G E W0 N0 β σ σ' τ w tr dr b cs (.code c :: .inScope body :: k) k e t1 ds1
end

theorem CodePost.head {β : Inj} {σ σ' τ : AS} {w : World} {tr : Array Value} {dr : List Deferred} {b : Frame} {cs : List Frame} {start start' k : List Item} {e : Ex} {t1 : List Value} {ds1 : List Nat} (h : CodePost P G E W0 N0 β σ σ' τ w tr dr b cs start' k e t1 ds1)
    (s : Steps P (lone (Fr b tr dr start) cs w) (lone (Fr b tr dr start') cs w)) : CodePost P G E W0 N0 β σ σ' τ w tr dr b cs start k e t1 ds1 := by
  obtain ⟨w', β', τ', tr', dr', k', a1, a2, a3, a4, a5, a6, a7⟩ := h
  exact ⟨w', β', τ', tr', dr', k', a1, a2, a3, a4, a5, a6, s.trans a7⟩

theorem CodePost.tail {β β1 : Inj} {σ σ1 σ' τ τ1 : AS} {w w1 : World} {tr tr1 : Array Value} {dr dr1 : List Deferred} {b : Frame} {cs : List Frame} {start start' k : List Item} {e : Ex} {t1 : List Value} {ds1 : List Nat}
    (h : CodePost P G E W0 N0 β1 σ1 σ' τ1 w1 tr1 dr1 b cs start' k e t1 ds1) (x : Ext β β1 σ σ1) (l : σ1.Led τ τ1) (h1 : σ.next ≤ σ1.next) (h2 : σ1.next ≤ σ'.next)
    (s : Steps P (lone (Fr b tr dr start) cs w) (lone (Fr b tr1 dr1 start') cs w1)) : CodePost P G E W0 N0 β σ σ' τ w tr dr b cs start k e t1 ds1 := by
  obtain ⟨w', β', τ', tr', dr', k', a1, a2, a3, a4, a5, a6, a7⟩ := h
  exact ⟨w', β', τ', tr', dr', k', x.trans a1 h1 h2, l.trans a2 h2, a3, a4, a5, a6, s.trans a7⟩

/-- The end is at hand. -/
theorem CodePost.now {β : Inj} {σ τ : AS} {w : World} {tr : Array Value} {dr : List Deferred} {b : Frame} {cs : List Frame} {start k k' : List Item} {e : Ex} {t1 : List Value} {ds1 : List Nat} (hl : σ.Like τ) (hR : R (CodeK G E) W0 N0 β τ w)
    (ht : lRel β t1 tr.toList) (hd : dRel β ds1 dr) (hk : Lead e k k') (s : Steps P (lone (Fr b tr dr start) cs w) (lone (Fr b tr dr k') cs w)) : CodePost P G E W0 N0 β σ σ τ w tr dr b cs start k e t1 ds1 :=
  ⟨w, β, τ, tr, dr, k', .refl _ _, .refl hl, hR, ht, hd, hk, s⟩

/-- An end at 'k1' is led on to one at 'k'. -/
theorem CodePost.last {β : Inj} {σ σ' τ : AS} {w : World} {tr : Array Value} {dr : List Deferred} {b : Frame} {cs : List Frame} {start k k1 : List Item} {e e' : Ex} {t1 : List Value} {ds1 : List Nat} (h : CodePost P G E W0 N0 β σ σ' τ w tr dr b cs start k1 e t1 ds1)
    (s : ∀ (tr : Array Value) (dr : List Deferred) (w : World) k', Lead e k1 k' → ∃ k'', Lead e' k k'' ∧ Steps P (lone (Fr b tr dr k') cs w) (lone (Fr b tr dr k'') cs w)) : CodePost P G E W0 N0 β σ σ' τ w tr dr b cs start k e' t1 ds1 := by
  obtain ⟨w', β', τ', tr', dr', k', a1, a2, a3, a4, a5, a6, a7⟩ := h
  obtain ⟨k'', b1, b2⟩ := s tr' dr' w' k' a6
  exact ⟨w', β', τ', tr', dr', k'', a1, a2, a3, a4, a5, b1, a7.trans b2⟩

/-- An item that no exit looks at. -/
theorem Lead.drop {e : Ex} {it : Item} {k k' : List Item} (h1 : ∀ id, exitTo id (it :: k) = exitTo id k) (h2 : ∀ l, gotoIn l (it :: k) = gotoIn l k) (hn : e ≠ .normal) (h : Lead e (it :: k) k') : Lead e k k' := by
  cases e with
  | normal => exact absurd rfl hn
  | ret => exact h
  | exit id => obtain ⟨pre, h3, h4⟩ := h; exact ⟨pre, h3, h4.trans (h1 id)⟩
  | goto l => obtain ⟨pre, h3, h4⟩ := h; exact ⟨pre, h3, h4.trans (h2 l)⟩

theorem code_step (H : Given P (CodeK G E) W0 N0 G E rec) (hc : CodeOk P W0 N0 G E rec) (hs : ScopeOk P W0 N0 G E rec) : CodeOk P W0 N0 G E (fun lim k σ => stepA P E rec lim k σ) := by
  intro lim x c t ds σ o σ' hr hK β τ w tr dr b hw hl hR hf hG ht hd hb hrd it hit k cs
  cases c with
  | skip =>
    rcases hit with rfl | ⟨_, h, _⟩
    · simp only [stepA, Option.some.injEq, Prod.mk.injEq] at hr
      obtain ⟨rfl, rfl⟩ := hr
      exact ⟨_, _, _, rfl, .now hl hR ht hd rfl (.one st_skip)⟩
    · cases h
  | label l =>
    rcases hit with rfl | ⟨_, h, _⟩
    · simp only [stepA, Option.some.injEq, Prod.mk.injEq] at hr
      obtain ⟨rfl, rfl⟩ := hr
      exact ⟨_, _, _, rfl, .now hl hR ht hd rfl (.one st_label)⟩
    · cases h
  | exit id =>
    rcases hit with rfl | ⟨_, h, _⟩
    · simp only [stepA, Option.some.injEq, Prod.mk.injEq] at hr
      obtain ⟨rfl, rfl⟩ := hr
      exact ⟨_, _, _, rfl, .now hl hR ht hd ⟨k, rfl, rfl⟩ (.refl _ _)⟩
    · cases h
  | goto l =>
    rcases hit with rfl | ⟨_, h, _⟩
    · simp only [stepA, Option.some.injEq, Prod.mk.injEq] at hr
      obtain ⟨rfl, rfl⟩ := hr
      exact ⟨_, _, _, rfl, .now hl hR ht hd ⟨k, rfl, rfl⟩ (.refl _ _)⟩
    · cases h
  | ret =>
    rcases hit with rfl | ⟨_, h, _⟩
    · simp only [stepA, Option.some.injEq, Prod.mk.injEq] at hr
      obtain ⟨rfl, rfl⟩ := hr
      exact ⟨_, _, _, rfl, .now hl hR ht hd ⟨k, rfl⟩ (.refl _ _)⟩
    · cases h
  | refuse m => simp only [stepA] at hr; cases hr
  | scope body =>
    rcases hit with rfl | ⟨_, h, _⟩
    · simp only [stepA] at hr
      obtain ⟨e, t1, ds1, h1, h2⟩ := hs lim x body body t ds σ o σ' hr hK hK β τ w tr dr b hw hl hR hf hG ht hd hb hrd k cs
      exact ⟨e, t1, ds1, h1, h2.head (.one st_scope)⟩
    · cases h
  | cond c a a' =>
    rcases hit with rfl | ⟨_, h, _⟩
    · simp only [stepA] at hr
      simp only [codeB, Bool.and_eq_true] at hK
      split at hr
      · rename_i b' hb'
        have hv := ev_rel hG ht hK.1.1
        rw [hb'] at hv
        have hv' : evA tr c = .bool b' := by
          generalize evA tr c = u at hv
          cases hv; rfl
        obtain ⟨e, t1, ds1, h1, h2⟩ := hc lim x (bif b' then a else a') t ds σ o σ' hr (by cases b'; exact hK.2; exact hK.1.2) β τ w tr dr b hw hl hR hf hG ht hd hb hrd _ (.inl rfl) k cs
        exact ⟨e, t1, ds1, h1, h2.head (.one (st_cond hv'))⟩
      · cases hr
    · cases h
  | seq a c2 =>
    rcases hit with rfl | ⟨_, h, _⟩
    · simp only [stepA] at hr
      simp only [codeB, Bool.and_eq_true] at hK
      cases h1 : rec lim (.code x a t ds) σ with
      | none => rw [h1] at hr; cases hr
      | some r =>
        obtain ⟨o1, σ1⟩ := r
        have k1 := (H.good _ _ _ _ _ h1 hw).1
        by_cases hn : ∃ t1 ds1, o1 = .done .normal t1 ds1
        · obtain ⟨t1, ds1, rfl⟩ := hn
          rw [h1] at hr
          dsimp only at hr
          have k2 := (H.good _ _ _ _ _ hr (k1.wf hw)).1
          obtain ⟨e, t1', ds1', heq, w1, β1, τ1, tr1, dr1, k', x1, l1, R1, ht1, hd1, hk1, s1⟩ := hc lim x a t ds σ _ σ1 h1 hK.1 β τ w tr dr b hw hl hR (hf.left k2.next) hG ht hd hb hrd _ (.inl rfl) (.code c2 :: k) cs
          cases heq
          have hk1 : k' = .code c2 :: k := hk1
          subst hk1
          obtain ⟨e, t2, ds2, h2, h3⟩ := hc lim x c2 t1 ds1 σ1 o σ' hr hK.2 β1 τ1 w1 tr1 dr1 b (k1.wf hw) l1.like R1 (hf.right x1 k1.next) (hG.mono x1.1) ht1 hd1 hb (hrd.mono x1.1) _ (.inl rfl) k cs
          exact ⟨e, t2, ds2, h2, h3.tail x1 l1 k1.next k2.next (.head st_seq s1)⟩
        · have hr' : some (o1, σ1) = some (o, σ') := by
            rw [h1] at hr
            rcases o1 with ⟨e, t1, ds1⟩ | v
            · cases e <;> first | exact hr | exact absurd ⟨_, _, rfl⟩ hn
            · exact hr
          cases hr'
          obtain ⟨e, t1, ds1, heq, h3⟩ := hc lim x a t ds σ o σ' h1 hK.1 β τ w tr dr b hw hl hR hf hG ht hd hb hrd _ (.inl rfl) (.code c2 :: k) cs
          subst heq
          have hne : e ≠ .normal := fun h => hn ⟨t1, ds1, by rw [h]⟩
          exact ⟨e, t1, ds1, rfl, (h3.last fun _ _ _ k' hk => ⟨k', hk.drop (fun _ => rfl) (fun _ => rfl) hne, .refl _ _⟩).head (.one st_seq)⟩
    · cases h
  | block id body =>
    rcases hit with rfl | ⟨_, h, _⟩
    · simp only [stepA] at hr
      cases h1 : rec lim (.code x body t ds) σ with
      | none => rw [h1] at hr; cases hr
      | some r =>
        obtain ⟨o1, σ1⟩ := r
        have hσ : σ1 = σ' := by
          rw [h1] at hr
          rcases o1 with ⟨e, t1, ds1⟩ | v
          · cases e <;> (cases hr; rfl)
          · cases hr; rfl
        subst hσ
        obtain ⟨e, t1, ds1, heq, h3⟩ := hc lim x body t ds σ o1 σ1 h1 hK β τ w tr dr b hw hl hR hf hG ht hd hb hrd _ (.inl rfl) (.inBlock id :: k) cs
        subst heq
        rw [h1] at hr
        refine ⟨_, t1, ds1, ?_, (h3.last (e' := match e with | .exit id' => bif Nat.beq id' id then .normal else .exit id' | e => e) fun tr dr w k' hk => ?_).head (.one st_block)⟩
        · cases e <;> (cases hr; rfl)
        · cases e with
          | normal => exact ⟨k, rfl, by rw [show k' = .inBlock id :: k from hk]; exact .one st_inBlock⟩
          | ret => exact ⟨k', hk, .refl _ _⟩
          | goto l => obtain ⟨pre, h4, h5⟩ := hk; exact ⟨k', ⟨pre, h4, h5⟩, .refl _ _⟩
          | exit id' =>
            obtain ⟨pre, rfl, h5⟩ := hk
            dsimp only
            simp only [exitTo] at h5
            cases hbe : Nat.beq id' id with
            | true =>
              have : id' = id := Nat.eq_of_beq_eq_true hbe
              subst this
              rw [if_pos (by simp)] at h5
              exact ⟨k, rfl, .one (st_exit h5)⟩
            | false =>
              have : id' ≠ id := Nat.ne_of_beq_eq_false hbe
              rw [if_neg (by simp; omega)] at h5
              exact ⟨_, ⟨pre, rfl, h5⟩, .refl _ _⟩
    · cases h
  | loop body =>
    have hst : Steps P (lone (Fr b tr dr (it :: k)) cs w) (lone (Fr b tr dr (.code body :: .inLoop body :: k)) cs w) := by
      rcases hit with rfl | ⟨_, h, rfl⟩
      · exact .one st_loop
      · cases h; exact .one st_inLoop
    simp only [stepA] at hr
    have hKb : codeB G E x.fn body = true := hK
    cases h1 : rec lim (.code x body t ds) σ with
    | none => rw [h1] at hr; cases hr
    | some r =>
      obtain ⟨o1, σ1⟩ := r
      have k1 := (H.good _ _ _ _ _ h1 hw).1
      by_cases hn : ∃ t1 ds1, o1 = .done .normal t1 ds1
      · obtain ⟨t1, ds1, rfl⟩ := hn
        rw [h1] at hr
        dsimp only at hr
        have k2 := (H.good _ _ _ _ _ hr (k1.wf hw)).1
        obtain ⟨e, t1', ds1', heq, w1, β1, τ1, tr1, dr1, k', x1, l1, R1, ht1, hd1, hk1, s1⟩ := hc lim x body t ds σ _ σ1 h1 hKb β τ w tr dr b hw hl hR (hf.left k2.next) hG ht hd hb hrd _ (.inl rfl) (.inLoop body :: k) cs
        cases heq
        have hk1 : k' = .inLoop body :: k := hk1
        subst hk1
        obtain ⟨e, t2, ds2, h2, h3⟩ := hc lim x (.loop body) t1 ds1 σ1 o σ' hr hK β1 τ1 w1 tr1 dr1 b (k1.wf hw) l1.like R1 (hf.right x1 k1.next) (hG.mono x1.1) ht1 hd1 hb (hrd.mono x1.1) (.inLoop body) (.inr ⟨body, rfl, rfl⟩) k cs
        exact ⟨e, t2, ds2, h2, h3.tail x1 l1 k1.next k2.next (hst.trans s1)⟩
      · have hr' : some (o1, σ1) = some (o, σ') := by
          rw [h1] at hr
          rcases o1 with ⟨e, t1, ds1⟩ | v
          · cases e <;> first | exact hr | exact absurd ⟨_, _, rfl⟩ hn
          · exact hr
        cases hr'
        obtain ⟨e, t1, ds1, heq, h3⟩ := hc lim x body t ds σ o σ' h1 hKb β τ w tr dr b hw hl hR hf hG ht hd hb hrd _ (.inl rfl) (.inLoop body :: k) cs
        subst heq
        have hne : e ≠ .normal := fun h => hn ⟨t1, ds1, by rw [h]⟩
        exact ⟨e, t1, ds1, rfl, (h3.last fun _ _ _ k' hk => ⟨k', hk.drop (fun _ => rfl) (fun _ => rfl) hne, .refl _ _⟩).head hst⟩
  | region id ops draw =>
    rcases hit with rfl | ⟨_, h, _⟩
    · simp only [stepA] at hr
      simp only [codeB, Bool.and_eq_true, List.all_eq_true] at hK
      have hB : ∀ (j : Nat) (o : Oper), ops[j]? = some o → opB G o = true := fun j o ho => hK.1 o (by
        rw [← Array.getElem?_toList] at ho
        exact List.mem_of_getElem? ho)
      cases draw with
      | false =>
        rw [cond_false] at hr
        cases h1 : opsA P E rec ops false lim ops.toList t σ with
        | none => rw [h1] at hr; cases hr
        | some r =>
          obtain ⟨t1, σ1⟩ := r
          rw [h1] at hr
          simp only [Option.some.injEq, Prod.mk.injEq] at hr
          obtain ⟨rfl, rfl⟩ := hr
          obtain ⟨w', β', τ', tr', x1, l1, R1, ht1, s1⟩ := seq_steps H ops.toList (List.range ops.size) t tr σ σ1 τ t1 (by simp) (fun n i o hn ho => by
            have hlt : n < ops.size := by
              have := (List.getElem?_eq_some_iff.1 hn).1; simpa using this
            rw [List.getElem?_range hlt] at hn
            simp only [Option.some.injEq] at hn
            subst hn
            rw [Array.getElem?_toList] at ho; exact ho) h1 (fun o ho => hK.1 o ho) β w hw hl hR hf hG ht b dr k cs
          exact ⟨.normal, t1, ds, rfl, w', β', τ', tr', dr, k, x1, l1, R1, ht1, hd.mono x1.1, rfl, .head st_region (s1.trans (.one st_region_end))⟩
      | true =>
        rw [cond_true] at hr
        have hK2 := hK.2
        rw [cond_true] at hK2
        split at hr
        · rename_i pl hn
          rw [hn] at hK2
          have hK2 : planAll ops pl = true := hK2
          cases h1 : opsI P E rec ops lim pl.l t σ with
          | none => rw [h1] at hr; cases hr
          | some r =>
            obtain ⟨t2, σ2⟩ := r
            rw [h1] at hr
            simp only [Option.some.injEq, Prod.mk.injEq] at hr
            obtain ⟨rfl, rfl⟩ := hr
            have fin : ∀ md tape l gs, planB md ops l gs = true → opsI P E rec ops lim l t σ = some (t2, σ2) → Region.schedule (P.follows .mixedOrders) ops (w.tape w.drawn (.order b.fn id)) = Region.linearise md ops tape →
                ∃ e t1 ds1, Out.done .normal t2 ds = .done e t1 ds1 ∧ CodePost P G E W0 N0 β σ σ2 τ w tr dr b cs (.code (.region id ops true) :: k) k e t1 ds1 := by
              intro md tape l gs hd1 hrun hsch
              obtain ⟨w', β', τ', tr', x1, l1, R1, ht1, s1⟩ := plan_run H hd1 hB hrun hw hl (hR.drawn (w.drawn + 1)) hf hG ht tape b dr k cs
              refine ⟨.normal, t2, ds, rfl, w', β', τ', tr', dr, k, x1, l1, R1, ht1, hd.mono x1.1, rfl, .head st_region_draw ?_⟩
              rw [hsch]
              exact s1.trans (.one st_region_end)
            exact fin .any (w.tape w.drawn (.order b.fn id)) pl.l pl.gs hK2 h1 (by simp [Region.schedule, H.mixed])
        · cases hr
    · cases h
  | rangeFunc f params assign body =>
    rcases hit with rfl | ⟨_, h, _⟩
    · simp only [stepA] at hr
      simp only [codeB, Bool.and_eq_true] at hK
      unfold rangeA at hr
      split at hr
      case h_2 => cases hr
      rename_i l mark σ1 h1
      split at hr
      case h_2 => cases hr
      rename_i m hm
      split at hr
      case h_2 => cases hr
      rename_i v2 σ2 h2
      have k1 := kept_runA h1 hw
      have k2 := ((good_apply H.ovGood H.good) σ1 v2 σ2 h2 (k1.wf hw)).1
      obtain ⟨j, σ3, h3, rfl, he⟩ : ∃ j σ3, runA P lim (Instr.endLoop l) σ2 = some (j, σ3) ∧ σ3 = σ' ∧ ((j = none ∧ o = .done .normal t (m ++ ds)) ∨ (j = some .ret ∧ o = .done .ret t (m ++ ds)) ∨ (∃ id, j = some (.exit id) ∧ o = .done (.exit id) t (m ++ ds)) ∨ (∃ g, j = some (.goto g) ∧ o = .done (.goto g) t (m ++ ds))) := by
        unfold rangeEnd at hr
        split at hr
        · rename_i h3; cases hr; exact ⟨_, _, h3, rfl, .inl ⟨rfl, rfl⟩⟩
        · rename_i h3; cases hr; exact ⟨_, _, h3, rfl, .inr (.inl ⟨rfl, rfl⟩)⟩
        · rename_i h3; cases hr; exact ⟨_, _, h3, rfl, .inr (.inr (.inl ⟨_, rfl, rfl⟩))⟩
        · rename_i h3; cases hr; exact ⟨_, _, h3, rfl, .inr (.inr (.inr ⟨_, rfl, rfl⟩))⟩
        · cases hr
      have k3 := kept_runA h3 (k2.wf (k1.wf hw))
      have n1 := k1.next
      have n2 := k2.next
      have n3 := k3.next
      obtain ⟨r', w1, β1, τ1, er, x1, l1, R1, e, hβe, he0, hl', hdm⟩ := (sim_enterLoop (P := P) (K := CodeK G E) (W0 := W0) (N0 := N0) (fn := x.fn) (t := t.toArray) (t' := tr) (arrRel_iff.2 (by simpa using ht)) (params := params) (assign := assign) (body := body) hK.1.2 hK.2 hrd).at hw hl hR h1 (fun i h h' => hf i h (by omega))
      obtain ⟨l', mark'⟩ := r'
      have hl' : l' = e.b := hl'
      subst hl'
      have hL := apply_lands H.ov H.good H.call H.round h2 (f' := evA tr f) (args' := #[.func (.yield e.b) #[] #[]]) (k1.wf hw) l1.like R1 (fun i h h' => (hf.right x1 n1) i h (by omega)) (hG.mono x1.1) ((ev_rel hG ht hK.1.1).mono x1.1)
        ⟨.func ⟨e, hβe, he0, rfl⟩ rfl (fun i h => by simp at h) rfl (fun i h => by simp at h), trivial⟩
      have hmode : (stepG P true { frame := Fr b tr dr (.code (.rangeFunc f params assign body) :: k), callers := cs, status := .running, dying := none } w).bare =
          (stepG.apply P true (Fr b tr (mark' ++ dr) (.inRangeFunc e.b :: k)) cs none (do let d ← Deferred.ofValue (evA tr f) #[.func (.yield e.b) #[] #[]]; invoke d.target d.args) w1).bare := by
        have hev := Fr_eval b tr (mark' ++ dr) (.inRangeFunc e.b :: k)
        simp only [Fr] at hev
        have er2 : (Instr.enterLoop b.fn tr params assign body b.roundOf).run P w = .ok (e.b, mark') w1 := by rw [hb]; exact er
        have ea : #[Operand.const (.func (.yield e.b) #[] #[])].map (evA tr) = #[.func (.yield e.b) #[] #[]] := by simp [evA]
        simp only [stepG, stepG.exec, Fr, Sem.runT_eq, er2, GStep.bare_after, hev, resolve, ea]
      obtain ⟨v', w2, ⟨β2, τ2, x2, l2, R2, hv⟩, s2⟩ := hL.steps (fr0 := Fr b tr dr (.code (.rangeFunc f params assign body) :: k)) (fr := Fr b tr (mark' ++ dr) (.inRangeFunc e.b :: k)) (cs := cs) (w0 := w) trivial hmode
      have hfin : (Fr b tr (mark' ++ dr) (.inRangeFunc e.b :: k)).finish v' = Fr b tr (mark' ++ dr) (.endRangeFunc e.b :: k) := rfl
      rw [hfin] at s2
      have x12 := x1.trans x2 n1 n2
      obtain ⟨j', w3, β3, τ3, er3, x3, l3, R3, hb3, hj⟩ := (sim_endLoop (P := P) (K := CodeK G E) (W0 := W0) (N0 := N0) (l := l) (e := e) (x2.1 _ _ hβe)).at (k2.wf (k1.wf hw)) l2.like R2 h3 (fun i h h' => (hf.right x12 (by omega)) i h h')
      have x13 := x12.trans x3 (by omega) n3
      have l13 := (l1.trans l2 n2).trans l3 n3
      subst hj
      have ht3 : lRel β3 t tr.toList := ht.mono x13.1
      have hd3 : dRel β3 (m ++ ds) (mark' ++ dr) := ((hdm m hm).mono (x2.1.trans x3.1)).append (hd.mono x13.1)
      have s3 := s2.trans (.one (st_endRange (P := P) (b := b) (t := tr) (d := mark' ++ dr) (k := k) (cs := cs) er3))
      rcases he with ⟨rfl, rfl⟩ | ⟨rfl, rfl⟩ | ⟨id, rfl, rfl⟩ | ⟨g, rfl, rfl⟩
      · exact ⟨_, _, _, rfl, w3, β3, τ3, tr, mark' ++ dr, k, x13, l13, R3, ht3, hd3, rfl, s3⟩
      · exact ⟨_, _, _, rfl, w3, β3, τ3, tr, mark' ++ dr, _, x13, l13, R3, ht3, hd3, ⟨k, rfl⟩, s3⟩
      · exact ⟨_, _, _, rfl, w3, β3, τ3, tr, mark' ++ dr, _, x13, l13, R3, ht3, hd3, ⟨k, rfl, rfl⟩, s3⟩
      · exact ⟨_, _, _, rfl, w3, β3, τ3, tr, mark' ++ dr, _, x13, l13, R3, ht3, hd3, ⟨k, rfl, rfl⟩, s3⟩
    · cases h

theorem scope_step (H : Given P (CodeK G E) W0 N0 G E rec) (hc : CodeOk P W0 N0 G E rec) (hs : ScopeOk P W0 N0 G E rec) : ScopeOk P W0 N0 G E (fun lim k σ => stepA P E rec lim k σ) := by
  intro lim x body c t ds σ o σ' hr hKb hK β τ w tr dr b hw hl hR hf hG ht hd hb hrd k cs
  simp only [stepA] at hr
  cases h1 : rec lim (.code x c t ds) σ with
  | none => rw [h1] at hr; cases hr
  | some r =>
    obtain ⟨o1, σ1⟩ := r
    have k1 := (H.good _ _ _ _ _ h1 hw).1
    rw [h1] at hr
    by_cases hn : ∃ l t1 ds1 rest, o1 = .done (.goto l) t1 ds1 ∧ findLabel body l = some rest
    · obtain ⟨l, t1, ds1, rest, rfl, hfl⟩ := hn
      dsimp only at hr
      rw [hfl] at hr
      dsimp only at hr
      have k2 := (H.good _ _ _ _ _ hr (k1.wf hw)).1
      obtain ⟨e, t1', ds1', heq, w1, β1, τ1, tr1, dr1, k', x1, l1, R1, ht1, hd1, hk1, s1⟩ := hc lim x c t ds σ _ σ1 h1 hK β τ w tr dr b hw hl hR (hf.left k2.next) hG ht hd hb hrd _ (.inl rfl) (.inScope body :: k) cs
      cases heq
      obtain ⟨pre, rfl, hg⟩ := hk1
      simp only [gotoIn, hfl] at hg
      obtain ⟨e, t2, ds2, h2, h3⟩ := hs lim x body rest t1 ds1 σ1 o σ' hr hKb (codeB_find body hKb hfl) β1 τ1 w1 tr1 dr1 b (k1.wf hw) l1.like R1 (hf.right x1 k1.next) (hG.mono x1.1) ht1 hd1 hb (hrd.mono x1.1) k cs
      exact ⟨e, t2, ds2, h2, h3.tail x1 l1 k1.next k2.next (s1.trans (.one (st_goto hg)))⟩
    · have hr' : some (o1, σ1) = some (o, σ') := by
        rcases o1 with ⟨e, t1, ds1⟩ | v
        · cases e with
          | goto l =>
            dsimp only at hr
            cases hfl : findLabel body l with
            | none => rw [hfl] at hr; exact hr
            | some rest => exact absurd ⟨l, t1, ds1, rest, rfl, hfl⟩ hn
          | _ => exact hr
        · exact hr
      cases hr'
      obtain ⟨e, t1, ds1, heq, h3⟩ := hc lim x c t ds σ o σ' h1 hK β τ w tr dr b hw hl hR hf hG ht hd hb hrd _ (.inl rfl) (.inScope body :: k) cs
      subst heq
      refine ⟨e, t1, ds1, rfl, h3.last fun tr dr w k' hk => ?_⟩
      cases e with
      | normal => exact ⟨k, rfl, by rw [show k' = .inScope body :: k from hk]; exact .one st_inScope⟩
      | ret => exact ⟨k', hk, .refl _ _⟩
      | exit id => obtain ⟨pre, h4, h5⟩ := hk; exact ⟨k', ⟨pre, h4, h5⟩, .refl _ _⟩
      | goto l =>
        obtain ⟨pre, h4, h5⟩ := hk
        refine ⟨k', ⟨pre, h4, ?_⟩, .refl _ _⟩
        rw [h5]
        have : findLabel body l = none := by
          cases hfl : findLabel body l with
          | none => rfl
          | some rest => exact absurd ⟨l, t1, ds1, rest, rfl, hfl⟩ hn
        simp only [gotoIn, this]

theorem call_step (hFn : FnOk P G E) (H : Given P (CodeK G E) W0 N0 G E rec) (hc : CodeOk P W0 N0 G E rec) : CallOk P (CodeK G E) W0 N0 G (fun lim k σ => stepA P E rec lim k σ) := by
  intro lim f args σ v σ' hr β τ w args' hw hl hR hf hG ha
  simp only [stepA] at hr
  cases hok : E.ok f with
  | false => rw [hok] at hr; cases hr
  | true =>
  rw [hok, cond_true] at hr
  split at hr
  case h_2 => cases hr
  rename_i fn hfn
  split at hr
  case h_2 => cases hr
  rename_i c hbody
  split at hr
  case h_2 => cases hr
  rename_i e t1 ds1 σ1 h1
  have hr2 : (e = .normal ∨ e = .ret) ∧ ∃ σ2, takeA P lim ds1 σ1 = some σ2 ∧ runA P lim (results fn t1.toArray) σ2 = some (v, σ') := by
    cases e <;> first | cases hr | skip
    all_goals
      dsimp only at hr
      split at hr
      · rename_i σ2 h2
        split at hr
        · rename_i u σ3 h3
          simp only [Option.some.injEq, Prod.mk.injEq, Out.val.injEq] at hr
          obtain ⟨rfl, rfl⟩ := hr
          exact ⟨by simp, σ2, h2, h3⟩
        · cases hr
      · cases hr
  obtain ⟨he, σ2, h2, h3⟩ := hr2
  obtain ⟨hcode, hname⟩ := hFn f fn c hok hfn hbody
  have hcall : (callFunc f args').run P w = .ok (.enter f args') w := by
    unfold callFunc
    rw [run_bind']
    show (match P.funcs[f]? with | none => _ | some fn => _ : Sem Next).run P w = _
    rw [hfn]
    simp only [hname, Bool.false_eq_true, if_false, hbody, Option.isNone_some]
    rfl
  have k1 := (H.good _ _ _ _ _ h1 hw).1
  have k3' := kept_runA (P := P) h3
  refine .enter hcall fun cs => ?_
  have hlen : args'.size = args.length := by have := ha.length; simpa using this.symm
  have htm : lRel β (args ++ List.replicate (fn.ntmps - args.length) undef) (args' ++ Array.replicate (fn.ntmps - args'.size) undef).toList := by
    rw [Array.toList_append, Array.toList_replicate, hlen]
    exact ha.append (.replicate rel_undef _)
  have hent : Frame.enter P f args' .normal = Fr (Frame.enter P f args' .normal) (args' ++ Array.replicate (fn.ntmps - args'.size) undef) [] [.code c] := by
    simp only [Frame.enter, Fr, hfn, hbody, Option.map_some, Option.getD_some, Option.bind_some]
  have n1 := k1.next
  have hw1 := k1.wf hw
  obtain ⟨k2, hn2⟩ := kept_take ds1 h2 hw1
  have hw2 := k2.wf hw1
  have k3 := kept_runA h3 hw2
  have n3 := k3.next
  obtain ⟨e', t1', ds1', heq, w1, β1, τ1, tr1, dr1, k', x1, l1, R1, ht1, hd1, hk1, s1⟩ := hc lim ⟨f, none⟩ c _ [] σ _ σ1 h1 hcode β τ w _ [] (Frame.enter P f args' .normal) hw hl hR (fun i h h' => hf i h (by omega)) hG htm trivial rfl trivial _ (.inl rfl) [] cs
  cases heq
  rw [← hent] at s1
  have hleave : Steps P (lone (Fr (Frame.enter P f args' .normal) tr1 dr1 k') cs w1) (lone { Fr (Frame.enter P f args' .normal) tr1 dr1 k' with mode := .returning } cs w1) := by
    rcases he with rfl | rfl
    · have : k' = [] := hk1
      subst this
      exact .one (st_leave rfl)
    · obtain ⟨pre, rfl⟩ := hk1
      exact .one (st_ret rfl)
  obtain ⟨w2, τ2, l2, R2, _, _, s2⟩ := takes (cs := cs) ds1 dr1 σ1 σ2 τ1 β1 w1 { Fr (Frame.enter P f args' .normal) tr1 dr1 k' with mode := .returning } h2 hd1 hw1 l1.like R1 rfl rfl
  obtain ⟨v', w3, β3, τ3, er, x3, l3, R3, hb3, hv⟩ := (sim_results (P := P) (K := CodeK G E) (W0 := W0) (N0 := N0) (fn := fn) (t := t1.toArray) (t' := tr1) (arrRel_iff.2 (by simpa using ht1))).at hw2 l2.like R2 h3 (fun i h h' => (hf.right x1 n1) i (by omega) h')
  have hww : w3 = w2 := RO.results fn tr1 w2 v' w3 er
  subst hww
  subst hb3
  refine ⟨.returned v', w3, _, ⟨v', rfl, β3, τ3, ?_, ?_, R3, hv⟩, s1.trans (hleave.trans s2), rfl, ⟨rfl, rfl, rfl, fn, hfn, er⟩⟩
  · refine ⟨x1.1, fun i en hen => ?_⟩
    rcases x1.2 i en hen with h4 | h4
    · exact .inl h4
    · exact .inr (by omega)
  · exact (l1.trans l2 (by omega)).trans l3 n3

theorem round_step (H : Given P (CodeK G E) W0 N0 G E rec) (hc : CodeOk P W0 N0 G E rec) : RoundOk P (CodeK G E) W0 N0 G (fun lim k σ => stepA P E rec lim k σ) := by
  intro lim l f t a body σ v σ' hr β τ w tr e hw hl hR hf hG he he0 ht hKa hKb c cs
  simp only [stepA] at hr
  split at hr
  case h_2 => cases hr
  rename_i t1 σ1 h1
  split at hr
  case h_2 => cases hr
  rename_i u σ2 h2
  split at hr
  case h_2 => cases hr
  rename_i e3 t3 σ3 h3
  split at hr
  case h_2 => cases hr
  rename_i v4 σ4 h4
  simp only [Option.some.injEq, Prod.mk.injEq, Out.val.injEq] at hr
  obtain ⟨rfl, rfl⟩ := hr
  have k1 := (H.good _ _ _ _ _ h1 hw).1
  have hw1 := k1.wf hw
  have k2 := kept_runA h2 hw1
  have hw2 := k2.wf hw1
  have k3 := (H.good _ _ _ _ _ h3 hw2).1
  have hw3 := k3.wf hw2
  have k4 := kept_runA h4 hw3
  have n1 := k1.next
  have n2 := k2.next
  have n3 := k3.next
  have n4 := k4.next
  have hstart : Frame.round e.b f tr a body .normal = Fr (Frame.round e.b f tr a body .normal) tr [] [.code a, .beginRound, .code body] := rfl
  obtain ⟨e', t1', ds1', heq, w1, β1, τ1, tr1, dr1, k', x1, l1, R1, ht1, hd1, hk1, s1⟩ := hc lim ⟨f, some l⟩ a t [] σ _ σ1 h1 hKa β τ w tr [] (Frame.round e.b f tr a body .normal) hw hl hR (fun i h h' => hf i h (by omega)) hG ht trivial rfl ⟨e, he, he0, rfl⟩ _ (.inl rfl) [.beginRound, .code body] (c :: cs)
  cases heq
  have hk1 : k' = [.beginRound, .code body] := hk1
  subst hk1
  have hdr1 : dr1 = [] := by
    cases dr1 with
    | nil => rfl
    | cons _ _ => exact hd1.elim
  subst hdr1
  obtain ⟨u', w2, β2, τ2, er2, x2, l2, R2, hb2⟩ := (sim_beginRound (P := P) (K := CodeK G E) (W0 := W0) (N0 := N0) (l := l) (e := e) (x1.1 _ _ he)).at hw1 l1.like R1 h2 (fun i h h' => (hf.right x1 n1) i h (by omega))
  subst hb2
  have x12 := x1.trans x2 n1 n2
  obtain ⟨e', t3', ds3', heq, w3, β3, τ3, tr3, dr3, k', x3, l3, R3, ht3, hd3, hk3, s3⟩ := hc lim ⟨f, some l⟩ body t1 [] σ2 _ σ3 h3 hKb β2 τ2 w2 tr1 [] (Frame.round e.b f tr a body .normal) hw2 l2.like R2 (fun i h h' => (hf.right x12 (by omega)) i h (by omega)) (hG.mono x12.1) ht1 trivial rfl ⟨e, x12.1 _ _ he, he0, rfl⟩ _ (.inl rfl) [] (c :: cs)
  cases heq
  have x13 := x12.trans x3 (by omega) n3
  obtain ⟨v', w4, β4, τ4, er4, x4, l4, R4, hb4, hv⟩ := (sim_endRound (P := P) (K := CodeK G E) (W0 := W0) (N0 := N0) (l := l) (e := e) (x13.1 _ _ he) _).at hw3 l3.like R3 h4 (fun i h h' => (hf.right x13 (by omega)) i h h')
  subst hb4
  refine ⟨v', w4, ⟨β4, τ4, x13.trans x4 (by omega) n4, ((l1.trans l2 n2).trans l3 n3).trans l4 n4, R4, hv⟩, ?_⟩
  rw [hstart]
  refine s1.trans (.head (st_beginRound (l := e.b) rfl er2) (s3.trans ?_))
  cases e3 with
  | normal =>
    have : k' = [] := hk3
    subst this
    exact .one (st_endRound rfl rfl er4)
  | ret =>
    obtain ⟨pre, rfl⟩ := hk3
    exact .one (st_endRoundRet rfl rfl er4)
  | exit id =>
    obtain ⟨pre, rfl, hp⟩ := hk3
    exact .one (st_endRoundExit (hp.trans rfl) rfl rfl er4)
  | goto g =>
    obtain ⟨pre, rfl, hp⟩ := hk3
    exact .one (st_endRoundGoto (hp.trans rfl) rfl rfl er4)

/-- What holds of every run of the interpreter. -/
theorem sound (hZ : ZeroOk P) (hM : P.follows .mixedOrders = true) (hG : OvGood E) (hO : OvOk P (CodeK G E) W0 N0 G E) (hFn : FnOk P G E) :
    ∀ n, CallOk P (CodeK G E) W0 N0 G (run P E n) ∧ RoundOk P (CodeK G E) W0 N0 G (run P E n) ∧ CodeOk P W0 N0 G E (run P E n) ∧ ScopeOk P W0 N0 G E (run P E n) := by
  intro n
  induction n with
  | zero =>
    refine ⟨?_, ?_, ?_, ?_⟩
    · intro lim f args σ v σ' h; cases h
    · intro lim l f t a body σ v σ' h; cases h
    · intro lim x c t ds σ o σ' h; cases h
    · intro lim x body c t ds σ o σ' h; cases h
  | succ n ih =>
    obtain ⟨h1, h2, h3, h4⟩ := ih
    have H : Given P (CodeK G E) W0 N0 G E (run P E n) := ⟨hZ, hM, hG, hO, good_run hG n, h1, h2⟩
    exact ⟨call_step hFn H h3, round_step H h3, code_step H h3 h4, scope_step H h3 h4⟩

end Go.Va

/-
  THE TOP: a run of the interpreter over the laid tables is a call of the machine; functions of plain values may be replaced.
-/
namespace Go.Va
open Go.RowKit
variable {P : Program} {G : Nat} {E : Env}

theorem plain_eq {β : Inj} : ∀ (n : Nat) (v v' : Value), plainB n v = true → vRel β v v' → v' = v := by
  intro n
  induction n with
  | zero => intro v v' h; simp [plainB] at h
  | succ n ih =>
    have arr : ∀ (xs ys : Array Value), xs.toList.all (plainB n) = true → xs.size = ys.size → (∀ i (h : i < xs.size) (h' : i < ys.size), vRel β xs[i] ys[i]) → ys = xs := by
      intro xs ys h hs hr
      refine Array.ext hs.symm fun i hi hi' => ?_
      exact ih _ _ (List.all_eq_true.1 h _ (by simp)) (hr i hi' hi)
    intro v v' h hr
    cases hr <;> first | rfl | (simp [plainB] at h; done) | skip
    case func fn fn' f f' c c' hfn h1 h2 h3 h4 =>
      simp only [plainB, Bool.and_eq_true] at h
      have e1 : fn' = fn := by
        cases fn <;> first | exact hfn | (simp at h)
      rw [e1, arr _ _ h.1.2 h1 h2, arr _ _ h.2 h3 h4]
    case iface t a a' ha =>
      simp only [plainB] at h
      rw [ih _ _ h ha]
    case agg f f' h1 h2 => simp only [plainB] at h; rw [arr _ _ h h1 h2]
    case tuple f f' h1 h2 => simp only [plainB] at h; rw [arr _ _ h h1 h2]
    all_goals (cases n <;> simp [plainB] at h)

/-- The tables that lie in the heap when all begins: which place, and what it holds. -/
def base0 (G : Nat) (tabs : List (Nat × List Value)) : AS := tabs.foldl (fun σ x => σ.put x.1 (some (.cells x.2 false (none, none) none))) { tr := .leaf, next := G }

/-- The tables lie in the world. -/
def Tabs (G : Nat) (tabs : List (Nat × List Value)) (w : World) : Prop :=
  G ≤ w.heap.size ∧ ∀ x ∈ tabs, ∃ C ty fr, w.heap[x.1]? = some (.cells C ty fr) ∧ ∀ i (_ : i < x.2.length), C[i]? = some x.2[i]

def tabsB (G : Nat) (tabs : List (Nat × List Value)) : Bool := tabs.all fun x => Nat.blt x.1 G && x.2.all (plainB 100)

theorem get_leaf (k : Nat) : (Tr.leaf : Tr AObj).get k = none := rfl

theorem base0_get (G : Nat) : ∀ (tabs : List (Nat × List Value)) (σ : AS) (id : Nat) (x : AObj), (tabs.foldl (fun σ x => σ.put x.1 (some (.cells x.2 false (none, none) none))) σ).get id = some x → σ.get id = some x ∨ ∃ y ∈ tabs, y.1 = id ∧ x = .cells y.2 false (none, none) none
  | [], σ, id, x, h => .inl h
  | y :: tabs, σ, id, x, h => by
    rcases base0_get G tabs _ id x h with h1 | ⟨z, hz, h2⟩
    · rw [AS.get_put] at h1
      split at h1
      · rename_i e
        exact .inr ⟨y, by simp, e.symm, by cases h1; rfl⟩
      · exact .inl h1
    · exact .inr ⟨z, by simp [hz], h2⟩
theorem base0_next : ∀ (tabs : List (Nat × List Value)) (σ : AS), (tabs.foldl (fun σ x => σ.put x.1 (some (.cells x.2 false (none, none) none))) σ).next = σ.next
  | [], σ => rfl
  | y :: tabs, σ => by
    show (tabs.foldl _ (σ.put y.1 _)).next = _
    rw [base0_next tabs]; simp

def inj0 (G : Nat) : Inj := fun i => if i < G then some ⟨i, 0, none⟩ else none

theorem base0_spec {tabs : List (Nat × List Value)} {id : Nat} {x : AObj} (h : (base0 G tabs).get id = some x) : ∃ y ∈ tabs, y.1 = id ∧ x = .cells y.2 false (none, none) none := by
  rcases base0_get G tabs _ id x h with h1 | h1
  · cases h1
  · exact h1

theorem base0_wf {tabs : List (Nat × List Value)} (ht : tabsB G tabs = true) : (base0 G tabs).Wf := by
  refine ⟨fun id hid => ?_, fun id x q hx hq => ?_⟩
  · cases h : (base0 G tabs).get id with
    | none => rfl
    | some x =>
      obtain ⟨y, hy, rfl, _⟩ := base0_spec h
      have := List.all_eq_true.1 ht y hy
      simp only [Bool.and_eq_true] at this
      have h1 := this.1
      rw [Nat.blt_eq] at h1
      have : (base0 G tabs).next = G := base0_next tabs _
      omega
  · obtain ⟨y, hy, _, rfl⟩ := base0_spec hx
    cases hq

theorem base0_R {K : FuncId → Code → Prop} {tabs : List (Nat × List Value)} (ht : tabsB G tabs = true) {w : World} (hT : Tabs G tabs w) : R K w w.heap.size (inj0 G) (base0 G tabs) w := by
  have hi : ∀ {i e}, inj0 G i = some e → i < G ∧ e = ⟨i, 0, none⟩ := by
    intro i e h
    unfold inj0 at h
    split at h
    · rename_i hlt; cases h; exact ⟨hlt, rfl⟩
    · cases h
  refine ⟨fun {id e c rw lo pv} hb hg => ?_, fun {id e o} hb hg => ?_, fun {i j ei ej x y} hij hbi hbj hgi hgj ho heq => ?_, fun {id e} hb => ?_, ⟨rfl, rfl, rfl, Nat.le_refl _, fun _ _ => rfl⟩, Nat.le_refl _, fun {id e r} hb hg => ?_⟩
  · obtain ⟨y, hy, rfl, hx⟩ := base0_spec hg
    cases hx
    obtain ⟨_, rfl⟩ := hi hb
    obtain ⟨C, ty, fr, h1, h2⟩ := hT.2 y hy
    have hpl := List.all_eq_true.1 ht y hy
    simp only [Bool.and_eq_true] at hpl
    refine ⟨C, ty, fr, h1, fun i hi => ⟨_, by rw [Nat.zero_add]; exact h2 i hi, plain_rel 100 _ (List.all_eq_true.1 hpl.2 _ (by simp))⟩, fun h => (by cases h), rfl, fun T hT => by cases hT⟩
  · obtain ⟨y, hy, _, hx⟩ := base0_spec hg; cases hx
  · obtain ⟨_, rfl⟩ := hi hbi
    obtain ⟨_, rfl⟩ := hi hbj
    exact absurd heq hij
  · obtain ⟨h, rfl⟩ := hi hb; have := hT.1; show id < _; omega
  · obtain ⟨y, hy, _, hx⟩ := base0_spec hg; cases hx

theorem plain_lRel {β : Inj} : ∀ l : List Value, l.all (plainB 100) = true → lRel β l l
  | [], _ => trivial
  | v :: l, h => by simp only [List.all_cons, Bool.and_eq_true] at h; exact ⟨plain_rel 100 v h.1, plain_lRel l h.2⟩

/-- WHAT A PURE FUNCTION DOES: it returns the value, and nothing that was there has turned. -/
def Pure (P : Program) (G : Nat) (tabs : List (Nat × List Value)) (f : FuncId) (args : List Value) (v : Value) : Prop :=
  ∀ w, Tabs G tabs w → Lands P (callFunc f args.toArray) w fun v' w' => v' = v ∧ Below w.heap.size w w'

/-- The functions that are replaced: by functions of plain values. -/
def pureEnv (ok : FuncId → Bool) (draws : FuncId → Nat → Option Plan) (isOv : FuncId → Bool) (pf : FuncId → List Value → Option Value) : Env :=
  { isOv, ok, draws, ov := fun f args _ σ => bif args.all (plainB 100) then (match pf f args with | some v => bif plainB 100 v then some (v, σ) else none | none => none) else none }

theorem pureEnv_good {ok : FuncId → Bool} {draws : FuncId → Nat → Option Plan} {isOv : FuncId → Bool} {pf : FuncId → List Value → Option Value} : OvGood (pureEnv ok draws isOv pf) := by
  intro f args lim
  simp only [pureEnv]
  refine Good.cond ?_ good_none
  cases pf f args with
  | none => exact good_none
  | some v => exact Good.cond (good_some v) good_none

theorem R.below {K : FuncId → Code → Prop} {W0 : World} {N0 : Nat} {β : Inj} {σ : AS} {w w' : World} (hR : R K W0 N0 β σ w) (hb : Below w.heap.size w w') : R K W0 N0 β σ w' := by
  have hsz : w.heap.size ≤ w'.heap.size := hb.size
  have get : ∀ j, j < w.heap.size → w'.heap[j]? = w.heap[j]? := hb.block
  exact
  { cells := fun hb' hg => by
      obtain ⟨C, ty, fr, h1, h2, h3, h4⟩ := hR.cells hb' hg
      exact ⟨C, ty, fr, by rw [get _ (hR.lt hb')]; exact h1, h2, h3, h4⟩
    obj := fun hb' hg => by
      obtain ⟨h1, h2, o', h3, h4⟩ := hR.obj hb' hg
      exact ⟨h1, h2, o', by rw [get _ (hR.lt hb')]; exact h3, h4⟩
    excl := hR.excl
    lt := fun hb' => by have := hR.lt hb'; omega
    base := hR.base.trans (hb.mono hR.top)
    top := by have := hR.top; omega
    code := hR.code }

theorem plain_lRel_eq {β : Inj} : ∀ (l m : List Value), l.all (plainB 100) = true → lRel β l m → m = l
  | [], [], _, _ => rfl
  | v :: l, u :: m, h, hr => by
    simp only [List.all_cons, Bool.and_eq_true] at h
    rw [plain_eq 100 v u h.1 hr.1, plain_lRel_eq l m h.2 hr.2]
  | [], _ :: _, _, hr => hr.elim
  | _ :: _, [], _, hr => hr.elim

theorem Tabs.below {tabs : List (Nat × List Value)} {N0 : Nat} {W0 w : World} (hT : Tabs G tabs W0) (ht : tabsB G tabs = true) (hG : G ≤ N0) (hb : Below N0 W0 w) : Tabs G tabs w := by
  refine ⟨Nat.le_trans hT.1 hb.size, fun x hx => ?_⟩
  obtain ⟨C, ty, fr, h1, h2⟩ := hT.2 x hx
  have := List.all_eq_true.1 ht x hx
  simp only [Bool.and_eq_true] at this
  have h3 := this.1
  rw [Nat.blt_eq] at h3
  exact ⟨C, ty, fr, by rw [hb.block _ (by omega)]; exact h1, h2⟩

theorem pureEnv_ok {K : FuncId → Code → Prop} {ok : FuncId → Bool} {draws : FuncId → Nat → Option Plan} {isOv : FuncId → Bool} {pf : FuncId → List Value → Option Value} {tabs : List (Nat × List Value)} (ht : tabsB G tabs = true)
    (hpf : ∀ f args v, isOv f = true → pf f args = some v → Pure P G tabs f args v) {W0 : World} {N0 : Nat} (hT : Tabs G tabs W0) (hN : G ≤ N0) : OvOk P K W0 N0 G (pureEnv ok draws isOv pf) := by
  intro f args lim σ v σ' hi hr β τ w args' hw hl hR hf hG ha
  simp only [pureEnv] at hi hr
  cases hpl : args.all (plainB 100) with
  | false => rw [hpl] at hr; cases hr
  | true =>
    rw [hpl, cond_true] at hr
    cases hv : pf f args with
    | none => rw [hv] at hr; cases hr
    | some u =>
      rw [hv] at hr
      dsimp only at hr
      cases hu : plainB 100 u with
      | false => rw [hu] at hr; cases hr
      | true =>
        rw [hu] at hr
        simp only [cond_true, Option.some.injEq, Prod.mk.injEq] at hr
        obtain ⟨rfl, rfl⟩ := hr
        have ea : args' = args.toArray := by
          have := plain_lRel_eq args args'.toList hpl ha
          rw [← this]
        rw [ea]
        refine (hpf f args u hi hv w (hT.below ht hN hR.base)).mono fun v' w' h => ?_
        obtain ⟨rfl, hb⟩ := h
        exact ⟨β, τ, .refl _ _, .refl hl, hR.below hb, plain_rel 100 _ hu⟩

/-- THE TOP THEOREM: what the interpreter answers, the machine answers; of what was there, nothing has turned. -/
theorem top {ok : FuncId → Bool} {draws : FuncId → Nat → Option Plan} {isOv : FuncId → Bool} {pf : FuncId → List Value → Option Value} {tabs : List (Nat × List Value)} (hZ : ZeroOk P) (hM : P.follows .mixedOrders = true) (ht : tabsB G tabs = true)
    (hpf : ∀ f args v, isOv f = true → pf f args = some v → Pure P G tabs f args v) (hFn : FnOk P G (pureEnv ok draws isOv pf)) {n : Nat} {f : FuncId} {args : List Value} {v : Value} {σ' : AS}
    (hr : run P (pureEnv ok draws isOv pf) n 0 (.call f args) (base0 G tabs) = some (.val v, σ')) (ha : args.all (plainB 100) = true) (hv : plainB 100 v = true) : Pure P G tabs f args v := by
  intro w hT
  have hS := (sound (W0 := w) (N0 := w.heap.size) hZ hM pureEnv_good (pureEnv_ok ht hpf hT hT.1) hFn n).1
  have hn : (base0 G tabs).next = G := base0_next tabs _
  refine (hS 0 f args (base0 G tabs) v σ' hr (inj0 G) (base0 G tabs) w args.toArray (base0_wf ht) ⟨rfl, fun _ _ => rfl⟩ (base0_R ht hT) (fun i h1 h2 => ?_) (fun g hg => ?_) (plain_lRel args ha)).mono fun v' w' h => ?_
  · unfold inj0; rw [if_neg (by omega)]
  · unfold inj0; rw [if_pos hg]
  · obtain ⟨β', τ', _, _, hR, hvr⟩ := h
    exact ⟨plain_eq 100 v v' hv hvr, hR.base⟩

/-- A pure function that has a body is called so. -/
theorem Pure.calls {tabs : List (Nat × List Value)} {f : FuncId} {args : List Value} {v : Value} (h : Pure P G tabs f args v) {fn : Func} (hfn : P.funcs[f]? = some fn) (hb : fn.body.isNone = false) (hname : (fn.name == "runtime.NumGoroutine") = false) {w : World} (hT : Tabs G tabs w) :
    Calls P f args.toArray w fun e w' => e = .returned v ∧ Below w.heap.size w w' := by
  have hcall : (callFunc f args.toArray).run P w = .ok (.enter f args.toArray) w := by
    unfold callFunc
    rw [run_bind']
    show (match P.funcs[f]? with | none => _ | some fn => _ : Sem Next).run P w = _
    rw [hfn]
    simp only [hname, Bool.false_eq_true, if_false, hb]
    rfl
  cases h w hT with
  | value h1 => rw [hcall] at h1; cases h1
  | skip h1 => rw [hcall] at h1; cases h1
  | row h1 => rw [hcall] at h1; cases h1
  | round h1 => rw [hcall] at h1; cases h1
  | enter h1 q =>
    rw [hcall] at h1
    cases h1
    intro cs
    obtain ⟨e, w', fr, ⟨v', rfl, rfl, hb⟩, r⟩ := q cs
    exact ⟨_, w', fr, ⟨rfl, hb⟩, r⟩

end Go.Va

/-
  THE INTERPRETER WITH HINTS: a run over values that are not all known; where a condition cannot be told, a hint says it, and it is noted as a premise. That a deeper run answers the same.
-/
namespace Go.Va

def Rec.le (r r' : Rec) : Prop := ∀ lim k σ x, r lim k σ = some x → r' lim k σ = some x
def rec0 : Rec := fun _ _ _ => none
theorem Rec.le0 (r : Rec) : rec0.le r := fun _ _ _ _ h => by cases h

section
variable {P : Program} {E : Env} {r r' : Rec}

theorem enterA_mono (h : r.le r') {lim : Nat} {f : FuncId} {args : List Value} {σ : AS} {x} (e : enterA P E r lim f args σ = some x) : enterA P E r' lim f args σ = some x := by
  unfold enterA at *
  cases hi : E.isOv f with
  | true => rw [hi] at e; exact e
  | false =>
    rw [hi, cond_false] at e
    rw [cond_false]
    split at e
    · rename_i v σ' hr; rw [h _ _ _ _ hr]; exact e
    · cases e

theorem applyA_mono (h : r.le r') {lim : Nat} {f : Value} {args : List Value} {σ : AS} {x} (e : applyA P E r lim f args σ = some x) : applyA P E r' lim f args σ = some x := by
  unfold applyA at *
  split at e
  · exact enterA_mono h e
  · split at e
    · split at e
      · rename_i hr; rw [h _ _ _ _ hr]; exact e
      · cases e
    · cases e
  · cases e

theorem operA_mono (h : r.le r') {lim : Nat} {o : Oper} {t : List Value} {σ : AS} {x} (e : operA P E r lim o t σ = some x) : operA P E r' lim o t σ = some x := by
  unfold operA at *
  split at e
  case h_7 c => 
    split at e
    case h_6 f => exact applyA_mono h e
    all_goals exact e
  all_goals exact e

theorem opsA_mono (h : r.le r') {ops : Array Oper} {q : Bool} {lim : Nat} : ∀ {l : List Oper} {t : List Value} {σ : AS} {x}, opsA P E r ops q lim l t σ = some x → opsA P E r' ops q lim l t σ = some x
  | [], t, σ, x, e => e
  | o :: l, t, σ, x, e => by
    unfold opsA at *
    cases hw : Region.wanted o (yieldedL ops t) with
    | true =>
      rw [hw, cond_true] at e
      rw [cond_true]
      split at e
      · rename_i v σ' ho; rw [operA_mono h ho]; exact opsA_mono h e
      · cases e
    | false => rw [hw, cond_false] at e; rw [cond_false]; exact opsA_mono h e

theorem op1_mono (h : r.le r') {ops : Array Oper} {q : Bool} {lim : Nat} {o : Oper} {t : List Value} {σ : AS} {x} (e : op1 P E r ops q lim o t σ = some x) : op1 P E r' ops q lim o t σ = some x := by
  unfold op1 at *
  cases hw : Region.wanted o (yieldedL ops t) with
  | true => rw [hw, cond_true] at e; rw [cond_true]; exact operA_mono h e
  | false => rw [hw, cond_false] at e; rw [cond_false]; exact e

theorem opsI_mono (h : r.le r') {ops : Array Oper} {lim : Nat} : ∀ {l : List (Nat × Bool)} {t : List Value} {σ : AS} {x}, opsI P E r ops lim l t σ = some x → opsI P E r' ops lim l t σ = some x
  | [], t, σ, x, e => e
  | y :: l, t, σ, x, e => by
    unfold opsI at *
    split at e
    · split at e
      · rename_i ho; rw [op1_mono h ho]; exact opsI_mono h e
      · cases e
    · cases e

theorem rangeA_mono (h : r.le r') {lim : Nat} {c : Ctx} {f : Operand} {params : Array Tmp} {assign body : Code} {t : List Value} {ds : List Nat} {σ : AS} {x} (e : rangeA P E r lim c f params assign body t ds σ = some x) : rangeA P E r' lim c f params assign body t ds σ = some x := by
  unfold rangeA at *
  split at e
  · split at e
    · split at e
      · rename_i ha; rw [applyA_mono h ha]; exact e
      · cases e
    · cases e
  · cases e

theorem stepA_mono (h : r.le r') {lim : Nat} {k : Task} {σ : AS} {x} (e : stepA P E r lim k σ = some x) : stepA P E r' lim k σ = some x := by
  cases k with
  | code c cd t ds =>
    unfold stepA at *
    cases cd with
    | skip => exact e
    | label => exact e
    | region id ops draw =>
      dsimp only at *
      cases draw with
      | true =>
        simp only [cond_true] at *
        split at e
        · split at e
          · rename_i ho; rw [opsI_mono h ho]; exact e
          · cases e
        · cases e
      | false =>
        simp only [cond_false] at *
        split at e
        · rename_i ho; rw [opsA_mono h ho]; exact e
        · cases e
    | seq a b =>
      dsimp only at *
      split at e
      · rename_i ho; rw [h _ _ _ _ ho]; exact h _ _ _ _ e
      · rename_i hn
        rw [h _ _ _ _ e]
        split
        · rename_i he; exact absurd (e.trans he) (hn _ _ _)
        · rfl
    | cond c a b =>
      dsimp only at *
      split at e
      · exact h _ _ _ _ e
      · cases e
    | block id body =>
      dsimp only at *
      split at e
      · rename_i ho; rw [h _ _ _ _ ho]; exact e
      · rename_i hn
        rw [h _ _ _ _ e]
        split
        · rename_i he; exact absurd (e.trans he) (hn _ _ _ _)
        · rfl
    | loop body =>
      dsimp only at *
      split at e
      · rename_i ho; rw [h _ _ _ _ ho]; exact h _ _ _ _ e
      · rename_i hn
        rw [h _ _ _ _ e]
        split
        · rename_i he; exact absurd (e.trans he) (hn _ _ _)
        · rfl
    | rangeFunc f params assign body => exact rangeA_mono h e
    | exit id => exact e
    | scope body => exact h _ _ _ _ e
    | goto l => exact e
    | ret => exact e
    | refuse => exact e
  | scope c body cur t ds =>
    unfold stepA at *
    dsimp only at *
    split at e
    · rename_i ho; rw [h _ _ _ _ ho]
      dsimp only
      split at e
      · exact h _ _ _ _ e
      · exact e
    · rename_i hn
      rw [h _ _ _ _ e]
      split
      · rename_i he; exact absurd (e.trans he) (hn _ _ _ _)
      · rfl
  | call f args =>
    unfold stepA at *
    dsimp only at *
    cases hok : E.ok f with
    | false => rw [hok] at e; cases e
    | true =>
      rw [hok, cond_true] at e
      rw [cond_true]
      split at e
      · split at e
        · split at e
          · rename_i ho; rw [h _ _ _ _ ho]; exact e
          · cases e
        · cases e
      · cases e
  | round l f t assign body =>
    unfold stepA at *
    dsimp only at *
    split at e
    · rename_i ho; rw [h _ _ _ _ ho]
      dsimp only
      split at e
      · rename_i hb
        split at e
        · rename_i h3; rw [h _ _ _ _ h3]; exact e
        · cases e
      · cases e
    · cases e

theorem run_succ : ∀ n, (run P E n).le (run P E (n + 1))
  | 0 => fun _ _ _ _ h => by cases h
  | n + 1 => fun _ _ _ _ h => stepA_mono (run_succ n) h
theorem run_mono {n m : Nat} (h : n ≤ m) : (run P E n).le (run P E m) := by
  induction h with
  | refl => exact fun _ _ _ _ h => h
  | step _ ih => exact fun _ _ _ _ h => run_succ _ _ _ _ _ (ih _ _ _ _ h)

/-! ## The limit -/

/-- What the interpreter answers at some depth. -/
noncomputable def runW (P : Program) (E : Env) : Rec := fun lim k σ =>
  open Classical in if h : ∃ x, ∃ n, run P E n lim k σ = some x then some h.choose else none

theorem runW_of {n : Nat} {lim : Nat} {k : Task} {σ : AS} {x : Out × AS} (h : run P E n lim k σ = some x) : runW P E lim k σ = some x := by
  unfold runW
  have hx : ∃ x, ∃ n, run P E n lim k σ = some x := ⟨x, n, h⟩
  rw [dif_pos hx]
  obtain ⟨m, hm⟩ := hx.choose_spec
  have h1 := run_mono (Nat.le_max_left n m) _ _ _ _ h
  have h2 := run_mono (Nat.le_max_right n m) _ _ _ _ hm
  rw [h1] at h2
  exact congrArg some (Option.some.inj h2).symm
theorem runW_some {lim : Nat} {k : Task} {σ : AS} {x : Out × AS} (h : runW P E lim k σ = some x) : ∃ n, run P E n lim k σ = some x := by
  unfold runW at h
  split at h
  · rename_i hx
    obtain ⟨n, hn⟩ := hx.choose_spec
    cases h
    exact ⟨n, hn⟩
  · cases h
theorem run_le_runW (n : Nat) : (run P E n).le (runW P E) := fun _ _ _ _ h => runW_of h

theorem enterA_cont {lim : Nat} {f : FuncId} {args : List Value} {σ : AS} {x} (e : enterA P E (runW P E) lim f args σ = some x) : ∃ n, enterA P E (run P E n) lim f args σ = some x := by
  unfold enterA at *
  cases hi : E.isOv f with
  | true => rw [hi] at e; exact ⟨0, e⟩
  | false =>
    rw [hi, cond_false] at e
    split at e
    · rename_i v σ' hr
      obtain ⟨n, hn⟩ := runW_some hr
      exact ⟨n, by rw [cond_false, hn]; exact e⟩
    · cases e

theorem applyA_cont {lim : Nat} {f : Value} {args : List Value} {σ : AS} {x} (e : applyA P E (runW P E) lim f args σ = some x) : ∃ n, applyA P E (run P E n) lim f args σ = some x := by
  unfold applyA at *
  split at e
  · exact enterA_cont e
  · split at e
    · split at e
      · rename_i hr
        obtain ⟨n, hn⟩ := runW_some hr
        exact ⟨n, by rw [hn]; exact e⟩
      · cases e
    · cases e
  · cases e

theorem operA_cont {lim : Nat} {o : Oper} {t : List Value} {σ : AS} {x} (e : operA P E (runW P E) lim o t σ = some x) : ∃ n, operA P E (run P E n) lim o t σ = some x := by
  unfold operA at *
  split at e
  case h_7 c =>
    split at e
    case h_6 f => exact applyA_cont e
    all_goals exact ⟨0, e⟩
  all_goals exact ⟨0, e⟩

theorem opsA_cont {ops : Array Oper} {q : Bool} {lim : Nat} : ∀ {l : List Oper} {t : List Value} {σ : AS} {x}, opsA P E (runW P E) ops q lim l t σ = some x → ∃ n, opsA P E (run P E n) ops q lim l t σ = some x
  | [], t, σ, x, e => ⟨0, e⟩
  | o :: l, t, σ, x, e => by
    unfold opsA at *
    cases hw : Region.wanted o (yieldedL ops t) with
    | true =>
      rw [hw, cond_true] at e
      split at e
      · rename_i v σ' ho
        obtain ⟨n, hn⟩ := operA_cont ho
        obtain ⟨m, hm⟩ := opsA_cont e
        exact ⟨max n m, by rw [cond_true, operA_mono (run_mono (Nat.le_max_left n m)) hn]; exact opsA_mono (run_mono (Nat.le_max_right n m)) hm⟩
      · cases e
    | false =>
      rw [hw, cond_false] at e
      obtain ⟨m, hm⟩ := opsA_cont e
      exact ⟨m, by rw [cond_false]; exact hm⟩

theorem op1_cont {ops : Array Oper} {q : Bool} {lim : Nat} {o : Oper} {t : List Value} {σ : AS} {x} (e : op1 P E (runW P E) ops q lim o t σ = some x) : ∃ n, op1 P E (run P E n) ops q lim o t σ = some x := by
  unfold op1 at *
  cases hw : Region.wanted o (yieldedL ops t) with
  | true =>
    rw [hw, cond_true] at e
    obtain ⟨n, hn⟩ := operA_cont e
    exact ⟨n, by rw [cond_true]; exact hn⟩
  | false => rw [hw, cond_false] at e; exact ⟨0, by rw [cond_false]; exact e⟩

theorem opsI_cont {ops : Array Oper} {lim : Nat} : ∀ {l : List (Nat × Bool)} {t : List Value} {σ : AS} {x}, opsI P E (runW P E) ops lim l t σ = some x → ∃ n, opsI P E (run P E n) ops lim l t σ = some x
  | [], t, σ, x, e => ⟨0, e⟩
  | y :: l, t, σ, x, e => by
    unfold opsI at *
    split at e
    · rename_i o hy
      split at e
      · rename_i ho
        obtain ⟨n, hn⟩ := op1_cont ho
        obtain ⟨m, hm⟩ := opsI_cont e
        exact ⟨max n m, by rw [op1_mono (run_mono (Nat.le_max_left n m)) hn]; exact opsI_mono (run_mono (Nat.le_max_right n m)) hm⟩
      · cases e
    · cases e

theorem rangeA_cont {lim : Nat} {c : Ctx} {f : Operand} {params : Array Tmp} {assign body : Code} {t : List Value} {ds : List Nat} {σ : AS} {x} (e : rangeA P E (runW P E) lim c f params assign body t ds σ = some x) :
    ∃ n, rangeA P E (run P E n) lim c f params assign body t ds σ = some x := by
  unfold rangeA at *
  split at e
  · rename_i h1
    split at e
    · rename_i m hm
      split at e
      · rename_i ha
        obtain ⟨n, hn⟩ := applyA_cont ha
        exact ⟨n, by rw [hn]; exact e⟩
      · cases e
    · cases e
  · cases e

theorem stepA_cont {lim : Nat} {k : Task} {σ : AS} {x} (e : stepA P E (runW P E) lim k σ = some x) : ∃ n, stepA P E (run P E n) lim k σ = some x := by
  cases k with
  | code c cd t ds =>
    unfold stepA at *
    cases cd with
    | skip => exact ⟨0, e⟩
    | label => exact ⟨0, e⟩
    | region id ops draw =>
      dsimp only at *
      cases draw with
      | true =>
        simp only [cond_true] at *
        split at e
        · rename_i hd
          split at e
          · rename_i ho
            obtain ⟨n, hn⟩ := opsI_cont ho
            exact ⟨n, by rw [hn]; exact e⟩
          · cases e
        · cases e
      | false =>
        simp only [cond_false] at *
        split at e
        · rename_i ho
          obtain ⟨n, hn⟩ := opsA_cont ho
          exact ⟨n, by rw [hn]; exact e⟩
        · cases e
    | seq a b =>
      dsimp only at *
      split at e
      · rename_i ho
        obtain ⟨n, hn⟩ := runW_some ho
        obtain ⟨m, hm⟩ := runW_some e
        exact ⟨max n m, by rw [run_mono (Nat.le_max_left n m) _ _ _ _ hn]; exact run_mono (Nat.le_max_right n m) _ _ _ _ hm⟩
      · rename_i hn
        obtain ⟨n, h1⟩ := runW_some e
        refine ⟨n, ?_⟩
        rw [h1]
        split
        · rename_i he; cases he; exact absurd e (hn _ _ _)
        · rfl
    | cond c a b =>
      dsimp only at *
      split at e
      · obtain ⟨n, hn⟩ := runW_some e
        exact ⟨n, hn⟩
      · cases e
    | block id body =>
      dsimp only at *
      split at e
      · rename_i ho
        obtain ⟨n, hn⟩ := runW_some ho
        exact ⟨n, by rw [hn]; exact e⟩
      · rename_i hn
        obtain ⟨n, h1⟩ := runW_some e
        refine ⟨n, ?_⟩
        rw [h1]
        split
        · rename_i he; cases he; exact absurd e (hn _ _ _ _)
        · rfl
    | loop body =>
      dsimp only at *
      split at e
      · rename_i ho
        obtain ⟨n, hn⟩ := runW_some ho
        obtain ⟨m, hm⟩ := runW_some e
        exact ⟨max n m, by rw [run_mono (Nat.le_max_left n m) _ _ _ _ hn]; exact run_mono (Nat.le_max_right n m) _ _ _ _ hm⟩
      · rename_i hn
        obtain ⟨n, h1⟩ := runW_some e
        refine ⟨n, ?_⟩
        rw [h1]
        split
        · rename_i he; cases he; exact absurd e (hn _ _ _)
        · rfl
    | rangeFunc f params assign body => exact rangeA_cont e
    | exit id => exact ⟨0, e⟩
    | scope body => exact runW_some e
    | goto l => exact ⟨0, e⟩
    | ret => exact ⟨0, e⟩
    | refuse => exact ⟨0, e⟩
  | scope c body cur t ds =>
    unfold stepA at *
    dsimp only at *
    split at e
    · rename_i ho
      obtain ⟨n, hn⟩ := runW_some ho
      split at e
      · rename_i hl
        obtain ⟨m, hm⟩ := runW_some e
        refine ⟨max n m, ?_⟩
        rw [run_mono (Nat.le_max_left n m) _ _ _ _ hn]
        dsimp only
        rw [hl]
        exact run_mono (Nat.le_max_right n m) _ _ _ _ hm
      · rename_i hl
        refine ⟨n, ?_⟩
        rw [hn]
        dsimp only
        rw [hl]
        exact e
    · rename_i hn
      obtain ⟨n, h1⟩ := runW_some e
      refine ⟨n, ?_⟩
      rw [h1]
      split
      · rename_i he; cases he; exact absurd e (hn _ _ _ _)
      · rfl
  | call f args =>
    unfold stepA at *
    dsimp only at *
    cases hok : E.ok f with
    | false => rw [hok] at e; cases e
    | true =>
      rw [hok, cond_true] at e
      simp only [cond_true]
      split at e
      · rename_i fn hf
        split at e
        · rename_i c hc
          split at e
          · rename_i ho
            obtain ⟨n, hn⟩ := runW_some ho
            refine ⟨n, ?_⟩
            rw [hn]
            exact e
          · cases e
        · cases e
      · cases e
  | round l f t assign body =>
    unfold stepA at *
    dsimp only at *
    split at e
    · rename_i ho
      obtain ⟨n, hn⟩ := runW_some ho
      split at e
      · rename_i hb
        split at e
        · rename_i h3
          obtain ⟨m, hm⟩ := runW_some h3
          refine ⟨max n m, ?_⟩
          rw [run_mono (Nat.le_max_left n m) _ _ _ _ hn]
          dsimp only
          rw [hb]
          dsimp only
          rw [run_mono (Nat.le_max_right n m) _ _ _ _ hm]
          exact e
        · cases e
      · cases e
    · cases e

/-- One step more of the limit is the limit. -/
theorem runW_step {lim : Nat} {k : Task} {σ : AS} {x : Out × AS} (e : stepA P E (runW P E) lim k σ = some x) : runW P E lim k σ = some x := by
  obtain ⟨n, hn⟩ := stepA_cont e
  exact runW_of (n := n + 1) hn
end
end Go.Va

/-
  THE INTERPRETER WITH HINTS: definitions.
-/
namespace Go.Va

/-- A hint: which way a condition turns; what an operation answers; that the guard of a partial operation holds. -/
inductive Hint where
  | br (b : Bool)
  | val (v : Value)
  | ok
  | cells (c : List Value)
  | skip (o : Out) (σ : AS)
  | res (v : Value) (σ : AS)
  | stop

/-- The hints that are left, each with the number of steps before it; what has been noted as a premise. -/
structure HS where
  hs : List (Nat × Hint)
  ob : List Prop

def HS.tick (s : HS) : Option Hint × HS :=
  match s.hs with
  | [] => (none, s)
  | (k, h) :: l => bif Nat.beq k 0 then (some h, ⟨l, s.ob⟩) else (none, ⟨(k - 1, h) :: l, s.ob⟩)
def HS.note (s : HS) (p : Prop) : HS := ⟨s.hs, p :: s.ob⟩

/-- A value is brought to its form before it is handed on (for the kernel's sake). -/
def force {β : Type} : Value → (Value → β) → β
  | .bool b, k => k (.bool b)
  | .int x n, k => k (.int x n)
  | .string b, k => k (.string b)
  | .pointer a, k => k (.pointer a)
  | .slice a l c, k => k (.slice a l c)
  | .tuple a, k => k (.tuple a)
  | .agg a, k => k (.agg a)
  | .iface a b, k => k (.iface a b)
  | .func a b c, k => k (.func a b c)
  | .map a, k => k (.map a)
  | .nilIface, k => k .nilIface
  | .nilFunc, k => k .nilFunc
  | v, k => k v
theorem force_eq {β : Type} (v : Value) (k : Value → β) : force v k = k v := by cases v <;> rfl
def forceL {β : Type} : List Value → (List Value → β) → β
  | [], k => k []
  | v :: l, k => force v fun v' => forceL l fun l' => k (v' :: l')
theorem forceL_eq {β : Type} : ∀ (l : List Value) (k : List Value → β), forceL l k = k l
  | [], _ => rfl
  | v :: l, k => by unfold forceL; rw [force_eq, forceL_eq]

def isB (v : Value) (b : Bool) : Prop := match v with
  | .bool x => x = b
  | _ => False
theorem isB_eq {v : Value} {b : Bool} (h : isB v b) : v = .bool b := by
  cases v <;> first | (rw [show _ = b from h]) | exact h.elim

abbrev RecH := Nat → Task → AS → HS → Option (Out × AS × HS)

def liftH {α : Type} (s : HS) : Option (α × AS) → Option (α × AS × HS)
  | some (a, σ) => some (a, σ, s)
  | none => none

/-- What a partial operation answers, and when. -/
def guarded (P : Program) (o : Oper) (t : List Value) : Option (Value × Prop) :=
  match o.op with
  | .binOp .shl _ x y _ => (match ev t x, ev t y with
    | .int k a, .int _ b => some (.int k (k.wrap (a * 2 ^ (min b.toNat k.bits))), 0 ≤ b)
    | _, _ => none)
  | .binOp .shr _ x y _ => (match ev t x, ev t y with
    | .int k a, .int _ b => some (.int k (a.fdiv (2 ^ (min b.toNat k.bits))), 0 ≤ b)
    | _, _ => none)
  | .binOp .add _ x y _ => (match ev t x, ev t y with
    | .string a, .string b => some (.string (a ++ b), ((a.size + b.size : Nat) : Int) ≤ IntKind.i64.max)
    | _, _ => none)
  | .index xt x ix => (match P.underlying xt, ev t x, ev t ix with
    | some .string, .string s, .int _ i => some (.int .u8 (s.data.toList.getD i.toNat 0).toNat, 0 ≤ i ∧ i < s.size)
    | _, _, _ => none)
  | .slice st x lo hi none => (match P.underlying st, ev t x, lo.map (ev t), hi.map (ev t) with
    | some .string, .string s, some (.int _ l), some (.int _ h) => some (.string (s.extract l.toNat h.toNat), 0 ≤ l ∧ l ≤ h ∧ h ≤ s.size)
    | some .string, .string s, none, some (.int _ h) => some (.string (s.extract 0 h.toNat), 0 ≤ h ∧ h ≤ s.size)
    | some .string, .string s, some (.int _ l), none => some (.string (s.extract l.toNat s.size), 0 ≤ l ∧ l ≤ s.size)
    | _, _, _, _ => none)
  | _ => none

def enterH (E : Env) (rec : RecH) (lim : Nat) (f : FuncId) (args : List Value) (σ : AS) (s : HS) : Option (Value × AS × HS) :=
  bif E.isOv f then liftH s (E.ov f args lim σ) else
    match rec lim (.call f args) σ s with
    | some (.val v, σ', s') => some (v, σ', s')
    | _ => none

def applyH (P : Program) (E : Env) (rec : RecH) (lim : Nat) (f : Value) (args : List Value) (σ : AS) (s : HS) : Option (Value × AS × HS) :=
  match f with
  | .func (.func g) first captured => enterH E rec lim g (first.toList ++ args ++ captured.toList) σ s
  | .func (.yield l) first _ =>
    match runA P lim (Instr.yield l (first ++ args.toArray)) σ with
    | some (.round l f t assign body, σ1) =>
      match rec lim (.round l f t.toList assign body) σ1 s with
      | some (.val v, σ', s') => some (v, σ', s')
      | _ => none
    | _ => none
  | _ => none

def operC (P : Program) (E : Env) (rec : RecH) (lim : Nat) (o : Oper) (t : List Value) (σ : AS) (s : HS) : Option (Value × AS × HS) :=
  match o.op with
  | .call c => (match c.callee with
    | .value f => forceL (c.args.toList.map (ev t)) fun args => applyH P E rec lim (ev t f) args σ s
    | _ => liftH s (operA P E rec0 lim o t σ))
  | _ => liftH s (operA P E rec0 lim o t σ)

noncomputable def operH (P : Program) (E : Env) (rec : RecH) (lim : Nat) (o : Oper) (t : List Value) (σ : AS) (s : HS) : Option (Value × AS × HS) :=
  match s.tick with
  | (some (.val v), s1) => some (v, σ, s1.note (operA P E rec0 lim o t σ = some (v, σ)))
  | (some .ok, s1) => (match guarded P o t with
    | some (v, p) => some (v, σ, s1.note p)
    | none => none)
  | (some (.br b), s1) => (match operC P E rec lim o t σ s1 with
    | some (v, σ', s') => some (.bool b, σ', s'.note (isB v b))
    | none => none)
  | (some (.cells c), s1) => (match o.op with
    | .convert src dst x => (match ev t x, P.underlying src, P.underlying dst with
      | .string b, some .string, some (.slice e) => (match P.underlying e with
        | some (.int .u8) => some (.slice (some ⟨σ.next, 0, none⟩) b.size b.size, σ.push (.cells c true (some 1, some e) none), s1.note (b.data.toList.map (fun x => Value.int .u8 x.toNat) = c))
        | some (.int .i32) => some (.slice (some ⟨σ.next, 0, none⟩) c.length c.length, σ.push (.cells c true (some 1, some e) none), s1.note ((Conv.runesFrom b b.size 0 #[]).toList = c))
        | _ => none)
      | _, _, _ => none)
    | _ => none)
  | (some (.res v σ'), s1) => some (v, σ', s1.note (operA P E (runW P E) lim o t σ = some (v, σ')))
  | (some (.skip _ _), _) => none
  | (some .stop, _) => none
  | (none, s1) => operC P E rec lim o t σ s1

noncomputable def opsH (P : Program) (E : Env) (rec : RecH) (ops : Array Oper) (q : Bool) (lim : Nat) : List Oper → List Value → AS → HS → Option (List Value × AS × HS)
  | [], t, σ, s => some (t, σ, s)
  | o :: rest, t, σ, s =>
    bif Region.wanted o (yieldedL ops t) then
      (match operH P E rec (bif q then σ.next else lim) o t σ s with
      | some (v, σ', s') => force v fun v => opsH P E rec ops q lim rest (putT t o.dst v) σ' s'
      | none => none)
    else opsH P E rec ops q lim rest (putT t o.dst undef) σ s

noncomputable def op1H (P : Program) (E : Env) (rec : RecH) (ops : Array Oper) (q : Bool) (lim : Nat) (o : Oper) (t : List Value) (σ : AS) (s : HS) : Option (Value × AS × HS) :=
  bif Region.wanted o (yieldedL ops t) then operH P E rec (bif q then σ.next else lim) o t σ s else some (undef, σ, s)

noncomputable def opsIH (P : Program) (E : Env) (rec : RecH) (ops : Array Oper) (lim : Nat) : List (Nat × Bool) → List Value → AS → HS → Option (List Value × AS × HS)
  | [], t, σ, s => some (t, σ, s)
  | x :: l, t, σ, s => match ops[x.1]? with
    | some o =>
      (match op1H P E rec ops x.2 lim o t σ s with
      | some (v, σ', s') => force v fun v => opsIH P E rec ops lim l (putT t o.dst v) σ' s'
      | none => none)
    | none => none

def rangeH (P : Program) (E : Env) (rec : RecH) (lim : Nat) (x : Ctx) (f : Operand) (params : Array Tmp) (assign body : Code) (t : List Value) (ds : List Nat) (σ : AS) (s : HS) : Option (Out × AS × HS) :=
  match runA P lim (Instr.enterLoop x.fn t.toArray params assign body x.round) σ with
  | some ((l, mark), σ1) =>
    match markIds mark with
    | some m =>
      match applyH P E rec lim (ev t f) [.func (.yield l) #[] #[]] σ1 s with
      | some (_, σ2, s2) => liftH s2 (rangeEnd P lim t (m ++ ds) l σ2)
      | none => none
    | none => none
  | none => none

noncomputable def stepH (P : Program) (E : Env) (rec : RecH) (lim : Nat) : Task → AS → HS → Option (Out × AS × HS)
  | .code x c t ds, σ, s =>
    match c with
    | .skip | .label _ => some (.done .normal t ds, σ, s)
    | .region id ops draw =>
      bif draw then
        match E.draws x.fn id with
        | some pl =>
          match opsIH P E rec ops lim pl.l t σ s with
          | some (t1, σ1, s1) => some (.done .normal t1 ds, σ1, s1)
          | none => none
        | none => none
      else
        match opsH P E rec ops false lim ops.toList t σ s with
        | some (t1, σ1, s1) => some (.done .normal t1 ds, σ1, s1)
        | none => none
    | .seq a b =>
      match rec lim (.code x a t ds) σ s with
      | some (.done .normal t1 ds1, σ1, s1) => rec lim (.code x b t1 ds1) σ1 s1
      | r => r
    | .cond c a b =>
      match s.tick with
      | (some (.br b'), s1) => rec lim (.code x (bif b' then a else b) t ds) σ (s1.note (isB (ev t c) b'))
      | (some _, _) => none
      | (none, s1) =>
        match ev t c with
        | .bool b' => rec lim (.code x (bif b' then a else b) t ds) σ s1
        | _ => none
    | .block id body =>
      match rec lim (.code x body t ds) σ s with
      | some (.done (.exit id') t1 ds1, σ1, s1) => some (.done (bif Nat.beq id' id then .normal else .exit id') t1 ds1, σ1, s1)
      | r => r
    | .loop body =>
      match s.tick with
      | (some (.skip o σ'), s1) => some (o, σ', s1.note (runW P E lim (.code x (.loop body) t ds) σ = some (o, σ')))
      | (some _, _) => none
      | (none, s0) =>
        match rec lim (.code x body t ds) σ s0 with
        | some (.done .normal t1 ds1, σ1, s1) => rec lim (.code x (.loop body) t1 ds1) σ1 s1
        | r => r
    | .rangeFunc f params assign body => rangeH P E rec lim x f params assign body t ds σ s
    | .exit id => some (.done (.exit id) t ds, σ, s)
    | .scope body => rec lim (.scope x body body t ds) σ s
    | .goto l => some (.done (.goto l) t ds, σ, s)
    | .ret => some (.done .ret t ds, σ, s)
    | .refuse _ => none
  | .scope x body cur t ds, σ, s =>
    match rec lim (.code x cur t ds) σ s with
    | some (.done (.goto l) t1 ds1, σ1, s1) =>
      match findLabel body l with
      | some rest => rec lim (.scope x body rest t1 ds1) σ1 s1
      | none => some (.done (.goto l) t1 ds1, σ1, s1)
    | r => r
  | .call f args, σ, s =>
    bif E.ok f then
    match P.funcs[f]? with
    | some fn =>
      match fn.body with
      | some c =>
        match rec lim (.code ⟨f, none⟩ c (args ++ List.replicate (fn.ntmps - args.length) undef) []) σ s with
        | some (.done e t1 ds1, σ1, s1) =>
          match e with
          | .normal | .ret =>
            match takeA P lim ds1 σ1 with
            | some σ2 =>
              match runA P lim (results fn t1.toArray) σ2 with
              | some (v, σ3) => some (.val v, σ3, s1)
              | none => none
            | none => none
          | _ => none
        | _ => none
      | none => none
    | none => none
    else none
  | .round l f t assign body, σ, s =>
    match rec lim (.code ⟨f, some l⟩ assign t []) σ s with
    | some (.done .normal t1 [], σ1, s1) =>
      match runA P lim (Instr.beginRound l) σ1 with
      | some (_, σ2) =>
        match rec lim (.code ⟨f, some l⟩ body t1 []) σ2 s1 with
        | some (.done e _ [], σ3, s3) =>
          match runA P lim (Instr.endRound l (match e with | .normal => none | .ret => some .ret | .exit id => some (.exit id) | .goto g => some (.goto g))) σ3 with
          | some (v, σ4) => some (.val v, σ4, s3)
          | none => none
        | _ => none
      | none => none
    | _ => none

noncomputable def runH (P : Program) (E : Env) : Nat → RecH
  | 0 => fun _ _ _ _ => none
  | n + 1 => fun lim k σ s => stepH P E (runH P E n) lim k σ s

/-! ## What is noted holds: then the interpreter answers so -/

def Sd {α : Type} (s : HS) (x : Option (α × AS × HS)) (g : Option (α × AS)) : Prop :=
  ∀ a σ' s', x = some (a, σ', s') → (∀ p ∈ s.ob, p ∈ s'.ob) ∧ ((∀ p ∈ s'.ob, p) → g = some (a, σ'))

def SdR (rh : RecH) (r : Rec) : Prop := ∀ lim k σ s, Sd s (rh lim k σ s) (r lim k σ)

theorem tick_ob (s : HS) : s.tick.2.ob = s.ob := by
  unfold HS.tick
  split
  · rfl
  · rename_i k h l _
    cases Nat.beq k 0 <;> rfl

theorem sd_none {α : Type} {s : HS} {g : Option (α × AS)} : Sd s none g := fun _ _ _ h => by cases h
theorem sd_some {α : Type} {s s1 : HS} {a : α} {σ : AS} {g : Option (α × AS)} (h : ∀ p ∈ s.ob, p ∈ s1.ob) (hg : (∀ p ∈ s1.ob, p) → g = some (a, σ)) : Sd s (some (a, σ, s1)) g := by
  intro a' σ' s' e; cases e; exact ⟨h, hg⟩
theorem sd_lift {α : Type} {s s1 : HS} {x : Option (α × AS)} {g : Option (α × AS)} (h : ∀ p ∈ s.ob, p ∈ s1.ob) (hg : ∀ y, x = some y → g = some y) : Sd s (liftH s1 x) g := by
  cases x with
  | none => exact sd_none
  | some y => exact sd_some h fun _ => hg _ rfl

end Go.Va

/-
  THE INTERPRETER WITH HINTS IS SOUND: what it answers under the noted premises, the interpreter answers.
-/
namespace Go.Va
section
variable {P : Program} {E : Env} {rh : RecH} {r : Rec}

theorem sd_enter (h : SdR rh r) {lim : Nat} {f : FuncId} {args : List Value} {σ : AS} {s : HS} : Sd s (enterH E rh lim f args σ s) (enterA P E r lim f args σ) := by
  unfold enterH enterA
  cases hi : E.isOv f with
  | true => simp only [cond_true]; exact sd_lift (fun _ hp => hp) fun y hy => hy
  | false =>
    simp only [cond_false]
    intro a σ' s' e
    split at e
    · rename_i v σ1 s1 hr
      cases e
      obtain ⟨h1, h2⟩ := h _ _ _ _ _ _ _ hr
      exact ⟨h1, fun hall => by rw [h2 hall]⟩
    · cases e

theorem sd_apply (h : SdR rh r) {lim : Nat} {f : Value} {args : List Value} {σ : AS} {s : HS} : Sd s (applyH P E rh lim f args σ s) (applyA P E r lim f args σ) := by
  unfold applyH
  split
  · exact sd_enter (P := P) h
  · intro a σ' s' e
    split at e
    · rename_i hy
      split at e
      · rename_i hr
        cases e
        obtain ⟨h1, h2⟩ := h _ _ _ _ _ _ _ hr
        exact ⟨h1, fun hall => by unfold applyA; dsimp only; rw [hy]; dsimp only; rw [h2 hall]⟩
      · cases e
    · cases e
  · exact sd_none

theorem runA_sliceAt_str {st : TypeId} (ht : P.underlying st = some .string) {s : ByteArray} {lo hi : Option Value} {l h : Nat} {σ : AS} {lim : Nat}
    (hb : runA P lim (Instr.sliceBounds false s.size s.size lo hi none) σ = some ((l, h, s.size), σ)) : runA P lim (Instr.sliceAt st (.string s) lo hi none) σ = some (.string (s.extract l h), σ) := by
  unfold Instr.sliceAt
  rw [runA_bind, runA_underlying, ht]
  dsimp only [Option.map]
  unfold Instr.slice
  rw [runA_bind, runA_underlying, ht]
  dsimp only [Option.map]
  simp only [Option.isSome_none, Bool.false_eq_true, if_false]
  rw [runA_bind, hb]
  rfl

theorem runA_bound {k : IntKind} {i : Int} {y : Nat} {code : BoundsCode} (h0 : 0 ≤ i) (h1 : i ≤ y) {σ : AS} {lim : Nat} : runA P lim (Instr.sliceBound (.int k i) y code) σ = some (i.toNat, σ) := by
  unfold Instr.sliceBound
  rw [runA_bind]
  show (match some ((k, i), σ) with | some (v, σ') => _ | none => none) = _
  dsimp only
  rw [if_pos ⟨h0, h1⟩]
  rfl

theorem guarded_sound {o : Oper} {t : List Value} {v : Value} {p : Prop} (hg : guarded P o t = some (v, p)) (hp : p) {lim : Nat} {σ : AS} : operA P E r lim o t σ = some (v, σ) := by
  unfold guarded at hg
  split at hg
  · rename_i x y hs ho
    split at hg
    · rename_i k a k' b hx hy
      cases hg
      unfold operA
      rw [ho]
      dsimp only
      rw [hx, hy]
      show runA P lim (Op.shift .shl k a k' b) σ = _
      unfold Op.shift
      rw [if_neg (by omega)]
      rfl
    · cases hg
  · rename_i x y hs ho
    split at hg
    · rename_i k a k' b hx hy
      cases hg
      unfold operA
      rw [ho]
      dsimp only
      rw [hx, hy]
      show runA P lim (Op.shift .shr k a k' b) σ = _
      unfold Op.shift
      rw [if_neg (by omega)]
      rfl
    · cases hg
  · rename_i x y hs ho
    split at hg
    · rename_i a b hx hy
      cases hg
      unfold operA
      rw [ho]
      dsimp only
      rw [hx, hy]
      show runA P lim (Op.stringOp .add a b) σ = _
      unfold Op.stringOp
      dsimp only
      rw [if_neg (by omega)]
      rfl
    · cases hg
  · rename_i xt x ix ho
    split at hg
    · rename_i s k i ht hx hi
      cases hg
      unfold operA
      rw [ho]
      dsimp only
      obtain ⟨hp0, hp1⟩ := hp
      have hs : s[i.toNat]? = some (s.data.toList.getD i.toNat 0) := by
        have hlt : i.toNat < s.size := by omega
        rw [getElem?_pos s i.toNat hlt]
        have : i.toNat < s.data.toList.length := by simpa using hlt
        rw [List.getD_eq_getElem?_getD, List.getElem?_eq_getElem this]
        rfl
      have h1 : runA P lim (Instr.index xt (.string s) (.int k i)) σ = some (.int .u8 (s.data.toList.getD i.toNat 0).toNat, σ) := by
        unfold Instr.index
        rw [runA_bind]
        show (match some ((k, i), σ) with | some (v, σ') => _ | none => none) = _
        dsimp only
        rw [runA_bind, runA_underlying, ht]
        dsimp only [Option.map]
        rw [if_pos hp0, hs]
        rfl
      have h2 : runA P lim (execOp (ev t) o) σ = some (.value (.int .u8 (s.data.toList.getD i.toNat 0).toNat), σ) := by
        unfold execOp
        rw [ho]
        dsimp only
        rw [runA_bind, hx, hi, h1]
        rfl
      rw [show generic P (.index xt x ix) = true from rfl, cond_true, h2]
      rfl
    · cases hg
  · rename_i st x lo hi ho
    split at hg
    · rename_i s k l k' h ht hx hlo hhi
      cases hg
      obtain ⟨p0, p1, p2⟩ := hp
      unfold operA
      rw [ho]
      dsimp only
      rw [hx, hlo, hhi]
      refine runA_sliceAt_str ht ?_
      unfold Instr.sliceBounds
      rw [runA_bind]
      show (match some (s.size, σ) with | some (v, σ') => _ | none => none) = _
      dsimp only
      rw [runA_bind, runA_bound (by omega) p2]
      dsimp only
      rw [runA_bind, runA_bound p0 (by omega)]
      rfl
    · rename_i s k' h ht hx hlo hhi
      cases hg
      obtain ⟨p0, p1⟩ := hp
      unfold operA
      rw [ho]
      dsimp only
      rw [hx, hlo, hhi]
      refine runA_sliceAt_str ht ?_
      unfold Instr.sliceBounds
      rw [runA_bind]
      show (match some (s.size, σ) with | some (v, σ') => _ | none => none) = _
      dsimp only
      rw [runA_bind, runA_bound p0 p1]
      rfl
    · rename_i s k l ht hx hlo hhi
      cases hg
      obtain ⟨p0, p1⟩ := hp
      unfold operA
      rw [ho]
      dsimp only
      rw [hx, hlo, hhi]
      refine runA_sliceAt_str ht ?_
      unfold Instr.sliceBounds
      rw [runA_bind]
      show (match some (s.size, σ) with | some (v, σ') => _ | none => none) = _
      dsimp only
      rw [runA_bind]
      show (match some (s.size, σ) with | some (v, σ') => _ | none => none) = _
      dsimp only
      rw [runA_bind, runA_bound p0 p1]
      rfl
    · cases hg
  · cases hg

theorem tick_mem {s : HS} {h : Option Hint} {s1 : HS} (e : s.tick = (h, s1)) : s1.ob = s.ob := by
  have := tick_ob s; rw [e] at this; exact this

theorem operA_rec0 {lim : Nat} {o : Oper} {t : List Value} {σ : AS} {x} (e : operA P E rec0 lim o t σ = some x) : operA P E r lim o t σ = some x := operA_mono (Rec.le0 r) e

theorem sd_operC (h : SdR rh r) {lim : Nat} {o : Oper} {t : List Value} {σ : AS} {s : HS} : Sd s (operC P E rh lim o t σ s) (operA P E r lim o t σ) := by
  unfold operC
  split
  · rename_i c ho
    split
    · rename_i f hc
      intro a σ' s' e
      rw [forceL_eq] at e
      obtain ⟨h1, h2⟩ := sd_apply (P := P) h a σ' s' e
      refine ⟨h1, fun hall => ?_⟩
      unfold operA
      rw [ho]
      dsimp only
      rw [hc]
      exact h2 hall
    · exact sd_lift (fun _ hp => hp) fun y hy => operA_rec0 hy
  · exact sd_lift (fun _ hp => hp) fun y hy => operA_rec0 hy

theorem sd_oper (h : SdR rh (runW P E)) {lim : Nat} {o : Oper} {t : List Value} {σ : AS} {s : HS} : Sd s (operH P E rh lim o t σ s) (operA P E (runW P E) lim o t σ) := by
  unfold operH
  split
  · rename_i v s1 ht
    exact sd_some (fun p hp => List.mem_cons_of_mem _ (by rw [tick_mem ht]; exact hp)) fun hall => operA_rec0 (hall _ (List.mem_cons_self ..))
  · rename_i s1 ht
    split
    · rename_i v p hg
      exact sd_some (fun p hp => List.mem_cons_of_mem _ (by rw [tick_mem ht]; exact hp)) fun hall => guarded_sound hg (hall _ (List.mem_cons_self ..))
    · exact sd_none
  · rename_i b s1 ht
    split
    · rename_i v σ' s' hc
      obtain ⟨h1, h2⟩ := sd_operC h _ _ _ hc
      refine sd_some (fun p hp => List.mem_cons_of_mem _ (h1 p (by rw [tick_mem ht]; exact hp))) fun hall => ?_
      rw [← isB_eq (hall _ (List.mem_cons_self ..) : isB v b)]
      exact h2 fun p hp => hall p (List.mem_cons_of_mem _ hp)
    · exact sd_none
  · rename_i c s1 ht
    have hs : ∀ p ∈ s.ob, p ∈ s1.ob := by rw [tick_mem ht]; exact fun _ hp => hp
    split
    · rename_i src dst x ho
      split
      · rename_i b e hx h1 h2
        split
        · rename_i he
          refine sd_some (fun p hp => List.mem_cons_of_mem _ (hs p hp)) fun hall => ?_
          have hc : b.data.toList.map (fun x => Value.int .u8 x.toNat) = c := hall _ (List.mem_cons_self ..)
          unfold operA
          rw [ho]
          dsimp only
          unfold convA
          rw [hx]
          dsimp only
          rw [h1, h2]
          dsimp only
          rw [he]
          dsimp only
          rw [hc]
        · rename_i he
          refine sd_some (fun p hp => List.mem_cons_of_mem _ (hs p hp)) fun hall => ?_
          have hc : (Conv.runesFrom b b.size 0 #[]).toList = c := hall _ (List.mem_cons_self ..)
          unfold operA
          rw [ho]
          dsimp only
          unfold convA
          rw [hx]
          dsimp only
          rw [h1, h2]
          dsimp only
          rw [he]
          dsimp only
          rw [hc]
        · exact sd_none
      · exact sd_none
    · exact sd_none
  · rename_i v σ' s1 ht
    exact sd_some (fun p hp => List.mem_cons_of_mem _ (by rw [tick_mem ht]; exact hp)) fun hall => hall _ (List.mem_cons_self ..)
  · exact sd_none
  · exact sd_none
  · rename_i s1 ht
    intro a σ' s' e
    obtain ⟨h1, h2⟩ := sd_operC h _ _ _ e
    exact ⟨fun p hp => h1 p (by rw [tick_mem ht]; exact hp), h2⟩

theorem sd_ops (h : SdR rh (runW P E)) {ops : Array Oper} {q : Bool} {lim : Nat} : ∀ {l : List Oper} {t : List Value} {σ : AS} {s : HS}, Sd s (opsH P E rh ops q lim l t σ s) (opsA P E (runW P E) ops q lim l t σ)
  | [], t, σ, s => sd_some (fun _ hp => hp) fun _ => rfl
  | o :: l, t, σ, s => by
    unfold opsH opsA
    cases hw : Region.wanted o (yieldedL ops t) with
    | true =>
      simp only [cond_true]
      intro a σ' s' e
      split at e
      · rename_i v σ1 s1 ho
        rw [force_eq] at e
        obtain ⟨h1, h2⟩ := sd_oper h _ _ _ ho
        obtain ⟨h3, h4⟩ := sd_ops h _ _ _ e
        exact ⟨fun p hp => h3 p (h1 p hp), fun hall => by rw [h2 fun p hp => hall p (h3 p hp)]; exact h4 hall⟩
      · cases e
    | false => simp only [cond_false]; exact sd_ops h

theorem sd_op1 (h : SdR rh (runW P E)) {ops : Array Oper} {q : Bool} {lim : Nat} {o : Oper} {t : List Value} {σ : AS} {s : HS} : Sd s (op1H P E rh ops q lim o t σ s) (op1 P E (runW P E) ops q lim o t σ) := by
  unfold op1H op1
  cases hw : Region.wanted o (yieldedL ops t) with
  | true => simp only [cond_true]; exact sd_oper h
  | false => simp only [cond_false]; exact sd_some (fun _ hp => hp) fun _ => rfl

theorem sd_opsI (h : SdR rh (runW P E)) {ops : Array Oper} {lim : Nat} : ∀ {l : List (Nat × Bool)} {t : List Value} {σ : AS} {s : HS}, Sd s (opsIH P E rh ops lim l t σ s) (opsI P E (runW P E) ops lim l t σ)
  | [], t, σ, s => sd_some (fun _ hp => hp) fun _ => rfl
  | y :: l, t, σ, s => by
    unfold opsIH opsI
    cases hy : ops[y.1]? with
    | none => exact sd_none
    | some o =>
      dsimp only
      intro a σ' s' e
      split at e
      · rename_i v σ1 s1 ho
        rw [force_eq] at e
        obtain ⟨h1, h2⟩ := sd_op1 h _ _ _ ho
        obtain ⟨h3, h4⟩ := sd_opsI h _ _ _ e
        exact ⟨fun p hp => h3 p (h1 p hp), fun hall => by rw [h2 fun p hp => hall p (h3 p hp)]; exact h4 hall⟩
      · cases e

theorem sd_range (h : SdR rh (runW P E)) {lim : Nat} {c : Ctx} {f : Operand} {params : Array Tmp} {assign body : Code} {t : List Value} {ds : List Nat} {σ : AS} {s : HS} :
    Sd s (rangeH P E rh lim c f params assign body t ds σ s) (rangeA P E (runW P E) lim c f params assign body t ds σ) := by
  unfold rangeH rangeA
  split
  · rename_i l mark σ1 h1
    cases hm : markIds mark with
    | none => exact sd_none
    | some m =>
      dsimp only
      intro a σ' s' e
      split at e
      · rename_i v σ2 s2 ha
        obtain ⟨h3, h4⟩ := sd_apply (P := P) h _ _ _ ha
        obtain ⟨h5, h6⟩ := sd_lift (s := s2) (s1 := s2) (fun _ hp => hp) (fun y hy => hy) _ _ _ e
        exact ⟨fun p hp => h5 p (h3 p hp), fun hall => by rw [h1]; dsimp only; rw [hm]; dsimp only; rw [h4 fun p hp => hall p (h5 p hp)]; exact h6 hall⟩
      · cases e
  · exact sd_none

theorem sd_step (h : SdR rh (runW P E)) {lim : Nat} {k : Task} {σ : AS} {s : HS} : Sd s (stepH P E rh lim k σ s) (stepA P E (runW P E) lim k σ) := by
  cases k with
  | code c cd t ds =>
    unfold stepH stepA
    cases cd with
    | skip => exact sd_some (fun _ hp => hp) fun _ => rfl
    | label => exact sd_some (fun _ hp => hp) fun _ => rfl
    | region id ops draw =>
      dsimp only
      cases draw with
      | true =>
        simp only [cond_true]
        cases E.draws c.fn id with
        | none => exact sd_none
        | some pl =>
          dsimp only
          intro a σ' s' e
          split at e
          · rename_i ho
            obtain ⟨h1, h2⟩ := sd_opsI h _ _ _ ho
            cases e
            exact ⟨h1, fun hall => by rw [h2 hall]⟩
          · cases e
      | false =>
        simp only [cond_false]
        intro a σ' s' e
        split at e
        · rename_i ho
          obtain ⟨h1, h2⟩ := sd_ops h _ _ _ ho
          cases e
          exact ⟨h1, fun hall => by rw [h2 hall]⟩
        · cases e
    | seq a b =>
      dsimp only
      intro x σ' s' e
      split at e
      · rename_i ho
        obtain ⟨h1, h2⟩ := h _ _ _ _ _ _ _ ho
        obtain ⟨h3, h4⟩ := h _ _ _ _ _ _ _ e
        exact ⟨fun p hp => h3 p (h1 p hp), fun hall => by rw [h2 fun p hp => hall p (h3 p hp)]; exact h4 hall⟩
      · rename_i hn
        obtain ⟨h1, h2⟩ := h _ _ _ _ _ _ _ e
        refine ⟨h1, fun hall => ?_⟩
        rw [h2 hall]
        split
        · rename_i he; cases he; exact absurd e (hn _ _ _ _)
        · rfl
    | cond c a b =>
      dsimp only
      split
      · rename_i b' s1 ht
        intro x σ' s' e
        obtain ⟨h1, h2⟩ := h _ _ _ _ _ _ _ e
        refine ⟨fun p hp => h1 p (List.mem_cons_of_mem _ (by rw [tick_mem ht]; exact hp)), fun hall => ?_⟩
        have hc : ev t c = .bool b' := isB_eq (hall _ (h1 _ (List.mem_cons_self ..)))
        rw [hc]
        exact h2 hall
      · exact sd_none
      · rename_i s1 ht
        intro x σ' s' e
        split at e
        · rename_i hc
          obtain ⟨h1, h2⟩ := h _ _ _ _ _ _ _ e
          exact ⟨fun p hp => h1 p (by rw [tick_mem ht]; exact hp), fun hall => by rw [hc]; exact h2 hall⟩
        · cases e
    | block id body =>
      dsimp only
      intro x σ' s' e
      split at e
      · rename_i ho
        obtain ⟨h1, h2⟩ := h _ _ _ _ _ _ _ ho
        cases e
        exact ⟨h1, fun hall => by rw [h2 hall]⟩
      · rename_i hn
        obtain ⟨h1, h2⟩ := h _ _ _ _ _ _ _ e
        refine ⟨h1, fun hall => ?_⟩
        rw [h2 hall]
        split
        · rename_i he; cases he; exact absurd e (hn _ _ _ _ _)
        · rfl
    | loop body =>
      dsimp only
      split
      · rename_i o σ' s1 ht
        refine sd_some (fun p hp => List.mem_cons_of_mem _ (by rw [tick_mem ht]; exact hp)) fun hall => ?_
        obtain ⟨n, hn⟩ := runW_some (hall _ (List.mem_cons_self ..))
        cases n with
        | zero => cases hn
        | succ m =>
          have h2 := stepA_mono (run_le_runW m) (show stepA P E (run P E m) lim (.code c (.loop body) t ds) σ = some (o, σ') from hn)
          unfold stepA at h2
          exact h2
      · exact sd_none
      · rename_i s0 ht
        have hs : ∀ p ∈ s.ob, p ∈ s0.ob := by rw [tick_mem ht]; exact fun _ hp => hp
        intro x σ' s' e
        split at e
        · rename_i ho
          obtain ⟨h1, h2⟩ := h _ _ _ _ _ _ _ ho
          obtain ⟨h3, h4⟩ := h _ _ _ _ _ _ _ e
          exact ⟨fun p hp => h3 p (h1 p (hs p hp)), fun hall => by rw [h2 fun p hp => hall p (h3 p hp)]; exact h4 hall⟩
        · rename_i hn
          obtain ⟨h1, h2⟩ := h _ _ _ _ _ _ _ e
          refine ⟨fun p hp => h1 p (hs p hp), fun hall => ?_⟩
          rw [h2 hall]
          split
          · rename_i he; cases he; exact absurd e (hn _ _ _ _)
          · rfl
    | rangeFunc f params assign body => exact sd_range h
    | exit id => exact sd_some (fun _ hp => hp) fun _ => rfl
    | scope body => exact h _ _ _ _
    | goto l => exact sd_some (fun _ hp => hp) fun _ => rfl
    | ret => exact sd_some (fun _ hp => hp) fun _ => rfl
    | refuse => exact sd_none
  | scope c body cur t ds =>
    unfold stepH stepA
    dsimp only
    intro x σ' s' e
    split at e
    · rename_i ho
      obtain ⟨h1, h2⟩ := h _ _ _ _ _ _ _ ho
      split at e
      · rename_i hl
        obtain ⟨h3, h4⟩ := h _ _ _ _ _ _ _ e
        exact ⟨fun p hp => h3 p (h1 p hp), fun hall => by rw [h2 fun p hp => hall p (h3 p hp)]; dsimp only; rw [hl]; exact h4 hall⟩
      · rename_i hl
        cases e
        exact ⟨h1, fun hall => by rw [h2 hall]; dsimp only; rw [hl]⟩
    · rename_i hn
      obtain ⟨h1, h2⟩ := h _ _ _ _ _ _ _ e
      refine ⟨h1, fun hall => ?_⟩
      rw [h2 hall]
      split
      · rename_i he; cases he; exact absurd e (hn _ _ _ _ _)
      · rfl
  | call f args =>
    unfold stepH stepA
    dsimp only
    cases E.ok f with
    | false => exact sd_none
    | true =>
      simp only [cond_true]
      cases P.funcs[f]? with
      | none => exact sd_none
      | some fn =>
        dsimp only
        cases fn.body with
        | none => exact sd_none
        | some c =>
          dsimp only
          intro x σ' s' e
          split at e
          · rename_i ex t1 ds1 σ1 s1 ho
            obtain ⟨h1, h2⟩ := h _ _ _ _ _ _ _ ho
            split at e
            all_goals first | (cases e; done) | skip
            all_goals
              split at e
              · rename_i σ2 ht
                split at e
                · rename_i v σ3 hv
                  cases e
                  exact ⟨h1, fun hall => by rw [h2 hall]; dsimp only; rw [ht]; dsimp only; rw [hv]⟩
                · cases e
              · cases e
          · cases e
  | round l f t assign body =>
    unfold stepH stepA
    dsimp only
    intro x σ' s' e
    split at e
    · rename_i t1 σ1 s1 ho
      obtain ⟨h1, h2⟩ := h _ _ _ _ _ _ _ ho
      split at e
      · rename_i u σ2 hb
        split at e
        · rename_i ex t3 σ3 s3 h3
          obtain ⟨h4, h5⟩ := h _ _ _ _ _ _ _ h3
          split at e
          · rename_i v σ4 hv
            cases e
            exact ⟨fun p hp => h4 p (h1 p hp), fun hall => by rw [h2 fun p hp => hall p (h4 p hp)]; dsimp only; rw [hb]; dsimp only; rw [h5 hall]; dsimp only; cases ex <;> (dsimp only at hv ⊢; rw [hv])⟩
          · cases e
        · cases e
      · cases e
    · cases e

theorem sd_run : ∀ n, SdR (runH P E n) (runW P E)
  | 0 => fun _ _ _ _ => sd_none
  | n + 1 => fun _ _ _ _ a σ' s' e => by
    obtain ⟨h1, h2⟩ := sd_step (sd_run n) a σ' s' e
    exact ⟨h1, fun hall => runW_step (h2 hall)⟩
end

/-- All of them. -/
def All : List Prop → Prop
  | [] => True
  | [p] => p
  | p :: l => p ∧ All l
theorem all_mem : ∀ {l : List Prop}, All l → ∀ p ∈ l, p
  | [], _, p, hp => by cases hp
  | [q], h, p, hp => by rw [List.mem_singleton] at hp; rw [hp]; exact h
  | q :: a :: l, h, p, hp => by
    rcases List.mem_cons.1 hp with hp | hp
    · rw [hp]; exact h.1
    · exact all_mem (l := a :: l) h.2 p hp

/-- What is looked at of a run of a call. -/
def upshot (x : Option (Out × AS × HS)) : Option (Value × List Prop) :=
  match x with
  | some (.val v, _, s) => some (v, s.ob.reverse)
  | _ => none
/-- THE RULE: the run with hints answers so, the premises hold: the interpreter answers so. -/
theorem runW_of_hints {P : Program} {E : Env} {n lim : Nat} {k : Task} {σ : AS} {hs : List (Nat × Hint)} {o : Out} {σ' : AS} {s' : HS} (h : runH P E n lim k σ ⟨hs, []⟩ = some (o, σ', s')) (ha : All s'.ob.reverse) :
    runW P E lim k σ = some (o, σ') :=
  (sd_run n lim k σ _ _ _ _ h).2 fun p hp => all_mem ha p (List.mem_reverse.2 hp)
theorem run_of {P : Program} {E : Env} {n lim : Nat} {k : Task} {σ : AS} {hs : List (Nat × Hint)} {v : Value} {ob : List Prop} (h : upshot (runH P E n lim k σ ⟨hs, []⟩) = some (v, ob)) (ha : All ob) :
    ∃ m σ', run P E m lim k σ = some (.val v, σ') := by
  unfold upshot at h
  split at h
  · rename_i u σ' s hr
    cases h
    obtain ⟨m, hm⟩ := runW_some (runW_of_hints hr ha)
    exact ⟨m, σ', hm⟩
  · cases h
/-- The whole of what a run with hints answers, and its premises. -/
def whole (x : Option (Out × AS × HS)) : Option (Out × AS × List Prop) :=
  match x with
  | some (o, σ, s) => some (o, σ, s.ob.reverse)
  | none => none
theorem runW_of_whole {P : Program} {E : Env} {n lim : Nat} {k : Task} {σ : AS} {hs : List (Nat × Hint)} {o : Out} {σ' : AS} {ob : List Prop} (h : whole (runH P E n lim k σ ⟨hs, []⟩) = some (o, σ', ob)) (ha : All ob) :
    runW P E lim k σ = some (o, σ') := by
  unfold whole at h
  split at h
  · rename_i hr
    cases h
    exact runW_of_hints hr ha
  · cases h

theorem all_of : ∀ {l : List Prop}, (∀ p ∈ l, p) → All l
  | [], _ => trivial
  | [_], h => h _ (List.mem_cons_self ..)
  | _ :: _ :: _, h => ⟨h _ (List.mem_cons_self ..), all_of fun p hp => h p (List.mem_cons_of_mem _ hp)⟩

/-- A loop, one round more. -/
theorem loop_next {P : Program} {E : Env} {lim : Nat} {x : Ctx} {body : Code} {t t1 : List Value} {ds ds1 : List Nat} {σ σ1 : AS} {r : Out × AS}
    (h1 : runW P E lim (.code x body t ds) σ = some (.done .normal t1 ds1, σ1)) (h2 : runW P E lim (.code x (.loop body) t1 ds1) σ1 = some r) : runW P E lim (.code x (.loop body) t ds) σ = some r := by
  apply runW_step
  unfold stepA
  dsimp only
  rw [h1]
  exact h2
/-- A loop that is left. -/
theorem loop_out {P : Program} {E : Env} {lim : Nat} {x : Ctx} {body : Code} {t t1 : List Value} {ds ds1 : List Nat} {σ σ1 : AS} {e : Ex} (he : e ≠ .normal)
    (h1 : runW P E lim (.code x body t ds) σ = some (.done e t1 ds1, σ1)) : runW P E lim (.code x (.loop body) t ds) σ = some (.done e t1 ds1, σ1) := by
  apply runW_step
  unfold stepA
  dsimp only
  rw [h1]
  cases e <;> first | exact absurd rfl he | rfl

end Go.Va

/-
  WHAT A RUN WITH HINTS SAYS OF A CALL; values that are told apart by the kernel.
-/
namespace Go.Va

theorem pureH {P : Program} {G : Nat} {ok : FuncId → Bool} {draws : FuncId → Nat → Option Plan} {isOv : FuncId → Bool} {pf : FuncId → List Value → Option Value} {tabs : List (Nat × List Value)} (hZ : ZeroOk P) (hM : P.follows .mixedOrders = true) (ht : tabsB G tabs = true)
    (hpf : ∀ f args v, isOv f = true → pf f args = some v → Pure P G tabs f args v) (hFn : FnOk P G (pureEnv ok draws isOv pf)) {n : Nat} {f : FuncId} {args : List Value} {v : Value} {hs : List (Nat × Hint)} {ob : List Prop}
    (hr : upshot (runH P (pureEnv ok draws isOv pf) n 0 (.call f args) (base0 G tabs) ⟨hs, []⟩) = some (v, ob)) (ho : All ob) (ha : args.all (plainB 100) = true) (hv : plainB 100 v = true) : Pure P G tabs f args v := by
  obtain ⟨_, σ', h⟩ := run_of hr ho
  exact top hZ hM ht hpf hFn h ha hv

/-- Equality of plain values of few kinds, for the kernel. -/
def veq1 : Value → Value → Bool
  | .int k n, .int k' n' => decide (k = k') && decide (n = n')
  | .bool a, .bool b => a == b
  | .string a, .string b => a.data.toList == b.data.toList
  | _, _ => false
def veqL : List Value → List Value → Bool
  | [], [] => true
  | a :: l, b :: m => veq1 a b && veqL l m
  | _, _ => false
def veq : Value → Value → Bool
  | .tuple a, .tuple b => veqL a.toList b.toList
  | a, b => veq1 a b

theorem ba_ext {a b : ByteArray} (h : a.data.toList = b.data.toList) : a = b := by
  cases a; cases b
  congr
  exact Array.toList_inj.1 h

theorem veq1_eq {a b : Value} (h : veq1 a b = true) : a = b := by
  unfold veq1 at h
  split at h
  · simp only [Bool.and_eq_true, decide_eq_true_eq] at h; rw [h.1, h.2]
  · rw [eq_of_beq h]
  · rw [ba_ext (eq_of_beq h)]
  · cases h
theorem veqL_eq : ∀ {l m : List Value}, veqL l m = true → l = m
  | [], [], _ => rfl
  | a :: l, b :: m, h => by
    simp only [veqL, Bool.and_eq_true] at h
    rw [veq1_eq h.1, veqL_eq h.2]
  | [], _ :: _, h => by cases h
  | _ :: _, [], h => by cases h
theorem veq_eq {a b : Value} (h : veq a b = true) : a = b := by
  unfold veq at h
  split at h
  · rename_i x y
    have := veqL_eq h
    rw [Array.toList_inj.1 this]
  · exact veq1_eq h

def valIs (v : Value) : Option (Out × AS) → Bool
  | some (.val u, _) => veq u v
  | _ => false
theorem valIs_spec {v : Value} {r : Option (Out × AS)} (h : valIs v r = true) : ∃ σ', r = some (.val v, σ') := by
  unfold valIs at h
  split at h
  · rename_i u σ'
    exact ⟨σ', by rw [veq_eq h]⟩
  · cases h

/-- Numbers that fit are what they are. -/
theorem wrap_fits (k : IntKind) {n : Int} (h1 : k.min ≤ n) (h2 : n ≤ k.max) : k.wrap n = n := by
  unfold IntKind.wrap
  cases k <;> simp only [IntKind.min, IntKind.max, IntKind.bits, IntKind.signed] at * <;> simp at * <;> omega

theorem wrap64 {n : Int} (h1 : -9223372036854775808 ≤ n) (h2 : n ≤ 9223372036854775807) : IntKind.i64.wrap n = n := wrap_fits .i64 h1 h2

end Go.Va

/-
  A part of a function's code, by the way to it.
-/
namespace Go.Va

inductive Way where
  | l | r | b | t | e

def sub : Code → List Way → Code
  | c, [] => c
  | .seq a _, .l :: w => sub a w
  | .seq _ c, .r :: w => sub c w
  | .block _ c, .b :: w => sub c w
  | .loop c, .b :: w => sub c w
  | .scope c, .b :: w => sub c w
  | .rangeFunc _ _ _ c, .b :: w => sub c w
  | .cond _ a _, .t :: w => sub a w
  | .cond _ _ c, .e :: w => sub c w
  | _, _ => .skip

def codeOf (P : Program) (f : FuncId) (w : List Way) : Code :=
  match P.funcs[f]? with
  | some fn => (match fn.body with
    | some c => sub c w
    | none => .skip)
  | none => .skip

/-- Temporaries of which some are known. -/
def look : List (Nat × Value) → Nat → Value → Value
  | [], _, d => d
  | (k, v) :: l, j, d => bif Nat.beq k j then v else look l j d
def fillT (m : Nat) (fx : List (Nat × Value)) (w : Nat → Value) : List Value := (List.range m).map fun j => look fx j (w j)

/-- What is looked at of a run of code: how it ends, some temporaries, the heap, the premises. -/
def picked (m : Nat) (js : List Nat) (x : Option (Out × AS × HS)) : Option (Ex × List Value × List Nat × AS × List Prop) :=
  match x with
  | some (.done e t ds, σ, s) => bif Nat.beq t.length m then some (e, js.map fun j => t.getD j undef, ds, σ, s.ob.reverse) else none
  | _ => none

theorem look_zip (t : List Value) (j : Nat) : ∀ js : List Nat, look (js.zip (js.map fun j => t.getD j undef)) j (t.getD j undef) = t.getD j undef
  | [] => rfl
  | k :: js => by
    simp only [List.map_cons, List.zip_cons_cons, look]
    cases h : Nat.beq k j with
    | true => rw [Nat.eq_of_beq_eq_true h]; rfl
    | false => exact look_zip t j js

theorem fillT_pick {t : List Value} {m : Nat} (hm : t.length = m) (js : List Nat) : fillT m (js.zip (js.map fun j => t.getD j undef)) (fun j => t.getD j undef) = t := by
  unfold fillT
  refine List.ext_getElem (by simp [hm]) fun i h1 h2 => ?_
  simp only [List.getElem_map, List.getElem_range]
  rw [look_zip, List.getD_eq_getElem?_getD, List.getElem?_eq_getElem h2]
  rfl

/-- A PIECE OF CODE is run with hints. -/
theorem seg {P : Program} {E : Env} {lim : Nat} {k : Task} {σ : AS} (n : Nat) (hs : List (Nat × Hint)) {m : Nat} {js : List Nat} {e : Ex} {vs : List Value} {ds : List Nat} {σ' : AS} {ob : List Prop}
    (h : picked m js (runH P E n lim k σ ⟨hs, []⟩) = some (e, vs, ds, σ', ob)) (ha : All ob) : ∃ w, runW P E lim k σ = some (.done e (fillT m (js.zip vs) w) ds, σ') := by
  unfold picked at h
  split at h
  · rename_i e' t ds' σ1 s hr
    cases hb : Nat.beq t.length m with
    | false => rw [hb] at h; cases h
    | true =>
      rw [hb, cond_true] at h
      cases h
      refine ⟨fun j => t.getD j undef, ?_⟩
      rw [fillT_pick (Nat.eq_of_beq_eq_true hb)]
      exact runW_of_hints hr ha
  · cases h

/-- From the limit to a call. -/
theorem pureW {P : Program} {G : Nat} {ok : FuncId → Bool} {draws : FuncId → Nat → Option Plan} {isOv : FuncId → Bool} {pf : FuncId → List Value → Option Value} {tabs : List (Nat × List Value)} (hZ : ZeroOk P) (hM : P.follows .mixedOrders = true) (ht : tabsB G tabs = true)
    (hpf : ∀ f args v, isOv f = true → pf f args = some v → Pure P G tabs f args v) (hFn : FnOk P G (pureEnv ok draws isOv pf)) {f : FuncId} {args : List Value} {v : Value} {σ' : AS}
    (hr : runW P (pureEnv ok draws isOv pf) 0 (.call f args) (base0 G tabs) = some (.val v, σ')) (ha : args.all (plainB 100) = true) (hv : plainB 100 v = true) : Pure P G tabs f args v := by
  obtain ⟨n, h⟩ := runW_some hr
  exact top hZ hM ht hpf hFn h ha hv

end Go.Va

/-
  THE ABSTRACT HEAP IS CHOSEN ANEW: what a heap is known to hold may be named by other numbers, and what is no longer of use left out.
-/
namespace Go.Va
open Go.RowKit

/-- New numbers: below 'n' each is that of an old place; all the old ones are found again from 'M' on. -/
structure Reb where
  src : Nat → Nat
  n : Nat
  M : Nat
  le : n ≤ M

def Reb.app (s : Reb) (β : Inj) : Inj := fun j => if j < s.n then β (s.src j) else if s.M ≤ j then β (j - s.M) else none

theorem Reb.app_low (s : Reb) (β : Inj) {j : Nat} (h : j < s.n) : s.app β j = β (s.src j) := by unfold Reb.app; rw [if_pos h]
theorem Reb.app_shift (s : Reb) (β : Inj) (i : Nat) : s.app β (s.M + i) = β i := by
  have := s.le
  unfold Reb.app; rw [if_neg (by omega), if_pos (by omega)]; congr 1; omega
theorem Reb.app_gap (s : Reb) (β : Inj) {j : Nat} (h1 : s.n ≤ j) (h2 : j < s.M) : s.app β j = none := by
  unfold Reb.app; rw [if_neg (by omega), if_neg (by omega)]

/-- A value under its new name. -/
def ValRen (s : Reb) (v u : Value) : Prop := ∀ β v', vRel β v v' → vRel (s.app β) u v'

theorem ValRen.bool (s : Reb) (b : Bool) : ValRen s (.bool b) (.bool b) := fun β v' h => by cases h; exact .bool b
theorem ValRen.int (s : Reb) (k : IntKind) (n : Int) : ValRen s (.int k n) (.int k n) := fun β v' h => by cases h; exact .int k n
theorem ValRen.string (s : Reb) (b : ByteArray) : ValRen s (.string b) (.string b) := fun β v' h => by cases h; exact .string b
theorem ValRen.nilSlice (s : Reb) (l c : Nat) : ValRen s (.slice none l c) (.slice none l c) := fun β v' h => by cases h; exact .sliceNone l c
theorem ValRen.nilPtr (s : Reb) : ValRen s (.pointer none) (.pointer none) := fun β v' h => by cases h; exact .ptrNone
theorem ValRen.nilFunc (s : Reb) : ValRen s .nilFunc .nilFunc := fun β v' h => by cases h; exact .nilFunc
theorem ValRen.nilIface (s : Reb) : ValRen s .nilIface .nilIface := fun β v' h => by cases h; exact .nilIface
theorem ValRen.plain (s : Reb) {v : Value} (h : plainB 100 v = true) : ValRen s v v := fun β v' hv => by
  rw [plain_eq 100 v v' h hv]; exact plain_rel 100 v h

theorem aRel.ren {s : Reb} {β : Inj} {i o j : Nat} {a' : Addr} (hj : s.app β j = β i) (h : aRel β ⟨i, o, none⟩ a') : aRel (s.app β) ⟨j, o, none⟩ a' := by
  obtain ⟨h0, e, he, ha⟩ := h
  exact ⟨rfl, e, by rw [hj]; exact he, ha⟩
theorem capRel.ren {s : Reb} {β : Inj} {a b : Addr} {c c' : Nat} (hj : s.app β b.block = β a.block) (ho : b.off = a.off) (h : capRel β a c c') : capRel (s.app β) b c c' := by
  rcases h with h | ⟨e, sz, esz, real, he, h1, h2, h3, h4⟩
  · exact .inl h
  · exact .inr ⟨e, sz, esz, real, by rw [hj]; exact he, h1, by rw [ho]; exact h2, by rw [ho]; exact h3, h4⟩

theorem ValRen.ptr (s : Reb) {i j o : Nat} (hj : j < s.n) (hs : s.src j = i) : ValRen s (.pointer (some ⟨i, o, none⟩)) (.pointer (some ⟨j, o, none⟩)) := fun β v' h => by
  cases h with
  | ptr ha => exact .ptr (ha.ren (by rw [s.app_low β hj, hs]))
theorem ValRen.slice (s : Reb) {i j o l c : Nat} (hj : j < s.n) (hs : s.src j = i) : ValRen s (.slice (some ⟨i, o, none⟩) l c) (.slice (some ⟨j, o, none⟩) l c) := fun β v' h => by
  have e : s.app β j = β i := by rw [s.app_low β hj, hs]
  cases h with
  | slice _ ha hc => exact .slice l (ha.ren e) (hc.ren (a := ⟨i, o, none⟩) (b := ⟨j, o, none⟩) e rfl)
  | void a' c' h => cases h

theorem arr_choose {β : Inj} {f' : Array Value} {n : Nat} (hn : n = f'.size) (h : ∀ i, i < n → ∀ h' : i < f'.size, ∃ u, vRel β u f'[i]) :
    ∃ g : Array Value, g.size = f'.size ∧ ∀ i (_ : i < g.size) (h' : i < f'.size), vRel β g[i] f'[i] := by
  classical
  refine ⟨Array.ofFn (n := f'.size) fun i => (h i.1 (by omega) i.2).choose, by simp, fun i h1 h' => ?_⟩
  rw [Array.getElem_ofFn]
  exact (h i (by omega) h').choose_spec

/-- Every value has a name of the new sort. -/
theorem vRel.shift (s : Reb) {β : Inj} {v v' : Value} (h : vRel β v v') : ∃ u, vRel (s.app β) u v' := by
  induction h with
  | bool b => exact ⟨_, .bool b⟩
  | int k n => exact ⟨_, .int k n⟩
  | float k n => exact ⟨_, .float k n⟩
  | complex k n m => exact ⟨_, .complex k n m⟩
  | string b => exact ⟨_, .string b⟩
  | ptrNone => exact ⟨_, .ptrNone⟩
  | @ptr a a' ha =>
    obtain ⟨h0, e, he, h1⟩ := ha
    exact ⟨.pointer (some ⟨s.M + a.block, a.off, none⟩), .ptr ⟨rfl, e, by rw [s.app_shift]; exact he, h1⟩⟩
  | sliceNone l c => exact ⟨_, .sliceNone l c⟩
  | @slice a a' c c' l ha hc =>
    obtain ⟨h0, e, he, h1⟩ := ha
    exact ⟨.slice (some ⟨s.M + a.block, a.off, none⟩) l c, .slice l ⟨rfl, e, by rw [s.app_shift]; exact he, h1⟩ (hc.ren (b := ⟨s.M + a.block, a.off, none⟩) (s.app_shift β _) rfl)⟩
  | void a' c' h => exact ⟨_, .void a' c' h⟩
  | mapNone => exact ⟨_, .mapNone⟩
  | chanNone => exact ⟨_, .chanNone⟩
  | @map r e h h0 => exact ⟨.map (some (s.M + r)), .map (by rw [s.app_shift]; exact h) h0⟩
  | @func fn fn' f f' c c' hfn hf _ hc _ ih1 ih2 =>
    obtain ⟨g1, hg1, hg1'⟩ := arr_choose hf fun i hi h' => ih1 i hi h'
    obtain ⟨g2, hg2, hg2'⟩ := arr_choose hc fun i hi h' => ih2 i hi h'
    have : ∃ fn1, fnRel (s.app β) fn1 fn' := by
      cases fn with
      | yield l => obtain ⟨e, he, h1⟩ := hfn; exact ⟨.yield (s.M + l), e, by rw [s.app_shift]; exact he, h1⟩
      | func f => exact ⟨.func f, hfn⟩
      | method n => exact ⟨.method n, hfn⟩
      | methodOf t n => exact ⟨.methodOf t n, hfn⟩
      | via t p f q => exact ⟨.via t p f q, hfn⟩
    obtain ⟨fn1, hfn1⟩ := this
    exact ⟨.func fn1 g1 g2, .func hfn1 hg1 hg1' hg2 hg2'⟩
  | nilFunc => exact ⟨_, .nilFunc⟩
  | iface t _ ih => obtain ⟨u, hu⟩ := ih; exact ⟨.iface t u, .iface t hu⟩
  | nilIface => exact ⟨_, .nilIface⟩
  | @agg f f' hf _ ih =>
    obtain ⟨g1, hg1, hg1'⟩ := arr_choose hf fun i hi h' => ih i hi h'
    exact ⟨.agg g1, .agg hg1 hg1'⟩
  | @tuple f f' hf _ ih =>
    obtain ⟨g1, hg1, hg1'⟩ := arr_choose hf fun i hi h' => ih i hi h'
    exact ⟨.tuple g1, .tuple hg1 hg1'⟩

/-- An object under its new name. -/
inductive ObjRen (s : Reb) : AObj → AObj → Prop where
  | cells {c d : List Value} {rw rw' : Bool} {lo : Lo} {pv pv' : Option Nat} (hl : c.length = d.length) (hv : ∀ k (h : k < c.length) (h' : k < d.length), ValRen s c[k] d[k]) (hw : rw' = true → rw = true) :
      ObjRen s (.cells c rw lo pv) (.cells d rw' lo pv')
  | obj {o p : Obj} (h : ∀ β o', oRel β o o' → oRel (s.app β) p o') (hp : ∀ r, p ≠ .loop r) : ObjRen s (.obj o) (.obj p)

theorem ObjRen.own {s : Reb} {y x : AObj} (h : ObjRen s y x) (hx : x.own = true) : y.own = true := by
  cases h with
  | cells _ _ hw => exact hw hx
  | obj => rfl

theorem R.rebase {K : FuncId → Code → Prop} {W0 : World} {N0 : Nat} {β : Inj} {τ : AS} {w : World} (hR : R K W0 N0 β τ w) (s : Reb) {σ : AS} (hb : ∀ j, s.n ≤ j → σ.get j = none)
    (ho : ∀ j x, j < s.n → σ.get j = some x → ∃ y, τ.get (s.src j) = some y ∧ ObjRen s y x)
    (he : ∀ i j x z y, i < s.n → j < s.n → i ≠ j → σ.get i = some x → σ.get j = some z → x.own = true → τ.get (s.src i) = some y → s.src i ≠ s.src j ∧ (prevOf y = some (s.src j) → prevOf x = some j)) : R K W0 N0 (s.app β) σ w := by
  have lt : ∀ {j x}, σ.get j = some x → j < s.n := by
    intro j x h
    apply Classical.byContradiction
    intro hn
    rw [hb j (by omega)] at h
    cases h
  refine
  { cells := fun {id e c rw lo pv} hbe hg => ?_
    obj := fun {id e o} hbe hg => ?_
    excl := fun {i j ei ej x z} hij hbi hbj hgi hgj hown heq => ?_
    lt := fun {id e} hbe => ?_
    base := hR.base
    top := hR.top
    code := fun {id e r} hbe hg => ?_ }
  · have hlt := lt hg
    rw [s.app_low β hlt] at hbe
    obtain ⟨y, hy, hren⟩ := ho _ _ hlt hg
    cases hren with
    | @cells c0 _ rw0 _ _ pv0 _ hl hv hw =>
      obtain ⟨C, ty, fr, h1, h2, h3, h4⟩ := hR.cells hbe hy
      refine ⟨C, ty, fr, h1, fun i hi => ?_, fun h => h3 (hw h), by rw [← hl]; exact h4⟩
      obtain ⟨v', h5, h6⟩ := h2 i (by omega)
      exact ⟨v', h5, hv i (by omega) hi β v' h6⟩
  · have hlt := lt hg
    rw [s.app_low β hlt] at hbe
    obtain ⟨y, hy, hren⟩ := ho _ _ hlt hg
    cases hren with
    | obj h _ =>
      obtain ⟨h1, h2, o', h3, h4⟩ := hR.obj hbe hy
      exact ⟨h1, h2, o', h3, h _ _ h4⟩
  · have hlti := lt hgi
    have hltj := lt hgj
    rw [s.app_low β hlti] at hbi
    rw [s.app_low β hltj] at hbj
    obtain ⟨y, hy, hren⟩ := ho _ _ hlti hgi
    obtain ⟨u, hu, _⟩ := ho _ _ hltj hgj
    obtain ⟨h1, h2⟩ := he i j x z y hlti hltj hij hgi hgj hown hy
    exact h2 (hR.excl h1 hbi hbj hy hu (hren.own hown) heq)
  · unfold Reb.app at hbe
    split at hbe
    · exact hR.lt hbe
    · split at hbe
      · exact hR.lt hbe
      · cases hbe
  · have hlt := lt hg
    obtain ⟨y, hy, hren⟩ := ho _ _ hlt hg
    cases hren with
    | obj _ hp => exact absurd rfl (hp r)

theorem lRel_rebase (s : Reb) {β : Inj} {t : List Value} {tr : List Value} (h : lRel β t tr) (m : Nat) (hm : t.length = m) (fx : List (Nat × Value)) (hf : ∀ x ∈ fx, ∃ u, t[x.1]? = some u ∧ ValRen s u x.2) :
    ∃ w, lRel (s.app β) (fillT m fx w) tr := by
  classical
  have hlen : t.length = tr.length := h.length
  have hsh : ∀ j, ∃ u, ∀ (h2 : j < tr.length), vRel (s.app β) u tr[j] := by
    intro j
    by_cases h2 : j < tr.length
    · obtain ⟨u, hu⟩ := (h.get j (by omega) h2).shift s
      exact ⟨u, fun _ => hu⟩
    · exact ⟨undef, fun h => absurd h h2⟩
  refine ⟨fun j => (hsh j).choose, lRel.of_get (by simp [fillT]; omega) fun i hi hi' => ?_⟩
  simp only [fillT, List.getElem_map, List.getElem_range]
  have look_spec : ∀ (l : List (Nat × Value)) (d : Value), (∀ x ∈ l, ∃ u, t[x.1]? = some u ∧ ValRen s u x.2) → vRel (s.app β) d tr[i] → vRel (s.app β) (look l i d) tr[i] := by
    intro l
    induction l with
    | nil => intro d _ hd; exact hd
    | cons x l ih =>
      intro d hx hd
      obtain ⟨k, v⟩ := x
      simp only [look]
      cases hb : Nat.beq k i with
      | true =>
        have : k = i := Nat.eq_of_beq_eq_true hb
        subst this
        obtain ⟨u, hu, hr⟩ := hx _ (List.mem_cons_self ..)
        have hlt : k < t.length := by omega
        rw [List.getElem?_eq_getElem hlt] at hu
        cases hu
        exact hr _ _ (h.get k hlt hi')
      | false => exact ih d (fun y hy => hx y (List.mem_cons_of_mem _ hy)) hd
  exact look_spec fx _ hf ((hsh i).choose_spec hi')

end Go.Va

/-
  PIECES OF CODE, ONE AFTER THE OTHER: what holds of the machine before, in the words of an abstract heap, and behind. Loops by induction, with the heap chosen anew.
-/
namespace Go.Va
open Go.RowKit
section
variable {P : Program} {G : Nat} {E : Env} {W0 : World} {N0 : Nat}

/-- The heap holds what the abstract heap says; the numbers up to M are free. -/
structure Hold (G : Nat) (E : Env) (W0 : World) (N0 M : Nat) (β : Inj) (τ σ : AS) (w : World) : Prop where
  rel : R (CodeK G E) W0 N0 β τ w
  wf : σ.Wf
  like : σ.Like τ
  glob : GlobOk G β
  free : ∀ i, σ.next ≤ i → i < M → β i = none

abbrev Aft := Ex → List Value → List Nat → AS → Prop

def Tri (P : Program) (G : Nat) (E : Env) (W0 : World) (N0 M : Nat) (fn : FuncId) (c : Code) (t : List Value) (ds : List Nat) (σ : AS) (Q : Aft) : Prop :=
  ∀ β τ w (tr : Array Value) (dr : List Deferred) (b : Frame), Hold G E W0 N0 M β τ σ w → lRel β t tr.toList → dRel β ds dr → b.fn = fn → b.roundOf = none →
    ∀ (it : Item), (it = .code c ∨ ∃ body, c = .loop body ∧ it = .inLoop body) → ∀ k cs,
    ∃ e t1 ds1 σ1 β' τ' w' tr' dr' k', Q e t1 ds1 σ1 ∧ Hold G E W0 N0 M β' τ' σ1 w' ∧ lRel β' t1 tr'.toList ∧ dRel β' ds1 dr' ∧ Lead e k k' ∧ Steps P (lone (Fr b tr dr (it :: k)) cs w) (lone (Fr b tr' dr' k') cs w')

variable {M : Nat} {fn : FuncId}

theorem Tri.conseq {c : Code} {t : List Value} {ds : List Nat} {σ : AS} {Q Q' : Aft} (h : Tri P G E W0 N0 M fn c t ds σ Q) (hq : ∀ e t1 ds1 σ1, Q e t1 ds1 σ1 → Q' e t1 ds1 σ1) : Tri P G E W0 N0 M fn c t ds σ Q' := by
  intro β τ w tr dr b hH ht hd hb hr it hit k cs
  obtain ⟨e, t1, ds1, σ1, β', τ', w', tr', dr', k', h1, h2⟩ := h β τ w tr dr b hH ht hd hb hr it hit k cs
  exact ⟨e, t1, ds1, σ1, β', τ', w', tr', dr', k', hq _ _ _ _ h1, h2⟩

/-- What the interpreter answers, holds. -/
theorem Tri.of_run (hZ : ZeroOk P) (hM : P.follows .mixedOrders = true) (hG : OvGood E) (hO : OvOk P (CodeK G E) W0 N0 G E) (hFn : FnOk P G E) {lim : Nat} {c : Code} {t t1 : List Value} {ds ds1 : List Nat} {σ σ1 : AS} {e : Ex} {Q : Aft}
    (hr : runW P E lim (.code ⟨fn, none⟩ c t ds) σ = some (.done e t1 ds1, σ1)) (hn : σ1.next ≤ M) (hc : codeB G E fn c = true) (hq : Q e t1 ds1 σ1) : Tri P G E W0 N0 M fn c t ds σ Q := by
  intro β τ w tr dr b hH ht hd hb hrd it hit k cs
  obtain ⟨n, hn'⟩ := runW_some hr
  have hS := (sound (W0 := W0) (N0 := N0) hZ hM hG hO hFn n).2.2.1
  have kept := (good_run hG n _ _ _ _ _ hn' hH.wf).1
  obtain ⟨e', t1', ds1', heq, w', β', τ', tr', dr', k', x1, l1, R1, ht1, hd1, hk, s⟩ := hS lim ⟨fn, none⟩ c t ds σ _ σ1 hn' hc β τ w tr dr b hH.wf hH.like hH.rel (fun i h1 h2 => hH.free i h1 (by omega)) hH.glob ht hd hb (by rw [hrd]; trivial) it hit k cs
  cases heq
  refine ⟨e, t1, ds1, σ1, β', τ', w', tr', dr', k', hq, ⟨R1, kept.wf hH.wf, l1.like, hH.glob.mono x1.1, fun i h1 h2 => ?_⟩, ht1, hd1, hk, s⟩
  cases hbi : β' i with
  | none => rfl
  | some e0 =>
    rcases x1.2 i e0 hbi with h3 | h3
    · have := kept.next
      rw [hH.free i (by omega) h2] at h3; cases h3
    · omega

theorem Tri.seq {a c : Code} {t : List Value} {ds : List Nat} {σ : AS} {Qa Q : Aft} (ha : Tri P G E W0 N0 M fn a t ds σ Qa)
    (hc : ∀ t1 ds1 σ1, Qa .normal t1 ds1 σ1 → Tri P G E W0 N0 M fn c t1 ds1 σ1 Q) (hq : ∀ e t1 ds1 σ1, e ≠ .normal → Qa e t1 ds1 σ1 → Q e t1 ds1 σ1) : Tri P G E W0 N0 M fn (.seq a c) t ds σ Q := by
  intro β τ w tr dr b hH ht hd hb hr it hit k cs
  rcases hit with rfl | ⟨_, h, _⟩
  · obtain ⟨e, t1, ds1, σ1, β1, τ1, w1, tr1, dr1, k1, h1, h2, h3, h4, h5, h6⟩ := ha β τ w tr dr b hH ht hd hb hr _ (.inl rfl) (.code c :: k) cs
    by_cases hn : e = .normal
    · subst hn
      have h5 : k1 = .code c :: k := h5
      subst h5
      obtain ⟨e2, t2, ds2, σ2, β2, τ2, w2, tr2, dr2, k2, g1, g2, g3, g4, g5, g6⟩ := hc t1 ds1 σ1 h1 β1 τ1 w1 tr1 dr1 b h2 h3 h4 hb hr _ (.inl rfl) k cs
      exact ⟨e2, t2, ds2, σ2, β2, τ2, w2, tr2, dr2, k2, g1, g2, g3, g4, g5, .head st_seq (h6.trans g6)⟩
    · exact ⟨e, t1, ds1, σ1, β1, τ1, w1, tr1, dr1, k1, hq _ _ _ _ hn h1, h2, h3, h4, h5.drop (fun _ => rfl) (fun _ => rfl) hn, .head st_seq h6⟩
  · cases h

/-- An end inside a block, seen from without. -/
def unblock (id : Nat) : Ex → Ex
  | .exit id' => bif Nat.beq id' id then .normal else .exit id'
  | e => e

theorem Tri.block {id : Nat} {c : Code} {t : List Value} {ds : List Nat} {σ : AS} {Q : Aft} (h : Tri P G E W0 N0 M fn c t ds σ fun e t1 ds1 σ1 => Q (unblock id e) t1 ds1 σ1) : Tri P G E W0 N0 M fn (.block id c) t ds σ Q := by
  intro β τ w tr dr b hH ht hd hb hr it hit k cs
  rcases hit with rfl | ⟨_, h, _⟩
  · obtain ⟨e, t1, ds1, σ1, β1, τ1, w1, tr1, dr1, k1, h1, h2, h3, h4, h5, h6⟩ := h β τ w tr dr b hH ht hd hb hr _ (.inl rfl) (.inBlock id :: k) cs
    have fin : ∃ k2, Lead (unblock id e) k k2 ∧ Steps P (lone (Fr b tr1 dr1 k1) cs w1) (lone (Fr b tr1 dr1 k2) cs w1) := by
      cases e with
      | normal => exact ⟨k, rfl, by rw [show k1 = .inBlock id :: k from h5]; exact .one st_inBlock⟩
      | ret => exact ⟨k1, h5, .refl _ _⟩
      | goto l => obtain ⟨pre, h7, h8⟩ := h5; exact ⟨k1, ⟨pre, h7, h8⟩, .refl _ _⟩
      | exit id' =>
        obtain ⟨pre, rfl, h8⟩ := h5
        simp only [exitTo] at h8
        simp only [unblock]
        cases hbe : Nat.beq id' id with
        | true =>
          have : id' = id := Nat.eq_of_beq_eq_true hbe
          subst this
          rw [if_pos (by simp)] at h8
          exact ⟨k, rfl, .one (st_exit h8)⟩
        | false =>
          have : id' ≠ id := Nat.ne_of_beq_eq_false hbe
          rw [if_neg (by simp; omega)] at h8
          exact ⟨_, ⟨pre, rfl, h8⟩, .refl _ _⟩
    obtain ⟨k2, h7, h8⟩ := fin
    exact ⟨_, t1, ds1, σ1, β1, τ1, w1, tr1, dr1, k2, h1, h2, h3, h4, h7, .head st_block (h6.trans h8)⟩
  · cases h

theorem Tri.loop {c : Code} {t : List Value} {ds : List Nat} {σ : AS} {Qa Q : Aft} (ha : Tri P G E W0 N0 M fn c t ds σ Qa)
    (hc : ∀ t1 ds1 σ1, Qa .normal t1 ds1 σ1 → Tri P G E W0 N0 M fn (.loop c) t1 ds1 σ1 Q) (hq : ∀ e t1 ds1 σ1, e ≠ .normal → Qa e t1 ds1 σ1 → Q e t1 ds1 σ1) : Tri P G E W0 N0 M fn (.loop c) t ds σ Q := by
  intro β τ w tr dr b hH ht hd hb hr it hit k cs
  have hst : Steps P (lone (Fr b tr dr (it :: k)) cs w) (lone (Fr b tr dr (.code c :: .inLoop c :: k)) cs w) := by
    rcases hit with rfl | ⟨_, h, rfl⟩
    · exact .one st_loop
    · cases h; exact .one st_inLoop
  obtain ⟨e, t1, ds1, σ1, β1, τ1, w1, tr1, dr1, k1, h1, h2, h3, h4, h5, h6⟩ := ha β τ w tr dr b hH ht hd hb hr _ (.inl rfl) (.inLoop c :: k) cs
  by_cases hn : e = .normal
  · subst hn
    have h5 : k1 = .inLoop c :: k := h5
    subst h5
    obtain ⟨e2, t2, ds2, σ2, β2, τ2, w2, tr2, dr2, k2, g1, g2, g3, g4, g5, g6⟩ := hc t1 ds1 σ1 h1 β1 τ1 w1 tr1 dr1 b h2 h3 h4 hb hr (.inLoop c) (.inr ⟨c, rfl, rfl⟩) k cs
    exact ⟨e2, t2, ds2, σ2, β2, τ2, w2, tr2, dr2, k2, g1, g2, g3, g4, g5, hst.trans (h6.trans g6)⟩
  · exact ⟨e, t1, ds1, σ1, β1, τ1, w1, tr1, dr1, k1, hq _ _ _ _ hn h1, h2, h3, h4, h5.drop (fun _ => rfl) (fun _ => rfl) hn, hst.trans h6⟩

theorem Tri.cond {v : Operand} {a c : Code} {t : List Value} {ds : List Nat} {σ : AS} {Q : Aft} (b' : Bool) (hv : ev t v = .bool b') (ho : okO G v = true) (h : Tri P G E W0 N0 M fn (bif b' then a else c) t ds σ Q) : Tri P G E W0 N0 M fn (.cond v a c) t ds σ Q := by
  intro β τ w tr dr b hH ht hd hb hr it hit k cs
  rcases hit with rfl | ⟨_, h, _⟩
  · have hv1 := ev_rel hH.glob ht ho
    rw [hv] at hv1
    have hv2 : evA tr v = .bool b' := by
      generalize evA tr v = u at hv1
      cases hv1; rfl
    obtain ⟨e, t1, ds1, σ1, β1, τ1, w1, tr1, dr1, k1, h1, h2, h3, h4, h5, h6⟩ := h β τ w tr dr b hH ht hd hb hr _ (.inl rfl) k cs
    exact ⟨e, t1, ds1, σ1, β1, τ1, w1, tr1, dr1, k1, h1, h2, h3, h4, h5, .head (st_cond hv2) h6⟩
  · cases h

/-- The abstract heap is chosen anew. -/
theorem Tri.rebase {c : Code} {t : List Value} {σ σh : AS} {Q : Aft} (s : Reb) (hs : s.n = σh.next) (hsM : s.M = M) (m : Nat) (hm : t.length = m) (fx : List (Nat × Value)) (hf : ∀ x ∈ fx, ∃ u, t[x.1]? = some u ∧ ValRen s u x.2) (hwf : σh.Wf)
    (hn : G ≤ s.n) (hg : ∀ g, g < G → s.src g = g) (ho : ∀ j x, j < s.n → σh.get j = some x → s.src j < σ.next ∧ ∃ y, σ.get (s.src j) = some y ∧ ObjRen s y x)
    (he : ∀ i j x z y, i < s.n → j < s.n → i ≠ j → σh.get i = some x → σh.get j = some z → x.own = true → σ.get (s.src i) = some y → s.src i ≠ s.src j ∧ (prevOf y = some (s.src j) → prevOf x = some j))
    (h : ∀ w, Tri P G E W0 N0 M fn c (fillT m fx w) [] σh Q) : Tri P G E W0 N0 M fn c t [] σ Q := by
  intro β τ w tr dr b hH ht hd hb hr it hit k cs
  have hd0 : dr = [] := by
    cases dr with
    | nil => rfl
    | cons _ _ => exact hd.elim
  subst hd0
  obtain ⟨w', hw'⟩ := lRel_rebase s ht m hm fx hf
  have hR : R (CodeK G E) W0 N0 (s.app β) σh w := by
    refine hH.rel.rebase s (fun j hj => hwf.beyond j (by omega)) (fun j x hj hx => ?_) (fun i j x z y hi hj hij hx hz hown hy => ?_)
    · obtain ⟨h1, y, hy, hren⟩ := ho j x hj hx
      exact ⟨y, by rw [hH.like.2 _ h1]; exact hy, hren⟩
    · obtain ⟨h1, _⟩ := ho i x hi hx
      exact he i j x z y hi hj hij hx hz hown (by rw [← hH.like.2 _ h1]; exact hy)
  exact h w' (s.app β) σh w tr [] b ⟨hR, hwf, ⟨rfl, fun _ _ => rfl⟩, fun g hgl => by rw [s.app_low β (by omega), hg g hgl]; exact hH.glob g hgl, fun i h1 h2 => s.app_gap β (by omega) (by omega)⟩ hw' trivial hb hr it hit k cs

end
end Go.Va

/-
  A CALL out of what is known of its body; what a function leaves is taken over by the caller.
-/
namespace Go.Va
open Go.RowKit
section
variable {P : Program} {G : Nat} {E : Env} {W0 : World} {N0 : Nat}

/-- What a body must come to. -/
def Ends (P : Program) (lim : Nat) (fd : Func) (QV : Value → AS → Prop) : Aft := fun e t1 ds1 σ1 =>
  (e = .normal ∨ e = .ret) ∧ ∃ σ2, takeA P lim ds1 σ1 = some σ2 ∧ ∃ v, runA P lim (results fd t1.toArray) σ2 = some (v, σ2) ∧ QV v σ2

theorem Tri.call {M : Nat} (lim : Nat) (hFn : FnOk P G E) {f : FuncId} {fd : Func} {c : Code} (hok : E.ok f = true) (hfn : P.funcs[f]? = some fd) (hbody : fd.body = some c) {args : List Value} {args' : Array Value} {β : Inj} {τ σ : AS} {w : World} {QV : Value → AS → Prop}
    (hH : Hold G E W0 N0 M β τ σ w) (ha : lRel β args args'.toList) (hT : Tri P G E W0 N0 M f c (args ++ List.replicate (fd.ntmps - args.length) undef) [] σ (Ends P lim fd QV)) :
    Lands P (callFunc f args') w fun v' w' => ∃ v σ3 β' τ', QV v σ3 ∧ R (CodeK G E) W0 N0 β' τ' w' ∧ σ3.Wf ∧ σ3.Like τ' ∧ vRel β' v v' := by
  obtain ⟨hcode, hname⟩ := hFn f fd c hok hfn hbody
  have hcall : (callFunc f args').run P w = .ok (.enter f args') w := by
    unfold callFunc
    rw [run_bind']
    show (match P.funcs[f]? with | none => _ | some fn => _ : Sem Next).run P w = _
    rw [hfn]
    simp only [hname, Bool.false_eq_true, if_false, hbody, Option.isNone_some]
    rfl
  refine .enter hcall fun cs => ?_
  have hlen : args'.size = args.length := by have := ha.length; simpa using this.symm
  have htm : lRel β (args ++ List.replicate (fd.ntmps - args.length) undef) (args' ++ Array.replicate (fd.ntmps - args'.size) undef).toList := by
    rw [Array.toList_append, Array.toList_replicate, hlen]
    exact ha.append (.replicate rel_undef _)
  have hent : Frame.enter P f args' .normal = Fr (Frame.enter P f args' .normal) (args' ++ Array.replicate (fd.ntmps - args'.size) undef) [] [.code c] := by
    simp only [Frame.enter, Fr, hfn, hbody, Option.map_some, Option.getD_some, Option.bind_some]
  obtain ⟨e, t1, ds1, σ1, β1, τ1, w1, tr1, dr1, k', ⟨he, σ2, h2, v, h3, hv⟩, H1, ht1, hd1, hk1, s1⟩ := hT β τ w _ [] (Frame.enter P f args' .normal) hH htm trivial rfl rfl _ (.inl rfl) [] cs
  rw [← hent] at s1
  have hleave : Steps P (lone (Fr (Frame.enter P f args' .normal) tr1 dr1 k') cs w1) (lone { Fr (Frame.enter P f args' .normal) tr1 dr1 k' with mode := .returning } cs w1) := by
    rcases he with rfl | rfl
    · have : k' = [] := hk1
      subst this
      exact .one (st_leave rfl)
    · obtain ⟨pre, rfl⟩ := hk1
      exact .one (st_ret rfl)
  obtain ⟨k2, hn2⟩ := kept_take ds1 h2 H1.wf
  have hw2 := k2.wf H1.wf
  obtain ⟨w2, τ2, l2, R2, _, _, s2⟩ := takes (cs := cs) ds1 dr1 σ1 σ2 τ1 β1 w1 { Fr (Frame.enter P f args' .normal) tr1 dr1 k' with mode := .returning } h2 hd1 H1.wf H1.like H1.rel rfl rfl
  obtain ⟨v', w3, β3, τ3, er, x3, l3, R3, hb3, hvr⟩ := (sim_results (P := P) (K := CodeK G E) (W0 := W0) (N0 := N0) (fn := fd) (t := t1.toArray) (t' := tr1) (arrRel_iff.2 (by simpa using ht1))).at hw2 l2.like R2 h3 (fun i h h' => by omega)
  have hww : w3 = w2 := RO.results fd tr1 w2 v' w3 er
  subst hww
  subst hb3
  exact ⟨.returned v', w3, _, ⟨v', rfl, v, σ2, β3, τ3, hv, R3, hw2, l3.like, hvr⟩, s1.trans (hleave.trans s2), rfl, ⟨rfl, rfl, rfl, fd, hfn, er⟩⟩


/-- A heap of rows that may only be read: whatever was before does not matter. -/
theorem R.seal {K K' : FuncId → Code → Prop} {β : Inj} {σ : AS} {w : World} (hR : R K W0 N0 β σ w) (ho : ∀ id x, σ.get id = some x → x.own = false) : R K' w w.heap.size β σ w :=
  { cells := fun {id e c rw lo pv} hb hg => by
      obtain ⟨C, ty, fr, h1, h2, h3, h4⟩ := hR.cells hb hg
      have := ho _ _ hg
      exact ⟨C, ty, fr, h1, h2, fun h => (by subst h; cases this), h4⟩
    obj := fun {id e o} hb hg => by have := ho _ _ hg; cases this
    excl := fun {i j ei ej x y} hij hbi hbj hgi hgj hx heq => by rw [ho _ _ hgi] at hx; cases hx
    lt := hR.lt
    base := .refl _ _
    top := Nat.le_refl _
    code := fun {id e r} hb hg => by have := ho _ _ hg; cases this }

/-- A row that lies in the heap is taken over. -/
theorem R.adopt {K : FuncId → Code → Prop} {β : Inj} {τ : AS} {w : World} (hR : R K W0 N0 β τ w) (hf : β τ.next = none) {e : Ent} (hb : ∀ id e', β id = some e' → e'.b < e.b) (hlt : e.b < w.heap.size) (hN : N0 ≤ e.b) {xs : List Value} {lo : Lo}
    (hx : ∃ C ty fr, w.heap[e.b]? = some (.cells C ty fr) ∧ (∀ i (_ : i < xs.length), ∃ v', C[e.o + i]? = some v' ∧ vRel β xs[i] v') ∧ (∀ i, i < C.size → ¬ (fr.1 ≤ i ∧ i < fr.2)) ∧ TlOk e lo xs.length ty C.size) :
    R K W0 N0 (fun i => if i = τ.next then some e else β i) (τ.push (.cells xs true lo none)) w ∧ β.le (fun i => if i = τ.next then some e else β i) := by
  have hle : β.le (fun i => if i = τ.next then some e else β i) := by
    intro i e' h
    simp only []
    rw [if_neg (by rintro rfl; rw [hf] at h; cases h)]; exact h
  refine ⟨?_, hle⟩
  constructor
  · intro id e' c rw' lo' pv hbi hg
    rw [AS.get_push] at hg
    by_cases hid : id = τ.next
    · rw [if_pos hid] at hbi hg
      simp only [Option.some.injEq] at hbi hg
      subst hbi
      cases hg
      obtain ⟨C, ty, fr, h0, h1, h2, h3⟩ := hx
      refine ⟨C, ty, fr, h0, fun i hi => ?_, fun _ => ⟨hN, h2⟩, h3⟩
      obtain ⟨v', k1, k2⟩ := h1 i hi
      exact ⟨v', k1, k2.mono hle⟩
    · rw [if_neg hid] at hbi hg
      obtain ⟨C, ty, fr, k1, k2, k3, k4⟩ := hR.cells hbi hg
      refine ⟨C, ty, fr, k1, fun i hi => ?_, k3, k4⟩
      obtain ⟨v', m1, m2⟩ := k2 i hi
      exact ⟨v', m1, m2.mono hle⟩
  · intro id e' o hbi hg
    rw [AS.get_push] at hg
    by_cases hid : id = τ.next
    · rw [if_pos hid] at hg; cases hg
    · rw [if_neg hid] at hbi hg
      obtain ⟨k1, k2, o'', k3, k4⟩ := hR.obj hbi hg
      exact ⟨k1, k2, o'', k3, k4.mono hle⟩
  · intro i j ei ej y z hij hbi hbj hgi hgj hy heq
    rw [AS.get_push] at hgi hgj
    by_cases hi : i = τ.next
    · rw [if_pos hi] at hbi
      rw [if_neg (by omega)] at hbj
      simp only [Option.some.injEq] at hbi
      subst hbi
      have := hb _ _ hbj; omega
    · rw [if_neg hi] at hbi hgi
      by_cases hj : j = τ.next
      · rw [if_pos hj] at hbj
        simp only [Option.some.injEq] at hbj
        subst hbj
        have := hb _ _ hbi; omega
      · rw [if_neg hj] at hbj hgj
        exact hR.excl hij hbi hbj hgi hgj hy heq
  · intro id e' hbi
    by_cases hid : id = τ.next
    · rw [if_pos hid] at hbi; simp only [Option.some.injEq] at hbi; subst hbi; exact hlt
    · rw [if_neg hid] at hbi; exact hR.lt hbi
  · exact hR.base
  · exact hR.top
  · intro id e' r hbi hg
    rw [AS.get_push] at hg
    by_cases hid : id = τ.next
    · rw [if_pos hid] at hg; cases hg
    · rw [if_neg hid] at hg hbi; exact hR.code hbi hg

/-- One function is rightly replaced. -/
def OvOne (P : Program) (G : Nat) (f : FuncId) (ov : List Value → Nat → AS → Option (Value × AS)) : Prop :=
  ∀ K W0 N0 args lim σ v σ', ov args lim σ = some (v, σ') → ∀ β τ w (args' : Array Value), Tabs G [] w → σ.Wf → σ.Like τ → R K W0 N0 β τ w → Fresh β σ σ' → GlobOk G β → lRel β args args'.toList →
  Lands P (callFunc f args') w (Post K W0 N0 β σ σ' τ v)

/-- WHAT A FUNCTION OF PLAIN VALUES DOES THAT MAKES A ROW: nothing that was there has turned; its answer, in which the row has the number r; what the row holds. -/
def RowFn (P : Program) (G : Nat) (f : FuncId) (args : List Value) (mk : Nat → Value) (xs : List Value) (lo : Lo) : Prop :=
  ∀ w, Tabs G [] w → Lands P (callFunc f args.toArray) w fun v' w' => Below w.heap.size w w' ∧ ∃ e : Ent, w.heap.size ≤ e.b ∧
    (∀ (β : Inj) r, β r = some e → vRel β (mk r) v') ∧
    ∃ C ty fr, w'.heap[e.b]? = some (.cells C ty fr) ∧ (∀ i (_ : i < xs.length), C[e.o + i]? = some xs[i]) ∧ (∀ i, i < C.size → ¬ (fr.1 ≤ i ∧ i < fr.2)) ∧ TlOk e lo xs.length ty C.size

theorem RowFn.ov {f : FuncId} {args : List Value} {mk : Nat → Value} {xs : List Value} {lo : Lo} (h : RowFn P G f args mk xs lo) (hp : args.all (plainB 100) = true) (hx : xs.all (plainB 100) = true) {K : FuncId → Code → Prop} {β : Inj} {σ τ : AS} {w : World} {args' : Array Value}
    (hT : Tabs G [] w) (hl : σ.Like τ) (hR : R K W0 N0 β τ w) (hf : β σ.next = none) (ha : lRel β args args'.toList) :
    Lands P (callFunc f args') w (Post K W0 N0 β σ (σ.push (.cells xs true lo none)) τ (mk σ.next)) := by
  have ea : args' = args.toArray := by
    have := plain_lRel_eq args args'.toList hp ha
    rw [← this]
  subst ea
  refine (h w hT).mono fun v' w' hh => ?_
  obtain ⟨hb, e, he, hv, C, ty, fr, h1, h2, h3, h4⟩ := hh
  have hR' := hR.below hb
  have hlt : e.b < w'.heap.size := by
    rw [Array.getElem?_eq_some_iff] at h1; exact h1.1
  obtain ⟨hA, hle⟩ := hR'.adopt (by rw [hl.1]; exact hf) (e := e) (fun id e' hbi => by have := hR.lt hbi; omega) hlt (by have := hR.top; omega) (xs := xs) (lo := lo) ⟨C, ty, fr, h1, fun i hi => ⟨_, h2 i hi, plain_rel 100 _ (List.all_eq_true.1 hx _ (by simp))⟩, h3, h4⟩
  have hnx : τ.next = σ.next := hl.1
  refine ⟨_, τ.push (.cells xs true lo none), ⟨hle, fun i e' h' => ?_⟩, ⟨by simp [hnx], fun id hid => ?_, fun id hid => ?_⟩, hA, hv _ _ (by rw [hnx, if_pos rfl])⟩
  · replace h' : (if i = τ.next then some e else β i) = some e' := h'
    split at h'
    · rename_i hi
      exact .inr ⟨by omega, by rw [AS.next_push]; omega⟩
    · exact .inl h'
  · rw [AS.get_push, AS.get_push, hnx]
    simp only [AS.next_push] at hid
    split
    · rfl
    · exact hl.2 _ (by omega)
  · simp only [AS.next_push] at hid
    rw [AS.get_push, if_neg (by omega)]


/-- An answer in which a row has a number: the number may be another one. -/
def MkOk (mk : Nat → Value) : Prop := ∀ (β : Inj) r v', vRel β (mk r) v' → ∃ e, β r = some e ∧ ∀ (β2 : Inj) r2, β2 r2 = some e → vRel β2 (mk r2) v'

theorem mk_slice (n c : Nat) : MkOk fun r => .slice (some ⟨r, 0, none⟩) n c := by
  intro β r v' h
  cases h with
  | slice _ ha hc =>
    obtain ⟨h0, e, he, h1⟩ := ha
    refine ⟨e, he, fun β2 r2 h2 => .slice n ⟨rfl, e, h2, h1⟩ ?_⟩
    rcases hc with hc | ⟨e', sz, esz, real, hb, hc⟩
    · exact .inl hc
    · rw [he] at hb; cases hb
      exact .inr ⟨e, sz, esz, real, h2, hc⟩
  | void _ _ h => cases h

theorem mk_slice_int (n c : Nat) (k : IntKind) (x : Int) : MkOk fun r => .tuple #[.slice (some ⟨r, 0, none⟩) n c, .int k x] := by
  intro β r v' h
  cases h with
  | @tuple f f' hf hf' =>
    have h0 := hf' 0 (by simp) (by rw [← hf]; simp)
    have h1 := hf' 1 (by simp) (by rw [← hf]; simp)
    obtain ⟨e, he, hk⟩ := mk_slice n c β r _ h0
    refine ⟨e, he, fun β2 r2 h2 => .tuple hf fun i hi hi' => ?_⟩
    match i, hi with
    | 0, _ => exact hk β2 r2 h2
    | 1, _ =>
      have : f'[1]'hi' = .int k x := by
        have h1' : vRel β (.int k x) (f'[1]'hi') := h1
        generalize f'[1]'hi' = u at h1'
        cases h1'; rfl
      rw [this]; exact .int k x

theorem RowFn.of_tri {M : Nat} (hFn : FnOk P G E) {f : FuncId} {fd : Func} {c : Code} (hok : E.ok f = true) (hfn : P.funcs[f]? = some fd) (hbody : fd.body = some c) {args : List Value} (ha : args.all (plainB 100) = true)
    {mk : Nat → Value} (hmk : MkOk mk) {xs : List Value} (hx : xs.all (plainB 100) = true) {lo : Lo}
    (hT : ∀ w, Tabs G [] w → Tri P G E w w.heap.size M f c (args ++ List.replicate (fd.ntmps - args.length) undef) [] (base0 G []) (Ends P 0 fd fun v σ => ∃ r pv, v = mk r ∧ σ.get r = some (.cells xs true lo pv))) : RowFn P G f args mk xs lo := by
  intro w hw
  have hH : Hold G E w w.heap.size M (inj0 G) (base0 G []) (base0 G []) w :=
    ⟨base0_R rfl hw, base0_wf rfl, ⟨rfl, fun _ _ => rfl⟩, fun g hg => by unfold inj0; rw [if_pos hg], fun i h1 _ => by
      have : (base0 G []).next = G := rfl
      unfold inj0; rw [if_neg (by omega)]⟩
  refine (Tri.call 0 hFn hok hfn hbody hH (args' := args.toArray) (plain_lRel args ha) (hT w hw)).mono fun v' w' hh => ?_
  obtain ⟨v, σ3, β', τ', ⟨r, pv, rfl, hg⟩, R', wf', like', hv⟩ := hh
  obtain ⟨e, he, hk⟩ := hmk β' r v' hv
  have hlt : r < σ3.next := by
    apply Classical.byContradiction
    intro hn
    rw [wf'.beyond r (by omega)] at hg; cases hg
  obtain ⟨C, ty, fr, h1, h2, h3, h4⟩ := R'.cells he (by rw [like'.2 r hlt]; exact hg)
  refine ⟨R'.base, e, (h3 rfl).1, hk, C, ty, fr, h1, fun i hi => ?_, (h3 rfl).2, h4⟩
  obtain ⟨u, hu, hr⟩ := h2 i hi
  rw [hu, plain_eq 100 _ _ (List.all_eq_true.1 hx _ (by simp)) hr]

theorem Pure.of_tri {M : Nat} (hFn : FnOk P G E) {f : FuncId} {fd : Func} {c : Code} (hok : E.ok f = true) (hfn : P.funcs[f]? = some fd) (hbody : fd.body = some c) {args : List Value} (ha : args.all (plainB 100) = true) {u : Value} (hu : plainB 100 u = true)
    (hT : ∀ w, Tabs G [] w → Tri P G E w w.heap.size M f c (args ++ List.replicate (fd.ntmps - args.length) undef) [] (base0 G []) (Ends P 0 fd fun v _ => v = u)) : Pure P G [] f args u := by
  intro w hw
  have hH : Hold G E w w.heap.size M (inj0 G) (base0 G []) (base0 G []) w :=
    ⟨base0_R rfl hw, base0_wf rfl, ⟨rfl, fun _ _ => rfl⟩, fun g hg => by unfold inj0; rw [if_pos hg], fun i h1 _ => by
      have : (base0 G []).next = G := rfl
      unfold inj0; rw [if_neg (by omega)]⟩
  refine (Tri.call 0 hFn hok hfn hbody hH (args' := args.toArray) (plain_lRel args ha) (hT w hw)).mono fun v' w' hh => ?_
  obtain ⟨v, σ3, β', τ', rfl, R', wf', like', hv⟩ := hh
  exact ⟨plain_eq 100 _ _ hu hv, R'.base⟩

end
end Go.Va

/-
  APPENDING to a row whose length is not known; rows that are read.
-/
namespace Go.Va
open Go.RowKit

theorem append1_full {lim : Nat} {elem : TypeId} {i : TypeInfo} {r n : Nat} {xs : List Value} {v : Value} {σ : AS} (hg : σ.get r = some (.cells xs true (some i.size, some elem) none)) (hs : i.size = 1) (hn : xs.length = n) (hb : (n + 1) * i.bytes ≤ 70368744177664) (h0 : 0 < i.bytes)
    (hz : i.zero.isSome = true) (hv : oneCell v = true) (hl : lim ≤ r) :
    append1 lim elem i (some ⟨r, 0, none⟩) n n 1 [v] σ = some (.slice (some ⟨σ.next, 0, none⟩) (n + 1) (n + 1), (σ.put r (some (.cells xs false (some i.size, some elem) none))).push (.cells (xs ++ [v]) true (some i.size, some elem) (some r))) := by
  have e1 : Nat.ble (n + 1) n = false := by
    cases h : Nat.ble (n + 1) n with
    | false => rfl
    | true => rw [Nat.ble_eq] at h; omega
  have e2 : Nat.ble ((n + 1) * i.bytes) 70368744177664 = true := Nat.ble_eq ▸ hb
  have e3 : Nat.blt 0 i.bytes = true := blt_iff.2 h0
  have e4 : Nat.beq [v].length (1 * i.size) = true := by rw [hs]; rfl
  have e5 : Nat.ble (0 + n * i.size) xs.length = true := by rw [Nat.ble_eq, hs]; omega
  have e6 : σ.exact ⟨r, 0, none⟩ n = false := by
    unfold AS.exact
    dsimp only
    rw [hg]
    dsimp only
    cases h : Nat.blt (0 + n * i.size) xs.length with
    | false => rfl
    | true => rw [blt_iff, hs] at h; omega
  have e7 : Nat.ble lim r = true := Nat.ble_eq ▸ hl
  have e8 : (xs.drop 0).take (n * i.size) = xs := by rw [hs, List.drop_zero, Nat.mul_one, ← hn, List.take_length]
  unfold append1
  rw [e1, cond_false, e2, e3, hz, e4]
  simp only [List.all_cons, List.all_nil, hv, Bool.and_self, cond_true]
  rw [hg]
  dsimp only
  rw [e5, cond_true, e6, cond_false, e7]
  simp only [beq_self_eq_true, Bool.and_self, cond_true]
  simp only [AS.kill]
  rw [show Nat.beq n n = true from Nat.beq_refl n, cond_true, e8]

/-- The cells of a slice of values of one cell. -/
def rowOf (σ : AS) : Value → Option (List Value)
  | .slice none _ _ => some []
  | .slice (some ⟨r, o, none⟩) l _ =>
    match σ.get r with
    | some (.cells c _ _ _) => bif Nat.ble (o + l) c.length then some ((c.drop o).take l) else none
    | _ => none
  | _ => none

theorem rowOf_like {σ τ : AS} (hw : σ.Wf) (hl : σ.Like τ) {v : Value} {xs : List Value} (h : rowOf σ v = some xs) : rowOf τ v = some xs := by
  unfold rowOf at *
  split at h
  · exact h
  · rename_i r o l c
    cases hg : σ.get r with
    | none => rw [hg] at h; cases h
    | some x => rw [get_like hw hl hg]; rw [hg] at h; exact h
  · cases h

theorem good_rows {lim : Nat} {u v : Value} {k : List Value → List Value → Option Value} : Good lim (fun σ => match rowOf σ u, rowOf σ v with | some a, some b => (match k a b with | some r => some (r, σ) | none => none) | _, _ => none) := by
  intro σ r σ' h hw
  dsimp only at h
  split at h
  · rename_i a b ha hb
    split at h
    · rename_i r' hk
      cases h
      refine ⟨.refl _ _, fun τ hl => ⟨τ, ?_, ⟨hl.1, fun id hid => hl.2 id hid, fun _ _ => rfl⟩⟩⟩
      dsimp only
      rw [rowOf_like hw hl ha, rowOf_like hw hl hb]
      dsimp only
      rw [hk]
    · cases h
  · cases h

theorem good_row {lim : Nat} {u : Value} {k : List Value → Option Value} : Good lim (fun σ => match rowOf σ u with | some a => (match k a with | some r => some (r, σ) | none => none) | _ => none) := by
  intro σ r σ' h hw
  dsimp only at h
  split at h
  · rename_i a ha
    split at h
    · rename_i r' hk
      cases h
      refine ⟨.refl _ _, fun τ hl => ⟨τ, ?_, ⟨hl.1, fun id hid => hl.2 id hid, fun _ _ => rfl⟩⟩⟩
      dsimp only
      rw [rowOf_like hw hl ha]
      dsimp only
      rw [hk]
    · cases h
  · cases h

/-- A new row is made, of what is known. -/
theorem good_push {lim : Nat} {mk : Nat → Value} {xs : List Value} {lo : Lo} : Good lim (fun σ => some (mk σ.next, σ.push (.cells xs true lo none))) := by
  intro σ v σ' h hw
  cases h
  refine ⟨kept_push _ _ _ (fun q hq => by cases hq), fun τ hl => ⟨τ.push (.cells xs true lo none), by show some (mk τ.next, _) = _; rw [hl.1], ⟨by simp [hl.1], fun id hid => ?_, fun id hid => ?_⟩⟩⟩
  · rw [AS.get_push, AS.get_push, hl.1]
    simp only [AS.next_push] at hid
    split
    · rfl
    · exact hl.2 _ (by omega)
  · simp only [AS.next_push] at hid
    rw [AS.get_push, if_neg (by rw [hl.1]; omega)]

end Go.Va

/-
  ENVIRONMENTS in which functions of plain values are replaced, and some functions without a body: abi.NoEscape, bytealg.MakeNoZero.
-/
namespace Go.Va
open Go.RowKit
variable {P : Program} {G : Nat}

/-- THE TOP THEOREM, of any environment. -/
theorem topE {E : Env} {tabs : List (Nat × List Value)} (hZ : ZeroOk P) (hM : P.follows .mixedOrders = true) (ht : tabsB G tabs = true) (hGood : OvGood E)
    (hOk : ∀ w, Tabs G tabs w → OvOk P (CodeK G E) w w.heap.size G E) (hFn : FnOk P G E) {f : FuncId} {args : List Value} {v : Value} {σ' : AS}
    (hr : runW P E 0 (.call f args) (base0 G tabs) = some (.val v, σ')) (ha : args.all (plainB 100) = true) (hv : plainB 100 v = true) : Pure P G tabs f args v := by
  intro w hT
  obtain ⟨n, hr⟩ := runW_some hr
  have hS := (sound (W0 := w) (N0 := w.heap.size) hZ hM hGood (hOk w hT) hFn n).1
  have hn : (base0 G tabs).next = G := base0_next tabs _
  refine (hS 0 f args (base0 G tabs) v σ' hr (inj0 G) (base0 G tabs) w args.toArray (base0_wf ht) ⟨rfl, fun _ _ => rfl⟩ (base0_R ht hT) (fun i h1 h2 => ?_) (fun g hg => ?_) (plain_lRel args ha)).mono fun v' w' h => ?_
  · unfold inj0; rw [if_neg (by omega)]
  · unfold inj0; rw [if_pos hg]
  · obtain ⟨β', τ', _, _, hR, hvr⟩ := h
    exact ⟨plain_eq 100 v v' hv hvr, hR.base⟩

theorem topH {E : Env} {tabs : List (Nat × List Value)} (hZ : ZeroOk P) (hM : P.follows .mixedOrders = true) (ht : tabsB G tabs = true) (hGood : OvGood E)
    (hOk : ∀ w, Tabs G tabs w → OvOk P (CodeK G E) w w.heap.size G E) (hFn : FnOk P G E) {n : Nat} {f : FuncId} {args : List Value} {v : Value} {hs : List (Nat × Hint)} {ob : List Prop}
    (hr : upshot (runH P E n 0 (.call f args) (base0 G tabs) ⟨hs, []⟩) = some (v, ob)) (ho : All ob) (ha : args.all (plainB 100) = true) (hv : plainB 100 v = true) : Pure P G tabs f args v := by
  obtain ⟨m, σ', h⟩ := run_of hr ho
  exact topE hZ hM ht hGood hOk hFn (runW_of h) ha hv

/-- abi.NoEscape: the value as it is. -/
def noEscA (args : List Value) (σ : AS) : Option (Value × AS) :=
  match args with
  | [x] => some (x, σ)
  | _ => none
/-- bytealg.MakeNoZero: a row of which nothing is known. -/
def makeNoZeroA (e : TypeId) (args : List Value) (σ : AS) : Option (Value × AS) :=
  match args with
  | [.int .i64 n] => bif decide (0 ≤ n) && decide (n ≤ 281474976710656) then some (.slice (some ⟨σ.next, 0, none⟩) n.toNat 0, σ.push (.cells [] true (some 1, some e) none)) else none
  | _ => none

theorem good_noEsc {lim : Nat} {args : List Value} : Good lim (fun σ => noEscA args σ) := by
  unfold noEscA
  split
  · exact good_some _
  · exact good_none
theorem good_makeNoZero {lim : Nat} {e : TypeId} {args : List Value} : Good lim (fun σ => makeNoZeroA e args σ) := by
  unfold makeNoZeroA
  split
  · exact Good.cond (good_push (mk := fun r => .slice (some ⟨r, 0, none⟩) _ 0)) good_none
  · exact good_none

/-- One function is rightly replaced, in these worlds. -/
def OvAt (P : Program) (K : FuncId → Code → Prop) (W0 : World) (N0 G : Nat) (f : FuncId) (ov : List Value → Nat → AS → Option (Value × AS)) : Prop :=
  ∀ args lim σ v σ', ov args lim σ = some (v, σ') → ∀ β τ w (args' : Array Value), σ.Wf → σ.Like τ → R K W0 N0 β τ w → Fresh β σ σ' → GlobOk G β → lRel β args args'.toList → Lands P (callFunc f args') w (Post K W0 N0 β σ σ' τ v)

variable {K : FuncId → Code → Prop} {W0 : World} {N0 : Nat}

theorem ov_noEsc {f : FuncId} {fn : Func} (hf : P.funcs[f]? = some fn) (hname : (fn.name == "runtime.NumGoroutine") = false) (hb : fn.body.isNone = true) (hn : Extern.findNext fn = none) (he : Extern.find fn = some Extern.AbiNoEscape.same) :
    OvAt P K W0 N0 G f fun args _ σ => noEscA args σ := by
  intro args lim σ v σ' hr β τ w args' hw hl hR hF hG ha
  unfold noEscA at hr
  dsimp only at hr
  split at hr
  case h_2 => cases hr
  cases hr
  obtain ⟨x', rfl, hx⟩ := one_arg ha
  refine .value (v := x') (w' := w) ?_ ⟨β, τ, .refl _ _, .refl hl, hR, hx⟩
  rw [run_callFunc_extern hf hname hb hn he, Lib.run_noEscape]
  rfl

theorem ov_makeNoZero {f : FuncId} {fn : Func} {ps : Array TypeId} {t e : TypeId} (hf : P.funcs[f]? = some fn) (hname : (fn.name == "runtime.NumGoroutine") = false) (hb : fn.body.isNone = true) (hn : Extern.findNext fn = none)
    (he : Extern.find fn = some (Extern.BytealgMakeNoZero.makeNoZero ps #[t])) (ht : P.underlying t = some (.slice e)) : OvAt P K W0 N0 G f fun args _ σ => makeNoZeroA e args σ := by
  intro args lim σ v σ' hr β τ w args' hw hl hR hF hG ha
  unfold makeNoZeroA at hr
  dsimp only at hr
  split at hr
  case h_2 => cases hr
  rename_i n
  cases hb0 : (decide (0 ≤ n) && decide (n ≤ 281474976710656)) with
  | false => rw [hb0] at hr; cases hr
  | true =>
    rw [hb0, cond_true] at hr
    cases hr
    simp only [Bool.and_eq_true, decide_eq_true_eq] at hb0
    obtain ⟨x', rfl, hx⟩ := one_arg ha
    cases hx
    obtain ⟨m, rfl⟩ : ∃ m : Nat, n = m := ⟨n.toNat, by omega⟩
    obtain ⟨cs, h1, h2, _⟩ := Lib.run_makeNoZero (P := P) w ps t e ht m (by omega)
    have hcall : (callFunc f #[.int .i64 m]).run P w = .ok (.value (.slice (some ⟨w.heap.size, 0, none⟩) m cs.size)) (w.drew.drew.alloc (.cells cs e)) := by
      rw [run_callFunc_extern hf hname hb hn he, h1]
      rfl
    have hRd : R K W0 N0 β τ w.drew.drew := by
      have := (hR.drawn (w.drawn + 1)).drawn (w.drawn + 1 + 1)
      exact this
    have hfn : β τ.next = none := by
      rw [hl.1]
      exact hF _ (Nat.le_refl _) (by simp)
    obtain ⟨R2, hle⟩ := hRd.push hfn (x := .cells [] true (some 1, some e) none) (o' := .cells cs e) (e := ⟨w.heap.size, 0, some (0, 1, cs.size)⟩) rfl
      ⟨cs, e, (0, 0), rfl, fun i hi => by simp at hi, fun _ i _ h => by simp at h, rfl, fun T hT => by cases hT; exact ⟨rfl, fun h => by cases h⟩⟩
    have hnx : τ.next = σ.next := hl.1
    refine .value hcall ⟨_, τ.push (.cells [] true (some 1, some e) none), ⟨hle, fun i e' h' => ?_⟩, ⟨by simp [hnx], fun id hid => ?_, fun id hid => ?_⟩, R2, ?_⟩
    · replace h' : (if i = τ.next then some (⟨w.heap.size, 0, some (0, 1, cs.size)⟩ : Ent) else β i) = some e' := h'
      split at h'
      · exact .inr ⟨by omega, by rw [AS.next_push]; omega⟩
      · exact .inl h'
    · rw [AS.get_push, AS.get_push, hnx]
      simp only [AS.next_push] at hid
      split
      · rfl
      · exact hl.2 _ (by omega)
    · simp only [AS.next_push] at hid
      rw [AS.get_push, if_neg (by omega)]
    · have : ((m : Int)).toNat = m := by omega
      rw [this]
      refine .slice m ⟨rfl, ⟨w.heap.size, 0, some (0, 1, cs.size)⟩, by show (if σ.next = τ.next then _ else _) = _; rw [hnx, if_pos rfl], rfl⟩ (.inr ⟨⟨w.heap.size, 0, some (0, 1, cs.size)⟩, 0, 1, cs.size, by show (if σ.next = τ.next then _ else _) = _; rw [hnx, if_pos rfl], rfl, by simp, by simp, Nat.zero_le _⟩)

/-- A contract of the shelf's kind, as a pure function. -/
theorem pure_of_calls {tabs : List (Nat × List Value)} {f : FuncId} {fn : Func} {args : List Value} {v : Value} (hfn : P.funcs[f]? = some fn) (hname : (fn.name == "runtime.NumGoroutine") = false) (hb : fn.body.isNone = false)
    (h : ∀ w, Tabs G tabs w → Calls P f args.toArray w fun e w' => e = .returned v ∧ Below w.heap.size w w') : Pure P G tabs f args v := by
  intro w hT
  have hcall : (callFunc f args.toArray).run P w = .ok (.enter f args.toArray) w := by
    unfold callFunc
    rw [run_bind']
    show (match P.funcs[f]? with | none => _ | some fn => _ : Sem Next).run P w = _
    rw [hfn]
    simp only [hname, Bool.false_eq_true, if_false, hb]
    rfl
  exact .enter hcall ((h w hT).mono fun e w' ⟨he, hb⟩ => ⟨_, he, rfl, hb⟩)

end Go.Va

/-
  ZERO VALUES: those of the types of the table are looked through by the kernel; those of made types are in order if those are.
-/
namespace Go.Va
open Go.RowKit

def selfRel (xs : Array Value) : Prop := ∀ β x, x ∈ xs → vRel β x x
def zGood (i : TypeInfo) : Prop := ∀ z, i.zero = some z → z.cells.size = i.size ∧ selfRel z.cells ∧ ∀ β, vRel β z z

theorem selfRel_cells {z : Value} (h : ∀ β, vRel β z z) : selfRel z.cells := by
  intro β x hx
  have := cells_rel (h β)
  obtain ⟨i, hi, rfl⟩ := Array.mem_iff_getElem.1 hx
  exact this.2 i hi hi
theorem vRel_agg {xs : Array Value} (h : selfRel xs) (β : Inj) : vRel β (.agg xs) (.agg xs) := .agg rfl fun i hi _ => h β _ (by simp)

theorem zGood_of {i : TypeInfo} (h : ∀ z, i.zero = some z → z.cells.size = i.size ∧ ∀ β, vRel β z z) : zGood i := fun z hz => ⟨(h z hz).1, selfRel_cells (h z hz).2, (h z hz).2⟩

/-- What holds at the beginning of a loop, and is kept by each round, holds at its end. -/
theorem opt_forIn {α σ : Type} {Inv : σ → Prop} {f : α → σ → Option (ForInStep σ)} : ∀ (l : List α), (∀ x ∈ l, ∀ s s', Inv s → f x s = some (.yield s') → Inv s') → (∀ x ∈ l, ∀ s s', Inv s → f x s = some (.done s') → Inv s') → ∀ (s r : σ), Inv s → forIn l s f = some r → Inv r
  | [], _, _, s, r, hs, h => by
    simp only [List.forIn_nil, pure, Option.some.injEq] at h
    subst h; exact hs
  | x :: l, hy, hd, s, r, hs, h => by
    rw [List.forIn_cons] at h
    cases hf : f x s with
    | none => rw [hf] at h; cases h
    | some st =>
      rw [hf] at h
      cases st with
      | done s' =>
        simp only [bind, Option.bind, pure, Option.some.injEq] at h
        subst h
        exact hd x (by simp) s s' hs hf
      | yield s' =>
        exact opt_forIn l (fun y hy' => hy y (by simp [hy'])) (fun y hy' => hd y (by simp [hy'])) s' r (hy x (by simp) s s' hs hf) h

theorem self_append {a b : Array Value} (h : selfRel a) (k : selfRel b) : selfRel (a ++ b) := fun β x hx => by
  rcases Array.mem_append.1 hx with h1 | h1
  · exact h β x h1
  · exact k β x h1

/-- What the loop over the fields keeps. -/
def SInv (s : Array Field × Nat × Nat × Nat × Nat × Bool × Bool × Option (Array Value) × String) : Prop := ∀ a, s.2.2.2.2.2.2.2.1 = some a → a.size = s.2.1 ∧ selfRel a

theorem struct_good {info : TypeId → Option TypeInfo} (hi : ∀ t i, info t = some i → zGood i) {fs : Array Field} {r : TypeInfo} (h : Made.reckonStruct info fs = some r) : zGood r := by
  unfold Made.reckonStruct at h
  simp only [← Array.forIn_toList] at h
  simp only [bind, Option.bind_eq_some_iff] at h
  obtain ⟨s, hs, h⟩ := h
  have step : ∀ (s : Array Field × Nat × Nat × Nat × Nat × Bool × Bool × Option (Array Value) × String) (i : TypeInfo), SInv s → zGood i → ∀ (o : Array Field) (n1 n2 n3 : Nat) (b1 b2 : Bool) (str : String),
      SInv (o, s.2.1 + i.size, n1, n2, n3, b1, b2, (if s.2.1 + i.size > Made.mostCells then none else s.2.2.2.2.2.2.2.1.bind fun z => i.zero.bind fun z' => pure (z ++ z'.cells)), str) := by
    intro s i hs hz o n1 n2 n3 b1 b2 str a ha
    dsimp only at ha ⊢
    split at ha
    · cases ha
    · simp only [Option.bind_eq_some_iff] at ha
      obtain ⟨z, h1, z', h2, h3⟩ := ha
      have h3 : some (z ++ z'.cells) = some a := h3
      simp only [Option.some.injEq] at h3
      subst h3
      obtain ⟨k1, k2⟩ := hs z h1
      obtain ⟨k3, k4, _⟩ := hz z' h2
      exact ⟨by rw [Array.size_append, k1, k3], self_append k2 k4⟩
  have hI : SInv s := by
    refine opt_forIn (Inv := SInv) fs.toList ?_ ?_ _ s ?_ hs
    · intro x hx s s' hsI hf
      cases hinfo : info x.type with
      | none => rw [hinfo] at hf; cases hf
      | some i =>
        rw [hinfo] at hf
        have hz := hi _ _ hinfo
        simp only [Option.bind_some] at hf
        have step2 : ∀ (o : Array Field) (n1 n2 n3 : Nat) (b1 b2 : Bool) (str : String), SInv (o, s.2.1 + i.size, n1, n2, n3, b1, b2, s.2.2.2.2.2.2.2.1.bind fun z => i.zero.bind fun z' => pure (z ++ z'.cells), str) := by
          intro o n1 n2 n3 b1 b2 str a ha
          simp only [Option.bind_eq_some_iff] at ha
          obtain ⟨z, h1, z', h2, h3⟩ := ha
          have h3 : some (z ++ z'.cells) = some a := h3
          simp only [Option.some.injEq] at h3
          subst h3
          obtain ⟨k1, k2⟩ := hsI z h1
          obtain ⟨k3, k4, _⟩ := hz z' h2
          exact ⟨by rw [Array.size_append, k1, k3], self_append k2 k4⟩
        have step0 : ∀ (o : Array Field) (n0 n1 n2 n3 : Nat) (b1 b2 : Bool) (str : String), SInv (o, n0, n1, n2, n3, b1, b2, none, str) := fun _ _ _ _ _ _ _ _ a ha => by cases ha
        repeat' split at hf
        all_goals first
          | (cases hf; done)
          | (simp only [Option.bind_eq_some_iff, pure, Option.some.injEq, ForInStep.yield.injEq] at hf
             obtain ⟨_, _, rfl⟩ := hf
             first | apply step2 | apply step0 | apply step s i hsI hz)
    · intro x hx s s' hsI hf
      exfalso
      cases hinfo : info x.type with
      | none => rw [hinfo] at hf; cases hf
      | some i =>
        rw [hinfo] at hf
        simp only [Option.bind_some] at hf
        repeat' split at hf
        all_goals first
          | (cases hf; done)
          | (simp only [Option.bind_eq_some_iff, pure, Option.some.injEq, reduceCtorEq, and_false, exists_false] at hf)
    · intro a ha
      simp only [Option.some.injEq] at ha
      subst ha
      exact ⟨rfl, fun β x hx => by simp at hx⟩
  intro z hz
  have fin : ∀ (r : TypeInfo), r.zero = s.2.2.2.2.2.2.2.1.map .agg → r.size = s.2.1 → r.zero = some z → z.cells.size = r.size ∧ selfRel z.cells ∧ ∀ β, vRel β z z := by
    intro r e1 e2 e3
    rw [e1] at e3
    simp only [Option.map_eq_some_iff] at e3
    obtain ⟨a, ha, rfl⟩ := e3
    obtain ⟨k1, k2⟩ := hI a ha
    exact ⟨by rw [e2]; exact k1, k2, vRel_agg k2⟩
  split at h
  all_goals (simp only [pure, Option.some.injEq] at h; subst h; exact fin _ rfl rfl hz)

theorem word_good (d : TypeDesc) (str : String) (z : Value) (c : Bool) (n : Nat) (h1 : z.cells.size = 1) (h2 : ∀ β, vRel β z z) : zGood (Made.word d str z c n) := by
  refine zGood_of fun z' hz => ?_
  simp only [Made.word, Option.some.injEq] at hz
  subst hz
  exact ⟨h1, h2⟩

theorem reckon_good {info : TypeId → Option TypeInfo} (hi : ∀ t i, info t = some i → zGood i) {d : TypeDesc} {r : TypeInfo} (h : Made.reckon info d = some r) : zGood r := by
  cases d <;> simp only [Made.reckon, bind, pure, Option.bind_eq_some_iff, Option.some.injEq, reduceCtorEq] at h
  case struct fs => exact struct_good hi h
  case pointer e =>
    obtain ⟨i, h1, h⟩ := h
    split at h
    · cases h
    · split at h
      · cases h
      · simp only [Option.bind_eq_some_iff, Option.some.injEq] at h
        obtain ⟨_, _, rfl⟩ := h
        exact word_good _ _ _ _ _ rfl fun β => .ptrNone
    · simp only [Option.bind_eq_some_iff, Option.some.injEq] at h
      obtain ⟨_, _, rfl⟩ := h
      exact word_good _ _ _ _ _ rfl fun β => .ptrNone
  case slice e =>
    obtain ⟨_, _, _, _, rfl⟩ := h
    exact word_good _ _ _ _ _ rfl fun β => .sliceNone 0 0
  case map k e =>
    obtain ⟨_, _, _, _, _, _, _, _, rfl⟩ := h
    exact word_good _ _ _ _ _ rfl fun β => .mapNone
  case chan dir e =>
    obtain ⟨_, _, _, _, rfl⟩ := h
    exact word_good _ _ _ _ _ rfl fun β => .chanNone
  case func ps rs v =>
    obtain ⟨_, _, rfl⟩ := h
    exact word_good _ _ _ _ _ rfl fun β => .nilFunc
  case array n e =>
    obtain ⟨i, h1, _, _, rfl⟩ := h
    have hz := hi _ _ h1
    refine zGood_of fun z hz' => ?_
    dsimp only at hz' ⊢
    split at hz'
    · cases hz'
    · split at hz'
      · rename_i h0
        cases hz'
        exact ⟨h0.symm, fun β => vRel_agg (fun β x hx => by simp at hx) β⟩
      · simp only [Option.map_eq_some_iff] at hz'
        obtain ⟨u, hu, rfl⟩ := hz'
        obtain ⟨k1, k2, _⟩ := hz u hu
        refine ⟨?_, fun β => vRel_agg (fun β x hx => ?_) β⟩
        · show ((Array.replicate n u.cells).flatten).size = n * i.size
          rw [← k1]; simp [Array.size_flatten]
        · obtain ⟨ys, hys, hx⟩ := Array.mem_flatten.1 hx
          have := (Array.mem_replicate.1 hys).2
          subst this
          exact k2 β x hx

theorem infoAt_good {T : Tables} (h : ∀ i, i ∈ T.types → zGood i) : ∀ (f : Nat) (t : TypeId) (i : TypeInfo), Made.infoAt T f t = some i → zGood i
  | 0, t, i, hi => by cases hi
  | f + 1, t, i, hi => by
    simp only [Made.infoAt] at hi
    split at hi
    · exact h i (Array.mem_of_getElem? hi)
    · simp only [Option.bind_eq_some_iff] at hi
      obtain ⟨d, _, hd⟩ := hi
      exact reckon_good (infoAt_good h f) hd

def zerosB (P : Program) : Bool := P.types.toList.all fun i => match i.zero with
  | some z => Nat.beq z.cells.size i.size && plainB 100 z
  | none => true

theorem zeroOk_of {P : Program} (h : zerosB P = true) : ZeroOk P := by
  have hg : ∀ i, i ∈ P.types → zGood i := fun i hi => zGood_of fun z hz => by
    have h1 := List.all_eq_true.1 h i (by simpa using hi)
    rw [hz] at h1
    simp only [Bool.and_eq_true] at h1
    exact ⟨Nat.eq_of_beq_eq_true h1.1, fun β => plain_rel 100 z h1.2⟩
  intro t i z ht hz
  have : zGood i := by
    unfold Tables.info? at ht
    split at ht
    · exact hg i (Array.mem_of_getElem? ht)
    · exact infoAt_good hg _ _ _ ht
  exact ⟨(this z hz).1, (this z hz).2.2⟩

end Go.Va

/-
  A ROW's POSTCONDITION out of 'of what was there nothing has turned'.
-/
namespace Go.Va
open Go.RowKit Go.ChangeShapes Go.WideShapes

variable {H : Type} {enc : TypeId × Value → H} {P : Program}

theorem post_below {f : Func} {s : ChangeSpec} {apart fresh handsOn : Bool} {W W' : World} {args : Array Value} {v : Value} {ds gs : List (DataW H)} {before pa pv : List MemPlace}
    (hW : DataW.Whole enc P f.params.toList s.vars apart W args.toList ds gs before)
    (hres : ∀ (b : Nat) (sp : Nat → Bool) (hd : Bool), DataW.TrodAll enc P W' b sp hd f.resultTypes.toList (v.resultList f.resultTypes.size) (s.fn H (ds ++ gs)).results [])
    (hargs : ∀ sp : Nat → Bool, (∀ p ∈ before, sp p.block = true) → DataW.TrodAll enc P W' 0 sp true f.params.toList args.toList (s.fn H (ds ++ gs)).args pa)
    (hvars : ∀ sp : Nat → Bool, (∀ p ∈ before, sp p.block = true) → DataW.TrodVars enc P W' sp s.vars (s.fn H (ds ++ gs)).vars pv)
    (hb : Below W.heap.size W W') : s.post enc P f apart fresh handsOn false W args v W' := by
  have hold : ∀ p ∈ before, (fun b => decide (b < W.heap.size)) p.block = true := fun p hp => by simpa using hW.lt p hp
  exact ⟨ds, gs, before, [], pa, pv, hW, hres _ _ _, hargs _ hold, hvars _ hold, hb.frame _, fun h => by cases h⟩

end Go.Va
