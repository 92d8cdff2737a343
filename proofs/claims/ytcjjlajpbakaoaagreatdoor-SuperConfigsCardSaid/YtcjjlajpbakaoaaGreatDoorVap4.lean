/-
  An executable interpreter over the program's form and what it stands for, part 4.
-/
import Derived.Test.YtcjjlajpbakaoaaGreatDoorVap3
import Derived.Laws.Externs
import Derived.Lib.MakeNoZero
import Derived.Lib.IndexLaws

/-
  SIMULATION: blind operations may run later; the plans of a region in each mode.
-/
namespace Go.Va
variable {P : Program} {E : Env} {rec : Rec} {ops : Array Oper} {lim : Nat}

theorem op1_congr {q : Bool} {o : Oper} {t t' : List Value} (h : ∀ d ∈ o.looksAt ops, t'[d]? = t[d]?) (σ : AS) : op1 P E rec ops q lim o t' σ = op1 P E rec ops q lim o t σ := by
  have hop : ∀ x ∈ o.op.operands, ev t' x = ev t x := by
    intro x hx
    cases x with
    | tmp i =>
      simp only [ev]
      have := h i (by
        unfold Oper.looksAt
        exact List.mem_append_left _ (List.mem_filterMap.2 ⟨.tmp i, by simpa using hx, rfl⟩))
      rw [List.getD_eq_getElem?_getD, List.getD_eq_getElem?_getD, this]
    | _ => rfl
  have hw : Region.wanted o (yieldedL ops t') = Region.wanted o (yieldedL ops t) := by
    unfold Region.wanted
    cases hg : o.guard with
    | none => rfl
    | some gb =>
      obtain ⟨g, b⟩ := gb
      have : yieldedL ops t' g = yieldedL ops t g := by
        unfold yieldedL
        cases hd : (ops[g]?).bind (·.dst) with
        | none => rfl
        | some d =>
          have hl := h d (by
            unfold Oper.looksAt
            refine List.mem_append_right _ ?_
            rw [hg]
            simp [hd])
          simp only [Option.bind_some]
          rw [hl]
      simp only [this]
  unfold op1
  rw [hw, operA_congr hop]

theorem putT_look {t : List Value} {dst : Option Tmp} {v : Value} {d : Tmp} (h : dst ≠ some d) : (putT t dst v)[d]? = t[d]? := by
  cases dst with
  | none => rfl
  | some e =>
    simp only [putT]
    rw [List.getElem?_set_ne]
    intro he; exact h (by rw [he])

theorem putT_comm {t : List Value} {a b : Option Tmp} {u v : Value} (h : ∀ d, a = some d → b ≠ some d) : putT (putT t a u) b v = putT (putT t b v) a u := by
  cases a with
  | none => rfl
  | some d =>
    cases b with
    | none => rfl
    | some e =>
      simp only [putT]
      rw [List.set_comm]
      intro he; exact h d rfl (by rw [he])

theorem opsI_swap {x y : Nat × Bool} {p o : Oper} (hp : ops[x.1]? = some p) (ho : ops[y.1]? = some o) (hb : blindO p = true) (hap : p.apart ops o = true) {l : List (Nat × Bool)} {t : List Value} {σ : AS} {R : List Value × AS}
    (h : opsI P E rec ops lim (x :: y :: l) t σ = some R) : opsI P E rec ops lim (y :: x :: l) t σ = some R := by
  obtain ⟨h1, h3, h2⟩ := Oper.apart_spec hap
  rw [opsI_cons, hp] at h
  dsimp only at h
  cases e1 : op1 P E rec ops x.2 lim p t σ with
  | none => rw [e1] at h; cases h
  | some r =>
    obtain ⟨v, σ1⟩ := r
    obtain ⟨rfl, hv⟩ := blind_op1 hb e1
    rw [e1] at h
    have h : opsI P E rec ops lim (y :: l) (putT t p.dst v) σ1 = some R := h
    rw [opsI_cons, ho] at h
    dsimp only at h
    have hl1 : ∀ d ∈ o.looksAt ops, (putT t p.dst v)[d]? = t[d]? := fun d hd => putT_look fun he => h1 d he hd
    rw [op1_congr hl1] at h
    cases e2 : op1 P E rec ops y.2 lim o t σ1 with
    | none => rw [e2] at h; cases h
    | some r2 =>
      obtain ⟨u, σ2⟩ := r2
      rw [e2] at h
      have h : opsI P E rec ops lim l (putT (putT t p.dst v) o.dst u) σ2 = some R := h
      have hl2 : ∀ d ∈ p.looksAt ops, (putT t o.dst u)[d]? = t[d]? := fun d hd => putT_look fun he => h2 d he hd
      rw [opsI_cons, ho]
      dsimp only
      rw [e2]
      show opsI P E rec ops lim (x :: l) (putT t o.dst u) σ2 = some R
      rw [opsI_cons, hp]
      dsimp only
      rw [op1_congr hl2, hv x.2 lim σ2]
      show opsI P E rec ops lim l (putT (putT t o.dst u) p.dst v) σ2 = some R
      rw [← putT_comm h3]
      exact h

theorem opsI_swap' {x y : Nat × Bool} {p o : Oper} (hp : ops[x.1]? = some p) (ho : ops[y.1]? = some o) (hb : blindO o = true) (hap : p.apart ops o = true) {l : List (Nat × Bool)} {t : List Value} {σ : AS} {R : List Value × AS}
    (h : opsI P E rec ops lim (x :: y :: l) t σ = some R) : opsI P E rec ops lim (y :: x :: l) t σ = some R := by
  obtain ⟨h1, h3, h2⟩ := Oper.apart_spec hap
  rw [opsI_cons, hp] at h
  dsimp only at h
  cases e1 : op1 P E rec ops x.2 lim p t σ with
  | none => rw [e1] at h; cases h
  | some r =>
    obtain ⟨v, σ1⟩ := r
    rw [e1] at h
    have h : opsI P E rec ops lim (y :: l) (putT t p.dst v) σ1 = some R := h
    rw [opsI_cons, ho] at h
    dsimp only at h
    have hl1 : ∀ d ∈ o.looksAt ops, (putT t p.dst v)[d]? = t[d]? := fun d hd => putT_look fun he => h1 d he hd
    rw [op1_congr hl1] at h
    cases e2 : op1 P E rec ops y.2 lim o t σ1 with
    | none => rw [e2] at h; cases h
    | some r2 =>
      obtain ⟨u, σ2⟩ := r2
      obtain ⟨rfl, hv⟩ := blind_op1 hb e2
      rw [e2] at h
      have h : opsI P E rec ops lim l (putT (putT t p.dst v) o.dst u) σ2 = some R := h
      have hl2 : ∀ d ∈ p.looksAt ops, (putT t o.dst u)[d]? = t[d]? := fun d hd => putT_look fun he => h2 d he hd
      rw [opsI_cons, ho]
      dsimp only
      rw [hv y.2 lim σ]
      show opsI P E rec ops lim (x :: l) (putT t o.dst u) σ = some R
      rw [opsI_cons, hp]
      dsimp only
      rw [op1_congr hl2, e1]
      show opsI P E rec ops lim l (putT (putT t o.dst u) p.dst v) σ2 = some R
      rw [← putT_comm h3]
      exact h

def passB (ops : Array Oper) (i j : Nat) : Bool := match ops[i]?, ops[j]? with
  | some p, some o => (blindO p || blindO o) && p.apart ops o
  | _, _ => false

/-- The first runs k places later. -/
def sinkL (ops : Array Oper) (x : Nat × Bool) : Nat → List (Nat × Bool) → Option (List (Nat × Bool))
  | 0, l => some (x :: l)
  | k + 1, y :: l => bif passB ops x.1 y.1 then (sinkL ops x k l).map (y :: ·) else none
  | _ + 1, [] => none

def moveAt (ops : Array Oper) : List (Nat × Bool) → Nat → Nat → Option (List (Nat × Bool))
  | x :: l, 0, k => sinkL ops x k l
  | x :: l, i + 1, k => (moveAt ops l i k).map (x :: ·)
  | [], _, _ => none

def movesL (ops : Array Oper) : List (Nat × Nat) → List (Nat × Bool) → Option (List (Nat × Bool))
  | [], l => some l
  | m :: ms, l => (moveAt ops l m.1 m.2).bind (movesL ops ms)

theorem opsI_head {x : Nat × Bool} {l l' : List (Nat × Bool)} (h : ∀ t σ R, opsI P E rec ops lim l t σ = some R → opsI P E rec ops lim l' t σ = some R) : ∀ t σ R, opsI P E rec ops lim (x :: l) t σ = some R → opsI P E rec ops lim (x :: l') t σ = some R := by
  intro t σ R hr
  rw [opsI_cons] at hr ⊢
  cases ho : ops[x.1]? with
  | none => rw [ho] at hr; cases hr
  | some o =>
    rw [ho] at hr
    dsimp only at hr ⊢
    rcases e : op1 P E rec ops x.2 lim o t σ with _ | ⟨v, σ1⟩
    · rw [e] at hr; cases hr
    · rw [e] at hr
      exact h _ _ _ hr

theorem sinkL_run {x : Nat × Bool} : ∀ (k : Nat) (l l' : List (Nat × Bool)), sinkL ops x k l = some l' → ∀ t σ R, opsI P E rec ops lim (x :: l) t σ = some R → opsI P E rec ops lim l' t σ = some R
  | 0, l, l', h => by simp only [sinkL, Option.some.injEq] at h; subst h; exact fun _ _ _ h => h
  | k + 1, [], l', h => by simp only [sinkL] at h; cases h
  | k + 1, y :: l, l', h => by
    simp only [sinkL] at h
    cases hp : passB ops x.1 y.1 with
    | false => rw [hp] at h; cases h
    | true =>
      rw [hp, cond_true] at h
      cases hs : sinkL ops x k l with
      | none => rw [hs] at h; cases h
      | some m =>
        rw [hs] at h
        simp only [Option.map_some, Option.some.injEq] at h
        subst h
        intro t σ R hr
        have : opsI P E rec ops lim (y :: x :: l) t σ = some R := by
          unfold passB at hp
          split at hp
          · rename_i p o h1 h2
            simp only [Bool.and_eq_true, Bool.or_eq_true] at hp
            rcases hp.1 with hb | hb
            · exact opsI_swap h1 h2 hb hp.2 hr
            · exact opsI_swap' h1 h2 hb hp.2 hr
          · cases hp
        exact opsI_head (sinkL_run k l m hs) t σ R this

theorem moveAt_run : ∀ (l : List (Nat × Bool)) (i k : Nat) (l' : List (Nat × Bool)), moveAt ops l i k = some l' → ∀ t σ R, opsI P E rec ops lim l t σ = some R → opsI P E rec ops lim l' t σ = some R
  | [], _, _, _, h => by cases ‹Nat› <;> cases h
  | x :: l, 0, k, l', h => sinkL_run k l l' h
  | x :: l, i + 1, k, l', h => by
    simp only [moveAt] at h
    cases hm : moveAt ops l i k with
    | none => rw [hm] at h; cases h
    | some m =>
      rw [hm] at h
      simp only [Option.map_some, Option.some.injEq] at h
      subst h
      exact opsI_head (moveAt_run l i k m hm)

theorem movesL_run : ∀ (ms : List (Nat × Nat)) (l l' : List (Nat × Bool)), movesL ops ms l = some l' → ∀ t σ R, opsI P E rec ops lim l t σ = some R → opsI P E rec ops lim l' t σ = some R
  | [], l, l', h => by simp only [movesL, Option.some.injEq] at h; subst h; exact fun _ _ _ h => h
  | m :: ms, l, l', h => by
    simp only [movesL] at h
    cases hm : moveAt ops l m.1 m.2 with
    | none => rw [hm] at h; cases h
    | some l1 =>
      rw [hm] at h
      exact fun t σ R hr => movesL_run ms l1 l' h t σ R (moveAt_run l m.1 m.2 l1 hm t σ R hr)

/-- A region that draws: its plan. -/
def planAll (ops : Array Oper) (pl : Plan) : Bool := planB .any ops pl.l pl.gs

end Go.Va

/-
  SIMULATION: the results of a function; the deferred calls that are taken; what is asked of the code.
-/
namespace Go.Va
open Go.RowKit
variable {P : Program} {K : FuncId → Code → Prop} {W0 : World} {N0 G : Nat} {E : Env} {rec : Rec}

/-! ## Computations that only read -/

def RO (P : Program) {α : Type} (s : Sem α) : Prop := ∀ w v w', s.run P w = .ok v w' → w' = w
theorem RO.pure {α : Type} (v : α) : RO P (Pure.pure v : Sem α) := fun w u w' h => by cases h; rfl
theorem RO.halt {α : Type} (x : Halt) : RO P (.halt x : Sem α) := fun w u w' h => by cases h
theorem RO.bind {α γ : Type} {s : Sem α} {k : α → Sem γ} (h : RO P s) (hk : ∀ v, RO P (k v)) : RO P (s >>= k) := fun w u w' hr => by
  rw [run_bind'] at hr
  cases hs : s.run P w with
  | ok v w1 => rw [hs] at hr; rw [hk v w1 u w' hr, h w v w1 hs]
  | halt x w1 => rw [hs] at hr; cases hr
theorem RO.load (m : Mode) (a : Addr) {α : Type} {k : Value → Sem α} (hk : ∀ v, RO P (k v)) : RO P (.load m a k) := fun w u w' hr => by
  simp only [Sem.run] at hr
  split at hr
  · exact hk _ w u w' hr
  · split at hr <;> first | exact hk _ w u w' hr | cases hr
theorem RO.program : RO P Go.program := fun w u w' h => by cases h; rfl
theorem RO.underlying (t : TypeId) : RO P (Go.underlying t) := by
  have : Go.underlying t = Go.program >>= fun p => match p.underlying t with | some d => Pure.pure d | none => stuck "no such type" := rfl
  rw [this]
  refine RO.program.bind fun p => ?_
  split
  · exact .pure _
  · exact .halt _
theorem RO.ite {α : Type} {c : Prop} [Decidable c] {s t : Sem α} (h : RO P s) (h' : RO P t) : RO P (if c then s else t) := by
  split
  · exact h
  · exact h'

theorem RO.loadCellsFrom (a : Addr) : ∀ (n i : Nat) (acc : Array Value), RO P (Go.loadCellsFrom a i n acc)
  | 0, _, _ => .pure _
  | n + 1, i, acc => RO.load _ _ fun v => RO.loadCellsFrom a n (i + 1) (acc.push v)

theorem RO.typeInfo (t : TypeId) : RO P (Go.typeInfo t) := by
  unfold Go.typeInfo
  refine RO.program.bind fun p => ?_
  split
  · exact .pure _
  · exact .halt _
theorem RO.sizeOf (t : TypeId) : RO P (Go.sizeOf t) := by
  unfold Go.sizeOf
  exact (RO.typeInfo t).bind fun i => .pure _
theorem RO.isAgg (t : TypeId) : RO P (Go.isAgg t) := by
  unfold Go.isAgg
  refine (RO.underlying t).bind fun d => ?_
  cases d <;> exact .pure _
theorem RO.loadVar (t : TypeId) (a : Addr) : RO P (Go.loadVar t a) := by
  unfold Go.loadVar
  refine (RO.isAgg t).bind fun b => ?_
  cases b with
  | true => exact (RO.sizeOf t).bind fun d => (RO.loadCellsFrom a d 0 #[]).bind fun c => .pure _
  | false => exact RO.load _ _ fun v => .pure _

theorem RO.mapM {α γ : Type} {f : α → Sem γ} (h : ∀ x, RO P (f x)) : ∀ l : List α, RO P (l.mapM f)
  | [] => by rw [List.mapM_nil]; exact .pure _
  | x :: l => by rw [List.mapM_cons]; exact (h x).bind fun v => (RO.mapM h l).bind fun vs => .pure _

def resOf (t : Array Value) : ResultVar → Sem Value
  | .tmp i => Pure.pure (t.getD i undef)
  | .cell a ty => do loadVar ty (← asAddr (t.getD a undef))

def packed (vs : Array Value) : Value := if h : vs.size = 1 then vs[0] else .tuple vs

theorem results_eq (fn : Func) (t : Array Value) : results fn t = (fn.results.toList.mapM (resOf t)) >>= fun l => Pure.pure (packed l.toArray) := by
  unfold results
  rw [Array.mapM_eq_mapM_toList]
  have e : (fun x => match x with
      | ResultVar.tmp i => (Pure.pure (t.getD i undef) : Sem Value)
      | .cell a ty => do loadVar ty (← asAddr (t.getD a undef))) = resOf t := by funext x; cases x <;> rfl
  simp only [map_eq_pure_bind, bind_assoc, pure_bind]
  rfl

theorem RO.asAddr (v : Value) : RO P (Go.asAddr v) := by
  intro w u w' h
  unfold Go.asAddr at h
  split at h <;> first | (cases h; done) | (cases h; rfl)

theorem RO.results (fn : Func) (t : Array Value) : RO P (Go.results fn t) := by
  rw [results_eq]
  refine (RO.mapM (fun x => ?_) _).bind fun l => .pure _
  cases x with
  | tmp i => exact .pure _
  | cell a ty => exact (RO.asAddr _).bind fun a => RO.loadVar ty a

theorem arr_get {β : Inj} {t t' : Array Value} (ht : arrRel β t t') (i : Nat) : vRel β (t.getD i undef) (t'.getD i undef) := by
  rw [Array.getD_eq_getD_getElem?, Array.getD_eq_getD_getElem?]
  rcases (lRel.look (arrRel_iff.1 ht) i : lkRel β t.toList[i]? t'[i]?) with ⟨h1, h2⟩ | ⟨v, v', h1, h2, h3⟩
  · rw [Array.getElem?_toList] at h1; rw [h1, h2]; exact rel_undef
  · rw [Array.getElem?_toList] at h1; rw [h1, h2]; exact h3

theorem sim_resMap {β : Inj} {t t' : Array Value} (ht : arrRel β t t') : ∀ l : List ResultVar, Sim P K W0 N0 β (l.mapM (resOf t)) (l.mapM (resOf t')) (fun β' v v' => β' = β ∧ lRel β v v')
  | [] => by rw [List.mapM_nil]; exact .ret ⟨rfl, trivial⟩
  | x :: l => by
    have hx : Sim P K W0 N0 β (resOf t x) (resOf t' x) (fun β' v v' => β' = β ∧ vRel β v v') := by
      cases x with
      | tmp i => exact .ret ⟨rfl, arr_get ht i⟩
      | cell a ty =>
        have hv := arr_get ht a
        show Sim P K W0 N0 β (Go.asAddr (t.getD a undef) >>= fun a => loadVar ty a) (Go.asAddr (t'.getD a undef) >>= fun a => loadVar ty a) _
        generalize t.getD a undef = p at hv
        generalize t'.getD a undef = p' at hv
        cases hv with
        | ptr h => exact sim_loadVar h
        | ptrNone => exact Never.sim (Never.bind (s := Go.asAddr (.pointer none)) fun _ _ => rfl)
        | _ => exact Never.sim (Never.bind fun _ _ => rfl)
    rw [List.mapM_cons, List.mapM_cons]
    refine Sim.bind0 hx fun v v' hv => ?_
    refine Sim.bind0 (sim_resMap ht l) fun vs vs' hvs => ?_
    exact .ret ⟨rfl, hv, hvs⟩

theorem packed_rel {β : Inj} {vs vs' : Array Value} (h : arrRel β vs vs') : vRel β (packed vs) (packed vs') := by
  unfold packed
  by_cases h1 : vs.size = 1
  · rw [dif_pos h1, dif_pos (h.1 ▸ h1)]
    exact h.2 0 _ _
  · rw [dif_neg h1, dif_neg (h.1 ▸ h1)]
    exact .tuple h.1 h.2

theorem sim_results {β : Inj} {fn : Func} {t t' : Array Value} (ht : arrRel β t t') : Sim P K W0 N0 β (results fn t) (results fn t') (fun β' v v' => β' = β ∧ vRel β v v') := by
  rw [results_eq, results_eq]
  refine Sim.bind0 (sim_resMap ht _) fun vs vs' hvs => ?_
  exact .ret ⟨rfl, packed_rel (arrRel_iff.2 hvs)⟩

/-! ## What is asked of the code -/

def codeB (G : Nat) (E : Env) (fn : FuncId) : Code → Bool
  | .region id ops draw => ops.toList.all (opB G) && (bif draw then (match E.draws fn id with | some pl => planAll ops pl | none => true) else true)
  | .seq a b => codeB G E fn a && codeB G E fn b
  | .cond c a b => okO G c && codeB G E fn a && codeB G E fn b
  | .block _ a => codeB G E fn a
  | .loop a => codeB G E fn a
  | .scope a => codeB G E fn a
  | .rangeFunc f _ a b => okO G f && codeB G E fn a && codeB G E fn b
  | _ => true

/-- The code of a function is in order. -/
def CodeK (G : Nat) (E : Env) (fn : FuncId) (c : Code) : Prop := codeB G E fn c = true

theorem codeB_find {fn : FuncId} {l : Nat} : ∀ (c : Code) {rest : Code}, codeB G E fn c = true → findLabel c l = some rest → codeB G E fn rest = true := by
  intro c
  induction c with
  | seq a b iha ihb =>
    intro rest h hf
    simp only [codeB, Bool.and_eq_true] at h
    simp only [findLabel] at hf
    split at hf
    · rename_i r hr
      simp only [Option.some.injEq] at hf
      subst hf
      simp only [codeB, Bool.and_eq_true]
      exact ⟨iha h.1 hr, h.2⟩
    · exact ihb h.2 hf
  | label l' =>
    intro rest h hf
    simp only [findLabel] at hf
    split at hf
    · simp only [Option.some.injEq] at hf; subst hf; rfl
    · cases hf
  | _ => intro rest h hf; simp only [findLabel] at hf; cases hf

/-- The functions that are looked at are in order. -/
def FnOk (P : Program) (G : Nat) (E : Env) : Prop := ∀ f fn c, E.ok f = true → P.funcs[f]? = some fn → fn.body = some c → codeB G E f c = true ∧ (fn.name == "runtime.NumGoroutine") = false

/-! ## The deferred calls -/

theorem next_take {lim i : Nat} {σ σ1 : AS} {q : List Deferred} (h1 : runA P lim (Instr.takeDeferred i) σ = some (q, σ1)) : σ1.next = σ.next := by
  have h2 := h1
  have : Instr.takeDeferred i = (.getObj i fun o => match o with
    | .deferred (some ds) => .setObj i (.deferred none) (.pure ds)
    | _ => stuck "range over a function: the deferred calls have been taken") := by
      unfold Instr.takeDeferred
      show Sem.getObj i _ = _
      congr 1
  rw [this] at h2
  simp only [runA] at h2
  split at h2
  · rename_i o hg
    cases o <;> first | cases h2 | skip
    rename_i q
    cases q with
    | none => cases h2
    | some q =>
      simp only [runA] at h2
      rw [hg] at h2
      simp only [plainObj, Bool.and_true] at h2
      cases hb : Nat.ble lim i with
      | false => rw [hb] at h2; cases h2
      | true =>
        rw [hb] at h2
        simp only [cond_true, Option.some.injEq, Prod.mk.injEq] at h2
        rw [← h2.2]; simp
  · cases h2

theorem kept_take {lim : Nat} : ∀ (ds : List Nat) {σ σ' : AS}, takeA P lim ds σ = some σ' → σ.Wf → Kept lim σ σ' ∧ σ'.next = σ.next
  | [], σ, σ', h, _ => by simp only [takeA, Option.some.injEq] at h; rw [h]; exact ⟨.refl _ _, rfl⟩
  | d :: ds, σ, σ', h, hw => by
    simp only [takeA] at h
    split at h
    · rename_i s1 hs1
      have k1 := kept_runA hs1 hw
      obtain ⟨k2, h2⟩ := kept_take ds h (k1.wf hw)
      exact ⟨k1.trans k2, by rw [h2, next_take hs1]⟩
    · cases h

theorem takes {lim : Nat} {cs : List Frame} : ∀ (ds : List Nat) (dr : List Deferred) (σ σ' τ : AS) (β : Inj) (w : World) (fr : Frame), takeA P lim ds σ = some σ' → dRel β ds dr → σ.Wf → σ.Like τ → R K W0 N0 β τ w → fr.mode = .returning → fr.defers = dr →
    ∃ w' τ', σ'.Led τ τ' ∧ R K W0 N0 β τ' w' ∧ Kept lim σ σ' ∧ σ'.next = σ.next ∧ Steps P (lone fr cs w) (lone { fr with defers := [] } cs w')
  | [], [], σ, σ', τ, β, w, fr, h, _, hw, hl, hR, hm, hd => by
    simp only [takeA, Option.some.injEq] at h
    subst h
    refine ⟨w, τ, .refl hl, hR, .refl _ _, rfl, ?_⟩
    have : fr = { fr with defers := [] } := by rw [← hd]
    rw [← this]
    exact .refl _ _
  | i :: ds, x :: dr, σ, σ', τ, β, w, fr, h, hdr, hw, hl, hR, hm, hd => by
    simp only [takeA] at h
    split at h
    case h_2 => cases h
    rename_i σ1 h1
    obtain ⟨⟨e, a, he, h0, rfl⟩, hdr⟩ := hdr
    have k1 := kept_runA h1 hw
    have hn : σ1.next = σ.next := next_take h1
    obtain ⟨v', w1, β1, τ1, er, x1, l1, R1, rfl, rfl⟩ := (sim_takeDeferred (P := P) (K := K) (W0 := W0) (N0 := N0) he).at hw hl hR h1 (fun j h2 h3 => by omega)
    obtain ⟨w2, τ2, l2, R2, k2, hn2, s2⟩ := takes ds dr σ1 σ' τ1 β1 w1 { fr with defers := dr } h hdr (k1.wf hw) l1.like R1 hm rfl
    exact ⟨w2, τ2, l1.trans l2 k2.next, R2, k1.trans k2, by omega, .head (st_mark hm hd er) s2⟩
  | [], _ :: _, _, _, _, _, _, _, _, h, _, _, _, _, _ => h.elim
  | _ :: _, [], _, _, _, _, _, _, _, h, _, _, _, _, _ => h.elim

end Go.Va

/-
  SIMULATION: code.
-/
namespace Go.Va
open Go.RowKit
variable {P : Program} {W0 : World} {N0 G : Nat} {E : Env} {rec : Rec}

/-- Where the machine is led by an exit. -/
def Lead : Ex → List Item → List Item → Prop
  | .normal, k, k' => k' = k
  | .ret, _, k' => ∃ pre, k' = .code .ret :: pre
  | .exit id, k, k' => ∃ pre, k' = .code (.exit id) :: pre ∧ exitTo id pre = exitTo id k
  | .goto l, k, k' => ∃ pre, k' = .code (.goto l) :: pre ∧ gotoIn l pre = gotoIn l k

/-- Code comes to its end. -/
def CodePost (P : Program) (G : Nat) (E : Env) (W0 : World) (N0 : Nat) (β : Inj) (σ σ' τ : AS) (w : World) (tr : Array Value) (dr : List Deferred) (b : Frame) (cs : List Frame) (start k : List Item) (e : Ex) (t1 : List Value) (ds1 : List Nat) : Prop :=
  ∃ w' β' τ' tr' dr' k', Ext β β' σ σ' ∧ σ'.Led τ τ' ∧ R (CodeK G E) W0 N0 β' τ' w' ∧ lRel β' t1 tr'.toList ∧ dRel β' ds1 dr' ∧ Lead e k k' ∧ Steps P (lone (Fr b tr dr start) cs w) (lone (Fr b tr' dr' k') cs w')

section
variable (P W0 N0 G E)
def CodeOk (rec : Rec) : Prop := ∀ lim x c t ds σ o σ', rec lim (.code x c t ds) σ = some (o, σ') → codeB G E x.fn c = true → ∀ β τ w (tr : Array Value) dr (b : Frame), σ.Wf → σ.Like τ → R (CodeK G E) W0 N0 β τ w → Fresh β σ σ' → GlobOk G β →
  lRel β t tr.toList → dRel β ds dr → b.fn = x.fn → rdRel β x.round b.roundOf → ∀ (it : Item), (it = .code c ∨ ∃ body, c = .loop body ∧ it = .inLoop body) → ∀ k cs,
  ∃ e t1 ds1, o = .done e t1 ds1 ∧ CodePost P G E W0 N0 β σ σ' τ w tr dr b cs (it :: k) k e t1 ds1
def ScopeOk (rec : Rec) : Prop := ∀ lim x body c t ds σ o σ', rec lim (.scope x body c t ds) σ = some (o, σ') → codeB G E x.fn body = true → codeB G E x.fn c = true → ∀ β τ w (tr : Array Value) dr (b : Frame), σ.Wf → σ.Like τ → R (CodeK G E) W0 N0 β τ w → Fresh β σ σ' → GlobOk G β →
  lRel β t tr.toList → dRel β ds dr → b.fn = x.fn → rdRel β x.round b.roundOf → ∀ k cs,
  ∃ e t1 ds1, o = .done e t1 ds1 ∧ CodePost P G E W0 N0 β σ σ' τ w tr dr b cs (.code c :: .inScope body :: k) k e t1 ds1
end

theorem CodePost.head {β : Inj} {σ σ' τ : AS} {w : World} {tr : Array Value} {dr : List Deferred} {b : Frame} {cs : List Frame} {start start' k : List Item} {e : Ex} {t1 : List Value} {ds1 : List Nat} (h : CodePost P G E W0 N0 β σ σ' τ w tr dr b cs start' k e t1 ds1)
    (s : Steps P (lone (Fr b tr dr start) cs w) (lone (Fr b tr dr start') cs w)) : CodePost P G E W0 N0 β σ σ' τ w tr dr b cs start k e t1 ds1 := by
  obtain ⟨w', β', τ', tr', dr', k', a1, a2, a3, a4, a5, a6, a7⟩ := h
  exact ⟨w', β', τ', tr', dr', k', a1, a2, a3, a4, a5, a6, s.trans a7⟩

theorem CodePost.tail {β β1 : Inj} {σ σ1 σ' τ τ1 : AS} {w w1 : World} {tr tr1 : Array Value} {dr dr1 : List Deferred} {b : Frame} {cs : List Frame} {start start' k : List Item} {e : Ex} {t1 : List Value} {ds1 : List Nat}
    (h : CodePost P G E W0 N0 β1 σ1 σ' τ1 w1 tr1 dr1 b cs start' k e t1 ds1) (x : Ext β β1 σ σ1) (l : σ1.Led τ τ1) (h1 : σ.next ≤ σ1.next) (h2 : σ1.next ≤ σ'.next)
    (s : Steps P (lone (Fr b tr dr start) cs w) (lone (Fr b tr1 dr1 start') cs w1)) : CodePost P G E W0 N0 β σ σ' τ w tr dr b cs start k e t1 ds1 := by
  obtain ⟨w', β', τ', tr', dr', k', a1, a2, a3, a4, a5, a6, a7⟩ := h
  exact ⟨w', β', τ', tr', dr', k', x.trans a1 h1 h2, l.trans a2 h2, a3, a4, a5, a6, s.trans a7⟩

/-- The end is at hand. -/
theorem CodePost.now {β : Inj} {σ τ : AS} {w : World} {tr : Array Value} {dr : List Deferred} {b : Frame} {cs : List Frame} {start k k' : List Item} {e : Ex} {t1 : List Value} {ds1 : List Nat} (hl : σ.Like τ) (hR : R (CodeK G E) W0 N0 β τ w)
    (ht : lRel β t1 tr.toList) (hd : dRel β ds1 dr) (hk : Lead e k k') (s : Steps P (lone (Fr b tr dr start) cs w) (lone (Fr b tr dr k') cs w)) : CodePost P G E W0 N0 β σ σ τ w tr dr b cs start k e t1 ds1 :=
  ⟨w, β, τ, tr, dr, k', .refl _ _, .refl hl, hR, ht, hd, hk, s⟩

/-- An end at 'k1' is led on to one at 'k'. -/
theorem CodePost.last {β : Inj} {σ σ' τ : AS} {w : World} {tr : Array Value} {dr : List Deferred} {b : Frame} {cs : List Frame} {start k k1 : List Item} {e e' : Ex} {t1 : List Value} {ds1 : List Nat} (h : CodePost P G E W0 N0 β σ σ' τ w tr dr b cs start k1 e t1 ds1)
    (s : ∀ (tr : Array Value) (dr : List Deferred) (w : World) k', Lead e k1 k' → ∃ k'', Lead e' k k'' ∧ Steps P (lone (Fr b tr dr k') cs w) (lone (Fr b tr dr k'') cs w)) : CodePost P G E W0 N0 β σ σ' τ w tr dr b cs start k e' t1 ds1 := by
  obtain ⟨w', β', τ', tr', dr', k', a1, a2, a3, a4, a5, a6, a7⟩ := h
  obtain ⟨k'', b1, b2⟩ := s tr' dr' w' k' a6
  exact ⟨w', β', τ', tr', dr', k'', a1, a2, a3, a4, a5, b1, a7.trans b2⟩

/-- An item that no exit looks at. -/
theorem Lead.drop {e : Ex} {it : Item} {k k' : List Item} (h1 : ∀ id, exitTo id (it :: k) = exitTo id k) (h2 : ∀ l, gotoIn l (it :: k) = gotoIn l k) (hn : e ≠ .normal) (h : Lead e (it :: k) k') : Lead e k k' := by
  cases e with
  | normal => exact absurd rfl hn
  | ret => exact h
  | exit id => obtain ⟨pre, h3, h4⟩ := h; exact ⟨pre, h3, h4.trans (h1 id)⟩
  | goto l => obtain ⟨pre, h3, h4⟩ := h; exact ⟨pre, h3, h4.trans (h2 l)⟩

theorem code_step (H : Given P (CodeK G E) W0 N0 G E rec) (hc : CodeOk P W0 N0 G E rec) (hs : ScopeOk P W0 N0 G E rec) : CodeOk P W0 N0 G E (fun lim k σ => stepA P E rec lim k σ) := by
  intro lim x c t ds σ o σ' hr hK β τ w tr dr b hw hl hR hf hG ht hd hb hrd it hit k cs
  cases c with
  | skip =>
    rcases hit with rfl | ⟨_, h, _⟩
    · simp only [stepA, Option.some.injEq, Prod.mk.injEq] at hr
      obtain ⟨rfl, rfl⟩ := hr
      exact ⟨_, _, _, rfl, .now hl hR ht hd rfl (.one st_skip)⟩
    · cases h
  | label l =>
    rcases hit with rfl | ⟨_, h, _⟩
    · simp only [stepA, Option.some.injEq, Prod.mk.injEq] at hr
      obtain ⟨rfl, rfl⟩ := hr
      exact ⟨_, _, _, rfl, .now hl hR ht hd rfl (.one st_label)⟩
    · cases h
  | exit id =>
    rcases hit with rfl | ⟨_, h, _⟩
    · simp only [stepA, Option.some.injEq, Prod.mk.injEq] at hr
      obtain ⟨rfl, rfl⟩ := hr
      exact ⟨_, _, _, rfl, .now hl hR ht hd ⟨k, rfl, rfl⟩ (.refl _ _)⟩
    · cases h
  | goto l =>
    rcases hit with rfl | ⟨_, h, _⟩
    · simp only [stepA, Option.some.injEq, Prod.mk.injEq] at hr
      obtain ⟨rfl, rfl⟩ := hr
      exact ⟨_, _, _, rfl, .now hl hR ht hd ⟨k, rfl, rfl⟩ (.refl _ _)⟩
    · cases h
  | ret =>
    rcases hit with rfl | ⟨_, h, _⟩
    · simp only [stepA, Option.some.injEq, Prod.mk.injEq] at hr
      obtain ⟨rfl, rfl⟩ := hr
      exact ⟨_, _, _, rfl, .now hl hR ht hd ⟨k, rfl⟩ (.refl _ _)⟩
    · cases h
  | refuse m => simp only [stepA] at hr; cases hr
  | scope body =>
    rcases hit with rfl | ⟨_, h, _⟩
    · simp only [stepA] at hr
      obtain ⟨e, t1, ds1, h1, h2⟩ := hs lim x body body t ds σ o σ' hr hK hK β τ w tr dr b hw hl hR hf hG ht hd hb hrd k cs
      exact ⟨e, t1, ds1, h1, h2.head (.one st_scope)⟩
    · cases h
  | cond c a a' =>
    rcases hit with rfl | ⟨_, h, _⟩
    · simp only [stepA] at hr
      simp only [codeB, Bool.and_eq_true] at hK
      split at hr
      · rename_i b' hb'
        have hv := ev_rel hG ht hK.1.1
        rw [hb'] at hv
        have hv' : evA tr c = .bool b' := by
          generalize evA tr c = u at hv
          cases hv; rfl
        obtain ⟨e, t1, ds1, h1, h2⟩ := hc lim x (bif b' then a else a') t ds σ o σ' hr (by cases b'; exact hK.2; exact hK.1.2) β τ w tr dr b hw hl hR hf hG ht hd hb hrd _ (.inl rfl) k cs
        exact ⟨e, t1, ds1, h1, h2.head (.one (st_cond hv'))⟩
      · cases hr
    · cases h
  | seq a c2 =>
    rcases hit with rfl | ⟨_, h, _⟩
    · simp only [stepA] at hr
      simp only [codeB, Bool.and_eq_true] at hK
      cases h1 : rec lim (.code x a t ds) σ with
      | none => rw [h1] at hr; cases hr
      | some r =>
        obtain ⟨o1, σ1⟩ := r
        have k1 := (H.good _ _ _ _ _ h1 hw).1
        by_cases hn : ∃ t1 ds1, o1 = .done .normal t1 ds1
        · obtain ⟨t1, ds1, rfl⟩ := hn
          rw [h1] at hr
          dsimp only at hr
          have k2 := (H.good _ _ _ _ _ hr (k1.wf hw)).1
          obtain ⟨e, t1', ds1', heq, w1, β1, τ1, tr1, dr1, k', x1, l1, R1, ht1, hd1, hk1, s1⟩ := hc lim x a t ds σ _ σ1 h1 hK.1 β τ w tr dr b hw hl hR (hf.left k2.next) hG ht hd hb hrd _ (.inl rfl) (.code c2 :: k) cs
          cases heq
          have hk1 : k' = .code c2 :: k := hk1
          subst hk1
          obtain ⟨e, t2, ds2, h2, h3⟩ := hc lim x c2 t1 ds1 σ1 o σ' hr hK.2 β1 τ1 w1 tr1 dr1 b (k1.wf hw) l1.like R1 (hf.right x1 k1.next) (hG.mono x1.1) ht1 hd1 hb (hrd.mono x1.1) _ (.inl rfl) k cs
          exact ⟨e, t2, ds2, h2, h3.tail x1 l1 k1.next k2.next (.head st_seq s1)⟩
        · have hr' : some (o1, σ1) = some (o, σ') := by
            rw [h1] at hr
            rcases o1 with ⟨e, t1, ds1⟩ | v
            · cases e <;> first | exact hr | exact absurd ⟨_, _, rfl⟩ hn
            · exact hr
          cases hr'
          obtain ⟨e, t1, ds1, heq, h3⟩ := hc lim x a t ds σ o σ' h1 hK.1 β τ w tr dr b hw hl hR hf hG ht hd hb hrd _ (.inl rfl) (.code c2 :: k) cs
          subst heq
          have hne : e ≠ .normal := fun h => hn ⟨t1, ds1, by rw [h]⟩
          exact ⟨e, t1, ds1, rfl, (h3.last fun _ _ _ k' hk => ⟨k', hk.drop (fun _ => rfl) (fun _ => rfl) hne, .refl _ _⟩).head (.one st_seq)⟩
    · cases h
  | block id body =>
    rcases hit with rfl | ⟨_, h, _⟩
    · simp only [stepA] at hr
      cases h1 : rec lim (.code x body t ds) σ with
      | none => rw [h1] at hr; cases hr
      | some r =>
        obtain ⟨o1, σ1⟩ := r
        have hσ : σ1 = σ' := by
          rw [h1] at hr
          rcases o1 with ⟨e, t1, ds1⟩ | v
          · cases e <;> (cases hr; rfl)
          · cases hr; rfl
        subst hσ
        obtain ⟨e, t1, ds1, heq, h3⟩ := hc lim x body t ds σ o1 σ1 h1 hK β τ w tr dr b hw hl hR hf hG ht hd hb hrd _ (.inl rfl) (.inBlock id :: k) cs
        subst heq
        rw [h1] at hr
        refine ⟨_, t1, ds1, ?_, (h3.last (e' := match e with | .exit id' => bif Nat.beq id' id then .normal else .exit id' | e => e) fun tr dr w k' hk => ?_).head (.one st_block)⟩
        · cases e <;> (cases hr; rfl)
        · cases e with
          | normal => exact ⟨k, rfl, by rw [show k' = .inBlock id :: k from hk]; exact .one st_inBlock⟩
          | ret => exact ⟨k', hk, .refl _ _⟩
          | goto l => obtain ⟨pre, h4, h5⟩ := hk; exact ⟨k', ⟨pre, h4, h5⟩, .refl _ _⟩
          | exit id' =>
            obtain ⟨pre, rfl, h5⟩ := hk
            dsimp only
            simp only [exitTo] at h5
            cases hbe : Nat.beq id' id with
            | true =>
              have : id' = id := Nat.eq_of_beq_eq_true hbe
              subst this
              rw [if_pos (by simp)] at h5
              exact ⟨k, rfl, .one (st_exit h5)⟩
            | false =>
              have : id' ≠ id := Nat.ne_of_beq_eq_false hbe
              rw [if_neg (by simp; omega)] at h5
              exact ⟨_, ⟨pre, rfl, h5⟩, .refl _ _⟩
    · cases h
  | loop body =>
    have hst : Steps P (lone (Fr b tr dr (it :: k)) cs w) (lone (Fr b tr dr (.code body :: .inLoop body :: k)) cs w) := by
      rcases hit with rfl | ⟨_, h, rfl⟩
      · exact .one st_loop
      · cases h; exact .one st_inLoop
    simp only [stepA] at hr
    have hKb : codeB G E x.fn body = true := hK
    cases h1 : rec lim (.code x body t ds) σ with
    | none => rw [h1] at hr; cases hr
    | some r =>
      obtain ⟨o1, σ1⟩ := r
      have k1 := (H.good _ _ _ _ _ h1 hw).1
      by_cases hn : ∃ t1 ds1, o1 = .done .normal t1 ds1
      · obtain ⟨t1, ds1, rfl⟩ := hn
        rw [h1] at hr
        dsimp only at hr
        have k2 := (H.good _ _ _ _ _ hr (k1.wf hw)).1
        obtain ⟨e, t1', ds1', heq, w1, β1, τ1, tr1, dr1, k', x1, l1, R1, ht1, hd1, hk1, s1⟩ := hc lim x body t ds σ _ σ1 h1 hKb β τ w tr dr b hw hl hR (hf.left k2.next) hG ht hd hb hrd _ (.inl rfl) (.inLoop body :: k) cs
        cases heq
        have hk1 : k' = .inLoop body :: k := hk1
        subst hk1
        obtain ⟨e, t2, ds2, h2, h3⟩ := hc lim x (.loop body) t1 ds1 σ1 o σ' hr hK β1 τ1 w1 tr1 dr1 b (k1.wf hw) l1.like R1 (hf.right x1 k1.next) (hG.mono x1.1) ht1 hd1 hb (hrd.mono x1.1) (.inLoop body) (.inr ⟨body, rfl, rfl⟩) k cs
        exact ⟨e, t2, ds2, h2, h3.tail x1 l1 k1.next k2.next (hst.trans s1)⟩
      · have hr' : some (o1, σ1) = some (o, σ') := by
          rw [h1] at hr
          rcases o1 with ⟨e, t1, ds1⟩ | v
          · cases e <;> first | exact hr | exact absurd ⟨_, _, rfl⟩ hn
          · exact hr
        cases hr'
        obtain ⟨e, t1, ds1, heq, h3⟩ := hc lim x body t ds σ o σ' h1 hKb β τ w tr dr b hw hl hR hf hG ht hd hb hrd _ (.inl rfl) (.inLoop body :: k) cs
        subst heq
        have hne : e ≠ .normal := fun h => hn ⟨t1, ds1, by rw [h]⟩
        exact ⟨e, t1, ds1, rfl, (h3.last fun _ _ _ k' hk => ⟨k', hk.drop (fun _ => rfl) (fun _ => rfl) hne, .refl _ _⟩).head hst⟩
  | region id ops draw =>
    rcases hit with rfl | ⟨_, h, _⟩
    · simp only [stepA] at hr
      simp only [codeB, Bool.and_eq_true, List.all_eq_true] at hK
      have hB : ∀ (j : Nat) (o : Oper), ops[j]? = some o → opB G o = true := fun j o ho => hK.1 o (by
        rw [← Array.getElem?_toList] at ho
        exact List.mem_of_getElem? ho)
      cases draw with
      | false =>
        rw [cond_false] at hr
        cases h1 : opsA P E rec ops false lim ops.toList t σ with
        | none => rw [h1] at hr; cases hr
        | some r =>
          obtain ⟨t1, σ1⟩ := r
          rw [h1] at hr
          simp only [Option.some.injEq, Prod.mk.injEq] at hr
          obtain ⟨rfl, rfl⟩ := hr
          obtain ⟨w', β', τ', tr', x1, l1, R1, ht1, s1⟩ := seq_steps H ops.toList (List.range ops.size) t tr σ σ1 τ t1 (by simp) (fun n i o hn ho => by
            have hlt : n < ops.size := by
              have := (List.getElem?_eq_some_iff.1 hn).1; simpa using this
            rw [List.getElem?_range hlt] at hn
            simp only [Option.some.injEq] at hn
            subst hn
            rw [Array.getElem?_toList] at ho; exact ho) h1 (fun o ho => hK.1 o ho) β w hw hl hR hf hG ht b dr k cs
          exact ⟨.normal, t1, ds, rfl, w', β', τ', tr', dr, k, x1, l1, R1, ht1, hd.mono x1.1, rfl, .head st_region (s1.trans (.one st_region_end))⟩
      | true =>
        rw [cond_true] at hr
        have hK2 := hK.2
        rw [cond_true] at hK2
        split at hr
        · rename_i pl hn
          rw [hn] at hK2
          have hK2 : planAll ops pl = true := hK2
          cases h1 : opsI P E rec ops lim pl.l t σ with
          | none => rw [h1] at hr; cases hr
          | some r =>
            obtain ⟨t2, σ2⟩ := r
            rw [h1] at hr
            simp only [Option.some.injEq, Prod.mk.injEq] at hr
            obtain ⟨rfl, rfl⟩ := hr
            have fin : ∀ md tape l gs, planB md ops l gs = true → opsI P E rec ops lim l t σ = some (t2, σ2) → Region.schedule (P.follows .mixedOrders) ops (w.tape w.drawn (.order b.fn id)) = Region.linearise md ops tape →
                ∃ e t1 ds1, Out.done .normal t2 ds = .done e t1 ds1 ∧ CodePost P G E W0 N0 β σ σ2 τ w tr dr b cs (.code (.region id ops true) :: k) k e t1 ds1 := by
              intro md tape l gs hd1 hrun hsch
              obtain ⟨w', β', τ', tr', x1, l1, R1, ht1, s1⟩ := plan_run H hd1 hB hrun hw hl (hR.drawn (w.drawn + 1)) hf hG ht tape b dr k cs
              refine ⟨.normal, t2, ds, rfl, w', β', τ', tr', dr, k, x1, l1, R1, ht1, hd.mono x1.1, rfl, .head st_region_draw ?_⟩
              rw [hsch]
              exact s1.trans (.one st_region_end)
            exact fin .any (w.tape w.drawn (.order b.fn id)) pl.l pl.gs hK2 h1 (by simp [Region.schedule, H.mixed])
        · cases hr
    · cases h
  | rangeFunc f params assign body =>
    rcases hit with rfl | ⟨_, h, _⟩
    · simp only [stepA] at hr
      simp only [codeB, Bool.and_eq_true] at hK
      unfold rangeA at hr
      split at hr
      case h_2 => cases hr
      rename_i l mark σ1 h1
      split at hr
      case h_2 => cases hr
      rename_i m hm
      split at hr
      case h_2 => cases hr
      rename_i v2 σ2 h2
      have k1 := kept_runA h1 hw
      have k2 := ((good_apply H.ovGood H.good) σ1 v2 σ2 h2 (k1.wf hw)).1
      obtain ⟨j, σ3, h3, rfl, he⟩ : ∃ j σ3, runA P lim (Instr.endLoop l) σ2 = some (j, σ3) ∧ σ3 = σ' ∧ ((j = none ∧ o = .done .normal t (m ++ ds)) ∨ (j = some .ret ∧ o = .done .ret t (m ++ ds)) ∨ (∃ id, j = some (.exit id) ∧ o = .done (.exit id) t (m ++ ds)) ∨ (∃ g, j = some (.goto g) ∧ o = .done (.goto g) t (m ++ ds))) := by
        unfold rangeEnd at hr
        split at hr
        · rename_i h3; cases hr; exact ⟨_, _, h3, rfl, .inl ⟨rfl, rfl⟩⟩
        · rename_i h3; cases hr; exact ⟨_, _, h3, rfl, .inr (.inl ⟨rfl, rfl⟩)⟩
        · rename_i h3; cases hr; exact ⟨_, _, h3, rfl, .inr (.inr (.inl ⟨_, rfl, rfl⟩))⟩
        · rename_i h3; cases hr; exact ⟨_, _, h3, rfl, .inr (.inr (.inr ⟨_, rfl, rfl⟩))⟩
        · cases hr
      have k3 := kept_runA h3 (k2.wf (k1.wf hw))
      have n1 := k1.next
      have n2 := k2.next
      have n3 := k3.next
      obtain ⟨r', w1, β1, τ1, er, x1, l1, R1, e, hβe, he0, hl', hdm⟩ := (sim_enterLoop (P := P) (K := CodeK G E) (W0 := W0) (N0 := N0) (fn := x.fn) (t := t.toArray) (t' := tr) (arrRel_iff.2 (by simpa using ht)) (params := params) (assign := assign) (body := body) hK.1.2 hK.2 hrd).at hw hl hR h1 (fun i h h' => hf i h (by omega))
      obtain ⟨l', mark'⟩ := r'
      have hl' : l' = e.b := hl'
      subst hl'
      have hL := apply_lands H.ov H.good H.call H.round h2 (f' := evA tr f) (args' := #[.func (.yield e.b) #[] #[]]) (k1.wf hw) l1.like R1 (fun i h h' => (hf.right x1 n1) i h (by omega)) (hG.mono x1.1) ((ev_rel hG ht hK.1.1).mono x1.1)
        ⟨.func ⟨e, hβe, he0, rfl⟩ rfl (fun i h => by simp at h) rfl (fun i h => by simp at h), trivial⟩
      have hmode : (stepG P true { frame := Fr b tr dr (.code (.rangeFunc f params assign body) :: k), callers := cs, status := .running, dying := none } w).bare =
          (stepG.apply P true (Fr b tr (mark' ++ dr) (.inRangeFunc e.b :: k)) cs none (do let d ← Deferred.ofValue (evA tr f) #[.func (.yield e.b) #[] #[]]; invoke d.target d.args) w1).bare := by
        have hev := Fr_eval b tr (mark' ++ dr) (.inRangeFunc e.b :: k)
        simp only [Fr] at hev
        have er2 : (Instr.enterLoop b.fn tr params assign body b.roundOf).run P w = .ok (e.b, mark') w1 := by rw [hb]; exact er
        have ea : #[Operand.const (.func (.yield e.b) #[] #[])].map (evA tr) = #[.func (.yield e.b) #[] #[]] := by simp [evA]
        simp only [stepG, stepG.exec, Fr, Sem.runT_eq, er2, GStep.bare_after, hev, resolve, ea]
      obtain ⟨v', w2, ⟨β2, τ2, x2, l2, R2, hv⟩, s2⟩ := hL.steps (fr0 := Fr b tr dr (.code (.rangeFunc f params assign body) :: k)) (fr := Fr b tr (mark' ++ dr) (.inRangeFunc e.b :: k)) (cs := cs) (w0 := w) trivial hmode
      have hfin : (Fr b tr (mark' ++ dr) (.inRangeFunc e.b :: k)).finish v' = Fr b tr (mark' ++ dr) (.endRangeFunc e.b :: k) := rfl
      rw [hfin] at s2
      have x12 := x1.trans x2 n1 n2
      obtain ⟨j', w3, β3, τ3, er3, x3, l3, R3, hb3, hj⟩ := (sim_endLoop (P := P) (K := CodeK G E) (W0 := W0) (N0 := N0) (l := l) (e := e) (x2.1.m _ _ hβe)).at (k2.wf (k1.wf hw)) l2.like R2 h3 (fun i h h' => (hf.right x12 (by omega)) i h h')
      have x13 := x12.trans x3 (by omega) n3
      have l13 := (l1.trans l2 n2).trans l3 n3
      subst hj
      have ht3 : lRel β3 t tr.toList := ht.mono x13.1
      have hd3 : dRel β3 (m ++ ds) (mark' ++ dr) := ((hdm m hm).mono (x2.1.trans x3.1)).append (hd.mono x13.1)
      have s3 := s2.trans (.one (st_endRange (P := P) (b := b) (t := tr) (d := mark' ++ dr) (k := k) (cs := cs) er3))
      rcases he with ⟨rfl, rfl⟩ | ⟨rfl, rfl⟩ | ⟨id, rfl, rfl⟩ | ⟨g, rfl, rfl⟩
      · exact ⟨_, _, _, rfl, w3, β3, τ3, tr, mark' ++ dr, k, x13, l13, R3, ht3, hd3, rfl, s3⟩
      · exact ⟨_, _, _, rfl, w3, β3, τ3, tr, mark' ++ dr, _, x13, l13, R3, ht3, hd3, ⟨k, rfl⟩, s3⟩
      · exact ⟨_, _, _, rfl, w3, β3, τ3, tr, mark' ++ dr, _, x13, l13, R3, ht3, hd3, ⟨k, rfl, rfl⟩, s3⟩
      · exact ⟨_, _, _, rfl, w3, β3, τ3, tr, mark' ++ dr, _, x13, l13, R3, ht3, hd3, ⟨k, rfl, rfl⟩, s3⟩
    · cases h

theorem scope_step (H : Given P (CodeK G E) W0 N0 G E rec) (hc : CodeOk P W0 N0 G E rec) (hs : ScopeOk P W0 N0 G E rec) : ScopeOk P W0 N0 G E (fun lim k σ => stepA P E rec lim k σ) := by
  intro lim x body c t ds σ o σ' hr hKb hK β τ w tr dr b hw hl hR hf hG ht hd hb hrd k cs
  simp only [stepA] at hr
  cases h1 : rec lim (.code x c t ds) σ with
  | none => rw [h1] at hr; cases hr
  | some r =>
    obtain ⟨o1, σ1⟩ := r
    have k1 := (H.good _ _ _ _ _ h1 hw).1
    rw [h1] at hr
    by_cases hn : ∃ l t1 ds1 rest, o1 = .done (.goto l) t1 ds1 ∧ findLabel body l = some rest
    · obtain ⟨l, t1, ds1, rest, rfl, hfl⟩ := hn
      dsimp only at hr
      rw [hfl] at hr
      dsimp only at hr
      have k2 := (H.good _ _ _ _ _ hr (k1.wf hw)).1
      obtain ⟨e, t1', ds1', heq, w1, β1, τ1, tr1, dr1, k', x1, l1, R1, ht1, hd1, hk1, s1⟩ := hc lim x c t ds σ _ σ1 h1 hK β τ w tr dr b hw hl hR (hf.left k2.next) hG ht hd hb hrd _ (.inl rfl) (.inScope body :: k) cs
      cases heq
      obtain ⟨pre, rfl, hg⟩ := hk1
      simp only [gotoIn, hfl] at hg
      obtain ⟨e, t2, ds2, h2, h3⟩ := hs lim x body rest t1 ds1 σ1 o σ' hr hKb (codeB_find body hKb hfl) β1 τ1 w1 tr1 dr1 b (k1.wf hw) l1.like R1 (hf.right x1 k1.next) (hG.mono x1.1) ht1 hd1 hb (hrd.mono x1.1) k cs
      exact ⟨e, t2, ds2, h2, h3.tail x1 l1 k1.next k2.next (s1.trans (.one (st_goto hg)))⟩
    · have hr' : some (o1, σ1) = some (o, σ') := by
        rcases o1 with ⟨e, t1, ds1⟩ | v
        · cases e with
          | goto l =>
            dsimp only at hr
            cases hfl : findLabel body l with
            | none => rw [hfl] at hr; exact hr
            | some rest => exact absurd ⟨l, t1, ds1, rest, rfl, hfl⟩ hn
          | _ => exact hr
        · exact hr
      cases hr'
      obtain ⟨e, t1, ds1, heq, h3⟩ := hc lim x c t ds σ o σ' h1 hK β τ w tr dr b hw hl hR hf hG ht hd hb hrd _ (.inl rfl) (.inScope body :: k) cs
      subst heq
      refine ⟨e, t1, ds1, rfl, h3.last fun tr dr w k' hk => ?_⟩
      cases e with
      | normal => exact ⟨k, rfl, by rw [show k' = .inScope body :: k from hk]; exact .one st_inScope⟩
      | ret => exact ⟨k', hk, .refl _ _⟩
      | exit id => obtain ⟨pre, h4, h5⟩ := hk; exact ⟨k', ⟨pre, h4, h5⟩, .refl _ _⟩
      | goto l =>
        obtain ⟨pre, h4, h5⟩ := hk
        refine ⟨k', ⟨pre, h4, ?_⟩, .refl _ _⟩
        rw [h5]
        have : findLabel body l = none := by
          cases hfl : findLabel body l with
          | none => rfl
          | some rest => exact absurd ⟨l, t1, ds1, rest, rfl, hfl⟩ hn
        simp only [gotoIn, this]

theorem call_step (hFn : FnOk P G E) (H : Given P (CodeK G E) W0 N0 G E rec) (hc : CodeOk P W0 N0 G E rec) : CallOk P (CodeK G E) W0 N0 G (fun lim k σ => stepA P E rec lim k σ) := by
  intro lim f args σ v σ' hr β τ w args' hw hl hR hf hG ha
  simp only [stepA] at hr
  cases hok : E.ok f with
  | false => rw [hok] at hr; cases hr
  | true =>
  rw [hok, cond_true] at hr
  split at hr
  case h_2 => cases hr
  rename_i fn hfn
  split at hr
  case h_2 => cases hr
  rename_i c hbody
  split at hr
  case h_2 => cases hr
  rename_i e t1 ds1 σ1 h1
  have hr2 : (e = .normal ∨ e = .ret) ∧ ∃ σ2, takeA P lim ds1 σ1 = some σ2 ∧ runA P lim (results fn t1.toArray) σ2 = some (v, σ') := by
    cases e <;> first | cases hr | skip
    all_goals
      dsimp only at hr
      split at hr
      · rename_i σ2 h2
        split at hr
        · rename_i u σ3 h3
          simp only [Option.some.injEq, Prod.mk.injEq, Out.val.injEq] at hr
          obtain ⟨rfl, rfl⟩ := hr
          exact ⟨by simp, σ2, h2, h3⟩
        · cases hr
      · cases hr
  obtain ⟨he, σ2, h2, h3⟩ := hr2
  obtain ⟨hcode, hname⟩ := hFn f fn c hok hfn hbody
  have hcall : (callFunc f args').run P w = .ok (.enter f args') w := by
    unfold callFunc
    rw [run_bind']
    show (match P.funcs[f]? with | none => _ | some fn => _ : Sem Next).run P w = _
    rw [hfn]
    simp only [hname, Bool.false_eq_true, if_false, hbody, Option.isNone_some]
    rfl
  have k1 := (H.good _ _ _ _ _ h1 hw).1
  have k3' := kept_runA (P := P) h3
  refine .enter hcall fun cs => ?_
  have hlen : args'.size = args.length := by have := ha.length; simpa using this.symm
  have htm : lRel β (args ++ List.replicate (fn.ntmps - args.length) undef) (args' ++ Array.replicate (fn.ntmps - args'.size) undef).toList := by
    rw [Array.toList_append, Array.toList_replicate, hlen]
    exact ha.append (.replicate rel_undef _)
  have hent : Frame.enter P f args' .normal = Fr (Frame.enter P f args' .normal) (args' ++ Array.replicate (fn.ntmps - args'.size) undef) [] [.code c] := by
    simp only [Frame.enter, Fr, hfn, hbody, Option.map_some, Option.getD_some, Option.bind_some]
  have n1 := k1.next
  have hw1 := k1.wf hw
  obtain ⟨k2, hn2⟩ := kept_take ds1 h2 hw1
  have hw2 := k2.wf hw1
  have k3 := kept_runA h3 hw2
  have n3 := k3.next
  obtain ⟨e', t1', ds1', heq, w1, β1, τ1, tr1, dr1, k', x1, l1, R1, ht1, hd1, hk1, s1⟩ := hc lim ⟨f, none⟩ c _ [] σ _ σ1 h1 hcode β τ w _ [] (Frame.enter P f args' .normal) hw hl hR (fun i h h' => hf i h (by omega)) hG htm trivial rfl trivial _ (.inl rfl) [] cs
  cases heq
  rw [← hent] at s1
  have hleave : Steps P (lone (Fr (Frame.enter P f args' .normal) tr1 dr1 k') cs w1) (lone { Fr (Frame.enter P f args' .normal) tr1 dr1 k' with mode := .returning } cs w1) := by
    rcases he with rfl | rfl
    · have : k' = [] := hk1
      subst this
      exact .one (st_leave rfl)
    · obtain ⟨pre, rfl⟩ := hk1
      exact .one (st_ret rfl)
  obtain ⟨w2, τ2, l2, R2, _, _, s2⟩ := takes (cs := cs) ds1 dr1 σ1 σ2 τ1 β1 w1 { Fr (Frame.enter P f args' .normal) tr1 dr1 k' with mode := .returning } h2 hd1 hw1 l1.like R1 rfl rfl
  obtain ⟨v', w3, β3, τ3, er, x3, l3, R3, hb3, hv⟩ := (sim_results (P := P) (K := CodeK G E) (W0 := W0) (N0 := N0) (fn := fn) (t := t1.toArray) (t' := tr1) (arrRel_iff.2 (by simpa using ht1))).at hw2 l2.like R2 h3 (fun i h h' => (hf.right x1 n1) i (by omega) h')
  have hww : w3 = w2 := RO.results fn tr1 w2 v' w3 er
  subst hww
  subst hb3
  refine ⟨.returned v', w3, _, ⟨v', rfl, β3, τ3, ?_, ?_, R3, hv⟩, s1.trans (hleave.trans s2), rfl, ⟨rfl, rfl, rfl, fn, hfn, er⟩⟩
  · refine ⟨x1.1, fun i en hen => ?_⟩
    rcases x1.2 i en hen with h4 | h4
    · exact .inl h4
    · exact .inr (by omega)
  · exact (l1.trans l2 (by omega)).trans l3 n3

theorem round_step (H : Given P (CodeK G E) W0 N0 G E rec) (hc : CodeOk P W0 N0 G E rec) : RoundOk P (CodeK G E) W0 N0 G (fun lim k σ => stepA P E rec lim k σ) := by
  intro lim l f t a body σ v σ' hr β τ w tr e hw hl hR hf hG he he0 ht hKa hKb c cs
  simp only [stepA] at hr
  split at hr
  case h_2 => cases hr
  rename_i t1 σ1 h1
  split at hr
  case h_2 => cases hr
  rename_i u σ2 h2
  split at hr
  case h_2 => cases hr
  rename_i e3 t3 σ3 h3
  split at hr
  case h_2 => cases hr
  rename_i v4 σ4 h4
  simp only [Option.some.injEq, Prod.mk.injEq, Out.val.injEq] at hr
  obtain ⟨rfl, rfl⟩ := hr
  have k1 := (H.good _ _ _ _ _ h1 hw).1
  have hw1 := k1.wf hw
  have k2 := kept_runA h2 hw1
  have hw2 := k2.wf hw1
  have k3 := (H.good _ _ _ _ _ h3 hw2).1
  have hw3 := k3.wf hw2
  have k4 := kept_runA h4 hw3
  have n1 := k1.next
  have n2 := k2.next
  have n3 := k3.next
  have n4 := k4.next
  have hstart : Frame.round e.b f tr a body .normal = Fr (Frame.round e.b f tr a body .normal) tr [] [.code a, .beginRound, .code body] := rfl
  obtain ⟨e', t1', ds1', heq, w1, β1, τ1, tr1, dr1, k', x1, l1, R1, ht1, hd1, hk1, s1⟩ := hc lim ⟨f, some l⟩ a t [] σ _ σ1 h1 hKa β τ w tr [] (Frame.round e.b f tr a body .normal) hw hl hR (fun i h h' => hf i h (by omega)) hG ht trivial rfl ⟨e, he, he0, rfl⟩ _ (.inl rfl) [.beginRound, .code body] (c :: cs)
  cases heq
  have hk1 : k' = [.beginRound, .code body] := hk1
  subst hk1
  have hdr1 : dr1 = [] := by
    cases dr1 with
    | nil => rfl
    | cons _ _ => exact hd1.elim
  subst hdr1
  obtain ⟨u', w2, β2, τ2, er2, x2, l2, R2, hb2⟩ := (sim_beginRound (P := P) (K := CodeK G E) (W0 := W0) (N0 := N0) (l := l) (e := e) (x1.1.m _ _ he)).at hw1 l1.like R1 h2 (fun i h h' => (hf.right x1 n1) i h (by omega))
  subst hb2
  have x12 := x1.trans x2 n1 n2
  obtain ⟨e', t3', ds3', heq, w3, β3, τ3, tr3, dr3, k', x3, l3, R3, ht3, hd3, hk3, s3⟩ := hc lim ⟨f, some l⟩ body t1 [] σ2 _ σ3 h3 hKb β2 τ2 w2 tr1 [] (Frame.round e.b f tr a body .normal) hw2 l2.like R2 (fun i h h' => (hf.right x12 (by omega)) i h (by omega)) (hG.mono x12.1) ht1 trivial rfl ⟨e, x12.1.m _ _ he, he0, rfl⟩ _ (.inl rfl) [] (c :: cs)
  cases heq
  have x13 := x12.trans x3 (by omega) n3
  obtain ⟨v', w4, β4, τ4, er4, x4, l4, R4, hb4, hv⟩ := (sim_endRound (P := P) (K := CodeK G E) (W0 := W0) (N0 := N0) (l := l) (e := e) (x13.1.m _ _ he) _).at hw3 l3.like R3 h4 (fun i h h' => (hf.right x13 (by omega)) i h h')
  subst hb4
  refine ⟨v', w4, ⟨β4, τ4, x13.trans x4 (by omega) n4, ((l1.trans l2 n2).trans l3 n3).trans l4 n4, R4, hv⟩, ?_⟩
  rw [hstart]
  refine s1.trans (.head (st_beginRound (l := e.b) rfl er2) (s3.trans ?_))
  cases e3 with
  | normal =>
    have : k' = [] := hk3
    subst this
    exact .one (st_endRound rfl rfl er4)
  | ret =>
    obtain ⟨pre, rfl⟩ := hk3
    exact .one (st_endRoundRet rfl rfl er4)
  | exit id =>
    obtain ⟨pre, rfl, hp⟩ := hk3
    exact .one (st_endRoundExit (hp.trans rfl) rfl rfl er4)
  | goto g =>
    obtain ⟨pre, rfl, hp⟩ := hk3
    exact .one (st_endRoundGoto (hp.trans rfl) rfl rfl er4)

/-- What holds of every run of the interpreter. -/
theorem sound (hZ : ZeroOk P) (hM : P.follows .mixedOrders = true) (hG : OvGood E) (hO : OvOk P (CodeK G E) W0 N0 G E) (hFn : FnOk P G E) :
    ∀ n, CallOk P (CodeK G E) W0 N0 G (run P E n) ∧ RoundOk P (CodeK G E) W0 N0 G (run P E n) ∧ CodeOk P W0 N0 G E (run P E n) ∧ ScopeOk P W0 N0 G E (run P E n) := by
  intro n
  induction n with
  | zero =>
    refine ⟨?_, ?_, ?_, ?_⟩
    · intro lim f args σ v σ' h; cases h
    · intro lim l f t a body σ v σ' h; cases h
    · intro lim x c t ds σ o σ' h; cases h
    · intro lim x body c t ds σ o σ' h; cases h
  | succ n ih =>
    obtain ⟨h1, h2, h3, h4⟩ := ih
    have H : Given P (CodeK G E) W0 N0 G E (run P E n) := ⟨hZ, hM, hG, hO, good_run hG n, h1, h2⟩
    exact ⟨call_step hFn H h3, round_step H h3, code_step H h3 h4, scope_step H h3 h4⟩

end Go.Va

/-
  THE TOP: a run of the interpreter over the laid tables is a call of the machine; functions of plain values may be replaced.
-/
namespace Go.Va
open Go.RowKit
variable {P : Program} {G : Nat} {E : Env}

theorem plain_eq {β : Inj} : ∀ (n : Nat) (v v' : Value), plainB n v = true → vRel β v v' → v' = v := by
  intro n
  induction n with
  | zero => intro v v' h; simp [plainB] at h
  | succ n ih =>
    have arr : ∀ (xs ys : Array Value), xs.toList.all (plainB n) = true → xs.size = ys.size → (∀ i (h : i < xs.size) (h' : i < ys.size), vRel β xs[i] ys[i]) → ys = xs := by
      intro xs ys h hs hr
      refine Array.ext hs.symm fun i hi hi' => ?_
      exact ih _ _ (List.all_eq_true.1 h _ (by simp)) (hr i hi' hi)
    intro v v' h hr
    cases hr <;> first | rfl | (simp [plainB] at h; done) | skip
    case func fn fn' f f' c c' hfn h1 h2 h3 h4 =>
      simp only [plainB, Bool.and_eq_true] at h
      have e1 : fn' = fn := by
        cases fn <;> first | exact hfn | exact hfn.1 | (simp at h)
      rw [e1, arr _ _ h.1.2 h1 h2, arr _ _ h.2 h3 h4]
    case iface t a a' ha =>
      simp only [plainB] at h
      rw [ih _ _ h ha]
    case agg f f' h1 h2 => simp only [plainB] at h; rw [arr _ _ h h1 h2]
    case tuple f f' h1 h2 => simp only [plainB] at h; rw [arr _ _ h h1 h2]
    all_goals (cases n <;> simp [plainB] at h)

/-- Stands in a table for an interface's value that is not known. -/
def anyI : Value := .map (some 0)
/-- .. and for a number. -/
def anyN : Value := .map (some 1)
def TabV (v c : Value) : Prop := (plainB 100 v = true ∧ c = v) ∨ (v = anyI ∧ (c = .nilIface ∨ ∃ t p, c = .iface t p)) ∨ (v = anyN ∧ ∃ m, c = .int .i64 m)
theorem TabV.plain {v c : Value} (h : TabV v c) (hv : plainB 100 v = true) : c = v := by
  rcases h with h | ⟨rfl, _⟩ | ⟨rfl, _⟩
  · exact h.2
  · cases hv
  · cases hv
theorem TabV.iface {c : Value} (h : TabV anyI c) : c = .nilIface ∨ ∃ t p, c = .iface t p := by
  rcases h with ⟨h, _⟩ | ⟨_, h⟩ | ⟨h, _⟩
  · cases h
  · exact h
  · cases h
theorem TabV.num {c : Value} (h : TabV anyN c) : ∃ m, c = .int .i64 m := by
  rcases h with ⟨h, _⟩ | ⟨h, _⟩ | ⟨_, h⟩
  · cases h
  · cases h
  · exact h
def tabP (x : Nat × List Value) : Bool := x.2.all (plainB 100)
/-- The tables that lie in the heap when all begins: which place, and what it holds. -/
def base0 (G : Nat) (tabs : List (Nat × List Value)) : AS := (tabs.filter tabP).foldl (fun σ x => σ.put x.1 (some (.cells x.2 false (none, none) none))) { tr := .leaf, next := G }

/-- The tables lie in the world. -/
def Tabs (G : Nat) (tabs : List (Nat × List Value)) (w : World) : Prop :=
  G ≤ w.heap.size ∧ ∀ x ∈ tabs, ∃ C ty fr, w.heap[x.1]? = some (.cells C ty fr) ∧ (∀ i (_ : i < x.2.length), ∃ c, C[i]? = some c ∧ TabV x.2[i] c) ∧ C.size = x.2.length

def tabsB (G : Nat) (tabs : List (Nat × List Value)) : Bool := tabs.all fun x => Nat.blt x.1 G

theorem get_leaf (k : Nat) : (Tr.leaf : Tr AObj).get k = none := rfl

theorem base0_get (G : Nat) : ∀ (tabs : List (Nat × List Value)) (σ : AS) (id : Nat) (x : AObj), (tabs.foldl (fun σ x => σ.put x.1 (some (.cells x.2 false (none, none) none))) σ).get id = some x → σ.get id = some x ∨ ∃ y ∈ tabs, y.1 = id ∧ x = .cells y.2 false (none, none) none
  | [], σ, id, x, h => .inl h
  | y :: tabs, σ, id, x, h => by
    rcases base0_get G tabs _ id x h with h1 | ⟨z, hz, h2⟩
    · rw [AS.get_put] at h1
      split at h1
      · rename_i e
        exact .inr ⟨y, by simp, e.symm, by cases h1; rfl⟩
      · exact .inl h1
    · exact .inr ⟨z, by simp [hz], h2⟩
theorem base0_next : ∀ (tabs : List (Nat × List Value)) (σ : AS), (tabs.foldl (fun σ x => σ.put x.1 (some (.cells x.2 false (none, none) none))) σ).next = σ.next
  | [], σ => rfl
  | y :: tabs, σ => by
    show (tabs.foldl _ (σ.put y.1 _)).next = _
    rw [base0_next tabs]; simp

/-- The injection at the beginning: the globals; what is at rest. -/
def inj1 (G : Nat) (z : Nat → Nat → Option ZC) (n : Nat) : Inj := ⟨fun i => if i < G then some ⟨i, 0, none⟩ else none, z, n⟩
theorem inj1_inv {G : Nat} {z : Nat → Nat → Option ZC} {n i : Nat} {e : Ent} (h : inj1 G z n i = some e) : i < G ∧ e = ⟨i, 0, none⟩ := by
  dsimp only [inj1] at h
  split at h
  · rename_i hlt; cases h; exact ⟨hlt, rfl⟩
  · cases h

/-- These cells are at rest in the world. -/
structure Rest (z : Nat → Nat → Option ZC) (w : World) : Prop where
  zone : ∀ {b j c}, z b j = some c → ∃ C ty fr, w.heap[b]? = some (.cells C ty fr) ∧ C[j]? = some c.v
  tags : ∀ {b j v T k real}, z b j = some ⟨v, some (T, k, real)⟩ → T < w.heap.size ∧ ∃ i c, z T i = some c
theorem ZR.rest {N0 : Nat} {β : Inj} {σ : AS} {w : World} (h : ZR N0 β σ w) : Rest β.z w := ⟨h.zone, h.tags⟩
theorem rest_none (w : World) : Rest (fun _ _ => none) w where
  zone := fun h => by cases h
  tags := fun h => by cases h

theorem base0_spec {tabs : List (Nat × List Value)} {id : Nat} {x : AObj} (h : (base0 G tabs).get id = some x) : ∃ y ∈ tabs, y.1 = id ∧ x = .cells y.2 false (none, none) none ∧ tabP y = true := by
  rcases base0_get G (tabs.filter tabP) _ id x h with h1 | ⟨y, hy, h1, h2⟩
  · cases h1
  · obtain ⟨h3, h4⟩ := List.mem_filter.1 hy
    exact ⟨y, h3, h1, h2, h4⟩

theorem base0_wf {tabs : List (Nat × List Value)} (ht : tabsB G tabs = true) : (base0 G tabs).Wf := by
  refine ⟨fun id hid => ?_, fun id x q hx hq => ?_⟩
  · cases h : (base0 G tabs).get id with
    | none => rfl
    | some x =>
      obtain ⟨y, hy, rfl, _⟩ := base0_spec h
      have h1 := List.all_eq_true.1 ht y hy
      rw [Nat.blt_eq] at h1
      have : (base0 G tabs).next = G := base0_next _ _
      omega
  · obtain ⟨y, hy, _, rfl, _⟩ := base0_spec hx
    cases hq

theorem base0_R {K : FuncId → Code → Prop} {tabs : List (Nat × List Value)} (ht : tabsB G tabs = true) {w : World} (hT : Tabs G tabs w) {z : Nat → Nat → Option ZC} (hz : Rest z w) : R K w w.heap.size (inj1 G z w.heap.size) (base0 G tabs) w := by
  refine ⟨fun {id e c rw lo pv} hb hg => ?_, fun {id e o} hb hg => ?_, fun {i j ei ej x y} hij hbi hbj hgi hgj ho heq => ?_, fun {id e} hb => ?_, ⟨rfl, rfl, rfl, Nat.le_refl _, fun _ _ => rfl⟩, Nat.le_refl _, fun {id e r} hb hg => ?_, ⟨Nat.le_refl _, hz.zone, fun {id e x} hb hg hx => ?_, fun {id e n esz T} hb hg => ?_, fun {i j ei ej n esz T n' esz' T'} hij hbi hbj hgi hgj => ?_, hz.tags⟩⟩
  · obtain ⟨y, hy, rfl, hx, hpl⟩ := base0_spec hg
    cases hx
    obtain ⟨_, rfl⟩ := inj1_inv hb
    obtain ⟨C, ty, fr, h1, h2, _⟩ := hT.2 y hy
    refine ⟨C, ty, fr, h1, fun i hi => ⟨_, by
      obtain ⟨c, hc, hv⟩ := h2 i hi
      rw [Nat.zero_add, hc, hv.plain (List.all_eq_true.1 hpl _ (by simp))], plain_rel 100 _ (List.all_eq_true.1 hpl _ (by simp))⟩, fun h => (by cases h), rfl, fun T hT => by cases hT⟩
  · obtain ⟨y, hy, _, hx, _⟩ := base0_spec hg; cases hx
  · obtain ⟨_, rfl⟩ := inj1_inv hbi
    obtain ⟨_, rfl⟩ := inj1_inv hbj
    exact absurd heq hij
  · obtain ⟨h, rfl⟩ := inj1_inv hb; have := hT.1; show id < _; omega
  · obtain ⟨y, hy, _, hx, _⟩ := base0_spec hg; cases hx
  · obtain ⟨y, hy, _, rfl, _⟩ := base0_spec hg; cases hx
  · obtain ⟨y, hy, _, hx, _⟩ := base0_spec hg; cases hx
  · obtain ⟨y, hy, _, hx, _⟩ := base0_spec hgi; cases hx

theorem plain_lRel {β : Inj} : ∀ l : List Value, l.all (plainB 100) = true → lRel β l l
  | [], _ => trivial
  | v :: l, h => by simp only [List.all_cons, Bool.and_eq_true] at h; exact ⟨plain_rel 100 v h.1, plain_lRel l h.2⟩

/-- Of a value without places only what is at rest matters. -/
theorem PF.turn {v : Value} (h : PF v) : ∀ {β β' : Inj} {v' : Value}, vRel β v v' → (∀ b j c, β.z b j = some c → β'.z b j = some c) → vRel β' v v' := by
  have zat : ∀ {β β' : Inj} {b o : Nat} {cs' : Array Value}, ZAt β b o cs' → (∀ b j c, β.z b j = some c → β'.z b j = some c) → ZAt β' b o cs' := fun h hz i hi => by
    obtain ⟨tg, h1⟩ := h i hi; exact ⟨tg, hz _ _ _ h1⟩
  have fnt : ∀ {β β' : Inj} {fn fn' : Fn}, (∀ l, fn ≠ .yield l) → fnRel β fn fn' → fnRel β' fn fn' := fun {β β' fn fn'} hy h => by
    cases fn with
    | yield l => exact absurd rfl (hy l)
    | _ => exact h
  induction h with
  | bool b => intro β β' v' hr hz; cases hr; exact .bool b
  | int k n => intro β β' v' hr hz; cases hr; exact .int k n
  | float k n => intro β β' v' hr hz; cases hr; exact .float k n
  | complex k n m => intro β β' v' hr hz; cases hr; exact .complex k n m
  | string s => intro β β' v' hr hz; cases hr; exact .string s
  | ptrNone => intro β β' v' hr hz; cases hr; exact .ptrNone
  | sliceNone l c => intro β β' v' hr hz; cases hr; exact .sliceNone l c
  | mapNone => intro β β' v' hr hz; cases hr; exact .mapNone
  | nilFunc => intro β β' v' hr hz; cases hr; exact .nilFunc
  | nilIface => intro β β' v' hr hz; cases hr; exact .nilIface
  | iface t _ ih => intro β β' v' hr hz; cases hr with | iface _ h => exact .iface t (ih h hz)
  | agg _ ih => intro β β' v' hr hz; cases hr with | agg h1 h2 => exact .agg h1 fun i hi hi' => ih i hi (h2 i hi hi') hz
  | tuple hp ih =>
    intro β β' v' hr hz
    cases hr with
    | tuple h1 h2 => exact .tuple h1 fun i hi hi' => ih i hi (h2 i hi hi') hz
    | lst hs hne hz' h1 hr hn hg =>
      have := hp 0 (by simp)
      cases this with
      | func h h2 h3 h4 => exact absurd rfl (h2 _ _ rfl).1
    | lpt hs hz' h1 hr =>
      have := hp 0 (by simp)
      cases this with
      | func h h2 h3 h4 => exact absurd rfl (h2 _ _ rfl).2
  | func hy hm _ _ ih1 ih2 =>
    intro β β' v' hr hz
    cases hr with
    | func hfn h1 h2 h3 h4 =>
      refine .func ?_ h1 (fun i hi hi' => ih1 i hi (h2 i hi hi') hz) h3 (fun i hi hi' => ih2 i hi (h4 i hi hi') hz)
      exact fnt hy hfn
  | lst hg hp ih =>
    intro β β' v' hr hz
    cases hr with
    | tuple h1 h2 => exact absurd rfl (tuple_enc h1 h2).1
    | lst hs hne hz' h1 hr hn hg' =>
      refine .lst hs hne (zat hz' hz) h1 (fun i hi hi' => ih i hi (hr i hi hi') hz) hn ?_
      rename_i cs nm n e g d cs' b o c'
      match g, hg, hg' with
      | 0, _, _ => trivial
      | 1, _, h => exact h
      | t + 2, h, _ => omega
  | lpt hp ih =>
    intro β β' v' hr hz
    cases hr with
    | tuple h1 h2 => exact absurd rfl (tuple_enc h1 h2).2
    | lpt hs hz' h1 hr => exact .lpt hs (zat hz' hz) h1 fun i hi hi' => ih i hi (hr i hi hi') hz

/-- WHAT A FUNCTION OF PLAIN VALUES AND LISTS DOES: it returns the value, and nothing that was there has turned. -/
def Pure (P : Program) (G : Nat) (tabs : List (Nat × List Value)) (f : FuncId) (args : List Value) (v : Value) : Prop :=
  PF v ∧ ∀ w, Tabs G tabs w → ∀ z, Rest z w → ∀ args' : Array Value, lRel (inj1 G z w.heap.size) args args'.toList → Lands P (callFunc f args') w fun v' w' =>
    Below w.heap.size w w' ∧ ∃ z', Rest z' w' ∧ (inj1 G z w.heap.size).le (inj1 G z' w.heap.size) ∧ vRel (inj1 G z' w.heap.size) v v'

/-- The functions that are replaced: by functions of plain values and lists. -/
def pureOv (pf : FuncId → List Value → Option Value) (f : FuncId) (args : List Value) (σ : AS) : Option (Value × AS) :=
  bif (args.map strip).all (flatB 100) then (match pf f (args.map strip) with | some v => some (v, σ) | none => none) else none
def pureEnv (ok : FuncId → Bool) (draws : FuncId → Nat → Option Plan) (rows : Oper → Bool) (isOv : FuncId → Bool) (pf : FuncId → List Value → Option Value) : Env :=
  { isOv, ok, draws, rows, ov := fun f args _ σ => pureOv pf f args σ }

theorem good_pureOv {lim : Nat} {pf : FuncId → List Value → Option Value} {f : FuncId} {args : List Value} : Good lim (fun σ => pureOv pf f args σ) := by
  unfold pureOv
  refine Good.cond ?_ good_none
  cases pf f (args.map strip) with
  | none => exact good_none
  | some v => exact good_some v
theorem pureEnv_good {ok : FuncId → Bool} {draws : FuncId → Nat → Option Plan} {rows : Oper → Bool} {isOv : FuncId → Bool} {pf : FuncId → List Value → Option Value} : OvGood (pureEnv ok draws rows isOv pf) := fun _ _ _ => good_pureOv

theorem plain_lRel_eq {β : Inj} : ∀ (l m : List Value), l.all (plainB 100) = true → lRel β l m → m = l
  | [], [], _, _ => rfl
  | v :: l, u :: m, h, hr => by
    simp only [List.all_cons, Bool.and_eq_true] at h
    rw [plain_eq 100 v u h.1 hr.1, plain_lRel_eq l m h.2 hr.2]
  | [], _ :: _, _, hr => hr.elim
  | _ :: _, [], _, hr => hr.elim

theorem Tabs.below {tabs : List (Nat × List Value)} {N0 : Nat} {W0 w : World} (hT : Tabs G tabs W0) (ht : tabsB G tabs = true) (hG : G ≤ N0) (hb : Below N0 W0 w) : Tabs G tabs w := by
  refine ⟨Nat.le_trans hT.1 hb.size, fun x hx => ?_⟩
  obtain ⟨C, ty, fr, h1, h2⟩ := hT.2 x hx
  have h3 := List.all_eq_true.1 ht x hx
  rw [Nat.blt_eq] at h3
  exact ⟨C, ty, fr, by rw [hb.block _ (by omega)]; exact h1, h2⟩

theorem strip_lRel {β : Inj} : ∀ {l m : List Value}, lRel β l m → lRel β (l.map strip) m
  | [], [], _ => trivial
  | _ :: _, _ :: _, h => ⟨strip_rel h.1, strip_lRel h.2⟩
  | [], _ :: _, h => h.elim
  | _ :: _, [], h => h.elim
theorem flat_turn {β β' : Inj} (hz : ∀ b j c, β.z b j = some c → β'.z b j = some c) : ∀ {l m : List Value}, l.all (flatB 100) = true → lRel β l m → lRel β' l m
  | [], [], _, _ => trivial
  | v :: l, u :: m, h, hr => by
    simp only [List.all_cons, Bool.and_eq_true] at h
    exact ⟨(flat_PF 100 v u h.1 hr.1).turn hr.1 hz, flat_turn hz h.2 hr.2⟩
  | [], _ :: _, _, hr => hr.elim
  | _ :: _, [], _, hr => hr.elim

/-- What a replaced function has brought to rest. -/
theorem R.settle {K : FuncId → Code → Prop} {W0 : World} {N0 : Nat} {β : Inj} {σ : AS} {w w' : World} (hR : R K W0 N0 β σ w) (hb : Below w.heap.size w w') {z' : Nat → Nat → Option ZC} (hr : Rest z' w') (hle : (inj1 G β.z w.heap.size).le (inj1 G z' w.heap.size)) :
    R K W0 N0 ⟨β.m, z', β.lo⟩ σ w' ∧ β.le ⟨β.m, z', β.lo⟩ := by
  have R0 := hR.below hb
  have hlo : β.lo ≤ w.heap.size := Nat.le_trans hR.zr.lo hR.top
  have hz : ∀ b j c, β.z b j = some c → z' b j = some c := hle.z
  have hzn : ∀ b j c, z' b j = some c → b < w.heap.size → β.z b j = some c := hle.zn
  have htn : ∀ b j v T k r, z' b j = some ⟨v, some (T, k, r)⟩ → T < w.heap.size → β.z b j = some ⟨v, some (T, k, r)⟩ := hle.tn
  have hle' : β.le ⟨β.m, z', β.lo⟩ := ⟨fun _ _ h => h, hz, rfl, fun b j c h hl => hzn b j c h (by omega), fun b j v T k r h hl => htn b j v T k r h (by omega)⟩
  refine ⟨R0.rez rfl hle' (fun _ _ h => .inl h) ?_, hle'⟩
  have free : ∀ {b}, b < w.heap.size → (∀ j, β.z b j = none) → ∀ j, z' b j = none := by
    intro b hlt h j
    cases hc : z' b j with
    | none => rfl
    | some c => have := hzn b j c hc hlt; rw [h] at this; cases this
  exact
  { lo := hR.zr.lo
    zone := hr.zone
    own := fun hb hg hx => free (hR.lt hb) (hR.zr.own hb hg hx)
    tl := fun {id e n esz T} hb' hg => by
      obtain ⟨k0, k1, k2, b, o, C, fr, k3, k4, k5, k6, k7, k8, k9⟩ := R0.zr.tl hb' hg
      obtain ⟨v0, hv0⟩ := k6 0 k0
      have hlt : b < w.heap.size := hR.zlt hv0
      refine ⟨k0, k1, k2, b, o, C, fr, k3, k4, k5, fun i hi => ?_, fun j hj => ?_, fun b' j' v k real hc => ?_, k9⟩
      · obtain ⟨v, hv⟩ := k6 i hi; exact ⟨v, hz _ _ _ hv⟩
      · show z' b j = none
        cases hc : z' b j with
        | none => rfl
        | some c => have := hzn b j c hc hlt; rw [k7 j hj] at this; cases this
      · exact k8 _ _ _ _ _ (htn _ _ _ _ _ _ hc (hR.lt hb'))
    uni := hR.zr.uni
    tags := hr.tags }

theorem pureOv_ok {K : FuncId → Code → Prop} {pf : FuncId → List Value → Option Value} {tabs : List (Nat × List Value)} (ht : tabsB G tabs = true) {f : FuncId} (hpf : ∀ args v, pf f args = some v → Pure P G tabs f args v) {W0 : World} {N0 : Nat} (hT : Tabs G tabs W0) (hN : G ≤ N0)
    {args : List Value} {σ σ' : AS} {v : Value} (hr : pureOv pf f args σ = some (v, σ')) {β : Inj} {τ : AS} {w : World} {args' : Array Value} (hl : σ.Like τ) (hR : R K W0 N0 β τ w) (ha : lRel β args args'.toList) :
    Lands P (callFunc f args') w (Post K W0 N0 β σ σ' τ v) := by
  unfold pureOv at hr
  cases hpl : (args.map strip).all (flatB 100) with
  | false => rw [hpl] at hr; cases hr
  | true =>
    rw [hpl, cond_true] at hr
    cases hv : pf f (args.map strip) with
    | none => rw [hv] at hr; cases hr
    | some u =>
      rw [hv] at hr
      simp only [Option.some.injEq, Prod.mk.injEq] at hr
      obtain ⟨rfl, rfl⟩ := hr
      obtain ⟨hu, hP⟩ := hpf _ _ hv
      refine (hP w (hT.below ht hN hR.base) β.z hR.zr.rest args' (flat_turn (β := β) (β' := inj1 G β.z w.heap.size) (fun _ _ _ h => h) hpl (strip_lRel ha))).mono fun v' w' h => ?_
      obtain ⟨hb, z', hr', hle, hvr⟩ := h
      obtain ⟨R1, hle'⟩ := hR.settle hb hr' hle
      exact ⟨_, τ, ⟨hle', fun _ _ h => .inl h⟩, .refl hl, R1, hu.turn hvr fun _ _ _ h => h⟩

theorem pureEnv_ok {K : FuncId → Code → Prop} {ok : FuncId → Bool} {draws : FuncId → Nat → Option Plan} {rows : Oper → Bool} {isOv : FuncId → Bool} {pf : FuncId → List Value → Option Value} {tabs : List (Nat × List Value)} (ht : tabsB G tabs = true)
    (hpf : ∀ f args v, isOv f = true → pf f args = some v → Pure P G tabs f args v) {W0 : World} {N0 : Nat} (hT : Tabs G tabs W0) (hN : G ≤ N0) : OvOk P K W0 N0 G (pureEnv ok draws rows isOv pf) := by
  intro f args lim σ v σ' hi hr β τ w args' hw hl hR hf hG ha
  exact pureOv_ok ht (hpf f · · hi) hT hN hr hl hR ha

/-- THE TOP THEOREM: what the interpreter answers, the machine answers; of what was there, nothing has turned. -/
theorem top {E : Env} {tabs : List (Nat × List Value)} (hZ : ZeroOk P) (hM : P.follows .mixedOrders = true) (ht : tabsB G tabs = true) (hGood : OvGood E)
    (hOk : ∀ w, Tabs G tabs w → OvOk P (CodeK G E) w w.heap.size G E) (hFn : FnOk P G E) {n : Nat} {f : FuncId} {args : List Value} {v u : Value} {σ' : AS}
    (hr : run P E n 0 (.call f args) (base0 G tabs) = some (.val v, σ')) (hu : strip v = u) (hv : PF u) : Pure P G tabs f args u := by
  subst hu
  refine ⟨hv, fun w hT z hz args' ha => ?_⟩
  have hS := (sound (W0 := w) (N0 := w.heap.size) hZ hM hGood (hOk w hT) hFn n).1
  have hn : (base0 G tabs).next = G := base0_next _ _
  refine (hS 0 f args (base0 G tabs) v σ' hr (inj1 G z w.heap.size) (base0 G tabs) w args' (base0_wf ht) ⟨rfl, fun _ _ => rfl⟩ (base0_R ht hT hz) (fun i h1 h2 => ?_) (fun g hg => ?_) ha).mono fun v' w' h => ?_
  · dsimp only [inj1]; rw [if_neg (by omega)]
  · dsimp only [inj1]; rw [if_pos hg]
  · obtain ⟨β', τ', x, _, hR, hvr⟩ := h
    refine ⟨hR.base, β'.z, hR.zr.rest, ⟨fun _ _ h => h, x.1.z, rfl, x.1.zn, x.1.tn⟩, hv.turn (strip_rel hvr) fun _ _ _ h => h⟩

/-- A pure function that has a body is called so. -/
theorem Pure.calls {tabs : List (Nat × List Value)} {f : FuncId} {args : List Value} {v : Value} (h : Pure P G tabs f args v) (hpl : args.all (plainB 100) = true) (hpv : plainB 100 v = true) {fn : Func} (hfn : P.funcs[f]? = some fn) (hb : fn.body.isNone = false) (hname : (fn.name == "runtime.NumGoroutine") = false) {w : World} (hT : Tabs G tabs w) :
    Calls P f args.toArray w fun e w' => e = .returned v ∧ Below w.heap.size w w' := by
  have hcall : (callFunc f args.toArray).run P w = .ok (.enter f args.toArray) w := by
    unfold callFunc
    rw [run_bind']
    show (match P.funcs[f]? with | none => _ | some fn => _ : Sem Next).run P w = _
    rw [hfn]
    simp only [hname, Bool.false_eq_true, if_false, hb]
    rfl
  cases h.2 w hT _ (rest_none w) args.toArray (plain_lRel args hpl) with
  | value h1 => rw [hcall] at h1; cases h1
  | skip h1 => rw [hcall] at h1; cases h1
  | row h1 => rw [hcall] at h1; cases h1
  | round h1 => rw [hcall] at h1; cases h1
  | enter h1 q =>
    rw [hcall] at h1
    cases h1
    intro cs
    obtain ⟨e, w', fr, ⟨v', rfl, hb, z', _, _, hv⟩, r⟩ := q cs
    exact ⟨_, w', fr, ⟨by rw [plain_eq 100 v v' hpv hv], hb⟩, r⟩

end Go.Va

/-
  THE INTERPRETER WITH HINTS: a run over values that are not all known; where a condition cannot be told, a hint says it, and it is noted as a premise. That a deeper run answers the same.
-/
namespace Go.Va

def Rec.le (r r' : Rec) : Prop := ∀ lim k σ x, r lim k σ = some x → r' lim k σ = some x
def rec0 : Rec := fun _ _ _ => none
theorem Rec.le0 (r : Rec) : rec0.le r := fun _ _ _ _ h => by cases h

section
variable {P : Program} {E : Env} {r r' : Rec}

theorem enterA_mono (h : r.le r') {lim : Nat} {f : FuncId} {args : List Value} {σ : AS} {x} (e : enterA P E r lim f args σ = some x) : enterA P E r' lim f args σ = some x := by
  unfold enterA at *
  cases hi : E.isOv f with
  | true => rw [hi] at e; exact e
  | false =>
    rw [hi, cond_false] at e
    rw [cond_false]
    split at e
    · rename_i v σ' hr; rw [h _ _ _ _ hr]; exact e
    · cases e

theorem applyA_mono (h : r.le r') {lim : Nat} {f : Value} {args : List Value} {σ : AS} {x} (e : applyA P E r lim f args σ = some x) : applyA P E r' lim f args σ = some x := by
  unfold applyA at *
  split at e
  · exact enterA_mono h e
  · split at e
    · split at e
      · rename_i hr; rw [h _ _ _ _ hr]; exact e
      · cases e
    · cases e
  · cases e

theorem operB_mono (h : r.le r') {lim : Nat} {o : Oper} {t : List Value} {σ : AS} {x} (e : operB P E r lim o t σ = some x) : operB P E r' lim o t σ = some x := by
  unfold operB at *
  split at e
  case h_7 c => 
    split at e
    case h_6 f => exact applyA_mono h e
    all_goals exact e
  all_goals exact e

theorem operA_mono (h : r.le r') {lim : Nat} {o : Oper} {t : List Value} {σ : AS} {x} (e : operA P E r lim o t σ = some x) : operA P E r' lim o t σ = some x := by
  unfold operA at *
  split at e
  · exact e
  · split at e
    · rename_i ho; rw [operB_mono h ho]; exact e
    · cases e

theorem opsA_mono (h : r.le r') {ops : Array Oper} {q : Bool} {lim : Nat} : ∀ {l : List Oper} {t : List Value} {σ : AS} {x}, opsA P E r ops q lim l t σ = some x → opsA P E r' ops q lim l t σ = some x
  | [], t, σ, x, e => e
  | o :: l, t, σ, x, e => by
    unfold opsA at *
    cases hw : Region.wanted o (yieldedL ops t) with
    | true =>
      rw [hw, cond_true] at e
      rw [cond_true]
      split at e
      · rename_i v σ' ho; rw [operA_mono h ho]; exact opsA_mono h e
      · cases e
    | false => rw [hw, cond_false] at e; rw [cond_false]; exact opsA_mono h e

theorem op1_mono (h : r.le r') {ops : Array Oper} {q : Bool} {lim : Nat} {o : Oper} {t : List Value} {σ : AS} {x} (e : op1 P E r ops q lim o t σ = some x) : op1 P E r' ops q lim o t σ = some x := by
  unfold op1 at *
  cases hw : Region.wanted o (yieldedL ops t) with
  | true => rw [hw, cond_true] at e; rw [cond_true]; exact operA_mono h e
  | false => rw [hw, cond_false] at e; rw [cond_false]; exact e

theorem opsI_mono (h : r.le r') {ops : Array Oper} {lim : Nat} : ∀ {l : List (Nat × Bool)} {t : List Value} {σ : AS} {x}, opsI P E r ops lim l t σ = some x → opsI P E r' ops lim l t σ = some x
  | [], t, σ, x, e => e
  | y :: l, t, σ, x, e => by
    unfold opsI at *
    split at e
    · split at e
      · rename_i ho; rw [op1_mono h ho]; exact opsI_mono h e
      · cases e
    · cases e

theorem rangeA_mono (h : r.le r') {lim : Nat} {c : Ctx} {f : Operand} {params : Array Tmp} {assign body : Code} {t : List Value} {ds : List Nat} {σ : AS} {x} (e : rangeA P E r lim c f params assign body t ds σ = some x) : rangeA P E r' lim c f params assign body t ds σ = some x := by
  unfold rangeA at *
  split at e
  · split at e
    · split at e
      · rename_i ha; rw [applyA_mono h ha]; exact e
      · cases e
    · cases e
  · cases e

theorem stepA_mono (h : r.le r') {lim : Nat} {k : Task} {σ : AS} {x} (e : stepA P E r lim k σ = some x) : stepA P E r' lim k σ = some x := by
  cases k with
  | code c cd t ds =>
    unfold stepA at *
    cases cd with
    | skip => exact e
    | label => exact e
    | region id ops draw =>
      dsimp only at *
      cases draw with
      | true =>
        simp only [cond_true] at *
        split at e
        · split at e
          · rename_i ho; rw [opsI_mono h ho]; exact e
          · cases e
        · cases e
      | false =>
        simp only [cond_false] at *
        split at e
        · rename_i ho; rw [opsA_mono h ho]; exact e
        · cases e
    | seq a b =>
      dsimp only at *
      split at e
      · rename_i ho; rw [h _ _ _ _ ho]; exact h _ _ _ _ e
      · rename_i hn
        rw [h _ _ _ _ e]
        split
        · rename_i he; exact absurd (e.trans he) (hn _ _ _)
        · rfl
    | cond c a b =>
      dsimp only at *
      split at e
      · exact h _ _ _ _ e
      · cases e
    | block id body =>
      dsimp only at *
      split at e
      · rename_i ho; rw [h _ _ _ _ ho]; exact e
      · rename_i hn
        rw [h _ _ _ _ e]
        split
        · rename_i he; exact absurd (e.trans he) (hn _ _ _ _)
        · rfl
    | loop body =>
      dsimp only at *
      split at e
      · rename_i ho; rw [h _ _ _ _ ho]; exact h _ _ _ _ e
      · rename_i hn
        rw [h _ _ _ _ e]
        split
        · rename_i he; exact absurd (e.trans he) (hn _ _ _)
        · rfl
    | rangeFunc f params assign body => exact rangeA_mono h e
    | exit id => exact e
    | scope body => exact h _ _ _ _ e
    | goto l => exact e
    | ret => exact e
    | refuse => exact e
  | scope c body cur t ds =>
    unfold stepA at *
    dsimp only at *
    split at e
    · rename_i ho; rw [h _ _ _ _ ho]
      dsimp only
      split at e
      · exact h _ _ _ _ e
      · exact e
    · rename_i hn
      rw [h _ _ _ _ e]
      split
      · rename_i he; exact absurd (e.trans he) (hn _ _ _ _)
      · rfl
  | call f args =>
    unfold stepA at *
    dsimp only at *
    cases hok : E.ok f with
    | false => rw [hok] at e; cases e
    | true =>
      rw [hok, cond_true] at e
      rw [cond_true]
      split at e
      · split at e
        · split at e
          · rename_i ho; rw [h _ _ _ _ ho]; exact e
          · cases e
        · cases e
      · cases e
  | round l f t assign body =>
    unfold stepA at *
    dsimp only at *
    split at e
    · rename_i ho; rw [h _ _ _ _ ho]
      dsimp only
      split at e
      · rename_i hb
        split at e
        · rename_i h3; rw [h _ _ _ _ h3]; exact e
        · cases e
      · cases e
    · cases e

theorem run_succ : ∀ n, (run P E n).le (run P E (n + 1))
  | 0 => fun _ _ _ _ h => by cases h
  | n + 1 => fun _ _ _ _ h => stepA_mono (run_succ n) h
theorem run_mono {n m : Nat} (h : n ≤ m) : (run P E n).le (run P E m) := by
  induction h with
  | refl => exact fun _ _ _ _ h => h
  | step _ ih => exact fun _ _ _ _ h => run_succ _ _ _ _ _ (ih _ _ _ _ h)

/-! ## The limit -/

/-- What the interpreter answers at some depth. -/
noncomputable def runW (P : Program) (E : Env) : Rec := fun lim k σ =>
  open Classical in if h : ∃ x, ∃ n, run P E n lim k σ = some x then some h.choose else none

theorem runW_of {n : Nat} {lim : Nat} {k : Task} {σ : AS} {x : Out × AS} (h : run P E n lim k σ = some x) : runW P E lim k σ = some x := by
  unfold runW
  have hx : ∃ x, ∃ n, run P E n lim k σ = some x := ⟨x, n, h⟩
  rw [dif_pos hx]
  obtain ⟨m, hm⟩ := hx.choose_spec
  have h1 := run_mono (Nat.le_max_left n m) _ _ _ _ h
  have h2 := run_mono (Nat.le_max_right n m) _ _ _ _ hm
  rw [h1] at h2
  exact congrArg some (Option.some.inj h2).symm
theorem runW_some {lim : Nat} {k : Task} {σ : AS} {x : Out × AS} (h : runW P E lim k σ = some x) : ∃ n, run P E n lim k σ = some x := by
  unfold runW at h
  split at h
  · rename_i hx
    obtain ⟨n, hn⟩ := hx.choose_spec
    cases h
    exact ⟨n, hn⟩
  · cases h
theorem run_le_runW (n : Nat) : (run P E n).le (runW P E) := fun _ _ _ _ h => runW_of h

theorem enterA_cont {lim : Nat} {f : FuncId} {args : List Value} {σ : AS} {x} (e : enterA P E (runW P E) lim f args σ = some x) : ∃ n, enterA P E (run P E n) lim f args σ = some x := by
  unfold enterA at *
  cases hi : E.isOv f with
  | true => rw [hi] at e; exact ⟨0, e⟩
  | false =>
    rw [hi, cond_false] at e
    split at e
    · rename_i v σ' hr
      obtain ⟨n, hn⟩ := runW_some hr
      exact ⟨n, by rw [cond_false, hn]; exact e⟩
    · cases e

theorem applyA_cont {lim : Nat} {f : Value} {args : List Value} {σ : AS} {x} (e : applyA P E (runW P E) lim f args σ = some x) : ∃ n, applyA P E (run P E n) lim f args σ = some x := by
  unfold applyA at *
  split at e
  · exact enterA_cont e
  · split at e
    · split at e
      · rename_i hr
        obtain ⟨n, hn⟩ := runW_some hr
        exact ⟨n, by rw [hn]; exact e⟩
      · cases e
    · cases e
  · cases e

theorem operB_cont {lim : Nat} {o : Oper} {t : List Value} {σ : AS} {x} (e : operB P E (runW P E) lim o t σ = some x) : ∃ n, operB P E (run P E n) lim o t σ = some x := by
  unfold operB at *
  split at e
  case h_7 c =>
    split at e
    case h_6 f => exact applyA_cont e
    all_goals exact ⟨0, e⟩
  all_goals exact ⟨0, e⟩

theorem operA_cont {lim : Nat} {o : Oper} {t : List Value} {σ : AS} {x} (e : operA P E (runW P E) lim o t σ = some x) : ∃ n, operA P E (run P E n) lim o t σ = some x := by
  unfold operA at *
  split at e
  · exact ⟨0, e⟩
  · split at e
    · rename_i ho
      obtain ⟨n, hn⟩ := operB_cont ho
      exact ⟨n, by rw [hn]; exact e⟩
    · cases e

theorem opsA_cont {ops : Array Oper} {q : Bool} {lim : Nat} : ∀ {l : List Oper} {t : List Value} {σ : AS} {x}, opsA P E (runW P E) ops q lim l t σ = some x → ∃ n, opsA P E (run P E n) ops q lim l t σ = some x
  | [], t, σ, x, e => ⟨0, e⟩
  | o :: l, t, σ, x, e => by
    unfold opsA at *
    cases hw : Region.wanted o (yieldedL ops t) with
    | true =>
      rw [hw, cond_true] at e
      split at e
      · rename_i v σ' ho
        obtain ⟨n, hn⟩ := operA_cont ho
        obtain ⟨m, hm⟩ := opsA_cont e
        exact ⟨max n m, by rw [cond_true, operA_mono (run_mono (Nat.le_max_left n m)) hn]; exact opsA_mono (run_mono (Nat.le_max_right n m)) hm⟩
      · cases e
    | false =>
      rw [hw, cond_false] at e
      obtain ⟨m, hm⟩ := opsA_cont e
      exact ⟨m, by rw [cond_false]; exact hm⟩

theorem op1_cont {ops : Array Oper} {q : Bool} {lim : Nat} {o : Oper} {t : List Value} {σ : AS} {x} (e : op1 P E (runW P E) ops q lim o t σ = some x) : ∃ n, op1 P E (run P E n) ops q lim o t σ = some x := by
  unfold op1 at *
  cases hw : Region.wanted o (yieldedL ops t) with
  | true =>
    rw [hw, cond_true] at e
    obtain ⟨n, hn⟩ := operA_cont e
    exact ⟨n, by rw [cond_true]; exact hn⟩
  | false => rw [hw, cond_false] at e; exact ⟨0, by rw [cond_false]; exact e⟩

theorem opsI_cont {ops : Array Oper} {lim : Nat} : ∀ {l : List (Nat × Bool)} {t : List Value} {σ : AS} {x}, opsI P E (runW P E) ops lim l t σ = some x → ∃ n, opsI P E (run P E n) ops lim l t σ = some x
  | [], t, σ, x, e => ⟨0, e⟩
  | y :: l, t, σ, x, e => by
    unfold opsI at *
    split at e
    · rename_i o hy
      split at e
      · rename_i ho
        obtain ⟨n, hn⟩ := op1_cont ho
        obtain ⟨m, hm⟩ := opsI_cont e
        exact ⟨max n m, by rw [op1_mono (run_mono (Nat.le_max_left n m)) hn]; exact opsI_mono (run_mono (Nat.le_max_right n m)) hm⟩
      · cases e
    · cases e

theorem rangeA_cont {lim : Nat} {c : Ctx} {f : Operand} {params : Array Tmp} {assign body : Code} {t : List Value} {ds : List Nat} {σ : AS} {x} (e : rangeA P E (runW P E) lim c f params assign body t ds σ = some x) :
    ∃ n, rangeA P E (run P E n) lim c f params assign body t ds σ = some x := by
  unfold rangeA at *
  split at e
  · rename_i h1
    split at e
    · rename_i m hm
      split at e
      · rename_i ha
        obtain ⟨n, hn⟩ := applyA_cont ha
        exact ⟨n, by rw [hn]; exact e⟩
      · cases e
    · cases e
  · cases e

theorem stepA_cont {lim : Nat} {k : Task} {σ : AS} {x} (e : stepA P E (runW P E) lim k σ = some x) : ∃ n, stepA P E (run P E n) lim k σ = some x := by
  cases k with
  | code c cd t ds =>
    unfold stepA at *
    cases cd with
    | skip => exact ⟨0, e⟩
    | label => exact ⟨0, e⟩
    | region id ops draw =>
      dsimp only at *
      cases draw with
      | true =>
        simp only [cond_true] at *
        split at e
        · rename_i hd
          split at e
          · rename_i ho
            obtain ⟨n, hn⟩ := opsI_cont ho
            exact ⟨n, by rw [hn]; exact e⟩
          · cases e
        · cases e
      | false =>
        simp only [cond_false] at *
        split at e
        · rename_i ho
          obtain ⟨n, hn⟩ := opsA_cont ho
          exact ⟨n, by rw [hn]; exact e⟩
        · cases e
    | seq a b =>
      dsimp only at *
      split at e
      · rename_i ho
        obtain ⟨n, hn⟩ := runW_some ho
        obtain ⟨m, hm⟩ := runW_some e
        exact ⟨max n m, by rw [run_mono (Nat.le_max_left n m) _ _ _ _ hn]; exact run_mono (Nat.le_max_right n m) _ _ _ _ hm⟩
      · rename_i hn
        obtain ⟨n, h1⟩ := runW_some e
        refine ⟨n, ?_⟩
        rw [h1]
        split
        · rename_i he; cases he; exact absurd e (hn _ _ _)
        · rfl
    | cond c a b =>
      dsimp only at *
      split at e
      · obtain ⟨n, hn⟩ := runW_some e
        exact ⟨n, hn⟩
      · cases e
    | block id body =>
      dsimp only at *
      split at e
      · rename_i ho
        obtain ⟨n, hn⟩ := runW_some ho
        exact ⟨n, by rw [hn]; exact e⟩
      · rename_i hn
        obtain ⟨n, h1⟩ := runW_some e
        refine ⟨n, ?_⟩
        rw [h1]
        split
        · rename_i he; cases he; exact absurd e (hn _ _ _ _)
        · rfl
    | loop body =>
      dsimp only at *
      split at e
      · rename_i ho
        obtain ⟨n, hn⟩ := runW_some ho
        obtain ⟨m, hm⟩ := runW_some e
        exact ⟨max n m, by rw [run_mono (Nat.le_max_left n m) _ _ _ _ hn]; exact run_mono (Nat.le_max_right n m) _ _ _ _ hm⟩
      · rename_i hn
        obtain ⟨n, h1⟩ := runW_some e
        refine ⟨n, ?_⟩
        rw [h1]
        split
        · rename_i he; cases he; exact absurd e (hn _ _ _)
        · rfl
    | rangeFunc f params assign body => exact rangeA_cont e
    | exit id => exact ⟨0, e⟩
    | scope body => exact runW_some e
    | goto l => exact ⟨0, e⟩
    | ret => exact ⟨0, e⟩
    | refuse => exact ⟨0, e⟩
  | scope c body cur t ds =>
    unfold stepA at *
    dsimp only at *
    split at e
    · rename_i ho
      obtain ⟨n, hn⟩ := runW_some ho
      split at e
      · rename_i hl
        obtain ⟨m, hm⟩ := runW_some e
        refine ⟨max n m, ?_⟩
        rw [run_mono (Nat.le_max_left n m) _ _ _ _ hn]
        dsimp only
        rw [hl]
        exact run_mono (Nat.le_max_right n m) _ _ _ _ hm
      · rename_i hl
        refine ⟨n, ?_⟩
        rw [hn]
        dsimp only
        rw [hl]
        exact e
    · rename_i hn
      obtain ⟨n, h1⟩ := runW_some e
      refine ⟨n, ?_⟩
      rw [h1]
      split
      · rename_i he; cases he; exact absurd e (hn _ _ _ _)
      · rfl
  | call f args =>
    unfold stepA at *
    dsimp only at *
    cases hok : E.ok f with
    | false => rw [hok] at e; cases e
    | true =>
      rw [hok, cond_true] at e
      simp only [cond_true]
      split at e
      · rename_i fn hf
        split at e
        · rename_i c hc
          split at e
          · rename_i ho
            obtain ⟨n, hn⟩ := runW_some ho
            refine ⟨n, ?_⟩
            rw [hn]
            exact e
          · cases e
        · cases e
      · cases e
  | round l f t assign body =>
    unfold stepA at *
    dsimp only at *
    split at e
    · rename_i ho
      obtain ⟨n, hn⟩ := runW_some ho
      split at e
      · rename_i hb
        split at e
        · rename_i h3
          obtain ⟨m, hm⟩ := runW_some h3
          refine ⟨max n m, ?_⟩
          rw [run_mono (Nat.le_max_left n m) _ _ _ _ hn]
          dsimp only
          rw [hb]
          dsimp only
          rw [run_mono (Nat.le_max_right n m) _ _ _ _ hm]
          exact e
        · cases e
      · cases e
    · cases e

/-- One step more of the limit is the limit. -/
theorem runW_step {lim : Nat} {k : Task} {σ : AS} {x : Out × AS} (e : stepA P E (runW P E) lim k σ = some x) : runW P E lim k σ = some x := by
  obtain ⟨n, hn⟩ := stepA_cont e
  exact runW_of (n := n + 1) hn
end
end Go.Va

/-
  THE INTERPRETER WITH HINTS: definitions.
-/
namespace Go.Va

/-- A hint: which way a condition turns; what an operation answers; that the guard of a partial operation holds. -/
inductive Hint where
  | br (b : Bool)
  | val (v : Value)
  | ok
  | cells (c : List Value)
  | skip (o : Out) (σ : AS)
  | res (v : Value) (σ : AS)
  | is (v : Value)
  | eq (v : Value)
  | ov (v : Value)
  | nop
  | sem (v : Value) (σ : AS)
  | stop

/-- The hints that are left, each with the number of steps before it; what has been noted as a premise. -/
structure HS where
  hs : List (Nat × Hint)
  ob : List Prop

def HS.tick (s : HS) : Option Hint × HS :=
  match s.hs with
  | [] => (none, s)
  | (k, h) :: l => bif Nat.beq k 0 then (some h, ⟨l, s.ob⟩) else (none, ⟨(k - 1, h) :: l, s.ob⟩)
def HS.note (s : HS) (p : Prop) : HS := ⟨s.hs, p :: s.ob⟩

/-- A value is brought to its form before it is handed on (for the kernel's sake). -/
def force {β : Type} : Value → (Value → β) → β
  | .bool b, k => k (.bool b)
  | .int x n, k => k (.int x n)
  | .string b, k => k (.string b)
  | .pointer a, k => k (.pointer a)
  | .slice a l c, k => k (.slice a l c)
  | .tuple a, k => k (.tuple a)
  | .agg a, k => k (.agg a)
  | .iface a b, k => k (.iface a b)
  | .func a b c, k => k (.func a b c)
  | .map a, k => k (.map a)
  | .nilIface, k => k .nilIface
  | .nilFunc, k => k .nilFunc
  | v, k => k v
theorem force_eq {β : Type} (v : Value) (k : Value → β) : force v k = k v := by cases v <;> rfl
def forceL {β : Type} : List Value → (List Value → β) → β
  | [], k => k []
  | v :: l, k => force v fun v' => forceL l fun l' => k (v' :: l')
theorem forceL_eq {β : Type} : ∀ (l : List Value) (k : List Value → β), forceL l k = k l
  | [], _ => rfl
  | v :: l, k => by unfold forceL; rw [force_eq, forceL_eq]

def isB (v : Value) (b : Bool) : Prop := match v with
  | .bool x => x = b
  | _ => False
theorem isB_eq {v : Value} {b : Bool} (h : isB v b) : v = .bool b := by
  cases v <;> first | (rw [show _ = b from h]) | exact h.elim

abbrev RecH := Nat → Task → AS → HS → Option (Out × AS × HS)

def liftH {α : Type} (s : HS) : Option (α × AS) → Option (α × AS × HS)
  | some (a, σ) => some (a, σ, s)
  | none => none

/-- What a partial operation answers, and when. -/
def guarded (P : Program) (o : Oper) (t : List Value) : Option (Value × Prop) :=
  match o.op with
  | .binOp .shl _ x y _ => (match ev t x, ev t y with
    | .int k a, .int _ b => some (.int k (k.wrap (a * 2 ^ (min b.toNat k.bits))), 0 ≤ b)
    | _, _ => none)
  | .binOp .shr _ x y _ => (match ev t x, ev t y with
    | .int k a, .int _ b => some (.int k (a.fdiv (2 ^ (min b.toNat k.bits))), 0 ≤ b)
    | _, _ => none)
  | .binOp .add _ x y _ => (match ev t x, ev t y with
    | .string a, .string b => some (.string (a ++ b), ((a.size + b.size : Nat) : Int) ≤ IntKind.i64.max)
    | _, _ => none)
  | .indexAddr xt x i => (match P.underlying xt, ev t x, ev t i with
    | some (.array n el), .pointer (some ⟨b, q, none⟩), .int _ j => (match P.info? el with
      | some d => some (.pointer (some ⟨b, q + j.toNat * d.size, none⟩), 0 ≤ j ∧ j < n)
      | none => none)
    | some (.slice el), .slice (some ⟨b, q, none⟩) n _, .int _ j => (match P.info? el with
      | some d => some (.pointer (some ⟨b, q + j.toNat * d.size, none⟩), 0 ≤ j ∧ j < n)
      | none => none)
    | _, _, _ => none)
  | .index xt x ix => (match P.underlying xt, ev t x, ev t ix with
    | some .string, .string s, .int _ i => some (.int .u8 (s.data.toList.getD i.toNat 0).toNat, 0 ≤ i ∧ i < s.size)
    | _, _, _ => none)
  | .slice st x lo hi none => (match P.underlying st, ev t x, lo.map (ev t), hi.map (ev t) with
    | some .string, .string s, some (.int _ l), some (.int _ h) => some (.string (s.extract l.toNat h.toNat), 0 ≤ l ∧ l ≤ h ∧ h ≤ s.size)
    | some .string, .string s, none, some (.int _ h) => some (.string (s.extract 0 h.toNat), 0 ≤ h ∧ h ≤ s.size)
    | some .string, .string s, some (.int _ l), none => some (.string (s.extract l.toNat s.size), 0 ≤ l ∧ l ≤ s.size)
    | _, _, _, _ => none)
  | _ => none

/-- What an operation of lists answers, and when. 'nop': nothing is appended. -/
def lopG (P : Program) (E : Env) (lim : Nat) (nop : Bool) (o : Oper) (t : List Value) (σ : AS) : Option (Value × AS × Prop) :=
  match o.op with
  | .indexAddr xt x i =>
    (match ev t i, P.underlying xt with
    | .int _ j, some (.slice el) => (match asL (ev t x), P.info? el with
      | some (c, n, e, _), some d => bif Nat.beq e d.size then some (Pt c (j.toNat * e), σ, 0 ≤ j ∧ j < n) else none
      | _, _ => none)
    | .int _ j, some (.array n el) => (match asP (ev t x), P.info? el with
      | some (c, k), some d => some (Pt c (k + j.toNat * d.size), σ, 0 ≤ j ∧ j < n)
      | _, _ => none)
    | _, _ => none)
  | .sliceToArrayPointer d x => (match asL (ev t x), P.underlying d with
    | some (c, n, _, _), some (.array m _) => some (Pt c 0, σ, m ≤ n)
    | _, _ => none)
  | .slice st x lo hi mx =>
    (match asL (ev t x), P.underlying st with
    | some (c, n, e, g), some (.slice el) => (match P.info? el with
      | some i => bif Nat.beq e i.size then (match lo.map (ev t), hi.map (ev t), mx.map (ev t) with
          | some (.int _ l), none, none => some (L (c.drop (l.toNat * e)) (n - l.toNat) e (bif Nat.beq g 1 then 1 else 0), σ, 0 ≤ l ∧ l ≤ n)
          | none, some (.int _ h), none => some (L (c.take (h.toNat * e)) h.toNat e 0, σ, 0 ≤ h ∧ h ≤ n)
          | some (.int _ l), some (.int _ h), none => some (L ((c.drop (l.toNat * e)).take ((h.toNat - l.toNat) * e)) (h.toNat - l.toNat) e 0, σ, 0 ≤ l ∧ l ≤ h ∧ h ≤ n)
          | none, some (.int _ h), some (.int _ m) => some (L (c.take (h.toNat * e)) h.toNat e 1, σ, 0 ≤ h ∧ h ≤ n ∧ m = h)
          | some (.int _ l), some (.int _ h), some (.int _ m) => some (L ((c.drop (l.toNat * e)).take ((h.toNat - l.toNat) * e)) (h.toNat - l.toNat) e 1, σ, 0 ≤ l ∧ l ≤ h ∧ h ≤ n ∧ m = h)
          | _, _, _ => none) else none
      | none => none)
    | _, _ => none)
  | .call c =>
    (match c.callee, c.args.toList.map (ev t), c.argTypes[0]? with
    | .builtin .append, [s, x], some sType => (match P.underlying sType with
      | some (.slice elem) => (match P.info? elem with
        | some i => (match newOk P lim i c.argTypes[1]? x σ with
          | some (new, n) => bif Nat.blt 0 i.bytes && i.zero.isSome && Nat.blt 0 i.size then
              (match asL s with
              | some (_, _, _, 0) => some (s, σ, n = 0)
              | some (c, m, e, 1) => bif nop then some (s, σ, n = 0) else bif Nat.beq e i.size then
                  some (L (c ++ new) (m + n) e (σ.next + 2), σ.push (.tail (c ++ new).length e elem), n ≠ 0 ∧ (m + n) * i.bytes ≤ 70368744177664) else none
              | some (c, m, e, t + 2) => (match σ.get t with
                | some (.tail k e' T) => bif Nat.beq e i.size && Nat.beq e' e && Nat.beq T elem && Nat.ble lim t then
                    some (L (c ++ new) (m + n) e (t + 2), σ.put t (some (.tail (c ++ new).length e T)), k = c.length ∧ (m + n) * i.bytes ≤ 70368744177664) else none
                | _ => none)
              | none => bif E.rows o then none else
                (match s with
                | .slice none 0 0 => bif nop then some (s, σ, n = 0) else
                    some (L new n i.size (σ.next + 2), σ.push (.tail new.length i.size elem), n ≠ 0 ∧ n * i.bytes ≤ 70368744177664)
                | _ => none))
            else none
          | none => none)
        | none => none)
      | _ => none)
    | _, _, _ => none)
  | _ => none

/-- What an operation of lists is said to answer. -/
def lopIs (P : Program) (o : Oper) (t : List Value) (v : Value) : Option Prop :=
  match o.op with
  | .load ty x => (match asP (ev t x) with
    | some (c, k) => some (loadL P ty c k = some v)
    | none => none)
  | .convert src dst x => (match asL (ev t x) with
    | some (c, _, e, _) => some (strL P src dst c e = some v)
    | none => none)
  | _ => none

/-- What is said to stand in a row. -/
def rowIs (P : Program) (o : Oper) (t : List Value) (v : Value) (σ : AS) : Option Prop :=
  match o.op with
  | .load ty x => (match ev t x, P.underlying ty with
    | .pointer (some a), some d => bif aggT d then none else some (σ.cell? a = some v)
    | _, _ => none)
  | _ => none

/-- append, of either kind. -/
def appA (P : Program) (rows : Bool) (lim : Nat) (argTypes : Array TypeId) (args : List Value) (σ : AS) : Option (Value × AS) :=
  match appendL P rows lim argTypes args σ with
  | some r => r
  | none => appendA P lim argTypes args σ

/-- What an operation that looks at the heap is said to answer. -/
noncomputable def semIs (P : Program) (E : Env) (lim : Nat) (o : Oper) (t : List Value) (v : Value) (σ σ' : AS) : Option (Value × Prop) :=
  match o.op with
  | .store ty x y => (match ev t x, P.info? ty with
    | .pointer (some a), some i => bif Nat.beq (ev t y).cells.size i.size then some (undef, σ.setCells lim a (ev t y).cells.toList 0 = some σ') else none
    | _, _ => none)
  | .load ty x => (match ev t x with
    | .pointer (some a) => some (v, runA P lim (loadVar ty a) σ = some (v, σ'))
    | _ => none)
  | .slice st x lo hi mx => (match asL (ev t x), asP (ev t x) with
    | none, none => some (v, sliceX P E lim o st (ev t x) (lo.map (ev t)) (hi.map (ev t)) (mx.map (ev t)) σ = some (v, σ'))
    | _, _ => none)
  | .convert src dst x => (match ev t x with
    | .pointer (some a) => some (v, ptrConv P src dst a σ = some (v, σ'))
    | _ => none)
  | .makeSlice st l c => some (v, runA P lim (Instr.makeSlice st (ev t l) (ev t c)) σ = some (v, σ'))
  | .binOp op bt x y _ => (match asL (ev t x), asL (ev t y) with
    | none, none => bif binOkA P op bt (isC x || isC y) (ev t x) (ev t y) then some (v, runA P lim (binOp op bt (ev t x) (ev t y)) σ = some (v, σ')) else none
    | _, _ => none)
  | .call c => (match c.callee with
    | .value f => some (v, applyA P E (runW P E) lim (ev t f) (c.args.toList.map (ev t)) σ = some (v, σ'))
    | .builtin .append => some (v, appA P (E.rows o) lim c.argTypes (c.args.toList.map (ev t)) σ = some (v, σ'))
    | .builtin .cap => some (v, capA P c.argTypes (c.args.toList.map (ev t)) σ = some (v, σ'))
    | .builtin .unsafeString => some (v, ustrA P lim c.argTypes (c.args.toList.map (ev t)) σ = some (v, σ'))
    | _ => none)
  | _ => none

def enterH (E : Env) (rec : RecH) (lim : Nat) (f : FuncId) (args : List Value) (σ : AS) (s : HS) : Option (Value × AS × HS) :=
  bif E.isOv f then liftH s (E.ov f args lim σ) else
    match rec lim (.call f args) σ s with
    | some (.val v, σ', s') => some (v, σ', s')
    | _ => none

def applyH (P : Program) (E : Env) (rec : RecH) (lim : Nat) (f : Value) (args : List Value) (σ : AS) (s : HS) : Option (Value × AS × HS) :=
  match f with
  | .func (.func g) first captured => enterH E rec lim g (first.toList ++ args ++ captured.toList) σ s
  | .func (.yield l) first _ =>
    match runA P lim (Instr.yield l (first ++ args.toArray)) σ with
    | some (.round l f t assign body, σ1) =>
      match rec lim (.round l f t.toList assign body) σ1 s with
      | some (.val v, σ', s') => some (v, σ', s')
      | _ => none
    | _ => none
  | _ => none

def operC (P : Program) (E : Env) (rec : RecH) (lim : Nat) (o : Oper) (t : List Value) (σ : AS) (s : HS) : Option (Value × AS × HS) :=
  match o.op with
  | .call c => (match c.callee with
    | .value f => forceL (c.args.toList.map (ev t)) fun args => applyH P E rec lim (ev t f) args σ s
    | _ => liftH s (operA P E rec0 lim o t σ))
  | _ => liftH s (operA P E rec0 lim o t σ)

noncomputable def operH (P : Program) (E : Env) (rec : RecH) (lim : Nat) (o : Oper) (t : List Value) (σ : AS) (s : HS) : Option (Value × AS × HS) :=
  match s.tick with
  | (some (.val v), s1) => some (v, σ, s1.note (operA P E rec0 lim o t σ = some (v, σ)))
  | (some .ok, s1) => (match lopG P E lim false o t σ with
    | some (v, σ', p) => some (v, σ', s1.note p)
    | none => (match guarded P o t with
      | some (v, p) => some (v, σ, s1.note p)
      | none => none))
  | (some .nop, s1) => (match lopG P E lim true o t σ with
    | some (v, σ', p) => some (v, σ', s1.note p)
    | none => none)
  | (some (.is v), s1) => (match lopIs P o t v with
    | some p => some (v, σ, s1.note p)
    | none => (match rowIs P o t v σ with
      | some p => some (v, σ, s1.note p)
      | none => none))
  | (some (.br b), s1) => (match operC P E rec lim o t σ s1 with
    | some (v, σ', s') => some (.bool b, σ', s'.note (isB v b))
    | none => none)
  | (some (.ov v), s1) => (match o.op with
    | .call c => (match c.callee with
      | .value f => (match ev t f with
        | .func (.func g) first captured => bif E.isOv g then some (v, σ, s1.note (∀ σ, E.ov g (first.toList ++ c.args.toList.map (ev t) ++ captured.toList) lim σ = some (v, σ))) else none
        | _ => none)
      | _ => none)
    | _ => none)
  | (some (.eq u), s1) => (match operC P E rec lim o t σ s1 with
    | some (v, σ', s') => some (u, σ', s'.note (v = u))
    | none => none)
  | (some (.cells c), s1) => (match o.op with
    | .convert src dst x => (match ev t x, P.underlying src, P.underlying dst with
      | .string b, some .string, some (.slice e) => (match P.underlying e with
        | some (.int .u8) => bif E.rows o then some (.slice (some ⟨σ.next, 0, none⟩) b.size b.size, σ.push (.cells c true (some 1, some e) none), s1.note (b.data.toList.map (fun x => Value.int .u8 x.toNat) = c))
          else some (L c b.size 1 (σ.next + 2), (σ.push (.cells c true (some 1, some e) none)).put σ.next (some (.tail c.length 1 e)), s1.note (b.data.toList.map (fun x => Value.int .u8 x.toNat) = c ∧ 0 < b.size))
        | some (.int .i32) => bif E.rows o then some (.slice (some ⟨σ.next, 0, none⟩) c.length c.length, σ.push (.cells c true (some 1, some e) none), s1.note ((Conv.runesFrom b b.size 0 #[]).toList = c))
          else some (L c c.length 1 (σ.next + 2), (σ.push (.cells c true (some 1, some e) none)).put σ.next (some (.tail c.length 1 e)), s1.note ((Conv.runesFrom b b.size 0 #[]).toList = c ∧ 0 < c.length))
        | _ => none)
      | _, _, _ => none)
    | _ => none)
  | (some (.res v σ'), s1) => some (v, σ', s1.note (operA P E (runW P E) lim o t σ = some (v, σ')))
  | (some (.sem u σ'), s1) => (match semIs P E lim o t u σ σ' with
    | some (v, p) => some (v, σ', s1.note p)
    | none => none)
  | (some (.skip _ _), _) => none
  | (some .stop, _) => none
  | (none, s1) => operC P E rec lim o t σ s1

noncomputable def opsH (P : Program) (E : Env) (rec : RecH) (ops : Array Oper) (q : Bool) (lim : Nat) : List Oper → List Value → AS → HS → Option (List Value × AS × HS)
  | [], t, σ, s => some (t, σ, s)
  | o :: rest, t, σ, s =>
    bif Region.wanted o (yieldedL ops t) then
      (match operH P E rec (bif q then σ.next else lim) o t σ s with
      | some (v, σ', s') => force v fun v => opsH P E rec ops q lim rest (putT t o.dst v) σ' s'
      | none => none)
    else opsH P E rec ops q lim rest (putT t o.dst undef) σ s

noncomputable def op1H (P : Program) (E : Env) (rec : RecH) (ops : Array Oper) (q : Bool) (lim : Nat) (o : Oper) (t : List Value) (σ : AS) (s : HS) : Option (Value × AS × HS) :=
  bif Region.wanted o (yieldedL ops t) then operH P E rec (bif q then σ.next else lim) o t σ s else some (undef, σ, s)

noncomputable def opsIH (P : Program) (E : Env) (rec : RecH) (ops : Array Oper) (lim : Nat) : List (Nat × Bool) → List Value → AS → HS → Option (List Value × AS × HS)
  | [], t, σ, s => some (t, σ, s)
  | x :: l, t, σ, s => match ops[x.1]? with
    | some o =>
      (match op1H P E rec ops x.2 lim o t σ s with
      | some (v, σ', s') => force v fun v => opsIH P E rec ops lim l (putT t o.dst v) σ' s'
      | none => none)
    | none => none

def rangeH (P : Program) (E : Env) (rec : RecH) (lim : Nat) (x : Ctx) (f : Operand) (params : Array Tmp) (assign body : Code) (t : List Value) (ds : List Nat) (σ : AS) (s : HS) : Option (Out × AS × HS) :=
  match runA P lim (Instr.enterLoop x.fn t.toArray params assign body x.round) σ with
  | some ((l, mark), σ1) =>
    match markIds mark with
    | some m =>
      match applyH P E rec lim (ev t f) [.func (.yield l) #[] #[]] σ1 s with
      | some (_, σ2, s2) => liftH s2 (rangeEnd P lim t (m ++ ds) l σ2)
      | none => none
    | none => none
  | none => none

noncomputable def stepH (P : Program) (E : Env) (rec : RecH) (lim : Nat) : Task → AS → HS → Option (Out × AS × HS)
  | .code x c t ds, σ, s =>
    match c with
    | .skip | .label _ => some (.done .normal t ds, σ, s)
    | .region id ops draw =>
      bif draw then
        match E.draws x.fn id with
        | some pl =>
          match opsIH P E rec ops lim pl.l t σ s with
          | some (t1, σ1, s1) => some (.done .normal t1 ds, σ1, s1)
          | none => none
        | none => none
      else
        match opsH P E rec ops false lim ops.toList t σ s with
        | some (t1, σ1, s1) => some (.done .normal t1 ds, σ1, s1)
        | none => none
    | .seq a b =>
      match rec lim (.code x a t ds) σ s with
      | some (.done .normal t1 ds1, σ1, s1) => rec lim (.code x b t1 ds1) σ1 s1
      | r => r
    | .cond c a b =>
      match s.tick with
      | (some (.br b'), s1) => rec lim (.code x (bif b' then a else b) t ds) σ (s1.note (isB (ev t c) b'))
      | (some _, _) => none
      | (none, s1) =>
        match ev t c with
        | .bool b' => rec lim (.code x (bif b' then a else b) t ds) σ s1
        | _ => none
    | .block id body =>
      match rec lim (.code x body t ds) σ s with
      | some (.done (.exit id') t1 ds1, σ1, s1) => some (.done (bif Nat.beq id' id then .normal else .exit id') t1 ds1, σ1, s1)
      | r => r
    | .loop body =>
      match s.tick with
      | (some (.skip o σ'), s1) => some (o, σ', s1.note (runW P E lim (.code x (.loop body) t ds) σ = some (o, σ')))
      | (some _, _) => none
      | (none, s0) =>
        match rec lim (.code x body t ds) σ s0 with
        | some (.done .normal t1 ds1, σ1, s1) => rec lim (.code x (.loop body) t1 ds1) σ1 s1
        | r => r
    | .rangeFunc f params assign body =>
      match s.hs with
      | (0, .skip o σ') :: l => some (o, σ', (⟨l, s.ob⟩ : HS).note (runW P E lim (.code x (.rangeFunc f params assign body) t ds) σ = some (o, σ')))
      | _ => rangeH P E rec lim x f params assign body t ds σ s
    | .exit id => some (.done (.exit id) t ds, σ, s)
    | .scope body => rec lim (.scope x body body t ds) σ s
    | .goto l => some (.done (.goto l) t ds, σ, s)
    | .ret => some (.done .ret t ds, σ, s)
    | .refuse _ => none
  | .scope x body cur t ds, σ, s =>
    match rec lim (.code x cur t ds) σ s with
    | some (.done (.goto l) t1 ds1, σ1, s1) =>
      match findLabel body l with
      | some rest => rec lim (.scope x body rest t1 ds1) σ1 s1
      | none => some (.done (.goto l) t1 ds1, σ1, s1)
    | r => r
  | .call f args, σ, s =>
    bif E.ok f then
    match P.funcs[f]? with
    | some fn =>
      match fn.body with
      | some c =>
        match rec lim (.code ⟨f, none⟩ c (args ++ List.replicate (fn.ntmps - args.length) undef) []) σ s with
        | some (.done e t1 ds1, σ1, s1) =>
          match e with
          | .normal | .ret =>
            match takeA P lim ds1 σ1 with
            | some σ2 =>
              match runA P lim (results fn t1.toArray) σ2 with
              | some (v, σ3) => some (.val v, σ3, s1)
              | none => none
            | none => none
          | _ => none
        | _ => none
      | none => none
    | none => none
    else none
  | .round l f t assign body, σ, s =>
    match rec lim (.code ⟨f, some l⟩ assign t []) σ s with
    | some (.done .normal t1 [], σ1, s1) =>
      match runA P lim (Instr.beginRound l) σ1 with
      | some (_, σ2) =>
        match rec lim (.code ⟨f, some l⟩ body t1 []) σ2 s1 with
        | some (.done e _ [], σ3, s3) =>
          match runA P lim (Instr.endRound l (match e with | .normal => none | .ret => some .ret | .exit id => some (.exit id) | .goto g => some (.goto g))) σ3 with
          | some (v, σ4) => some (.val v, σ4, s3)
          | none => none
        | _ => none
      | none => none
    | _ => none

noncomputable def runH (P : Program) (E : Env) : Nat → RecH
  | 0 => fun _ _ _ _ => none
  | n + 1 => fun lim k σ s => stepH P E (runH P E n) lim k σ s

/-! ## What is noted holds: then the interpreter answers so -/

def Sd {α : Type} (s : HS) (x : Option (α × AS × HS)) (g : Option (α × AS)) : Prop :=
  ∀ a σ' s', x = some (a, σ', s') → (∀ p ∈ s.ob, p ∈ s'.ob) ∧ ((∀ p ∈ s'.ob, p) → g = some (a, σ'))

def SdR (rh : RecH) (r : Rec) : Prop := ∀ lim k σ s, Sd s (rh lim k σ s) (r lim k σ)

theorem tick_ob (s : HS) : s.tick.2.ob = s.ob := by
  unfold HS.tick
  split
  · rfl
  · rename_i k h l _
    cases Nat.beq k 0 <;> rfl

theorem sd_none {α : Type} {s : HS} {g : Option (α × AS)} : Sd s none g := fun _ _ _ h => by cases h
theorem sd_some {α : Type} {s s1 : HS} {a : α} {σ : AS} {g : Option (α × AS)} (h : ∀ p ∈ s.ob, p ∈ s1.ob) (hg : (∀ p ∈ s1.ob, p) → g = some (a, σ)) : Sd s (some (a, σ, s1)) g := by
  intro a' σ' s' e; cases e; exact ⟨h, hg⟩
theorem sd_lift {α : Type} {s s1 : HS} {x : Option (α × AS)} {g : Option (α × AS)} (h : ∀ p ∈ s.ob, p ∈ s1.ob) (hg : ∀ y, x = some y → g = some y) : Sd s (liftH s1 x) g := by
  cases x with
  | none => exact sd_none
  | some y => exact sd_some h fun _ => hg _ rfl

end Go.Va

/-
  THE INTERPRETER WITH HINTS IS SOUND: what it answers under the noted premises, the interpreter answers.
-/
namespace Go.Va
section
variable {P : Program} {E : Env} {rh : RecH} {r : Rec}

theorem sd_enter (h : SdR rh r) {lim : Nat} {f : FuncId} {args : List Value} {σ : AS} {s : HS} : Sd s (enterH E rh lim f args σ s) (enterA P E r lim f args σ) := by
  unfold enterH enterA
  cases hi : E.isOv f with
  | true => simp only [cond_true]; exact sd_lift (fun _ hp => hp) fun y hy => hy
  | false =>
    simp only [cond_false]
    intro a σ' s' e
    split at e
    · rename_i v σ1 s1 hr
      cases e
      obtain ⟨h1, h2⟩ := h _ _ _ _ _ _ _ hr
      exact ⟨h1, fun hall => by rw [h2 hall]⟩
    · cases e

theorem sd_apply (h : SdR rh r) {lim : Nat} {f : Value} {args : List Value} {σ : AS} {s : HS} : Sd s (applyH P E rh lim f args σ s) (applyA P E r lim f args σ) := by
  unfold applyH
  split
  · exact sd_enter (P := P) h
  · intro a σ' s' e
    split at e
    · rename_i hy
      split at e
      · rename_i hr
        cases e
        obtain ⟨h1, h2⟩ := h _ _ _ _ _ _ _ hr
        exact ⟨h1, fun hall => by unfold applyA; dsimp only; rw [hy]; dsimp only; rw [h2 hall]⟩
      · cases e
    · cases e
  · exact sd_none

theorem runA_sliceAt_str {st : TypeId} (ht : P.underlying st = some .string) {s : ByteArray} {lo hi : Option Value} {l h : Nat} {σ : AS} {lim : Nat}
    (hb : runA P lim (Instr.sliceBounds false s.size s.size lo hi none) σ = some ((l, h, s.size), σ)) : runA P lim (Instr.sliceAt st (.string s) lo hi none) σ = some (.string (s.extract l h), σ) := by
  unfold Instr.sliceAt
  rw [runA_bind, runA_underlying, ht]
  dsimp only [Option.map]
  unfold Instr.slice
  rw [runA_bind, runA_underlying, ht]
  dsimp only [Option.map]
  simp only [Option.isSome_none, Bool.false_eq_true, if_false]
  rw [runA_bind, hb]
  rfl

theorem runA_bound {k : IntKind} {i : Int} {y : Nat} {code : BoundsCode} (h0 : 0 ≤ i) (h1 : i ≤ y) {σ : AS} {lim : Nat} : runA P lim (Instr.sliceBound (.int k i) y code) σ = some (i.toNat, σ) := by
  unfold Instr.sliceBound
  rw [runA_bind]
  show (match some ((k, i), σ) with | some (v, σ') => _ | none => none) = _
  dsimp only
  rw [if_pos ⟨h0, h1⟩]
  rfl

theorem runA_sizeOf' (t : TypeId) (lim : Nat) (σ : AS) : runA P lim (sizeOf t) σ = (P.info? t).map fun d => (d.size, σ) := by
  have : sizeOf t = typeInfo t >>= fun i => Pure.pure i.size := rfl
  rw [this, runA_bind, runA_typeInfo]
  cases P.info? t <;> rfl

theorem guarded_sound {o : Oper} {t : List Value} {v : Value} {p : Prop} (hg : guarded P o t = some (v, p)) (hp : p) {lim : Nat} {σ : AS} : operB P E r lim o t σ = some (v, σ) ∧ lop P E lim o t σ = none ∧ freezes P E o = false := by
  unfold guarded at hg
  split at hg
  · rename_i x y hs ho
    split at hg
    · rename_i k a k' b hx hy
      cases hg
      refine ⟨?_, by unfold lop; rw [ho] <;> first | rfl | (dsimp only; rw [hx, hy]; rfl) | (dsimp only; rw [hx]; rfl), by unfold freezes; rw [ho]⟩
      unfold operB
      rw [ho]
      dsimp only
      rw [hx, hy]
      show runA P lim (Op.shift .shl k a k' b) σ = _
      unfold Op.shift
      rw [if_neg (by omega)]
      rfl
    · cases hg
  · rename_i x y hs ho
    split at hg
    · rename_i k a k' b hx hy
      cases hg
      refine ⟨?_, by unfold lop; rw [ho] <;> first | rfl | (dsimp only; rw [hx, hy]; rfl) | (dsimp only; rw [hx]; rfl), by unfold freezes; rw [ho]⟩
      unfold operB
      rw [ho]
      dsimp only
      rw [hx, hy]
      show runA P lim (Op.shift .shr k a k' b) σ = _
      unfold Op.shift
      rw [if_neg (by omega)]
      rfl
    · cases hg
  · rename_i x y hs ho
    split at hg
    · rename_i a b hx hy
      cases hg
      refine ⟨?_, by unfold lop; rw [ho] <;> first | rfl | (dsimp only; rw [hx, hy]; rfl) | (dsimp only; rw [hx]; rfl), by unfold freezes; rw [ho]⟩
      unfold operB
      rw [ho]
      dsimp only
      rw [hx, hy]
      show runA P lim (Op.stringOp .add a b) σ = _
      unfold Op.stringOp
      dsimp only
      rw [if_neg (by omega)]
      rfl
    · cases hg
  · rename_i xt x ix ho
    split at hg
    · rename_i n el b q k j hu hx hi
      split at hg
      case h_2 => cases hg
      rename_i d hd
      cases hg
      refine ⟨?_, by unfold lop; rw [ho]; dsimp only; rw [hx]; rfl, by unfold freezes; rw [ho]⟩
      have h1 : runA P lim (Instr.indexAt xt (.pointer (some ⟨b, q, none⟩)) (.int k j)) σ = some (.pointer (some ⟨b, q + j.toNat * d.size, none⟩), σ) := by
        unfold Instr.indexAt
        rw [runA_bind, show runA P lim (asIntOf (.int k j)) σ = some ((k, j), σ) from rfl]
        dsimp only
        rw [runA_bind, runA_underlying, hu]
        dsimp only [Option.map]
        rw [runA_bind, show runA P lim (Instr.sureAddr (.pointer (some ⟨b, q, none⟩))) σ = some (⟨b, q, none⟩, σ) from rfl]
        dsimp only
        rw [runA_bind, show runA P lim (pure (some (⟨b, q, none⟩ : Addr), n, el) : Sem (Option Addr × Nat × TypeId)) σ = some ((some ⟨b, q, none⟩, n, el), σ) from rfl]
        dsimp only
        rw [runA_bind, runA_underlying, hu]
        dsimp only [Option.map]
        rw [if_pos ⟨hp.1, hp.2⟩, runA_bind, runA_sizeOf', hd]
        dsimp only [Option.map]
        rw [addr_plus]
        rfl
      have h2 : runA P lim (execOp (ev t) o) σ = some (.value (.pointer (some ⟨b, q + j.toNat * d.size, none⟩)), σ) := by
        unfold execOp
        rw [ho]
        dsimp only
        rw [runA_bind, hx, hi, h1]
        rfl
      unfold operB
      rw [ho]
      dsimp only
      rw [show generic P (.indexAddr xt x ix) = true from rfl, cond_true, h2]
      rfl
    · rename_i el b q n c k j hu hx hi
      split at hg
      case h_2 => cases hg
      rename_i d hd
      cases hg
      refine ⟨?_, by unfold lop; rw [ho]; dsimp only; rw [hx]; rfl, by unfold freezes; rw [ho]⟩
      have h1 : runA P lim (Instr.indexAt xt (.slice (some ⟨b, q, none⟩) n c) (.int k j)) σ = some (.pointer (some ⟨b, q + j.toNat * d.size, none⟩), σ) := by
        unfold Instr.indexAt
        rw [runA_bind, show runA P lim (asIntOf (.int k j)) σ = some ((k, j), σ) from rfl]
        dsimp only
        rw [runA_bind, runA_underlying, hu]
        dsimp only [Option.map]
        rw [runA_bind, show runA P lim (pure (some (⟨b, q, none⟩ : Addr), n, el) : Sem (Option Addr × Nat × TypeId)) σ = some ((some ⟨b, q, none⟩, n, el), σ) from rfl]
        dsimp only
        rw [runA_bind, runA_underlying, hu]
        dsimp only [Option.map]
        rw [if_pos ⟨hp.1, hp.2⟩, runA_bind, runA_sizeOf', hd]
        dsimp only [Option.map]
        rw [addr_plus]
        rfl
      have h2 : runA P lim (execOp (ev t) o) σ = some (.value (.pointer (some ⟨b, q + j.toNat * d.size, none⟩)), σ) := by
        unfold execOp
        rw [ho]
        dsimp only
        rw [runA_bind, hx, hi, h1]
        rfl
      unfold operB
      rw [ho]
      dsimp only
      rw [show generic P (.indexAddr xt x ix) = true from rfl, cond_true, h2]
      rfl
    · cases hg
  · rename_i xt x ix ho
    split at hg
    · rename_i s k i ht hx hi
      cases hg
      refine ⟨?_, by unfold lop; rw [ho] <;> first | rfl | (dsimp only; rw [hx, hy]; rfl) | (dsimp only; rw [hx]; rfl), by unfold freezes; rw [ho]⟩
      unfold operB
      rw [ho]
      dsimp only
      obtain ⟨hp0, hp1⟩ := hp
      have hs : s[i.toNat]? = some (s.data.toList.getD i.toNat 0) := by
        have hlt : i.toNat < s.size := by omega
        rw [getElem?_pos s i.toNat hlt]
        have : i.toNat < s.data.toList.length := by simpa using hlt
        rw [List.getD_eq_getElem?_getD, List.getElem?_eq_getElem this]
        rfl
      have h1 : runA P lim (Instr.index xt (.string s) (.int k i)) σ = some (.int .u8 (s.data.toList.getD i.toNat 0).toNat, σ) := by
        unfold Instr.index
        rw [runA_bind]
        show (match some ((k, i), σ) with | some (v, σ') => _ | none => none) = _
        dsimp only
        rw [runA_bind, runA_underlying, ht]
        dsimp only [Option.map]
        rw [if_pos hp0, hs]
        rfl
      have h2 : runA P lim (execOp (ev t) o) σ = some (.value (.int .u8 (s.data.toList.getD i.toNat 0).toNat), σ) := by
        unfold execOp
        rw [ho]
        dsimp only
        rw [runA_bind, hx, hi, h1]
        rfl
      rw [show generic P (.index xt x ix) = true from rfl, cond_true, h2]
      rfl
    · cases hg
  · rename_i st x lo hi ho
    split at hg
    · rename_i s k l k' h ht hx hlo hhi
      cases hg
      obtain ⟨p0, p1, p2⟩ := hp
      refine ⟨?_, by unfold lop; rw [ho] <;> first | rfl | (dsimp only; rw [hx, hy]; rfl) | (dsimp only; rw [hx]; rfl), by unfold freezes; rw [ho]⟩
      unfold operB
      rw [ho]
      dsimp only
      rw [hx, hlo, hhi]
      refine runA_sliceAt_str ht ?_
      unfold Instr.sliceBounds
      rw [runA_bind]
      show (match some (s.size, σ) with | some (v, σ') => _ | none => none) = _
      dsimp only
      rw [runA_bind, runA_bound (by omega) p2]
      dsimp only
      rw [runA_bind, runA_bound p0 (by omega)]
      rfl
    · rename_i s k' h ht hx hlo hhi
      cases hg
      obtain ⟨p0, p1⟩ := hp
      refine ⟨?_, by unfold lop; rw [ho] <;> first | rfl | (dsimp only; rw [hx, hy]; rfl) | (dsimp only; rw [hx]; rfl), by unfold freezes; rw [ho]⟩
      unfold operB
      rw [ho]
      dsimp only
      rw [hx, hlo, hhi]
      refine runA_sliceAt_str ht ?_
      unfold Instr.sliceBounds
      rw [runA_bind]
      show (match some (s.size, σ) with | some (v, σ') => _ | none => none) = _
      dsimp only
      rw [runA_bind, runA_bound p0 p1]
      rfl
    · rename_i s k l ht hx hlo hhi
      cases hg
      obtain ⟨p0, p1⟩ := hp
      refine ⟨?_, by unfold lop; rw [ho] <;> first | rfl | (dsimp only; rw [hx, hy]; rfl) | (dsimp only; rw [hx]; rfl), by unfold freezes; rw [ho]⟩
      unfold operB
      rw [ho]
      dsimp only
      rw [hx, hlo, hhi]
      refine runA_sliceAt_str ht ?_
      unfold Instr.sliceBounds
      rw [runA_bind]
      show (match some (s.size, σ) with | some (v, σ') => _ | none => none) = _
      dsimp only
      rw [runA_bind]
      show (match some (s.size, σ) with | some (v, σ') => _ | none => none) = _
      dsimp only
      rw [runA_bind, runA_bound p0 p1]
      rfl
    · cases hg
  · cases hg

theorem operA_of_B {lim : Nat} {o : Oper} {t : List Value} {v : Value} {σ : AS} (h : operB P E r lim o t σ = some (v, σ) ∧ lop P E lim o t σ = none ∧ freezes P E o = false) : operA P E r lim o t σ = some (v, σ) := by
  unfold operA
  rw [h.2.1, h.1]
  dsimp only
  rw [h.2.2]; rfl

theorem operA_of_lop {lim : Nat} {o : Oper} {t : List Value} {v : Value} {σ σ' : AS} (h : lop P E lim o t σ = some (some (v, σ'))) : operA P E r lim o t σ = some (v, σ') := by
  unfold operA
  rw [h]

theorem natOf_int {k : IntKind} {j : Int} (h : 0 ≤ j) : natOf (.int k j) = some j.toNat := by
  show (bif decide (0 ≤ j) then some j.toNat else none) = _; rw [decide_eq_true h, cond_true]
theorem asN_int {k : IntKind} {j : Int} {d : Nat} (h : 0 ≤ j) : asN (some (.int k j)) d = some j.toNat := by
  show (bif decide (0 ≤ j) then some j.toNat else none) = _; rw [decide_eq_true h, cond_true]
theorem blt_of {a b : Nat} (h : a < b) : Nat.blt a b = true := blt_iff.2 h
theorem ble_of {a b : Nat} (h : a ≤ b) : Nat.ble a b = true := Nat.ble_eq_true_of_le h

theorem lopG_sound {nop : Bool} {o : Oper} {t : List Value} {v : Value} {σ σ' : AS} {p : Prop} {lim : Nat} (hg : lopG P E lim nop o t σ = some (v, σ', p)) (hp : p) : lop P E lim o t σ = some (some (v, σ')) := by
  unfold lopG at hg
  unfold lop
  split at hg
  · -- indexAddr
    rename_i xt x i ho
    rw [ho]
    dsimp only
    split at hg
    · rename_i k j el hi hu
      split at hg
      · rename_i c n e g d hl hd
        cases hb : Nat.beq e d.size with
        | false => rw [hb] at hg; cases hg
        | true =>
          rw [hb, cond_true] at hg
          cases hg
          rw [hl]
          dsimp only
          unfold idxL
          rw [hu, hi, natOf_int hp.1]
          dsimp only
          rw [hd]
          dsimp only
          rw [blt_of (by omega : j.toNat < n), hb]
          rfl
      · cases hg
    · rename_i k j n el hi hu
      split at hg
      · rename_i c q d hl hd
        cases hg
        have hnl : asL (ev t x) = none := by
          obtain ⟨nm, dd, he⟩ := asP_spec hl
          rw [he]; rfl
        rw [hnl, hl]
        dsimp only
        unfold idxP
        rw [hu, hi, natOf_int hp.1]
        dsimp only
        rw [hd]
        dsimp only
        rw [blt_of (by omega : j.toNat < n)]
        rfl
      · cases hg
    · cases hg
  · -- sliceToArrayPointer
    rename_i d x ho
    rw [ho]
    dsimp only
    split at hg
    · rename_i c n e g m el hl hu
      cases hg
      rw [hl]
      dsimp only [Option.map]
      unfold arrL
      rw [hu]
      dsimp only
      rw [ble_of hp]
      rfl
    · cases hg
  · -- slice
    rename_i st x lo hi mx ho
    rw [ho]
    dsimp only
    split at hg
    case h_2 => cases hg
    rename_i c n e g el hl hu
    rw [hl]
    dsimp only
    split at hg
    case h_2 => cases hg
    rename_i i hi0
    cases hb : Nat.beq e i.size with
    | false => rw [hb] at hg; cases hg
    | true =>
    rw [hb, cond_true] at hg
    unfold cutL
    rw [hu]
    dsimp only
    rw [hi0]
    split at hg
    · rename_i k l h1 h2 h3
      cases hg
      rw [h1, h2, h3, asN_int hp.1]
      dsimp only [asN]
      rw [ble_of (by omega : l.toNat ≤ n), ble_of (Nat.le_refl n), hb]
      rfl
    · rename_i k h h1 h2 h3
      cases hg
      rw [h1, h2, h3, asN_int hp.1]
      dsimp only [asN]
      rw [ble_of (Nat.zero_le _), ble_of (by omega : h.toNat ≤ n), hb]
      simp
    · rename_i k l k' h h1 h2 h3
      cases hg
      rw [h1, h2, h3, asN_int hp.1, asN_int (by omega : 0 ≤ h)]
      dsimp only
      rw [ble_of (by omega : l.toNat ≤ h.toNat), ble_of (by omega : h.toNat ≤ n), hb]
      rfl
    · rename_i k h k' m h1 h2 h3
      cases hg
      obtain ⟨p1, p2, rfl⟩ := hp
      rw [h1, h2, h3, asN_int p1]
      dsimp only [asN]
      rw [natOf_int p1, ble_of (Nat.zero_le _), ble_of (by omega : m.toNat ≤ n), hb]
      simp
    · rename_i k l k' h k'' m h1 h2 h3
      cases hg
      obtain ⟨p1, p2, p3, rfl⟩ := hp
      rw [h1, h2, h3, asN_int p1, asN_int (by omega : 0 ≤ m)]
      dsimp only
      rw [natOf_int (by omega : 0 ≤ m), ble_of (by omega : l.toNat ≤ m.toNat), ble_of (by omega : m.toNat ≤ n), hb]
      simp
    · cases hg
  · -- append
    rename_i c ho
    rw [ho]
    dsimp only
    split at hg
    case h_2 => cases hg
    rename_i s x sType hc ha h0
    rw [hc]
    dsimp only
    unfold appendL
    rw [ha]
    dsimp only
    split at hg
    case h_2 => cases hg
    rename_i elem hu
    split at hg
    case h_2 => cases hg
    rename_i i hi
    split at hg
    case h_2 => cases hg
    rename_i new n hn
    cases hb : (Nat.blt 0 i.bytes && i.zero.isSome && Nat.blt 0 i.size) with
    | false => rw [hb] at hg; cases hg
    | true =>
    rw [hb, cond_true] at hg
    have body : ∀ (k : TypeId → TypeInfo → List Value → Nat → Option (Value × AS)), appBody P lim c.argTypes x σ k = k elem i new n := by
      intro k
      unfold appBody
      rw [h0]
      dsimp only
      rw [hu]
      dsimp only
      rw [hi]
      dsimp only
      rw [hn]
      dsimp only
      rw [hb, cond_true]
    have beq0 : n ≠ 0 → Nat.beq n 0 = false := fun h => by
      cases hq : Nat.beq n 0 with
      | false => rfl
      | true => exact absurd (Nat.eq_of_beq_eq_true hq) h
    split at hg
    · rename_i hl
      cases hg
      rw [hl]
      dsimp only
      rw [body, show n = 0 from hp]
      rfl
    · rename_i cc m e hl
      rw [hl]
      dsimp only
      rw [body]
      cases nop with
      | true =>
        rw [cond_true] at hg
        cases hg
        rw [show n = 0 from hp]
        rfl
      | false =>
        rw [cond_false] at hg
        cases hbe : Nat.beq e i.size with
        | false => rw [hbe] at hg; cases hg
        | true =>
          rw [hbe, cond_true] at hg
          cases hg
          rw [beq0 hp.1, cond_false, ble_of hp.2]
          rfl
    · rename_i cc m e tt hl
      rw [hl]
      dsimp only
      rw [body]
      split at hg
      · rename_i k e' T ht
        rw [ht]
        dsimp only
        cases hbe : (Nat.beq e i.size && Nat.beq e' e && Nat.beq T elem && Nat.ble lim tt) with
        | false => rw [hbe] at hg; cases hg
        | true =>
          rw [hbe, cond_true] at hg
          cases hg
          simp only [Bool.and_eq_true] at hbe
          obtain ⟨⟨⟨q1, q2⟩, q3⟩, q4⟩ := hbe
          rw [ble_of hp.2, q1, q2, q3, q4, hp.1, Nat.beq_refl]
          rfl
      · cases hg
    · rename_i hl
      rw [hl]
      dsimp only
      cases hr : E.rows o with
      | true => rw [hr] at hg; cases hg
      | false =>
        rw [hr] at hg
        simp only [cond_false] at hg ⊢
        split at hg
        · show some (appBody P lim c.argTypes x σ _) = _
          rw [body]
          cases nop with
          | true =>
            rw [cond_true] at hg
            cases hg
            rw [show n = 0 from hp]
            rfl
          | false =>
            rw [cond_false] at hg
            cases hg
            rw [beq0 hp.1, cond_false, ble_of hp.2]
            rfl
        · cases hg
  · cases hg

theorem lopIs_sound {o : Oper} {t : List Value} {v : Value} {p : Prop} (hg : lopIs P o t v = some p) (hp : p) {lim : Nat} {σ : AS} : lop P E lim o t σ = some (some (v, σ)) := by
  unfold lopIs at hg
  unfold lop
  split at hg
  · rename_i ty x ho
    rw [ho]
    dsimp only
    split at hg
    · rename_i c k h
      cases hg
      rw [h]
      dsimp only [Option.map]
      rw [hp]
    · cases hg
  · rename_i src dst x ho
    rw [ho]
    dsimp only
    split at hg
    · rename_i c n e g h
      cases hg
      have hst : sameT P src dst = false := by
        unfold strL at hp
        split at hp
        · rename_i hd
          unfold sameT
          rw [hd]
          exact Bool.and_false _
        · cases hp
      rw [h]
      dsimp only [Option.map]
      rw [hst, hp]
      rfl
    · cases hg
  · cases hg

theorem tick_mem {s : HS} {h : Option Hint} {s1 : HS} (e : s.tick = (h, s1)) : s1.ob = s.ob := by
  have := tick_ob s; rw [e] at this; exact this

theorem operA_rec0 {lim : Nat} {o : Oper} {t : List Value} {σ : AS} {x} (e : operA P E rec0 lim o t σ = some x) : operA P E r lim o t σ = some x := operA_mono (Rec.le0 r) e

theorem rowIs_sound {o : Oper} {t : List Value} {v : Value} {σ : AS} {p : Prop} (hg : rowIs P o t v σ = some p) (hp : p) {lim : Nat} : operA P E r lim o t σ = some (v, σ) := by
  unfold rowIs at hg
  split at hg
  case h_2 => cases hg
  rename_i ty x ho
  split at hg
  case h_2 => cases hg
  rename_i a d hx hu
  cases ha : aggT d with
  | true => rw [ha] at hg; cases hg
  | false =>
  rw [ha, cond_false] at hg
  cases hg
  refine operA_of_B ⟨?_, by unfold lop; rw [ho]; dsimp only; rw [hx]; rfl, by unfold freezes; rw [ho]⟩
  have h1 : runA P lim (Instr.loadAt ty (.pointer (some a))) σ = some (v, σ) := by
    unfold Instr.loadAt
    rw [runA_bind, show runA P lim (Instr.sureAddr (.pointer (some a))) σ = some (a, σ) from rfl]
    dsimp only
    unfold loadVar
    rw [runA_bind, isAgg_eq, runA_bind, runA_underlying, hu]
    dsimp only [Option.map]
    have hd : runA P lim (Pure.pure (aggD d) : Sem Bool) σ = some (false, σ) := by
      rw [← ha]
      cases d <;> rfl
    rw [hd]
    dsimp only
    show runA P lim (.load .plain a Sem.pure) σ = _
    simp only [runA, hp]
  have h2 : runA P lim (execOp (ev t) o) σ = some (.value v, σ) := by
    unfold execOp
    rw [ho]
    dsimp only
    rw [runA_bind, hx, h1]
    rfl
  unfold operB
  rw [ho]
  dsimp only
  rw [show generic P (.load ty x) = true from rfl, cond_true, h2]
  rfl

theorem sd_operC (h : SdR rh r) {lim : Nat} {o : Oper} {t : List Value} {σ : AS} {s : HS} : Sd s (operC P E rh lim o t σ s) (operA P E r lim o t σ) := by
  unfold operC
  split
  · rename_i c ho
    split
    · rename_i f hc
      intro a σ' s' e
      rw [forceL_eq] at e
      obtain ⟨h1, h2⟩ := sd_apply (P := P) h a σ' s' e
      refine ⟨h1, fun hall => ?_⟩
      have hlo : lop P E lim o t σ = none := by unfold lop; rw [ho]; dsimp only; rw [hc]
      have hfz : freezes P E o = false := by unfold freezes; rw [ho]
      have hop : operB P E r lim o t σ = applyA P E r lim (ev t f) (c.args.toList.map (ev t)) σ := by unfold operB; rw [ho]; dsimp only; rw [hc]
      unfold operA
      rw [hlo, hop, h2 hall]
      dsimp only
      rw [hfz]; rfl
    · exact sd_lift (fun _ hp => hp) fun y hy => operA_rec0 hy
  · exact sd_lift (fun _ hp => hp) fun y hy => operA_rec0 hy

theorem conv_lop {lim : Nat} {o : Oper} {t : List Value} {σ : AS} {src dst : TypeId} {x : Operand} {b : ByteArray} (ho : o.op = .convert src dst x) (hx : ev t x = .string b) : lop P E lim o t σ = none := by
  unfold lop; rw [ho]; dsimp only; rw [hx]; rfl
theorem conv_bytes {lim : Nat} {o : Oper} {t : List Value} {σ : AS} {src dst e : TypeId} {x : Operand} {b : ByteArray} {c : List Value} (ho : o.op = .convert src dst x) (hx : ev t x = .string b) (h1 : P.underlying src = some .string) (h2 : P.underlying dst = some (.slice e))
    (he : P.underlying e = some (.int .u8)) (hc : b.data.toList.map (fun x => Value.int .u8 x.toNat) = c) : operB P E r lim o t σ = some (.slice (some ⟨σ.next, 0, none⟩) b.size b.size, σ.push (.cells c true (some 1, some e) none)) := by
  unfold operB
  rw [ho]
  dsimp only
  unfold convA
  rw [hx]
  dsimp only
  rw [h1, h2]
  dsimp only
  rw [he]
  dsimp only
  rw [hc]
theorem conv_runes {lim : Nat} {o : Oper} {t : List Value} {σ : AS} {src dst e : TypeId} {x : Operand} {b : ByteArray} {c : List Value} (ho : o.op = .convert src dst x) (hx : ev t x = .string b) (h1 : P.underlying src = some .string) (h2 : P.underlying dst = some (.slice e))
    (he : P.underlying e = some (.int .i32)) (hc : (Conv.runesFrom b b.size 0 #[]).toList = c) : operB P E r lim o t σ = some (.slice (some ⟨σ.next, 0, none⟩) c.length c.length, σ.push (.cells c true (some 1, some e) none)) := by
  unfold operB
  rw [ho]
  dsimp only
  unfold convA
  rw [hx]
  dsimp only
  rw [h1, h2]
  dsimp only
  rw [he]
  dsimp only
  rw [hc]
theorem conv_row {lim : Nat} {o : Oper} {t : List Value} {σ σ' : AS} {src dst e : TypeId} {x : Operand} {b : ByteArray} {v : Value} (ho : o.op = .convert src dst x) (hx : ev t x = .string b) (h1 : P.underlying src = some .string) (h2 : P.underlying dst = some (.slice e)) (hr : E.rows o = true)
    (h : operB P E r lim o t σ = some (v, σ')) : operA P E r lim o t σ = some (v, σ') := by
  unfold operA
  rw [conv_lop ho hx, h]
  dsimp only
  have : freezes P E o = false := by unfold freezes; rw [ho]; dsimp only; rw [h1, h2, hr]; rfl
  rw [this]; rfl
theorem conv_list {lim : Nat} {o : Oper} {t : List Value} {σ : AS} {src dst e : TypeId} {x : Operand} {b : ByteArray} {c : List Value} {n : Nat} (ho : o.op = .convert src dst x) (hx : ev t x = .string b) (h1 : P.underlying src = some .string) (h2 : P.underlying dst = some (.slice e)) (hr : E.rows o = false)
    (h : operB P E r lim o t σ = some (.slice (some ⟨σ.next, 0, none⟩) n n, σ.push (.cells c true (some 1, some e) none))) (hn : 0 < n) :
    operA P E r lim o t σ = some (L c n 1 (σ.next + 2), (σ.push (.cells c true (some 1, some e) none)).put σ.next (some (.tail c.length 1 e))) := by
  unfold operA
  rw [conv_lop ho hx, h]
  dsimp only
  have h3 : freezes P E o = true := by unfold freezes; rw [ho]; dsimp only; rw [h1, h2, hr]; rfl
  have h4 : isConv o = true := by unfold isConv; rw [ho]
  rw [h3, h4, cond_true]
  unfold freezeA
  dsimp only
  rw [show (Nat.beq 0 0 && (none : Option Nat).isNone) = true from rfl, cond_true]
  unfold freezeR
  rw [AS.get_push, if_pos rfl]
  dsimp only
  rw [ble_of (Nat.le_refl _), Nat.beq_refl, blt_of hn]
  rfl

theorem semIs_sound {o : Oper} {t : List Value} {u v : Value} {p : Prop} {σ σ' : AS} {lim : Nat} (hg : semIs P E lim o t u σ σ' = some (v, p)) (hp : p) : operA P E (runW P E) lim o t σ = some (v, σ') := by
  unfold semIs at hg
  split at hg
  · rename_i ty x y ho
    split at hg
    case h_2 => cases hg
    rename_i a i hx hi
    cases hb : Nat.beq (ev t y).cells.size i.size with
    | false => rw [hb] at hg; cases hg
    | true =>
      rw [hb, cond_true] at hg
      cases hg
      have hb := Nat.eq_of_beq_eq_true hb
      have h1 : runA P lim (Instr.storeAt ty (.pointer (some a)) (ev t y)) σ = some ((), σ') := by
        unfold Instr.storeAt
        rw [runA_bind, show runA P lim (Instr.sureAddr (.pointer (some a))) σ = some (a, σ) from rfl]
        dsimp only
        unfold storeVar
        rw [runA_bind, runA_sizeOf', hi]
        dsimp only [Option.map]
        rw [hb, if_neg (fun h => h rfl)]
        exact setCells_run _ _ _ _ hp
      have h2 : runA P lim (execOp (ev t) o) σ = some (.skip, σ') := by
        unfold execOp
        rw [ho]
        dsimp only
        rw [runA_bind, hx, h1]
        rfl
      unfold operA
      rw [show lop P E lim o t σ = none by unfold lop; rw [ho]]
      dsimp only
      unfold operB
      rw [ho]
      dsimp only
      rw [show generic P (.store ty x y) = true from rfl, cond_true, h2]
      dsimp only [nextAny]
      rw [show freezes P E o = false by unfold freezes; rw [ho]]
      rfl
  · rename_i ty x ho
    split at hg
    case h_2 => cases hg
    rename_i a hx
    cases hg
    have h1 : runA P lim (Instr.loadAt ty (.pointer (some a))) σ = some (u, σ') := by
      unfold Instr.loadAt
      rw [runA_bind, show runA P lim (Instr.sureAddr (.pointer (some a))) σ = some (a, σ) from rfl]
      exact hp
    have h2 : runA P lim (execOp (ev t) o) σ = some (.value u, σ') := by
      unfold execOp
      rw [ho]
      dsimp only
      rw [runA_bind, hx, h1]
      rfl
    unfold operA
    rw [show lop P E lim o t σ = none by unfold lop; rw [ho]; dsimp only; rw [hx]; rfl]
    dsimp only
    unfold operB
    rw [ho]
    dsimp only
    rw [show generic P (.load ty x) = true from rfl, cond_true, h2]
    dsimp only [nextAny]
    rw [show freezes P E o = false by unfold freezes; rw [ho]]
    rfl
  · rename_i st x lo hi mx ho
    split at hg
    case h_2 => cases hg
    rename_i h1 h2
    cases hg
    unfold operA
    rw [show lop P E lim o t σ = none by unfold lop; rw [ho]; dsimp only; rw [h1, h2]; rfl]
    dsimp only
    unfold operB
    rw [ho]
    dsimp only
    rw [hp]
    dsimp only
    rw [show freezes P E o = false by unfold freezes; rw [ho]]
    rfl
  · rename_i src dst x ho
    split at hg
    case h_2 => cases hg
    rename_i a hx
    cases hg
    unfold operA
    rw [show lop P E lim o t σ = none by unfold lop; rw [ho]; dsimp only; rw [hx]; rfl]
    dsimp only
    unfold operB
    rw [ho]
    dsimp only
    rw [hx]
    unfold convA
    dsimp only
    rw [hp]
    dsimp only
    have hf : freezes P E o = false := by
      unfold ptrConv at hp
      split at hp
      case h_2 => cases hp
      rename_i y hy
      cases hb : (a.spot.isNone && ptrOk P src dst a.off y) with
      | false => rw [hb] at hp; cases hp
      | true =>
        simp only [Bool.and_eq_true] at hb
        have h2 := hb.2
        unfold freezes
        rw [ho]
        dsimp only
        unfold ptrOk at h2
        split at h2
        case h_2 => cases h2
        split at h2
        · rename_i h3 h4; rw [h3]
        · rename_i h3 h4; rw [h3]
        · cases h2
    rw [hf]
    rfl
  · rename_i st l c ho
    cases hg
    have h2 : runA P lim (execOp (ev t) o) σ = some (.value u, σ') := by
      unfold execOp
      rw [ho]
      dsimp only
      rw [runA_bind, hp]
      rfl
    unfold operA
    rw [show lop P E lim o t σ = none by unfold lop; rw [ho]]
    dsimp only
    rw [operB_makeSlice ho, h2]
    dsimp only [nextAny]
    rw [show freezes P E o = false by unfold freezes; rw [ho]]
    rfl
  · rename_i op bt x y k ho
    split at hg
    case h_2 => cases hg
    rename_i h1 h2
    cases hb : binOkA P op bt (isC x || isC y) (ev t x) (ev t y) with
    | false => rw [hb] at hg; cases hg
    | true =>
      rw [hb, cond_true] at hg
      cases hg
      unfold operA
      rw [show lop P E lim o t σ = none by unfold lop; rw [ho]; dsimp only; rw [h1, h2]]
      dsimp only
      unfold operB
      rw [ho]
      dsimp only
      rw [hb, cond_true, hp]
      dsimp only
      rw [show freezes P E o = false by unfold freezes; rw [ho]]
      rfl
  · rename_i c ho
    split at hg
    · rename_i f hc
      cases hg
      unfold operA
      rw [show lop P E lim o t σ = none by unfold lop; rw [ho]; dsimp only; rw [hc]]
      dsimp only
      unfold operB
      rw [ho]
      dsimp only
      rw [hc]
      dsimp only
      rw [hp]
      dsimp only
      rw [show freezes P E o = false by unfold freezes; rw [ho]]
      rfl
    · rename_i hc
      cases hg
      unfold appA at hp
      unfold operA
      rw [show lop P E lim o t σ = appendL P (E.rows o) lim c.argTypes (c.args.toList.map (ev t)) σ by unfold lop; rw [ho]; dsimp only; rw [hc]]
      split at hp
      · rename_i r hr
        rw [hr]
        exact hp
      · rename_i hr
        rw [hr]
        dsimp only
        unfold operB
        rw [ho]
        dsimp only
        rw [hc]
        dsimp only
        rw [hp]
        dsimp only
        rw [show freezes P E o = false by unfold freezes; rw [ho]]
        rfl
    · rename_i hc
      cases hg
      unfold operA
      rw [show lop P E lim o t σ = none by unfold lop; rw [ho]; dsimp only; rw [hc]]
      dsimp only
      unfold operB
      rw [ho]
      dsimp only
      rw [hc]
      dsimp only
      rw [hp]
      dsimp only
      rw [show freezes P E o = false by unfold freezes; rw [ho]]
      rfl
    · rename_i hc
      cases hg
      unfold operA
      rw [show lop P E lim o t σ = none by unfold lop; rw [ho]; dsimp only; rw [hc]]
      dsimp only
      unfold operB
      rw [ho]
      dsimp only
      rw [hc]
      dsimp only
      rw [hp]
      dsimp only
      rw [show freezes P E o = false by unfold freezes; rw [ho]]
      rfl
    · cases hg
  · cases hg

theorem sd_oper (h : SdR rh (runW P E)) {lim : Nat} {o : Oper} {t : List Value} {σ : AS} {s : HS} : Sd s (operH P E rh lim o t σ s) (operA P E (runW P E) lim o t σ) := by
  unfold operH
  split
  · rename_i v s1 ht
    exact sd_some (fun p hp => List.mem_cons_of_mem _ (by rw [tick_mem ht]; exact hp)) fun hall => operA_rec0 (hall _ (List.mem_cons_self ..))
  · rename_i s1 ht
    split
    · rename_i v σ' p hg
      exact sd_some (fun p hp => List.mem_cons_of_mem _ (by rw [tick_mem ht]; exact hp)) fun hall => operA_of_lop (lopG_sound hg (hall _ (List.mem_cons_self ..)))
    · split
      · rename_i v p hg
        exact sd_some (fun p hp => List.mem_cons_of_mem _ (by rw [tick_mem ht]; exact hp)) fun hall => operA_of_B (guarded_sound hg (hall _ (List.mem_cons_self ..)))
      · exact sd_none
  · rename_i s1 ht
    split
    · rename_i v σ' p hg
      exact sd_some (fun p hp => List.mem_cons_of_mem _ (by rw [tick_mem ht]; exact hp)) fun hall => operA_of_lop (lopG_sound hg (hall _ (List.mem_cons_self ..)))
    · exact sd_none
  · rename_i v s1 ht
    split
    · rename_i p hg
      exact sd_some (fun p hp => List.mem_cons_of_mem _ (by rw [tick_mem ht]; exact hp)) fun hall => operA_of_lop (lopIs_sound hg (hall _ (List.mem_cons_self ..)))
    · split
      · rename_i p hg
        exact sd_some (fun p hp => List.mem_cons_of_mem _ (by rw [tick_mem ht]; exact hp)) fun hall => rowIs_sound hg (hall _ (List.mem_cons_self ..))
      · exact sd_none
  · rename_i b s1 ht
    split
    · rename_i v σ' s' hc
      obtain ⟨h1, h2⟩ := sd_operC h _ _ _ hc
      refine sd_some (fun p hp => List.mem_cons_of_mem _ (h1 p (by rw [tick_mem ht]; exact hp))) fun hall => ?_
      rw [← isB_eq (hall _ (List.mem_cons_self ..) : isB v b)]
      exact h2 fun p hp => hall p (List.mem_cons_of_mem _ hp)
    · exact sd_none
  · rename_i v s1 ht
    split
    case h_2 => exact sd_none
    rename_i c ho
    split
    case h_2 => exact sd_none
    rename_i f hc
    split
    case h_2 => exact sd_none
    rename_i g first captured hf
    cases hi : E.isOv g with
    | false => rw [cond_false]; exact sd_none
    | true =>
      rw [cond_true]
      refine sd_some (fun p hp => List.mem_cons_of_mem _ (by rw [tick_mem ht]; exact hp)) fun hall => ?_
      have hov := hall _ (List.mem_cons_self ..)
      have hlo : lop P E lim o t σ = none := by unfold lop; rw [ho]; dsimp only; rw [hc]
      have hfz : freezes P E o = false := by unfold freezes; rw [ho]
      have hop : operB P E (runW P E) lim o t σ = some (v, σ) := by
        unfold operB
        rw [ho]
        dsimp only
        rw [hc]
        dsimp only
        rw [hf]
        show enterA P E (runW P E) lim g _ σ = _
        unfold enterA
        rw [hi, cond_true]
        exact hov _
      unfold operA
      rw [hlo, hop]
      dsimp only
      rw [hfz]; rfl
  · rename_i u s1 ht
    split
    · rename_i v σ' s' hc
      obtain ⟨h1, h2⟩ := sd_operC h _ _ _ hc
      refine sd_some (fun p hp => List.mem_cons_of_mem _ (h1 p (by rw [tick_mem ht]; exact hp))) fun hall => ?_
      rw [← (hall _ (List.mem_cons_self ..) : v = u)]
      exact h2 fun p hp => hall p (List.mem_cons_of_mem _ hp)
    · exact sd_none
  · rename_i c s1 ht
    have hs : ∀ p ∈ s.ob, p ∈ s1.ob := by rw [tick_mem ht]; exact fun _ hp => hp
    split
    · rename_i src dst x ho
      split
      · rename_i b e hx h1 h2
        split
        · rename_i he
          cases hrw : E.rows o with
          | true =>
            rw [cond_true]
            refine sd_some (fun p hp => List.mem_cons_of_mem _ (hs p hp)) fun hall => ?_
            have hc : b.data.toList.map (fun x => Value.int .u8 x.toNat) = c := hall _ (List.mem_cons_self ..)
            exact conv_row ho hx h1 h2 hrw (conv_bytes ho hx h1 h2 he hc)
          | false =>
            rw [cond_false]
            refine sd_some (fun p hp => List.mem_cons_of_mem _ (hs p hp)) fun hall => ?_
            have hc : b.data.toList.map (fun x => Value.int .u8 x.toNat) = c ∧ 0 < b.size := hall _ (List.mem_cons_self ..)
            exact conv_list ho hx h1 h2 hrw (conv_bytes ho hx h1 h2 he hc.1) hc.2
        · rename_i he
          cases hrw : E.rows o with
          | true =>
            rw [cond_true]
            refine sd_some (fun p hp => List.mem_cons_of_mem _ (hs p hp)) fun hall => ?_
            have hc : (Conv.runesFrom b b.size 0 #[]).toList = c := hall _ (List.mem_cons_self ..)
            exact conv_row ho hx h1 h2 hrw (conv_runes ho hx h1 h2 he hc)
          | false =>
            rw [cond_false]
            refine sd_some (fun p hp => List.mem_cons_of_mem _ (hs p hp)) fun hall => ?_
            have hc : (Conv.runesFrom b b.size 0 #[]).toList = c ∧ 0 < c.length := hall _ (List.mem_cons_self ..)
            exact conv_list ho hx h1 h2 hrw (conv_runes ho hx h1 h2 he hc.1) hc.2
        · exact sd_none
      · exact sd_none
    · exact sd_none
  · rename_i v σ' s1 ht
    exact sd_some (fun p hp => List.mem_cons_of_mem _ (by rw [tick_mem ht]; exact hp)) fun hall => hall _ (List.mem_cons_self ..)
  · rename_i u σ' s1 ht
    split
    · rename_i v p hg
      exact sd_some (fun p hp => List.mem_cons_of_mem _ (by rw [tick_mem ht]; exact hp)) fun hall => semIs_sound hg (hall _ (List.mem_cons_self ..))
    · exact sd_none
  · exact sd_none
  · exact sd_none
  · rename_i s1 ht
    intro a σ' s' e
    obtain ⟨h1, h2⟩ := sd_operC h _ _ _ e
    exact ⟨fun p hp => h1 p (by rw [tick_mem ht]; exact hp), h2⟩

theorem sd_ops (h : SdR rh (runW P E)) {ops : Array Oper} {q : Bool} {lim : Nat} : ∀ {l : List Oper} {t : List Value} {σ : AS} {s : HS}, Sd s (opsH P E rh ops q lim l t σ s) (opsA P E (runW P E) ops q lim l t σ)
  | [], t, σ, s => sd_some (fun _ hp => hp) fun _ => rfl
  | o :: l, t, σ, s => by
    unfold opsH opsA
    cases hw : Region.wanted o (yieldedL ops t) with
    | true =>
      simp only [cond_true]
      intro a σ' s' e
      split at e
      · rename_i v σ1 s1 ho
        rw [force_eq] at e
        obtain ⟨h1, h2⟩ := sd_oper h _ _ _ ho
        obtain ⟨h3, h4⟩ := sd_ops h _ _ _ e
        exact ⟨fun p hp => h3 p (h1 p hp), fun hall => by rw [h2 fun p hp => hall p (h3 p hp)]; exact h4 hall⟩
      · cases e
    | false => simp only [cond_false]; exact sd_ops h

theorem sd_op1 (h : SdR rh (runW P E)) {ops : Array Oper} {q : Bool} {lim : Nat} {o : Oper} {t : List Value} {σ : AS} {s : HS} : Sd s (op1H P E rh ops q lim o t σ s) (op1 P E (runW P E) ops q lim o t σ) := by
  unfold op1H op1
  cases hw : Region.wanted o (yieldedL ops t) with
  | true => simp only [cond_true]; exact sd_oper h
  | false => simp only [cond_false]; exact sd_some (fun _ hp => hp) fun _ => rfl

theorem sd_opsI (h : SdR rh (runW P E)) {ops : Array Oper} {lim : Nat} : ∀ {l : List (Nat × Bool)} {t : List Value} {σ : AS} {s : HS}, Sd s (opsIH P E rh ops lim l t σ s) (opsI P E (runW P E) ops lim l t σ)
  | [], t, σ, s => sd_some (fun _ hp => hp) fun _ => rfl
  | y :: l, t, σ, s => by
    unfold opsIH opsI
    cases hy : ops[y.1]? with
    | none => exact sd_none
    | some o =>
      dsimp only
      intro a σ' s' e
      split at e
      · rename_i v σ1 s1 ho
        rw [force_eq] at e
        obtain ⟨h1, h2⟩ := sd_op1 h _ _ _ ho
        obtain ⟨h3, h4⟩ := sd_opsI h _ _ _ e
        exact ⟨fun p hp => h3 p (h1 p hp), fun hall => by rw [h2 fun p hp => hall p (h3 p hp)]; exact h4 hall⟩
      · cases e

theorem sd_range (h : SdR rh (runW P E)) {lim : Nat} {c : Ctx} {f : Operand} {params : Array Tmp} {assign body : Code} {t : List Value} {ds : List Nat} {σ : AS} {s : HS} :
    Sd s (rangeH P E rh lim c f params assign body t ds σ s) (rangeA P E (runW P E) lim c f params assign body t ds σ) := by
  unfold rangeH rangeA
  split
  · rename_i l mark σ1 h1
    cases hm : markIds mark with
    | none => exact sd_none
    | some m =>
      dsimp only
      intro a σ' s' e
      split at e
      · rename_i v σ2 s2 ha
        obtain ⟨h3, h4⟩ := sd_apply (P := P) h _ _ _ ha
        obtain ⟨h5, h6⟩ := sd_lift (s := s2) (s1 := s2) (fun _ hp => hp) (fun y hy => hy) _ _ _ e
        exact ⟨fun p hp => h5 p (h3 p hp), fun hall => by rw [h1]; dsimp only; rw [hm]; dsimp only; rw [h4 fun p hp => hall p (h5 p hp)]; exact h6 hall⟩
      · cases e
  · exact sd_none

theorem sd_step (h : SdR rh (runW P E)) {lim : Nat} {k : Task} {σ : AS} {s : HS} : Sd s (stepH P E rh lim k σ s) (stepA P E (runW P E) lim k σ) := by
  cases k with
  | code c cd t ds =>
    unfold stepH stepA
    cases cd with
    | skip => exact sd_some (fun _ hp => hp) fun _ => rfl
    | label => exact sd_some (fun _ hp => hp) fun _ => rfl
    | region id ops draw =>
      dsimp only
      cases draw with
      | true =>
        simp only [cond_true]
        cases E.draws c.fn id with
        | none => exact sd_none
        | some pl =>
          dsimp only
          intro a σ' s' e
          split at e
          · rename_i ho
            obtain ⟨h1, h2⟩ := sd_opsI h _ _ _ ho
            cases e
            exact ⟨h1, fun hall => by rw [h2 hall]⟩
          · cases e
      | false =>
        simp only [cond_false]
        intro a σ' s' e
        split at e
        · rename_i ho
          obtain ⟨h1, h2⟩ := sd_ops h _ _ _ ho
          cases e
          exact ⟨h1, fun hall => by rw [h2 hall]⟩
        · cases e
    | seq a b =>
      dsimp only
      intro x σ' s' e
      split at e
      · rename_i ho
        obtain ⟨h1, h2⟩ := h _ _ _ _ _ _ _ ho
        obtain ⟨h3, h4⟩ := h _ _ _ _ _ _ _ e
        exact ⟨fun p hp => h3 p (h1 p hp), fun hall => by rw [h2 fun p hp => hall p (h3 p hp)]; exact h4 hall⟩
      · rename_i hn
        obtain ⟨h1, h2⟩ := h _ _ _ _ _ _ _ e
        refine ⟨h1, fun hall => ?_⟩
        rw [h2 hall]
        split
        · rename_i he; cases he; exact absurd e (hn _ _ _ _)
        · rfl
    | cond c a b =>
      dsimp only
      split
      · rename_i b' s1 ht
        intro x σ' s' e
        obtain ⟨h1, h2⟩ := h _ _ _ _ _ _ _ e
        refine ⟨fun p hp => h1 p (List.mem_cons_of_mem _ (by rw [tick_mem ht]; exact hp)), fun hall => ?_⟩
        have hc : ev t c = .bool b' := isB_eq (hall _ (h1 _ (List.mem_cons_self ..)))
        rw [hc]
        exact h2 hall
      · exact sd_none
      · rename_i s1 ht
        intro x σ' s' e
        split at e
        · rename_i hc
          obtain ⟨h1, h2⟩ := h _ _ _ _ _ _ _ e
          exact ⟨fun p hp => h1 p (by rw [tick_mem ht]; exact hp), fun hall => by rw [hc]; exact h2 hall⟩
        · cases e
    | block id body =>
      dsimp only
      intro x σ' s' e
      split at e
      · rename_i ho
        obtain ⟨h1, h2⟩ := h _ _ _ _ _ _ _ ho
        cases e
        exact ⟨h1, fun hall => by rw [h2 hall]⟩
      · rename_i hn
        obtain ⟨h1, h2⟩ := h _ _ _ _ _ _ _ e
        refine ⟨h1, fun hall => ?_⟩
        rw [h2 hall]
        split
        · rename_i he; cases he; exact absurd e (hn _ _ _ _ _)
        · rfl
    | loop body =>
      dsimp only
      split
      · rename_i o σ' s1 ht
        refine sd_some (fun p hp => List.mem_cons_of_mem _ (by rw [tick_mem ht]; exact hp)) fun hall => ?_
        obtain ⟨n, hn⟩ := runW_some (hall _ (List.mem_cons_self ..))
        cases n with
        | zero => cases hn
        | succ m =>
          have h2 := stepA_mono (run_le_runW m) (show stepA P E (run P E m) lim (.code c (.loop body) t ds) σ = some (o, σ') from hn)
          unfold stepA at h2
          exact h2
      · exact sd_none
      · rename_i s0 ht
        have hs : ∀ p ∈ s.ob, p ∈ s0.ob := by rw [tick_mem ht]; exact fun _ hp => hp
        intro x σ' s' e
        split at e
        · rename_i ho
          obtain ⟨h1, h2⟩ := h _ _ _ _ _ _ _ ho
          obtain ⟨h3, h4⟩ := h _ _ _ _ _ _ _ e
          exact ⟨fun p hp => h3 p (h1 p (hs p hp)), fun hall => by rw [h2 fun p hp => hall p (h3 p hp)]; exact h4 hall⟩
        · rename_i hn
          obtain ⟨h1, h2⟩ := h _ _ _ _ _ _ _ e
          refine ⟨fun p hp => h1 p (hs p hp), fun hall => ?_⟩
          rw [h2 hall]
          split
          · rename_i he; cases he; exact absurd e (hn _ _ _ _)
          · rfl
    | rangeFunc f params assign body =>
      dsimp only
      split
      · rename_i o σ' l hl
        refine sd_some (fun p hp => List.mem_cons_of_mem _ hp) fun hall => ?_
        have hr := hall _ (List.mem_cons_self ..)
        obtain ⟨n, hr⟩ := runW_some hr
        cases n with
        | zero => cases hr
        | succ n => exact stepA_mono (run_le_runW n) (show stepA P E (run P E n) lim (.code c (.rangeFunc f params assign body) t ds) σ = some (o, σ') from hr)
      · exact sd_range h
    | exit id => exact sd_some (fun _ hp => hp) fun _ => rfl
    | scope body => exact h _ _ _ _
    | goto l => exact sd_some (fun _ hp => hp) fun _ => rfl
    | ret => exact sd_some (fun _ hp => hp) fun _ => rfl
    | refuse => exact sd_none
  | scope c body cur t ds =>
    unfold stepH stepA
    dsimp only
    intro x σ' s' e
    split at e
    · rename_i ho
      obtain ⟨h1, h2⟩ := h _ _ _ _ _ _ _ ho
      split at e
      · rename_i hl
        obtain ⟨h3, h4⟩ := h _ _ _ _ _ _ _ e
        exact ⟨fun p hp => h3 p (h1 p hp), fun hall => by rw [h2 fun p hp => hall p (h3 p hp)]; dsimp only; rw [hl]; exact h4 hall⟩
      · rename_i hl
        cases e
        exact ⟨h1, fun hall => by rw [h2 hall]; dsimp only; rw [hl]⟩
    · rename_i hn
      obtain ⟨h1, h2⟩ := h _ _ _ _ _ _ _ e
      refine ⟨h1, fun hall => ?_⟩
      rw [h2 hall]
      split
      · rename_i he; cases he; exact absurd e (hn _ _ _ _ _)
      · rfl
  | call f args =>
    unfold stepH stepA
    dsimp only
    cases E.ok f with
    | false => exact sd_none
    | true =>
      simp only [cond_true]
      cases P.funcs[f]? with
      | none => exact sd_none
      | some fn =>
        dsimp only
        cases fn.body with
        | none => exact sd_none
        | some c =>
          dsimp only
          intro x σ' s' e
          split at e
          · rename_i ex t1 ds1 σ1 s1 ho
            obtain ⟨h1, h2⟩ := h _ _ _ _ _ _ _ ho
            split at e
            all_goals first | (cases e; done) | skip
            all_goals
              split at e
              · rename_i σ2 ht
                split at e
                · rename_i v σ3 hv
                  cases e
                  exact ⟨h1, fun hall => by rw [h2 hall]; dsimp only; rw [ht]; dsimp only; rw [hv]⟩
                · cases e
              · cases e
          · cases e
  | round l f t assign body =>
    unfold stepH stepA
    dsimp only
    intro x σ' s' e
    split at e
    · rename_i t1 σ1 s1 ho
      obtain ⟨h1, h2⟩ := h _ _ _ _ _ _ _ ho
      split at e
      · rename_i u σ2 hb
        split at e
        · rename_i ex t3 σ3 s3 h3
          obtain ⟨h4, h5⟩ := h _ _ _ _ _ _ _ h3
          split at e
          · rename_i v σ4 hv
            cases e
            exact ⟨fun p hp => h4 p (h1 p hp), fun hall => by rw [h2 fun p hp => hall p (h4 p hp)]; dsimp only; rw [hb]; dsimp only; rw [h5 hall]; dsimp only; cases ex <;> (dsimp only at hv ⊢; rw [hv])⟩
          · cases e
        · cases e
      · cases e
    · cases e

theorem sd_run : ∀ n, SdR (runH P E n) (runW P E)
  | 0 => fun _ _ _ _ => sd_none
  | n + 1 => fun _ _ _ _ a σ' s' e => by
    obtain ⟨h1, h2⟩ := sd_step (sd_run n) a σ' s' e
    exact ⟨h1, fun hall => runW_step (h2 hall)⟩
end

/-- All of them. -/
def All : List Prop → Prop
  | [] => True
  | [p] => p
  | p :: l => p ∧ All l
theorem all_mem : ∀ {l : List Prop}, All l → ∀ p ∈ l, p
  | [], _, p, hp => by cases hp
  | [q], h, p, hp => by rw [List.mem_singleton] at hp; rw [hp]; exact h
  | q :: a :: l, h, p, hp => by
    rcases List.mem_cons.1 hp with hp | hp
    · rw [hp]; exact h.1
    · exact all_mem (l := a :: l) h.2 p hp

/-- What is looked at of a run of a call. -/
def upshot (x : Option (Out × AS × HS)) : Option (Value × List Prop) :=
  match x with
  | some (.val v, _, s) => some (v, s.ob.reverse)
  | _ => none
/-- THE RULE: the run with hints answers so, the premises hold: the interpreter answers so. -/
theorem runW_of_hints {P : Program} {E : Env} {n lim : Nat} {k : Task} {σ : AS} {hs : List (Nat × Hint)} {o : Out} {σ' : AS} {s' : HS} (h : runH P E n lim k σ ⟨hs, []⟩ = some (o, σ', s')) (ha : All s'.ob.reverse) :
    runW P E lim k σ = some (o, σ') :=
  (sd_run n lim k σ _ _ _ _ h).2 fun p hp => all_mem ha p (List.mem_reverse.2 hp)
theorem run_of {P : Program} {E : Env} {n lim : Nat} {k : Task} {σ : AS} {hs : List (Nat × Hint)} {v : Value} {ob : List Prop} (h : upshot (runH P E n lim k σ ⟨hs, []⟩) = some (v, ob)) (ha : All ob) :
    ∃ m σ', run P E m lim k σ = some (.val v, σ') := by
  unfold upshot at h
  split at h
  · rename_i u σ' s hr
    cases h
    obtain ⟨m, hm⟩ := runW_some (runW_of_hints hr ha)
    exact ⟨m, σ', hm⟩
  · cases h
/-- The whole of what a run with hints answers, and its premises. -/
def whole (x : Option (Out × AS × HS)) : Option (Out × AS × List Prop) :=
  match x with
  | some (o, σ, s) => some (o, σ, s.ob.reverse)
  | none => none
theorem runW_of_whole {P : Program} {E : Env} {n lim : Nat} {k : Task} {σ : AS} {hs : List (Nat × Hint)} {o : Out} {σ' : AS} {ob : List Prop} (h : whole (runH P E n lim k σ ⟨hs, []⟩) = some (o, σ', ob)) (ha : All ob) :
    runW P E lim k σ = some (o, σ') := by
  unfold whole at h
  split at h
  · rename_i hr
    cases h
    exact runW_of_hints hr ha
  · cases h

theorem all_of : ∀ {l : List Prop}, (∀ p ∈ l, p) → All l
  | [], _ => trivial
  | [_], h => h _ (List.mem_cons_self ..)
  | _ :: _ :: _, h => ⟨h _ (List.mem_cons_self ..), all_of fun p hp => h p (List.mem_cons_of_mem _ hp)⟩

/-- A loop, one round more. -/
theorem loop_next {P : Program} {E : Env} {lim : Nat} {x : Ctx} {body : Code} {t t1 : List Value} {ds ds1 : List Nat} {σ σ1 : AS} {r : Out × AS}
    (h1 : runW P E lim (.code x body t ds) σ = some (.done .normal t1 ds1, σ1)) (h2 : runW P E lim (.code x (.loop body) t1 ds1) σ1 = some r) : runW P E lim (.code x (.loop body) t ds) σ = some r := by
  apply runW_step
  unfold stepA
  dsimp only
  rw [h1]
  exact h2
/-- A loop that is left. -/
theorem loop_out {P : Program} {E : Env} {lim : Nat} {x : Ctx} {body : Code} {t t1 : List Value} {ds ds1 : List Nat} {σ σ1 : AS} {e : Ex} (he : e ≠ .normal)
    (h1 : runW P E lim (.code x body t ds) σ = some (.done e t1 ds1, σ1)) : runW P E lim (.code x (.loop body) t ds) σ = some (.done e t1 ds1, σ1) := by
  apply runW_step
  unfold stepA
  dsimp only
  rw [h1]
  cases e <;> first | exact absurd rfl he | rfl

end Go.Va

/-
  WHAT A RUN WITH HINTS SAYS OF A CALL; values that are told apart by the kernel.
-/
namespace Go.Va

theorem plain_PF : ∀ (n : Nat) (v : Value), plainB n v = true → PF v := by
  intro n
  induction n with
  | zero => intro v h; simp [plainB] at h
  | succ n ih =>
    have arr : ∀ xs : Array Value, xs.toList.all (plainB n) = true → ∀ i (h : i < xs.size), PF xs[i] := fun xs h i hi => ih _ (List.all_eq_true.1 h _ (by simp))
    intro v h
    match v, h with
    | .bool b, _ => exact .bool b
    | .int k n, _ => exact .int k n
    | .float k n, _ => exact .float k n
    | .complex k n m, _ => exact .complex k n m
    | .string s, _ => exact .string s
    | .pointer none, _ => exact .ptrNone
    | .slice none l c, _ => exact .sliceNone l c
    | .map none, _ => exact .mapNone
    | .nilFunc, _ => exact .nilFunc
    | .nilIface, _ => exact .nilIface
    | .iface t v, h => exact .iface t (ih v h)
    | .agg xs, h => exact .agg (arr xs h)
    | .tuple xs, h => exact .tuple (arr xs h)
    | .func fn f c, h =>
      simp only [plainB, Bool.and_eq_true] at h
      refine .func (fun l hl => ?_) (fun t nm ht => ?_) (arr f h.1.2) (arr c h.2)
      · subst hl; simp at h
      · subst ht
        simp only [Bool.and_eq_true, Bool.not_eq_true'] at h
        exact ⟨fun e => by rw [e] at h; simp at h, fun e => by rw [e] at h; simp at h⟩

theorem PF_list {c : List Value} {n e g : Nat} (hg : g ≤ 1) (h : ∀ v ∈ c, PF v) : PF (L c n e g) := .lst hg fun i hi => h _ (by simp)
theorem PF_tuple {vs : List Value} (h : ∀ v ∈ vs, PF v) : PF (.tuple ⟨vs⟩) := .tuple fun i hi => h _ (by simp)
theorem PF_agg {vs : List Value} (h : ∀ v ∈ vs, PF v) : PF (.agg ⟨vs⟩) := .agg fun i hi => h _ (by simp)
theorem PF_pair {a b : Value} (ha : PF a) (hb : PF b) : PF (.tuple #[a, b]) := PF_tuple fun v hv => by
  simp only [List.mem_cons, List.not_mem_nil, or_false] at hv
  rcases hv with rfl | rfl
  · exact ha
  · exact hb
theorem PF_ints {α : Type} (k : IntKind) (f : α → Int) (l : List α) : ∀ v ∈ l.map (fun x => Value.int k (f x)), PF v := fun v hv => by
  obtain ⟨x, _, rfl⟩ := List.mem_map.1 hv
  exact .int _ _

section
variable {P : Program} {E : Env} {G : Nat} {tabs : List (Nat × List Value)}
theorem topW (hZ : ZeroOk P) (hM : P.follows .mixedOrders = true) (ht : tabsB G tabs = true) (hGood : OvGood E)
    (hOk : ∀ w, Tabs G tabs w → OvOk P (CodeK G E) w w.heap.size G E) (hFn : FnOk P G E) {f : FuncId} {args : List Value} {v u : Value} {σ' : AS}
    (hr : runW P E 0 (.call f args) (base0 G tabs) = some (.val v, σ')) (hu : strip v = u) (hv : PF u) : Pure P G tabs f args u := by
  obtain ⟨n, hr⟩ := runW_some hr
  exact top hZ hM ht hGood hOk hFn hr hu hv
theorem topH (hZ : ZeroOk P) (hM : P.follows .mixedOrders = true) (ht : tabsB G tabs = true) (hGood : OvGood E)
    (hOk : ∀ w, Tabs G tabs w → OvOk P (CodeK G E) w w.heap.size G E) (hFn : FnOk P G E) {n : Nat} {f : FuncId} {args : List Value} {v u : Value} {hs : List (Nat × Hint)} {ob : List Prop}
    (hr : upshot (runH P E n 0 (.call f args) (base0 G tabs) ⟨hs, []⟩) = some (v, ob)) (ho : All ob) (hu : strip v = u) (hv : PF u) : Pure P G tabs f args u := by
  obtain ⟨m, σ', h⟩ := run_of hr ho
  exact topW hZ hM ht hGood hOk hFn (runW_of h) hu hv
end

/-! ## Tables of replaced functions -/

abbrev Ktab := List (Nat × (List Value → Option Value))
def pfT : Ktab → FuncId → List Value → Option Value
  | [], _, _ => none
  | (g, k) :: l, f, args => bif Nat.beq g f then k args else pfT l f args
def isT : Ktab → FuncId → Bool
  | [], _ => false
  | (g, _) :: l, f => Nat.beq g f || isT l f
/-- One entry is right. -/
def KOk (P : Program) (G : Nat) (tabs : List (Nat × List Value)) (f : FuncId) (k : List Value → Option Value) : Prop := ∀ args v, k args = some v → Pure P G tabs f args v
def TOk (P : Program) (G : Nat) (tabs : List (Nat × List Value)) : Ktab → Prop
  | [] => True
  | (f, k) :: l => KOk P G tabs f k ∧ TOk P G tabs l
theorem pfT_pure {P : Program} {G : Nat} {tabs : List (Nat × List Value)} : ∀ {l : Ktab}, TOk P G tabs l → ∀ f args v, pfT l f args = some v → Pure P G tabs f args v
  | [], _, _, _, _, h => by cases h
  | (g, k) :: l, h, f, args, v, hp => by
    unfold pfT at hp
    cases hb : Nat.beq g f with
    | true =>
      rw [hb, cond_true] at hp
      obtain rfl := Nat.eq_of_beq_eq_true hb
      exact h.1 _ _ hp
    | false =>
      rw [hb, cond_false] at hp
      exact pfT_pure h.2 f args v hp
theorem pureOv_of {pf : FuncId → List Value → Option Value} {f : FuncId} {args : List Value} {v : Value} {σ : AS} (h1 : (args.map strip).all (flatB 100) = true) (h2 : pf f (args.map strip) = some v) : pureOv pf f args σ = some (v, σ) := by
  unfold pureOv; rw [h1, cond_true, h2]

/-- Equality of plain values of few kinds, for the kernel. -/
def veq1 : Value → Value → Bool
  | .int k n, .int k' n' => decide (k = k') && decide (n = n')
  | .bool a, .bool b => a == b
  | .string a, .string b => a.data.toList == b.data.toList
  | _, _ => false
def veqL : List Value → List Value → Bool
  | [], [] => true
  | a :: l, b :: m => veq1 a b && veqL l m
  | _, _ => false
def veq : Value → Value → Bool
  | .tuple a, .tuple b => veqL a.toList b.toList
  | a, b => veq1 a b

theorem ba_ext {a b : ByteArray} (h : a.data.toList = b.data.toList) : a = b := by
  cases a; cases b
  congr
  exact Array.toList_inj.1 h

theorem veq1_eq {a b : Value} (h : veq1 a b = true) : a = b := by
  unfold veq1 at h
  split at h
  · simp only [Bool.and_eq_true, decide_eq_true_eq] at h; rw [h.1, h.2]
  · rw [eq_of_beq h]
  · rw [ba_ext (eq_of_beq h)]
  · cases h
theorem veqL_eq : ∀ {l m : List Value}, veqL l m = true → l = m
  | [], [], _ => rfl
  | a :: l, b :: m, h => by
    simp only [veqL, Bool.and_eq_true] at h
    rw [veq1_eq h.1, veqL_eq h.2]
  | [], _ :: _, h => by cases h
  | _ :: _, [], h => by cases h
theorem veq_eq {a b : Value} (h : veq a b = true) : a = b := by
  unfold veq at h
  split at h
  · rename_i x y
    have := veqL_eq h
    rw [Array.toList_inj.1 this]
  · exact veq1_eq h

def valIs (v : Value) : Option (Out × AS) → Bool
  | some (.val u, _) => veq u v
  | _ => false
theorem valIs_spec {v : Value} {r : Option (Out × AS)} (h : valIs v r = true) : ∃ σ', r = some (.val v, σ') := by
  unfold valIs at h
  split at h
  · rename_i u σ'
    exact ⟨σ', by rw [veq_eq h]⟩
  · cases h

/-- Numbers that fit are what they are. -/
theorem wrap_fits (k : IntKind) {n : Int} (h1 : k.min ≤ n) (h2 : n ≤ k.max) : k.wrap n = n := by
  unfold IntKind.wrap
  cases k <;> simp only [IntKind.min, IntKind.max, IntKind.bits, IntKind.signed] at * <;> simp at * <;> omega

theorem wrap64 {n : Int} (h1 : -9223372036854775808 ≤ n) (h2 : n ≤ 9223372036854775807) : IntKind.i64.wrap n = n := wrap_fits .i64 h1 h2

end Go.Va

/-
  A part of a function's code, by the way to it.
-/
namespace Go.Va

inductive Way where
  | l | r | b | t | e

def sub : Code → List Way → Code
  | c, [] => c
  | .seq a _, .l :: w => sub a w
  | .seq _ c, .r :: w => sub c w
  | .block _ c, .b :: w => sub c w
  | .loop c, .b :: w => sub c w
  | .scope c, .b :: w => sub c w
  | .rangeFunc _ _ _ c, .b :: w => sub c w
  | .cond _ a _, .t :: w => sub a w
  | .cond _ _ c, .e :: w => sub c w
  | _, _ => .skip

def codeOf (P : Program) (f : FuncId) (w : List Way) : Code :=
  match P.funcs[f]? with
  | some fn => (match fn.body with
    | some c => sub c w
    | none => .skip)
  | none => .skip

/-- Temporaries of which some are known. -/
def look : List (Nat × Value) → Nat → Value → Value
  | [], _, d => d
  | (k, v) :: l, j, d => bif Nat.beq k j then v else look l j d
def fillT (m : Nat) (fx : List (Nat × Value)) (w : Nat → Value) : List Value := (List.range m).map fun j => look fx j (w j)

/-- What is looked at of a run of code: how it ends, some temporaries, the heap, the premises. -/
def picked (m : Nat) (js : List Nat) (x : Option (Out × AS × HS)) : Option (Ex × List Value × List Nat × AS × List Prop) :=
  match x with
  | some (.done e t ds, σ, s) => bif Nat.beq t.length m then some (e, js.map fun j => t.getD j undef, ds, σ, s.ob.reverse) else none
  | _ => none

theorem look_zip (t : List Value) (j : Nat) : ∀ js : List Nat, look (js.zip (js.map fun j => t.getD j undef)) j (t.getD j undef) = t.getD j undef
  | [] => rfl
  | k :: js => by
    simp only [List.map_cons, List.zip_cons_cons, look]
    cases h : Nat.beq k j with
    | true => rw [Nat.eq_of_beq_eq_true h]; rfl
    | false => exact look_zip t j js

theorem fillT_pick {t : List Value} {m : Nat} (hm : t.length = m) (js : List Nat) : fillT m (js.zip (js.map fun j => t.getD j undef)) (fun j => t.getD j undef) = t := by
  unfold fillT
  refine List.ext_getElem (by simp [hm]) fun i h1 h2 => ?_
  simp only [List.getElem_map, List.getElem_range]
  rw [look_zip, List.getD_eq_getElem?_getD, List.getElem?_eq_getElem h2]
  rfl

/-- A PIECE OF CODE is run with hints. -/
theorem seg {P : Program} {E : Env} {lim : Nat} {k : Task} {σ : AS} (n : Nat) (hs : List (Nat × Hint)) {m : Nat} {js : List Nat} {e : Ex} {vs : List Value} {ds : List Nat} {σ' : AS} {ob : List Prop}
    (h : picked m js (runH P E n lim k σ ⟨hs, []⟩) = some (e, vs, ds, σ', ob)) (ha : All ob) : ∃ w, runW P E lim k σ = some (.done e (fillT m (js.zip vs) w) ds, σ') := by
  unfold picked at h
  split at h
  · rename_i e' t ds' σ1 s hr
    cases hb : Nat.beq t.length m with
    | false => rw [hb] at h; cases h
    | true =>
      rw [hb, cond_true] at h
      cases h
      refine ⟨fun j => t.getD j undef, ?_⟩
      rw [fillT_pick (Nat.eq_of_beq_eq_true hb)]
      exact runW_of_hints hr ha
  · cases h

end Go.Va

/-
  ENVIRONMENTS in which functions of plain values are replaced, and some functions without a body: abi.NoEscape, bytealg.MakeNoZero.
-/
namespace Go.Va
open Go.RowKit
variable {P : Program} {G : Nat}

/-- A new row is made, of what is known. -/
theorem good_pushRow {lim : Nat} {mk : Nat → Value} {xs : List Value} {lo : Lo} : Good lim (fun σ => some (mk σ.next, σ.push (.cells xs true lo none))) := by
  intro σ v σ' h hw
  cases h
  exact ⟨kept_push _ _ _ (fun q hq => by cases hq), fun τ hl => ⟨τ.push (.cells xs true lo none), by show some (mk τ.next, _) = _; rw [hl.1], led_push hl _⟩⟩

/-- abi.NoEscape: the value as it is. -/
def noEscA (args : List Value) (σ : AS) : Option (Value × AS) :=
  match args with
  | [x] => some (x, σ)
  | _ => none
/-- bytealg.MakeNoZero: a row of which nothing is known. -/
def makeNoZeroA (e : TypeId) (args : List Value) (σ : AS) : Option (Value × AS) :=
  match args with
  | [.int .i64 n] => bif decide (0 ≤ n) && decide (n ≤ 281474976710656) then some (.slice (some ⟨σ.next, 0, none⟩) n.toNat 0, σ.push (.cells [] true (some 1, some e) none)) else none
  | _ => none

theorem good_noEsc {lim : Nat} {args : List Value} : Good lim (fun σ => noEscA args σ) := by
  unfold noEscA
  split
  · exact good_some _
  · exact good_none
theorem good_makeNoZero {lim : Nat} {e : TypeId} {args : List Value} : Good lim (fun σ => makeNoZeroA e args σ) := by
  unfold makeNoZeroA
  split
  · exact Good.cond (good_pushRow (mk := fun r => .slice (some ⟨r, 0, none⟩) _ 0)) good_none
  · exact good_none

/-- One function is rightly replaced, in these worlds. -/
def OvAt (P : Program) (K : FuncId → Code → Prop) (W0 : World) (N0 G : Nat) (f : FuncId) (ov : List Value → Nat → AS → Option (Value × AS)) : Prop :=
  ∀ args lim σ v σ', ov args lim σ = some (v, σ') → ∀ β τ w (args' : Array Value), σ.Wf → σ.Like τ → R K W0 N0 β τ w → Fresh β σ σ' → GlobOk G β → lRel β args args'.toList → Lands P (callFunc f args') w (Post K W0 N0 β σ σ' τ v)

variable {K : FuncId → Code → Prop} {W0 : World} {N0 : Nat}

theorem ov_noEsc {f : FuncId} {fn : Func} (hf : P.funcs[f]? = some fn) (hname : (fn.name == "runtime.NumGoroutine") = false) (hb : fn.body.isNone = true) (hn : Extern.findNext fn = none) (he : Extern.find fn = some Extern.AbiNoEscape.same) :
    OvAt P K W0 N0 G f fun args _ σ => noEscA args σ := by
  intro args lim σ v σ' hr β τ w args' hw hl hR hF hG ha
  unfold noEscA at hr
  dsimp only at hr
  split at hr
  case h_2 => cases hr
  cases hr
  obtain ⟨x', rfl, hx⟩ := one_arg ha
  refine .value (v := x') (w' := w) ?_ ⟨β, τ, .refl _ _, .refl hl, hR, hx⟩
  rw [run_callFunc_extern hf hname hb hn he, Lib.run_noEscape]
  rfl

theorem ov_makeNoZero {f : FuncId} {fn : Func} {ps : Array TypeId} {t e : TypeId} (hf : P.funcs[f]? = some fn) (hname : (fn.name == "runtime.NumGoroutine") = false) (hb : fn.body.isNone = true) (hn : Extern.findNext fn = none)
    (he : Extern.find fn = some (Extern.BytealgMakeNoZero.makeNoZero ps #[t])) (ht : P.underlying t = some (.slice e)) : OvAt P K W0 N0 G f fun args _ σ => makeNoZeroA e args σ := by
  intro args lim σ v σ' hr β τ w args' hw hl hR hF hG ha
  unfold makeNoZeroA at hr
  dsimp only at hr
  split at hr
  case h_2 => cases hr
  rename_i n
  cases hb0 : (decide (0 ≤ n) && decide (n ≤ 281474976710656)) with
  | false => rw [hb0] at hr; cases hr
  | true =>
    rw [hb0, cond_true] at hr
    cases hr
    simp only [Bool.and_eq_true, decide_eq_true_eq] at hb0
    obtain ⟨x', rfl, hx⟩ := one_arg ha
    cases hx
    obtain ⟨m, rfl⟩ : ∃ m : Nat, n = m := ⟨n.toNat, by omega⟩
    obtain ⟨cs, h1, h2, _⟩ := Lib.run_makeNoZero (P := P) w ps t e ht m (by omega)
    have hcall : (callFunc f #[.int .i64 m]).run P w = .ok (.value (.slice (some ⟨w.heap.size, 0, none⟩) m cs.size)) (w.drew.drew.alloc (.cells cs e)) := by
      rw [run_callFunc_extern hf hname hb hn he, h1]
      rfl
    have hRd : R K W0 N0 β τ w.drew.drew := by
      have := (hR.drawn (w.drawn + 1)).drawn (w.drawn + 1 + 1)
      exact this
    have hfn : β τ.next = none := by
      rw [hl.1]
      exact hF _ (Nat.le_refl _) (by simp)
    obtain ⟨R2, hle⟩ := hRd.push hfn (x := .cells [] true (some 1, some e) none) (o' := .cells cs e) (e := ⟨w.heap.size, 0, some (0, 1, cs.size)⟩) rfl
      ⟨cs, e, (0, 0), rfl, fun i hi => by simp at hi, fun _ => FrOk.zero, rfl, fun T hT => by cases hT; exact ⟨rfl, fun h => by cases h⟩⟩
    have hnx : τ.next = σ.next := hl.1
    refine .value hcall ⟨_, τ.push (.cells [] true (some 1, some e) none), ⟨hle, fun i e' h' => ?_⟩, ⟨by simp [hnx], fun id hid => ?_, fun id hid => ?_⟩, R2, ?_⟩
    · replace h' : (if i = τ.next then some (⟨w.heap.size, 0, some (0, 1, cs.size)⟩ : Ent) else β.m i) = some e' := h'
      split at h'
      · exact .inr ⟨by omega, by rw [AS.next_push]; omega⟩
      · exact .inl h'
    · rw [AS.get_push, AS.get_push, hnx]
      simp only [AS.next_push] at hid
      split
      · rfl
      · exact hl.2 _ (by omega)
    · simp only [AS.next_push] at hid
      rw [AS.get_push, if_neg (by omega)]
    · have : ((m : Int)).toNat = m := by omega
      rw [this]
      refine .slice m ⟨rfl, ⟨w.heap.size, 0, some (0, 1, cs.size)⟩, by rw [← hnx]; exact Inj.put_self .., rfl⟩ (.inr ⟨⟨w.heap.size, 0, some (0, 1, cs.size)⟩, 0, 1, cs.size, by rw [← hnx]; exact Inj.put_self .., rfl, by simp, by simp, Nat.zero_le _⟩)

/-- A contract of the shelf's kind, as a pure function. -/
theorem pure_of_calls {tabs : List (Nat × List Value)} {f : FuncId} {fn : Func} {args : List Value} {v : Value} (hfn : P.funcs[f]? = some fn) (hname : (fn.name == "runtime.NumGoroutine") = false) (hb : fn.body.isNone = false) (ha : args.all (plainB 100) = true) (hv : plainB 100 v = true)
    (h : ∀ w, Tabs G tabs w → Calls P f args.toArray w fun e w' => e = .returned v ∧ Below w.heap.size w w') : Pure P G tabs f args v := by
  refine ⟨plain_PF 100 v hv, fun w hT z hz args' hargs => ?_⟩
  have hcall : (callFunc f args.toArray).run P w = .ok (.enter f args.toArray) w := by
    unfold callFunc
    rw [run_bind']
    show (match P.funcs[f]? with | none => _ | some fn => _ : Sem Next).run P w = _
    rw [hfn]
    simp only [hname, Bool.false_eq_true, if_false, hb]
    rfl
  have ea : args' = args.toArray := by
    have := plain_lRel_eq args args'.toList ha hargs
    rw [← this]
  subst ea
  refine .enter hcall ((h w hT).mono fun e w' ⟨he, hb⟩ => ⟨_, he, hb, z, ⟨fun hc => ?_, fun hc => ?_⟩, .refl _, plain_rel 100 v hv⟩)
  · obtain ⟨C, ty, fr, h1, h2⟩ := hz.zone hc
    have hlt : _ < w.heap.size := (Array.getElem?_eq_some_iff.1 h1).1
    exact ⟨C, ty, fr, by rw [hb.block _ hlt]; exact h1, h2⟩
  · have := hz.tags hc
    exact ⟨Nat.lt_of_lt_of_le this.1 hb.size, this.2⟩

end Go.Va

/-
  ZERO VALUES: those of the types of the table are looked through by the kernel; those of made types are in order if those are.
-/
namespace Go.Va
open Go.RowKit

def selfRel (xs : Array Value) : Prop := ∀ β x, x ∈ xs → vRel β x x
def zGood (i : TypeInfo) : Prop := ∀ z, i.zero = some z → z.cells.size = i.size ∧ selfRel z.cells ∧ ∀ β, vRel β z z

theorem selfRel_cells {z : Value} (h : ∀ β, vRel β z z) : selfRel z.cells := by
  intro β x hx
  have := cells_rel (h β)
  obtain ⟨i, hi, rfl⟩ := Array.mem_iff_getElem.1 hx
  exact this.2 i hi hi
theorem vRel_agg {xs : Array Value} (h : selfRel xs) (β : Inj) : vRel β (.agg xs) (.agg xs) := .agg rfl fun i hi _ => h β _ (by simp)

theorem zGood_of {i : TypeInfo} (h : ∀ z, i.zero = some z → z.cells.size = i.size ∧ ∀ β, vRel β z z) : zGood i := fun z hz => ⟨(h z hz).1, selfRel_cells (h z hz).2, (h z hz).2⟩

/-- What holds at the beginning of a loop, and is kept by each round, holds at its end. -/
theorem opt_forIn {α σ : Type} {Inv : σ → Prop} {f : α → σ → Option (ForInStep σ)} : ∀ (l : List α), (∀ x ∈ l, ∀ s s', Inv s → f x s = some (.yield s') → Inv s') → (∀ x ∈ l, ∀ s s', Inv s → f x s = some (.done s') → Inv s') → ∀ (s r : σ), Inv s → forIn l s f = some r → Inv r
  | [], _, _, s, r, hs, h => by
    simp only [List.forIn_nil, pure, Option.some.injEq] at h
    subst h; exact hs
  | x :: l, hy, hd, s, r, hs, h => by
    rw [List.forIn_cons] at h
    cases hf : f x s with
    | none => rw [hf] at h; cases h
    | some st =>
      rw [hf] at h
      cases st with
      | done s' =>
        simp only [bind, Option.bind, pure, Option.some.injEq] at h
        subst h
        exact hd x (by simp) s s' hs hf
      | yield s' =>
        exact opt_forIn l (fun y hy' => hy y (by simp [hy'])) (fun y hy' => hd y (by simp [hy'])) s' r (hy x (by simp) s s' hs hf) h

theorem self_append {a b : Array Value} (h : selfRel a) (k : selfRel b) : selfRel (a ++ b) := fun β x hx => by
  rcases Array.mem_append.1 hx with h1 | h1
  · exact h β x h1
  · exact k β x h1

/-- What the loop over the fields keeps. -/
def SInv (s : Array Field × Nat × Nat × Nat × Nat × Bool × Bool × Option (Array Value) × String) : Prop := ∀ a, s.2.2.2.2.2.2.2.1 = some a → a.size = s.2.1 ∧ selfRel a

theorem struct_good {info : TypeId → Option TypeInfo} (hi : ∀ t i, info t = some i → zGood i) {fs : Array Field} {r : TypeInfo} (h : Made.reckonStruct info fs = some r) : zGood r := by
  unfold Made.reckonStruct at h
  simp only [← Array.forIn_toList] at h
  simp only [bind, Option.bind_eq_some_iff] at h
  obtain ⟨s, hs, h⟩ := h
  have step : ∀ (s : Array Field × Nat × Nat × Nat × Nat × Bool × Bool × Option (Array Value) × String) (i : TypeInfo), SInv s → zGood i → ∀ (o : Array Field) (n1 n2 n3 : Nat) (b1 b2 : Bool) (str : String),
      SInv (o, s.2.1 + i.size, n1, n2, n3, b1, b2, (if s.2.1 + i.size > Made.mostCells then none else s.2.2.2.2.2.2.2.1.bind fun z => i.zero.bind fun z' => pure (z ++ z'.cells)), str) := by
    intro s i hs hz o n1 n2 n3 b1 b2 str a ha
    dsimp only at ha ⊢
    split at ha
    · cases ha
    · simp only [Option.bind_eq_some_iff] at ha
      obtain ⟨z, h1, z', h2, h3⟩ := ha
      have h3 : some (z ++ z'.cells) = some a := h3
      simp only [Option.some.injEq] at h3
      subst h3
      obtain ⟨k1, k2⟩ := hs z h1
      obtain ⟨k3, k4, _⟩ := hz z' h2
      exact ⟨by rw [Array.size_append, k1, k3], self_append k2 k4⟩
  have hI : SInv s := by
    refine opt_forIn (Inv := SInv) fs.toList ?_ ?_ _ s ?_ hs
    · intro x hx s s' hsI hf
      cases hinfo : info x.type with
      | none => rw [hinfo] at hf; cases hf
      | some i =>
        rw [hinfo] at hf
        have hz := hi _ _ hinfo
        simp only [Option.bind_some] at hf
        have step2 : ∀ (o : Array Field) (n1 n2 n3 : Nat) (b1 b2 : Bool) (str : String), SInv (o, s.2.1 + i.size, n1, n2, n3, b1, b2, s.2.2.2.2.2.2.2.1.bind fun z => i.zero.bind fun z' => pure (z ++ z'.cells), str) := by
          intro o n1 n2 n3 b1 b2 str a ha
          simp only [Option.bind_eq_some_iff] at ha
          obtain ⟨z, h1, z', h2, h3⟩ := ha
          have h3 : some (z ++ z'.cells) = some a := h3
          simp only [Option.some.injEq] at h3
          subst h3
          obtain ⟨k1, k2⟩ := hsI z h1
          obtain ⟨k3, k4, _⟩ := hz z' h2
          exact ⟨by rw [Array.size_append, k1, k3], self_append k2 k4⟩
        have step0 : ∀ (o : Array Field) (n0 n1 n2 n3 : Nat) (b1 b2 : Bool) (str : String), SInv (o, n0, n1, n2, n3, b1, b2, none, str) := fun _ _ _ _ _ _ _ _ a ha => by cases ha
        repeat' split at hf
        all_goals first
          | (cases hf; done)
          | (simp only [Option.bind_eq_some_iff, pure, Option.some.injEq, ForInStep.yield.injEq] at hf
             obtain ⟨_, _, rfl⟩ := hf
             first | apply step2 | apply step0 | apply step s i hsI hz)
    · intro x hx s s' hsI hf
      exfalso
      cases hinfo : info x.type with
      | none => rw [hinfo] at hf; cases hf
      | some i =>
        rw [hinfo] at hf
        simp only [Option.bind_some] at hf
        repeat' split at hf
        all_goals first
          | (cases hf; done)
          | (simp only [Option.bind_eq_some_iff, pure, Option.some.injEq, reduceCtorEq, and_false, exists_false] at hf)
    · intro a ha
      simp only [Option.some.injEq] at ha
      subst ha
      exact ⟨rfl, fun β x hx => by simp at hx⟩
  intro z hz
  have fin : ∀ (r : TypeInfo), r.zero = s.2.2.2.2.2.2.2.1.map .agg → r.size = s.2.1 → r.zero = some z → z.cells.size = r.size ∧ selfRel z.cells ∧ ∀ β, vRel β z z := by
    intro r e1 e2 e3
    rw [e1] at e3
    simp only [Option.map_eq_some_iff] at e3
    obtain ⟨a, ha, rfl⟩ := e3
    obtain ⟨k1, k2⟩ := hI a ha
    exact ⟨by rw [e2]; exact k1, k2, vRel_agg k2⟩
  split at h
  all_goals (simp only [pure, Option.some.injEq] at h; subst h; exact fin _ rfl rfl hz)

theorem word_good (d : TypeDesc) (str : String) (z : Value) (c : Bool) (n : Nat) (h1 : z.cells.size = 1) (h2 : ∀ β, vRel β z z) : zGood (Made.word d str z c n) := by
  refine zGood_of fun z' hz => ?_
  simp only [Made.word, Option.some.injEq] at hz
  subst hz
  exact ⟨h1, h2⟩

theorem reckon_good {info : TypeId → Option TypeInfo} (hi : ∀ t i, info t = some i → zGood i) {d : TypeDesc} {r : TypeInfo} (h : Made.reckon info d = some r) : zGood r := by
  cases d <;> simp only [Made.reckon, bind, pure, Option.bind_eq_some_iff, Option.some.injEq, reduceCtorEq] at h
  case struct fs => exact struct_good hi h
  case pointer e =>
    obtain ⟨i, h1, h⟩ := h
    split at h
    · cases h
    · split at h
      · cases h
      · simp only [Option.bind_eq_some_iff, Option.some.injEq] at h
        obtain ⟨_, _, rfl⟩ := h
        exact word_good _ _ _ _ _ rfl fun β => .ptrNone
    · simp only [Option.bind_eq_some_iff, Option.some.injEq] at h
      obtain ⟨_, _, rfl⟩ := h
      exact word_good _ _ _ _ _ rfl fun β => .ptrNone
  case slice e =>
    obtain ⟨_, _, _, _, rfl⟩ := h
    exact word_good _ _ _ _ _ rfl fun β => .sliceNone 0 0
  case map k e =>
    obtain ⟨_, _, _, _, _, _, _, _, rfl⟩ := h
    exact word_good _ _ _ _ _ rfl fun β => .mapNone
  case chan dir e =>
    obtain ⟨_, _, _, _, rfl⟩ := h
    exact word_good _ _ _ _ _ rfl fun β => .chanNone
  case func ps rs v =>
    obtain ⟨_, _, rfl⟩ := h
    exact word_good _ _ _ _ _ rfl fun β => .nilFunc
  case array n e =>
    obtain ⟨i, h1, _, _, rfl⟩ := h
    have hz := hi _ _ h1
    refine zGood_of fun z hz' => ?_
    dsimp only at hz' ⊢
    split at hz'
    · cases hz'
    · split at hz'
      · rename_i h0
        cases hz'
        exact ⟨h0.symm, fun β => vRel_agg (fun β x hx => by simp at hx) β⟩
      · simp only [Option.map_eq_some_iff] at hz'
        obtain ⟨u, hu, rfl⟩ := hz'
        obtain ⟨k1, k2, _⟩ := hz u hu
        refine ⟨?_, fun β => vRel_agg (fun β x hx => ?_) β⟩
        · show ((Array.replicate n u.cells).flatten).size = n * i.size
          rw [← k1]; simp [Array.size_flatten]
        · obtain ⟨ys, hys, hx⟩ := Array.mem_flatten.1 hx
          have := (Array.mem_replicate.1 hys).2
          subst this
          exact k2 β x hx

theorem infoAt_good {T : Tables} (h : ∀ i, i ∈ T.types → zGood i) : ∀ (f : Nat) (t : TypeId) (i : TypeInfo), Made.infoAt T f t = some i → zGood i
  | 0, t, i, hi => by cases hi
  | f + 1, t, i, hi => by
    simp only [Made.infoAt] at hi
    split at hi
    · exact h i (Array.mem_of_getElem? hi)
    · simp only [Option.bind_eq_some_iff] at hi
      obtain ⟨d, _, hd⟩ := hi
      exact reckon_good (infoAt_good h f) hd

def zerosB (P : Program) : Bool := P.types.toList.all fun i => match i.zero with
  | some z => Nat.beq z.cells.size i.size && plainB 100 z
  | none => true

theorem zeroOk_of {P : Program} (h : zerosB P = true) : ZeroOk P := by
  have hg : ∀ i, i ∈ P.types → zGood i := fun i hi => zGood_of fun z hz => by
    have h1 := List.all_eq_true.1 h i (by simpa using hi)
    rw [hz] at h1
    simp only [Bool.and_eq_true] at h1
    exact ⟨Nat.eq_of_beq_eq_true h1.1, fun β => plain_rel 100 z h1.2⟩
  intro t i z ht hz
  have : zGood i := by
    unfold Tables.info? at ht
    split at ht
    · exact hg i (Array.mem_of_getElem? ht)
    · exact infoAt_good hg _ _ _ ht
  exact ⟨(this z hz).1, (this z hz).2.2⟩

end Go.Va

/-
  AN OPEN HEAP: what is read and written where the heap is known by facts alone.
-/
namespace Go.Va

theorem next_push (σ : AS) (x : AObj) : (σ.push x).next = σ.next + 1 := rfl
theorem next_put (σ : AS) (k : Nat) (x : Option AObj) : (σ.put k x).next = σ.next := rfl
theorem get_push_eq {σ : AS} {x : AObj} {j : Nat} (h : j = σ.next) : (σ.push x).get j = some x := by rw [AS.get_push, if_pos h]
theorem get_push_ne {σ : AS} {x : AObj} {j : Nat} (h : j ≠ σ.next) : (σ.push x).get j = σ.get j := by rw [AS.get_push, if_neg h]
theorem get_put_eq {σ : AS} {x : Option AObj} {j k : Nat} (h : j = k) : (σ.put k x).get j = x := by rw [AS.get_put, if_pos h]
theorem get_put_ne {σ : AS} {x : Option AObj} {j k : Nat} (h : j ≠ k) : (σ.put k x).get j = σ.get j := by rw [AS.get_put, if_neg h]

theorem cell_of {σ : AS} {b : Nat} {c : List Value} {rw : Bool} {lo : Lo} {pv : Option Nat} {off : Nat} {v : Value} (h : σ.get b = some (.cells c rw lo pv)) (hv : c[off]? = some v) : σ.cell? ⟨b, off, none⟩ = some v := by
  unfold AS.cell?
  dsimp only
  rw [h]
  exact hv
theorem setCell_of {σ : AS} {lim b : Nat} {c : List Value} {lo : Lo} {off : Nat} {v : Value} (h : σ.get b = some (.cells c true lo none)) (hl : lim ≤ b) (ho : off < c.length) :
    σ.setCell lim ⟨b, off, none⟩ v = some (σ.put b (some (.cells (c.set off v) true lo none))) := by
  unfold AS.setCell
  simp only [ltLen_eq]
  rw [h]
  dsimp only
  rw [show Nat.ble lim b = true from Nat.ble_eq_true_of_le hl, show Nat.blt off c.length = true from blt_iff.2 ho]
  rfl
theorem setCells1 {σ : AS} {lim b : Nat} {c : List Value} {lo : Lo} {off : Nat} {v : Value} (h : σ.get b = some (.cells c true lo none)) (hl : lim ≤ b) (ho : off < c.length) (hv : oneCell v = true) :
    σ.setCells lim ⟨b, off, none⟩ [v] 0 = some (σ.put b (some (.cells (c.set off v) true lo none))) := by
  unfold AS.setCells
  rw [hv, cond_true]
  rw [show (⟨b, off, none⟩ : Addr).add 0 = ⟨b, off, none⟩ from rfl, setCell_of h hl ho]
  rfl

theorem add_off (b off i : Nat) : (⟨b, off, none⟩ : Addr).add i = ⟨b, off + i, none⟩ := by
  unfold Addr.add
  by_cases h : i = 0
  · rw [if_pos h, h]; rfl
  · rw [if_neg h]
theorem loadCells_of {P : Program} {lim : Nat} {σ : AS} {b : Nat} {c : List Value} {rw : Bool} {lo : Lo} {pv : Option Nat} {off : Nat} (h : σ.get b = some (.cells c rw lo pv)) :
    ∀ (n i : Nat) (acc : Array Value), off + i + n ≤ c.length → runA P lim (loadCellsFrom ⟨b, off, none⟩ i n acc) σ = some (acc ++ ((c.drop (off + i)).take n).toArray, σ) := by
  intro n
  induction n with
  | zero =>
    intro i acc _
    simp only [List.take_zero]
    rw [show acc ++ ([] : List Value).toArray = acc by simp]
    rfl
  | succ n ih =>
    intro i acc hb
    have hi : off + i < c.length := by omega
    show runA P lim (.load .plain ((⟨b, off, none⟩ : Addr).add i) fun v => loadCellsFrom ⟨b, off, none⟩ (i + 1) n (acc.push v)) σ = _
    simp only [runA]
    rw [add_off, cell_of h (List.getElem?_eq_getElem hi)]
    dsimp only
    rw [ih (i + 1) _ (by omega)]
    congr 2
    rw [List.drop_eq_getElem_cons hi, List.take_succ_cons]
    apply Array.ext'
    simp [Nat.add_assoc]

/-- append of a row's cells, behind a nil slice. -/
theorem append_nil {P : Program} {lim : Nat} {σ : AS} {T T1 el el1 : TypeId} {i : TypeInfo} {z n cz : Nat} {c : List Value} {rw : Bool} {lo : Lo} {pv : Option Nat}
    (hT : P.underlying T = some (.slice el)) (hT1 : P.underlying T1 = some (.slice el1)) (hi : P.info? el = some i) (h1 : i.size = 1) (hz0 : i.zero.isSome = true)
    (hz : σ.get z = some (.cells c rw lo pv)) (hc : c.length = n) (hn : 0 < n) (hb : 0 < i.bytes) (hbig : n * i.bytes ≤ 70368744177664) (hone : c.all oneCell = true) :
    appA P true lim #[T, T1] [.slice none 0 0, .slice (some ⟨z, 0, none⟩) n cz] σ = some (.slice (some ⟨σ.next, 0, none⟩) n n, σ.push (.cells c true (some 1, some el) none)) := by
  unfold appA
  rw [show appendL P true lim #[T, T1] [.slice none 0 0, .slice (some ⟨z, 0, none⟩) n cz] σ = none from rfl]
  dsimp only
  unfold appendA
  rw [show (#[T, T1] : Array TypeId)[0]? = some T from rfl, show (#[T, T1] : Array TypeId)[1]? = some T1 from rfl]
  dsimp only
  rw [hT]
  dsimp only
  rw [hi]
  dsimp only
  have hnew : newCells P lim i (some T1) (.slice (some ⟨z, 0, none⟩) n cz) σ = some (c, n) := by
    unfold newCells
    rw [show (some T1).bind P.underlying = some (.slice el1) from hT1]
    dsimp only [asL]
    rw [show lenOfA (.slice (some ⟨z, 0, none⟩) n cz) = some n from rfl]
    dsimp only
    show (match runA P lim (loadCellsFrom ⟨z, 0, none⟩ 0 (n * i.size) #[]) σ with
      | some (c, _) => some (c.toList, n)
      | none => none) = _
    rw [h1, Nat.mul_one, loadCells_of hz n 0 #[] (by omega)]
    dsimp only
    rw [show c.drop (0 + 0) = c from rfl, List.take_of_length_le (by omega)]
    simp
  rw [hnew]
  dsimp only
  unfold append1
  rw [show Nat.ble (0 + n) 0 = false from by
    cases h : Nat.ble (0 + n) 0
    · rfl
    · have := Nat.le_of_ble_eq_true h; omega]
  rw [cond_false, Nat.zero_add, show Nat.ble (n * i.bytes) 70368744177664 = true from Nat.ble_eq_true_of_le hbig, show Nat.blt 0 i.bytes = true from blt_iff.2 hb, hz0, hone,
    show Nat.beq c.length (n * i.size) = true by rw [h1, Nat.mul_one, hc]; exact Nat.beq_refl n]
  rw [h1]
  rfl

/-- append of a row's cells, to a row that is full. -/
theorem append_row {P : Program} {lim : Nat} {σ : AS} {T T1 el el1 : TypeId} {i : TypeInfo} {z n cz r m : Nat} {c d : List Value} {rw : Bool} {lo : Lo} {pv : Option Nat}
    (hT : P.underlying T = some (.slice el)) (hT1 : P.underlying T1 = some (.slice el1)) (hi : P.info? el = some i) (h1 : i.size = 1) (hz0 : i.zero.isSome = true)
    (hz : σ.get z = some (.cells c rw lo pv)) (hc : c.length = n) (hn : 0 < n) (hb : 0 < i.bytes) (hbig : (m + n) * i.bytes ≤ 70368744177664) (hone : c.all oneCell = true)
    {qv : Option Nat} (hr : σ.get r = some (.cells d true (some 1, some el) qv)) (hd : d.length = m) (hl : lim ≤ r) {σ1 : AS} (hk : σ.kill lim qv = some σ1) :
    appA P true lim #[T, T1] [.slice (some ⟨r, 0, none⟩) m m, .slice (some ⟨z, 0, none⟩) n cz] σ =
      some (.slice (some ⟨σ.next, 0, none⟩) (m + n) (m + n), (σ1.put r (some (.cells d false (some 1, some el) none))).push (.cells (d ++ c) true (some 1, some el) (some r))) := by
  unfold appA
  rw [show appendL P true lim #[T, T1] [.slice (some ⟨r, 0, none⟩) m m, .slice (some ⟨z, 0, none⟩) n cz] σ = none from rfl]
  dsimp only
  unfold appendA
  rw [show (#[T, T1] : Array TypeId)[0]? = some T from rfl, show (#[T, T1] : Array TypeId)[1]? = some T1 from rfl]
  dsimp only
  rw [hT]
  dsimp only
  rw [hi]
  dsimp only
  have hnew : newCells P lim i (some T1) (.slice (some ⟨z, 0, none⟩) n cz) σ = some (c, n) := by
    unfold newCells
    rw [show (some T1).bind P.underlying = some (.slice el1) from hT1]
    dsimp only [asL]
    rw [show lenOfA (.slice (some ⟨z, 0, none⟩) n cz) = some n from rfl]
    dsimp only
    show (match runA P lim (loadCellsFrom ⟨z, 0, none⟩ 0 (n * i.size) #[]) σ with
      | some (c, _) => some (c.toList, n)
      | none => none) = _
    rw [h1, Nat.mul_one, loadCells_of hz n 0 #[] (by omega)]
    dsimp only
    rw [show c.drop (0 + 0) = c from rfl, List.take_of_length_le (by omega)]
    simp
  rw [hnew]
  dsimp only
  unfold append1
  rw [show Nat.ble (m + n) m = false from by
    cases h : Nat.ble (m + n) m
    · rfl
    · have := Nat.le_of_ble_eq_true h; omega]
  rw [cond_false, show Nat.ble ((m + n) * i.bytes) 70368744177664 = true from Nat.ble_eq_true_of_le hbig, show Nat.blt 0 i.bytes = true from blt_iff.2 hb, hz0, hone,
    show Nat.beq c.length (n * i.size) = true by rw [h1, Nat.mul_one, hc]; exact Nat.beq_refl n]
  simp only [Bool.and_self, cond_true]
  rw [hr]
  dsimp only
  rw [h1, Nat.mul_one, Nat.zero_add, show Nat.ble m d.length = true from Nat.ble_eq_true_of_le (by omega), cond_true]
  have hx : σ.exact ⟨r, 0, none⟩ m = false := by
    unfold AS.exact
    rw [hr]
    dsimp only
    rw [Nat.mul_one, Nat.zero_add, hd]
    cases h : Nat.blt m m
    · rfl
    · have := blt_iff.1 h; omega
  have hle : Nat.ble lim r = true := Nat.ble_eq_true_of_le hl
  have hlo : (((some 1, some el) : Lo) == (some 1, some el)) = true := beq_self_eq_true _
  rw [hx, cond_false, hle, hlo, hk]
  simp only [Bool.and_self, cond_true, Nat.beq_refl, List.drop_zero]
  rw [List.take_of_length_le (by omega)]

theorem ustr_row {P : Program} {lim : Nat} {σ : AS} {T el : TypeId} {r n : Nat} {k : IntKind} {c : List Value} {s : List UInt8} {esz : Option Nat} {pv : Option Nat}
    {T1 : TypeId} (hT : P.underlying T = some (.pointer el)) (h1 : P.cellsOf el = 1) (hr : σ.get r = some (.cells c true (esz, some el) pv)) (hc : c.length = n) (hn : 0 < n) (hbig : n ≤ 1099511627776) (hl : lim ≤ r)
    (hs : bytesOf c = some s) {σ1 : AS} (hk : σ.kill lim pv = some σ1) :
    ustrA P lim #[T, T1] [.pointer (some ⟨r, 0, none⟩), .int k (n : Nat)] σ = some (.string ⟨s.toArray⟩, σ1.put r (some (.cells c false (esz, some el) none))) := by
  unfold ustrA
  rw [show (#[T, T1] : Array TypeId)[0]? = some T from rfl]
  dsimp only
  rw [show decide ((n : Int) = 0) = false from decide_eq_false (by omega), cond_false, hT]
  dsimp only
  rw [hr]
  dsimp only
  have hlo : ((some el : Option TypeId) == some el) = true := beq_self_eq_true _
  rw [hlo, h1, show decide ((0 : Int) ≤ n) = true from decide_eq_true (by omega), Int.toNat_natCast, Nat.zero_add, show Nat.ble n c.length = true from Nat.ble_eq_true_of_le (by omega),
    show Nat.ble n 1099511627776 = true from Nat.ble_eq_true_of_le hbig, show Nat.ble lim r = true from Nat.ble_eq_true_of_le hl, List.drop_zero, List.take_of_length_le (by omega), hs, hk]
  rfl

/-! ## A round of a loop over a function -/

theorem round_of {P : Program} {E : Env} {lim l f : Nat} {t t1 t2 : List Value} {asg body : Code} {σ σ1 σ3 : AS} {lp lp3 : Go.Loop}
    (h1 : runW P E lim (.code ⟨f, some l⟩ asg t []) σ = some (.done .normal t1 [], σ1)) (hg : σ1.get l = some (.obj (.loop lp))) (hs : lp.state = .ready) (hl : lim ≤ l)
    (h2 : runW P E lim (.code ⟨f, some l⟩ body t1 []) (σ1.put l (some (.obj (.loop { lp with state := .busy })))) = some (.done .normal t2 [], σ3)) (hg3 : σ3.get l = some (.obj (.loop lp3))) :
    runW P E lim (.round l f t asg body) σ = some (.val (.bool true), σ3.put l (some (.obj (.loop { lp3 with state := .ready, pending := none })))) := by
  apply runW_step
  unfold stepA
  dsimp only
  rw [h1]
  dsimp only
  have hle : Nat.ble lim l = true := Nat.ble_eq_true_of_le hl
  have hb : runA P lim (Instr.beginRound l) σ1 = some ((), σ1.put l (some (.obj (.loop { lp with state := .busy })))) := by
    show runA P lim (.getObj l _) σ1 = _
    simp only [runA]
    rw [hg]
    dsimp only
    show runA P lim (.setObj l _ _) σ1 = _
    simp only [runA]
    rw [hg]
    dsimp only
    rw [hle]
    show runA P lim _ _ = _
    rw [hs]
    rfl
  rw [hb]
  dsimp only
  rw [h2]
  dsimp only
  have he : runA P lim (Instr.endRound l none) σ3 = some (.bool true, σ3.put l (some (.obj (.loop { lp3 with state := .ready, pending := none })))) := by
    show runA P lim (.getObj l _) σ3 = _
    simp only [runA]
    rw [hg3]
    dsimp only
    show runA P lim (.setObj l _ _) σ3 = _
    simp only [runA]
    rw [hg3]
    dsimp only
    rw [hle]
    rfl
  rw [he]

theorem yield_of {P : Program} {E : Env} {lim l : Nat} {args : List Value} {σ σ' : AS} {lp : Go.Loop} {v : Value} (hg : σ.get l = some (.obj (.loop lp))) (ha : args.length = lp.params.size)
    (h : runW P E lim (.round l lp.fn ((lp.params.zip args.toArray).foldl (fun tmps (t, a) => tmps.setIfInBounds t a) lp.tmps).toList lp.assign lp.body) σ = some (.val v, σ')) :
    applyA P E (runW P E) lim (.func (.yield l) #[] #[]) args σ = some (v, σ') := by
  unfold applyA
  dsimp only
  have hy : runA P lim (Instr.yield l (#[] ++ args.toArray)) σ = some (.round l lp.fn ((lp.params.zip args.toArray).foldl (fun tmps (t, a) => tmps.setIfInBounds t a) lp.tmps) lp.assign lp.body, σ) := by
    show runA P lim (.getObj l _) σ = _
    simp only [runA]
    rw [hg]
    have hsz : (#[] ++ args.toArray : Array Value).size = lp.params.size := by simp [ha]
    dsimp only
    show runA P lim (if (#[] ++ args.toArray : Array Value).size ≠ lp.params.size then _ else _) σ = _
    rw [if_neg (fun h => h hsz), show (#[] ++ args.toArray : Array Value) = args.toArray by simp]
    rfl
  rw [hy]
  dsimp only
  rw [h]

/-- A loop over a function that is a closure, outside of any round. -/
theorem range_of {P : Program} {E : Env} {lim f g : Nat} {fo : Operand} {ps : Array Tmp} {asg body : Code} {t : List Value} {ds : List Nat} {σ σ2 : AS} {cap : Array Value} {v : Value} {lp2 : Go.Loop}
    (hf : ev t fo = .func (.func g) #[] cap) (hov : E.isOv g = false)
    (hc : runW P E lim (.call g (.func (.yield (σ.next + 1)) #[] #[] :: cap.toList)) ((σ.push (.obj (.deferred (some [])))).push (.obj (.loop { state := .ready, pending := none, fn := f, tmps := t.toArray, params := ps, assign := asg, body := body, defers := σ.next }))) = some (.val v, σ2))
    (hg : σ2.get (σ.next + 1) = some (.obj (.loop lp2))) (hs : lp2.state = .ready) (hp : lp2.pending = none) (hl : lim ≤ σ.next) :
    runW P E lim (.code ⟨f, none⟩ (.rangeFunc fo ps asg body) t ds) σ = some (.done .normal t (σ.next :: ds), σ2.put (σ.next + 1) (some (.obj (.loop { lp2 with state := .exhausted })))) := by
  apply runW_step
  unfold stepA
  dsimp only
  unfold rangeA
  have he : runA P lim (Instr.enterLoop f t.toArray ps asg body none) σ = some ((σ.next + 1, [{ target := .collected σ.next, args := #[] }]), (σ.push (.obj (.deferred (some [])))).push (.obj (.loop { state := .ready, pending := none, fn := f, tmps := t.toArray, params := ps, assign := asg, body := body, defers := σ.next }))) := rfl
  rw [he]
  dsimp only
  rw [show markIds [{ target := .collected σ.next, args := #[] }] = some [σ.next] from rfl]
  dsimp only
  rw [hf]
  have ha : applyA P E (runW P E) lim (.func (.func g) #[] cap) [.func (.yield (σ.next + 1)) #[] #[]] ((σ.push (.obj (.deferred (some [])))).push (.obj (.loop { state := .ready, pending := none, fn := f, tmps := t.toArray, params := ps, assign := asg, body := body, defers := σ.next }))) = some (v, σ2) := by
    unfold applyA
    dsimp only
    unfold enterA
    rw [hov, cond_false]
    show (match runW P E lim (.call g (.func (.yield (σ.next + 1)) #[] #[] :: cap.toList)) _ with
      | some (.val v, σ') => some (v, σ')
      | _ => none) = _
    rw [hc]
  rw [ha]
  dsimp only
  unfold rangeEnd
  have hle : Nat.ble lim (σ.next + 1) = true := Nat.ble_eq_true_of_le (by omega)
  have hE : runA P lim (Instr.endLoop (σ.next + 1)) σ2 = some (none, σ2.put (σ.next + 1) (some (.obj (.loop { lp2 with state := .exhausted })))) := by
    show runA P lim (.getObj (σ.next + 1) _) σ2 = _
    simp only [runA]
    rw [hg]
    dsimp only
    show runA P lim (if (lp2.state == .busy) = true then _ else _) σ2 = _
    rw [hs, if_neg (by decide)]
    show runA P lim (.setObj (σ.next + 1) _ _) σ2 = _
    simp only [runA]
    rw [hg]
    dsimp only
    rw [hle]
    show runA P lim (Pure.pure lp2.pending) _ = _
    rw [hp]
    rfl
  rw [hE]
  rfl

/-! ## Calls -/

theorem app_of {P : Program} {E : Env} {lim f : Nat} {args : List Value} {σ σ' : AS} {v : Value} (hov : E.isOv f = false) (h : runW P E lim (.call f args) σ = some (.val v, σ')) :
    applyA P E (runW P E) lim (.func (.func f) #[] #[]) args σ = some (v, σ') := by
  unfold applyA
  dsimp only
  unfold enterA
  rw [hov, cond_false]
  have e : (#[] : Array Value).toList ++ args ++ (#[] : Array Value).toList = args := by simp
  rw [e, h]
theorem call_of {P : Program} {E : Env} {lim f : Nat} {args : List Value} {fn : Func} {c : Code} {t1 : List Value} {ds : List Nat} {σ σ1 σ2 : AS} {v : Value} (hok : E.ok f = true) (hf : P.funcs[f]? = some fn) (hb : fn.body = some c)
    (h : runW P E lim (.code ⟨f, none⟩ c (args ++ List.replicate (fn.ntmps - args.length) undef) []) σ = some (.done .ret t1 ds, σ1)) (ht : takeA P lim ds σ1 = some σ2) (hr : runA P lim (results fn t1.toArray) σ2 = some (v, σ2)) :
    runW P E lim (.call f args) σ = some (.val v, σ2) := by
  apply runW_step
  unfold stepA
  dsimp only
  rw [hok, cond_true, hf]
  dsimp only
  rw [hb]
  dsimp only
  rw [h]
  dsimp only
  rw [ht]
  dsimp only
  rw [hr]
theorem takeA_of {P : Program} {lim : Nat} : ∀ (ds : List Nat) (σ : AS), ds.Nodup → (∀ d ∈ ds, lim ≤ d ∧ σ.get d = some (.obj (.deferred (some [])))) → ∃ σ', takeA P lim ds σ = some σ'
  | [], σ, _, _ => ⟨σ, rfl⟩
  | d :: ds, σ, hn, h => by
    obtain ⟨hl, hg⟩ := h d (List.mem_cons_self ..)
    have hle : Nat.ble lim d = true := Nat.ble_eq_true_of_le hl
    have hr : runA P lim (Instr.takeDeferred d) σ = some ([], σ.put d (some (.obj (.deferred none)))) := by
      show runA P lim (.getObj d _) σ = _
      simp only [runA]
      rw [hg]
      dsimp only
      show runA P lim (.setObj d _ _) σ = _
      simp only [runA]
      rw [hg]
      dsimp only
      rw [hle]
      rfl
    rw [List.nodup_cons] at hn
    obtain ⟨σ', h'⟩ := takeA_of ds (σ.put d (some (.obj (.deferred none)))) hn.2 fun e he => by
      obtain ⟨h1, h2⟩ := h e (List.mem_cons_of_mem _ he)
      exact ⟨h1, by rw [get_put_ne (fun x : e = d => hn.1 (by rw [← x]; exact he)), h2]⟩
    refine ⟨σ', ?_⟩
    unfold takeA
    rw [hr]
    exact h'

end Go.Va

/-
  THE PIECES OF A STRING between the places of a byte.
-/
namespace Go.Va

def pcs (c : UInt8) : List UInt8 → List (List UInt8)
  | [] => [[]]
  | b :: l => bif b == c then [] :: pcs c l else (match pcs c l with
    | [] => [[b]]
    | p :: ps => (b :: p) :: ps)
theorem pcs_ne (c : UInt8) : ∀ l : List UInt8, pcs c l ≠ []
  | [] => by intro h; cases h
  | b :: l => by
    unfold pcs
    cases b == c with
    | true => intro h; cases h
    | false =>
      rw [cond_false]
      split <;> (intro h; cases h)
theorem pcs_cons_ne {c b : UInt8} (h : b ≠ c) {l : List UInt8} {p : List UInt8} {ps : List (List UInt8)} (e : pcs c l = p :: ps) : pcs c (b :: l) = (b :: p) :: ps := by
  show (bif b == c then [] :: pcs c l else (match pcs c l with
    | [] => [[b]]
    | p :: ps => (b :: p) :: ps)) = _
  rw [show (b == c) = false from beq_eq_false_iff_ne.2 h, cond_false, e]
theorem pcs_none {c : UInt8} : ∀ {l : List UInt8}, (∀ b ∈ l, b ≠ c) → pcs c l = [l]
  | [], _ => rfl
  | b :: l, h => pcs_cons_ne (h b (List.mem_cons_self ..)) (pcs_none fun x hx => h x (List.mem_cons_of_mem _ hx))
theorem pcs_sep (c : UInt8) (l : List UInt8) : pcs c (c :: l) = [] :: pcs c l := by
  show (bif c == c then [] :: pcs c l else (match pcs c l with
    | [] => [[c]]
    | p :: ps => (c :: p) :: ps)) = _
  rw [beq_self_eq_true, cond_true]
theorem pcs_cut {c : UInt8} {l : List UInt8} : ∀ {p : List UInt8}, (∀ b ∈ p, b ≠ c) → pcs c (p ++ c :: l) = p :: pcs c l
  | [], _ => pcs_sep c l
  | b :: p, h => pcs_cons_ne (h b (List.mem_cons_self ..)) (pcs_cut fun x hx => h x (List.mem_cons_of_mem _ hx))
theorem mem_get {c : UInt8} {l : List UInt8} (h : ∀ k : Nat, l[k]? ≠ some c) : ∀ b ∈ l, b ≠ c := by
  intro b hb e
  obtain ⟨k, hk, rfl⟩ := List.mem_iff_getElem.1 hb
  exact h k (by rw [List.getElem?_eq_getElem hk, e])
theorem pcs_index_none {c : UInt8} {l : List UInt8} (h : Lib.indexByte l c = -1) : pcs c l = [l] := pcs_none (mem_get (Lib.indexByte_none h))
theorem pcs_index {c : UInt8} {l : List UInt8} {i : Nat} (h : Lib.indexByte l c = i) : i < l.length ∧ pcs c l = l.take i :: pcs c (l.drop (i + 1)) := by
  obtain ⟨h1, h2⟩ := Lib.indexByte_some h
  have hi : i < l.length := by
    by_cases hi : i < l.length
    · exact hi
    · rw [List.getElem?_eq_none (by omega)] at h1; cases h1
  refine ⟨hi, ?_⟩
  have hg : l[i] = c := by
    rw [List.getElem?_eq_getElem hi] at h1
    exact Option.some.inj h1
  have e : l = l.take i ++ c :: l.drop (i + 1) := by
    rw [← hg, ← List.drop_eq_getElem_cons hi, List.take_append_drop]
  have hp : ∀ b ∈ l.take i, b ≠ c := by
    refine mem_get fun k => ?_
    rw [List.getElem?_take]
    split
    · exact h2 k (by omega)
    · intro h; cases h
  conv => lhs; rw [e]
  exact pcs_cut hp
theorem index_cases (l : List UInt8) (c : UInt8) : Lib.indexByte l c = -1 ∨ ∃ i : Nat, Lib.indexByte l c = i := by
  have := Lib.indexByte_ge l c
  by_cases h : Lib.indexByte l c = -1
  · exact .inl h
  · exact .inr ⟨(Lib.indexByte l c).toNat, by omega⟩
end Go.Va

/-
  A run's answer, where it is a pair with a list in it.
-/
namespace Go.Va

/-- What stands for v stands for u, too. -/
def Shed (v u : Value) : Prop := ∀ {β : Inj} {v' : Value}, vRel β v v' → vRel β u v'
theorem shed_strip (v : Value) : Shed v (strip v) := fun h => strip_rel h
theorem shed_pair (a b : Value) : Shed (.tuple #[a, b]) (.tuple #[strip a, b]) := by
  intro β v' h
  generalize hx : Value.tuple #[a, b] = x at h
  cases h <;> cases hx
  rename_i f' hf hf'
  refine .tuple hf fun i h1 h2 => ?_
  match i, h1, h2 with
  | 0, h1, h2 => exact strip_rel (hf' 0 (by simp) h2)
  | 1, h1, h2 => exact hf' 1 (by simp) h2

section
variable {P : Program} {E : Env} {G : Nat} {tabs : List (Nat × List Value)}
theorem topX (hZ : ZeroOk P) (hM : P.follows .mixedOrders = true) (ht : tabsB G tabs = true) (hGood : OvGood E)
    (hOk : ∀ w, Tabs G tabs w → OvOk P (CodeK G E) w w.heap.size G E) (hFn : FnOk P G E) {f : FuncId} {args : List Value} {v u : Value} {σ' : AS}
    (hr : runW P E 0 (.call f args) (base0 G tabs) = some (.val v, σ')) (hu : Shed v u) (hv : PF u) : Pure P G tabs f args u := by
  obtain ⟨n, hr⟩ := runW_some hr
  refine ⟨hv, fun w hT z hz args' ha => ?_⟩
  have hS := (sound (W0 := w) (N0 := w.heap.size) hZ hM hGood (hOk w hT) hFn n).1
  have hn : (base0 G tabs).next = G := base0_next _ _
  refine (hS 0 f args (base0 G tabs) v σ' hr (inj1 G z w.heap.size) (base0 G tabs) w args' (base0_wf ht) ⟨rfl, fun _ _ => rfl⟩ (base0_R ht hT hz) (fun i h1 h2 => ?_) (fun g hg => ?_) ha).mono fun v' w' h => ?_
  · dsimp only [inj1]; rw [if_neg (by omega)]
  · dsimp only [inj1]; rw [if_pos hg]
  · obtain ⟨β', τ', x, _, hR, hvr⟩ := h
    refine ⟨hR.base, β'.z, hR.zr.rest, ⟨fun _ _ h => h, x.1.z, rfl, x.1.zn, x.1.tn⟩, hv.turn (hu hvr) fun _ _ _ h => h⟩
end
end Go.Va
