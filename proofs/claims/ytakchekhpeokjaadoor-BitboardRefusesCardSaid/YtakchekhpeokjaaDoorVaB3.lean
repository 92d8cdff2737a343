/-
  SIMULATION: blind operations may run later; the plans of a region in each mode.
-/
import Derived.Test.YtakchekhpeokjaaDoorVaB2
namespace Go.Va
variable {P : Program} {E : Env} {rec : Rec} {ops : Array Oper} {lim : Nat}

theorem op1_congr {q : Bool} {o : Oper} {t t' : List Value} (h : ∀ d ∈ o.looksAt ops, t'[d]? = t[d]?) (σ : AS) : op1 P E rec ops q lim o t' σ = op1 P E rec ops q lim o t σ := by
  have hop : ∀ x ∈ o.op.operands, ev t' x = ev t x := by
    intro x hx
    cases x with
    | tmp i =>
      simp only [ev]
      have := h i (by
        unfold Oper.looksAt
        exact List.mem_append_left _ (List.mem_filterMap.2 ⟨.tmp i, by simpa using hx, rfl⟩))
      rw [List.getD_eq_getElem?_getD, List.getD_eq_getElem?_getD, this]
    | _ => rfl
  have hw : Region.wanted o (yieldedL ops t') = Region.wanted o (yieldedL ops t) := by
    unfold Region.wanted
    cases hg : o.guard with
    | none => rfl
    | some gb =>
      obtain ⟨g, b⟩ := gb
      have : yieldedL ops t' g = yieldedL ops t g := by
        unfold yieldedL
        cases hd : (ops[g]?).bind (·.dst) with
        | none => rfl
        | some d =>
          have hl := h d (by
            unfold Oper.looksAt
            refine List.mem_append_right _ ?_
            rw [hg]
            simp [hd])
          simp only [Option.bind_some]
          rw [hl]
      simp only [this]
  unfold op1
  rw [hw, operA_congr hop]

theorem putT_look {t : List Value} {dst : Option Tmp} {v : Value} {d : Tmp} (h : dst ≠ some d) : (putT t dst v)[d]? = t[d]? := by
  cases dst with
  | none => rfl
  | some e =>
    simp only [putT]
    rw [List.getElem?_set_ne]
    intro he; exact h (by rw [he])

theorem putT_comm {t : List Value} {a b : Option Tmp} {u v : Value} (h : ∀ d, a = some d → b ≠ some d) : putT (putT t a u) b v = putT (putT t b v) a u := by
  cases a with
  | none => rfl
  | some d =>
    cases b with
    | none => rfl
    | some e =>
      simp only [putT]
      rw [List.set_comm]
      intro he; exact h d rfl (by rw [he])

theorem opsI_swap {x y : Nat × Bool} {p o : Oper} (hp : ops[x.1]? = some p) (ho : ops[y.1]? = some o) (hb : blindO p = true) (hap : p.apart ops o = true) {l : List (Nat × Bool)} {t : List Value} {σ : AS} {R : List Value × AS}
    (h : opsI P E rec ops lim (x :: y :: l) t σ = some R) : opsI P E rec ops lim (y :: x :: l) t σ = some R := by
  obtain ⟨h1, h3, h2⟩ := Oper.apart_spec hap
  rw [opsI_cons, hp] at h
  dsimp only at h
  cases e1 : op1 P E rec ops x.2 lim p t σ with
  | none => rw [e1] at h; cases h
  | some r =>
    obtain ⟨v, σ1⟩ := r
    obtain ⟨rfl, hv⟩ := blind_op1 hb e1
    rw [e1] at h
    have h : opsI P E rec ops lim (y :: l) (putT t p.dst v) σ1 = some R := h
    rw [opsI_cons, ho] at h
    dsimp only at h
    have hl1 : ∀ d ∈ o.looksAt ops, (putT t p.dst v)[d]? = t[d]? := fun d hd => putT_look fun he => h1 d he hd
    rw [op1_congr hl1] at h
    cases e2 : op1 P E rec ops y.2 lim o t σ1 with
    | none => rw [e2] at h; cases h
    | some r2 =>
      obtain ⟨u, σ2⟩ := r2
      rw [e2] at h
      have h : opsI P E rec ops lim l (putT (putT t p.dst v) o.dst u) σ2 = some R := h
      have hl2 : ∀ d ∈ p.looksAt ops, (putT t o.dst u)[d]? = t[d]? := fun d hd => putT_look fun he => h2 d he hd
      rw [opsI_cons, ho]
      dsimp only
      rw [e2]
      show opsI P E rec ops lim (x :: l) (putT t o.dst u) σ2 = some R
      rw [opsI_cons, hp]
      dsimp only
      rw [op1_congr hl2, hv x.2 lim σ2]
      show opsI P E rec ops lim l (putT (putT t o.dst u) p.dst v) σ2 = some R
      rw [← putT_comm h3]
      exact h

theorem opsI_swap' {x y : Nat × Bool} {p o : Oper} (hp : ops[x.1]? = some p) (ho : ops[y.1]? = some o) (hb : blindO o = true) (hap : p.apart ops o = true) {l : List (Nat × Bool)} {t : List Value} {σ : AS} {R : List Value × AS}
    (h : opsI P E rec ops lim (x :: y :: l) t σ = some R) : opsI P E rec ops lim (y :: x :: l) t σ = some R := by
  obtain ⟨h1, h3, h2⟩ := Oper.apart_spec hap
  rw [opsI_cons, hp] at h
  dsimp only at h
  cases e1 : op1 P E rec ops x.2 lim p t σ with
  | none => rw [e1] at h; cases h
  | some r =>
    obtain ⟨v, σ1⟩ := r
    rw [e1] at h
    have h : opsI P E rec ops lim (y :: l) (putT t p.dst v) σ1 = some R := h
    rw [opsI_cons, ho] at h
    dsimp only at h
    have hl1 : ∀ d ∈ o.looksAt ops, (putT t p.dst v)[d]? = t[d]? := fun d hd => putT_look fun he => h1 d he hd
    rw [op1_congr hl1] at h
    cases e2 : op1 P E rec ops y.2 lim o t σ1 with
    | none => rw [e2] at h; cases h
    | some r2 =>
      obtain ⟨u, σ2⟩ := r2
      obtain ⟨rfl, hv⟩ := blind_op1 hb e2
      rw [e2] at h
      have h : opsI P E rec ops lim l (putT (putT t p.dst v) o.dst u) σ2 = some R := h
      have hl2 : ∀ d ∈ p.looksAt ops, (putT t o.dst u)[d]? = t[d]? := fun d hd => putT_look fun he => h2 d he hd
      rw [opsI_cons, ho]
      dsimp only
      rw [hv y.2 lim σ]
      show opsI P E rec ops lim (x :: l) (putT t o.dst u) σ = some R
      rw [opsI_cons, hp]
      dsimp only
      rw [op1_congr hl2, e1]
      show opsI P E rec ops lim l (putT (putT t o.dst u) p.dst v) σ2 = some R
      rw [← putT_comm h3]
      exact h

def passB (ops : Array Oper) (i j : Nat) : Bool := match ops[i]?, ops[j]? with
  | some p, some o => (blindO p || blindO o) && p.apart ops o
  | _, _ => false

/-- The first runs k places later. -/
def sinkL (ops : Array Oper) (x : Nat × Bool) : Nat → List (Nat × Bool) → Option (List (Nat × Bool))
  | 0, l => some (x :: l)
  | k + 1, y :: l => bif passB ops x.1 y.1 then (sinkL ops x k l).map (y :: ·) else none
  | _ + 1, [] => none

def moveAt (ops : Array Oper) : List (Nat × Bool) → Nat → Nat → Option (List (Nat × Bool))
  | x :: l, 0, k => sinkL ops x k l
  | x :: l, i + 1, k => (moveAt ops l i k).map (x :: ·)
  | [], _, _ => none

def movesL (ops : Array Oper) : List (Nat × Nat) → List (Nat × Bool) → Option (List (Nat × Bool))
  | [], l => some l
  | m :: ms, l => (moveAt ops l m.1 m.2).bind (movesL ops ms)

theorem opsI_head {x : Nat × Bool} {l l' : List (Nat × Bool)} (h : ∀ t σ R, opsI P E rec ops lim l t σ = some R → opsI P E rec ops lim l' t σ = some R) : ∀ t σ R, opsI P E rec ops lim (x :: l) t σ = some R → opsI P E rec ops lim (x :: l') t σ = some R := by
  intro t σ R hr
  rw [opsI_cons] at hr ⊢
  cases ho : ops[x.1]? with
  | none => rw [ho] at hr; cases hr
  | some o =>
    rw [ho] at hr
    dsimp only at hr ⊢
    rcases e : op1 P E rec ops x.2 lim o t σ with _ | ⟨v, σ1⟩
    · rw [e] at hr; cases hr
    · rw [e] at hr
      exact h _ _ _ hr

theorem sinkL_run {x : Nat × Bool} : ∀ (k : Nat) (l l' : List (Nat × Bool)), sinkL ops x k l = some l' → ∀ t σ R, opsI P E rec ops lim (x :: l) t σ = some R → opsI P E rec ops lim l' t σ = some R
  | 0, l, l', h => by simp only [sinkL, Option.some.injEq] at h; subst h; exact fun _ _ _ h => h
  | k + 1, [], l', h => by simp only [sinkL] at h; cases h
  | k + 1, y :: l, l', h => by
    simp only [sinkL] at h
    cases hp : passB ops x.1 y.1 with
    | false => rw [hp] at h; cases h
    | true =>
      rw [hp, cond_true] at h
      cases hs : sinkL ops x k l with
      | none => rw [hs] at h; cases h
      | some m =>
        rw [hs] at h
        simp only [Option.map_some, Option.some.injEq] at h
        subst h
        intro t σ R hr
        have : opsI P E rec ops lim (y :: x :: l) t σ = some R := by
          unfold passB at hp
          split at hp
          · rename_i p o h1 h2
            simp only [Bool.and_eq_true, Bool.or_eq_true] at hp
            rcases hp.1 with hb | hb
            · exact opsI_swap h1 h2 hb hp.2 hr
            · exact opsI_swap' h1 h2 hb hp.2 hr
          · cases hp
        exact opsI_head (sinkL_run k l m hs) t σ R this

theorem moveAt_run : ∀ (l : List (Nat × Bool)) (i k : Nat) (l' : List (Nat × Bool)), moveAt ops l i k = some l' → ∀ t σ R, opsI P E rec ops lim l t σ = some R → opsI P E rec ops lim l' t σ = some R
  | [], _, _, _, h => by cases ‹Nat› <;> cases h
  | x :: l, 0, k, l', h => sinkL_run k l l' h
  | x :: l, i + 1, k, l', h => by
    simp only [moveAt] at h
    cases hm : moveAt ops l i k with
    | none => rw [hm] at h; cases h
    | some m =>
      rw [hm] at h
      simp only [Option.map_some, Option.some.injEq] at h
      subst h
      exact opsI_head (moveAt_run l i k m hm)

theorem movesL_run : ∀ (ms : List (Nat × Nat)) (l l' : List (Nat × Bool)), movesL ops ms l = some l' → ∀ t σ R, opsI P E rec ops lim l t σ = some R → opsI P E rec ops lim l' t σ = some R
  | [], l, l', h => by simp only [movesL, Option.some.injEq] at h; subst h; exact fun _ _ _ h => h
  | m :: ms, l, l', h => by
    simp only [movesL] at h
    cases hm : moveAt ops l m.1 m.2 with
    | none => rw [hm] at h; cases h
    | some l1 =>
      rw [hm] at h
      exact fun t σ R hr => movesL_run ms l1 l' h t σ R (moveAt_run l m.1 m.2 l1 hm t σ R hr)

/-- A region that draws: its plan. -/
def planAll (ops : Array Oper) (pl : Plan) : Bool := planB .any ops pl.l pl.gs

end Go.Va
