/-
  THE INTERPRETER WITH HINTS: a run over values that are not all known; where a condition cannot be told, a hint says it, and it is noted as a premise. That a deeper run answers the same.
-/
import Derived.Test.YtakchekhpeokjaaDoorVaA25
namespace Go.Va

def Rec.le (r r' : Rec) : Prop := ∀ lim k σ x, r lim k σ = some x → r' lim k σ = some x
def rec0 : Rec := fun _ _ _ => none
theorem Rec.le0 (r : Rec) : rec0.le r := fun _ _ _ _ h => by cases h

section
variable {P : Program} {E : Env} {r r' : Rec}

theorem enterA_mono (h : r.le r') {lim : Nat} {f : FuncId} {args : List Value} {σ : AS} {x} (e : enterA P E r lim f args σ = some x) : enterA P E r' lim f args σ = some x := by
  unfold enterA at *
  cases hi : E.isOv f with
  | true => rw [hi] at e; exact e
  | false =>
    rw [hi, cond_false] at e
    rw [cond_false]
    split at e
    · rename_i v σ' hr; rw [h _ _ _ _ hr]; exact e
    · cases e

theorem applyA_mono (h : r.le r') {lim : Nat} {f : Value} {args : List Value} {σ : AS} {x} (e : applyA P E r lim f args σ = some x) : applyA P E r' lim f args σ = some x := by
  unfold applyA at *
  split at e
  · exact enterA_mono h e
  · split at e
    · split at e
      · rename_i hr; rw [h _ _ _ _ hr]; exact e
      · cases e
    · cases e
  · cases e

theorem operA_mono (h : r.le r') {lim : Nat} {o : Oper} {t : List Value} {σ : AS} {x} (e : operA P E r lim o t σ = some x) : operA P E r' lim o t σ = some x := by
  unfold operA at *
  split at e
  case h_7 c => 
    split at e
    case h_6 f => exact applyA_mono h e
    all_goals exact e
  all_goals exact e

theorem opsA_mono (h : r.le r') {ops : Array Oper} {q : Bool} {lim : Nat} : ∀ {l : List Oper} {t : List Value} {σ : AS} {x}, opsA P E r ops q lim l t σ = some x → opsA P E r' ops q lim l t σ = some x
  | [], t, σ, x, e => e
  | o :: l, t, σ, x, e => by
    unfold opsA at *
    cases hw : Region.wanted o (yieldedL ops t) with
    | true =>
      rw [hw, cond_true] at e
      rw [cond_true]
      split at e
      · rename_i v σ' ho; rw [operA_mono h ho]; exact opsA_mono h e
      · cases e
    | false => rw [hw, cond_false] at e; rw [cond_false]; exact opsA_mono h e

theorem op1_mono (h : r.le r') {ops : Array Oper} {q : Bool} {lim : Nat} {o : Oper} {t : List Value} {σ : AS} {x} (e : op1 P E r ops q lim o t σ = some x) : op1 P E r' ops q lim o t σ = some x := by
  unfold op1 at *
  cases hw : Region.wanted o (yieldedL ops t) with
  | true => rw [hw, cond_true] at e; rw [cond_true]; exact operA_mono h e
  | false => rw [hw, cond_false] at e; rw [cond_false]; exact e

theorem opsI_mono (h : r.le r') {ops : Array Oper} {lim : Nat} : ∀ {l : List (Nat × Bool)} {t : List Value} {σ : AS} {x}, opsI P E r ops lim l t σ = some x → opsI P E r' ops lim l t σ = some x
  | [], t, σ, x, e => e
  | y :: l, t, σ, x, e => by
    unfold opsI at *
    split at e
    · split at e
      · rename_i ho; rw [op1_mono h ho]; exact opsI_mono h e
      · cases e
    · cases e

theorem rangeA_mono (h : r.le r') {lim : Nat} {c : Ctx} {f : Operand} {params : Array Tmp} {assign body : Code} {t : List Value} {ds : List Nat} {σ : AS} {x} (e : rangeA P E r lim c f params assign body t ds σ = some x) : rangeA P E r' lim c f params assign body t ds σ = some x := by
  unfold rangeA at *
  split at e
  · split at e
    · split at e
      · rename_i ha; rw [applyA_mono h ha]; exact e
      · cases e
    · cases e
  · cases e

theorem stepA_mono (h : r.le r') {lim : Nat} {k : Task} {σ : AS} {x} (e : stepA P E r lim k σ = some x) : stepA P E r' lim k σ = some x := by
  cases k with
  | code c cd t ds =>
    unfold stepA at *
    cases cd with
    | skip => exact e
    | label => exact e
    | region id ops draw =>
      dsimp only at *
      cases draw with
      | true =>
        simp only [cond_true] at *
        split at e
        · split at e
          · rename_i ho; rw [opsI_mono h ho]; exact e
          · cases e
        · cases e
      | false =>
        simp only [cond_false] at *
        split at e
        · rename_i ho; rw [opsA_mono h ho]; exact e
        · cases e
    | seq a b =>
      dsimp only at *
      split at e
      · rename_i ho; rw [h _ _ _ _ ho]; exact h _ _ _ _ e
      · rename_i hn
        rw [h _ _ _ _ e]
        split
        · rename_i he; exact absurd (e.trans he) (hn _ _ _)
        · rfl
    | cond c a b =>
      dsimp only at *
      split at e
      · exact h _ _ _ _ e
      · cases e
    | block id body =>
      dsimp only at *
      split at e
      · rename_i ho; rw [h _ _ _ _ ho]; exact e
      · rename_i hn
        rw [h _ _ _ _ e]
        split
        · rename_i he; exact absurd (e.trans he) (hn _ _ _ _)
        · rfl
    | loop body =>
      dsimp only at *
      split at e
      · rename_i ho; rw [h _ _ _ _ ho]; exact h _ _ _ _ e
      · rename_i hn
        rw [h _ _ _ _ e]
        split
        · rename_i he; exact absurd (e.trans he) (hn _ _ _)
        · rfl
    | rangeFunc f params assign body => exact rangeA_mono h e
    | exit id => exact e
    | scope body => exact h _ _ _ _ e
    | goto l => exact e
    | ret => exact e
    | refuse => exact e
  | scope c body cur t ds =>
    unfold stepA at *
    dsimp only at *
    split at e
    · rename_i ho; rw [h _ _ _ _ ho]
      dsimp only
      split at e
      · exact h _ _ _ _ e
      · exact e
    · rename_i hn
      rw [h _ _ _ _ e]
      split
      · rename_i he; exact absurd (e.trans he) (hn _ _ _ _)
      · rfl
  | call f args =>
    unfold stepA at *
    dsimp only at *
    cases hok : E.ok f with
    | false => rw [hok] at e; cases e
    | true =>
      rw [hok, cond_true] at e
      rw [cond_true]
      split at e
      · split at e
        · split at e
          · rename_i ho; rw [h _ _ _ _ ho]; exact e
          · cases e
        · cases e
      · cases e
  | round l f t assign body =>
    unfold stepA at *
    dsimp only at *
    split at e
    · rename_i ho; rw [h _ _ _ _ ho]
      dsimp only
      split at e
      · rename_i hb
        split at e
        · rename_i h3; rw [h _ _ _ _ h3]; exact e
        · cases e
      · cases e
    · cases e

theorem run_succ : ∀ n, (run P E n).le (run P E (n + 1))
  | 0 => fun _ _ _ _ h => by cases h
  | n + 1 => fun _ _ _ _ h => stepA_mono (run_succ n) h
theorem run_mono {n m : Nat} (h : n ≤ m) : (run P E n).le (run P E m) := by
  induction h with
  | refl => exact fun _ _ _ _ h => h
  | step _ ih => exact fun _ _ _ _ h => run_succ _ _ _ _ _ (ih _ _ _ _ h)

/-! ## The limit -/

/-- What the interpreter answers at some depth. -/
noncomputable def runW (P : Program) (E : Env) : Rec := fun lim k σ =>
  open Classical in if h : ∃ x, ∃ n, run P E n lim k σ = some x then some h.choose else none

theorem runW_of {n : Nat} {lim : Nat} {k : Task} {σ : AS} {x : Out × AS} (h : run P E n lim k σ = some x) : runW P E lim k σ = some x := by
  unfold runW
  have hx : ∃ x, ∃ n, run P E n lim k σ = some x := ⟨x, n, h⟩
  rw [dif_pos hx]
  obtain ⟨m, hm⟩ := hx.choose_spec
  have h1 := run_mono (Nat.le_max_left n m) _ _ _ _ h
  have h2 := run_mono (Nat.le_max_right n m) _ _ _ _ hm
  rw [h1] at h2
  exact congrArg some (Option.some.inj h2).symm
theorem runW_some {lim : Nat} {k : Task} {σ : AS} {x : Out × AS} (h : runW P E lim k σ = some x) : ∃ n, run P E n lim k σ = some x := by
  unfold runW at h
  split at h
  · rename_i hx
    obtain ⟨n, hn⟩ := hx.choose_spec
    cases h
    exact ⟨n, hn⟩
  · cases h
theorem run_le_runW (n : Nat) : (run P E n).le (runW P E) := fun _ _ _ _ h => runW_of h

theorem enterA_cont {lim : Nat} {f : FuncId} {args : List Value} {σ : AS} {x} (e : enterA P E (runW P E) lim f args σ = some x) : ∃ n, enterA P E (run P E n) lim f args σ = some x := by
  unfold enterA at *
  cases hi : E.isOv f with
  | true => rw [hi] at e; exact ⟨0, e⟩
  | false =>
    rw [hi, cond_false] at e
    split at e
    · rename_i v σ' hr
      obtain ⟨n, hn⟩ := runW_some hr
      exact ⟨n, by rw [cond_false, hn]; exact e⟩
    · cases e

theorem applyA_cont {lim : Nat} {f : Value} {args : List Value} {σ : AS} {x} (e : applyA P E (runW P E) lim f args σ = some x) : ∃ n, applyA P E (run P E n) lim f args σ = some x := by
  unfold applyA at *
  split at e
  · exact enterA_cont e
  · split at e
    · split at e
      · rename_i hr
        obtain ⟨n, hn⟩ := runW_some hr
        exact ⟨n, by rw [hn]; exact e⟩
      · cases e
    · cases e
  · cases e

theorem operA_cont {lim : Nat} {o : Oper} {t : List Value} {σ : AS} {x} (e : operA P E (runW P E) lim o t σ = some x) : ∃ n, operA P E (run P E n) lim o t σ = some x := by
  unfold operA at *
  split at e
  case h_7 c =>
    split at e
    case h_6 f => exact applyA_cont e
    all_goals exact ⟨0, e⟩
  all_goals exact ⟨0, e⟩

theorem opsA_cont {ops : Array Oper} {q : Bool} {lim : Nat} : ∀ {l : List Oper} {t : List Value} {σ : AS} {x}, opsA P E (runW P E) ops q lim l t σ = some x → ∃ n, opsA P E (run P E n) ops q lim l t σ = some x
  | [], t, σ, x, e => ⟨0, e⟩
  | o :: l, t, σ, x, e => by
    unfold opsA at *
    cases hw : Region.wanted o (yieldedL ops t) with
    | true =>
      rw [hw, cond_true] at e
      split at e
      · rename_i v σ' ho
        obtain ⟨n, hn⟩ := operA_cont ho
        obtain ⟨m, hm⟩ := opsA_cont e
        exact ⟨max n m, by rw [cond_true, operA_mono (run_mono (Nat.le_max_left n m)) hn]; exact opsA_mono (run_mono (Nat.le_max_right n m)) hm⟩
      · cases e
    | false =>
      rw [hw, cond_false] at e
      obtain ⟨m, hm⟩ := opsA_cont e
      exact ⟨m, by rw [cond_false]; exact hm⟩

theorem op1_cont {ops : Array Oper} {q : Bool} {lim : Nat} {o : Oper} {t : List Value} {σ : AS} {x} (e : op1 P E (runW P E) ops q lim o t σ = some x) : ∃ n, op1 P E (run P E n) ops q lim o t σ = some x := by
  unfold op1 at *
  cases hw : Region.wanted o (yieldedL ops t) with
  | true =>
    rw [hw, cond_true] at e
    obtain ⟨n, hn⟩ := operA_cont e
    exact ⟨n, by rw [cond_true]; exact hn⟩
  | false => rw [hw, cond_false] at e; exact ⟨0, by rw [cond_false]; exact e⟩

theorem opsI_cont {ops : Array Oper} {lim : Nat} : ∀ {l : List (Nat × Bool)} {t : List Value} {σ : AS} {x}, opsI P E (runW P E) ops lim l t σ = some x → ∃ n, opsI P E (run P E n) ops lim l t σ = some x
  | [], t, σ, x, e => ⟨0, e⟩
  | y :: l, t, σ, x, e => by
    unfold opsI at *
    split at e
    · rename_i o hy
      split at e
      · rename_i ho
        obtain ⟨n, hn⟩ := op1_cont ho
        obtain ⟨m, hm⟩ := opsI_cont e
        exact ⟨max n m, by rw [op1_mono (run_mono (Nat.le_max_left n m)) hn]; exact opsI_mono (run_mono (Nat.le_max_right n m)) hm⟩
      · cases e
    · cases e

theorem rangeA_cont {lim : Nat} {c : Ctx} {f : Operand} {params : Array Tmp} {assign body : Code} {t : List Value} {ds : List Nat} {σ : AS} {x} (e : rangeA P E (runW P E) lim c f params assign body t ds σ = some x) :
    ∃ n, rangeA P E (run P E n) lim c f params assign body t ds σ = some x := by
  unfold rangeA at *
  split at e
  · rename_i h1
    split at e
    · rename_i m hm
      split at e
      · rename_i ha
        obtain ⟨n, hn⟩ := applyA_cont ha
        exact ⟨n, by rw [hn]; exact e⟩
      · cases e
    · cases e
  · cases e

theorem stepA_cont {lim : Nat} {k : Task} {σ : AS} {x} (e : stepA P E (runW P E) lim k σ = some x) : ∃ n, stepA P E (run P E n) lim k σ = some x := by
  cases k with
  | code c cd t ds =>
    unfold stepA at *
    cases cd with
    | skip => exact ⟨0, e⟩
    | label => exact ⟨0, e⟩
    | region id ops draw =>
      dsimp only at *
      cases draw with
      | true =>
        simp only [cond_true] at *
        split at e
        · rename_i hd
          split at e
          · rename_i ho
            obtain ⟨n, hn⟩ := opsI_cont ho
            exact ⟨n, by rw [hn]; exact e⟩
          · cases e
        · cases e
      | false =>
        simp only [cond_false] at *
        split at e
        · rename_i ho
          obtain ⟨n, hn⟩ := opsA_cont ho
          exact ⟨n, by rw [hn]; exact e⟩
        · cases e
    | seq a b =>
      dsimp only at *
      split at e
      · rename_i ho
        obtain ⟨n, hn⟩ := runW_some ho
        obtain ⟨m, hm⟩ := runW_some e
        exact ⟨max n m, by rw [run_mono (Nat.le_max_left n m) _ _ _ _ hn]; exact run_mono (Nat.le_max_right n m) _ _ _ _ hm⟩
      · rename_i hn
        obtain ⟨n, h1⟩ := runW_some e
        refine ⟨n, ?_⟩
        rw [h1]
        split
        · rename_i he; cases he; exact absurd e (hn _ _ _)
        · rfl
    | cond c a b =>
      dsimp only at *
      split at e
      · obtain ⟨n, hn⟩ := runW_some e
        exact ⟨n, hn⟩
      · cases e
    | block id body =>
      dsimp only at *
      split at e
      · rename_i ho
        obtain ⟨n, hn⟩ := runW_some ho
        exact ⟨n, by rw [hn]; exact e⟩
      · rename_i hn
        obtain ⟨n, h1⟩ := runW_some e
        refine ⟨n, ?_⟩
        rw [h1]
        split
        · rename_i he; cases he; exact absurd e (hn _ _ _ _)
        · rfl
    | loop body =>
      dsimp only at *
      split at e
      · rename_i ho
        obtain ⟨n, hn⟩ := runW_some ho
        obtain ⟨m, hm⟩ := runW_some e
        exact ⟨max n m, by rw [run_mono (Nat.le_max_left n m) _ _ _ _ hn]; exact run_mono (Nat.le_max_right n m) _ _ _ _ hm⟩
      · rename_i hn
        obtain ⟨n, h1⟩ := runW_some e
        refine ⟨n, ?_⟩
        rw [h1]
        split
        · rename_i he; cases he; exact absurd e (hn _ _ _)
        · rfl
    | rangeFunc f params assign body => exact rangeA_cont e
    | exit id => exact ⟨0, e⟩
    | scope body => exact runW_some e
    | goto l => exact ⟨0, e⟩
    | ret => exact ⟨0, e⟩
    | refuse => exact ⟨0, e⟩
  | scope c body cur t ds =>
    unfold stepA at *
    dsimp only at *
    split at e
    · rename_i ho
      obtain ⟨n, hn⟩ := runW_some ho
      split at e
      · rename_i hl
        obtain ⟨m, hm⟩ := runW_some e
        refine ⟨max n m, ?_⟩
        rw [run_mono (Nat.le_max_left n m) _ _ _ _ hn]
        dsimp only
        rw [hl]
        exact run_mono (Nat.le_max_right n m) _ _ _ _ hm
      · rename_i hl
        refine ⟨n, ?_⟩
        rw [hn]
        dsimp only
        rw [hl]
        exact e
    · rename_i hn
      obtain ⟨n, h1⟩ := runW_some e
      refine ⟨n, ?_⟩
      rw [h1]
      split
      · rename_i he; cases he; exact absurd e (hn _ _ _ _)
      · rfl
  | call f args =>
    unfold stepA at *
    dsimp only at *
    cases hok : E.ok f with
    | false => rw [hok] at e; cases e
    | true =>
      rw [hok, cond_true] at e
      simp only [cond_true]
      split at e
      · rename_i fn hf
        split at e
        · rename_i c hc
          split at e
          · rename_i ho
            obtain ⟨n, hn⟩ := runW_some ho
            refine ⟨n, ?_⟩
            rw [hn]
            exact e
          · cases e
        · cases e
      · cases e
  | round l f t assign body =>
    unfold stepA at *
    dsimp only at *
    split at e
    · rename_i ho
      obtain ⟨n, hn⟩ := runW_some ho
      split at e
      · rename_i hb
        split at e
        · rename_i h3
          obtain ⟨m, hm⟩ := runW_some h3
          refine ⟨max n m, ?_⟩
          rw [run_mono (Nat.le_max_left n m) _ _ _ _ hn]
          dsimp only
          rw [hb]
          dsimp only
          rw [run_mono (Nat.le_max_right n m) _ _ _ _ hm]
          exact e
        · cases e
      · cases e
    · cases e

/-- One step more of the limit is the limit. -/
theorem runW_step {lim : Nat} {k : Task} {σ : AS} {x : Out × AS} (e : stepA P E (runW P E) lim k σ = some x) : runW P E lim k σ = some x := by
  obtain ⟨n, hn⟩ := stepA_cont e
  exact runW_of (n := n + 1) hn
end
end Go.Va
