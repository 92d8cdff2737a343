/-
  ZERO VALUES: those of the types of the table are looked through by the kernel; those of made types are in order if those are.
-/
import Derived.Test.YtakchekhpeokjaaDoorVaA25
namespace Go.Va
open Go.RowKit

def selfRel (xs : Array Value) : Prop := ∀ β x, x ∈ xs → vRel β x x
def zGood (i : TypeInfo) : Prop := ∀ z, i.zero = some z → z.cells.size = i.size ∧ selfRel z.cells ∧ ∀ β, vRel β z z

theorem selfRel_cells {z : Value} (h : ∀ β, vRel β z z) : selfRel z.cells := by
  intro β x hx
  have := cells_rel (h β)
  obtain ⟨i, hi, rfl⟩ := Array.mem_iff_getElem.1 hx
  exact this.2 i hi hi
theorem vRel_agg {xs : Array Value} (h : selfRel xs) (β : Inj) : vRel β (.agg xs) (.agg xs) := .agg rfl fun i hi _ => h β _ (by simp)

theorem zGood_of {i : TypeInfo} (h : ∀ z, i.zero = some z → z.cells.size = i.size ∧ ∀ β, vRel β z z) : zGood i := fun z hz => ⟨(h z hz).1, selfRel_cells (h z hz).2, (h z hz).2⟩

/-- What holds at the beginning of a loop, and is kept by each round, holds at its end. -/
theorem opt_forIn {α σ : Type} {Inv : σ → Prop} {f : α → σ → Option (ForInStep σ)} : ∀ (l : List α), (∀ x ∈ l, ∀ s s', Inv s → f x s = some (.yield s') → Inv s') → (∀ x ∈ l, ∀ s s', Inv s → f x s = some (.done s') → Inv s') → ∀ (s r : σ), Inv s → forIn l s f = some r → Inv r
  | [], _, _, s, r, hs, h => by
    simp only [List.forIn_nil, pure, Option.some.injEq] at h
    subst h; exact hs
  | x :: l, hy, hd, s, r, hs, h => by
    rw [List.forIn_cons] at h
    cases hf : f x s with
    | none => rw [hf] at h; cases h
    | some st =>
      rw [hf] at h
      cases st with
      | done s' =>
        simp only [bind, Option.bind, pure, Option.some.injEq] at h
        subst h
        exact hd x (by simp) s s' hs hf
      | yield s' =>
        exact opt_forIn l (fun y hy' => hy y (by simp [hy'])) (fun y hy' => hd y (by simp [hy'])) s' r (hy x (by simp) s s' hs hf) h

theorem self_append {a b : Array Value} (h : selfRel a) (k : selfRel b) : selfRel (a ++ b) := fun β x hx => by
  rcases Array.mem_append.1 hx with h1 | h1
  · exact h β x h1
  · exact k β x h1

/-- What the loop over the fields keeps. -/
def SInv (s : Array Field × Nat × Nat × Nat × Nat × Bool × Bool × Option (Array Value) × String) : Prop := ∀ a, s.2.2.2.2.2.2.2.1 = some a → a.size = s.2.1 ∧ selfRel a

theorem struct_good {info : TypeId → Option TypeInfo} (hi : ∀ t i, info t = some i → zGood i) {fs : Array Field} {r : TypeInfo} (h : Made.reckonStruct info fs = some r) : zGood r := by
  unfold Made.reckonStruct at h
  simp only [← Array.forIn_toList] at h
  simp only [bind, Option.bind_eq_some_iff] at h
  obtain ⟨s, hs, h⟩ := h
  have step : ∀ (s : Array Field × Nat × Nat × Nat × Nat × Bool × Bool × Option (Array Value) × String) (i : TypeInfo), SInv s → zGood i → ∀ (o : Array Field) (n1 n2 n3 : Nat) (b1 b2 : Bool) (str : String),
      SInv (o, s.2.1 + i.size, n1, n2, n3, b1, b2, (if s.2.1 + i.size > Made.mostCells then none else s.2.2.2.2.2.2.2.1.bind fun z => i.zero.bind fun z' => pure (z ++ z'.cells)), str) := by
    intro s i hs hz o n1 n2 n3 b1 b2 str a ha
    dsimp only at ha ⊢
    split at ha
    · cases ha
    · simp only [Option.bind_eq_some_iff] at ha
      obtain ⟨z, h1, z', h2, h3⟩ := ha
      have h3 : some (z ++ z'.cells) = some a := h3
      simp only [Option.some.injEq] at h3
      subst h3
      obtain ⟨k1, k2⟩ := hs z h1
      obtain ⟨k3, k4, _⟩ := hz z' h2
      exact ⟨by rw [Array.size_append, k1, k3], self_append k2 k4⟩
  have hI : SInv s := by
    refine opt_forIn (Inv := SInv) fs.toList ?_ ?_ _ s ?_ hs
    · intro x hx s s' hsI hf
      cases hinfo : info x.type with
      | none => rw [hinfo] at hf; cases hf
      | some i =>
        rw [hinfo] at hf
        have hz := hi _ _ hinfo
        simp only [Option.bind_some] at hf
        have step2 : ∀ (o : Array Field) (n1 n2 n3 : Nat) (b1 b2 : Bool) (str : String), SInv (o, s.2.1 + i.size, n1, n2, n3, b1, b2, s.2.2.2.2.2.2.2.1.bind fun z => i.zero.bind fun z' => pure (z ++ z'.cells), str) := by
          intro o n1 n2 n3 b1 b2 str a ha
          simp only [Option.bind_eq_some_iff] at ha
          obtain ⟨z, h1, z', h2, h3⟩ := ha
          have h3 : some (z ++ z'.cells) = some a := h3
          simp only [Option.some.injEq] at h3
          subst h3
          obtain ⟨k1, k2⟩ := hsI z h1
          obtain ⟨k3, k4, _⟩ := hz z' h2
          exact ⟨by rw [Array.size_append, k1, k3], self_append k2 k4⟩
        have step0 : ∀ (o : Array Field) (n0 n1 n2 n3 : Nat) (b1 b2 : Bool) (str : String), SInv (o, n0, n1, n2, n3, b1, b2, none, str) := fun _ _ _ _ _ _ _ _ a ha => by cases ha
        repeat' split at hf
        all_goals first
          | (cases hf; done)
          | (simp only [Option.bind_eq_some_iff, pure, Option.some.injEq, ForInStep.yield.injEq] at hf
             obtain ⟨_, _, rfl⟩ := hf
             first | apply step2 | apply step0 | apply step s i hsI hz)
    · intro x hx s s' hsI hf
      exfalso
      cases hinfo : info x.type with
      | none => rw [hinfo] at hf; cases hf
      | some i =>
        rw [hinfo] at hf
        simp only [Option.bind_some] at hf
        repeat' split at hf
        all_goals first
          | (cases hf; done)
          | (simp only [Option.bind_eq_some_iff, pure, Option.some.injEq, reduceCtorEq, and_false, exists_false] at hf)
    · intro a ha
      simp only [Option.some.injEq] at ha
      subst ha
      exact ⟨rfl, fun β x hx => by simp at hx⟩
  intro z hz
  have fin : ∀ (r : TypeInfo), r.zero = s.2.2.2.2.2.2.2.1.map .agg → r.size = s.2.1 → r.zero = some z → z.cells.size = r.size ∧ selfRel z.cells ∧ ∀ β, vRel β z z := by
    intro r e1 e2 e3
    rw [e1] at e3
    simp only [Option.map_eq_some_iff] at e3
    obtain ⟨a, ha, rfl⟩ := e3
    obtain ⟨k1, k2⟩ := hI a ha
    exact ⟨by rw [e2]; exact k1, k2, vRel_agg k2⟩
  split at h
  all_goals (simp only [pure, Option.some.injEq] at h; subst h; exact fin _ rfl rfl hz)

theorem word_good (d : TypeDesc) (str : String) (z : Value) (c : Bool) (n : Nat) (h1 : z.cells.size = 1) (h2 : ∀ β, vRel β z z) : zGood (Made.word d str z c n) := by
  refine zGood_of fun z' hz => ?_
  simp only [Made.word, Option.some.injEq] at hz
  subst hz
  exact ⟨h1, h2⟩

theorem reckon_good {info : TypeId → Option TypeInfo} (hi : ∀ t i, info t = some i → zGood i) {d : TypeDesc} {r : TypeInfo} (h : Made.reckon info d = some r) : zGood r := by
  cases d <;> simp only [Made.reckon, bind, pure, Option.bind_eq_some_iff, Option.some.injEq, reduceCtorEq] at h
  case struct fs => exact struct_good hi h
  case pointer e =>
    obtain ⟨i, h1, h⟩ := h
    split at h
    · cases h
    · split at h
      · cases h
      · simp only [Option.bind_eq_some_iff, Option.some.injEq] at h
        obtain ⟨_, _, rfl⟩ := h
        exact word_good _ _ _ _ _ rfl fun β => .ptrNone
    · simp only [Option.bind_eq_some_iff, Option.some.injEq] at h
      obtain ⟨_, _, rfl⟩ := h
      exact word_good _ _ _ _ _ rfl fun β => .ptrNone
  case slice e =>
    obtain ⟨_, _, _, _, rfl⟩ := h
    exact word_good _ _ _ _ _ rfl fun β => .sliceNone 0 0
  case map k e =>
    obtain ⟨_, _, _, _, _, _, _, _, rfl⟩ := h
    exact word_good _ _ _ _ _ rfl fun β => .mapNone
  case chan dir e =>
    obtain ⟨_, _, _, _, rfl⟩ := h
    exact word_good _ _ _ _ _ rfl fun β => .chanNone
  case func ps rs v =>
    obtain ⟨_, _, rfl⟩ := h
    exact word_good _ _ _ _ _ rfl fun β => .nilFunc
  case array n e =>
    obtain ⟨i, h1, _, _, rfl⟩ := h
    have hz := hi _ _ h1
    refine zGood_of fun z hz' => ?_
    dsimp only at hz' ⊢
    split at hz'
    · cases hz'
    · split at hz'
      · rename_i h0
        cases hz'
        exact ⟨h0.symm, fun β => vRel_agg (fun β x hx => by simp at hx) β⟩
      · simp only [Option.map_eq_some_iff] at hz'
        obtain ⟨u, hu, rfl⟩ := hz'
        obtain ⟨k1, k2, _⟩ := hz u hu
        refine ⟨?_, fun β => vRel_agg (fun β x hx => ?_) β⟩
        · show ((Array.replicate n u.cells).flatten).size = n * i.size
          rw [← k1]; simp [Array.size_flatten]
        · obtain ⟨ys, hys, hx⟩ := Array.mem_flatten.1 hx
          have := (Array.mem_replicate.1 hys).2
          subst this
          exact k2 β x hx

theorem infoAt_good {T : Tables} (h : ∀ i, i ∈ T.types → zGood i) : ∀ (f : Nat) (t : TypeId) (i : TypeInfo), Made.infoAt T f t = some i → zGood i
  | 0, t, i, hi => by cases hi
  | f + 1, t, i, hi => by
    simp only [Made.infoAt] at hi
    split at hi
    · exact h i (Array.mem_of_getElem? hi)
    · simp only [Option.bind_eq_some_iff] at hi
      obtain ⟨d, _, hd⟩ := hi
      exact reckon_good (infoAt_good h f) hd

def zerosB (P : Program) : Bool := P.types.toList.all fun i => match i.zero with
  | some z => Nat.beq z.cells.size i.size && plainB 100 z
  | none => true

theorem zeroOk_of {P : Program} (h : zerosB P = true) : ZeroOk P := by
  have hg : ∀ i, i ∈ P.types → zGood i := fun i hi => zGood_of fun z hz => by
    have h1 := List.all_eq_true.1 h i (by simpa using hi)
    rw [hz] at h1
    simp only [Bool.and_eq_true] at h1
    exact ⟨Nat.eq_of_beq_eq_true h1.1, fun β => plain_rel 100 z h1.2⟩
  intro t i z ht hz
  have : zGood i := by
    unfold Tables.info? at ht
    split at ht
    · exact hg i (Array.mem_of_getElem? ht)
    · exact infoAt_good hg _ _ _ ht
  exact ⟨(this z hz).1, (this z hz).2.2⟩

end Go.Va
