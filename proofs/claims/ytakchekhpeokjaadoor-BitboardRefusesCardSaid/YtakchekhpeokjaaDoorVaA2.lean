/-
  THE ABSTRACT HEAP: what a look-up finds behind a store; what a run of it may touch.
-/
import Derived.Test.YtakchekhpeokjaaDoorVaA1
namespace Go.Va

theorem Tr.get_leaf {α : Type} (k : Nat) : (Tr.leaf : Tr α).get k = none := rfl

theorem Tr.get_setF {α : Type} : ∀ (f : Nat) (t : Tr α) (k j : Nat) (x : Option α), k < f → (t.setF f k x).get j = if j = k then x else t.get j := by
  intro f
  induction f with
  | zero => intro t k j x h; omega
  | succ f ih =>
    intro t k j x h
    cases t with
    | leaf =>
      simp only [Tr.setF]
      cases hk : Nat.beq k 0 with
      | true =>
        have hk0 : k = 0 := Nat.eq_of_beq_eq_true hk
        subst hk0
        simp only [cond_true, Tr.get]
        by_cases hj : j = 0
        · subst hj; simp
        · have : Nat.beq j 0 = false := by cases j with | zero => exact absurd rfl hj | succ n => rfl
          simp [this, hj]
      | false =>
        have hk0 : k ≠ 0 := by rintro rfl; simp at hk
        simp only [cond_false]
        cases hp : Nat.beq (k % 2) 1 with
        | true =>
          have hp1 : k % 2 = 1 := Nat.eq_of_beq_eq_true hp
          simp only [cond_true, Tr.get]
          by_cases hj : j = 0
          · subst hj; rw [if_neg (by omega)]; simp
          · have e1 : Nat.beq j 0 = false := by cases j with | zero => exact absurd rfl hj | succ n => rfl
            simp only [e1, cond_false]
            cases hq : Nat.beq (j % 2) 1 with
            | true =>
              have hq1 : j % 2 = 1 := Nat.eq_of_beq_eq_true hq
              simp only [cond_true]
              rw [ih _ _ _ _ (by omega)]
              by_cases e : j = k
              · subst e; simp
              · rw [if_neg (by omega), if_neg e]
                rfl
            | false =>
              have hq1 : j % 2 ≠ 1 := by intro e; rw [e] at hq; simp at hq
              simp only [cond_false]
              rw [if_neg (by omega)]
        | false =>
          have hp1 : k % 2 ≠ 1 := by intro e; rw [e] at hp; simp at hp
          simp only [cond_false, Tr.get]
          by_cases hj : j = 0
          · subst hj; rw [if_neg (by omega)]; simp
          · have e1 : Nat.beq j 0 = false := by cases j with | zero => exact absurd rfl hj | succ n => rfl
            simp only [e1, cond_false]
            cases hq : Nat.beq (j % 2) 1 with
            | true =>
              have hq1 : j % 2 = 1 := Nat.eq_of_beq_eq_true hq
              simp only [cond_true]
              rw [if_neg (by omega)]
            | false =>
              have hq1 : j % 2 ≠ 1 := by intro e; rw [e] at hq; simp at hq
              simp only [cond_false]
              rw [ih _ _ _ _ (by omega)]
              by_cases e : j = k
              · subst e; simp
              · rw [if_neg (by omega), if_neg e]
                rfl
    | node v l r =>
      simp only [Tr.setF]
      cases hk : Nat.beq k 0 with
      | true =>
        have hk0 : k = 0 := Nat.eq_of_beq_eq_true hk
        subst hk0
        simp only [cond_true, Tr.get]
        by_cases hj : j = 0
        · subst hj; simp
        · have : Nat.beq j 0 = false := by cases j with | zero => exact absurd rfl hj | succ n => rfl
          simp [this, hj]
      | false =>
        have hk0 : k ≠ 0 := by rintro rfl; simp at hk
        simp only [cond_false]
        cases hp : Nat.beq (k % 2) 1 with
        | true =>
          have hp1 : k % 2 = 1 := Nat.eq_of_beq_eq_true hp
          simp only [cond_true, Tr.get]
          by_cases hj : j = 0
          · subst hj; rw [if_neg (by omega)]; simp
          · have e1 : Nat.beq j 0 = false := by cases j with | zero => exact absurd rfl hj | succ n => rfl
            simp only [e1, cond_false]
            cases hq : Nat.beq (j % 2) 1 with
            | true =>
              have hq1 : j % 2 = 1 := Nat.eq_of_beq_eq_true hq
              simp only [cond_true]
              rw [ih _ _ _ _ (by omega)]
              by_cases e : j = k
              · subst e; simp
              · rw [if_neg (by omega), if_neg e]
            | false =>
              have hq1 : j % 2 ≠ 1 := by intro e; rw [e] at hq; simp at hq
              simp only [cond_false]
              rw [if_neg (by omega)]
        | false =>
          have hp1 : k % 2 ≠ 1 := by intro e; rw [e] at hp; simp at hp
          simp only [cond_false, Tr.get]
          by_cases hj : j = 0
          · subst hj; rw [if_neg (by omega)]; simp
          · have e1 : Nat.beq j 0 = false := by cases j with | zero => exact absurd rfl hj | succ n => rfl
            simp only [e1, cond_false]
            cases hq : Nat.beq (j % 2) 1 with
            | true =>
              have hq1 : j % 2 = 1 := Nat.eq_of_beq_eq_true hq
              simp only [cond_true]
              rw [if_neg (by omega)]
            | false =>
              have hq1 : j % 2 ≠ 1 := by intro e; rw [e] at hq; simp at hq
              simp only [cond_false]
              rw [ih _ _ _ _ (by omega)]
              by_cases e : j = k
              · subst e; simp
              · rw [if_neg (by omega), if_neg e]

theorem Tr.get_set {α : Type} (t : Tr α) (k j : Nat) (x : Option α) : (t.set k x).get j = if j = k then x else t.get j :=
  Tr.get_setF _ _ _ _ _ (Nat.lt_succ_self _)

theorem AS.get_put (σ : AS) (k j : Nat) (x : Option AObj) : (σ.put k x).get j = if j = k then x else σ.get j := Tr.get_set _ _ _ _
theorem AS.get_push (σ : AS) (x : AObj) (j : Nat) : (σ.push x).get j = if j = σ.next then some x else σ.get j := Tr.get_set _ _ _ _
@[simp] theorem AS.next_put (σ : AS) (k : Nat) (x : Option AObj) : (σ.put k x).next = σ.next := rfl
@[simp] theorem AS.next_push (σ : AS) (x : AObj) : (σ.push x).next = σ.next + 1 := rfl

theorem blt_iff {a b : Nat} : Nat.blt a b = true ↔ a < b := by
  unfold Nat.blt; rw [Nat.ble_eq]; omega

/-- What 'kill' does. -/
theorem AS.kill_get {σ σ' : AS} {lim : Nat} {pv : Option Nat} (h : σ.kill lim pv = some σ') :
    σ'.next = σ.next ∧ (∀ j, σ'.get j = if pv = some j then none else σ.get j) ∧ (∀ q, pv = some q → lim ≤ q) := by
  cases pv with
  | none => simp only [AS.kill, Option.some.injEq] at h; subst h; exact ⟨rfl, fun j => by simp, fun q h => by cases h⟩
  | some q =>
    simp only [AS.kill] at h
    cases hb : Nat.ble lim q with
    | false => simp [hb] at h
    | true =>
      simp only [hb, cond_true, Option.some.injEq] at h
      subst h
      refine ⟨rfl, fun j => ?_, fun q' h => by cases h; exact Nat.ble_eq ▸ hb⟩
      rw [AS.get_put]
      by_cases e : j = q
      · subst e; simp
      · rw [if_neg e, if_neg (by intro h; cases h; exact e rfl)]

/-- What a store into a row does. -/
theorem AS.setCell_spec {σ σ' : AS} {lim : Nat} {a : Addr} {v : Value} (h : σ.setCell lim a v = some σ') :
    a.spot = none ∧ ∃ c lo pv, σ.get a.block = some (.cells c true lo pv) ∧ lim ≤ a.block ∧ a.off < c.length ∧ σ'.next = σ.next ∧ (∀ q, pv = some q → lim ≤ q) ∧
      (∀ j, σ'.get j = if j = a.block then some (.cells (c.set a.off v) true lo none) else if pv = some j then none else σ.get j) := by
  unfold AS.setCell at h
  split at h
  · rename_i c lo pv hs hg
    cases hb : (Nat.ble lim a.block && Nat.blt a.off c.length) with
    | false => simp [hb] at h
    | true =>
      simp only [hb, cond_true] at h
      simp only [Bool.and_eq_true] at hb
      split at h
      · rename_i σ1 hk
        simp only [Option.some.injEq] at h
        subst h
        obtain ⟨h1, h2, h3⟩ := AS.kill_get hk
        refine ⟨hs, c, lo, pv, hg, Nat.ble_eq ▸ hb.1, blt_iff.1 hb.2, h1, h3, fun j => ?_⟩
        rw [AS.get_put]
        split
        · rfl
        · exact h2 j
      · cases h
  · cases h

def prevOf : AObj → Option Nat
  | .cells _ _ _ pv => pv
  | .obj _ => none

/-- Nothing lies beyond the next number, and no row names a place beyond it. -/
structure AS.Wf (σ : AS) : Prop where
  beyond : ∀ id, σ.next ≤ id → σ.get id = none
  prev : ∀ id x q, σ.get id = some x → prevOf x = some q → q < σ.next

/-- How two heaps go together: equal below 'next'. -/
def AS.Like (σ τ : AS) : Prop := τ.next = σ.next ∧ ∀ id, id < σ.next → τ.get id = σ.get id

/-- Behind a run: equal below the new 'next'; the other one unchanged beyond it. -/
structure AS.Led (σ' τ τ' : AS) : Prop where
  next : τ'.next = σ'.next
  below : ∀ id, id < σ'.next → τ'.get id = σ'.get id
  above : ∀ id, σ'.next ≤ id → τ'.get id = τ.get id

/-- What a run leaves: the number grows; it stays well formed; below 'lim' nothing has turned. -/
structure Kept (lim : Nat) (σ σ' : AS) : Prop where
  next : σ.next ≤ σ'.next
  wf : σ.Wf → σ'.Wf
  old : ∀ id, id < lim → id < σ.next → σ'.get id = σ.get id

theorem Kept.refl (lim : Nat) (σ : AS) : Kept lim σ σ := ⟨Nat.le_refl _, id, fun _ _ _ => rfl⟩
theorem Kept.trans {lim : Nat} {a b c : AS} (h : Kept lim a b) (k : Kept lim b c) : Kept lim a c :=
  ⟨Nat.le_trans h.next k.next, fun w => k.wf (h.wf w), fun i hi hn => (k.old i hi (Nat.lt_of_lt_of_le hn h.next)).trans (h.old i hi hn)⟩
theorem Kept.mono {lim lim' : Nat} {a b : AS} (h : Kept lim a b) (hl : lim' ≤ lim) : Kept lim' a b :=
  ⟨h.next, h.wf, fun i hi hn => h.old i (Nat.lt_of_lt_of_le hi hl) hn⟩

theorem kept_push (lim : Nat) (σ : AS) (x : AObj) (hx : ∀ q, prevOf x = some q → q < σ.next) : Kept lim σ (σ.push x) := by
  refine ⟨by simp, fun w => ⟨fun id h => ?_, fun id y q hy hq => ?_⟩, fun id _ hn => by rw [AS.get_push, if_neg (by omega)]⟩
  · rw [AS.get_push]; simp at h; rw [if_neg (by omega)]; exact w.beyond id (by omega)
  · rw [AS.get_push] at hy
    simp only [AS.next_push]
    split at hy
    · simp only [Option.some.injEq] at hy; subst hy; have := hx q hq; omega
    · have := w.prev id y q hy hq; omega

theorem kept_put {lim : Nat} {σ : AS} {r : Nat} {x : Option AObj} (h : lim ≤ r) (hr : r < σ.next) (hx : σ.Wf → ∀ y q, x = some y → prevOf y = some q → q < σ.next) : Kept lim σ (σ.put r x) := by
  refine ⟨Nat.le_refl _, fun w => ⟨fun id h' => ?_, fun id y q hy hq => ?_⟩, fun id hl _ => by rw [AS.get_put, if_neg (by omega)]⟩
  · simp only [AS.next_put] at h'
    rw [AS.get_put, if_neg (by omega)]; exact w.beyond id h'
  · rw [AS.get_put] at hy
    simp only [AS.next_put]
    split at hy
    · exact hx w y q hy hq
    · exact w.prev id y q hy hq

theorem kept_kill {lim : Nat} {σ σ' : AS} {pv : Option Nat} (h : σ.kill lim pv = some σ') : Kept lim σ σ' := by
  obtain ⟨h1, h2, h3⟩ := AS.kill_get h
  refine ⟨by omega, fun w => ⟨fun id hi => ?_, fun id y q hy hq => ?_⟩, fun id hl _ => ?_⟩
  · rw [h2]; split
    · rfl
    · exact w.beyond id (by omega)
  · rw [h2] at hy
    split at hy
    · cases hy
    · rw [h1]; exact w.prev id y q hy hq
  · rw [h2, if_neg]
    intro e; have := h3 id e; omega

theorem kept_setCell {lim : Nat} {σ σ' : AS} {a : Addr} {v : Value} (h : σ.setCell lim a v = some σ') : Kept lim σ σ' := by
  obtain ⟨_, c, lo, pv, hg, hl, ho, hn, hq, h2⟩ := AS.setCell_spec h
  refine ⟨by omega, fun w => ⟨fun id hi => ?_, fun id y q hy hq' => ?_⟩, fun id hid _ => ?_⟩
  · rw [h2]
    split
    · rename_i e; subst e; rw [w.beyond _ (by omega)] at hg; cases hg
    · split
      · rfl
      · exact w.beyond id (by omega)
  · rw [h2] at hy
    split at hy
    · simp only [Option.some.injEq] at hy; subst hy; cases hq'
    · split at hy
      · cases hy
      · rw [hn]; exact w.prev id y q hy hq'
  · rw [h2, if_neg (by omega), if_neg]
    intro e; have := hq id e; omega

theorem fresh_prev {o : Obj} {x : AObj} (h : fresh o = some x) : prevOf x = none := by
  cases o <;> simp only [fresh] at h
  case cells c e f =>
    obtain ⟨lo, hi⟩ := f
    cases hb : (Nat.beq lo 0 && Nat.beq hi 0) with
    | false => simp [hb] at h
    | true => simp only [hb, cond_true, Option.some.injEq] at h; subst h; rfl
  all_goals first | (simp only [Option.some.injEq] at h; subst h; rfl) | cases h

theorem lt_of_get {σ : AS} {r : Nat} {x : AObj} (hw : σ.Wf) (h : σ.get r = some x) : r < σ.next := by
  rcases Nat.lt_or_ge r σ.next with h' | h'
  · exact h'
  · rw [hw.beyond _ h'] at h; cases h

/-! ## A run looks at nothing beyond 'next' -/

theorem AS.Led.like {σ' τ τ' : AS} (h : σ'.Led τ τ') : σ'.Like τ' := ⟨h.next, h.below⟩
theorem AS.Led.refl {σ τ : AS} (h : σ.Like τ) : σ.Led τ τ := ⟨h.1, h.2, fun _ _ => rfl⟩
theorem AS.Led.trans {σ1 σ2 τ τ1 τ2 : AS} (h : σ1.Led τ τ1) (k : σ2.Led τ1 τ2) (hn : σ1.next ≤ σ2.next) : σ2.Led τ τ2 :=
  ⟨k.next, k.below, fun i hi => (k.above i hi).trans (h.above i (Nat.le_trans hn hi))⟩

theorem cell?_like {σ τ : AS} {a : Addr} {v : Value} (hw : σ.Wf) (hl : σ.Like τ) (h : σ.cell? a = some v) : τ.cell? a = some v := by
  unfold AS.cell? at *
  have hlt : a.block < σ.next := by
    rcases Nat.lt_or_ge a.block σ.next with h' | h'
    · exact h'
    · rw [hw.beyond _ h'] at h; split at h <;> simp_all
  rw [hl.2 _ hlt]; exact h

theorem led_push {σ τ : AS} (hl : σ.Like τ) (x : AObj) : (σ.push x).Led τ (τ.push x) := by
  obtain ⟨h1, h2⟩ := hl
  refine ⟨by simp [h1], fun id hi => ?_, fun id hi => ?_⟩
  · rw [AS.get_push, AS.get_push, h1]
    split
    · rfl
    · simp at hi; exact h2 id (by omega)
  · rw [AS.get_push, h1, if_neg]; simp at hi; omega

theorem led_put {σ τ : AS} (hl : σ.Like τ) {r : Nat} (hr : r < σ.next) (x : Option AObj) : (σ.put r x).Led τ (τ.put r x) := by
  obtain ⟨h1, h2⟩ := hl
  refine ⟨by simp [h1], fun id hi => ?_, fun id hi => ?_⟩
  · rw [AS.get_put, AS.get_put]
    split
    · rfl
    · exact h2 id hi
  · rw [AS.get_put, if_neg]; simp at hi; omega

theorem led_kill {σ σ' τ : AS} {lim : Nat} {pv : Option Nat} (hl : σ.Like τ) (hp : ∀ q, pv = some q → q < σ.next) (h : σ.kill lim pv = some σ') :
    ∃ τ', τ.kill lim pv = some τ' ∧ σ'.Led τ τ' := by
  cases pv with
  | none => simp only [AS.kill, Option.some.injEq] at h; subst h; exact ⟨τ, rfl, .refl hl⟩
  | some q =>
    simp only [AS.kill] at *
    cases hb : Nat.ble lim q with
    | false => simp [hb] at h
    | true =>
      simp only [hb, cond_true, Option.some.injEq] at *
      subst h
      exact ⟨_, rfl, led_put hl (hp q rfl) _⟩

theorem led_setCell {σ σ' τ : AS} {lim : Nat} {a : Addr} {v : Value} (hw : σ.Wf) (hl : σ.Like τ) (h : σ.setCell lim a v = some σ') :
    ∃ τ', τ.setCell lim a v = some τ' ∧ σ'.Led τ τ' := by
  have h0 := h
  unfold AS.setCell at h ⊢
  split at h
  · rename_i c lo pv hs hg
    have hlt := lt_of_get hw hg
    rw [hl.2 _ hlt, hg, hs]
    simp only []
    cases hb : (Nat.ble lim a.block && Nat.blt a.off c.length) with
    | false => simp [hb] at h
    | true =>
      simp only [hb, cond_true] at h ⊢
      split at h
      · rename_i σ1 hk
        simp only [Option.some.injEq] at h
        subst h
        obtain ⟨τ1, hk', hled⟩ := led_kill hl (fun q (hq : pv = some q) => hw.prev _ _ q hg hq) hk
        obtain ⟨h1, _, _⟩ := AS.kill_get hk
        rw [hk']
        exact ⟨_, rfl, hled.trans (led_put hled.like (by omega) _) (by simp)⟩
      · cases h
  · cases h

/-- A run looks at nothing beyond 'next'. -/
theorem blind_runA {α : Type} {P : Program} {lim : Nat} (s : Sem α) : ∀ {σ σ' : AS} {v : α}, runA P lim s σ = some (v, σ') → σ.Wf →
    Kept lim σ σ' ∧ ∀ τ, σ.Like τ → ∃ τ', runA P lim s τ = some (v, τ') ∧ σ'.Led τ τ' := by
  induction s with
  | pure a =>
    intro σ σ' v h hw
    simp only [runA, Option.some.injEq, Prod.mk.injEq] at h ⊢
    obtain ⟨rfl, rfl⟩ := h
    exact ⟨.refl _ _, fun τ hl => ⟨τ, ⟨rfl, rfl⟩, .refl hl⟩⟩
  | load m a k ih =>
    intro σ σ' v h hw
    simp only [runA] at h ⊢
    split at h
    · rename_i u hu
      obtain ⟨h1, h2⟩ := ih _ h hw
      exact ⟨h1, fun τ hl => by rw [cell?_like hw hl hu]; exact h2 τ hl⟩
    · cases h
  | store m a x k ih =>
    intro σ σ' v h hw
    simp only [runA] at h ⊢
    cases hb : oneCell x with
    | false => simp [hb] at h
    | true =>
      simp only [hb, cond_true] at h ⊢
      split at h
      · rename_i σ1 hs
        have hk := kept_setCell hs
        obtain ⟨h1, h2⟩ := ih h (hk.wf hw)
        refine ⟨hk.trans h1, fun τ hl => ?_⟩
        obtain ⟨τ1, hs', hled⟩ := led_setCell hw hl hs
        rw [hs']
        obtain ⟨τ2, hr, hled2⟩ := h2 τ1 hled.like
        exact ⟨τ2, hr, hled.trans hled2 h1.next⟩
      · cases h
  | new o k ih =>
    intro σ σ' v h hw
    simp only [runA] at h ⊢
    split at h
    · rename_i x hx
      have hk := kept_push lim σ x (fun q hq => by rw [fresh_prev hx] at hq; cases hq)
      obtain ⟨h1, h2⟩ := ih _ h (hk.wf hw)
      refine ⟨hk.trans h1, fun τ hl => ?_⟩
      have hled := led_push hl x
      obtain ⟨τ2, hr, hled2⟩ := h2 _ hled.like
      rw [hl.1]
      exact ⟨τ2, hr, hled.trans hled2 h1.next⟩
    · cases h
  | shape r k ih => intro σ σ' v h; simp [runA] at h
  | freeze a n k ih => intro σ σ' v h; simp [runA] at h
  | frozen a k ih => intro σ σ' v h; simp [runA] at h
  | getObj r k ih =>
    intro σ σ' v h hw
    simp only [runA] at h ⊢
    split at h
    · rename_i o hg
      obtain ⟨h1, h2⟩ := ih _ h hw
      exact ⟨h1, fun τ hl => by rw [hl.2 _ (lt_of_get hw hg), hg]; exact h2 τ hl⟩
    · cases h
  | setObj r o k ih =>
    intro σ σ' v h hw
    simp only [runA] at h ⊢
    split at h
    · rename_i o' hg
      cases hb : (Nat.ble lim r && plainObj o) with
      | false => simp [hb] at h
      | true =>
        simp only [hb, cond_true] at h
        have hb' := hb
        simp only [Bool.and_eq_true] at hb'
        have hlt := lt_of_get hw hg
        have hk := kept_put (lim := lim) (x := some (.obj o)) (Nat.ble_eq ▸ hb'.1) hlt (fun _ y q hy hq => by simp only [Option.some.injEq] at hy; subst hy; cases hq)
        obtain ⟨h1, h2⟩ := ih h (hk.wf hw)
        refine ⟨hk.trans h1, fun τ hl => ?_⟩
        rw [hl.2 _ hlt, hg]
        simp only [cond_true]
        have hled := led_put hl hlt (some (.obj o))
        obtain ⟨τ2, hr, hled2⟩ := h2 _ hled.like
        exact ⟨τ2, hr, hled.trans hled2 h1.next⟩
    · cases h
  | choose q k ih =>
    intro σ σ' v h hw
    simp only [runA] at h ⊢
    cases hb : q.forced with
    | false => simp [hb] at h
    | true => simp only [hb, cond_true] at h ⊢; exact ih _ h hw
  | sys c k ih => intro σ σ' v h; simp [runA] at h
  | program k ih => intro σ σ' v h hw; exact ih _ h hw
  | mark m k ih => intro σ σ' v h hw; exact ih h hw
  | halt x => intro σ σ' v h; simp [runA] at h

theorem kept_runA {α : Type} {P : Program} {lim : Nat} {s : Sem α} {σ σ' : AS} {v : α} (h : runA P lim s σ = some (v, σ')) (hw : σ.Wf) : Kept lim σ σ' := (blind_runA s h hw).1

end Go.Va
