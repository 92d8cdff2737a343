/-
  SIMULATION: a region that draws the order of its operations: first those that write nothing of what was there, in any order that their edges leave; then a tail in the order of the text.
-/
import Derived.Test.YtakchekhpeokjaaDoorVaA21
import Derived.StillTail
namespace Go.Va
open Go.RowKit
variable {P : Program} {K : FuncId → Code → Prop} {W0 : World} {N0 G : Nat} {E : Env} {rec : Rec} {ops : Array Oper}

def dstOf (ops : Array Oper) (k : Nat) : Option Tmp := (ops[k]?).bind (·.dst)

/-- The operation at a place of an order. -/
def ix (os : List Nat) (p : Nat) : Nat := os.getD p 0

/-- An order of the operations: no operation waits for one behind it. -/
def ordB (md : Region.Mode) (ops : Array Oper) (os : List Nat) : Bool :=
  Nat.beq os.length ops.size && os.all (fun i => Nat.blt i ops.size) &&
  ((List.range ops.size).all fun i => os.contains i) &&
  ((List.range ops.size).all fun p => !(os.take p).contains (ix os p)) &&
  ((List.range ops.size).all fun p => match ops[ix os p]? with
    | some o => o.after.all fun e => !Region.binds md e || (os.take p).contains e.on
    | none => false)

/-- The places from a up to b are a group: apart from each other; whatever comes behind waits for them. -/
def groupB (md : Region.Mode) (ops : Array Oper) (os : List Nat) (a b : Nat) : Bool :=
  Nat.ble b ops.size &&
  ((List.range' a (b - a)).all fun k => match dstOf ops (ix os k) with
    | none => true
    | some d => (List.range' a (b - a)).all fun j => (Nat.beq j k || !(dstOf ops (ix os j) == some d)) && (match ops[ix os j]? with
      | some o => !((o.looksAt ops).contains d) || (Nat.blt k j && Region.waitsFor md ops (ix os j) (ix os k))
      | none => true)) &&
  (Nat.beq b ops.size || ((List.range' a (b - a)).all fun k => (List.range (b + 1)).any fun j => Nat.blt k j && Region.waitsFor md ops (ix os j) (ix os k))) &&
  ((List.range ops.size).all fun p => Nat.ble p b || ((List.range' b (p - b)).any fun s => Region.waitsFor md ops (ix os p) (ix os s)) || (Nat.beq b (a + 1) && Region.waitsFor md ops (ix os p) (ix os a)))

structure OrdOk (md : Region.Mode) (ops : Array Oper) (os : List Nat) : Prop where
  len : os.length = ops.size
  lt : ∀ p, p < ops.size → ix os p < ops.size
  surj : ∀ i, i < ops.size → ∃ p, p < ops.size ∧ i = ix os p
  inj : ∀ p q, p < ops.size → q < ops.size → ix os p = ix os q → p = q
  back : ∀ (p : Nat) (o : Oper), p < ops.size → ops[ix os p]? = some o → ∀ e ∈ o.after, Region.binds md e = true → ∃ q, q < p ∧ e.on = ix os q

structure GroupOk (md : Region.Mode) (ops : Array Oper) (os : List Nat) (a n : Nat) : Prop extends OrdOk md ops os where
  le : n ≤ ops.size
  apart : ∀ (k j : Nat) (d : Tmp), a ≤ k → k < n → a ≤ j → j < n → dstOf ops (ix os k) = some d → j ≠ k → dstOf ops (ix os j) ≠ some d
  looks : ∀ (k j : Nat) (d : Tmp) (o : Oper), a ≤ k → k < n → a ≤ j → j < n → dstOf ops (ix os k) = some d → ops[ix os j]? = some o → d ∈ o.looksAt ops → k < j ∧ Region.waitsFor md ops (ix os j) (ix os k) = true
  sink : n < ops.size → ∀ k, a ≤ k → k < n → ∃ j, k < j ∧ j ≤ n ∧ Region.waitsFor md ops (ix os j) (ix os k) = true
  chain : ∀ p, n < p → p < ops.size → (∃ s, n ≤ s ∧ s < p ∧ Region.waitsFor md ops (ix os p) (ix os s) = true) ∨ (n = a + 1 ∧ Region.waitsFor md ops (ix os p) (ix os a) = true)

theorem mem_take_ix {os : List Nat} {p x : Nat} (hp : p ≤ os.length) (h : x ∈ os.take p) : ∃ q, q < p ∧ x = ix os q := by
  obtain ⟨q, hq, hx⟩ := List.getElem_of_mem h
  have hq' : q < p := by rw [List.length_take] at hq; omega
  refine ⟨q, hq', ?_⟩
  rw [List.getElem_take] at hx
  unfold ix
  rw [List.getD_eq_getElem?_getD, List.getElem?_eq_getElem (by omega), hx]; rfl
theorem ix_mem_take {os : List Nat} {p q : Nat} (hp : p ≤ os.length) (hq : q < p) : ix os q ∈ os.take p := by
  unfold ix
  rw [List.getD_eq_getElem?_getD, List.getElem?_eq_getElem (by omega)]
  exact List.mem_take_iff_getElem.2 ⟨q, by omega, rfl⟩

theorem ordB_spec {md : Region.Mode} {os : List Nat} (h : ordB md ops os = true) : OrdOk md ops os := by
  simp only [ordB, Bool.and_eq_true, List.all_eq_true, List.mem_range] at h
  obtain ⟨⟨⟨⟨h0, h2⟩, hsj⟩, h3⟩, h4⟩ := h
  have hlen : os.length = ops.size := Nat.eq_of_beq_eq_true h0
  have hne : ∀ p q, q < p → p < ops.size → ix os p ≠ ix os q := by
    intro p q hqp hp heq
    have h7 := h3 p hp
    rw [heq] at h7
    have h8 : (os.take p).contains (ix os q) = true := List.contains_iff_mem.2 (ix_mem_take (by omega) hqp)
    rw [h8] at h7; cases h7
  refine ⟨hlen, fun p hp => ?_, fun i hi => ?_, fun p q hp hq heq => ?_, fun p o hp ho e he hb => ?_⟩
  · have : ix os p ∈ os := by
      have := ix_mem_take (os := os) (p := os.length) (q := p) (Nat.le_refl _) (by omega)
      rwa [List.take_length] at this
    have := h2 _ this
    rwa [Nat.blt_eq] at this
  · have := List.contains_iff_mem.1 (hsj i hi)
    rw [← List.take_length (l := os)] at this
    obtain ⟨q, hq, hx⟩ := mem_take_ix (Nat.le_refl _) this
    exact ⟨q, by omega, hx⟩
  · rcases Nat.lt_trichotomy p q with h | h | h
    · exact absurd heq.symm (hne q p h hq)
    · exact h
    · exact absurd heq (hne p q h hp)
  · have := h4 p hp
    rw [ho] at this
    simp only [Array.all_eq_true_iff_forall_mem] at this
    have := this e he
    rw [hb] at this
    simp only [Bool.not_true, Bool.false_or] at this
    exact mem_take_ix (by omega) (List.contains_iff_mem.1 this)

theorem mem_range'_iff {a n x : Nat} (h : a ≤ n) : x ∈ List.range' a (n - a) ↔ a ≤ x ∧ x < n := by
  rw [List.mem_range'_1]
  constructor
  · rintro ⟨h1, h2⟩; exact ⟨h1, by omega⟩
  · rintro ⟨h1, h2⟩; exact ⟨h1, by omega⟩

theorem groupB_spec {md : Region.Mode} {os : List Nat} {a n : Nat} (hO : OrdOk md ops os) (han : a ≤ n) (h : groupB md ops os a n = true) : GroupOk md ops os a n := by
  simp only [groupB, Bool.and_eq_true, List.all_eq_true, Bool.or_eq_true, List.any_eq_true] at h
  obtain ⟨⟨⟨h1, h5⟩, h6⟩, h7⟩ := h
  have hle : n ≤ ops.size := Nat.le_of_ble_eq_true h1
  refine ⟨hO, hle, fun k j d hk hk2 hj hj2 hd hne => ?_, fun k j d o hk hk2 hj hj2 hd ho hm => ?_, fun hlt k hk hk2 => ?_, fun p hp hps => ?_⟩
  · have := h5 k ((mem_range'_iff han).2 ⟨hk, hk2⟩)
    rw [hd] at this
    simp only [List.all_eq_true, Bool.and_eq_true, Bool.or_eq_true] at this
    rcases (this j ((mem_range'_iff han).2 ⟨hj, hj2⟩)).1 with h9 | h9
    · exact absurd (Nat.eq_of_beq_eq_true h9) hne
    · intro hjd
      rw [hjd] at h9
      simp at h9
  · have := h5 k ((mem_range'_iff han).2 ⟨hk, hk2⟩)
    rw [hd] at this
    simp only [List.all_eq_true, Bool.and_eq_true, Bool.or_eq_true] at this
    have h9 := (this j ((mem_range'_iff han).2 ⟨hj, hj2⟩)).2
    rw [ho] at h9
    simp only [Bool.or_eq_true, Bool.and_eq_true, Bool.not_eq_true', Nat.blt_eq] at h9
    rcases h9 with h9 | h9
    · have hc : (o.looksAt ops).contains d = true := List.contains_iff_mem.2 hm
      rw [hc] at h9; cases h9
    · exact h9
  · rcases h6 with h6 | h6
    · have := Nat.eq_of_beq_eq_true h6; omega
    · obtain ⟨j, hj, hj1, hj2⟩ := h6 k ((mem_range'_iff han).2 ⟨hk, hk2⟩)
      rw [Nat.blt_eq] at hj1
      have := List.mem_range.1 hj
      exact ⟨j, hj1, by omega, hj2⟩
  · rcases h7 p (List.mem_range.2 hps) with (h9 | h9) | h9
    · have := Nat.le_of_ble_eq_true h9; omega
    · obtain ⟨s, hs, hs2⟩ := h9
      obtain ⟨hs3, hs4⟩ := (mem_range'_iff (by omega)).1 hs
      exact .inl ⟨s, hs3, hs4, hs2⟩
    · exact .inr ⟨Nat.eq_of_beq_eq_true h9.1, h9.2⟩

/-- All before the group are done, none behind it. -/
structure HeadO (md : Region.Mode) (ops : Array Oper) (os : List Nat) (a n : Nat) (listed : Array Bool) : Prop where
  size : listed.size = ops.size
  closed : ∀ (j : Nat) (oj : Oper), ops[j]? = some oj → listed.getD j false = true → ∀ e ∈ oj.after, Region.binds md e = true → listed.getD e.on false = true
  front : ∀ p, p < a → listed.getD (ix os p) false = true
  tail : ∀ t, n ≤ t → t < ops.size → listed.getD (ix os t) true = false

theorem HeadO.set {md : Region.Mode} {os : List Nat} {a n p : Nat} {listed : Array Bool} (inv : HeadO md ops os a n listed) (hD : GroupOk md ops os a n) (hi : ix os p ∈ Region.ready md ops listed) (hin : p < n) : HeadO md ops os a n (listed.setIfInBounds (ix os p) true) := by
  obtain ⟨_, oi, hoi, hall⟩ := mem_ready.1 hi
  refine ⟨by simp [inv.size], fun j oj hj hl e he hb => ?_, fun q hq => getD_set_true (inv.front q hq), fun t ht ht' => ?_⟩
  · by_cases hij : ix os p = j
    · subst hij
      have : oj = oi := Option.some.inj (hj.symm.trans hoi)
      subst this
      exact getD_set_true (hall e he hb)
    · rw [getD_set_ne false hij] at hl
      exact getD_set_true (inv.closed j oj hj hl e he hb)
  · have hne : ix os p ≠ ix os t := by
      intro h
      have := hD.inj p t (by have := hD.le; omega) ht' h
      omega
    rw [getD_set_ne true hne]; exact inv.tail t ht ht'

theorem tail_waitsO {md : Region.Mode} {os : List Nat} {a n : Nat} {listed : Array Bool} (hD : GroupOk md ops os a n) (inv : HeadO md ops os a n listed) :
    ∀ (d i : Nat), n - i = d → a ≤ i → i < n → listed.getD (ix os i) true = false → ∀ t, n ≤ t → t < ops.size → ix os t ∉ Region.ready md ops listed := by
  intro d
  induction d using Nat.strongRecOn with
  | _ d ih =>
    intro i hd hai hi hun t ht htlt hr
    obtain ⟨_, ot, hot, hall⟩ := mem_ready.1 hr
    by_cases htn : t = n
    · subst htn
      obtain ⟨j, hj1, hjle, hj2⟩ := hD.sink htlt i hai hi
      obtain ⟨oj, hoj, e, he, hb, hon⟩ := Region.waitsFor_spec hj2
      by_cases hjt : j = t
      · subst hjt
        have : oj = ot := Option.some.inj (hoj.symm.trans hot)
        subst this
        have h2 := hall e he hb
        rw [hon, getD_both hun] at h2
        cases h2
      · cases hl : listed.getD (ix os j) false with
        | true =>
          have h2 := inv.closed _ oj hoj hl e he hb
          rw [hon, getD_both hun] at h2
          cases h2
        | false =>
          have hjs : ix os j < listed.size := by rw [inv.size]; exact hD.lt j (by omega)
          exact ih (t - j) (by omega) j rfl (by omega) (by omega) (getD_in hjs hl) t (Nat.le_refl _) htlt hr
    · rcases hD.chain t (by omega) htlt with ⟨s, hs1, hs2, hs3⟩ | ⟨hn1, hs3⟩
      · obtain ⟨o', ho', e, he, hb, hon⟩ := Region.waitsFor_spec hs3
        have : o' = ot := Option.some.inj (ho'.symm.trans hot)
        subst this
        have h2 := hall e he hb
        rw [hon, getD_both (inv.tail s hs1 (by omega))] at h2
        cases h2
      · obtain ⟨o', ho', e, he, hb, hon⟩ := Region.waitsFor_spec hs3
        have : o' = ot := Option.some.inj (ho'.symm.trans hot)
        subst this
        have h2 := hall e he hb
        have hia : i = a := by omega
        subst hia
        rw [hon, getD_both hun] at h2
        cases h2

/-- Operations that look at no place and write none. -/
def blindO (o : Oper) : Bool :=
  match o.op with
  | .move _ | .assign _ | .extract _ _ => true
  | _ => false

theorem opsI_cons {lim : Nat} {x : Nat × Bool} {l : List (Nat × Bool)} {t : List Value} {σ : AS} : opsI P E rec ops lim (x :: l) t σ = match ops[x.1]? with
    | some o => andThen (op1 P E rec ops x.2 lim o t σ) fun v σ' => opsI P E rec ops lim l (putT t o.dst v) σ'
    | none => none := by
  simp only [opsI]
  cases ops[x.1]? with
  | none => rfl
  | some o =>
    dsimp only
    rcases op1 P E rec ops x.2 lim o t σ with _ | ⟨v, σ1⟩ <;> rfl

theorem opsI_append {lim : Nat} : ∀ (l m : List (Nat × Bool)) (t : List Value) (σ : AS), opsI P E rec ops lim (l ++ m) t σ = andThen (opsI P E rec ops lim l t σ) fun t1 σ1 => opsI P E rec ops lim m t1 σ1
  | [], m, t, σ => rfl
  | x :: l, m, t, σ => by
    simp only [List.cons_append, opsI_cons]
    cases ops[x.1]? with
    | none => rfl
    | some o =>
      dsimp only
      rcases op1 P E rec ops x.2 lim o t σ with _ | ⟨v, σ'⟩
      · rfl
      · simp only [andThen]
        rw [opsI_append l m]
        rfl

theorem blind_op1 {q : Bool} {lim : Nat} {o : Oper} (hb : blindO o = true) {t : List Value} {σ σ' : AS} {v : Value} (h : op1 P E rec ops q lim o t σ = some (v, σ')) : σ' = σ ∧ ∀ q' lim' σ2, op1 P E rec ops q' lim' o t σ2 = some (v, σ2) := by
  unfold op1 at h ⊢
  cases hq : Region.wanted o (yieldedL ops t) with
  | false =>
    rw [hq] at h
    simp only [cond_false, Option.some.injEq, Prod.mk.injEq] at h
    obtain ⟨rfl, rfl⟩ := h
    exact ⟨rfl, fun _ _ _ => rfl⟩
  | true =>
    rw [hq] at h
    simp only [cond_true] at h ⊢
    obtain ⟨dst, op, type, pos, after, guard⟩ := o
    cases op <;> (try (cases hb; done))
    case move x =>
      have h : some (ev t x, σ) = some (v, σ') := h
      simp only [Option.some.injEq, Prod.mk.injEq] at h
      obtain ⟨rfl, rfl⟩ := h
      exact ⟨rfl, fun _ _ _ => rfl⟩
    case assign x =>
      have h : some (ev t x, σ) = some (v, σ') := h
      simp only [Option.some.injEq, Prod.mk.injEq] at h
      obtain ⟨rfl, rfl⟩ := h
      exact ⟨rfl, fun _ _ _ => rfl⟩
    case extract x i =>
      have e : ∀ lim' σ2, operA P E rec lim' ⟨dst, .extract x i, type, pos, after, guard⟩ t σ2 = nextAny (runA P lim' (do pure (Next.value (← Instr.extract (ev t x) i))) σ2) := fun _ _ => rfl
      rw [e] at h
      simp only [e]
      rw [runA_bind] at h
      simp only [runA_bind]
      generalize ev t x = u at h
      cases u <;> (try (cases h; done))
      case tuple vs =>
        simp only [Instr.extract] at h ⊢
        cases hv : vs[i]? with
        | none => rw [hv] at h; cases h
        | some y =>
          rw [hv] at h
          have h : some (y, σ) = some (v, σ') := h
          simp only [Option.some.injEq, Prod.mk.injEq] at h
          obtain ⟨rfl, rfl⟩ := h
          exact ⟨rfl, fun _ _ _ => rfl⟩

/-- The run of the operations in any order, spelled out. -/
def StepAt (P : Program) (E : Env) (rec : Rec) (ops : Array Oper) (os : List Nat) (fl : Nat → Bool) (lim : Nat) (T : Nat → List Value) (S : Nat → AS) (V : Nat → Value) (j : Nat) : Prop :=
  ∃ o, ops[ix os j]? = some o ∧ op1 P E rec ops (fl j) lim o (T j) (S j) = some (V j, S (j + 1)) ∧ T (j + 1) = putT (T j) o.dst (V j)

theorem exists_run {os : List Nat} {fl : Nat → Bool} {lim : Nat} : ∀ (l : List (Nat × Bool)) (m : Nat) (t : List Value) (σ : AS) (t1 : List Value) (σ1 : AS), (∀ (i : Nat) (x : Nat × Bool), l[i]? = some x → x.1 = ix os (m + i) ∧ x.2 = fl (m + i)) → opsI P E rec ops lim l t σ = some (t1, σ1) →
    ∃ (T : Nat → List Value) (S : Nat → AS) (V : Nat → Value), T m = t ∧ S m = σ ∧ T (m + l.length) = t1 ∧ S (m + l.length) = σ1 ∧ ∀ j, m ≤ j → j < m + l.length → StepAt P E rec ops os fl lim T S V j
  | [], m, t, σ, t1, σ1, _, h => by
    simp only [opsI, Option.some.injEq, Prod.mk.injEq] at h
    obtain ⟨rfl, rfl⟩ := h
    exact ⟨fun _ => t, fun _ => σ, fun _ => undef, rfl, rfl, rfl, rfl, fun j h1 h2 => by simp at h2; omega⟩
  | x :: l, m, t, σ, t1, σ1, hx, h => by
    rw [opsI_cons] at h
    obtain ⟨hx1, hx2⟩ := hx 0 x rfl
    rw [Nat.add_zero] at hx1 hx2
    cases ho : ops[x.1]? with
    | none => rw [ho] at h; cases h
    | some o =>
    rw [ho] at h
    dsimp only at h
    cases h1 : op1 P E rec ops x.2 lim o t σ with
    | none => rw [h1] at h; cases h
    | some r =>
      obtain ⟨v, σ'⟩ := r
      rw [h1] at h
      obtain ⟨T, S, V, e1, e2, e3, e4, e5⟩ := exists_run l (m + 1) (putT t o.dst v) σ' t1 σ1 (fun i y hi => by have := hx (i + 1) y (by simpa using hi); rw [show m + 1 + i = m + (i + 1) by omega]; exact this) h
      refine ⟨fun j => if j = m then t else T j, fun j => if j = m then σ else S j, fun j => if j = m then v else V j, by simp, by simp, ?_, ?_, fun j hj hj2 => ?_⟩
      · simp only [List.length_cons]
        rw [if_neg (by omega), show m + (l.length + 1) = m + 1 + l.length by omega]; exact e3
      · simp only [List.length_cons]
        rw [if_neg (by omega), show m + (l.length + 1) = m + 1 + l.length by omega]; exact e4
      · by_cases hm : j = m
        · subst hm
          refine ⟨o, by rw [← hx1]; exact ho, ?_, ?_⟩
          · simp only [if_true]
            rw [if_neg (by omega), ← hx2, h1, e2]
          · simp only [if_true]
            rw [if_neg (by omega), e1]
        · obtain ⟨o', g1, g2, g3⟩ := e5 j (by omega) (by simp at hj2; omega)
          refine ⟨o', g1, ?_, ?_⟩
          · dsimp only; rw [if_neg hm, if_neg hm, if_neg hm, if_neg (by omega)]; exact g2
          · dsimp only; rw [if_neg (by omega), if_neg hm, if_neg hm]; exact g3

theorem least {p : Nat → Prop} (h : ∃ j, p j) : ∃ j, p j ∧ ∀ i, i < j → ¬ p i := by
  obtain ⟨j, hj⟩ := h
  induction j using Nat.strongRecOn with
  | _ j ih =>
    by_cases hs : ∃ i, i < j ∧ p i
    · obtain ⟨i, h1, h2⟩ := hs
      exact ih i h1 h2
    · exact ⟨j, hj, fun i h1 h2 => hs ⟨i, h1, h2⟩⟩

/-- The relation hangs on the places that the injection knows. -/
theorem R.dom {β : Inj} {σ σ' : AS} {w : World} (hR : R K W0 N0 β σ w) (h : ∀ i e, β i = some e → σ'.get i = σ.get i) : R K W0 N0 β σ' w where
  cells hb hg := hR.cells hb (by rw [← h _ _ hb]; exact hg)
  obj hb hg := hR.obj hb (by rw [← h _ _ hb]; exact hg)
  excl hij hi hj hgi hgj := hR.excl hij hi hj (by rw [← h _ _ hi]; exact hgi) (by rw [← h _ _ hj]; exact hgj)
  lt := hR.lt
  base := hR.base
  top := hR.top
  code hb hg := hR.code hb (by rw [← h _ _ hb]; exact hg)

section draw
variable {md : Region.Mode} {os : List Nat} {fl : Nat → Bool} {lim a n : Nat} {T : Nat → List Value} {S : Nat → AS} {V : Nat → Value}

/-- What the run of the prefix is known to be. -/
structure Pre (md : Region.Mode) (P : Program) (E : Env) (rec : Rec) (ops : Array Oper) (os : List Nat) (fl : Nat → Bool) (lim a n : Nat) (T : Nat → List Value) (S : Nat → AS) (V : Nat → Value) : Prop where
  ok : GroupOk md ops os a n
  step : ∀ j, a ≤ j → j < n → StepAt P E rec ops os fl lim T S V j
  quiet : ∀ j, a ≤ j → j < n → Kept (S j).next (S j) (S (j + 1))
  an : a ≤ n
  wf : (S a).Wf

theorem Pre.heaps (hP : Pre md P E rec ops os fl lim a n T S V) (i : Nat) (hai : a ≤ i) : ∀ j, i ≤ j → j ≤ n → (S i).Wf → (S i).next ≤ (S j).next ∧ (S j).Wf ∧ ∀ id, id < (S i).next → (S j).get id = (S i).get id := by
  intro j
  induction j with
  | zero => intro h1 _ hw; have : i = 0 := by omega
            subst this; exact ⟨Nat.le_refl _, hw, fun _ _ => rfl⟩
  | succ j ih =>
    intro h1 h2 hw
    by_cases hij : i = j + 1
    · subst hij; exact ⟨Nat.le_refl _, hw, fun _ _ => rfl⟩
    · obtain ⟨e1, e2, e3⟩ := ih (by omega) (by omega) hw
      have hk := hP.quiet j (by omega) (by omega)
      exact ⟨Nat.le_trans e1 hk.next, hk.wf e2, fun id hid => (hk.old id (by omega) (by omega)).trans (e3 id hid)⟩

theorem Pre.wfs (hP : Pre md P E rec ops os fl lim a n T S V) (j : Nat) (haj : a ≤ j) (hj : j ≤ n) : (S j).Wf := (hP.heaps a (Nat.le_refl _) j haj hj hP.wf).2.1
theorem Pre.nexts (hP : Pre md P E rec ops os fl lim a n T S V) {i j : Nat} (hai : a ≤ i) (hij : i ≤ j) (hj : j ≤ n) : (S i).next ≤ (S j).next := (hP.heaps i hai j hij hj (hP.wfs i hai (by omega))).1

theorem length_putT (t : List Value) (d : Option Tmp) (v : Value) : (putT t d v).length = t.length := by cases d <;> simp [putT]

theorem Pre.len (hP : Pre md P E rec ops os fl lim a n T S V) : ∀ j, a ≤ j → j ≤ n → (T j).length = (T a).length := by
  intro j
  induction j with
  | zero => intro h _; rw [Nat.le_zero.1 h]
  | succ j ih =>
    intro haj hj
    by_cases h : a = j + 1
    · rw [h]
    · obtain ⟨o, g1, g2, g3⟩ := hP.step j (by omega) (by omega)
      rw [g3, length_putT, ih (by omega) (by omega)]

theorem Pre.same (hP : Pre md P E rec ops os fl lim a n T S V) (x : Nat) : ∀ j, a ≤ j → j ≤ n → (∀ k, a ≤ k → k < j → dstOf ops (ix os k) ≠ some x) → (T j)[x]? = (T a)[x]? := by
  intro j
  induction j with
  | zero => intro h _ _; rw [Nat.le_zero.1 h]
  | succ j ih =>
    intro haj hj hk
    by_cases h : a = j + 1
    · rw [h]
    · obtain ⟨o, g1, g2, g3⟩ := hP.step j (by omega) (by omega)
      rw [g3, ← ih (by omega) (by omega) (fun k h h' => hk k h (by omega))]
      have := hk j (by omega) (by omega)
      simp only [dstOf, g1, Option.bind_some] at this
      cases hd : o.dst with
      | none => rfl
      | some d =>
        rw [hd] at this
        simp only [putT]
        rw [List.getElem?_set_ne]
        intro h; exact this (by rw [h])

theorem Pre.val (hP : Pre md P E rec ops os fl lim a n T S V) {k : Nat} (x : Nat) (hak : a ≤ k) (hd : dstOf ops (ix os k) = some x) (hx : x < (T a).length) : ∀ j, k < j → j ≤ n → (T j)[x]? = some (V k) := by
  intro j
  induction j with
  | zero => intro h; omega
  | succ j ih =>
    intro hk hj
    obtain ⟨o, g1, g2, g3⟩ := hP.step j (by omega) (by omega)
    rw [g3]
    by_cases hjk : j = k
    · subst hjk
      simp only [dstOf, g1, Option.bind_some] at hd
      rw [hd]
      simp only [putT]
      rw [List.getElem?_set_self]
      rw [hP.len j (by omega) (by omega)]; exact hx
    · have hne := hP.ok.apart k j x hak (by omega) (by omega) (by omega) hd hjk
      simp only [dstOf, g1, Option.bind_some] at hne
      rw [← ih (by omega) (by omega)]
      cases hd' : o.dst with
      | none => rfl
      | some d =>
        rw [hd'] at hne
        simp only [putT]
        rw [List.getElem?_set_ne]
        intro h; exact hne (by rw [h])

/-- Where the machine stands, when some of the operations are done. -/
structure Inv (md : Region.Mode) (K : FuncId → Code → Prop) (W0 : World) (N0 : Nat) (ops : Array Oper) (os : List Nat) (a n : Nat) (T : Nat → List Value) (S : Nat → AS) (V : Nat → Value) (τ : AS) (β0 β : Inj) (listed : Array Bool) (tr : Array Value) (w : World) : Prop where
  head : HeadO md ops os a n listed
  ext : Ext β0 β (S a) (S n)
  fresh : ∀ j, a ≤ j → j < n → listed.getD (ix os j) true = false → ∀ i, (S j).next ≤ i → i < (S (j + 1)).next → β i = none
  rel : R K W0 N0 β τ w
  size : tr.size = (T a).length
  old : ∀ x, (∀ k, a ≤ k → k < n → dstOf ops (ix os k) ≠ some x) → lkRel β (T a)[x]? tr[x]?
  new : ∀ k, a ≤ k → k < n → listed.getD (ix os k) false = true → ∀ x, dstOf ops (ix os k) = some x → x < (T a).length → ∃ v', tr[x]? = some v' ∧ vRel β (V k) v'

theorem size_putA (t : Array Value) (d : Option Tmp) (v : Value) : (putA t d v).size = t.size := by cases d <;> simp [putA]

theorem Inv.step (H : Given P K W0 N0 G E rec) (hP : Pre md P E rec ops os fl lim a n T S V) (hB : ∀ (j : Nat) (o : Oper), ops[j]? = some o → opB G o = true) {τ : AS} (hτ : ∀ i, i < (S n).next → τ.get i = (S n).get i) {β0 β : Inj} (hG : GlobOk G β0) {listed : Array Bool} {tr : Array Value} {w : World}
    (inv : Inv md K W0 N0 ops os a n T S V τ β0 β listed tr w) {i : Nat} (hi : ix os i ∈ Region.ready md ops listed) (hai : a ≤ i) (hin : i < n) (b : Frame) (d : List Deferred) (rest : List Nat) (k : List Item) (cs : List Frame) :
    ∃ w' β' tr', Inv md K W0 N0 ops os a n T S V τ β0 β' (listed.setIfInBounds (ix os i) true) tr' w' ∧ Steps P (lone (Fr b tr d (.inRegion ops (ix os i :: rest) :: k)) cs w) (lone (Fr b tr' d (.inRegion ops rest :: k)) cs w') := by
  obtain ⟨hun, o, ho, hall⟩ := mem_ready.1 hi
  obtain ⟨o', g1, g2, g3⟩ := hP.step i hai hin
  have : o' = o := Option.some.inj (g1.symm.trans ho)
  subst this
  have hwi := hP.wfs i hai (by omega)
  have hw1 := hP.wfs (i + 1) (by omega) (by omega)
  have n1 := hP.nexts (i := i) (j := i + 1) hai (by omega) (by omega)
  have n2 := hP.nexts (i := i + 1) (j := n) (by omega) (by omega) (by omega)
  have n0 := hP.nexts (i := a) (j := i) (Nat.le_refl _) hai (by omega)
  obtain ⟨_, _, get1⟩ := hP.heaps i hai n (by omega) (Nat.le_refl _) hwi
  obtain ⟨_, _, get2⟩ := hP.heaps (i + 1) (by omega) n (by omega) (Nat.le_refl _) hw1
  have hl : (S i).Like { τ with next := (S i).next } := ⟨rfl, fun id hid => by
    show τ.get id = _
    rw [hτ id (by omega), get1 id hid]⟩
  have hR : R K W0 N0 β { τ with next := (S i).next } w := inv.rel.dom fun _ _ _ => rfl
  have hf : Fresh β (S i) (S (i + 1)) := fun id h1 h2 => inv.fresh i hai hin hun id h1 h2
  have hs : Sees ops β o' (T i) tr := by
    intro x hx
    by_cases hk : ∃ k, a ≤ k ∧ k < n ∧ dstOf ops (ix os k) = some x
    · obtain ⟨k, hak, hk, hd⟩ := hk
      obtain ⟨hki, hwt⟩ := hP.ok.looks k i x o' hak hk hai hin hd ho hx
      obtain ⟨oj, hoj, e, he, hb, hon⟩ := Region.waitsFor_spec hwt
      have : oj = o' := Option.some.inj (hoj.symm.trans ho)
      subst this
      have hlk := hall e he hb
      rw [hon] at hlk
      by_cases hx : x < (T a).length
      · obtain ⟨v', h1, h2⟩ := inv.new k hak hk hlk x hd hx
        exact .inr ⟨_, v', hP.val x hak hd hx i hki (by omega), h1, h2⟩
      · refine .inl ⟨?_, ?_⟩
        · rw [List.getElem?_eq_none_iff, hP.len i hai (by omega)]; exact Nat.le_of_not_lt hx
        · rw [Array.getElem?_eq_none_iff, inv.size]; exact Nat.le_of_not_lt hx
    · have hno : ∀ k, a ≤ k → k < n → dstOf ops (ix os k) ≠ some x := fun k h0 h1 h2 => hk ⟨k, h0, h1, h2⟩
      rw [hP.same x i hai (by omega) fun k h0 h1 => hno k h0 (by omega)]
      exact inv.old x hno
  obtain ⟨v', w', ⟨β', τ', x1, l1, R1, hv⟩, hst⟩ := op_steps H ho g2 (hB (ix os i) o' ho) hwi hl hR hf (hG.mono inv.ext.1) hs b d rest k cs
  refine ⟨w', β', putA tr o'.dst v', ⟨inv.head.set hP.ok hi hin, ?_, ?_, ?_, ?_, ?_, ?_⟩, hst⟩
  · refine ⟨inv.ext.1.trans x1.1, fun id e he => ?_⟩
    rcases x1.2 id e he with h1 | h1
    · exact inv.ext.2 id e h1
    · exact .inr (by omega)
  · intro j haj hj hju id h1 h2
    have hle := hP.ok.le
    have hne : i ≠ j := by
      intro h; subst h
      have hsz : ix os i < listed.size := by rw [inv.head.size]; exact (Array.getElem?_eq_some_iff.1 ho).1
      simp [hsz] at hju
    have hne' : ix os i ≠ ix os j := fun h => hne (hP.ok.inj i j (by omega) (by omega) h)
    rw [getD_set_ne true hne'] at hju
    cases hb : β' id with
    | none => rfl
    | some e =>
      rcases x1.2 id e hb with h3 | h3
      · rw [inv.fresh j haj hj hju id h1 h2] at h3; cases h3
      · rcases Nat.lt_or_gt_of_ne hne with h4 | h4
        · have := hP.nexts (i := i + 1) (j := j) (by omega) (by omega) (by omega); omega
        · have := hP.nexts (i := j + 1) (j := i) (by omega) (by omega) (by omega); omega
  · refine R1.dom fun id e _ => ?_
    rcases Nat.lt_or_ge id (S (i + 1)).next with h | h
    · rw [l1.below id h, hτ id (by omega), get2 id h]
    · rw [l1.above id h]; rfl
  · rw [size_putA]; exact inv.size
  · intro x hx
    have hno := hx i hai hin
    simp only [dstOf, ho, Option.bind_some] at hno
    have : (putA tr o'.dst v')[x]? = tr[x]? := by
      cases hd : o'.dst with
      | none => rfl
      | some d =>
        rw [hd] at hno
        simp only [putA]
        rw [Array.getElem?_setIfInBounds_ne]
        intro h; exact hno (by rw [h])
    rw [this]
    exact (inv.old x hx).mono x1.1
  · intro j haj hj hlj x hd hx
    by_cases hij : i = j
    · subst hij
      simp only [dstOf, ho, Option.bind_some] at hd
      rw [hd]
      refine ⟨v', ?_, hv⟩
      simp only [putA]
      rw [Array.getElem?_setIfInBounds_self_of_lt]
      rw [inv.size]; exact hx
    · have hle := hP.ok.le
      have hij' : ix os i ≠ ix os j := fun h => hij (hP.ok.inj i j (by omega) (by omega) h)
      rw [getD_set_ne false hij'] at hlj
      obtain ⟨u', h1, h2⟩ := inv.new j haj hj hlj x hd hx
      refine ⟨u', ?_, h2.mono x1.1⟩
      have hne := hP.ok.apart j i x haj hj hai hin hd hij
      simp only [dstOf, ho, Option.bind_some] at hne
      cases hd' : o'.dst with
      | none => exact h1
      | some d =>
        rw [hd'] at hne
        simp only [putA]
        rw [Array.getElem?_setIfInBounds_ne]
        · exact h1
        · intro h; exact hne (by rw [h])

theorem go_step {fuel t : Nat} {listed : Array Bool} (h : Region.ready md ops listed ≠ []) :
    ∃ i t', i ∈ Region.ready md ops listed ∧ Region.linearise.go md ops (fuel + 1) t listed [] = i :: Region.linearise.go md ops fuel t' (listed.setIfInBounds i true) [] := by
  have hlt : t % (Region.ready md ops listed).length < (Region.ready md ops listed).length := Nat.mod_lt _ (List.length_pos_iff.2 h)
  refine ⟨(Region.ready md ops listed)[t % (Region.ready md ops listed).length], t / (Region.ready md ops listed).length, List.getElem_mem hlt, ?_⟩
  simp only [Region.linearise.go]
  change (match (Region.ready md ops listed)[t % (Region.ready md ops listed).length]? with
      | some i => Region.linearise.go md ops fuel (t / (Region.ready md ops listed).length) (listed.setIfInBounds i true) [i]
      | none => [].reverse) = _
  rw [List.getElem?_eq_getElem hlt]
  simp only []
  rw [linearise_go_acc]
  rfl

theorem Inv.all (H : Given P K W0 N0 G E rec) (hP : Pre md P E rec ops os fl lim a n T S V) (hB : ∀ (j : Nat) (o : Oper), ops[j]? = some o → opB G o = true) {τ : AS} (hτ : ∀ i, i < (S n).next → τ.get i = (S n).get i) {β0 : Inj} (hG : GlobOk G β0) (b : Frame) (d : List Deferred) (k : List Item) (cs : List Frame) :
    ∀ (m : Nat) (U : List Nat) (listed : Array Bool) (tr : Array Value) (w : World) (β : Inj) (t : Nat), U.length = m → U.Nodup → (∀ j, j ∈ U ↔ (a ≤ j ∧ j < n) ∧ listed.getD (ix os j) true = false) → Inv md K W0 N0 ops os a n T S V τ β0 β listed tr w →
    ∃ w' β' tr' listed' t', Inv md K W0 N0 ops os a n T S V τ β0 β' listed' tr' w' ∧ (∀ j, j < n → listed'.getD (ix os j) false = true) ∧
      Steps P (lone (Fr b tr d (.inRegion ops (Region.linearise.go md ops (m + (ops.size - n)) t listed []) :: k)) cs w) (lone (Fr b tr' d (.inRegion ops (Region.linearise.go md ops (ops.size - n) t' listed' []) :: k)) cs w') := by
  intro m
  have hle := hP.ok.le
  induction m with
  | zero =>
    intro U listed tr w β t hU _ hmem inv
    have hU : U = [] := List.length_eq_zero_iff.1 hU
    refine ⟨w, β, tr, listed, t, inv, fun j hj => ?_, ?_⟩
    · cases h : listed.getD (ix os j) false with
      | true => rfl
      | false =>
        by_cases haj : a ≤ j
        · have := (hmem j).2 ⟨⟨haj, hj⟩, getD_in (by rw [inv.head.size]; exact hP.ok.lt j (by omega)) h⟩
          rw [hU] at this; cases this
        · rw [inv.head.front j (by omega)] at h; cases h
    · rw [Nat.zero_add]; exact .refl _ _
  | succ m ih =>
    intro U listed tr w β t hU hnd hmem inv
    obtain ⟨u, hu⟩ : ∃ u, u ∈ U := by
      cases U with
      | nil => simp at hU
      | cons u _ => exact ⟨u, by simp⟩
    obtain ⟨j, hj, hleast⟩ := least (p := fun j => (a ≤ j ∧ j < n) ∧ listed.getD (ix os j) true = false) ⟨u, (hmem u).1 hu⟩
    have hjs : ix os j < ops.size := hP.ok.lt j (by omega)
    have hjr : ix os j ∈ Region.ready md ops listed := by
      refine mem_ready.2 ⟨hj.2, ops[ix os j], Array.getElem?_eq_getElem hjs, fun e he hb => ?_⟩
      obtain ⟨q, hlt, heq⟩ := hP.ok.back j ops[ix os j] (by omega) (Array.getElem?_eq_getElem hjs) e he hb
      rw [heq]
      cases h : listed.getD (ix os q) false with
      | true => rfl
      | false =>
        by_cases haq : a ≤ q
        · exact absurd ⟨⟨haq, by omega⟩, getD_in (by rw [inv.head.size]; exact hP.ok.lt q (by omega)) h⟩ (hleast q hlt)
        · rw [inv.head.front q (by omega)] at h; cases h
    obtain ⟨i0, t', hi, hgo⟩ := go_step (fuel := m + (ops.size - n)) (t := t) (listed := listed) (by intro h; rw [h] at hjr; cases hjr)
    have his : i0 < ops.size := by
      obtain ⟨_, o, ho, _⟩ := mem_ready.1 hi
      exact (Array.getElem?_eq_some_iff.1 ho).1
    obtain ⟨i, hips, rfl⟩ := hP.ok.surj i0 his
    have hin : i < n := by
      rcases Nat.lt_or_ge i n with h | h
      · exact h
      · exfalso
        exact tail_waitsO hP.ok inv.head _ j rfl hj.1.1 hj.1.2 hj.2 i h hips hi
    have hai : a ≤ i := by
      rcases Nat.lt_or_ge i a with h | h
      · have h1 := inv.head.front i h
        rw [getD_both (mem_ready.1 hi).1] at h1; cases h1
      · exact h
    obtain ⟨w1, β1, tr1, inv1, s1⟩ := inv.step H hP hB hτ hG hi hai hin b d (Region.linearise.go md ops (m + (ops.size - n)) t' (listed.setIfInBounds (ix os i) true) []) k cs
    have hiU : i ∈ U := (hmem i).2 ⟨⟨hai, hin⟩, (mem_ready.1 hi).1⟩
    obtain ⟨w', β', tr', listed', t'', inv', hl', s2⟩ := ih (U.erase i) (listed.setIfInBounds (ix os i) true) tr1 w1 β1 t' (by rw [List.length_erase_of_mem hiU]; omega) (hnd.erase i) (fun x => by
      rw [hnd.mem_erase_iff, hmem x]
      constructor
      · rintro ⟨h1, h2, h3⟩; exact ⟨h2, by rw [getD_set_ne true (fun h => h1 (hP.ok.inj x i (by omega) hips h.symm))]; exact h3⟩
      · rintro ⟨h1, h2⟩
        have hne : x ≠ i := by
          intro h; subst h
          have : ix os x < listed.size := by rw [inv.head.size]; exact his
          simp [this] at h2
        exact ⟨hne, h1, by rw [getD_set_ne true (fun h => hne (hP.ok.inj x i (by omega) hips h.symm))] at h2; exact h2⟩) inv1
    refine ⟨w', β', tr', listed', t'', inv', hl', ?_⟩
    rw [show m + 1 + (ops.size - n) = m + (ops.size - n) + 1 by omega, hgo]
    exact s1.trans s2

end draw

end Go.Va
