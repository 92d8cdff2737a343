/-
  SIMULATION: a region whose operations run in the order of the text.
-/
import Derived.Test.YtakchekhpeokjaaDoorVaA20
namespace Go.Va
open Go.RowKit
variable {P : Program} {K : FuncId → Code → Prop} {W0 : World} {N0 G : Nat} {E : Env} {rec : Rec} {ops : Array Oper}

/-- Two look-ups that go together. -/
def lkRel (β : Inj) (a b : Option Value) : Prop := (a = none ∧ b = none) ∨ ∃ v v', a = some v ∧ b = some v' ∧ vRel β v v'

theorem lkRel.mono {β β' : Inj} (hb : β.le β') {a b : Option Value} (h : lkRel β a b) : lkRel β' a b := by
  rcases h with h | ⟨v, v', h1, h2, h3⟩
  · exact .inl h
  · exact .inr ⟨v, v', h1, h2, h3.mono hb⟩

theorem lRel.look {β : Inj} {t : List Value} {tr : Array Value} (ht : lRel β t tr.toList) (d : Nat) : lkRel β t[d]? tr[d]? := by
  cases h : t[d]? with
  | none => have h' := ht.none d h; rw [Array.getElem?_toList] at h'; exact .inl ⟨rfl, h'⟩
  | some v => obtain ⟨v', h', hv⟩ := ht.getElem? d h; rw [Array.getElem?_toList] at h'; exact .inr ⟨v, v', rfl, h', hv⟩

theorem ev_rel' {β : Inj} (hG : GlobOk G β) {t : List Value} {tr : Array Value} {x : Operand} (hx : okO G x = true) (hl : ∀ d, x = .tmp d → lkRel β t[d]? tr[d]?) : vRel β (ev t x) (evA tr x) := by
  cases x with
  | tmp i =>
    simp only [ev, evA]
    rw [List.getD_eq_getElem?_getD, Array.getD_eq_getD_getElem?]
    rcases hl i rfl with ⟨h1, h2⟩ | ⟨v, v', h1, h2, h3⟩
    · rw [h1, h2]; exact rel_undef
    · rw [h1, h2]; exact h3
  | const v => exact plain_rel 100 v hx
  | global g =>
    simp only [okO] at hx
    exact .ptr ⟨rfl, _, hG g (by rw [Nat.blt_eq] at hx; exact hx), by simp⟩
  | func f => exact .func rfl rfl (fun i h => by simp at h) rfl (fun i h => by simp at h)

/-- What an operation sees is related. -/
def Sees (ops : Array Oper) (β : Inj) (o : Oper) (t : List Value) (tr : Array Value) : Prop := ∀ d ∈ o.looksAt ops, lkRel β t[d]? tr[d]?

theorem Sees.operands {β : Inj} {o : Oper} {t : List Value} {tr : Array Value} (h : Sees ops β o t tr) (hG : GlobOk G β) (hB : opB G o = true) : ∀ x ∈ o.op.operands, vRel β (ev t x) (evA tr x) := by
  intro x hx
  simp only [opB, Bool.and_eq_true, List.all_eq_true] at hB
  refine ev_rel' hG (hB.1 x (by simpa using hx)) fun d hd => h d ?_
  subst hd
  unfold Oper.looksAt
  exact List.mem_append_left _ (List.mem_filterMap.2 ⟨.tmp d, by simpa using hx, rfl⟩)

theorem Sees.wanted {β : Inj} {o : Oper} {t : List Value} {tr : Array Value} (h : Sees ops β o t tr) : Region.wanted o (yielded ops tr) = Region.wanted o (yieldedL ops t) := by
  unfold Region.wanted
  cases hg : o.guard with
  | none => rfl
  | some gb =>
    obtain ⟨g, b⟩ := gb
    have : yielded ops tr g = yieldedL ops t g := by
      unfold yielded yieldedL
      cases hd : (ops[g]?).bind (·.dst) with
      | none => rfl
      | some d =>
        have hl := h d (by
          unfold Oper.looksAt
          refine List.mem_append_right _ ?_
          rw [hg]
          simp [hd])
        simp only [Option.bind_some]
        rcases hl with ⟨h1, h2⟩ | ⟨v, v', h1, h2, h3⟩
        · rw [h1, h2]
        · rw [h1, h2]
          cases h3 <;> rfl
    simp only [this]

theorem opsA_cons {q : Bool} {lim : Nat} {o : Oper} {l : List Oper} {t : List Value} {σ : AS} : opsA P E rec ops q lim (o :: l) t σ = andThen (op1 P E rec ops q lim o t σ) fun v σ' => opsA P E rec ops q lim l (putT t o.dst v) σ' := by
  simp only [opsA, op1]
  cases Region.wanted o (yieldedL ops t) with
  | false => rfl
  | true =>
    simp only [cond_true]
    rcases operA P E rec (bif q then σ.next else lim) o t σ with _ | ⟨v, σ'⟩ <;> rfl

theorem quiet_op1 (hE : OvGood E) (hr : RecGood rec) {lim : Nat} {o : Oper} {t : List Value} {σ σ' : AS} {v : Value} (h : op1 P E rec ops true lim o t σ = some (v, σ')) (hw : σ.Wf) : Kept σ.next σ σ' := by
  unfold op1 at h
  cases hq : Region.wanted o (yieldedL ops t) with
  | false => rw [hq] at h; simp only [cond_false, Option.some.injEq, Prod.mk.injEq] at h; rw [← h.2]; exact .refl _ _
  | true => rw [hq] at h; exact ((good_oper hE hr) σ v σ' h hw).1

/-- What is given: of the program, of the replaced functions, of the deeper runs. -/
structure Given (P : Program) (K : FuncId → Code → Prop) (W0 : World) (N0 G : Nat) (E : Env) (rec : Rec) : Prop where
  zero : ZeroOk P
  mixed : P.follows .mixedOrders = true
  ovGood : OvGood E
  ov : OvOk P K W0 N0 G E
  good : RecGood rec
  call : CallOk P K W0 N0 G rec
  round : RoundOk P K W0 N0 G rec

theorem lRel_putT {β : Inj} {t : List Value} {tr : Array Value} (ht : lRel β t tr.toList) {v v' : Value} (hv : vRel β v v') (dst : Option Tmp) : lRel β (putT t dst v) (putA tr dst v').toList := by
  cases dst with
  | none => exact ht
  | some d =>
    simp only [putT, putA, Array.toList_setIfInBounds]
    exact ht.set hv d

theorem op_steps (H : Given P K W0 N0 G E rec) {q : Bool} {lim : Nat} {i : Nat} {o : Oper} {t : List Value} {tr : Array Value} {σ σ' τ : AS} {v : Value} (ho : ops[i]? = some o) (hr : op1 P E rec ops q lim o t σ = some (v, σ')) (hB : opB G o = true) {β : Inj} {w : World}
    (hw : σ.Wf) (hl : σ.Like τ) (hR : R K W0 N0 β τ w) (hf : Fresh β σ σ') (hG : GlobOk G β) (hs : Sees ops β o t tr) (b : Frame) (d : List Deferred) (rest : List Nat) (k : List Item) (cs : List Frame) :
    ∃ v' w', Post K W0 N0 β σ σ' τ v v' w' ∧ Steps P (lone (Fr b tr d (.inRegion ops (i :: rest) :: k)) cs w) (lone (Fr b (putA tr o.dst v') d (.inRegion ops rest :: k)) cs w') := by
  have hwt := hs.wanted
  unfold op1 at hr
  cases hq : Region.wanted o (yieldedL ops t) with
  | false =>
    rw [hq] at hr hwt
    simp only [cond_false, Option.some.injEq, Prod.mk.injEq] at hr
    obtain ⟨rfl, rfl⟩ := hr
    refine ⟨undef, w, ⟨β, τ, .refl _ _, .refl hl, hR, rel_undef⟩, .one ?_⟩
    have := st_unwanted (P := P) (b := b) (t := tr) (d := d) (k := k) (cs := cs) (w := w) (ops := ops) (i := i) (rest := rest) (by rw [ho]; simpa using hwt)
    rw [ho] at this
    exact this
  | true =>
    rw [hq, cond_true] at hr
    rw [hq] at hwt
    have hnd : ∀ c, o.op ≠ .defer c := by
      intro c hc
      simp only [operA, hc, generic, cond_false] at hr
      cases hr
    have hL := oper_lands H.zero H.ov H.good H.call H.round hr hB hw hl hR hf hG (hs.operands hG hB)
    have hg : stepG P true { frame := Fr b tr d (.inRegion ops (i :: rest) :: k), callers := cs, status := .running, dying := none } w =
        stepG.apply P true (Fr b tr d (.inRegion ops (i :: rest) :: k)) cs none (execOp (evA tr) o) w := by
      have he := Fr_eval b tr d (.inRegion ops (i :: rest) :: k)
      simp only [Fr] at he
      have h1 : ∀ r : Option Nat, (match r, o.op with
          | some l, .defer c => stepG.apply P true (Fr b tr d (.inRegion ops (i :: rest) :: k)) cs none (do Instr.deferInRound l (← resolve (evA tr) c o.type); pure .skip) w
          | _, _ => stepG.apply P true (Fr b tr d (.inRegion ops (i :: rest) :: k)) cs none (execOp (evA tr) o) w) = stepG.apply P true (Fr b tr d (.inRegion ops (i :: rest) :: k)) cs none (execOp (evA tr) o) w := by
        intro r
        split
        · rename_i hh; exact absurd hh (hnd _)
        · rfl
      rw [← h1 b.roundOf]
      simp only [stepG, stepG.exec, stepG.oper, Frame.oper?, Fr, ho, Option.map_some, Option.getD_some, hwt, if_true, he]
      cases b.roundOf with
      | none => rfl
      | some l => cases o.op <;> rfl
    obtain ⟨v', w', hp, hst⟩ := hL.steps (P := P) (fr0 := Fr b tr d (.inRegion ops (i :: rest) :: k)) (fr := Fr b tr d (.inRegion ops (i :: rest) :: k)) (cs := cs) (w0 := w) trivial (by rw [hg])
    rw [Fr_finish, ho] at hst
    exact ⟨v', w', hp, hst⟩

/-- Operations in the order of the text. -/
theorem seq_steps (H : Given P K W0 N0 G E rec) {q : Bool} {lim : Nat} : ∀ (l : List Oper) (is : List Nat) (t : List Value) (tr : Array Value) (σ σ' τ : AS) (t1 : List Value), is.length = l.length → (∀ (n : Nat) (i : Nat) (o : Oper), is[n]? = some i → l[n]? = some o → ops[i]? = some o) →
    opsA P E rec ops q lim l t σ = some (t1, σ') → (∀ o ∈ l, opB G o = true) → ∀ (β : Inj) (w : World), σ.Wf → σ.Like τ → R K W0 N0 β τ w → Fresh β σ σ' → GlobOk G β → lRel β t tr.toList → ∀ (b : Frame) (d : List Deferred) (k : List Item) (cs : List Frame),
    ∃ w' β' τ' tr', Ext β β' σ σ' ∧ σ'.Led τ τ' ∧ R K W0 N0 β' τ' w' ∧ lRel β' t1 tr'.toList ∧ Steps P (lone (Fr b tr d (.inRegion ops is :: k)) cs w) (lone (Fr b tr' d (.inRegion ops [] :: k)) cs w')
  | [], is, t, tr, σ, σ', τ, t1, hlen, _, hr, _, β, w, hw, hl, hR, _, _, ht, b, d, k, cs => by
    cases is with
    | cons _ _ => simp at hlen
    | nil =>
      simp only [opsA, Option.some.injEq, Prod.mk.injEq] at hr
      obtain ⟨rfl, rfl⟩ := hr
      exact ⟨w, β, τ, tr, .refl _ _, .refl hl, hR, ht, .refl _ _⟩
  | o :: l, is, t, tr, σ, σ', τ, t1, hlen, his, hr, hB, β, w, hw, hl, hR, hf, hG, ht, b, d, k, cs => by
    cases is with
    | nil => simp at hlen
    | cons i is =>
      rw [opsA_cons] at hr
      cases h1 : op1 P E rec ops q lim o t σ with
      | none => rw [h1] at hr; cases hr
      | some r =>
        obtain ⟨v, σ1⟩ := r
        rw [h1] at hr
        have k1 := ((good_op1 H.ovGood H.good) σ v σ1 h1 hw).1
        have k2 := ((good_ops H.ovGood H.good l (putT t o.dst v)) σ1 t1 σ' hr (k1.wf hw)).1
        obtain ⟨v', w1, ⟨β1, τ1, x1, l1, R1, hv⟩, s1⟩ := op_steps H (his 0 i o rfl rfl) h1 (hB o (by simp)) hw hl hR (hf.left k2.next) hG (fun d _ => ht.look d) b d is k cs
        obtain ⟨w2, β2, τ2, tr2, x2, l2, R2, ht2, s2⟩ := seq_steps H l is (putT t o.dst v) (putA tr o.dst v') σ1 σ' τ1 t1 (by simpa using hlen) (fun n i' o' h h' => his (n + 1) i' o' (by simpa using h) (by simpa using h'))
          hr (fun o' ho' => hB o' (by simp [ho'])) β1 w1 (k1.wf hw) l1.like R1 (hf.right x1 k1.next) (hG.mono x1.1) (lRel_putT (ht.mono x1.1) hv o.dst) b d k cs
        exact ⟨w2, β2, τ2, tr2, x1.trans x2 k1.next k2.next, l1.trans l2 k2.next, R2, ht2, s1.trans s2⟩

end Go.Va
