/-
  SIMULATION: code.
-/
import Derived.Test.YtakchekhpeokjaaDoorVaA23
namespace Go.Va
open Go.RowKit
variable {P : Program} {W0 : World} {N0 G : Nat} {E : Env} {rec : Rec}

/-- Where the machine is led by an exit. -/
def Lead : Ex → List Item → List Item → Prop
  | .normal, k, k' => k' = k
  | .ret, _, k' => ∃ pre, k' = .code .ret :: pre
  | .exit id, k, k' => ∃ pre, k' = .code (.exit id) :: pre ∧ exitTo id pre = exitTo id k
  | .goto l, k, k' => ∃ pre, k' = .code (.goto l) :: pre ∧ gotoIn l pre = gotoIn l k

/-- Code comes to its end. -/
def CodePost (P : Program) (G : Nat) (E : Env) (W0 : World) (N0 : Nat) (β : Inj) (σ σ' τ : AS) (w : World) (tr : Array Value) (dr : List Deferred) (b : Frame) (cs : List Frame) (start k : List Item) (e : Ex) (t1 : List Value) (ds1 : List Nat) : Prop :=
  ∃ w' β' τ' tr' dr' k', Ext β β' σ σ' ∧ σ'.Led τ τ' ∧ R (CodeK G E) W0 N0 β' τ' w' ∧ lRel β' t1 tr'.toList ∧ dRel β' ds1 dr' ∧ Lead e k k' ∧ Steps P (lone (Fr b tr dr start) cs w) (lone (Fr b tr' dr' k') cs w')

section
variable (P W0 N0 G E)
def CodeOk (rec : Rec) : Prop := ∀ lim x c t ds σ o σ', rec lim (.code x c t ds) σ = some (o, σ') → codeB G E x.fn c = true → ∀ β τ w (tr : Array Value) dr (b : Frame), σ.Wf → σ.Like τ → R (CodeK G E) W0 N0 β τ w → Fresh β σ σ' → GlobOk G β →
  lRel β t tr.toList → dRel β ds dr → b.fn = x.fn → rdRel β x.round b.roundOf → ∀ (it : Item), (it = .code c ∨ ∃ body, c = .loop body ∧ it = .inLoop body) → ∀ k cs,
  ∃ e t1 ds1, o = .done e t1 ds1 ∧ CodePost P G E W0 N0 β σ σ' τ w tr dr b cs (it :: k) k e t1 ds1
def ScopeOk (rec : Rec) : Prop := ∀ lim x body c t ds σ o σ', rec lim (.scope x body c t ds) σ = some (o, σ') → codeB G E x.fn body = true → codeB G E x.fn c = true → ∀ β τ w (tr : Array Value) dr (b : Frame), σ.Wf → σ.Like τ → R (CodeK G E) W0 N0 β τ w → Fresh β σ σ' → GlobOk G β →
  lRel β t tr.toList → dRel β ds dr → b.fn = x.fn → rdRel β x.round b.roundOf → ∀ k cs,
  ∃ e t1 ds1, o = .done e t1 ds1 ∧ CodePost P G E W0 N0 β σ σ' τ w tr dr b cs (.code c :: .inScope body :: k) k e t1 ds1
end

theorem CodePost.head {β : Inj} {σ σ' τ : AS} {w : World} {tr : Array Value} {dr : List Deferred} {b : Frame} {cs : List Frame} {start start' k : List Item} {e : Ex} {t1 : List Value} {ds1 : List Nat} (h : CodePost P G E W0 N0 β σ σ' τ w tr dr b cs start' k e t1 ds1)
    (s : Steps P (lone (Fr b tr dr start) cs w) (lone (Fr b tr dr start') cs w)) : CodePost P G E W0 N0 β σ σ' τ w tr dr b cs start k e t1 ds1 := by
  obtain ⟨w', β', τ', tr', dr', k', a1, a2, a3, a4, a5, a6, a7⟩ := h
  exact ⟨w', β', τ', tr', dr', k', a1, a2, a3, a4, a5, a6, s.trans a7⟩

theorem CodePost.tail {β β1 : Inj} {σ σ1 σ' τ τ1 : AS} {w w1 : World} {tr tr1 : Array Value} {dr dr1 : List Deferred} {b : Frame} {cs : List Frame} {start start' k : List Item} {e : Ex} {t1 : List Value} {ds1 : List Nat}
    (h : CodePost P G E W0 N0 β1 σ1 σ' τ1 w1 tr1 dr1 b cs start' k e t1 ds1) (x : Ext β β1 σ σ1) (l : σ1.Led τ τ1) (h1 : σ.next ≤ σ1.next) (h2 : σ1.next ≤ σ'.next)
    (s : Steps P (lone (Fr b tr dr start) cs w) (lone (Fr b tr1 dr1 start') cs w1)) : CodePost P G E W0 N0 β σ σ' τ w tr dr b cs start k e t1 ds1 := by
  obtain ⟨w', β', τ', tr', dr', k', a1, a2, a3, a4, a5, a6, a7⟩ := h
  exact ⟨w', β', τ', tr', dr', k', x.trans a1 h1 h2, l.trans a2 h2, a3, a4, a5, a6, s.trans a7⟩

/-- The end is at hand. -/
theorem CodePost.now {β : Inj} {σ τ : AS} {w : World} {tr : Array Value} {dr : List Deferred} {b : Frame} {cs : List Frame} {start k k' : List Item} {e : Ex} {t1 : List Value} {ds1 : List Nat} (hl : σ.Like τ) (hR : R (CodeK G E) W0 N0 β τ w)
    (ht : lRel β t1 tr.toList) (hd : dRel β ds1 dr) (hk : Lead e k k') (s : Steps P (lone (Fr b tr dr start) cs w) (lone (Fr b tr dr k') cs w)) : CodePost P G E W0 N0 β σ σ τ w tr dr b cs start k e t1 ds1 :=
  ⟨w, β, τ, tr, dr, k', .refl _ _, .refl hl, hR, ht, hd, hk, s⟩

/-- An end at 'k1' is led on to one at 'k'. -/
theorem CodePost.last {β : Inj} {σ σ' τ : AS} {w : World} {tr : Array Value} {dr : List Deferred} {b : Frame} {cs : List Frame} {start k k1 : List Item} {e e' : Ex} {t1 : List Value} {ds1 : List Nat} (h : CodePost P G E W0 N0 β σ σ' τ w tr dr b cs start k1 e t1 ds1)
    (s : ∀ (tr : Array Value) (dr : List Deferred) (w : World) k', Lead e k1 k' → ∃ k'', Lead e' k k'' ∧ Steps P (lone (Fr b tr dr k') cs w) (lone (Fr b tr dr k'') cs w)) : CodePost P G E W0 N0 β σ σ' τ w tr dr b cs start k e' t1 ds1 := by
  obtain ⟨w', β', τ', tr', dr', k', a1, a2, a3, a4, a5, a6, a7⟩ := h
  obtain ⟨k'', b1, b2⟩ := s tr' dr' w' k' a6
  exact ⟨w', β', τ', tr', dr', k'', a1, a2, a3, a4, a5, b1, a7.trans b2⟩

/-- An item that no exit looks at. -/
theorem Lead.drop {e : Ex} {it : Item} {k k' : List Item} (h1 : ∀ id, exitTo id (it :: k) = exitTo id k) (h2 : ∀ l, gotoIn l (it :: k) = gotoIn l k) (hn : e ≠ .normal) (h : Lead e (it :: k) k') : Lead e k k' := by
  cases e with
  | normal => exact absurd rfl hn
  | ret => exact h
  | exit id => obtain ⟨pre, h3, h4⟩ := h; exact ⟨pre, h3, h4.trans (h1 id)⟩
  | goto l => obtain ⟨pre, h3, h4⟩ := h; exact ⟨pre, h3, h4.trans (h2 l)⟩

theorem code_step (H : Given P (CodeK G E) W0 N0 G E rec) (hc : CodeOk P W0 N0 G E rec) (hs : ScopeOk P W0 N0 G E rec) : CodeOk P W0 N0 G E (fun lim k σ => stepA P E rec lim k σ) := by
  intro lim x c t ds σ o σ' hr hK β τ w tr dr b hw hl hR hf hG ht hd hb hrd it hit k cs
  cases c with
  | skip =>
    rcases hit with rfl | ⟨_, h, _⟩
    · simp only [stepA, Option.some.injEq, Prod.mk.injEq] at hr
      obtain ⟨rfl, rfl⟩ := hr
      exact ⟨_, _, _, rfl, .now hl hR ht hd rfl (.one st_skip)⟩
    · cases h
  | label l =>
    rcases hit with rfl | ⟨_, h, _⟩
    · simp only [stepA, Option.some.injEq, Prod.mk.injEq] at hr
      obtain ⟨rfl, rfl⟩ := hr
      exact ⟨_, _, _, rfl, .now hl hR ht hd rfl (.one st_label)⟩
    · cases h
  | exit id =>
    rcases hit with rfl | ⟨_, h, _⟩
    · simp only [stepA, Option.some.injEq, Prod.mk.injEq] at hr
      obtain ⟨rfl, rfl⟩ := hr
      exact ⟨_, _, _, rfl, .now hl hR ht hd ⟨k, rfl, rfl⟩ (.refl _ _)⟩
    · cases h
  | goto l =>
    rcases hit with rfl | ⟨_, h, _⟩
    · simp only [stepA, Option.some.injEq, Prod.mk.injEq] at hr
      obtain ⟨rfl, rfl⟩ := hr
      exact ⟨_, _, _, rfl, .now hl hR ht hd ⟨k, rfl, rfl⟩ (.refl _ _)⟩
    · cases h
  | ret =>
    rcases hit with rfl | ⟨_, h, _⟩
    · simp only [stepA, Option.some.injEq, Prod.mk.injEq] at hr
      obtain ⟨rfl, rfl⟩ := hr
      exact ⟨_, _, _, rfl, .now hl hR ht hd ⟨k, rfl⟩ (.refl _ _)⟩
    · cases h
  | refuse m => simp only [stepA] at hr; cases hr
  | scope body =>
    rcases hit with rfl | ⟨_, h, _⟩
    · simp only [stepA] at hr
      obtain ⟨e, t1, ds1, h1, h2⟩ := hs lim x body body t ds σ o σ' hr hK hK β τ w tr dr b hw hl hR hf hG ht hd hb hrd k cs
      exact ⟨e, t1, ds1, h1, h2.head (.one st_scope)⟩
    · cases h
  | cond c a a' =>
    rcases hit with rfl | ⟨_, h, _⟩
    · simp only [stepA] at hr
      simp only [codeB, Bool.and_eq_true] at hK
      split at hr
      · rename_i b' hb'
        have hv := ev_rel hG ht hK.1.1
        rw [hb'] at hv
        have hv' : evA tr c = .bool b' := by
          generalize evA tr c = u at hv
          cases hv; rfl
        obtain ⟨e, t1, ds1, h1, h2⟩ := hc lim x (bif b' then a else a') t ds σ o σ' hr (by cases b'; exact hK.2; exact hK.1.2) β τ w tr dr b hw hl hR hf hG ht hd hb hrd _ (.inl rfl) k cs
        exact ⟨e, t1, ds1, h1, h2.head (.one (st_cond hv'))⟩
      · cases hr
    · cases h
  | seq a c2 =>
    rcases hit with rfl | ⟨_, h, _⟩
    · simp only [stepA] at hr
      simp only [codeB, Bool.and_eq_true] at hK
      cases h1 : rec lim (.code x a t ds) σ with
      | none => rw [h1] at hr; cases hr
      | some r =>
        obtain ⟨o1, σ1⟩ := r
        have k1 := (H.good _ _ _ _ _ h1 hw).1
        by_cases hn : ∃ t1 ds1, o1 = .done .normal t1 ds1
        · obtain ⟨t1, ds1, rfl⟩ := hn
          rw [h1] at hr
          dsimp only at hr
          have k2 := (H.good _ _ _ _ _ hr (k1.wf hw)).1
          obtain ⟨e, t1', ds1', heq, w1, β1, τ1, tr1, dr1, k', x1, l1, R1, ht1, hd1, hk1, s1⟩ := hc lim x a t ds σ _ σ1 h1 hK.1 β τ w tr dr b hw hl hR (hf.left k2.next) hG ht hd hb hrd _ (.inl rfl) (.code c2 :: k) cs
          cases heq
          have hk1 : k' = .code c2 :: k := hk1
          subst hk1
          obtain ⟨e, t2, ds2, h2, h3⟩ := hc lim x c2 t1 ds1 σ1 o σ' hr hK.2 β1 τ1 w1 tr1 dr1 b (k1.wf hw) l1.like R1 (hf.right x1 k1.next) (hG.mono x1.1) ht1 hd1 hb (hrd.mono x1.1) _ (.inl rfl) k cs
          exact ⟨e, t2, ds2, h2, h3.tail x1 l1 k1.next k2.next (.head st_seq s1)⟩
        · have hr' : some (o1, σ1) = some (o, σ') := by
            rw [h1] at hr
            rcases o1 with ⟨e, t1, ds1⟩ | v
            · cases e <;> first | exact hr | exact absurd ⟨_, _, rfl⟩ hn
            · exact hr
          cases hr'
          obtain ⟨e, t1, ds1, heq, h3⟩ := hc lim x a t ds σ o σ' h1 hK.1 β τ w tr dr b hw hl hR hf hG ht hd hb hrd _ (.inl rfl) (.code c2 :: k) cs
          subst heq
          have hne : e ≠ .normal := fun h => hn ⟨t1, ds1, by rw [h]⟩
          exact ⟨e, t1, ds1, rfl, (h3.last fun _ _ _ k' hk => ⟨k', hk.drop (fun _ => rfl) (fun _ => rfl) hne, .refl _ _⟩).head (.one st_seq)⟩
    · cases h
  | block id body =>
    rcases hit with rfl | ⟨_, h, _⟩
    · simp only [stepA] at hr
      cases h1 : rec lim (.code x body t ds) σ with
      | none => rw [h1] at hr; cases hr
      | some r =>
        obtain ⟨o1, σ1⟩ := r
        have hσ : σ1 = σ' := by
          rw [h1] at hr
          rcases o1 with ⟨e, t1, ds1⟩ | v
          · cases e <;> (cases hr; rfl)
          · cases hr; rfl
        subst hσ
        obtain ⟨e, t1, ds1, heq, h3⟩ := hc lim x body t ds σ o1 σ1 h1 hK β τ w tr dr b hw hl hR hf hG ht hd hb hrd _ (.inl rfl) (.inBlock id :: k) cs
        subst heq
        rw [h1] at hr
        refine ⟨_, t1, ds1, ?_, (h3.last (e' := match e with | .exit id' => bif Nat.beq id' id then .normal else .exit id' | e => e) fun tr dr w k' hk => ?_).head (.one st_block)⟩
        · cases e <;> (cases hr; rfl)
        · cases e with
          | normal => exact ⟨k, rfl, by rw [show k' = .inBlock id :: k from hk]; exact .one st_inBlock⟩
          | ret => exact ⟨k', hk, .refl _ _⟩
          | goto l => obtain ⟨pre, h4, h5⟩ := hk; exact ⟨k', ⟨pre, h4, h5⟩, .refl _ _⟩
          | exit id' =>
            obtain ⟨pre, rfl, h5⟩ := hk
            dsimp only
            simp only [exitTo] at h5
            cases hbe : Nat.beq id' id with
            | true =>
              have : id' = id := Nat.eq_of_beq_eq_true hbe
              subst this
              rw [if_pos (by simp)] at h5
              exact ⟨k, rfl, .one (st_exit h5)⟩
            | false =>
              have : id' ≠ id := Nat.ne_of_beq_eq_false hbe
              rw [if_neg (by simp; omega)] at h5
              exact ⟨_, ⟨pre, rfl, h5⟩, .refl _ _⟩
    · cases h
  | loop body =>
    have hst : Steps P (lone (Fr b tr dr (it :: k)) cs w) (lone (Fr b tr dr (.code body :: .inLoop body :: k)) cs w) := by
      rcases hit with rfl | ⟨_, h, rfl⟩
      · exact .one st_loop
      · cases h; exact .one st_inLoop
    simp only [stepA] at hr
    have hKb : codeB G E x.fn body = true := hK
    cases h1 : rec lim (.code x body t ds) σ with
    | none => rw [h1] at hr; cases hr
    | some r =>
      obtain ⟨o1, σ1⟩ := r
      have k1 := (H.good _ _ _ _ _ h1 hw).1
      by_cases hn : ∃ t1 ds1, o1 = .done .normal t1 ds1
      · obtain ⟨t1, ds1, rfl⟩ := hn
        rw [h1] at hr
        dsimp only at hr
        have k2 := (H.good _ _ _ _ _ hr (k1.wf hw)).1
        obtain ⟨e, t1', ds1', heq, w1, β1, τ1, tr1, dr1, k', x1, l1, R1, ht1, hd1, hk1, s1⟩ := hc lim x body t ds σ _ σ1 h1 hKb β τ w tr dr b hw hl hR (hf.left k2.next) hG ht hd hb hrd _ (.inl rfl) (.inLoop body :: k) cs
        cases heq
        have hk1 : k' = .inLoop body :: k := hk1
        subst hk1
        obtain ⟨e, t2, ds2, h2, h3⟩ := hc lim x (.loop body) t1 ds1 σ1 o σ' hr hK β1 τ1 w1 tr1 dr1 b (k1.wf hw) l1.like R1 (hf.right x1 k1.next) (hG.mono x1.1) ht1 hd1 hb (hrd.mono x1.1) (.inLoop body) (.inr ⟨body, rfl, rfl⟩) k cs
        exact ⟨e, t2, ds2, h2, h3.tail x1 l1 k1.next k2.next (hst.trans s1)⟩
      · have hr' : some (o1, σ1) = some (o, σ') := by
          rw [h1] at hr
          rcases o1 with ⟨e, t1, ds1⟩ | v
          · cases e <;> first | exact hr | exact absurd ⟨_, _, rfl⟩ hn
          · exact hr
        cases hr'
        obtain ⟨e, t1, ds1, heq, h3⟩ := hc lim x body t ds σ o σ' h1 hKb β τ w tr dr b hw hl hR hf hG ht hd hb hrd _ (.inl rfl) (.inLoop body :: k) cs
        subst heq
        have hne : e ≠ .normal := fun h => hn ⟨t1, ds1, by rw [h]⟩
        exact ⟨e, t1, ds1, rfl, (h3.last fun _ _ _ k' hk => ⟨k', hk.drop (fun _ => rfl) (fun _ => rfl) hne, .refl _ _⟩).head hst⟩
  | region id ops draw =>
    rcases hit with rfl | ⟨_, h, _⟩
    · simp only [stepA] at hr
      simp only [codeB, Bool.and_eq_true, List.all_eq_true] at hK
      have hB : ∀ (j : Nat) (o : Oper), ops[j]? = some o → opB G o = true := fun j o ho => hK.1 o (by
        rw [← Array.getElem?_toList] at ho
        exact List.mem_of_getElem? ho)
      cases draw with
      | false =>
        rw [cond_false] at hr
        cases h1 : opsA P E rec ops false lim ops.toList t σ with
        | none => rw [h1] at hr; cases hr
        | some r =>
          obtain ⟨t1, σ1⟩ := r
          rw [h1] at hr
          simp only [Option.some.injEq, Prod.mk.injEq] at hr
          obtain ⟨rfl, rfl⟩ := hr
          obtain ⟨w', β', τ', tr', x1, l1, R1, ht1, s1⟩ := seq_steps H ops.toList (List.range ops.size) t tr σ σ1 τ t1 (by simp) (fun n i o hn ho => by
            have hlt : n < ops.size := by
              have := (List.getElem?_eq_some_iff.1 hn).1; simpa using this
            rw [List.getElem?_range hlt] at hn
            simp only [Option.some.injEq] at hn
            subst hn
            rw [Array.getElem?_toList] at ho; exact ho) h1 (fun o ho => hK.1 o ho) β w hw hl hR hf hG ht b dr k cs
          exact ⟨.normal, t1, ds, rfl, w', β', τ', tr', dr, k, x1, l1, R1, ht1, hd.mono x1.1, rfl, .head st_region (s1.trans (.one st_region_end))⟩
      | true =>
        rw [cond_true] at hr
        have hK2 := hK.2
        rw [cond_true] at hK2
        split at hr
        · rename_i pl hn
          rw [hn] at hK2
          have hK2 : planAll ops pl = true := hK2
          cases h1 : opsI P E rec ops lim pl.l t σ with
          | none => rw [h1] at hr; cases hr
          | some r =>
            obtain ⟨t2, σ2⟩ := r
            rw [h1] at hr
            simp only [Option.some.injEq, Prod.mk.injEq] at hr
            obtain ⟨rfl, rfl⟩ := hr
            have fin : ∀ md tape l gs, planB md ops l gs = true → opsI P E rec ops lim l t σ = some (t2, σ2) → Region.schedule (P.follows .mixedOrders) ops (w.tape w.drawn (.order b.fn id)) = Region.linearise md ops tape →
                ∃ e t1 ds1, Out.done .normal t2 ds = .done e t1 ds1 ∧ CodePost P G E W0 N0 β σ σ2 τ w tr dr b cs (.code (.region id ops true) :: k) k e t1 ds1 := by
              intro md tape l gs hd1 hrun hsch
              obtain ⟨w', β', τ', tr', x1, l1, R1, ht1, s1⟩ := plan_run H hd1 hB hrun hw hl (hR.drawn (w.drawn + 1)) hf hG ht tape b dr k cs
              refine ⟨.normal, t2, ds, rfl, w', β', τ', tr', dr, k, x1, l1, R1, ht1, hd.mono x1.1, rfl, .head st_region_draw ?_⟩
              rw [hsch]
              exact s1.trans (.one st_region_end)
            exact fin .any (w.tape w.drawn (.order b.fn id)) pl.l pl.gs hK2 h1 (by simp [Region.schedule, H.mixed])
        · cases hr
    · cases h
  | rangeFunc f params assign body =>
    rcases hit with rfl | ⟨_, h, _⟩
    · simp only [stepA] at hr
      simp only [codeB, Bool.and_eq_true] at hK
      unfold rangeA at hr
      split at hr
      case h_2 => cases hr
      rename_i l mark σ1 h1
      split at hr
      case h_2 => cases hr
      rename_i m hm
      split at hr
      case h_2 => cases hr
      rename_i v2 σ2 h2
      have k1 := kept_runA h1 hw
      have k2 := ((good_apply H.ovGood H.good) σ1 v2 σ2 h2 (k1.wf hw)).1
      obtain ⟨j, σ3, h3, rfl, he⟩ : ∃ j σ3, runA P lim (Instr.endLoop l) σ2 = some (j, σ3) ∧ σ3 = σ' ∧ ((j = none ∧ o = .done .normal t (m ++ ds)) ∨ (j = some .ret ∧ o = .done .ret t (m ++ ds)) ∨ (∃ id, j = some (.exit id) ∧ o = .done (.exit id) t (m ++ ds)) ∨ (∃ g, j = some (.goto g) ∧ o = .done (.goto g) t (m ++ ds))) := by
        unfold rangeEnd at hr
        split at hr
        · rename_i h3; cases hr; exact ⟨_, _, h3, rfl, .inl ⟨rfl, rfl⟩⟩
        · rename_i h3; cases hr; exact ⟨_, _, h3, rfl, .inr (.inl ⟨rfl, rfl⟩)⟩
        · rename_i h3; cases hr; exact ⟨_, _, h3, rfl, .inr (.inr (.inl ⟨_, rfl, rfl⟩))⟩
        · rename_i h3; cases hr; exact ⟨_, _, h3, rfl, .inr (.inr (.inr ⟨_, rfl, rfl⟩))⟩
        · cases hr
      have k3 := kept_runA h3 (k2.wf (k1.wf hw))
      have n1 := k1.next
      have n2 := k2.next
      have n3 := k3.next
      obtain ⟨r', w1, β1, τ1, er, x1, l1, R1, e, hβe, he0, hl', hdm⟩ := (sim_enterLoop (P := P) (K := CodeK G E) (W0 := W0) (N0 := N0) (fn := x.fn) (t := t.toArray) (t' := tr) (arrRel_iff.2 (by simpa using ht)) (params := params) (assign := assign) (body := body) hK.1.2 hK.2 hrd).at hw hl hR h1 (fun i h h' => hf i h (by omega))
      obtain ⟨l', mark'⟩ := r'
      have hl' : l' = e.b := hl'
      subst hl'
      have hL := apply_lands H.ov H.good H.call H.round h2 (f' := evA tr f) (args' := #[.func (.yield e.b) #[] #[]]) (k1.wf hw) l1.like R1 (fun i h h' => (hf.right x1 n1) i h (by omega)) (hG.mono x1.1) ((ev_rel hG ht hK.1.1).mono x1.1)
        ⟨.func ⟨e, hβe, he0, rfl⟩ rfl (fun i h => by simp at h) rfl (fun i h => by simp at h), trivial⟩
      have hmode : (stepG P true { frame := Fr b tr dr (.code (.rangeFunc f params assign body) :: k), callers := cs, status := .running, dying := none } w).bare =
          (stepG.apply P true (Fr b tr (mark' ++ dr) (.inRangeFunc e.b :: k)) cs none (do let d ← Deferred.ofValue (evA tr f) #[.func (.yield e.b) #[] #[]]; invoke d.target d.args) w1).bare := by
        have hev := Fr_eval b tr (mark' ++ dr) (.inRangeFunc e.b :: k)
        simp only [Fr] at hev
        have er2 : (Instr.enterLoop b.fn tr params assign body b.roundOf).run P w = .ok (e.b, mark') w1 := by rw [hb]; exact er
        have ea : #[Operand.const (.func (.yield e.b) #[] #[])].map (evA tr) = #[.func (.yield e.b) #[] #[]] := by simp [evA]
        simp only [stepG, stepG.exec, Fr, Sem.runT_eq, er2, GStep.bare_after, hev, resolve, ea]
      obtain ⟨v', w2, ⟨β2, τ2, x2, l2, R2, hv⟩, s2⟩ := hL.steps (fr0 := Fr b tr dr (.code (.rangeFunc f params assign body) :: k)) (fr := Fr b tr (mark' ++ dr) (.inRangeFunc e.b :: k)) (cs := cs) (w0 := w) trivial hmode
      have hfin : (Fr b tr (mark' ++ dr) (.inRangeFunc e.b :: k)).finish v' = Fr b tr (mark' ++ dr) (.endRangeFunc e.b :: k) := rfl
      rw [hfin] at s2
      have x12 := x1.trans x2 n1 n2
      obtain ⟨j', w3, β3, τ3, er3, x3, l3, R3, hb3, hj⟩ := (sim_endLoop (P := P) (K := CodeK G E) (W0 := W0) (N0 := N0) (l := l) (e := e) (x2.1 _ _ hβe)).at (k2.wf (k1.wf hw)) l2.like R2 h3 (fun i h h' => (hf.right x12 (by omega)) i h h')
      have x13 := x12.trans x3 (by omega) n3
      have l13 := (l1.trans l2 n2).trans l3 n3
      subst hj
      have ht3 : lRel β3 t tr.toList := ht.mono x13.1
      have hd3 : dRel β3 (m ++ ds) (mark' ++ dr) := ((hdm m hm).mono (x2.1.trans x3.1)).append (hd.mono x13.1)
      have s3 := s2.trans (.one (st_endRange (P := P) (b := b) (t := tr) (d := mark' ++ dr) (k := k) (cs := cs) er3))
      rcases he with ⟨rfl, rfl⟩ | ⟨rfl, rfl⟩ | ⟨id, rfl, rfl⟩ | ⟨g, rfl, rfl⟩
      · exact ⟨_, _, _, rfl, w3, β3, τ3, tr, mark' ++ dr, k, x13, l13, R3, ht3, hd3, rfl, s3⟩
      · exact ⟨_, _, _, rfl, w3, β3, τ3, tr, mark' ++ dr, _, x13, l13, R3, ht3, hd3, ⟨k, rfl⟩, s3⟩
      · exact ⟨_, _, _, rfl, w3, β3, τ3, tr, mark' ++ dr, _, x13, l13, R3, ht3, hd3, ⟨k, rfl, rfl⟩, s3⟩
      · exact ⟨_, _, _, rfl, w3, β3, τ3, tr, mark' ++ dr, _, x13, l13, R3, ht3, hd3, ⟨k, rfl, rfl⟩, s3⟩
    · cases h

theorem scope_step (H : Given P (CodeK G E) W0 N0 G E rec) (hc : CodeOk P W0 N0 G E rec) (hs : ScopeOk P W0 N0 G E rec) : ScopeOk P W0 N0 G E (fun lim k σ => stepA P E rec lim k σ) := by
  intro lim x body c t ds σ o σ' hr hKb hK β τ w tr dr b hw hl hR hf hG ht hd hb hrd k cs
  simp only [stepA] at hr
  cases h1 : rec lim (.code x c t ds) σ with
  | none => rw [h1] at hr; cases hr
  | some r =>
    obtain ⟨o1, σ1⟩ := r
    have k1 := (H.good _ _ _ _ _ h1 hw).1
    rw [h1] at hr
    by_cases hn : ∃ l t1 ds1 rest, o1 = .done (.goto l) t1 ds1 ∧ findLabel body l = some rest
    · obtain ⟨l, t1, ds1, rest, rfl, hfl⟩ := hn
      dsimp only at hr
      rw [hfl] at hr
      dsimp only at hr
      have k2 := (H.good _ _ _ _ _ hr (k1.wf hw)).1
      obtain ⟨e, t1', ds1', heq, w1, β1, τ1, tr1, dr1, k', x1, l1, R1, ht1, hd1, hk1, s1⟩ := hc lim x c t ds σ _ σ1 h1 hK β τ w tr dr b hw hl hR (hf.left k2.next) hG ht hd hb hrd _ (.inl rfl) (.inScope body :: k) cs
      cases heq
      obtain ⟨pre, rfl, hg⟩ := hk1
      simp only [gotoIn, hfl] at hg
      obtain ⟨e, t2, ds2, h2, h3⟩ := hs lim x body rest t1 ds1 σ1 o σ' hr hKb (codeB_find body hKb hfl) β1 τ1 w1 tr1 dr1 b (k1.wf hw) l1.like R1 (hf.right x1 k1.next) (hG.mono x1.1) ht1 hd1 hb (hrd.mono x1.1) k cs
      exact ⟨e, t2, ds2, h2, h3.tail x1 l1 k1.next k2.next (s1.trans (.one (st_goto hg)))⟩
    · have hr' : some (o1, σ1) = some (o, σ') := by
        rcases o1 with ⟨e, t1, ds1⟩ | v
        · cases e with
          | goto l =>
            dsimp only at hr
            cases hfl : findLabel body l with
            | none => rw [hfl] at hr; exact hr
            | some rest => exact absurd ⟨l, t1, ds1, rest, rfl, hfl⟩ hn
          | _ => exact hr
        · exact hr
      cases hr'
      obtain ⟨e, t1, ds1, heq, h3⟩ := hc lim x c t ds σ o σ' h1 hK β τ w tr dr b hw hl hR hf hG ht hd hb hrd _ (.inl rfl) (.inScope body :: k) cs
      subst heq
      refine ⟨e, t1, ds1, rfl, h3.last fun tr dr w k' hk => ?_⟩
      cases e with
      | normal => exact ⟨k, rfl, by rw [show k' = .inScope body :: k from hk]; exact .one st_inScope⟩
      | ret => exact ⟨k', hk, .refl _ _⟩
      | exit id => obtain ⟨pre, h4, h5⟩ := hk; exact ⟨k', ⟨pre, h4, h5⟩, .refl _ _⟩
      | goto l =>
        obtain ⟨pre, h4, h5⟩ := hk
        refine ⟨k', ⟨pre, h4, ?_⟩, .refl _ _⟩
        rw [h5]
        have : findLabel body l = none := by
          cases hfl : findLabel body l with
          | none => rfl
          | some rest => exact absurd ⟨l, t1, ds1, rest, rfl, hfl⟩ hn
        simp only [gotoIn, this]

theorem call_step (hFn : FnOk P G E) (H : Given P (CodeK G E) W0 N0 G E rec) (hc : CodeOk P W0 N0 G E rec) : CallOk P (CodeK G E) W0 N0 G (fun lim k σ => stepA P E rec lim k σ) := by
  intro lim f args σ v σ' hr β τ w args' hw hl hR hf hG ha
  simp only [stepA] at hr
  cases hok : E.ok f with
  | false => rw [hok] at hr; cases hr
  | true =>
  rw [hok, cond_true] at hr
  split at hr
  case h_2 => cases hr
  rename_i fn hfn
  split at hr
  case h_2 => cases hr
  rename_i c hbody
  split at hr
  case h_2 => cases hr
  rename_i e t1 ds1 σ1 h1
  have hr2 : (e = .normal ∨ e = .ret) ∧ ∃ σ2, takeA P lim ds1 σ1 = some σ2 ∧ runA P lim (results fn t1.toArray) σ2 = some (v, σ') := by
    cases e <;> first | cases hr | skip
    all_goals
      dsimp only at hr
      split at hr
      · rename_i σ2 h2
        split at hr
        · rename_i u σ3 h3
          simp only [Option.some.injEq, Prod.mk.injEq, Out.val.injEq] at hr
          obtain ⟨rfl, rfl⟩ := hr
          exact ⟨by simp, σ2, h2, h3⟩
        · cases hr
      · cases hr
  obtain ⟨he, σ2, h2, h3⟩ := hr2
  obtain ⟨hcode, hname⟩ := hFn f fn c hok hfn hbody
  have hcall : (callFunc f args').run P w = .ok (.enter f args') w := by
    unfold callFunc
    rw [run_bind']
    show (match P.funcs[f]? with | none => _ | some fn => _ : Sem Next).run P w = _
    rw [hfn]
    simp only [hname, Bool.false_eq_true, if_false, hbody, Option.isNone_some]
    rfl
  have k1 := (H.good _ _ _ _ _ h1 hw).1
  have k3' := kept_runA (P := P) h3
  refine .enter hcall fun cs => ?_
  have hlen : args'.size = args.length := by have := ha.length; simpa using this.symm
  have htm : lRel β (args ++ List.replicate (fn.ntmps - args.length) undef) (args' ++ Array.replicate (fn.ntmps - args'.size) undef).toList := by
    rw [Array.toList_append, Array.toList_replicate, hlen]
    exact ha.append (.replicate rel_undef _)
  have hent : Frame.enter P f args' .normal = Fr (Frame.enter P f args' .normal) (args' ++ Array.replicate (fn.ntmps - args'.size) undef) [] [.code c] := by
    simp only [Frame.enter, Fr, hfn, hbody, Option.map_some, Option.getD_some, Option.bind_some]
  have n1 := k1.next
  have hw1 := k1.wf hw
  obtain ⟨k2, hn2⟩ := kept_take ds1 h2 hw1
  have hw2 := k2.wf hw1
  have k3 := kept_runA h3 hw2
  have n3 := k3.next
  obtain ⟨e', t1', ds1', heq, w1, β1, τ1, tr1, dr1, k', x1, l1, R1, ht1, hd1, hk1, s1⟩ := hc lim ⟨f, none⟩ c _ [] σ _ σ1 h1 hcode β τ w _ [] (Frame.enter P f args' .normal) hw hl hR (fun i h h' => hf i h (by omega)) hG htm trivial rfl trivial _ (.inl rfl) [] cs
  cases heq
  rw [← hent] at s1
  have hleave : Steps P (lone (Fr (Frame.enter P f args' .normal) tr1 dr1 k') cs w1) (lone { Fr (Frame.enter P f args' .normal) tr1 dr1 k' with mode := .returning } cs w1) := by
    rcases he with rfl | rfl
    · have : k' = [] := hk1
      subst this
      exact .one (st_leave rfl)
    · obtain ⟨pre, rfl⟩ := hk1
      exact .one (st_ret rfl)
  obtain ⟨w2, τ2, l2, R2, _, _, s2⟩ := takes (cs := cs) ds1 dr1 σ1 σ2 τ1 β1 w1 { Fr (Frame.enter P f args' .normal) tr1 dr1 k' with mode := .returning } h2 hd1 hw1 l1.like R1 rfl rfl
  obtain ⟨v', w3, β3, τ3, er, x3, l3, R3, hb3, hv⟩ := (sim_results (P := P) (K := CodeK G E) (W0 := W0) (N0 := N0) (fn := fn) (t := t1.toArray) (t' := tr1) (arrRel_iff.2 (by simpa using ht1))).at hw2 l2.like R2 h3 (fun i h h' => (hf.right x1 n1) i (by omega) h')
  have hww : w3 = w2 := RO.results fn tr1 w2 v' w3 er
  subst hww
  subst hb3
  refine ⟨.returned v', w3, _, ⟨v', rfl, β3, τ3, ?_, ?_, R3, hv⟩, s1.trans (hleave.trans s2), rfl, ⟨rfl, rfl, rfl, fn, hfn, er⟩⟩
  · refine ⟨x1.1, fun i en hen => ?_⟩
    rcases x1.2 i en hen with h4 | h4
    · exact .inl h4
    · exact .inr (by omega)
  · exact (l1.trans l2 (by omega)).trans l3 n3

theorem round_step (H : Given P (CodeK G E) W0 N0 G E rec) (hc : CodeOk P W0 N0 G E rec) : RoundOk P (CodeK G E) W0 N0 G (fun lim k σ => stepA P E rec lim k σ) := by
  intro lim l f t a body σ v σ' hr β τ w tr e hw hl hR hf hG he he0 ht hKa hKb c cs
  simp only [stepA] at hr
  split at hr
  case h_2 => cases hr
  rename_i t1 σ1 h1
  split at hr
  case h_2 => cases hr
  rename_i u σ2 h2
  split at hr
  case h_2 => cases hr
  rename_i e3 t3 σ3 h3
  split at hr
  case h_2 => cases hr
  rename_i v4 σ4 h4
  simp only [Option.some.injEq, Prod.mk.injEq, Out.val.injEq] at hr
  obtain ⟨rfl, rfl⟩ := hr
  have k1 := (H.good _ _ _ _ _ h1 hw).1
  have hw1 := k1.wf hw
  have k2 := kept_runA h2 hw1
  have hw2 := k2.wf hw1
  have k3 := (H.good _ _ _ _ _ h3 hw2).1
  have hw3 := k3.wf hw2
  have k4 := kept_runA h4 hw3
  have n1 := k1.next
  have n2 := k2.next
  have n3 := k3.next
  have n4 := k4.next
  have hstart : Frame.round e.b f tr a body .normal = Fr (Frame.round e.b f tr a body .normal) tr [] [.code a, .beginRound, .code body] := rfl
  obtain ⟨e', t1', ds1', heq, w1, β1, τ1, tr1, dr1, k', x1, l1, R1, ht1, hd1, hk1, s1⟩ := hc lim ⟨f, some l⟩ a t [] σ _ σ1 h1 hKa β τ w tr [] (Frame.round e.b f tr a body .normal) hw hl hR (fun i h h' => hf i h (by omega)) hG ht trivial rfl ⟨e, he, he0, rfl⟩ _ (.inl rfl) [.beginRound, .code body] (c :: cs)
  cases heq
  have hk1 : k' = [.beginRound, .code body] := hk1
  subst hk1
  have hdr1 : dr1 = [] := by
    cases dr1 with
    | nil => rfl
    | cons _ _ => exact hd1.elim
  subst hdr1
  obtain ⟨u', w2, β2, τ2, er2, x2, l2, R2, hb2⟩ := (sim_beginRound (P := P) (K := CodeK G E) (W0 := W0) (N0 := N0) (l := l) (e := e) (x1.1 _ _ he)).at hw1 l1.like R1 h2 (fun i h h' => (hf.right x1 n1) i h (by omega))
  subst hb2
  have x12 := x1.trans x2 n1 n2
  obtain ⟨e', t3', ds3', heq, w3, β3, τ3, tr3, dr3, k', x3, l3, R3, ht3, hd3, hk3, s3⟩ := hc lim ⟨f, some l⟩ body t1 [] σ2 _ σ3 h3 hKb β2 τ2 w2 tr1 [] (Frame.round e.b f tr a body .normal) hw2 l2.like R2 (fun i h h' => (hf.right x12 (by omega)) i h (by omega)) (hG.mono x12.1) ht1 trivial rfl ⟨e, x12.1 _ _ he, he0, rfl⟩ _ (.inl rfl) [] (c :: cs)
  cases heq
  have x13 := x12.trans x3 (by omega) n3
  obtain ⟨v', w4, β4, τ4, er4, x4, l4, R4, hb4, hv⟩ := (sim_endRound (P := P) (K := CodeK G E) (W0 := W0) (N0 := N0) (l := l) (e := e) (x13.1 _ _ he) _).at hw3 l3.like R3 h4 (fun i h h' => (hf.right x13 (by omega)) i h h')
  subst hb4
  refine ⟨v', w4, ⟨β4, τ4, x13.trans x4 (by omega) n4, ((l1.trans l2 n2).trans l3 n3).trans l4 n4, R4, hv⟩, ?_⟩
  rw [hstart]
  refine s1.trans (.head (st_beginRound (l := e.b) rfl er2) (s3.trans ?_))
  cases e3 with
  | normal =>
    have : k' = [] := hk3
    subst this
    exact .one (st_endRound rfl rfl er4)
  | ret =>
    obtain ⟨pre, rfl⟩ := hk3
    exact .one (st_endRoundRet rfl rfl er4)
  | exit id =>
    obtain ⟨pre, rfl, hp⟩ := hk3
    exact .one (st_endRoundExit (hp.trans rfl) rfl rfl er4)
  | goto g =>
    obtain ⟨pre, rfl, hp⟩ := hk3
    exact .one (st_endRoundGoto (hp.trans rfl) rfl rfl er4)

/-- What holds of every run of the interpreter. -/
theorem sound (hZ : ZeroOk P) (hM : P.follows .mixedOrders = true) (hG : OvGood E) (hO : OvOk P (CodeK G E) W0 N0 G E) (hFn : FnOk P G E) :
    ∀ n, CallOk P (CodeK G E) W0 N0 G (run P E n) ∧ RoundOk P (CodeK G E) W0 N0 G (run P E n) ∧ CodeOk P W0 N0 G E (run P E n) ∧ ScopeOk P W0 N0 G E (run P E n) := by
  intro n
  induction n with
  | zero =>
    refine ⟨?_, ?_, ?_, ?_⟩
    · intro lim f args σ v σ' h; cases h
    · intro lim l f t a body σ v σ' h; cases h
    · intro lim x c t ds σ o σ' h; cases h
    · intro lim x body c t ds σ o σ' h; cases h
  | succ n ih =>
    obtain ⟨h1, h2, h3, h4⟩ := ih
    have H : Given P (CodeK G E) W0 N0 G E (run P E n) := ⟨hZ, hM, hG, hO, good_run hG n, h1, h2⟩
    exact ⟨call_step hFn H h3, round_step H h3, code_step H h3 h4, scope_step H h3 h4⟩

end Go.Va
