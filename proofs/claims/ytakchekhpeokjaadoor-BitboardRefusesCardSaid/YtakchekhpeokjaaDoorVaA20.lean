/-
  SIMULATION: an operation of a region, calls among them.
-/
import Derived.Test.YtakchekhpeokjaaDoorVaA19
namespace Go.Va
open Go.RowKit
variable {P : Program} {K : FuncId → Code → Prop} {W0 : World} {N0 G : Nat}

/-- The globals lie where they lie. -/
def GlobOk (G : Nat) (β : Inj) : Prop := ∀ g, g < G → β g = some ⟨g, 0, none⟩
theorem GlobOk.mono {β β' : Inj} (hb : β.le β') (h : GlobOk G β) : GlobOk G β' := fun g hg => hb _ _ (h g hg)

def okO (G : Nat) : Operand → Bool
  | .const v => plainB 100 v
  | .global g => Nat.blt g G
  | _ => true

def opB (G : Nat) (o : Oper) : Bool :=
  o.op.operands.toList.all (okO G) && (match o.op with
    | .makeFunc (.yield _) _ _ | .select .. => false
    | _ => true)

theorem rel_undef {β : Inj} : vRel β undef undef := plain_rel 2 undef rfl

theorem ev_rel {β : Inj} (hG : GlobOk G β) {t : List Value} {tr : Array Value} (ht : lRel β t tr.toList) {x : Operand} (hx : okO G x = true) : vRel β (ev t x) (evA tr x) := by
  cases x with
  | tmp i =>
    simp only [ev, evA]
    cases h : t[i]? with
    | none =>
      have h' := ht.none i h
      rw [Array.getElem?_toList] at h'
      rw [List.getD_eq_getElem?_getD, h, Array.getD_eq_getD_getElem?, h']
      exact rel_undef
    | some v =>
      obtain ⟨v', h', hv⟩ := ht.getElem? i h
      rw [Array.getElem?_toList] at h'
      rw [List.getD_eq_getElem?_getD, h, Array.getD_eq_getD_getElem?, h']
      exact hv
  | const v => exact plain_rel 100 v hx
  | global g =>
    simp only [okO] at hx
    exact .ptr ⟨rfl, _, hG g (by rw [Nat.blt_eq] at hx; exact hx), by simp⟩
  | func f => exact .func rfl rfl (fun i h => by simp at h) rfl (fun i h => by simp at h)

/-- What a step must come to. 'σ', 'σ'': the run of the interpreter; 'τ': a heap that is like the first, in which more may lie. -/
def Post (K : FuncId → Code → Prop) (W0 : World) (N0 : Nat) (β : Inj) (σ σ' τ : AS) (v : Value) (v' : Value) (w' : World) : Prop :=
  ∃ β' τ', Ext β β' σ σ' ∧ σ'.Led τ τ' ∧ R K W0 N0 β' τ' w' ∧ vRel β' v v'

theorem Post.trans {β β1 : Inj} {σ σ1 σ' τ τ1 : AS} {v v' : Value} {w' : World} (h : Post K W0 N0 β1 σ1 σ' τ1 v v' w') (x : Ext β β1 σ σ1) (hl : σ1.Led τ τ1) (h1 : σ.next ≤ σ1.next) (h2 : σ1.next ≤ σ'.next) : Post K W0 N0 β σ σ' τ v v' w' := by
  obtain ⟨β', τ', x1, l1, r, hv⟩ := h
  exact ⟨β', τ', x.trans x1 h1 h2, hl.trans l1 h2, r, hv⟩

theorem Fresh.like {β : Inj} {σ σ' τ τ' : AS} (h : Fresh β σ σ') (hl : σ.Like τ) (hl' : σ'.Led τ τ') : Fresh β τ τ' := fun i h1 h2 => h i (by have := hl.1; omega) (by have := hl'.next; omega)
theorem Ext.like {β β' : Inj} {σ σ' τ τ' : AS} (h : Ext β β' τ τ') (hl : σ.Like τ) (hl' : σ'.Led τ τ') : Ext β β' σ σ' := ⟨h.1, fun i e he => by
  have h1 := hl.1
  have h2 := hl'.next
  rcases h.2 i e he with h3 | h3
  · exact .inl h3
  · exact .inr (by omega)⟩

theorem Sim.at {α α' : Type} {β : Inj} {s : Sem α} {s' : Sem α'} {A : Inj → α → α' → Prop} (h : Sim P K W0 N0 β s s' A) {lim : Nat} {σ σ' τ : AS} {v : α} {w : World} (hw : σ.Wf) (hl : σ.Like τ) (hR : R K W0 N0 β τ w)
    (hr : runA P lim s σ = some (v, σ')) (hf : Fresh β σ σ') : ∃ v' w' β' τ', s'.run P w = .ok v' w' ∧ Ext β β' σ σ' ∧ σ'.Led τ τ' ∧ R K W0 N0 β' τ' w' ∧ A β' v v' := by
  obtain ⟨τ', e1, l1⟩ := (blind_runA s hr hw).2 τ hl
  obtain ⟨v', w', β', e, x, r, ha⟩ := h lim τ w v τ' trivial hR e1 (hf.like hl l1)
  exact ⟨v', w', β', τ', e, x.like hl l1, l1, r, ha⟩

theorem Sim2.lands {β : Inj} {f : AS → Option (Value × AS)} {s' : Sem Value} (h : Sim2 P K W0 N0 β f s') {lim : Nat} (hg : Good lim f) {σ σ' τ : AS} {v : Value} {w : World} (hw : σ.Wf) (hl : σ.Like τ) (hR : R K W0 N0 β τ w) (hr : f σ = some (v, σ')) (hf : Fresh β σ σ') :
    Lands P (do pure (Next.value (← s'))) w (Post K W0 N0 β σ σ' τ v) := by
  obtain ⟨τ', e1, l1⟩ := (hg σ v σ' hr hw).2 τ hl
  obtain ⟨v', w', β', e, x, r, hv⟩ := h τ w v τ' trivial hR e1 (hf.like hl l1)
  exact .value (by rw [run_bind', e]; rfl) ⟨β', τ', x.like hl l1, l1, r, hv⟩

theorem nLands {β : Inj} {s s' : Sem Next} (h : Sim P K W0 N0 β s s' nRel) {lim : Nat} {σ σ' τ : AS} {n : Next} {w : World} (hw : σ.Wf) (hl : σ.Like τ) (hR : R K W0 N0 β τ w) (hr : runA P lim s σ = some (n, σ')) (hf : Fresh β σ σ') :
    (∀ v, n = .value v → Lands P s' w (Post K W0 N0 β σ σ' τ v)) ∧ (n = .skip → Lands P s' w (Post K W0 N0 β σ σ' τ undef)) := by
  obtain ⟨n', w', β', τ', e, x, l, r, hv⟩ := h.at hw hl hR hr hf
  constructor
  · rintro v rfl
    obtain ⟨v', rfl, hv⟩ := hv
    exact .value e ⟨β', τ', x, l, r, hv⟩
  · rintro rfl
    have hv : n' = .skip := hv
    subst hv
    exact .skip e ⟨β', τ', x, l, r, rel_undef⟩

/-! ## Calls -/

section
variable (P K W0 N0 G)
def CallOk (rec : Rec) : Prop := ∀ lim f args σ v σ', rec lim (.call f args) σ = some (.val v, σ') → ∀ β τ w (args' : Array Value), σ.Wf → σ.Like τ → R K W0 N0 β τ w → Fresh β σ σ' → GlobOk G β → lRel β args args'.toList →
  Lands P (callFunc f args') w (Post K W0 N0 β σ σ' τ v)
def RoundOk (rec : Rec) : Prop := ∀ lim l f t a body σ v σ', rec lim (.round l f t a body) σ = some (.val v, σ') → ∀ β τ w (tr : Array Value) e, σ.Wf → σ.Like τ → R K W0 N0 β τ w → Fresh β σ σ' → GlobOk G β →
  β l = some e → e.o = 0 → lRel β t tr.toList → K f a → K f body →
  ∀ (c : Frame) cs, ∃ v' w', Post K W0 N0 β σ σ' τ v v' w' ∧ Steps P (lone (Frame.round e.b f tr a body .normal) (c :: cs) w) (lone (c.finish v') cs w')
def OvOk (E : Env) : Prop := ∀ f args lim σ v σ', E.isOv f = true → E.ov f args lim σ = some (v, σ') → ∀ β τ w (args' : Array Value), σ.Wf → σ.Like τ → R K W0 N0 β τ w → Fresh β σ σ' → GlobOk G β → lRel β args args'.toList →
  Lands P (callFunc f args') w (Post K W0 N0 β σ σ' τ v)
end

variable {E : Env} {rec : Rec}

theorem enter_lands (hE : OvOk P K W0 N0 G E) (hc : CallOk P K W0 N0 G rec) {lim : Nat} {f : FuncId} {args : List Value} {σ σ' : AS} {v : Value} (hr : enterA P E rec lim f args σ = some (v, σ')) {β : Inj} {w : World} {args' : Array Value}
    {τ : AS} (hw : σ.Wf) (hl : σ.Like τ) (hR : R K W0 N0 β τ w) (hf : Fresh β σ σ') (hG : GlobOk G β) (ha : lRel β args args'.toList) : Lands P (callFunc f args') w (Post K W0 N0 β σ σ' τ v) := by
  unfold enterA at hr
  cases ho : E.isOv f with
  | true =>
    rw [ho, cond_true] at hr
    exact hE _ _ _ _ _ _ ho hr _ _ _ _ hw hl hR hf hG ha
  | false =>
    rw [ho, cond_false] at hr
    split at hr
    · rename_i h
      cases hr
      exact hc _ _ _ _ _ _ h _ _ _ _ hw hl hR hf hG ha
    · cases hr

theorem apply_lands (hE : OvOk P K W0 N0 G E) (hgr : RecGood rec) (hc : CallOk P K W0 N0 G rec) (hrd : RoundOk P K W0 N0 G rec) {lim : Nat} {f f' : Value} {args : List Value} {σ σ' : AS} {v : Value} (hr : applyA P E rec lim f args σ = some (v, σ')) {β : Inj} {w : World} {args' : Array Value}
    {τ : AS} (hw : σ.Wf) (hl : σ.Like τ) (hR : R K W0 N0 β τ w) (hf : Fresh β σ σ') (hG : GlobOk G β) (hff : vRel β f f') (ha : lRel β args args'.toList) :
    Lands P (do let d ← Deferred.ofValue f' args'; invoke d.target d.args) w (Post K W0 N0 β σ σ' τ v) := by
  unfold applyA at hr
  split at hr
  · rename_i g first captured
    cases hff with
    | @func fn fn' _ first' _ captured' hfn h1 h2 h3 h4 =>
    have hfn : fn' = .func g := hfn
    subst hfn
    have e : (do let d ← Deferred.ofValue (.func (.func g) first' captured') args'; invoke d.target d.args : Sem Next) = callFunc g ((first' ++ args') ++ captured') := rfl
    rw [e]
    refine enter_lands hE hc hr hw hl hR hf hG ?_
    simp only [Array.toList_append]
    exact ((arrRel_iff.1 ⟨h1, h2⟩).append ha).append (arrRel_iff.1 ⟨h3, h4⟩)
  · rename_i l first captured
    cases hff with
    | @func fn fn' _ first' _ captured' hfn h1 h2 h3 h4 =>
    obtain ⟨e, he, h0, rfl⟩ := hfn
    have e1 : (do let d ← Deferred.ofValue (.func (.yield e.b) first' captured') args'; invoke d.target d.args : Sem Next) = Instr.yield e.b (first' ++ args') := rfl
    rw [e1]
    split at hr
    case h_2 => cases hr
    rename_i l2 fn t a body σ1 h1r
    split at hr
    case h_2 => cases hr
    rename_i v2 σ2 h2r
    simp only [Option.some.injEq, Prod.mk.injEq] at hr
    obtain ⟨rfl, rfl⟩ := hr
    have k1 := kept_runA h1r hw
    have k2 := (hgr _ _ _ _ _ h2r (k1.wf hw)).1
    have hargs : arrRel β (first ++ args.toArray) (first' ++ args') := arrRel_iff.2 (by
      simp only [Array.toList_append]
      exact (arrRel_iff.1 ⟨h1, h2⟩).append ha)
    obtain ⟨n', w1, β1, τ1, er, x1, l1, R1, hy⟩ := (sim_yield (P := P) (K := K) (W0 := W0) (N0 := N0) he h0 hargs).at hw hl hR h1r (hf.left k2.next)
    obtain ⟨l3, e3, fn3, t3, t3', a3, b3, hn, hn', he3, h03, ht3, hka, hkb⟩ := hy
    cases hn
    subst hn'
    refine .round er fun c cs => ?_
    obtain ⟨v', w', hp, hs⟩ := hrd _ _ _ _ _ _ _ _ _ h2r β1 τ1 w1 t3' e3 (k1.wf hw) l1.like R1 (hf.right x1 k1.next) (hG.mono x1.1) he3 h03 (arrRel_iff.1 ht3) hka hkb c cs
    exact ⟨v', w', hp.trans x1 l1 k1.next k2.next, hs⟩
  · cases hr

/-! ## Operations -/

theorem run_eqGuard {β : Inj} {op : BinOp} {t : TypeId} {x y : Operand} {a a' b b' : Value} (ha : vRel β a a') (hb : vRel β b b') (h : binOkA P op t (isC x || isC y) a b = true) (w : World) : (eqGuard op t x y a' b').run P w = .ok () w := by
  unfold eqGuard
  cases hq : isEq op with
  | false => cases op <;> first | rfl | cases hq
  | true =>
    cases ha <;> cases hb <;> first | (cases op <;> first | rfl | (cases hq; done)) | skip
    case nilIface.nilIface =>
      simp only [binOkA, Bool.and_eq_true] at h
      have hx : (isC x || isC y) = true := h.1
      cases op <;> first | (cases hq; done) | (cases x <;> cases y <;> first | rfl | cases hx)
    case agg.agg =>
      simp only [binOkA, Bool.and_eq_true, Bool.not_eq_true'] at h
      have h3 := h.2
      cases op <;> first | (cases hq; done) | (
        show (Go.program >>= fun p => Go.program >>= fun q => _).run P w = _
        have : (Go.program).run P w = .ok P w := rfl
        simp [this, h3])

theorem eqGuard_lands {β : Inj} {op : BinOp} {t : TypeId} {x y : Operand} {a a' b b' : Value} (ha : vRel β a a') (hb : vRel β b b') (h : binOkA P op t (isC x || isC y) a b = true) {w : World} {Q : Value → World → Prop}
    (hl : Lands P (do pure (Next.value (← binOp op t a' b'))) w Q) : Lands P (do pure (Next.value (← (do eqGuard op t x y a' b'; binOp op t a' b')))) w Q := by
  refine hl.congr ?_
  simp only [run_bind', run_eqGuard ha hb h w]

theorem oper_lands (hZ : ZeroOk P) (hE : OvOk P K W0 N0 G E) (hgr : RecGood rec) (hc : CallOk P K W0 N0 G rec) (hrd : RoundOk P K W0 N0 G rec) {lim : Nat} {o : Oper} {t : List Value} {tr : Array Value} {σ σ' : AS} {v : Value}
    (hr : operA P E rec lim o t σ = some (v, σ')) (hB : opB G o = true) {β : Inj} {w : World} {τ : AS} (hw : σ.Wf) (hl : σ.Like τ) (hR : R K W0 N0 β τ w) (hf : Fresh β σ σ') (hG : GlobOk G β) (hρ0 : ∀ x ∈ o.op.operands, vRel β (ev t x) (evA tr x)) :
    Lands P (execOp (evA tr) o) w (Post K W0 N0 β σ σ' τ v) := by
  obtain ⟨dst, op, type, pos, after, guard⟩ := o
  simp only [opB, Bool.and_eq_true, List.all_eq_true] at hB
  have hρ : ∀ x ∈ op.operands, vRel β (ev t x) (evA tr x) := hρ0
  clear hρ0
  have opt : ∀ (x : Option Operand), (∀ y, x = some y → y ∈ op.operands) → ovRel β (x.map (ev t)) (x.map (evA tr)) := fun x h => ovRel_map fun y hy => hρ y (h y hy)
  have hgen : ∀ (hg : generic P op = true) (hnf : ∀ fn f c, op = .makeFunc fn f c → ∀ l, fn ≠ .yield l), nextAny (runA P lim (execOp (ev t) ⟨dst, op, type, pos, after, guard⟩) σ) = some (v, σ') → Lands P (execOp (evA tr) ⟨dst, op, type, pos, after, guard⟩) w (Post K W0 N0 β σ σ' τ v) := by
    intro hg hnf hh
    have hS := sim_execOp (P := P) (K := K) (W0 := W0) (N0 := N0) (o := ⟨dst, op, type, pos, after, guard⟩) hZ hρ hnf hg
    unfold nextAny at hh
    split at hh
    · rename_i h1
      cases hh
      exact (nLands hS hw hl hR h1 hf).1 _ rfl
    · rename_i h1
      cases hh
      exact (nLands hS hw hl hR h1 hf).2 rfl
    · cases hh
  have gen : ∀ (hnf : ∀ fn f c, op = .makeFunc fn f c → ∀ l, fn ≠ .yield l), (bif generic P op then
      nextAny (runA P lim (execOp (ev t) ⟨dst, op, type, pos, after, guard⟩) σ) else none) = some (v, σ') → Lands P (execOp (evA tr) ⟨dst, op, type, pos, after, guard⟩) w (Post K W0 N0 β σ σ' τ v) := by
    intro hnf hh
    cases hg : generic P op with
    | false => rw [hg] at hh; cases hh
    | true => rw [hg, cond_true] at hh; exact hgen hg hnf hh
  cases op
  case slice st x lo hi mx =>
    simp only [operA] at hr
    exact (sim2_slice (hρ x (by simp [Op.operands])) (opt lo (by intro y hy; simp [Op.operands, hy])) (opt hi (by intro y hy; simp [Op.operands, hy])) (opt mx (by intro y hy; simp [Op.operands, hy])) lim).lands good_slice hw hl hR hr hf
  case convert src dst' x =>
    simp only [operA] at hr
    exact (sim2_conv (lim := lim) (hρ x (by simp [Op.operands]))).lands good_conv hw hl hR hr hf
  case unOp op' t' x =>
    simp only [operA] at hr
    cases hu : unOkA (ev t x) with
    | false => rw [hu] at hr; cases hr
    | true =>
      rw [hu, cond_true] at hr
      exact ((sim_unary op' (hρ x (by simp [Op.operands])) hu).two lim).lands (good_runA _) hw hl hR hr hf
  case nilCheck x =>
    simp only [operA] at hr
    cases hu : nilOkA (ev t x) with
    | false => rw [hu] at hr; cases hr
    | true =>
      rw [hu, cond_true, Option.some.injEq, Prod.mk.injEq] at hr
      obtain ⟨rfl, rfl⟩ := hr
      have hx := hρ x (by simp [Op.operands])
      have hv : (execOp (evA tr) ⟨dst, .nilCheck x, type, pos, after, guard⟩).run P w = .ok (.value (evA tr x)) w := by
        simp only [execOp]
        generalize ev t x = a at hx hu
        generalize evA tr x = a' at hx
        cases hx <;> first | rfl | (simp only [nilOkA] at hu; cases hu; done) | skip
        case func fn fn' f f' c c' h _ _ _ _ =>
          cases fn <;> first | (simp only [nilOkA] at hu; cases hu; done) | skip
          · have h : fn' = _ := h
            subst h; rfl
          · obtain ⟨e, _, _, rfl⟩ := h; rfl
      exact .value hv ⟨β, τ, .refl _ _, .refl hl, hR, hx⟩
  case sliceToArrayPointer d x =>
    simp only [operA] at hr
    cases hu : arrOkA (ev t x) with
    | false => rw [hu] at hr; cases hr
    | true =>
      rw [hu, cond_true] at hr
      exact ((sim_arrayAt (hρ x (by simp [Op.operands])) hu d).two lim).lands (good_runA _) hw hl hR hr hf
  case binOp bop bt x y g =>
    simp only [operA] at hr
    cases hu : binOkA P bop bt (isC x || isC y) (ev t x) (ev t y) with
    | false => rw [hu] at hr; cases hr
    | true =>
      rw [hu, cond_true] at hr
      have hx := hρ x (by simp [Op.operands])
      have hy := hρ y (by simp [Op.operands])
      exact eqGuard_lands hx hy hu (((sim_binOp hx hy hu).two lim).lands (good_runA _) hw hl hR hr hf)
  case call c =>
    obtain ⟨callee, args, argTypes⟩ := c
    have hargs : lRel β (args.toList.map (ev t)) (args.map (evA tr)).toList := by
      simp only [Array.toList_map]
      exact lRel.of_get (by simp) fun i hi hi' => by
        simp only [List.getElem_map]
        exact hρ _ (by simp [Op.operands, Call.operands])
    cases callee with
    | invoke => simp only [operA] at hr; cases hr
    | value f =>
      simp only [operA] at hr
      exact apply_lands hE hgr hc hrd hr hw hl hR hf hG (hρ f (by simp [Op.operands, Call.operands])) hargs
    | builtin b =>
      have hbi : tame P argTypes b = true → (args.toList.map (ev t)).head?.all unOkA = true → nextVal (runA P lim (builtin b argTypes type (args.map isC) (args.map (ev t))) σ) = some (v, σ') → Lands P (execOp (evA tr) ⟨dst, .call ⟨.builtin b, args, argTypes⟩, type, pos, after, guard⟩) w (Post K W0 N0 β σ σ' τ v) := by
        intro hta hh hrun
        have hS := sim_builtin (P := P) (K := K) (W0 := W0) (N0 := N0) hZ (b := b) (argTypes := argTypes) (type := type) (consts := args.map isC)
          (args := args.map (ev t)) (args' := args.map (evA tr)) (arrRel_iff.2 (by simpa using hargs)) hta (fun u hu _ => by
            simp only [Array.toList_map] at hu
            rw [hu] at hh; exact hh)
        have hlb : ∀ u, Lands P (builtin b argTypes type (args.map isC) (args.map (evA tr))) w (Post K W0 N0 β σ σ' τ u) → Lands P (execOp (evA tr) ⟨dst, .call ⟨.builtin b, args, argTypes⟩, type, pos, after, guard⟩) w (Post K W0 N0 β σ σ' τ u) := by
          intro u hu
          have e : args.map isC = args.map (fun | .const _ => true | _ => false) := congrArg (args.map ·) (funext fun x => by cases x <;> rfl)
          rw [e] at hu
          exact hu
        unfold nextVal at hrun
        split at hrun
        · rename_i h1
          cases hrun
          exact hlb _ ((nLands hS hw hl hR h1 hf).1 _ rfl)
        · cases hrun
      have hb2 : (bif tame P argTypes b && (args.toList.map (ev t)).head?.all unOkA then nextVal (runA P lim (builtin b argTypes type (args.map isC) (args.map (ev t))) σ) else none) = some (v, σ') → Lands P (execOp (evA tr) ⟨dst, .call ⟨.builtin b, args, argTypes⟩, type, pos, after, guard⟩) w (Post K W0 N0 β σ σ' τ v) := by
        intro hh
        cases hcd : (tame P argTypes b && (args.toList.map (ev t)).head?.all unOkA) with
        | false => rw [hcd] at hh; cases hh
        | true =>
          rw [hcd, cond_true] at hh
          simp only [Bool.and_eq_true] at hcd
          exact hbi hcd.1 hcd.2 hh
      cases b
      case append =>
        simp only [operA] at hr
        exact (sim2_append (lim := lim) hZ hargs).lands good_append hw hl hR hr hf
      case cap =>
        simp only [operA] at hr
        exact (sim2_cap (_lim := lim) hargs).lands (lim := lim) good_cap hw hl hR hr hf
      case unsafeSliceData =>
        simp only [operA] at hr
        exact (sim2_data (argTypes := argTypes) hargs).lands (lim := lim) good_data hw hl hR hr hf
      case unsafeString =>
        simp only [operA] at hr
        exact (sim2_ustr (lim := lim) hargs).lands good_ustr hw hl hR hr hf
      all_goals exact hb2 (by simpa only [operA] using hr)
  case makeFunc fn f c =>
    refine gen (fun fn' f' c' h l hl2 => ?_) (by simpa only [operA] using hr)
    cases h
    subst hl2
    exact Bool.false_ne_true hB.2
  all_goals exact gen (fun fn f c h => by cases h) (by simpa only [operA] using hr)

end Go.Va
