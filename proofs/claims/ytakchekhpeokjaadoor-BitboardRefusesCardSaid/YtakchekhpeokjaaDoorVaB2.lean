/-
  SIMULATION: a region that draws its order, by its plan; operations that are blind may run later.
-/
import Derived.Test.YtakchekhpeokjaaDoorVaB1
namespace Go.Va
open Go.RowKit
variable {P : Program} {K : FuncId → Code → Prop} {W0 : World} {N0 G : Nat} {E : Env} {rec : Rec} {ops : Array Oper} {md : Region.Mode} {lim : Nat}

def groupsB (md : Region.Mode) (ops : Array Oper) (l : List (Nat × Bool)) : Nat → List Nat → Bool
  | a, [] => Nat.beq a ops.size
  | a, g :: gs => groupB md ops (l.map (·.1)) a (a + g) && (Nat.beq g 1 || ((l.drop a).take g).all fun x => x.2 || blindIx ops x.1) && groupsB md ops l (a + g) gs

def planB (md : Region.Mode) (ops : Array Oper) (l : List (Nat × Bool)) (gs : List Nat) : Bool := ordB md ops (l.map (·.1)) && groupsB md ops l 0 gs

theorem ix_map {l : List (Nat × Bool)} {p : Nat} {x : Nat × Bool} (h : l[p]? = some x) : x.1 = ix (l.map (·.1)) p := by
  unfold ix
  rw [List.getD_eq_getElem?_getD, List.getElem?_map, h]; rfl

theorem groups_run (H : Given P K W0 N0 G E rec) {l : List (Nat × Bool)} (hO : OrdOk md ops (l.map (·.1))) (hB : ∀ (j : Nat) (o : Oper), ops[j]? = some o → opB G o = true) (b : Frame) (d : List Deferred) (k : List Item) (cs : List Frame) :
    ∀ (gs : List Nat) (a : Nat), groupsB md ops l a gs = true → ∀ (t t2 : List Value) (tr : Array Value) (σ σ2 τ : AS), opsI P E rec ops lim (l.drop a) t σ = some (t2, σ2) → ∀ (β : Inj) (w : World), σ.Wf → σ.Like τ → R K W0 N0 β τ w → Fresh β σ σ2 → GlobOk G β →
    lRel β t tr.toList → ∀ (listed : Array Bool), Done md ops (l.map (·.1)) a listed → ∀ tape,
    ∃ w' β' τ' tr', Ext β β' σ σ2 ∧ σ2.Led τ τ' ∧ R K W0 N0 β' τ' w' ∧ lRel β' t2 tr'.toList ∧
      Steps P (lone (Fr b tr d (.inRegion ops (Region.linearise.go md ops (ops.size - a) tape listed []) :: k)) cs w) (lone (Fr b tr' d (.inRegion ops [] :: k)) cs w') := by
  have hll : l.length = ops.size := by have := hO.len; simpa using this
  intro gs
  induction gs with
  | nil =>
    intro a h t t2 tr σ σ2 τ h1 β w hw hl hR hf hG ht listed hd tape
    have ha : a = ops.size := Nat.eq_of_beq_eq_true h
    rw [List.drop_of_length_le (by omega)] at h1
    simp only [opsI, Option.some.injEq, Prod.mk.injEq] at h1
    obtain ⟨rfl, rfl⟩ := h1
    refine ⟨w, β, τ, tr, .refl _ _, .refl hl, hR, ht, ?_⟩
    rw [ha, Nat.sub_self]
    exact .refl _ _
  | cons g gs ih =>
    intro a h t t2 tr σ σ2 τ h1 β w hw hl hR hf hG ht listed hd tape
    simp only [groupsB, Bool.and_eq_true] at h
    obtain ⟨⟨hg, hq⟩, hgs⟩ := h
    have hD := groupB_spec hO (by omega) hg
    have hle := hD.le
    have hsplit : l.drop a = (l.drop a).take g ++ l.drop (a + g) := by
      rw [← List.drop_drop]; exact (List.take_append_drop g (l.drop a)).symm
    rw [hsplit, opsI_append] at h1
    cases h2 : opsI P E rec ops lim ((l.drop a).take g) t σ with
    | none => rw [h2] at h1; cases h1
    | some r =>
      obtain ⟨t1, σ1⟩ := r
      rw [h2] at h1
      have h1 : opsI P E rec ops lim (l.drop (a + g)) t1 σ1 = some (t2, σ2) := h1
      have k1 := ((good_opsI H.ovGood H.good (P := P) (lim := lim) (ops := ops) ((l.drop a).take g) t) σ t1 σ1 h2 hw).1
      have k2 := ((good_opsI H.ovGood H.good (P := P) (lim := lim) (ops := ops) (l.drop (a + g)) t1) σ1 t2 σ2 h1 (k1.wf hw)).1
      have hgl : ((l.drop a).take g).length = g := by simp; omega
      have hgx : ∀ (i : Nat) (x : Nat × Bool), ((l.drop a).take g)[i]? = some x → l[a + i]? = some x := by
        intro i x hx
        rw [List.getElem?_take] at hx
        split at hx
        · rw [List.getElem?_drop] at hx; exact hx
        · cases hx
      obtain ⟨w1, β1, τ1, tr1, listed', tape', x1, l1, R1, ht1, hd1, s1⟩ : ∃ w' β' τ' tr' listed' tape', Ext β β' σ σ1 ∧ σ1.Led τ τ' ∧ R K W0 N0 β' τ' w' ∧ lRel β' t1 tr'.toList ∧ Done md ops (l.map (·.1)) (a + g) listed' ∧
          Steps P (lone (Fr b tr d (.inRegion ops (Region.linearise.go md ops (ops.size - a) tape listed []) :: k)) cs w) (lone (Fr b tr' d (.inRegion ops (Region.linearise.go md ops (ops.size - (a + g)) tape' listed' []) :: k)) cs w') := by
        by_cases h1g : g = 1
        · subst h1g
          cases hl1 : (l.drop a).take 1 with
          | nil => rw [hl1] at hgl; simp at hgl
          | cons x rest =>
            have hr0 : rest = [] := by rw [hl1] at hgl; simpa using hgl
            subst hr0
            rw [hl1] at h2 hgx
            exact group_one H hD hB (ix_map (by simpa using hgx 0 x rfl)) h2 hw hl hR (hf.left k2.next) hG ht hd tape b d k cs
        · have hq' : ∀ x ∈ (l.drop a).take g, x.2 = true ∨ blindIx ops x.1 = true := by
            simp only [Bool.or_eq_true, List.all_eq_true] at hq
            rcases hq with hq | hq
            · exact absurd (Nat.eq_of_beq_eq_true hq) h1g
            · exact hq
          exact group_any (fl := fun p => (l[p]?.map (·.2)).getD false) H hD (by omega) hB (by rw [hgl]; omega) (fun i x hx => ⟨ix_map (hgx i x hx), by rw [hgx i x hx]; rfl⟩) hq' h2 hw hl hR (hf.left k2.next) hG ht hd tape b d k cs
      obtain ⟨w2, β2, τ2, tr2, x2, l2, R2, ht2, s2⟩ := ih (a + g) hgs t1 t2 tr1 σ1 σ2 τ1 h1 β1 w1 (k1.wf hw) l1.like R1 (hf.right x1 k1.next) (hG.mono x1.1) ht1 listed' hd1 tape'
      exact ⟨w2, β2, τ2, tr2, x1.trans x2 k1.next k2.next, l1.trans l2 k2.next, R2, ht2, s1.trans s2⟩

theorem plan_run (H : Given P K W0 N0 G E rec) {l : List (Nat × Bool)} {gs : List Nat} (hP : planB md ops l gs = true) (hB : ∀ (j : Nat) (o : Oper), ops[j]? = some o → opB G o = true) {t t2 : List Value} {tr : Array Value} {σ σ2 τ : AS} (h1 : opsI P E rec ops lim l t σ = some (t2, σ2)) {β : Inj} {w : World}
    (hw : σ.Wf) (hl : σ.Like τ) (hR : R K W0 N0 β τ w) (hf : Fresh β σ σ2) (hG : GlobOk G β) (ht : lRel β t tr.toList) (tape : Nat) (b : Frame) (d : List Deferred) (k : List Item) (cs : List Frame) :
    ∃ w' β' τ' tr', Ext β β' σ σ2 ∧ σ2.Led τ τ' ∧ R K W0 N0 β' τ' w' ∧ lRel β' t2 tr'.toList ∧
      Steps P (lone (Fr b tr d (.inRegion ops (Region.linearise md ops tape) :: k)) cs w) (lone (Fr b tr' d (.inRegion ops [] :: k)) cs w') := by
  simp only [planB, Bool.and_eq_true] at hP
  have hO := ordB_spec hP.1
  have hd : Done md ops (l.map (·.1)) 0 (Array.replicate ops.size false) := ⟨by simp, fun j oj _ hj => (by rw [getD_replicate_false] at hj; cases hj), fun p hp => (by omega), fun p _ hp => (by simp [hO.lt p hp])⟩
  have := groups_run (lim := lim) H hO hB b d k cs gs 0 hP.2 t t2 tr σ σ2 τ (by simpa using h1) β w hw hl hR hf hG ht _ hd tape
  rw [Nat.sub_zero] at this
  exact this

/-! ## Blind operations run later -/

theorem operA_congr {o : Oper} {t t' : List Value} (h : ∀ x ∈ o.op.operands, ev t' x = ev t x) (lim : Nat) (σ : AS) : operA P E rec lim o t' σ = operA P E rec lim o t σ := by
  obtain ⟨dst, op, type, pos, after, guard⟩ := o
  have opt : ∀ (x : Option Operand), (∀ y, x = some y → y ∈ op.operands) → x.map (ev t') = x.map (ev t) := by
    intro x hx
    cases x with
    | none => rfl
    | some y => simp only [Option.map_some]; rw [h y (hx y rfl)]
  have ex : (∀ cs b, op ≠ .select cs b) → execOp (ev t') ⟨dst, op, type, pos, after, guard⟩ = execOp (ev t) ⟨dst, op, type, pos, after, guard⟩ := fun hs => execOp_congr ⟨dst, op, type, pos, after, guard⟩ hs h
  cases op
  case slice st x lo hi mx =>
    simp only [operA]
    rw [h x (by simp [Op.operands]), opt lo (by intro y hy; simp [Op.operands, hy]), opt hi (by intro y hy; simp [Op.operands, hy]), opt mx (by intro y hy; simp [Op.operands, hy])]
  case convert => simp only [operA]; rw [h _ (by simp [Op.operands])]
  case unOp => simp only [operA]; rw [h _ (by simp [Op.operands])]
  case nilCheck => simp only [operA]; rw [h _ (by simp [Op.operands])]
  case sliceToArrayPointer => simp only [operA]; rw [h _ (by simp [Op.operands])]
  case binOp bop bt x y g => simp only [operA]; rw [h x (by simp [Op.operands]), h y (by simp [Op.operands])]
  case call c =>
    obtain ⟨callee, args, argTypes⟩ := c
    have ea : args.toList.map (ev t') = args.toList.map (ev t) := List.map_congr_left fun x hx => h x (by simp [Op.operands, Call.operands]; exact .inr (by simpa using hx))
    have eb : args.map (ev t') = args.map (ev t) := by
      apply Array.toList_inj.1
      simpa using ea
    cases callee with
    | invoke => rfl
    | value f =>
      simp only [operA]
      rw [ea, h f (by simp [Op.operands, Call.operands])]
    | builtin b => cases b <;> simp only [operA, ea, eb]
  case select => rfl
  all_goals (simp only [operA]; rw [ex (fun _ _ hh => by cases hh)])

end Go.Va
