/-
  THE INTERPRETER WITH HINTS IS SOUND: what it answers under the noted premises, the interpreter answers.
-/
import Derived.Test.YtakchekhpeokjaaDoorVaH2
namespace Go.Va
section
variable {P : Program} {E : Env} {rh : RecH} {r : Rec}

theorem sd_enter (h : SdR rh r) {lim : Nat} {f : FuncId} {args : List Value} {σ : AS} {s : HS} : Sd s (enterH E rh lim f args σ s) (enterA P E r lim f args σ) := by
  unfold enterH enterA
  cases hi : E.isOv f with
  | true => simp only [cond_true]; exact sd_lift (fun _ hp => hp) fun y hy => hy
  | false =>
    simp only [cond_false]
    intro a σ' s' e
    split at e
    · rename_i v σ1 s1 hr
      cases e
      obtain ⟨h1, h2⟩ := h _ _ _ _ _ _ _ hr
      exact ⟨h1, fun hall => by rw [h2 hall]⟩
    · cases e

theorem sd_apply (h : SdR rh r) {lim : Nat} {f : Value} {args : List Value} {σ : AS} {s : HS} : Sd s (applyH P E rh lim f args σ s) (applyA P E r lim f args σ) := by
  unfold applyH
  split
  · exact sd_enter (P := P) h
  · intro a σ' s' e
    split at e
    · rename_i hy
      split at e
      · rename_i hr
        cases e
        obtain ⟨h1, h2⟩ := h _ _ _ _ _ _ _ hr
        exact ⟨h1, fun hall => by unfold applyA; dsimp only; rw [hy]; dsimp only; rw [h2 hall]⟩
      · cases e
    · cases e
  · exact sd_none

theorem runA_sliceAt_str {st : TypeId} (ht : P.underlying st = some .string) {s : ByteArray} {lo hi : Option Value} {l h : Nat} {σ : AS} {lim : Nat}
    (hb : runA P lim (Instr.sliceBounds false s.size s.size lo hi none) σ = some ((l, h, s.size), σ)) : runA P lim (Instr.sliceAt st (.string s) lo hi none) σ = some (.string (s.extract l h), σ) := by
  unfold Instr.sliceAt
  rw [runA_bind, runA_underlying, ht]
  dsimp only [Option.map]
  unfold Instr.slice
  rw [runA_bind, runA_underlying, ht]
  dsimp only [Option.map]
  simp only [Option.isSome_none, Bool.false_eq_true, if_false]
  rw [runA_bind, hb]
  rfl

theorem runA_bound {k : IntKind} {i : Int} {y : Nat} {code : BoundsCode} (h0 : 0 ≤ i) (h1 : i ≤ y) {σ : AS} {lim : Nat} : runA P lim (Instr.sliceBound (.int k i) y code) σ = some (i.toNat, σ) := by
  unfold Instr.sliceBound
  rw [runA_bind]
  show (match some ((k, i), σ) with | some (v, σ') => _ | none => none) = _
  dsimp only
  rw [if_pos ⟨h0, h1⟩]
  rfl

theorem guarded_sound {o : Oper} {t : List Value} {v : Value} {p : Prop} (hg : guarded P o t = some (v, p)) (hp : p) {lim : Nat} {σ : AS} : operA P E r lim o t σ = some (v, σ) := by
  unfold guarded at hg
  split at hg
  · rename_i x y hs ho
    split at hg
    · rename_i k a k' b hx hy
      cases hg
      unfold operA
      rw [ho]
      dsimp only
      rw [hx, hy]
      show runA P lim (Op.shift .shl k a k' b) σ = _
      unfold Op.shift
      rw [if_neg (by omega)]
      rfl
    · cases hg
  · rename_i x y hs ho
    split at hg
    · rename_i k a k' b hx hy
      cases hg
      unfold operA
      rw [ho]
      dsimp only
      rw [hx, hy]
      show runA P lim (Op.shift .shr k a k' b) σ = _
      unfold Op.shift
      rw [if_neg (by omega)]
      rfl
    · cases hg
  · rename_i x y hs ho
    split at hg
    · rename_i a b hx hy
      cases hg
      unfold operA
      rw [ho]
      dsimp only
      rw [hx, hy]
      show runA P lim (Op.stringOp .add a b) σ = _
      unfold Op.stringOp
      dsimp only
      rw [if_neg (by omega)]
      rfl
    · cases hg
  · rename_i xt x ix ho
    split at hg
    · rename_i s k i ht hx hi
      cases hg
      unfold operA
      rw [ho]
      dsimp only
      obtain ⟨hp0, hp1⟩ := hp
      have hs : s[i.toNat]? = some (s.data.toList.getD i.toNat 0) := by
        have hlt : i.toNat < s.size := by omega
        rw [getElem?_pos s i.toNat hlt]
        have : i.toNat < s.data.toList.length := by simpa using hlt
        rw [List.getD_eq_getElem?_getD, List.getElem?_eq_getElem this]
        rfl
      have h1 : runA P lim (Instr.index xt (.string s) (.int k i)) σ = some (.int .u8 (s.data.toList.getD i.toNat 0).toNat, σ) := by
        unfold Instr.index
        rw [runA_bind]
        show (match some ((k, i), σ) with | some (v, σ') => _ | none => none) = _
        dsimp only
        rw [runA_bind, runA_underlying, ht]
        dsimp only [Option.map]
        rw [if_pos hp0, hs]
        rfl
      have h2 : runA P lim (execOp (ev t) o) σ = some (.value (.int .u8 (s.data.toList.getD i.toNat 0).toNat), σ) := by
        unfold execOp
        rw [ho]
        dsimp only
        rw [runA_bind, hx, hi, h1]
        rfl
      rw [show generic P (.index xt x ix) = true from rfl, cond_true, h2]
      rfl
    · cases hg
  · rename_i st x lo hi ho
    split at hg
    · rename_i s k l k' h ht hx hlo hhi
      cases hg
      obtain ⟨p0, p1, p2⟩ := hp
      unfold operA
      rw [ho]
      dsimp only
      rw [hx, hlo, hhi]
      refine runA_sliceAt_str ht ?_
      unfold Instr.sliceBounds
      rw [runA_bind]
      show (match some (s.size, σ) with | some (v, σ') => _ | none => none) = _
      dsimp only
      rw [runA_bind, runA_bound (by omega) p2]
      dsimp only
      rw [runA_bind, runA_bound p0 (by omega)]
      rfl
    · rename_i s k' h ht hx hlo hhi
      cases hg
      obtain ⟨p0, p1⟩ := hp
      unfold operA
      rw [ho]
      dsimp only
      rw [hx, hlo, hhi]
      refine runA_sliceAt_str ht ?_
      unfold Instr.sliceBounds
      rw [runA_bind]
      show (match some (s.size, σ) with | some (v, σ') => _ | none => none) = _
      dsimp only
      rw [runA_bind, runA_bound p0 p1]
      rfl
    · rename_i s k l ht hx hlo hhi
      cases hg
      obtain ⟨p0, p1⟩ := hp
      unfold operA
      rw [ho]
      dsimp only
      rw [hx, hlo, hhi]
      refine runA_sliceAt_str ht ?_
      unfold Instr.sliceBounds
      rw [runA_bind]
      show (match some (s.size, σ) with | some (v, σ') => _ | none => none) = _
      dsimp only
      rw [runA_bind]
      show (match some (s.size, σ) with | some (v, σ') => _ | none => none) = _
      dsimp only
      rw [runA_bind, runA_bound p0 p1]
      rfl
    · cases hg
  · cases hg

theorem tick_mem {s : HS} {h : Option Hint} {s1 : HS} (e : s.tick = (h, s1)) : s1.ob = s.ob := by
  have := tick_ob s; rw [e] at this; exact this

theorem operA_rec0 {lim : Nat} {o : Oper} {t : List Value} {σ : AS} {x} (e : operA P E rec0 lim o t σ = some x) : operA P E r lim o t σ = some x := operA_mono (Rec.le0 r) e

theorem sd_operC (h : SdR rh r) {lim : Nat} {o : Oper} {t : List Value} {σ : AS} {s : HS} : Sd s (operC P E rh lim o t σ s) (operA P E r lim o t σ) := by
  unfold operC
  split
  · rename_i c ho
    split
    · rename_i f hc
      intro a σ' s' e
      rw [forceL_eq] at e
      obtain ⟨h1, h2⟩ := sd_apply (P := P) h a σ' s' e
      refine ⟨h1, fun hall => ?_⟩
      unfold operA
      rw [ho]
      dsimp only
      rw [hc]
      exact h2 hall
    · exact sd_lift (fun _ hp => hp) fun y hy => operA_rec0 hy
  · exact sd_lift (fun _ hp => hp) fun y hy => operA_rec0 hy

theorem sd_oper (h : SdR rh (runW P E)) {lim : Nat} {o : Oper} {t : List Value} {σ : AS} {s : HS} : Sd s (operH P E rh lim o t σ s) (operA P E (runW P E) lim o t σ) := by
  unfold operH
  split
  · rename_i v s1 ht
    exact sd_some (fun p hp => List.mem_cons_of_mem _ (by rw [tick_mem ht]; exact hp)) fun hall => operA_rec0 (hall _ (List.mem_cons_self ..))
  · rename_i s1 ht
    split
    · rename_i v p hg
      exact sd_some (fun p hp => List.mem_cons_of_mem _ (by rw [tick_mem ht]; exact hp)) fun hall => guarded_sound hg (hall _ (List.mem_cons_self ..))
    · exact sd_none
  · rename_i b s1 ht
    split
    · rename_i v σ' s' hc
      obtain ⟨h1, h2⟩ := sd_operC h _ _ _ hc
      refine sd_some (fun p hp => List.mem_cons_of_mem _ (h1 p (by rw [tick_mem ht]; exact hp))) fun hall => ?_
      rw [← isB_eq (hall _ (List.mem_cons_self ..) : isB v b)]
      exact h2 fun p hp => hall p (List.mem_cons_of_mem _ hp)
    · exact sd_none
  · rename_i c s1 ht
    have hs : ∀ p ∈ s.ob, p ∈ s1.ob := by rw [tick_mem ht]; exact fun _ hp => hp
    split
    · rename_i src dst x ho
      split
      · rename_i b e hx h1 h2
        split
        · rename_i he
          refine sd_some (fun p hp => List.mem_cons_of_mem _ (hs p hp)) fun hall => ?_
          have hc : b.data.toList.map (fun x => Value.int .u8 x.toNat) = c := hall _ (List.mem_cons_self ..)
          unfold operA
          rw [ho]
          dsimp only
          unfold convA
          rw [hx]
          dsimp only
          rw [h1, h2]
          dsimp only
          rw [he]
          dsimp only
          rw [hc]
        · rename_i he
          refine sd_some (fun p hp => List.mem_cons_of_mem _ (hs p hp)) fun hall => ?_
          have hc : (Conv.runesFrom b b.size 0 #[]).toList = c := hall _ (List.mem_cons_self ..)
          unfold operA
          rw [ho]
          dsimp only
          unfold convA
          rw [hx]
          dsimp only
          rw [h1, h2]
          dsimp only
          rw [he]
          dsimp only
          rw [hc]
        · exact sd_none
      · exact sd_none
    · exact sd_none
  · rename_i v σ' s1 ht
    exact sd_some (fun p hp => List.mem_cons_of_mem _ (by rw [tick_mem ht]; exact hp)) fun hall => hall _ (List.mem_cons_self ..)
  · exact sd_none
  · exact sd_none
  · rename_i s1 ht
    intro a σ' s' e
    obtain ⟨h1, h2⟩ := sd_operC h _ _ _ e
    exact ⟨fun p hp => h1 p (by rw [tick_mem ht]; exact hp), h2⟩

theorem sd_ops (h : SdR rh (runW P E)) {ops : Array Oper} {q : Bool} {lim : Nat} : ∀ {l : List Oper} {t : List Value} {σ : AS} {s : HS}, Sd s (opsH P E rh ops q lim l t σ s) (opsA P E (runW P E) ops q lim l t σ)
  | [], t, σ, s => sd_some (fun _ hp => hp) fun _ => rfl
  | o :: l, t, σ, s => by
    unfold opsH opsA
    cases hw : Region.wanted o (yieldedL ops t) with
    | true =>
      simp only [cond_true]
      intro a σ' s' e
      split at e
      · rename_i v σ1 s1 ho
        rw [force_eq] at e
        obtain ⟨h1, h2⟩ := sd_oper h _ _ _ ho
        obtain ⟨h3, h4⟩ := sd_ops h _ _ _ e
        exact ⟨fun p hp => h3 p (h1 p hp), fun hall => by rw [h2 fun p hp => hall p (h3 p hp)]; exact h4 hall⟩
      · cases e
    | false => simp only [cond_false]; exact sd_ops h

theorem sd_op1 (h : SdR rh (runW P E)) {ops : Array Oper} {q : Bool} {lim : Nat} {o : Oper} {t : List Value} {σ : AS} {s : HS} : Sd s (op1H P E rh ops q lim o t σ s) (op1 P E (runW P E) ops q lim o t σ) := by
  unfold op1H op1
  cases hw : Region.wanted o (yieldedL ops t) with
  | true => simp only [cond_true]; exact sd_oper h
  | false => simp only [cond_false]; exact sd_some (fun _ hp => hp) fun _ => rfl

theorem sd_opsI (h : SdR rh (runW P E)) {ops : Array Oper} {lim : Nat} : ∀ {l : List (Nat × Bool)} {t : List Value} {σ : AS} {s : HS}, Sd s (opsIH P E rh ops lim l t σ s) (opsI P E (runW P E) ops lim l t σ)
  | [], t, σ, s => sd_some (fun _ hp => hp) fun _ => rfl
  | y :: l, t, σ, s => by
    unfold opsIH opsI
    cases hy : ops[y.1]? with
    | none => exact sd_none
    | some o =>
      dsimp only
      intro a σ' s' e
      split at e
      · rename_i v σ1 s1 ho
        rw [force_eq] at e
        obtain ⟨h1, h2⟩ := sd_op1 h _ _ _ ho
        obtain ⟨h3, h4⟩ := sd_opsI h _ _ _ e
        exact ⟨fun p hp => h3 p (h1 p hp), fun hall => by rw [h2 fun p hp => hall p (h3 p hp)]; exact h4 hall⟩
      · cases e

theorem sd_range (h : SdR rh (runW P E)) {lim : Nat} {c : Ctx} {f : Operand} {params : Array Tmp} {assign body : Code} {t : List Value} {ds : List Nat} {σ : AS} {s : HS} :
    Sd s (rangeH P E rh lim c f params assign body t ds σ s) (rangeA P E (runW P E) lim c f params assign body t ds σ) := by
  unfold rangeH rangeA
  split
  · rename_i l mark σ1 h1
    cases hm : markIds mark with
    | none => exact sd_none
    | some m =>
      dsimp only
      intro a σ' s' e
      split at e
      · rename_i v σ2 s2 ha
        obtain ⟨h3, h4⟩ := sd_apply (P := P) h _ _ _ ha
        obtain ⟨h5, h6⟩ := sd_lift (s := s2) (s1 := s2) (fun _ hp => hp) (fun y hy => hy) _ _ _ e
        exact ⟨fun p hp => h5 p (h3 p hp), fun hall => by rw [h1]; dsimp only; rw [hm]; dsimp only; rw [h4 fun p hp => hall p (h5 p hp)]; exact h6 hall⟩
      · cases e
  · exact sd_none

theorem sd_step (h : SdR rh (runW P E)) {lim : Nat} {k : Task} {σ : AS} {s : HS} : Sd s (stepH P E rh lim k σ s) (stepA P E (runW P E) lim k σ) := by
  cases k with
  | code c cd t ds =>
    unfold stepH stepA
    cases cd with
    | skip => exact sd_some (fun _ hp => hp) fun _ => rfl
    | label => exact sd_some (fun _ hp => hp) fun _ => rfl
    | region id ops draw =>
      dsimp only
      cases draw with
      | true =>
        simp only [cond_true]
        cases E.draws c.fn id with
        | none => exact sd_none
        | some pl =>
          dsimp only
          intro a σ' s' e
          split at e
          · rename_i ho
            obtain ⟨h1, h2⟩ := sd_opsI h _ _ _ ho
            cases e
            exact ⟨h1, fun hall => by rw [h2 hall]⟩
          · cases e
      | false =>
        simp only [cond_false]
        intro a σ' s' e
        split at e
        · rename_i ho
          obtain ⟨h1, h2⟩ := sd_ops h _ _ _ ho
          cases e
          exact ⟨h1, fun hall => by rw [h2 hall]⟩
        · cases e
    | seq a b =>
      dsimp only
      intro x σ' s' e
      split at e
      · rename_i ho
        obtain ⟨h1, h2⟩ := h _ _ _ _ _ _ _ ho
        obtain ⟨h3, h4⟩ := h _ _ _ _ _ _ _ e
        exact ⟨fun p hp => h3 p (h1 p hp), fun hall => by rw [h2 fun p hp => hall p (h3 p hp)]; exact h4 hall⟩
      · rename_i hn
        obtain ⟨h1, h2⟩ := h _ _ _ _ _ _ _ e
        refine ⟨h1, fun hall => ?_⟩
        rw [h2 hall]
        split
        · rename_i he; cases he; exact absurd e (hn _ _ _ _)
        · rfl
    | cond c a b =>
      dsimp only
      split
      · rename_i b' s1 ht
        intro x σ' s' e
        obtain ⟨h1, h2⟩ := h _ _ _ _ _ _ _ e
        refine ⟨fun p hp => h1 p (List.mem_cons_of_mem _ (by rw [tick_mem ht]; exact hp)), fun hall => ?_⟩
        have hc : ev t c = .bool b' := isB_eq (hall _ (h1 _ (List.mem_cons_self ..)))
        rw [hc]
        exact h2 hall
      · exact sd_none
      · rename_i s1 ht
        intro x σ' s' e
        split at e
        · rename_i hc
          obtain ⟨h1, h2⟩ := h _ _ _ _ _ _ _ e
          exact ⟨fun p hp => h1 p (by rw [tick_mem ht]; exact hp), fun hall => by rw [hc]; exact h2 hall⟩
        · cases e
    | block id body =>
      dsimp only
      intro x σ' s' e
      split at e
      · rename_i ho
        obtain ⟨h1, h2⟩ := h _ _ _ _ _ _ _ ho
        cases e
        exact ⟨h1, fun hall => by rw [h2 hall]⟩
      · rename_i hn
        obtain ⟨h1, h2⟩ := h _ _ _ _ _ _ _ e
        refine ⟨h1, fun hall => ?_⟩
        rw [h2 hall]
        split
        · rename_i he; cases he; exact absurd e (hn _ _ _ _ _)
        · rfl
    | loop body =>
      dsimp only
      split
      · rename_i o σ' s1 ht
        refine sd_some (fun p hp => List.mem_cons_of_mem _ (by rw [tick_mem ht]; exact hp)) fun hall => ?_
        obtain ⟨n, hn⟩ := runW_some (hall _ (List.mem_cons_self ..))
        cases n with
        | zero => cases hn
        | succ m =>
          have h2 := stepA_mono (run_le_runW m) (show stepA P E (run P E m) lim (.code c (.loop body) t ds) σ = some (o, σ') from hn)
          unfold stepA at h2
          exact h2
      · exact sd_none
      · rename_i s0 ht
        have hs : ∀ p ∈ s.ob, p ∈ s0.ob := by rw [tick_mem ht]; exact fun _ hp => hp
        intro x σ' s' e
        split at e
        · rename_i ho
          obtain ⟨h1, h2⟩ := h _ _ _ _ _ _ _ ho
          obtain ⟨h3, h4⟩ := h _ _ _ _ _ _ _ e
          exact ⟨fun p hp => h3 p (h1 p (hs p hp)), fun hall => by rw [h2 fun p hp => hall p (h3 p hp)]; exact h4 hall⟩
        · rename_i hn
          obtain ⟨h1, h2⟩ := h _ _ _ _ _ _ _ e
          refine ⟨fun p hp => h1 p (hs p hp), fun hall => ?_⟩
          rw [h2 hall]
          split
          · rename_i he; cases he; exact absurd e (hn _ _ _ _)
          · rfl
    | rangeFunc f params assign body => exact sd_range h
    | exit id => exact sd_some (fun _ hp => hp) fun _ => rfl
    | scope body => exact h _ _ _ _
    | goto l => exact sd_some (fun _ hp => hp) fun _ => rfl
    | ret => exact sd_some (fun _ hp => hp) fun _ => rfl
    | refuse => exact sd_none
  | scope c body cur t ds =>
    unfold stepH stepA
    dsimp only
    intro x σ' s' e
    split at e
    · rename_i ho
      obtain ⟨h1, h2⟩ := h _ _ _ _ _ _ _ ho
      split at e
      · rename_i hl
        obtain ⟨h3, h4⟩ := h _ _ _ _ _ _ _ e
        exact ⟨fun p hp => h3 p (h1 p hp), fun hall => by rw [h2 fun p hp => hall p (h3 p hp)]; dsimp only; rw [hl]; exact h4 hall⟩
      · rename_i hl
        cases e
        exact ⟨h1, fun hall => by rw [h2 hall]; dsimp only; rw [hl]⟩
    · rename_i hn
      obtain ⟨h1, h2⟩ := h _ _ _ _ _ _ _ e
      refine ⟨h1, fun hall => ?_⟩
      rw [h2 hall]
      split
      · rename_i he; cases he; exact absurd e (hn _ _ _ _ _)
      · rfl
  | call f args =>
    unfold stepH stepA
    dsimp only
    cases E.ok f with
    | false => exact sd_none
    | true =>
      simp only [cond_true]
      cases P.funcs[f]? with
      | none => exact sd_none
      | some fn =>
        dsimp only
        cases fn.body with
        | none => exact sd_none
        | some c =>
          dsimp only
          intro x σ' s' e
          split at e
          · rename_i ex t1 ds1 σ1 s1 ho
            obtain ⟨h1, h2⟩ := h _ _ _ _ _ _ _ ho
            split at e
            all_goals first | (cases e; done) | skip
            all_goals
              split at e
              · rename_i σ2 ht
                split at e
                · rename_i v σ3 hv
                  cases e
                  exact ⟨h1, fun hall => by rw [h2 hall]; dsimp only; rw [ht]; dsimp only; rw [hv]⟩
                · cases e
              · cases e
          · cases e
  | round l f t assign body =>
    unfold stepH stepA
    dsimp only
    intro x σ' s' e
    split at e
    · rename_i t1 σ1 s1 ho
      obtain ⟨h1, h2⟩ := h _ _ _ _ _ _ _ ho
      split at e
      · rename_i u σ2 hb
        split at e
        · rename_i ex t3 σ3 s3 h3
          obtain ⟨h4, h5⟩ := h _ _ _ _ _ _ _ h3
          split at e
          · rename_i v σ4 hv
            cases e
            exact ⟨fun p hp => h4 p (h1 p hp), fun hall => by rw [h2 fun p hp => hall p (h4 p hp)]; dsimp only; rw [hb]; dsimp only; rw [h5 hall]; dsimp only; cases ex <;> (dsimp only at hv ⊢; rw [hv])⟩
          · cases e
        · cases e
      · cases e
    · cases e

theorem sd_run : ∀ n, SdR (runH P E n) (runW P E)
  | 0 => fun _ _ _ _ => sd_none
  | n + 1 => fun _ _ _ _ a σ' s' e => by
    obtain ⟨h1, h2⟩ := sd_step (sd_run n) a σ' s' e
    exact ⟨h1, fun hall => runW_step (h2 hall)⟩
end

/-- All of them. -/
def All : List Prop → Prop
  | [] => True
  | [p] => p
  | p :: l => p ∧ All l
theorem all_mem : ∀ {l : List Prop}, All l → ∀ p ∈ l, p
  | [], _, p, hp => by cases hp
  | [q], h, p, hp => by rw [List.mem_singleton] at hp; rw [hp]; exact h
  | q :: a :: l, h, p, hp => by
    rcases List.mem_cons.1 hp with hp | hp
    · rw [hp]; exact h.1
    · exact all_mem (l := a :: l) h.2 p hp

/-- What is looked at of a run of a call. -/
def upshot (x : Option (Out × AS × HS)) : Option (Value × List Prop) :=
  match x with
  | some (.val v, _, s) => some (v, s.ob.reverse)
  | _ => none
/-- THE RULE: the run with hints answers so, the premises hold: the interpreter answers so. -/
theorem runW_of_hints {P : Program} {E : Env} {n lim : Nat} {k : Task} {σ : AS} {hs : List (Nat × Hint)} {o : Out} {σ' : AS} {s' : HS} (h : runH P E n lim k σ ⟨hs, []⟩ = some (o, σ', s')) (ha : All s'.ob.reverse) :
    runW P E lim k σ = some (o, σ') :=
  (sd_run n lim k σ _ _ _ _ h).2 fun p hp => all_mem ha p (List.mem_reverse.2 hp)
theorem run_of {P : Program} {E : Env} {n lim : Nat} {k : Task} {σ : AS} {hs : List (Nat × Hint)} {v : Value} {ob : List Prop} (h : upshot (runH P E n lim k σ ⟨hs, []⟩) = some (v, ob)) (ha : All ob) :
    ∃ m σ', run P E m lim k σ = some (.val v, σ') := by
  unfold upshot at h
  split at h
  · rename_i u σ' s hr
    cases h
    obtain ⟨m, hm⟩ := runW_some (runW_of_hints hr ha)
    exact ⟨m, σ', hm⟩
  · cases h
/-- The whole of what a run with hints answers, and its premises. -/
def whole (x : Option (Out × AS × HS)) : Option (Out × AS × List Prop) :=
  match x with
  | some (o, σ, s) => some (o, σ, s.ob.reverse)
  | none => none
theorem runW_of_whole {P : Program} {E : Env} {n lim : Nat} {k : Task} {σ : AS} {hs : List (Nat × Hint)} {o : Out} {σ' : AS} {ob : List Prop} (h : whole (runH P E n lim k σ ⟨hs, []⟩) = some (o, σ', ob)) (ha : All ob) :
    runW P E lim k σ = some (o, σ') := by
  unfold whole at h
  split at h
  · rename_i hr
    cases h
    exact runW_of_hints hr ha
  · cases h

theorem all_of : ∀ {l : List Prop}, (∀ p ∈ l, p) → All l
  | [], _ => trivial
  | [_], h => h _ (List.mem_cons_self ..)
  | _ :: _ :: _, h => ⟨h _ (List.mem_cons_self ..), all_of fun p hp => h p (List.mem_cons_of_mem _ hp)⟩

/-- A loop, one round more. -/
theorem loop_next {P : Program} {E : Env} {lim : Nat} {x : Ctx} {body : Code} {t t1 : List Value} {ds ds1 : List Nat} {σ σ1 : AS} {r : Out × AS}
    (h1 : runW P E lim (.code x body t ds) σ = some (.done .normal t1 ds1, σ1)) (h2 : runW P E lim (.code x (.loop body) t1 ds1) σ1 = some r) : runW P E lim (.code x (.loop body) t ds) σ = some r := by
  apply runW_step
  unfold stepA
  dsimp only
  rw [h1]
  exact h2
/-- A loop that is left. -/
theorem loop_out {P : Program} {E : Env} {lim : Nat} {x : Ctx} {body : Code} {t t1 : List Value} {ds ds1 : List Nat} {σ σ1 : AS} {e : Ex} (he : e ≠ .normal)
    (h1 : runW P E lim (.code x body t ds) σ = some (.done e t1 ds1, σ1)) : runW P E lim (.code x (.loop body) t ds) σ = some (.done e t1 ds1, σ1) := by
  apply runW_step
  unfold stepA
  dsimp only
  rw [h1]
  cases e <;> first | exact absurd rfl he | rfl

end Go.Va
