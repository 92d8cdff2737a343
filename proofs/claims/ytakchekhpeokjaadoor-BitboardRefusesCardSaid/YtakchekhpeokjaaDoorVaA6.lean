/-
  SIMULATION: the operations, further.
-/
import Derived.Test.YtakchekhpeokjaaDoorVaA5
namespace Go.Va
open Go.RowKit
variable {P : Program} {K : FuncId → Code → Prop} {W0 : World} {N0 : Nat}

/-- Equal answers of a computation that touches no heap. -/
theorem Sim.same {α : Type} {β : Inj} {s : Sem α} (h : ∀ lim σ v σ', runA P lim s σ = some (v, σ') → σ' = σ ∧ ∀ w, s.run P w = .ok v w) : Sim P K W0 N0 β s s (eqRel β) := by
  intro lim σ w v σ' hw hR hr hf
  obtain ⟨rfl, h2⟩ := h lim σ v σ' hr
  exact ⟨v, w, β, h2 w, .refl _ _, hR, rfl, rfl⟩

/-! ## Loops of the model's own -/

theorem Sim.forIn {ι S : Type} {β : Inj} {f f' : ι → S → Sem (ForInStep S)} (h : ∀ i s, Sim P K W0 N0 β (f i s) (f' i s) (eqRel β)) : ∀ (l : List ι) (s : S),
    Sim P K W0 N0 β (forIn l s f) (forIn l s f') (eqRel β)
  | [], s => by simp only [List.forIn_nil]; exact .ret ⟨rfl, rfl⟩
  | i :: l, s => by
    simp only [List.forIn_cons]
    refine Sim.bindEq (h i s) fun r => ?_
    cases r with
    | done b => exact .ret ⟨rfl, rfl⟩
    | yield b => exact Sim.forIn h l b

/-! ## Equality -/

theorem aRel.eq_iff {β : Inj} {a b a' b' : Addr} (ha : aRel β a a') (hb : aRel β b b') (hbl : a.block = b.block) : (a == b) = (a' == b') := by
  obtain ⟨h0, e, he, rfl⟩ := ha
  obtain ⟨h0', e', he', rfl⟩ := hb
  rw [hbl, he'] at he
  cases he
  obtain ⟨ab, ao, as⟩ := a
  obtain ⟨bb, bo, bs⟩ := b
  simp only at h0 h0' hbl
  subst h0 h0' hbl
  rw [Bool.eq_iff_iff]
  simp

theorem sim_sameAddr {β : Inj} {a b a' b' : Addr} (ha : aRel β a a') (hb : aRel β b b') : Sim P K W0 N0 β (sameAddr a b) (sameAddr a' b') (eqRel β) := by
  unfold sameAddr
  by_cases h : a.block = b.block
  · have h1 : (a.block == b.block) = true := by simpa using h
    have h2 : (a'.block == b'.block) = true := by
      obtain ⟨_, e, he, rfl⟩ := ha
      obtain ⟨_, e', he', rfl⟩ := hb
      rw [h, he'] at he; cases he; simp
    simp only [h1, h2, if_true]
    exact .ret ⟨rfl, ha.eq_iff hb h⟩
  · have h1 : (a.block == b.block) = false := by simpa using h
    simp only [h1]
    exact Never.sim fun lim σ => by
      show runA P lim (Go.frozen a >>= _) σ = none
      rw [runA_bind]; rfl

theorem sim_eqStep {β : Inj} {d : Nat} (ih : ∀ {β : Inj} {x x' y y' : Value} (t : TypeId), vRel β x x' → vRel β y y' → Sim P K W0 N0 β (Op.equalIn d t x y) (Op.equalIn d t x' y') (eqRel β))
    {xs xs' ys ys' : Array Value} (hx : arrRel β xs xs') (hy : arrRel β ys ys') (t : TypeId) (off : Nat) :
    Sim P K W0 N0 β
      (part t xs off >>= fun a => part t ys off >>= fun b => Op.equalIn d t a b >>= fun r => if (!r) = true then pure (ForInStep.done (some false, ())) else pure (ForInStep.yield (none, ())))
      (part t xs' off >>= fun a => part t ys' off >>= fun b => Op.equalIn d t a b >>= fun r => if (!r) = true then pure (ForInStep.done (some false, ())) else pure (ForInStep.yield ((none : Option Bool), ()))) (eqRel β) := by
  refine Sim.part_bind hx fun a a' ha => Sim.part_bind hy fun b b' hb => Sim.bindEq (ih t ha hb) fun r => ?_
  exact Sim.ite (fun _ => .ret ⟨rfl, rfl⟩) fun _ => .ret ⟨rfl, rfl⟩

theorem sim_equalIn : ∀ (d : Nat) {β : Inj} {x x' y y' : Value} (t : TypeId), vRel β x x' → vRel β y y' → Sim P K W0 N0 β (Op.equalIn d t x y) (Op.equalIn d t x' y') (eqRel β)
  | 0, _, _, _, _, _, _, _, _ => Sim.unsupported
  | d + 1, β, x, x', y, y', t, hx, hy => by
    unfold Op.equalIn
    refine Sim.underlying_bind fun ds hds => ?_
    cases ds
    case bool => cases hx <;> first | exact Sim.stuck | (cases hy <;> first | exact Sim.stuck | exact .ret ⟨rfl, rfl⟩)
    case int k =>
      cases hx <;> first | exact Sim.stuck | skip
      case int k n =>
        cases hy <;> first | exact Sim.stuck | exact Sim.unsupported | skip
        case int k' m => exact Sim.ite (fun _ => .ret ⟨rfl, rfl⟩) fun _ => Sim.stuck
        case ptr h =>
          cases n with
          | ofNat m => cases m <;> first | exact .ret ⟨rfl, rfl⟩ | exact Sim.unsupported
          | negSucc m => exact Sim.unsupported
      case ptrNone => cases hy <;> exact Sim.unsupported
      case ptr a a' h =>
        cases hy <;> first | exact Sim.unsupported | skip
        case int k' n =>
          cases n with
          | ofNat m => cases m <;> first | exact .ret ⟨rfl, rfl⟩ | exact Sim.unsupported
          | negSucc m => exact Sim.unsupported
        case ptr b b' h' =>
          exact Never.sim (Never.bind (Never.bind (Never.bind fun lim σ => rfl)))
      all_goals (cases hy <;> first | exact Sim.stuck | exact Sim.unsupported)
    case float k =>
      cases hx <;> first | exact Sim.stuck | (cases hy <;> first | exact Sim.stuck | exact Sim.ite (fun _ => .ret ⟨rfl, rfl⟩) fun _ => Sim.stuck)
    case complex k =>
      cases hx <;> first | exact Sim.stuck | (cases hy <;> first | exact Sim.stuck | exact Sim.ite (fun _ => .ret ⟨rfl, rfl⟩) fun _ => Sim.stuck)
    case string => cases hx <;> first | exact Sim.stuck | (cases hy <;> first | exact Sim.stuck | exact .ret ⟨rfl, rfl⟩)
    case pointer e =>
      cases hx <;> first | exact Sim.stuck | (cases hy <;> first | exact Sim.stuck | exact .ret ⟨rfl, rfl⟩ | skip)
      case ptr.ptr a a' h b b' h' =>
        show Sim P K W0 N0 β (sizeOf e >>= _) (sizeOf e >>= _) _
        refine Sim.sizeOf_bind fun i hi => Sim.ite (fun _ => sim_sameAddr h h') fun _ => ?_
        by_cases hb : a.block = b.block
        · rw [h.eq_iff h' hb]
          exact Sim.ite (fun _ => .ret ⟨rfl, rfl⟩) fun _ => Never.sim fun lim σ => rfl
        · have h1 : (a == b) = false := by
            rw [beq_eq_false_iff_ne]; intro e; exact hb (by rw [e])
          rw [if_neg (by rw [h1]; simp)]
          exact Never.sim fun lim σ => rfl
    case unsafePointer =>
      cases hx <;> first | exact Sim.stuck | (cases hy <;> first | exact Sim.stuck | exact .ret ⟨rfl, rfl⟩ | skip)
      case ptr.ptr a a' h b b' h' => exact sim_sameAddr h h'
    case chan dd e => cases hx <;> first | exact Sim.stuck | (cases hy <;> first | exact Sim.stuck | exact .ret ⟨rfl, rfl⟩)
    case interface ms =>
      cases hx <;> first | exact Sim.stuck | (cases hy <;> first | exact Sim.stuck | exact .ret ⟨rfl, rfl⟩ | skip)
      case iface.iface tx vx vx' h ty vy vy' h' =>
        refine Sim.ite (fun _ => .ret ⟨rfl, rfl⟩) fun _ => ?_
        refine Sim.typeInfo_bind fun i hi => Sim.ite (fun _ => ?_) fun _ => sim_equalIn d tx h h'
        refine Never.sim (Never.bind_r fun _ => Never.bind_r fun _ => ?_)
        dsimp only
        split
        · exact Never.bind (never_unsupported _)
        · exact Never.bind_r fun _ => never_runtimePanic _
    case struct fs =>
      cases hx <;> first | exact Sim.stuck | (cases hy <;> first | exact Sim.stuck | skip)
      case agg.agg xs xs' h1 h2 ys ys' h3 h4 =>
        refine Sim.program_bind ?_
        dsimp only
        refine Sim.ite (fun _ => (Never.bind (never_unsupported _)).sim) fun _ => ?_
        rw [← Array.forIn_toList, ← Array.forIn_toList]
        refine Sim.bindEq (Sim.forIn (fun f _ => ?_) _ _) fun r => ?_
        · exact Sim.ite (fun _ => sim_eqStep (sim_equalIn d) ⟨h1, h2⟩ ⟨h3, h4⟩ f.type f.offset) fun _ => .ret ⟨rfl, rfl⟩
        · obtain ⟨r1, _⟩ := r
          cases r1 <;> exact .ret ⟨rfl, rfl⟩
    case array n e =>
      cases hx <;> first | exact Sim.stuck | (cases hy <;> first | exact Sim.stuck | skip)
      case agg.agg xs xs' h1 h2 ys ys' h3 h4 =>
        refine Sim.sizeOf_bind fun i hi => ?_
        simp only [Std.Legacy.Range.forIn_eq_forIn_range', Std.Legacy.Range.size, Nat.sub_zero, Nat.add_one_sub_one, Nat.div_one]
        refine Sim.bindEq (Sim.forIn (fun j _ => ?_) _ _) fun r => ?_
        · exact sim_eqStep (sim_equalIn d) ⟨h1, h2⟩ ⟨h3, h4⟩ e _
        · obtain ⟨r1, _⟩ := r
          cases r1 <;> exact .ret ⟨rfl, rfl⟩
    case slice e =>
      cases hx <;> first | exact Sim.stuck | (cases hy <;> first | exact Sim.stuck | exact .ret ⟨rfl, rfl⟩)
    case map k e => cases hx <;> first | exact Sim.stuck | (cases hy <;> first | exact Sim.stuck | exact .ret ⟨rfl, rfl⟩)
    case func ps rs v => cases hx <;> first | exact Sim.stuck | (cases hy <;> first | exact Sim.stuck | exact .ret ⟨rfl, rfl⟩)
    all_goals (cases hx <;> first | exact Sim.stuck | (cases hy <;> exact Sim.stuck))

theorem sim_equal {β : Inj} {x x' y y' : Value} (t : TypeId) (hx : vRel β x x') (hy : vRel β y y') : Sim P K W0 N0 β (Op.equal t x y) (Op.equal t x' y') (eqRel β) := sim_equalIn _ t hx hy

/-! ## Operators -/

theorem sim_intArith {β : Inj} (op : BinOp) (k : IntKind) (x y : Int) : Sim P K W0 N0 β (Op.intArith op k x y) (Op.intArith op k x y) vRel := by
  cases op <;> first | exact .ret (.int _ _) | exact Sim.stuck
theorem sim_intBits {β : Inj} (op : BinOp) (k : IntKind) (x y : Int) : Sim P K W0 N0 β (Op.intBits op k x y) (Op.intBits op k x y) vRel := by
  cases op <;> first | exact .ret (.int _ _) | exact Sim.stuck
theorem sim_intCmp {β : Inj} (op : BinOp) (x y : Int) : Sim P K W0 N0 β (Op.intCmp op x y) (Op.intCmp op x y) vRel := by
  cases op <;> first | exact .ret (.bool _) | exact Sim.stuck
theorem sim_intDiv {β : Inj} (op : BinOp) (k : IntKind) (x y : Int) : Sim P K W0 N0 β (Op.intDiv op k x y) (Op.intDiv op k x y) vRel := by
  unfold Op.intDiv
  refine Sim.ite (fun _ => Sim.runtimePanic) fun _ => ?_
  cases op <;> first | exact .ret (.int _ _) | exact Sim.stuck
theorem sim_shift {β : Inj} (op : BinOp) (k k' : IntKind) (x y : Int) : Sim P K W0 N0 β (Op.shift op k x k' y) (Op.shift op k x k' y) vRel := by
  unfold Op.shift
  refine Sim.ite (fun _ => Sim.runtimePanic) fun _ => ?_
  cases op <;> first | exact .ret (.int _ _) | exact Sim.stuck
theorem sim_stringOp {β : Inj} (op : BinOp) (x y : ByteArray) : Sim P K W0 N0 β (Op.stringOp op x y) (Op.stringOp op x y) (fun β' v v' => β' = β ∧ v = v' ∧ vRel β v v') := by
  unfold Op.stringOp
  dsimp only
  cases op <;> first | exact .ret ⟨rfl, rfl, .bool _⟩ | exact Sim.stuck | exact Sim.ite (fun _ => Sim.unsupported) fun _ => .ret ⟨rfl, rfl, .string _⟩

theorem sim_binOp {β : Inj} {op : BinOp} {t : TypeId} {c : Bool} {x x' y y' : Value} (hx : vRel β x x') (hy : vRel β y y') (ho : binOkA P op t c x y = true) :
    Sim P K W0 N0 β (binOp op t x y) (binOp op t x' y') vRel := by
  have eq1 : ∀ {x x' y y' : Value}, vRel β x x' → vRel β y y' → Sim P K W0 N0 β (do pure (.bool (← Op.equal t x y)) : Sem Value) (do pure (.bool (← Op.equal t x' y'))) vRel :=
    fun hx hy => Sim.bindEq (sim_equal t hx hy) fun v => .ret (.bool v)
  have eq2 : ∀ {x x' y y' : Value}, vRel β x x' → vRel β y y' → Sim P K W0 N0 β (do pure (.bool (!(← Op.equal t x y))) : Sem Value) (do pure (.bool (!(← Op.equal t x' y')))) vRel :=
    fun hx hy => Sim.bindEq (sim_equal t hx hy) fun v => .ret (.bool _)
  have ints : ∀ (k k' : IntKind) (n m : Int), Sim P K W0 N0 β (binOp op t (.int k n) (.int k' m)) (binOp op t (.int k n) (.int k' m)) vRel := by
    intro k k' n m
    cases op <;> simp only [binOp] <;> first
      | exact sim_shift _ _ _ _ _
      | exact Sim.ite (fun _ => Sim.stuck) fun _ => sim_intArith _ _ _ _
      | exact Sim.ite (fun _ => Sim.stuck) fun _ => sim_intDiv _ _ _ _
      | exact Sim.ite (fun _ => Sim.stuck) fun _ => sim_intBits _ _ _ _
      | exact Sim.ite (fun _ => Sim.stuck) fun _ => sim_intCmp _ _ _
  have strs : ∀ (n m : ByteArray), Sim P K W0 N0 β (binOp op t (.string n) (.string m)) (binOp op t (.string n) (.string m)) vRel := by
    intro n m
    have key : binOp op t (.string n) (.string m) = Op.stringOp op n m := by cases op <;> rfl
    rw [key]
    exact (sim_stringOp op n m).mono fun β' v v' _ h => by obtain ⟨rfl, rfl, h⟩ := h; exact h
  have both : ∀ {x x' y y' : Value}, vRel β x x' → vRel β y y' → isEq op = true → (binOp .eql t x y = do pure (.bool (← Op.equal t x y))) → (binOp .eql t x' y' = do pure (.bool (← Op.equal t x' y'))) →
      (binOp .neq t x y = do pure (.bool (!(← Op.equal t x y)))) → (binOp .neq t x' y' = do pure (.bool (!(← Op.equal t x' y')))) → Sim P K W0 N0 β (binOp op t x y) (binOp op t x' y') vRel := by
    intro x x' y y' hx hy hq e1 e2 e3 e4
    cases op <;> first | cases hq | skip
    · rw [e1, e2]; exact eq1 hx hy
    · rw [e3, e4]; exact eq2 hx hy
  cases hx with
  | int k n => cases hy <;> first | exact ints _ _ _ _ | cases ho
  | string s => cases hy <;> first | exact strs _ _ | cases ho
  | bool b => cases hy <;> first | exact both (.bool _) (.bool _) ho rfl rfl rfl rfl | cases ho
  | ptrNone => cases hy with
    | ptrNone => exact both .ptrNone .ptrNone ho rfl rfl rfl rfl
    | ptr h => exact both .ptrNone (.ptr h) ho rfl rfl rfl rfl
    | _ => cases ho
  | ptr h => cases hy with
    | ptrNone => exact both (.ptr h) .ptrNone ho rfl rfl rfl rfl
    | ptr h' => exact both (.ptr h) (.ptr h') ho rfl rfl rfl rfl
    | _ => cases ho
  | sliceNone l c => cases hy with
    | sliceNone l' c' => exact both (.sliceNone _ _) (.sliceNone _ _) ho rfl rfl rfl rfl
    | slice l' h hc => exact both (.sliceNone _ _) (.slice _ h hc) ho rfl rfl rfl rfl
    | void a c h => exact both (.sliceNone _ _) (.void _ _ h) ho rfl rfl rfl rfl
    | _ => cases ho
  | slice l h hc => cases hy with
    | sliceNone l' c' => exact both (.slice _ h hc) (.sliceNone _ _) ho rfl rfl rfl rfl
    | slice l' h' hc' => exact both (.slice _ h hc) (.slice _ h' hc') ho rfl rfl rfl rfl
    | void a c h' => exact both (.slice _ h hc) (.void _ _ h') ho rfl rfl rfl rfl
    | _ => cases ho
  | void a c h => cases hy with
    | sliceNone l' c' => exact both (.void _ _ h) (.sliceNone _ _) ho rfl rfl rfl rfl
    | slice l' h' hc' => exact both (.void _ _ h) (.slice _ h' hc') ho rfl rfl rfl rfl
    | void a c h' => exact both (.void _ _ h) (.void _ _ h') ho rfl rfl rfl rfl
    | _ => cases ho
  | mapNone => cases hy with
    | mapNone => exact both .mapNone .mapNone ho rfl rfl rfl rfl
    | map h h0 => exact both .mapNone (.map h h0) ho rfl rfl rfl rfl
    | _ => cases ho
  | map h h0 => cases hy with
    | mapNone => exact both (.map h h0) .mapNone ho rfl rfl rfl rfl
    | map h' h0' => exact both (.map h h0) (.map h' h0') ho rfl rfl rfl rfl
    | _ => cases ho
  | nilFunc => cases hy with
    | nilFunc => exact both .nilFunc .nilFunc ho rfl rfl rfl rfl
    | func h hf h1 hc h2 => exact both .nilFunc (.func h hf h1 hc h2) ho rfl rfl rfl rfl
    | _ => cases ho
  | func h hf h1 hc h2 => cases hy with
    | nilFunc => exact both (.func h hf h1 hc h2) .nilFunc ho rfl rfl rfl rfl
    | _ => cases ho
  | nilIface => cases hy with
    | nilIface => exact both .nilIface .nilIface (by simp only [binOkA, Bool.and_eq_true] at ho; exact ho.2) rfl rfl rfl rfl
    | iface t h => exact both .nilIface (.iface _ h) ho rfl rfl rfl rfl
    | _ => cases ho
  | iface t h => cases hy with
    | nilIface => exact both (.iface _ h) .nilIface ho rfl rfl rfl rfl
    | iface t h' => exact both (.iface _ h) (.iface _ h') ho rfl rfl rfl rfl
    | _ => cases ho
  | agg h1 h2 => cases hy with
    | agg h3 h4 => exact both (.agg h1 h2) (.agg h3 h4) (by simp only [binOkA, Bool.and_eq_true] at ho; exact ho.1) rfl rfl rfl rfl
    | _ => cases ho
  | _ => cases ho

theorem sim_unary {β : Inj} (op : UnOp) {x x' : Value} (hx : vRel β x x') (hf : unOkA x = true) : Sim P K W0 N0 β (Op.unary op x) (Op.unary op x') vRel := by
  cases hx with
  | int k n => cases op with
    | neg => exact sim_intArith .sub k 0 n
    | xor => exact sim_intBits .xor k _ n
    | not => exact Sim.stuck
    | plus => exact Sim.stuck
  | float k n => cases hf
  | complex k n m => cases hf
  | bool b => cases op <;> first | exact Sim.stuck | exact .ret (.bool _)
  | ptr h => cases op <;> first | exact Sim.stuck | exact Sim.unsupported
  | _ => cases op <;> exact Sim.stuck

end Go.Va
