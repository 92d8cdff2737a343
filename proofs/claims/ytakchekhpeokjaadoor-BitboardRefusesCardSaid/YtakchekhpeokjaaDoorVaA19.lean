/-
  THE MACHINE: the steps of a frame, which may be that of a round of a loop over a function; what it is that a call lands.
-/
import Derived.Test.YtakchekhpeokjaaDoorVaA18
import Derived.Calls
namespace Go.Va
variable {P : Program}

/-- A frame that runs. -/
def Fr (b : Frame) (t : Array Value) (d : List Deferred) (k : List Item) : Frame := { b with tmps := t, defers := d, todo := k, mode := .run }

def evA (t : Array Value) : Operand → Value
  | .tmp i => t.getD i undef
  | .const v => v
  | .global g => .pointer (some ⟨g, 0, none⟩)
  | .func f => .func (.func f) #[] #[]

def putA (t : Array Value) (dst : Option Tmp) (v : Value) : Array Value :=
  match dst with
  | some d => t.setIfInBounds d v
  | none => t

theorem Fr_eval (b : Frame) (t : Array Value) (d : List Deferred) (k : List Item) : (Fr b t d k).eval = evA t := funext fun x => by cases x <;> rfl

theorem Fr_finish (b : Frame) (t : Array Value) (d : List Deferred) (ops : Array Oper) (i : Nat) (rest : List Nat) (k : List Item) (v : Value) :
    (Fr b t d (.inRegion ops (i :: rest) :: k)).finish v = Fr b (putA t ((ops[i]?).bind (·.dst)) v) d (.inRegion ops rest :: k) := by
  cases h : (ops[i]?).bind (·.dst) <;> simp [Frame.finish, Fr, putA, h]

section moves
variable {b : Frame} {t : Array Value} {d : List Deferred} {k : List Item} {cs : List Frame} {w : World}

theorem st_skip : step P (lone (Fr b t d (.code .skip :: k)) cs w) = .next (lone (Fr b t d k) cs w) := step_lone_go (by simp [stepG, stepG.exec, Fr])
theorem st_label {l : Nat} : step P (lone (Fr b t d (.code (.label l) :: k)) cs w) = .next (lone (Fr b t d k) cs w) := step_lone_go (by simp [stepG, stepG.exec, Fr])
theorem st_inBlock {l : Nat} : step P (lone (Fr b t d (.inBlock l :: k)) cs w) = .next (lone (Fr b t d k) cs w) := step_lone_go (by simp [stepG, stepG.exec, Fr])
theorem st_inScope {l : Code} : step P (lone (Fr b t d (.inScope l :: k)) cs w) = .next (lone (Fr b t d k) cs w) := step_lone_go (by simp [stepG, stepG.exec, Fr])
theorem st_seq {x y : Code} : step P (lone (Fr b t d (.code (.seq x y) :: k)) cs w) = .next (lone (Fr b t d (.code x :: .code y :: k)) cs w) := step_lone_go (by simp [stepG, stepG.exec, Fr])
theorem st_cond {c : Operand} {x y : Code} {v : Bool} (h : evA t c = .bool v) :
    step P (lone (Fr b t d (.code (.cond c x y) :: k)) cs w) = .next (lone (Fr b t d (.code (bif v then x else y) :: k)) cs w) :=
  step_lone_go (by
    have := congrFun (Fr_eval b t d (.code (.cond c x y) :: k)) c
    simp only [Fr] at this
    simp [stepG, stepG.exec, Fr, this, h])
theorem st_block {id : Nat} {c : Code} : step P (lone (Fr b t d (.code (.block id c) :: k)) cs w) = .next (lone (Fr b t d (.code c :: .inBlock id :: k)) cs w) := step_lone_go (by simp [stepG, stepG.exec, Fr])
theorem st_loop {c : Code} : step P (lone (Fr b t d (.code (.loop c) :: k)) cs w) = .next (lone (Fr b t d (.code c :: .inLoop c :: k)) cs w) := step_lone_go (by simp [stepG, stepG.exec, Fr])
theorem st_inLoop {c : Code} : step P (lone (Fr b t d (.inLoop c :: k)) cs w) = .next (lone (Fr b t d (.code c :: .inLoop c :: k)) cs w) := step_lone_go (by simp [stepG, stepG.exec, Fr])
theorem st_scope {c : Code} : step P (lone (Fr b t d (.code (.scope c) :: k)) cs w) = .next (lone (Fr b t d (.code c :: .inScope c :: k)) cs w) := step_lone_go (by simp [stepG, stepG.exec, Fr])
theorem st_exit {id : Nat} {k' : List Item} (h : exitTo id k = some k') : step P (lone (Fr b t d (.code (.exit id) :: k)) cs w) = .next (lone (Fr b t d k') cs w) :=
  step_lone_go (by simp [stepG, stepG.exec, Fr, h])
theorem st_goto {l : Nat} {k' : List Item} (h : gotoIn l k = some k') : step P (lone (Fr b t d (.code (.goto l) :: k)) cs w) = .next (lone (Fr b t d k') cs w) :=
  step_lone_go (by simp [stepG, stepG.exec, Fr, h])
theorem st_region {id : Nat} {ops : Array Oper} : step P (lone (Fr b t d (.code (.region id ops false) :: k)) cs w) = .next (lone (Fr b t d (.inRegion ops (List.range ops.size) :: k)) cs w) :=
  step_lone_go (by simp [stepG, stepG.exec, Fr])
theorem st_region_draw {id : Nat} {ops : Array Oper} : step P (lone (Fr b t d (.code (.region id ops true) :: k)) cs w) =
    .next (lone (Fr b t d (.inRegion ops (Region.schedule (P.follows .mixedOrders) ops (w.tape w.drawn (.order b.fn id))) :: k)) cs { w with drawn := w.drawn + 1 }) :=
  step_lone_go (by simp [stepG, stepG.exec, Fr, choose, Sem.run, Question.forced, Question.cut])
theorem st_region_end {ops : Array Oper} : step P (lone (Fr b t d (.inRegion ops [] :: k)) cs w) = .next (lone (Fr b t d k) cs w) := step_lone_go (by simp [stepG, stepG.exec, Fr])
theorem st_unwanted {ops : Array Oper} {i : Nat} {rest : List Nat} (h : ((ops[i]?).map (Region.wanted · (yielded ops t))).getD false = false) :
    step P (lone (Fr b t d (.inRegion ops (i :: rest) :: k)) cs w) = .next (lone (Fr b (putA t ((ops[i]?).bind (·.dst)) undef) d (.inRegion ops rest :: k)) cs w) := by
  rw [← Fr_finish]
  exact step_lone_go (by
    simp only [Fr] at *
    simp [stepG, stepG.exec, h])
/-- The frame has come to its end. -/
theorem st_leave (hr : b.roundOf = none) : step P (lone (Fr b t d []) cs w) = .next (lone { Fr b t d [] with mode := .returning } cs w) := step_lone_go (by simp [stepG, stepG.exec, Fr, hr])
theorem st_ret (hr : b.roundOf = none) : step P (lone (Fr b t d (.code .ret :: k)) cs w) = .next (lone { Fr b t d (.code .ret :: k) with mode := .returning } cs w) := step_lone_go (by simp [stepG, stepG.exec, Fr, hr])
/-- A mark among the deferred calls is taken. -/
theorem st_mark {fr : Frame} {r : Nat} {a : Array Value} {ds : List Deferred} {w' : World} (hm : fr.mode = .returning) (hd : fr.defers = { target := .collected r, args := a } :: ds)
    (h : (Instr.takeDeferred r).run P w = .ok [] w') : step P (lone fr cs w) = .next (lone { fr with defers := ds } cs w') :=
  step_lone_go (by simp [stepG, hm, unwind, hd, h])
theorem st_endRange {l : Nat} {j : Option Code} {w' : World} (h : (Instr.endLoop l).run P w = .ok j w') :
    step P (lone (Fr b t d (.endRangeFunc l :: k)) cs w) = .next (lone (Fr b t d ((j.map Item.code).toList ++ k)) cs w') :=
  step_lone_go (by simp [stepG, stepG.exec, Fr, h])
theorem st_beginRound {l : Nat} {w' : World} (hr : b.roundOf = some l) (h : (Instr.beginRound l).run P w = .ok () w') :
    step P (lone (Fr b t d (.beginRound :: k)) cs w) = .next (lone (Fr b t d k) cs w') :=
  step_lone_go (by simp [stepG, stepG.exec, stepG.apply, Fr, hr, h, Result.andThen, Frame.finish])
/-- A round ends. -/
theorem st_endRound {c : Frame} {l : Nat} {v : Value} {w' : World} (hr : b.roundOf = some l) (hk : b.kind = .normal) (h : (Instr.endRound l none).run P w = .ok v w') :
    step P (lone (Fr b t d []) (c :: cs) w) = .next (lone (c.finish v) cs w') :=
  step_lone_go (by simp [stepG, stepG.exec, Fr, hr, hk, h, doReturn])
theorem st_endRoundRet {c : Frame} {l : Nat} {v : Value} {w' : World} (hr : b.roundOf = some l) (hk : b.kind = .normal) (h : (Instr.endRound l (some .ret)).run P w = .ok v w') :
    step P (lone (Fr b t d (.code .ret :: k)) (c :: cs) w) = .next (lone (c.finish v) cs w') :=
  step_lone_go (by simp [stepG, stepG.exec, Fr, hr, hk, h, doReturn])
theorem st_endRoundExit {c : Frame} {l id : Nat} {v : Value} {w' : World} (he : exitTo id k = none) (hr : b.roundOf = some l) (hk : b.kind = .normal) (h : (Instr.endRound l (some (.exit id))).run P w = .ok v w') :
    step P (lone (Fr b t d (.code (.exit id) :: k)) (c :: cs) w) = .next (lone (c.finish v) cs w') :=
  step_lone_go (by simp [stepG, stepG.exec, Fr, hr, hk, h, he, doReturn])
theorem st_endRoundGoto {c : Frame} {l id : Nat} {v : Value} {w' : World} (he : gotoIn id k = none) (hr : b.roundOf = some l) (hk : b.kind = .normal) (h : (Instr.endRound l (some (.goto id))).run P w = .ok v w') :
    step P (lone (Fr b t d (.code (.goto id) :: k)) (c :: cs) w) = .next (lone (c.finish v) cs w') :=
  step_lone_go (by simp [stepG, stepG.exec, Fr, hr, hk, h, he, doReturn])
end moves

/-- WHAT A CALL LANDS: it comes to a value, at once or by a frame of its own. -/
inductive Lands (P : Program) (s : Sem Next) (w : World) (Q : Value → World → Prop) : Prop where
  | value {v : Value} {w' : World} (h : s.run P w = .ok (.value v) w') (q : Q v w')
  | skip {w' : World} (h : s.run P w = .ok .skip w') (q : Q undef w')
  | enter {f : FuncId} {args : Array Value} {w1 : World} (h : s.run P w = .ok (.enter f args) w1) (q : Calls P f args w1 fun e w' => ∃ v, e = .returned v ∧ Q v w')
  | row {row : String} {args : Array Value} {w1 : World} (h : s.run P w = .ok (.row row args) w1) (q : Rows P row args w1 Q)
  | round {l : Nat} {f : FuncId} {t : Array Value} {a body : Code} {w1 : World} (h : s.run P w = .ok (.round l f t a body) w1)
      (q : ∀ (c : Frame) cs, ∃ v w', Q v w' ∧ Steps P (lone (Frame.round l f t a body .normal) (c :: cs) w1) (lone (c.finish v) cs w'))

theorem Lands.mono {s : Sem Next} {w : World} {Q Q' : Value → World → Prop} (h : Lands P s w Q) (hq : ∀ v w', Q v w' → Q' v w') : Lands P s w Q' := by
  cases h with
  | value h q => exact .value h (hq _ _ q)
  | skip h q => exact .skip h (hq _ _ q)
  | enter h q =>
    refine .enter h fun cs => ?_
    obtain ⟨e, w', fr, ⟨v, he, q⟩, r⟩ := q cs
    exact ⟨e, w', fr, ⟨v, he, hq _ _ q⟩, r⟩
  | row h q => exact .row h (q.mono hq)
  | round h q =>
    refine .round h fun c cs => ?_
    obtain ⟨v, w', q, r⟩ := q c cs
    exact ⟨v, w', hq _ _ q, r⟩

theorem Lands.congr {s s' : Sem Next} {w : World} {Q : Value → World → Prop} (h : Lands P s w Q) (e : s'.run P w = s.run P w) : Lands P s' w Q := by
  cases h with
  | value h q => exact .value (e.trans h) q
  | skip h q => exact .skip (e.trans h) q
  | enter h q => exact .enter (e.trans h) q
  | row h q => exact .row (e.trans h) q
  | round h q => exact .round (e.trans h) q

/-- The items that a call is made at. -/
def Calling : List Item → Prop
  | .inRegion .. :: _ | .inRangeFunc _ :: _ => True
  | _ => False

/-- A frame whose step is a call goes on with what the call lands. -/
theorem Lands.steps {s : Sem Next} {w : World} {Q : Value → World → Prop} (h : Lands P s w Q) {fr0 fr : Frame} {cs : List Frame} {w0 : World} (hc : Calling fr.todo)
    (hs : (stepG P true { frame := fr0, callers := cs, status := .running, dying := none } w0).bare = (stepG.apply P true fr cs none s w).bare) :
    ∃ v w', Q v w' ∧ Steps P (lone fr0 cs w0) (lone (fr.finish v) cs w') := by
  obtain ⟨fn, tmps, todo, defers, mode, kind, roundOf⟩ := fr
  cases todo with
  | nil => exact hc.elim
  | cons it k =>
  cases it <;> first | exact hc.elim | skip
  all_goals
    cases h with
    | value h q => exact ⟨_, _, q, .one (step_lone_go (by rw [hs]; simp [stepG.apply, h]))⟩
    | skip h q => exact ⟨_, _, q, .one (step_lone_go (by rw [hs]; simp [stepG.apply, h]))⟩
    | enter h q =>
      obtain ⟨e, w', fr', ⟨v, rfl, q⟩, hsteps, _, hleave⟩ := q (⟨fn, tmps, _, defers, mode, kind, roundOf⟩ :: cs)
      exact ⟨v, w', q, .head (step_lone_go (by rw [hs]; simp [stepG.apply, h])) (Steps.trans hsteps (.one (step_leave_returned hleave)))⟩
    | row h q =>
      obtain ⟨v, w', q, hsteps⟩ := q ⟨fn, tmps, _, defers, mode, kind, roundOf⟩ cs
      exact ⟨v, w', q, .head (step_lone_go (by rw [hs]; simp [stepG.apply, h])) hsteps⟩
    | round h q =>
      obtain ⟨v, w', q, hsteps⟩ := q ⟨fn, tmps, _, defers, mode, kind, roundOf⟩ cs
      exact ⟨v, w', q, .head (step_lone_go (by rw [hs]; simp [stepG.apply, h])) hsteps⟩

end Go.Va
