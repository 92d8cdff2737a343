/-
  THE INTERPRETER WITH HINTS: definitions.
-/
import Derived.Test.YtakchekhpeokjaaDoorVaH1
namespace Go.Va

/-- A hint: which way a condition turns; what an operation answers; that the guard of a partial operation holds. -/
inductive Hint where
  | br (b : Bool)
  | val (v : Value)
  | ok
  | cells (c : List Value)
  | skip (o : Out) (σ : AS)
  | res (v : Value) (σ : AS)
  | stop

/-- The hints that are left, each with the number of steps before it; what has been noted as a premise. -/
structure HS where
  hs : List (Nat × Hint)
  ob : List Prop

def HS.tick (s : HS) : Option Hint × HS :=
  match s.hs with
  | [] => (none, s)
  | (k, h) :: l => bif Nat.beq k 0 then (some h, ⟨l, s.ob⟩) else (none, ⟨(k - 1, h) :: l, s.ob⟩)
def HS.note (s : HS) (p : Prop) : HS := ⟨s.hs, p :: s.ob⟩

/-- A value is brought to its form before it is handed on (for the kernel's sake). -/
def force {β : Type} : Value → (Value → β) → β
  | .bool b, k => k (.bool b)
  | .int x n, k => k (.int x n)
  | .string b, k => k (.string b)
  | .pointer a, k => k (.pointer a)
  | .slice a l c, k => k (.slice a l c)
  | .tuple a, k => k (.tuple a)
  | .agg a, k => k (.agg a)
  | .iface a b, k => k (.iface a b)
  | .func a b c, k => k (.func a b c)
  | .map a, k => k (.map a)
  | .nilIface, k => k .nilIface
  | .nilFunc, k => k .nilFunc
  | v, k => k v
theorem force_eq {β : Type} (v : Value) (k : Value → β) : force v k = k v := by cases v <;> rfl
def forceL {β : Type} : List Value → (List Value → β) → β
  | [], k => k []
  | v :: l, k => force v fun v' => forceL l fun l' => k (v' :: l')
theorem forceL_eq {β : Type} : ∀ (l : List Value) (k : List Value → β), forceL l k = k l
  | [], _ => rfl
  | v :: l, k => by unfold forceL; rw [force_eq, forceL_eq]

def isB (v : Value) (b : Bool) : Prop := match v with
  | .bool x => x = b
  | _ => False
theorem isB_eq {v : Value} {b : Bool} (h : isB v b) : v = .bool b := by
  cases v <;> first | (rw [show _ = b from h]) | exact h.elim

abbrev RecH := Nat → Task → AS → HS → Option (Out × AS × HS)

def liftH {α : Type} (s : HS) : Option (α × AS) → Option (α × AS × HS)
  | some (a, σ) => some (a, σ, s)
  | none => none

/-- What a partial operation answers, and when. -/
def guarded (P : Program) (o : Oper) (t : List Value) : Option (Value × Prop) :=
  match o.op with
  | .binOp .shl _ x y _ => (match ev t x, ev t y with
    | .int k a, .int _ b => some (.int k (k.wrap (a * 2 ^ (min b.toNat k.bits))), 0 ≤ b)
    | _, _ => none)
  | .binOp .shr _ x y _ => (match ev t x, ev t y with
    | .int k a, .int _ b => some (.int k (a.fdiv (2 ^ (min b.toNat k.bits))), 0 ≤ b)
    | _, _ => none)
  | .binOp .add _ x y _ => (match ev t x, ev t y with
    | .string a, .string b => some (.string (a ++ b), ((a.size + b.size : Nat) : Int) ≤ IntKind.i64.max)
    | _, _ => none)
  | .index xt x ix => (match P.underlying xt, ev t x, ev t ix with
    | some .string, .string s, .int _ i => some (.int .u8 (s.data.toList.getD i.toNat 0).toNat, 0 ≤ i ∧ i < s.size)
    | _, _, _ => none)
  | .slice st x lo hi none => (match P.underlying st, ev t x, lo.map (ev t), hi.map (ev t) with
    | some .string, .string s, some (.int _ l), some (.int _ h) => some (.string (s.extract l.toNat h.toNat), 0 ≤ l ∧ l ≤ h ∧ h ≤ s.size)
    | some .string, .string s, none, some (.int _ h) => some (.string (s.extract 0 h.toNat), 0 ≤ h ∧ h ≤ s.size)
    | some .string, .string s, some (.int _ l), none => some (.string (s.extract l.toNat s.size), 0 ≤ l ∧ l ≤ s.size)
    | _, _, _, _ => none)
  | _ => none

def enterH (E : Env) (rec : RecH) (lim : Nat) (f : FuncId) (args : List Value) (σ : AS) (s : HS) : Option (Value × AS × HS) :=
  bif E.isOv f then liftH s (E.ov f args lim σ) else
    match rec lim (.call f args) σ s with
    | some (.val v, σ', s') => some (v, σ', s')
    | _ => none

def applyH (P : Program) (E : Env) (rec : RecH) (lim : Nat) (f : Value) (args : List Value) (σ : AS) (s : HS) : Option (Value × AS × HS) :=
  match f with
  | .func (.func g) first captured => enterH E rec lim g (first.toList ++ args ++ captured.toList) σ s
  | .func (.yield l) first _ =>
    match runA P lim (Instr.yield l (first ++ args.toArray)) σ with
    | some (.round l f t assign body, σ1) =>
      match rec lim (.round l f t.toList assign body) σ1 s with
      | some (.val v, σ', s') => some (v, σ', s')
      | _ => none
    | _ => none
  | _ => none

def operC (P : Program) (E : Env) (rec : RecH) (lim : Nat) (o : Oper) (t : List Value) (σ : AS) (s : HS) : Option (Value × AS × HS) :=
  match o.op with
  | .call c => (match c.callee with
    | .value f => forceL (c.args.toList.map (ev t)) fun args => applyH P E rec lim (ev t f) args σ s
    | _ => liftH s (operA P E rec0 lim o t σ))
  | _ => liftH s (operA P E rec0 lim o t σ)

noncomputable def operH (P : Program) (E : Env) (rec : RecH) (lim : Nat) (o : Oper) (t : List Value) (σ : AS) (s : HS) : Option (Value × AS × HS) :=
  match s.tick with
  | (some (.val v), s1) => some (v, σ, s1.note (operA P E rec0 lim o t σ = some (v, σ)))
  | (some .ok, s1) => (match guarded P o t with
    | some (v, p) => some (v, σ, s1.note p)
    | none => none)
  | (some (.br b), s1) => (match operC P E rec lim o t σ s1 with
    | some (v, σ', s') => some (.bool b, σ', s'.note (isB v b))
    | none => none)
  | (some (.cells c), s1) => (match o.op with
    | .convert src dst x => (match ev t x, P.underlying src, P.underlying dst with
      | .string b, some .string, some (.slice e) => (match P.underlying e with
        | some (.int .u8) => some (.slice (some ⟨σ.next, 0, none⟩) b.size b.size, σ.push (.cells c true (some 1, some e) none), s1.note (b.data.toList.map (fun x => Value.int .u8 x.toNat) = c))
        | some (.int .i32) => some (.slice (some ⟨σ.next, 0, none⟩) c.length c.length, σ.push (.cells c true (some 1, some e) none), s1.note ((Conv.runesFrom b b.size 0 #[]).toList = c))
        | _ => none)
      | _, _, _ => none)
    | _ => none)
  | (some (.res v σ'), s1) => some (v, σ', s1.note (operA P E (runW P E) lim o t σ = some (v, σ')))
  | (some (.skip _ _), _) => none
  | (some .stop, _) => none
  | (none, s1) => operC P E rec lim o t σ s1

noncomputable def opsH (P : Program) (E : Env) (rec : RecH) (ops : Array Oper) (q : Bool) (lim : Nat) : List Oper → List Value → AS → HS → Option (List Value × AS × HS)
  | [], t, σ, s => some (t, σ, s)
  | o :: rest, t, σ, s =>
    bif Region.wanted o (yieldedL ops t) then
      (match operH P E rec (bif q then σ.next else lim) o t σ s with
      | some (v, σ', s') => force v fun v => opsH P E rec ops q lim rest (putT t o.dst v) σ' s'
      | none => none)
    else opsH P E rec ops q lim rest (putT t o.dst undef) σ s

noncomputable def op1H (P : Program) (E : Env) (rec : RecH) (ops : Array Oper) (q : Bool) (lim : Nat) (o : Oper) (t : List Value) (σ : AS) (s : HS) : Option (Value × AS × HS) :=
  bif Region.wanted o (yieldedL ops t) then operH P E rec (bif q then σ.next else lim) o t σ s else some (undef, σ, s)

noncomputable def opsIH (P : Program) (E : Env) (rec : RecH) (ops : Array Oper) (lim : Nat) : List (Nat × Bool) → List Value → AS → HS → Option (List Value × AS × HS)
  | [], t, σ, s => some (t, σ, s)
  | x :: l, t, σ, s => match ops[x.1]? with
    | some o =>
      (match op1H P E rec ops x.2 lim o t σ s with
      | some (v, σ', s') => force v fun v => opsIH P E rec ops lim l (putT t o.dst v) σ' s'
      | none => none)
    | none => none

def rangeH (P : Program) (E : Env) (rec : RecH) (lim : Nat) (x : Ctx) (f : Operand) (params : Array Tmp) (assign body : Code) (t : List Value) (ds : List Nat) (σ : AS) (s : HS) : Option (Out × AS × HS) :=
  match runA P lim (Instr.enterLoop x.fn t.toArray params assign body x.round) σ with
  | some ((l, mark), σ1) =>
    match markIds mark with
    | some m =>
      match applyH P E rec lim (ev t f) [.func (.yield l) #[] #[]] σ1 s with
      | some (_, σ2, s2) => liftH s2 (rangeEnd P lim t (m ++ ds) l σ2)
      | none => none
    | none => none
  | none => none

noncomputable def stepH (P : Program) (E : Env) (rec : RecH) (lim : Nat) : Task → AS → HS → Option (Out × AS × HS)
  | .code x c t ds, σ, s =>
    match c with
    | .skip | .label _ => some (.done .normal t ds, σ, s)
    | .region id ops draw =>
      bif draw then
        match E.draws x.fn id with
        | some pl =>
          match opsIH P E rec ops lim pl.l t σ s with
          | some (t1, σ1, s1) => some (.done .normal t1 ds, σ1, s1)
          | none => none
        | none => none
      else
        match opsH P E rec ops false lim ops.toList t σ s with
        | some (t1, σ1, s1) => some (.done .normal t1 ds, σ1, s1)
        | none => none
    | .seq a b =>
      match rec lim (.code x a t ds) σ s with
      | some (.done .normal t1 ds1, σ1, s1) => rec lim (.code x b t1 ds1) σ1 s1
      | r => r
    | .cond c a b =>
      match s.tick with
      | (some (.br b'), s1) => rec lim (.code x (bif b' then a else b) t ds) σ (s1.note (isB (ev t c) b'))
      | (some _, _) => none
      | (none, s1) =>
        match ev t c with
        | .bool b' => rec lim (.code x (bif b' then a else b) t ds) σ s1
        | _ => none
    | .block id body =>
      match rec lim (.code x body t ds) σ s with
      | some (.done (.exit id') t1 ds1, σ1, s1) => some (.done (bif Nat.beq id' id then .normal else .exit id') t1 ds1, σ1, s1)
      | r => r
    | .loop body =>
      match s.tick with
      | (some (.skip o σ'), s1) => some (o, σ', s1.note (runW P E lim (.code x (.loop body) t ds) σ = some (o, σ')))
      | (some _, _) => none
      | (none, s0) =>
        match rec lim (.code x body t ds) σ s0 with
        | some (.done .normal t1 ds1, σ1, s1) => rec lim (.code x (.loop body) t1 ds1) σ1 s1
        | r => r
    | .rangeFunc f params assign body => rangeH P E rec lim x f params assign body t ds σ s
    | .exit id => some (.done (.exit id) t ds, σ, s)
    | .scope body => rec lim (.scope x body body t ds) σ s
    | .goto l => some (.done (.goto l) t ds, σ, s)
    | .ret => some (.done .ret t ds, σ, s)
    | .refuse _ => none
  | .scope x body cur t ds, σ, s =>
    match rec lim (.code x cur t ds) σ s with
    | some (.done (.goto l) t1 ds1, σ1, s1) =>
      match findLabel body l with
      | some rest => rec lim (.scope x body rest t1 ds1) σ1 s1
      | none => some (.done (.goto l) t1 ds1, σ1, s1)
    | r => r
  | .call f args, σ, s =>
    bif E.ok f then
    match P.funcs[f]? with
    | some fn =>
      match fn.body with
      | some c =>
        match rec lim (.code ⟨f, none⟩ c (args ++ List.replicate (fn.ntmps - args.length) undef) []) σ s with
        | some (.done e t1 ds1, σ1, s1) =>
          match e with
          | .normal | .ret =>
            match takeA P lim ds1 σ1 with
            | some σ2 =>
              match runA P lim (results fn t1.toArray) σ2 with
              | some (v, σ3) => some (.val v, σ3, s1)
              | none => none
            | none => none
          | _ => none
        | _ => none
      | none => none
    | none => none
    else none
  | .round l f t assign body, σ, s =>
    match rec lim (.code ⟨f, some l⟩ assign t []) σ s with
    | some (.done .normal t1 [], σ1, s1) =>
      match runA P lim (Instr.beginRound l) σ1 with
      | some (_, σ2) =>
        match rec lim (.code ⟨f, some l⟩ body t1 []) σ2 s1 with
        | some (.done e _ [], σ3, s3) =>
          match runA P lim (Instr.endRound l (match e with | .normal => none | .ret => some .ret | .exit id => some (.exit id) | .goto g => some (.goto g))) σ3 with
          | some (v, σ4) => some (.val v, σ4, s3)
          | none => none
        | _ => none
      | none => none
    | _ => none

noncomputable def runH (P : Program) (E : Env) : Nat → RecH
  | 0 => fun _ _ _ _ => none
  | n + 1 => fun lim k σ s => stepH P E (runH P E n) lim k σ s

/-! ## What is noted holds: then the interpreter answers so -/

def Sd {α : Type} (s : HS) (x : Option (α × AS × HS)) (g : Option (α × AS)) : Prop :=
  ∀ a σ' s', x = some (a, σ', s') → (∀ p ∈ s.ob, p ∈ s'.ob) ∧ ((∀ p ∈ s'.ob, p) → g = some (a, σ'))

def SdR (rh : RecH) (r : Rec) : Prop := ∀ lim k σ s, Sd s (rh lim k σ s) (r lim k σ)

theorem tick_ob (s : HS) : s.tick.2.ob = s.ob := by
  unfold HS.tick
  split
  · rfl
  · rename_i k h l _
    cases Nat.beq k 0 <;> rfl

theorem sd_none {α : Type} {s : HS} {g : Option (α × AS)} : Sd s none g := fun _ _ _ h => by cases h
theorem sd_some {α : Type} {s s1 : HS} {a : α} {σ : AS} {g : Option (α × AS)} (h : ∀ p ∈ s.ob, p ∈ s1.ob) (hg : (∀ p ∈ s1.ob, p) → g = some (a, σ)) : Sd s (some (a, σ, s1)) g := by
  intro a' σ' s' e; cases e; exact ⟨h, hg⟩
theorem sd_lift {α : Type} {s s1 : HS} {x : Option (α × AS)} {g : Option (α × AS)} (h : ∀ p ∈ s.ob, p ∈ s1.ob) (hg : ∀ y, x = some y → g = some y) : Sd s (liftH s1 x) g := by
  cases x with
  | none => exact sd_none
  | some y => exact sd_some h fun _ => hg _ rfl

end Go.Va
