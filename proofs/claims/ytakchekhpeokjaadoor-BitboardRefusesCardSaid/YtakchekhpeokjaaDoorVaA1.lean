/-
  THE ABSTRACT INTERPRETER: definitions alone. A deterministic run of the model's own code over a heap of its own.
-/
import Derived.Orders
import Derived.Below
namespace Go.Va

/-- A finite map from numbers: a binary trie. -/
inductive Tr (α : Type) where
  | leaf
  | node (v : Option α) (l r : Tr α)

def Tr.get {α : Type} : Tr α → Nat → Option α
  | .leaf, _ => none
  | .node v l r, k => cond (Nat.beq k 0) v (cond (Nat.beq (k % 2) 1) (l.get (k / 2)) (r.get (k / 2 - 1)))

def Tr.setF {α : Type} : Nat → Tr α → Nat → Option α → Tr α
  | 0, t, _, _ => t
  | f + 1, .leaf, k, x =>
    cond (Nat.beq k 0) (.node x .leaf .leaf)
      (cond (Nat.beq (k % 2) 1) (.node none (Tr.setF f .leaf (k / 2) x) .leaf) (.node none .leaf (Tr.setF f .leaf (k / 2 - 1) x)))
  | f + 1, .node v l r, k, x =>
    cond (Nat.beq k 0) (.node x l r)
      (cond (Nat.beq (k % 2) 1) (.node v (Tr.setF f l (k / 2) x) r) (.node v l (Tr.setF f r (k / 2 - 1) x)))

def Tr.set {α : Type} (t : Tr α) (k : Nat) (x : Option α) : Tr α := t.setF (k + 1) k x

/-- An object of the abstract heap: a row of cells (may it be written; 'loose': it may have room behind its end, and the size of an element, and the type of the block, where it is known; 'prev': the row whose place it may have taken), or an object of the model that is no row of cells. -/
abbrev Lo := Option Nat × Option TypeId
inductive AObj where
  | cells (c : List Value) (rw : Bool) (loose : Lo) (prev : Option Nat)
  | obj (o : Obj)

structure AS where
  tr : Tr AObj
  next : Nat

def AS.get (σ : AS) (r : Nat) : Option AObj := σ.tr.get r
def AS.put (σ : AS) (r : Nat) (o : Option AObj) : AS := { σ with tr := σ.tr.set r o }
def AS.push (σ : AS) (o : AObj) : AS := { tr := σ.tr.set σ.next (some o), next := σ.next + 1 }

def AS.cell? (σ : AS) (a : Addr) : Option Value :=
  match a.spot, σ.get a.block with
  | none, some (.cells c _ _ _) => c[a.off]?
  | _, _ => none

/-- The row 'prev' is no longer what it was. -/
def AS.kill (σ : AS) (lim : Nat) : Option Nat → Option AS
  | none => some σ
  | some q => bif Nat.ble lim q then some (σ.put q none) else none

def AS.setCell (σ : AS) (lim : Nat) (a : Addr) (v : Value) : Option AS :=
  match a.spot, σ.get a.block with
  | none, some (.cells c true lo pv) =>
    bif Nat.ble lim a.block && Nat.blt a.off c.length then
      match σ.kill lim pv with
      | some σ' => some (σ'.put a.block (some (.cells (c.set a.off v) true lo none)))
      | none => none
    else none
  | _, _ => none

/-- What a new object of the model becomes. -/
def fresh : Obj → Option AObj
  | .cells c ty (lo, hi) => bif Nat.beq lo 0 && Nat.beq hi 0 then some (.cells c.toList true (none, some ty) none) else none
  | .map es n => some (.obj (.map es n))
  | .stringIter s n => some (.obj (.stringIter s n))
  | .loop l => some (.obj (.loop l))
  | .deferred ds => some (.obj (.deferred ds))
  | _ => none

def plainObj : Obj → Bool
  | .map .. | .stringIter .. | .loop .. | .deferred .. => true
  | _ => false

def oneCell : Value → Bool
  | .agg _ | .tuple _ => false
  | _ => true

/-- A computation of the model over the abstract heap. Whatever is drawn, looked at from outside, or ends the run: none. -/
def runA {α : Type} (P : Program) (lim : Nat) : Sem α → AS → Option (α × AS)
  | .pure a, σ => some (a, σ)
  | .load _ a k, σ => match σ.cell? a with
    | some v => runA P lim (k v) σ
    | none => none
  | .store _ a v k, σ => bif oneCell v then
      (match σ.setCell lim a v with
      | some σ' => runA P lim k σ'
      | none => none) else none
  | .new o k, σ => match fresh o with
    | some x => runA P lim (k σ.next) (σ.push x)
    | none => none
  | .getObj r k, σ => match σ.get r with
    | some (.obj o) => runA P lim (k o) σ
    | _ => none
  | .setObj r o k, σ => match σ.get r with
    | some (.obj _) => bif Nat.ble lim r && plainObj o then runA P lim k (σ.put r (some (.obj o))) else none
    | _ => none
  | .choose q k, σ => bif q.forced then runA P lim (k 0) σ else none
  | .program k, σ => runA P lim (k P) σ
  | .mark _ k, σ => runA P lim k σ
  | .shape _ _, _ => none
  | .freeze _ _ _, _ => none
  | .frozen _ _, _ => none
  | .sys _ _, _ => none
  | .halt _, _ => none

/-! ## Operations -/

def ev (t : List Value) : Operand → Value
  | .tmp i => t.getD i undef
  | .const v => v
  | .global g => .pointer (some ⟨g, 0, none⟩)
  | .func f => .func (.func f) #[] #[]

def putT (t : List Value) (dst : Option Tmp) (v : Value) : List Value :=
  match dst with
  | some d => t.set d v
  | none => t

def yieldedL (ops : Array Oper) (t : List Value) (j : Nat) : Option Bool :=
  match ((ops[j]?).bind (·.dst)).bind (t[·]?) with
  | some (.bool b) => some b
  | _ => none

/-- The place of a slice of which no cell is read, and to which nothing is appended. -/
def void : Addr := ⟨0, 0, some 0⟩

def asN : Option Value → Nat → Option Nat
  | none, d => some d
  | some (.int _ n), _ => bif decide (0 ≤ n) then some n.toNat else none
  | _, _ => none

/-- Does the model's slice end its capacity where this one does? -/
def AS.exact (σ : AS) (p : Addr) (cap : Nat) : Bool :=
  match σ.get p.block with
  | some (.cells _ _ (none, _) _) => true
  | some (.cells c _ (some esz, _) _) => Nat.blt (p.off + cap * esz) c.length
  | _ => false

/-- May the row have room behind its end for elements of this size? -/
def AS.looseIs (σ : AS) (p : Addr) (size : Nat) : Bool :=
  match σ.get p.block with
  | some (.cells _ _ (some esz, _) _) => Nat.beq esz size
  | _ => false

def sliceOf (P : Program) (σ : AS) (t : TypeId) (base : Option Addr) (len cap : Nat) (lo hi mx : Option Value) : Option Value :=
  match P.underlying t with
  | some (.slice elem) =>
    match P.info? elem with
    | some i =>
      match asN lo 0, asN hi len, asN mx cap with
      | some l, some h, some m =>
        bif Nat.ble l h && Nat.ble h m && Nat.ble m cap && (mx.isNone || hi.isSome) then
          (match base with
          | none => some (.slice none (h - l) (m - l))
          | some p =>
            bif p.spot.isSome then some (.slice (some p) 0 0)
            else bif (σ.get p.block).isNone then none
            else bif Nat.beq m l then
              (bif mx.isSome || σ.exact p cap || Nat.beq l 0 then some (.slice (some p) (h - l) (m - l)) else some (.slice (some void) 0 0))
            else bif mx.isSome || σ.exact p cap || σ.looseIs p i.size then some (.slice (some (p.add (l * i.size))) (h - l) (m - l)) else none)
        else none
      | _, _, _ => none
    | none => none
  | _ => none

def sliceA (P : Program) (lim : Nat) (t : TypeId) (x : Value) (lo hi mx : Option Value) (σ : AS) : Option (Value × AS) :=
  match x with
  | .slice base len cap =>
    match sliceOf P σ t base len cap lo hi mx with
    | some v => some (v, σ)
    | none => none
  | x => runA P lim (Instr.sliceAt t x lo hi mx) σ

def lenOfA : Value → Option Nat
  | .slice _ n _ => some n
  | .string s => some s.size
  | _ => none

/-- What is appended: the cells, and how many elements they are. -/
def newCells (P : Program) (lim : Nat) (i : TypeInfo) (xt : Option TypeId) (x : Value) (σ : AS) : Option (List Value × Nat) :=
  match xt.bind P.underlying with
  | some (.int _) =>
    match x, i.zero with
    | .int _ l, some z =>
      bif decide (0 ≤ l) && decide (l ≤ 17179869184) && Nat.ble i.bytes 4096 then
        some (bif Nat.beq (l.toNat * i.size) 0 then [] else (Builtin.zeroCells z.cells l.toNat).toList, l.toNat)
      else none
    | _, _ => none
  | some _ =>
    match lenOfA x with
    | some n => match runA P lim (Builtin.firstCells i.size n x) σ with
      | some (c, _) => some (c.toList, n)
      | none => none
    | none => none
  | none => none

def AS.setCells (σ : AS) (lim : Nat) (a : Addr) : List Value → Nat → Option AS
  | [], _ => some σ
  | v :: rest, i => bif oneCell v then (match σ.setCell lim (a.add i) v with
    | some σ' => σ'.setCells lim a rest (i + 1)
    | none => none) else none

/-- What an append does to the heap, when it is known what is appended. -/
def append1 (lim : Nat) (elem : TypeId) (i : TypeInfo) (base : Option Addr) (sLen sCap n : Nat) (new : List Value) (σ : AS) : Option (Value × AS) :=
  bif Nat.ble (sLen + n) sCap then
    (match base with
    | some a => (match σ.setCells lim (a.add (sLen * i.size)) new 0 with
      | some σ' => some (.slice base (sLen + n) sCap, σ')
      | none => none)
    | none => some (.slice base (sLen + n) sCap, σ))
  else
    bif Nat.ble ((sLen + n) * i.bytes) 70368744177664 && Nat.blt 0 i.bytes && i.zero.isSome && new.all oneCell && Nat.beq new.length (n * i.size) then
      (match base with
      | none => bif Nat.beq sLen 0 then some (.slice (some ⟨σ.next, 0, none⟩) (sLen + n) (sLen + n), σ.push (.cells new true (some i.size, some elem) none)) else none
      | some p =>
        match p.spot, σ.get p.block with
        | none, some (.cells c rw lo pv) =>
          bif Nat.ble (p.off + sLen * i.size) c.length then
            bif σ.exact p sCap then
              some (.slice (some ⟨σ.next, 0, none⟩) (sLen + n) (sLen + n), σ.push (.cells ((c.drop p.off).take (sLen * i.size) ++ new) true (some i.size, some elem) none))
            else
              bif rw && Nat.ble lim p.block && (lo == (some i.size, some elem)) then
                (match σ.kill lim pv with
                | some σ1 =>
                  bif Nat.beq sLen sCap then
                    some (.slice (some ⟨σ.next, 0, none⟩) (sLen + n) (sLen + n),
                      (σ1.put p.block (some (.cells c false lo none))).push (.cells ((c.drop p.off).take (sLen * i.size) ++ new) true (some i.size, some elem) (some p.block)))
                  else some (.slice (some ⟨σ.next, 0, none⟩) (sLen + n) (sLen + n), (σ1.put p.block none).push (.cells ((c.drop p.off).take (sLen * i.size) ++ new) true (some i.size, some elem) none))
                | none => none)
              else none
          else none
        | _, _ => none)
    else none

def appendA (P : Program) (lim : Nat) (argTypes : Array TypeId) (args : List Value) (σ : AS) : Option (Value × AS) :=
  match argTypes[0]?, args with
  | some sType, [.slice base sLen sCap, x] =>
    match P.underlying sType with
    | some (.slice elem) =>
      match P.info? elem with
      | some i =>
        match newCells P lim i argTypes[1]? x σ with
        | some (new, n) => append1 lim elem i base sLen sCap n new σ
        | none => none
      | none => none
    | _ => none
  | _, _ => none

def capA (P : Program) (argTypes : Array TypeId) (args : List Value) (σ : AS) : Option (Value × AS) :=
  match argTypes[0]?, args with
  | some sType, [.slice base _ cap] =>
    match P.underlying sType with
    | some (.slice _) =>
      match base with
      | none => some (goInt cap, σ)
      | some p => bif p.spot.isNone && σ.exact p cap then some (goInt cap, σ) else none
    | _ => none
  | _, _ => none

/-- The other conversions. -/
def convOk (P : Program) (src dst : TypeId) : Value → Bool
  | .int .. => (match P.underlying dst with
    | some (.int _) | some .string => true
    | _ => false)
  | .string _ => (match P.underlying dst with
    | some .string => true
    | _ => false)
  | .slice .. => (match P.underlying src, P.underlying dst with
    | some (.slice _), some .string => true
    | _, _ => false)
  | _ => false

/-- May *T become unsafe.Pointer, or this *T, at this row? -/
def ptrOk (P : Program) (src dst : TypeId) (off : Nat) : AObj → Bool
  | .cells c _ lo _ =>
    (match P.underlying src, P.underlying dst with
    | some (.pointer t), some .unsafePointer =>
      (match P.info? t with
      | some j => !(Nat.beq j.size 0) && Nat.blt off c.length
      | none => false)
    | some .unsafePointer, some (.pointer u) =>
      (match lo with
      | (none, some T) => Nat.beq off 0 && (P.info? u).isSome && liesAt P P.depth T (c.length / P.cellsOf T) 0 u 1
      | _ => false)
    | _, _ => false)
  | _ => false
/-- *T to unsafe.Pointer, and back to where a T lies. -/
def ptrConv (P : Program) (src dst : TypeId) (a : Addr) (σ : AS) : Option (Value × AS) :=
  match σ.get a.block with
  | some x => bif a.spot.isNone && ptrOk P src dst a.off x then some (.pointer (some a), σ) else none
  | none => none

/-- unsafe.SliceData. -/
def dataA (args : List Value) (σ : AS) : Option (Value × AS) :=
  match args with
  | [.slice none _ _] => some (.pointer none, σ)
  | [.slice (some a) _ c] => bif a.spot.isNone && !(Nat.beq c 0) then some (.pointer (some a), σ) else none
  | _ => none

def bytesOf : List Value → Option (List UInt8)
  | [] => some []
  | .int .u8 b :: l => (match bytesOf l with
    | some r => some (b.toNat.toUInt8 :: r)
    | none => none)
  | _ => none

/-- unsafe.String: the bytes are copied, the row may no longer be written. -/
def ustrA (P : Program) (lim : Nat) (argTypes : Array TypeId) (args : List Value) (σ : AS) : Option (Value × AS) :=
  match args with
  | [.pointer p, .int _ n] =>
    match argTypes[0]? with
    | some pt =>
      bif decide (n = 0) then some (.string .empty, σ) else
      match P.underlying pt, p with
      | some (.pointer e), some a =>
        match a.spot, σ.get a.block with
        | none, some (.cells c true lo pv) =>
          bif lo.2 == some e && Nat.beq (P.cellsOf e) 1 && decide (0 ≤ n) && Nat.ble (a.off + n.toNat) c.length && Nat.ble n.toNat 1099511627776 && Nat.ble lim a.block then
            match bytesOf ((c.drop a.off).take n.toNat), σ.kill lim pv with
            | some s, some σ1 => some (.string ⟨s.toArray⟩, σ1.put a.block (some (.cells c false lo none)))
            | _, _ => none
          else none
        | _, _ => none
      | _, _ => none
    | none => none
  | _ => none

/-- string to []byte, []rune: a row with room, or not, behind its end. -/
def convA (P : Program) (lim : Nat) (src dst : TypeId) (x : Value) (σ : AS) : Option (Value × AS) :=
  match x with
  | .string s =>
    match P.underlying src, P.underlying dst with
    | some .string, some (.slice e) =>
      match P.underlying e with
      | some (.int .u8) =>
        let c := s.data.toList.map fun b => Value.int .u8 b.toNat
        some (.slice (some ⟨σ.next, 0, none⟩) s.size s.size, σ.push (.cells c true (some 1, some e) none))
      | some (.int .i32) =>
        let c := (Conv.runesFrom s s.size 0 #[]).toList
        some (.slice (some ⟨σ.next, 0, none⟩) c.length c.length, σ.push (.cells c true (some 1, some e) none))
      | _ => none
    | _, _ => bif convOk P src dst x then runA P lim (convert src dst x) σ else none
  | .pointer (some a) => ptrConv P src dst a σ
  | x => bif convOk P src dst x then runA P lim (convert src dst x) σ else none

def keyOk (P : Program) (t : TypeId) : Bool :=
  match P.underlying t with
  | some (.map k _) => (match P.underlying k with
    | some (.int _) | some .string | some .bool => true
    | _ => false)
  | _ => false

/-- The builtins that are carried out as the model does. -/
def tame (P : Program) (argTypes : Array TypeId) : Builtin → Bool
  | .len | .copy | .min | .max | .clear => true
  | .delete => (argTypes[0]?).any (keyOk P)
  | _ => false

/-- The operations that are carried out as the model does. -/
def generic (P : Program) : Op → Bool
  | .move _ | .assign _ | .pick .. | .alloc _ | .box .. | .build .. | .buildSlice .. | .load .. | .store ..
  | .makeInterface .. | .makeFunc .. | .makeMap .. | .makeSlice .. | .fieldAddr .. | .field .. | .indexAddr .. | .index ..
  | .range .. | .next .. | .extract .. => true
  | .lookup t _ _ _ | .mapUpdate t _ _ _ | .insert t _ _ _ => keyOk P t
  | _ => false

def isEq : BinOp → Bool
  | .eql | .neq => true
  | _ => false

def isC : Operand → Bool
  | .const _ => true
  | _ => false

/-- A binary operation: not on floats; '==' on two nil interface values only where one is written so; on structs without interface values alone. -/
def binOkA (P : Program) (op : BinOp) (t : TypeId) (c : Bool) : Value → Value → Bool
  | .int .., .int .. | .string _, .string _ => true
  | .nilIface, .nilIface => c && isEq op
  | .agg _, .agg _ => isEq op && !P.eqGuardType P.depth t
  | .bool _, .bool _ | .pointer _, .pointer _ | .slice .., .slice .. | .map _, .map _ | .func .., .nilFunc | .nilFunc, .func .. | .nilFunc, .nilFunc
  | .iface .., .nilIface | .nilIface, .iface .. | .iface .., .iface .. => isEq op
  | _, _ => false

def unOkA : Value → Bool
  | .float .. | .complex .. => false
  | _ => true

def nilOkA : Value → Bool
  | .pointer (some _) | .func (.func _) _ _ | .func (.yield _) _ _ | .iface _ _ | .map _ | .slice .. | .string _ | .agg _ | .int .. | .bool _ => true
  | _ => false

def arrOkA : Value → Bool
  | .slice (some a) _ _ => a.spot.isNone
  | .slice none _ _ => true
  | _ => false

/-! ## Code -/

structure Ctx where
  fn : FuncId
  round : Option Nat

inductive Ex where
  | normal
  | exit (id : Nat)
  | goto (l : Nat)
  | ret

/-- What is to be run. 'ds': the blocks for the deferred calls of the loops over functions that the frame has begun. -/
inductive Task where
  | code (x : Ctx) (c : Code) (t : List Value) (ds : List Nat)
  | scope (x : Ctx) (body cur : Code) (t : List Value) (ds : List Nat)
  | call (f : FuncId) (args : List Value)
  | round (l : Nat) (f : FuncId) (t : List Value) (assign body : Code)

inductive Out where
  | done (e : Ex) (t : List Value) (ds : List Nat)
  | val (v : Value)

/-- How a region that draws its order is run: in which order, which operations may write nothing of what was there; the groups; how the order turns in the mode 'gc', and its groups. -/
structure Plan where
  l : List (Nat × Bool)
  gs : List Nat
  ms : List (Nat × Nat)
  gc : List Nat

/-- What is given beside the program: which functions are replaced, and by what; which are looked at; where the regions that draw their order part into reads in any order and a forced tail. -/
structure Env where
  isOv : FuncId → Bool
  ok : FuncId → Bool
  ov : FuncId → List Value → Nat → AS → Option (Value × AS)
  draws : FuncId → Nat → Option Plan

abbrev Rec := Nat → Task → AS → Option (Out × AS)

def enterA (_P : Program) (E : Env) (rec : Rec) (lim : Nat) (f : FuncId) (args : List Value) (σ : AS) : Option (Value × AS) :=
  bif E.isOv f then E.ov f args lim σ else
    match rec lim (.call f args) σ with
    | some (.val v, σ') => some (v, σ')
    | _ => none

/-- A function value is called. -/
def applyA (P : Program) (E : Env) (rec : Rec) (lim : Nat) (f : Value) (args : List Value) (σ : AS) : Option (Value × AS) :=
  match f with
  | .func (.func g) first captured => enterA P E rec lim g (first.toList ++ args ++ captured.toList) σ
  | .func (.yield l) first _ =>
    match runA P lim (Instr.yield l (first ++ args.toArray)) σ with
    | some (.round l f t assign body, σ1) =>
      match rec lim (.round l f t.toList assign body) σ1 with
      | some (.val v, σ') => some (v, σ')
      | _ => none
    | _ => none
  | _ => none

def nextVal : Option (Next × AS) → Option (Value × AS)
  | some (.value v, σ) => some (v, σ)
  | _ => none
def nextAny : Option (Next × AS) → Option (Value × AS)
  | some (.value v, σ) => some (v, σ)
  | some (.skip, σ) => some (undef, σ)
  | _ => none

def operA (P : Program) (E : Env) (rec : Rec) (lim : Nat) (o : Oper) (t : List Value) (σ : AS) : Option (Value × AS) :=
  match o.op with
  | .slice st x lo hi mx => sliceA P lim st (ev t x) (lo.map (ev t)) (hi.map (ev t)) (mx.map (ev t)) σ
  | .convert src dst x => convA P lim src dst (ev t x) σ
  | .unOp op _ x => bif unOkA (ev t x) then runA P lim (Op.unary op (ev t x)) σ else none
  | .nilCheck x => bif nilOkA (ev t x) then some (ev t x, σ) else none
  | .sliceToArrayPointer d x => bif arrOkA (ev t x) then runA P lim (Instr.arrayAt d (ev t x)) σ else none
  | .binOp op bt x y _ => bif binOkA P op bt (isC x || isC y) (ev t x) (ev t y) then runA P lim (binOp op bt (ev t x) (ev t y)) σ else none
  | .call c =>
    match c.callee with
    | .builtin .append => appendA P lim c.argTypes (c.args.toList.map (ev t)) σ
    | .builtin .cap => capA P c.argTypes (c.args.toList.map (ev t)) σ
    | .builtin .unsafeSliceData => dataA (c.args.toList.map (ev t)) σ
    | .builtin .unsafeString => ustrA P lim c.argTypes (c.args.toList.map (ev t)) σ
    | .builtin b =>
      bif tame P c.argTypes b && (c.args.toList.map (ev t)).head?.all unOkA then
        nextVal (runA P lim (builtin b c.argTypes o.type (c.args.map isC) (c.args.map (ev t))) σ)
      else none
    | .value f => applyA P E rec lim (ev t f) (c.args.toList.map (ev t)) σ
    | .invoke _ _ => none
  | op =>
    bif generic P op then
      nextAny (runA P lim (execOp (ev t) o) σ)
    else none

/-- The operations of a region, in the order of the text. 'q': nothing that was there before an operation may be written by it. -/
def opsA (P : Program) (E : Env) (rec : Rec) (ops : Array Oper) (q : Bool) (lim : Nat) : List Oper → List Value → AS → Option (List Value × AS)
  | [], t, σ => some (t, σ)
  | o :: rest, t, σ =>
    bif Region.wanted o (yieldedL ops t) then
      (match operA P E rec (bif q then σ.next else lim) o t σ with
      | some (v, σ') => opsA P E rec ops q lim rest (putT t o.dst v) σ'
      | none => none)
    else opsA P E rec ops q lim rest (putT t o.dst undef) σ

/-- One operation of a region. -/
def op1 (P : Program) (E : Env) (rec : Rec) (ops : Array Oper) (q : Bool) (lim : Nat) (o : Oper) (t : List Value) (σ : AS) : Option (Value × AS) :=
  bif Region.wanted o (yieldedL ops t) then operA P E rec (bif q then σ.next else lim) o t σ else some (undef, σ)

/-- Operations by their numbers, each with a flag: whether it is quiet. -/
def opsI (P : Program) (E : Env) (rec : Rec) (ops : Array Oper) (lim : Nat) : List (Nat × Bool) → List Value → AS → Option (List Value × AS)
  | [], t, σ => some (t, σ)
  | x :: l, t, σ => match ops[x.1]? with
    | some o =>
      (match op1 P E rec ops x.2 lim o t σ with
      | some (v, σ') => opsI P E rec ops lim l (putT t o.dst v) σ'
      | none => none)
    | none => none

/-- The deferred calls of the loops over functions are taken (there are none). -/
def takeA (P : Program) (lim : Nat) : List Nat → AS → Option AS
  | [], σ => some σ
  | d :: ds, σ =>
    match runA P lim (Instr.takeDeferred d) σ with
    | some ([], σ') => takeA P lim ds σ'
    | _ => none

/-- The rest of a loop over a function, after the function has come back. -/
def rangeEnd (P : Program) (lim : Nat) (t : List Value) (ds' : List Nat) (l : Nat) (σ : AS) : Option (Out × AS) :=
  match runA P lim (Instr.endLoop l) σ with
  | some (none, σ3) => some (.done .normal t ds', σ3)
  | some (some .ret, σ3) => some (.done .ret t ds', σ3)
  | some (some (.exit id), σ3) => some (.done (.exit id) t ds', σ3)
  | some (some (.goto g), σ3) => some (.done (.goto g) t ds', σ3)
  | _ => none

/-- The blocks for the deferred calls that a loop over a function marks. -/
def markIds : List Deferred → Option (List Nat)
  | [] => some []
  | [{ target := .collected r, .. }] => some [r]
  | _ => none

def rangeA (P : Program) (E : Env) (rec : Rec) (lim : Nat) (x : Ctx) (f : Operand) (params : Array Tmp) (assign body : Code) (t : List Value) (ds : List Nat) (σ : AS) : Option (Out × AS) :=
  match runA P lim (Instr.enterLoop x.fn t.toArray params assign body x.round) σ with
  | some ((l, mark), σ1) =>
    match markIds mark with
    | some m =>
      match applyA P E rec lim (ev t f) [.func (.yield l) #[] #[]] σ1 with
      | some (_, σ2) => rangeEnd P lim t (m ++ ds) l σ2
      | none => none
    | none => none
  | none => none

def stepA (P : Program) (E : Env) (rec : Rec) (lim : Nat) : Task → AS → Option (Out × AS)
  | .code x c t ds, σ =>
    match c with
    | .skip | .label _ => some (.done .normal t ds, σ)
    | .region id ops draw =>
      bif draw then
        match E.draws x.fn id with
        | some pl =>
          match opsI P E rec ops lim pl.l t σ with
          | some (t1, σ1) => some (.done .normal t1 ds, σ1)
          | none => none
        | none => none
      else
        match opsA P E rec ops false lim ops.toList t σ with
        | some (t1, σ1) => some (.done .normal t1 ds, σ1)
        | none => none
    | .seq a b =>
      match rec lim (.code x a t ds) σ with
      | some (.done .normal t1 ds1, σ1) => rec lim (.code x b t1 ds1) σ1
      | r => r
    | .cond c a b =>
      match ev t c with
      | .bool b' => rec lim (.code x (bif b' then a else b) t ds) σ
      | _ => none
    | .block id body =>
      match rec lim (.code x body t ds) σ with
      | some (.done (.exit id') t1 ds1, σ1) => some (.done (bif Nat.beq id' id then .normal else .exit id') t1 ds1, σ1)
      | r => r
    | .loop body =>
      match rec lim (.code x body t ds) σ with
      | some (.done .normal t1 ds1, σ1) => rec lim (.code x (.loop body) t1 ds1) σ1
      | r => r
    | .rangeFunc f params assign body =>
      rangeA P E rec lim x f params assign body t ds σ
    | .exit id => some (.done (.exit id) t ds, σ)
    | .scope body => rec lim (.scope x body body t ds) σ
    | .goto l => some (.done (.goto l) t ds, σ)
    | .ret => some (.done .ret t ds, σ)
    | .refuse _ => none
  | .scope x body cur t ds, σ =>
    match rec lim (.code x cur t ds) σ with
    | some (.done (.goto l) t1 ds1, σ1) =>
      match findLabel body l with
      | some rest => rec lim (.scope x body rest t1 ds1) σ1
      | none => some (.done (.goto l) t1 ds1, σ1)
    | r => r
  | .call f args, σ =>
    bif E.ok f then
    match P.funcs[f]? with
    | some fn =>
      match fn.body with
      | some c =>
        match rec lim (.code ⟨f, none⟩ c (args ++ List.replicate (fn.ntmps - args.length) undef) []) σ with
        | some (.done e t1 ds1, σ1) =>
          match e with
          | .normal | .ret =>
            match takeA P lim ds1 σ1 with
            | some σ2 =>
              match runA P lim (results fn t1.toArray) σ2 with
              | some (v, σ3) => some (.val v, σ3)
              | none => none
            | none => none
          | _ => none
        | _ => none
      | none => none
    | none => none
    else none
  | .round l f t assign body, σ =>
    match rec lim (.code ⟨f, some l⟩ assign t []) σ with
    | some (.done .normal t1 [], σ1) =>
      match runA P lim (Instr.beginRound l) σ1 with
      | some (_, σ2) =>
        match rec lim (.code ⟨f, some l⟩ body t1 []) σ2 with
        | some (.done e _ [], σ3) =>
          match runA P lim (Instr.endRound l (match e with | .normal => none | .ret => some .ret | .exit id => some (.exit id) | .goto g => some (.goto g))) σ3 with
          | some (v, σ4) => some (.val v, σ4)
          | none => none
        | _ => none
      | none => none
    | _ => none

/-- The interpreter: the number bounds the depth. -/
def run (P : Program) (E : Env) : Nat → Rec
  | 0 => fun _ _ _ => none
  | n + 1 => fun lim k σ => stepA P E (run P E n) lim k σ

end Go.Va
