/-
  The functions that the statement reaches: what they answer, part 1.
-/
import Derived.Test.YtakchekhpeokjaaDoorVap4
import Derived.Test.YtakchekhpeokjaaDoorChecked
import Derived.Shelf.Strings.Repeat

/-
  BITBOARD (chapter 05): the functions of the program that are looked at, the plans of their drawn regions, the table; the replaced functions without a body.
-/
namespace Go.Proofs.YtakchekhpeokjaaDoor
open Go.Va

def plans : Nat → Nat → Option Plan
  | 4, 16 => some ⟨[(0, true), (1, true), (2, false), (3, false), (4, true), (5, true), (6, true), (7, true), (8, true), (9, true), (10, true), (11, false), (12, false), (13, false), (14, false), (15, false), (16, false)], [2, 1, 1, 7, 1, 1, 1, 1, 1, 1], [], []⟩
  | 9, 11 => some ⟨[(0, false), (1, false), (2, false), (3, false), (4, true), (5, true), (6, true), (7, true), (8, true), (9, true), (10, true), (11, true), (12, false), (13, false), (14, false), (15, true), (16, true), (17, true), (18, true), (19, true), (20, true), (21, true), (22, true), (23, false), (24, false)], [1, 1, 1, 1, 8, 1, 1, 1, 8, 1, 1], [], []⟩
  | 9, 17 => some ⟨[(0, true), (1, true), (2, true), (3, true), (4, true), (5, true), (6, true), (7, true), (8, true), (9, true), (10, true), (11, false), (12, false)], [11, 1, 1], [], []⟩
  | 9, 19 => some ⟨[(0, true), (1, true), (2, true), (3, true), (4, true), (5, true), (6, true), (7, false), (8, false), (9, false), (10, true), (11, true), (12, true), (13, false)], [7, 1, 1, 1, 3, 1], [], []⟩
  | 16, 6 => some ⟨[(0, true), (1, true), (2, true), (3, true), (4, true), (5, true), (6, true), (7, true), (8, false)], [8, 1], [], []⟩
  | 29, 6 => some ⟨[(0, true), (1, true), (2, true), (3, true), (4, true), (5, true), (6, true), (7, true), (8, true), (9, true), (10, true), (11, true), (12, true), (13, true), (14, true), (15, false), (16, false)], [15, 1, 1], [], []⟩
  | 31, 6 => some ⟨[(0, true), (1, true), (2, true), (3, true), (4, true), (5, true), (6, true), (7, true), (8, true), (9, true), (10, true), (11, true), (12, true), (13, true), (14, true), (15, true), (16, true), (17, true), (18, true), (19, false), (20, false)], [19, 1, 1], [], []⟩
  | 38, 4 => some ⟨[(0, true), (1, true), (2, true), (3, true), (4, true), (5, true), (6, true), (7, true), (8, true), (9, false)], [9, 1], [], []⟩
  | 58, 1 => some ⟨[(0, true), (1, true), (2, true), (3, true), (4, true), (5, true), (6, true), (7, true), (8, true), (9, true), (10, false), (11, false)], [10, 1, 1], [], []⟩
  | 65, 3 => some ⟨[(0, true), (1, true), (2, true), (3, true), (4, true), (5, true), (6, true), (7, true), (8, true), (9, true), (10, true), (11, true), (12, false)], [12, 1], [], []⟩
  | 75, 0 => some ⟨[(0, true), (1, true), (2, true), (3, true), (4, true), (5, true), (6, true), (7, true), (8, true), (9, true), (10, true), (11, true), (12, true), (13, true), (14, false), (15, false)], [14, 1, 1], [], []⟩
  | _, _ => none

def okL : List Nat := [3, 4, 5, 6, 7, 8, 9, 10, 11, 12, 13, 14, 15, 16, 17, 18, 19, 20, 21, 22, 23, 24, 25, 26, 27, 28, 29, 30, 31, 32, 33, 34, 35, 36, 37, 38, 39, 40, 41, 42, 43, 44, 45, 46, 47, 48, 49, 50, 51, 52, 53, 54, 55, 56, 57, 58, 59, 60, 61, 62, 63, 64, 65, 66, 67, 68, 69, 70, 71, 72, 73, 74, 75, 77, 78, 80, 82, 83, 85, 86, 88]
def tabs : List (Nat × List Value) := [(0, [.int .u8 0, .int .u8 1, .int .u8 56, .int .u8 2, .int .u8 57, .int .u8 49, .int .u8 28, .int .u8 3, .int .u8 61, .int .u8 58, .int .u8 42, .int .u8 50, .int .u8 38, .int .u8 29, .int .u8 17, .int .u8 4, .int .u8 62, .int .u8 47, .int .u8 59, .int .u8 36, .int .u8 45, .int .u8 43, .int .u8 51, .int .u8 22, .int .u8 53, .int .u8 39, .int .u8 33, .int .u8 30, .int .u8 24, .int .u8 18, .int .u8 12, .int .u8 5, .int .u8 63, .int .u8 55, .int .u8 48, .int .u8 27, .int .u8 60, .int .u8 41, .int .u8 37, .int .u8 16, .int .u8 46, .int .u8 35, .int .u8 44, .int .u8 21, .int .u8 52, .int .u8 32, .int .u8 23, .int .u8 11, .int .u8 54, .int .u8 26, .int .u8 40, .int .u8 15, .int .u8 34, .int .u8 20, .int .u8 31, .int .u8 10, .int .u8 25, .int .u8 14, .int .u8 19, .int .u8 9, .int .u8 13, .int .u8 8, .int .u8 7, .int .u8 6])]

def isBuild (o : Oper) : Bool := match o.op with
  | .buildSlice .. => true
  | _ => false
/-- Functions of plain values are replaced, abi.NoEscape (76), bytealg.MakeNoZero (81). -/
def mixEnv (isP : FuncId → Bool) (pf : FuncId → List Value → Option Value) : Env :=
  { isOv := fun f => Nat.beq f 76 || Nat.beq f 81 || isP f, ok := fun f => okL.contains f, draws := plans, rows := fun o => Nat.beq o.type 60 && !(isBuild o),
    ov := fun f args _ σ => bif Nat.beq f 76 then noEscA args σ else bif Nat.beq f 81 then makeNoZeroA 5 args σ else pureOv pf f args σ }

theorem zeros : zerosB Tryd.prog = true := by kernel_rfl
theorem zeroOk : ZeroOk Tryd.prog := zeroOk_of zeros
theorem mixed : Tryd.prog.follows .mixedOrders = true := Checked.mixed Tryd.checked

def fnB (P : Program) (G : Nat) (E : Env) (l : List Nat) : Bool := l.all fun f => match P.funcs[f]? with
  | some fn => (match fn.body with
    | some c => codeB G E f c && !(fn.name == "runtime.NumGoroutine")
    | none => true)
  | none => true
theorem fnOk_of {E : Env} (hE : E.ok = fun f => okL.contains f) (h : fnB Tryd.prog 4 E okL = true) : FnOk Tryd.prog 4 E := by
  intro f fn c hok hfn hb
  rw [hE] at hok
  have hm : f ∈ okL := List.contains_iff_mem.1 hok
  have h := List.all_eq_true.1 h f hm
  rw [hfn] at h
  dsimp only at h
  rw [hb] at h
  simp only [Bool.and_eq_true, Bool.not_eq_true'] at h
  exact h

def env1 : Env := mixEnv (fun _ => false) (fun _ _ => none)
set_option maxRecDepth 100000 in
theorem fns1 : fnB Tryd.prog 4 env1 okL = true := by kernel_rfl

end Go.Proofs.YtakchekhpeokjaaDoor

/-
  BITBOARD (chapter 05): strings.Repeat, by the shelf's contract.
-/
namespace Go.Proofs.YtakchekhpeokjaaDoor
open Go.Va Go.Shelf Go.RowKit

def ren105 : Go.Shelf.Ren where
  f := fun x => match x with
    | 105 => 56
    | 212 => 64
    | 99 => 49
    | 165 => 65
    | 166 => 66
    | 170 => 67
    | 169 => 58
    | 263 => 73
    | 264 => 74
    | 206 => 62
    | 240 => 68
    | 241 => 75
    | 276 => 76
    | 277 => 81
    | n => n
  t := fun x => match x with
    | 9 => 9
    | 3 => 3
    | 4 => 4
    | 20 => 20
    | 0 => 0
    | 46 => 68
    | 109 => 81
    | 5 => 5
    | 72 => 72
    | 76 => 76
    | 51 => 88
    | 146 => 89
    | 53 => 22
    | 148 => 91
    | 70 => 70
    | 37 => 60
    | 75 => 75
    | 127 => 85
    | 164 => 93
    | 80 => 48
    | n => n
  g := fun x => x
theorem lays105 : Lays.n105 Tryd.prog ren105 where
  mixed := mixed
  f99 := by kernel_rfl
  f105 := by kernel_rfl
  f165 := by kernel_rfl
  f166 := by kernel_rfl
  f169 := by kernel_rfl
  f170 := by kernel_rfl
  f206 := by kernel_rfl
  f212 := by kernel_rfl
  f240 := by kernel_rfl
  f241 := by kernel_rfl
  f263 := by kernel_rfl
  f264 := by kernel_rfl
  f276 := by kernel_rfl
  f277 := by kernel_rfl
  t0 := Tryd.underlying0
  a0 := Tryd.isAgg0
  z0 := Tryd.sizeOf0
  v0 := Tryd.zeroValue0
  t3 := Tryd.underlying3
  a3 := Tryd.isAgg3
  z3 := Tryd.sizeOf3
  v3 := Tryd.zeroValue3
  t4 := Tryd.underlying4
  a4 := Tryd.isAgg4
  z4 := Tryd.sizeOf4
  v4 := Tryd.zeroValue4
  t5 := Tryd.underlying5
  a5 := Tryd.isAgg5
  z5 := Tryd.sizeOf5
  v5 := Tryd.zeroValue5
  t9 := Tryd.underlying9
  a9 := Tryd.isAgg9
  z9 := Tryd.sizeOf9
  v9 := Tryd.zeroValue9
  t20 := Tryd.underlying20
  a20 := Tryd.isAgg20
  z20 := Tryd.sizeOf20
  v20 := Tryd.zeroValue20
  t37 := Tryd.underlying60
  a37 := Tryd.isAgg60
  z37 := Tryd.sizeOf60
  v37 := Tryd.zeroValue60
  t46 := Tryd.underlying68
  a46 := Tryd.isAgg68
  z46 := Tryd.sizeOf68
  v46 := Tryd.zeroValue68
  t51 := Tryd.underlying88
  a51 := Tryd.isAgg88
  z51 := Tryd.sizeOf88
  v51 := Tryd.zeroValue88
  t53 := Tryd.underlying22
  a53 := Tryd.isAgg22
  z53 := Tryd.sizeOf22
  v53 := Tryd.zeroValue22
  t70 := Tryd.underlying70
  a70 := Tryd.isAgg70
  z70 := Tryd.sizeOf70
  v70 := Tryd.zeroValue70
  t72 := Tryd.underlying72
  a72 := Tryd.isAgg72
  z72 := Tryd.sizeOf72
  v72 := Tryd.zeroValue72
  t75 := Tryd.underlying75
  a75 := Tryd.isAgg75
  z75 := Tryd.sizeOf75
  v75 := Tryd.zeroValue75
  t76 := Tryd.underlying76
  a76 := Tryd.isAgg76
  z76 := Tryd.sizeOf76
  v76 := Tryd.zeroValue76
  t109 := Tryd.underlying81
  a109 := Tryd.isAgg81
  z109 := Tryd.sizeOf81
  v109 := Tryd.zeroValue81
  t127 := Tryd.underlying85
  a127 := Tryd.isAgg85
  z127 := Tryd.sizeOf85
  v127 := Tryd.zeroValue85
  t146 := Tryd.underlying89
  a146 := Tryd.isAgg89
  z146 := Tryd.sizeOf89
  v146 := Tryd.zeroValue89
  t148 := Tryd.underlying91
  a148 := Tryd.isAgg91
  z148 := Tryd.sizeOf91
  v148 := Tryd.zeroValue91
  t164 := Tryd.underlying93
  a164 := Tryd.isAgg93
  z164 := Tryd.sizeOf93
  v164 := Tryd.zeroValue93
theorem extra105 : Builder.Extra Tryd.prog ren105 where
  sizeBuilder := by kernel_rfl
  liesBuilder := by kernel_rfl
  t5 := Tryd.underlying5
  a5 := Tryd.isAgg5
  z5 := Tryd.sizeOf5
  v5 := Tryd.zeroValue5
  infoByte := by kernel_rfl
  cellsByte := by kernel_rfl
  sizeByte := by kernel_rfl
  neB5 := by decide

theorem name56 : (Tryd.f56.name == "runtime.NumGoroutine") = false := by kernel_rfl
theorem body56 : Tryd.f56.body.isNone = false := by kernel_rfl

theorem repeat_pure (s : ByteArray) (c : Nat) (hc2 : 2 ≤ c) (hc : c ≤ 9223372036854775807) (hlen : s.size * c ≤ 140737488355328) (h0 : 0 < s.size) :
    Pure Tryd.prog 4 tabs 56 [.string s, .int .i64 c] (.string ⟨(Lib.repeatL s.data.toList c).toArray⟩) := by
  exact pure_of_calls Tryd.func56 name56 body56 rfl rfl fun w _ => Any.strings_Repeat_main lays105 extra105 s c w hc2 hc hlen h0

end Go.Proofs.YtakchekhpeokjaaDoor

/-
  BITBOARD (chapter 05): works is true; environments in which it is replaced.
-/
namespace Go.Proofs.YtakchekhpeokjaaDoor
open Go.Va

theorem mix_good (isP : FuncId → Bool) (pf : FuncId → List Value → Option Value) : OvGood (mixEnv isP pf) := by
  intro f args lim
  show Go.Va.Good lim (fun σ => bif Nat.beq f 76 then noEscA args σ else bif Nat.beq f 81 then makeNoZeroA 5 args σ else pureOv pf f args σ)
  exact Go.Va.Good.cond good_noEsc (Go.Va.Good.cond good_makeNoZero good_pureOv)

theorem name76 : (Tryd.f76.name == "runtime.NumGoroutine") = false := by kernel_rfl
theorem body76 : Tryd.f76.body.isNone = true := by kernel_rfl
theorem next76 : Extern.findNext Tryd.f76 = none := by kernel_rfl
theorem find76 : Extern.find Tryd.f76 = some Extern.AbiNoEscape.same := by kernel_rfl
theorem name81 : (Tryd.f81.name == "runtime.NumGoroutine") = false := by kernel_rfl
theorem body81 : Tryd.f81.body.isNone = true := by kernel_rfl
theorem next81 : Extern.findNext Tryd.f81 = none := by kernel_rfl
theorem find81 : Extern.find Tryd.f81 = some (Extern.BytealgMakeNoZero.makeNoZero #[3] #[60]) := by kernel_rfl

theorem mix_ok {isP : FuncId → Bool} {pf : FuncId → List Value → Option Value} 
    (hpf : ∀ f args v, isP f = true → pf f args = some v → Pure Tryd.prog 4 tabs f args v) (w : World) (hT : Tabs 4 tabs w) : OvOk Tryd.prog (CodeK 4 (mixEnv isP pf)) w w.heap.size 4 (mixEnv isP pf) := by
  intro f args lim σ v σ' hi hr
  have hr : (bif Nat.beq f 76 then noEscA args σ else bif Nat.beq f 81 then makeNoZeroA 5 args σ else pureOv pf f args σ) = some (v, σ') := hr
  cases h1 : Nat.beq f 76 with
  | true =>
    rw [h1, cond_true] at hr
    obtain rfl : f = 76 := Nat.eq_of_beq_eq_true h1
    exact ov_noEsc Tryd.func76 name76 body76 next76 find76 args lim σ v σ' hr
  | false =>
    rw [h1, cond_false] at hr
    cases h2 : Nat.beq f 81 with
    | true =>
      rw [h2, cond_true] at hr
      obtain rfl : f = 81 := Nat.eq_of_beq_eq_true h2
      exact ov_makeNoZero Tryd.func81 name81 body81 next81 find81 Tryd.underlying60 args lim σ v σ' hr
    | false =>
      rw [h2, cond_false] at hr
      have hi : (Nat.beq f 76 || Nat.beq f 81 || isP f) = true := hi
      rw [h1, h2, Bool.false_or, Bool.false_or] at hi
      intro β τ w1 args' hw hl hR hf hG ha
      exact pureOv_ok rfl (fun a v => hpf f a v hi) hT hT.1 hr hl hR ha

theorem pureM {isP : FuncId → Bool} {pf : FuncId → List Value → Option Value} 
    (hpf : ∀ f args v, isP f = true → pf f args = some v → Pure Tryd.prog 4 tabs f args v) (hFn : fnB Tryd.prog 4 (mixEnv isP pf) okL = true)
    {n : Nat} {f : FuncId} {args : List Value} {v : Value} (hs : List (Nat × Hint)) (ob : List Prop)
    (hr : upshot (runH Tryd.prog (mixEnv isP pf) n 0 (.call f args) (base0 4 tabs) ⟨hs, []⟩) = some (v, ob)) (ho : All ob) {u : Value} (hu : strip v = u) (hv : PF u) : Pure Tryd.prog 4 tabs f args u :=
  topH zeroOk mixed rfl (mix_good isP pf) (mix_ok hpf) (fnOk_of rfl hFn) hr ho hu hv

def dots : Value := .string ⟨#[46, 46, 46, 46, 46, 46, 46, 46]⟩
def pf1 : FuncId → List Value → Option Value
  | 56, [.string s, .int .i64 n] => bif veq1 (.string s) (.string ⟨#[46]⟩) && decide (n = 8) then some dots else none
  | _, _ => none
def is1 (f : Nat) : Bool := Nat.beq f 56
theorem pf1_pure : ∀ f args v, is1 f = true → pf1 f args = some v → Pure Tryd.prog 4 tabs f args v := by
  intro f args v _ hp
  unfold pf1 at hp
  split at hp
  · rename_i s n _
    cases hb : (veq1 (.string s) (.string ⟨#[46]⟩) && decide (n = 8)) with
    | false => rw [hb] at hp; cases hp
    | true =>
      rw [hb, cond_true] at hp
      cases hp
      simp only [Bool.and_eq_true, decide_eq_true_eq] at hb
      have hs : Value.string s = .string ⟨#[46]⟩ := veq1_eq hb.1
      cases hs
      rw [hb.2]
      exact repeat_pure ⟨#[46]⟩ 8 (by decide) (by decide) (by decide) (by decide)
  · cases hp

set_option maxRecDepth 100000 in
theorem fns2 : fnB Tryd.prog 4 (mixEnv is1 pf1) okL = true := by kernel_rfl

def isVal (v : Value → Bool) : Option (Out × AS) → Bool
  | some (.val u, _) => v u
  | _ => false
def isTrue : Value → Bool
  | .bool true => true
  | _ => false
theorem isTrue_spec {r : Option (Out × AS)} (h : isVal isTrue r = true) : ∃ σ', r = some (.val (.bool true), σ') := by
  unfold isVal at h
  split at h
  · rename_i u σ'
    unfold isTrue at h
    split at h
    · exact ⟨_, rfl⟩
    · cases h
  · cases h

set_option maxRecDepth 1000000 in
theorem works_run : isVal isTrue (run Tryd.prog (mixEnv is1 pf1) 3000 0 (.call 13 []) (base0 4 tabs)) = true := by kernel_rfl
theorem works_pure : Pure Tryd.prog 4 tabs 13 [] (.bool true) := by
  obtain ⟨σ', h⟩ := isTrue_spec works_run
  exact topW zeroOk mixed rfl (mix_good is1 pf1) (mix_ok pf1_pure) (fnOk_of rfl fns2) (runW_of h) rfl (.bool _)

/-- Repeat and works replaced. -/
def pf2 : FuncId → List Value → Option Value
  | 13, [] => some (.bool true)
  | f, args => pf1 f args
def is2 (f : Nat) : Bool := Nat.beq f 56 || Nat.beq f 13
theorem pf2_pure : ∀ f args v, is2 f = true → pf2 f args = some v → Pure Tryd.prog 4 tabs f args v := by
  intro f args v hf hp
  unfold pf2 at hp
  split at hp
  · cases hp; exact works_pure
  · rename_i h13
    simp only [is2, Bool.or_eq_true] at hf
    rcases hf with hf | hf
    · exact pf1_pure f args v hf hp
    · obtain rfl : f = 13 := Nat.eq_of_beq_eq_true hf
      cases hp
def envW : Env := mixEnv is2 pf2
set_option maxRecDepth 100000 in
theorem fnsW : fnB Tryd.prog 4 envW okL = true := by kernel_rfl
/-- The answer is told apart from the run's by its right to grow alone; 'plain': no list stands in it. -/
theorem pureWk {n : Nat} {f : FuncId} {args : List Value} {v : Value} (hs : List (Nat × Hint)) (ob : List Prop)
    (hr : upshot (runH Tryd.prog envW n 0 (.call f args) (base0 4 tabs) ⟨hs, []⟩) = some (v, ob)) (ho : All ob) (hu : strip v = v) (hv : plainB 100 v = true) : Pure Tryd.prog 4 tabs f args v :=
  pureM pf2_pure fnsW hs ob hr ho hu (plain_PF 100 v hv)

end Go.Proofs.YtakchekhpeokjaaDoor

/-
  BITBOARD (chapter 05): what the small functions of the program answer: With, Without, Has, File, Rank.
-/
namespace Go.Proofs.YtakchekhpeokjaaDoor
open Go.Va

def inr (n m : Int) : Bool := decide (0 ≤ n) && decide (n < m)
def okOr (b : Bool) : Int := bif b then 0 else 3
def bitS (n : Int) : Int := IntKind.u64.wrap (1 * 2 ^ min n.toNat IntKind.u64.bits)
def orS (s t : Int) : Int := IntKind.u64.wrap ((BitVec.ofInt IntKind.u64.bits s ||| BitVec.ofInt IntKind.u64.bits t).toNat : Int)
def andS (s t : Int) : Int := IntKind.u64.wrap ((BitVec.ofInt IntKind.u64.bits s &&& BitVec.ofInt IntKind.u64.bits t).toNat : Int)
def andNotS (s t : Int) : Int := IntKind.u64.wrap ((BitVec.ofInt IntKind.u64.bits s &&& ~~~ BitVec.ofInt IntKind.u64.bits t).toNat : Int)
def withS (s n : Int) : Int := bif inr n 64 then orS s (bitS n) else 0
def withV (s n : Int) : Value := .tuple #[.int .u64 (withS s n), .int .i64 (okOr (inr n 64))]
def wioS (s n : Int) : Int := bif inr n 64 then andNotS s (bitS n) else 0
def wioV (s n : Int) : Value := .tuple #[.int .u64 (wioS s n), .int .i64 (okOr (inr n 64))]
def hasS (s n : Int) : Bool := inr n 64 && (andS s (bitS n) != 0)
def fileS (n : Int) : Int := bif inr n 8 then IntKind.u64.wrap (72340172838076673 * 2 ^ min n.toNat IntKind.u64.bits) else 0
def fileV (n : Int) : Value := .tuple #[.int .u64 (fileS n), .int .i64 (okOr (inr n 8))]
def rankS (n : Int) : Int := bif inr n 8 then IntKind.u64.wrap (255 * 2 ^ min (IntKind.i64.wrap (8 * n)).toNat IntKind.u64.bits) else 0
def rankV (n : Int) : Value := .tuple #[.int .u64 (rankS n), .int .i64 (okOr (inr n 8))]

theorem inr_true {n m : Int} (h0 : 0 ≤ n) (h1 : n < m) : inr n m = true := by simp [inr, h0, h1]
theorem inr_neg {n m : Int} (h : decide (n ≥ 0) = false) : inr n m = false := by
  have : ¬ n ≥ 0 := of_decide_eq_false h
  simp [inr]; omega
theorem inr_big {n m : Int} (h : decide (n < m) = false) : inr n m = false := by
  have : ¬ n < m := of_decide_eq_false h
  simp [inr]; omega

/-- By three cases. -/
theorem three {Q : Prop} (n m : Int) (h1 : decide (n ≥ 0) = false → Q) (h2 : decide (n ≥ 0) = true → decide (n < m) = false → Q) (h3 : decide (n ≥ 0) = true → decide (n < m) = true → 0 ≤ n → Q) : Q := by
  by_cases h : n ≥ 0
  · by_cases g : n < m
    · exact h3 (decide_eq_true h) (decide_eq_true g) h
    · exact h2 (decide_eq_true h) (decide_eq_false g)
  · exact h1 (decide_eq_false h)
theorem not_dec {b : Bool} (h : b = false) : (!b) = true := by rw [h]; rfl
theorem not_dec' {b : Bool} (h : b = true) : (!b) = false := by rw [h]; rfl
theorem inr_of {n m : Int} (h0 : decide (n ≥ 0) = true) (h1 : decide (n < m) = true) : inr n m = true := inr_true (of_decide_eq_true h0) (of_decide_eq_true h1)

theorem p17 (s n : Int) : Pure Tryd.prog 4 tabs 17 [.int .u64 s, .int .i64 n] (withV s n) := by
  refine three n 64 (fun h => ?_) (fun h g => ?_) fun h g h0 => ?_
  · rw [show withV s n = .tuple #[.int .u64 0, .int .i64 3] by simp [withV, withS, okOr, inr_neg h]]
    exact pureWk (n := 100) [(7, .br false)] [decide (n ≥ 0) = false] (by kernel_rfl) h rfl rfl
  · rw [show withV s n = .tuple #[.int .u64 0, .int .i64 3] by simp [withV, withS, okOr, inr_big g]]
    exact pureWk (n := 100) [(7, .br true), (6, .br true)] [decide (n ≥ 0) = true, (!decide (n < 64)) = true] (by kernel_rfl) ⟨h, not_dec g⟩ rfl rfl
  · rw [show withV s n = .tuple #[.int .u64 (orS s (bitS n)), .int .i64 0] by simp [withV, withS, okOr, inr_of h g]]
    exact pureWk (n := 100) [(7, .br true), (6, .br false), (5, .ok)] [decide (n ≥ 0) = true, (!decide (n < 64)) = false, 0 ≤ n] (by kernel_rfl) ⟨h, not_dec' g, h0⟩ rfl rfl

theorem p19 (s n : Int) : Pure Tryd.prog 4 tabs 19 [.int .u64 s, .int .i64 n] (wioV s n) := by
  refine three n 64 (fun h => ?_) (fun h g => ?_) fun h g h0 => ?_
  · rw [show wioV s n = .tuple #[.int .u64 0, .int .i64 3] by simp [wioV, wioS, okOr, inr_neg h]]
    exact pureWk (n := 100) [(7, .br false)] [decide (n ≥ 0) = false] (by kernel_rfl) h rfl rfl
  · rw [show wioV s n = .tuple #[.int .u64 0, .int .i64 3] by simp [wioV, wioS, okOr, inr_big g]]
    exact pureWk (n := 100) [(7, .br true), (6, .br true)] [decide (n ≥ 0) = true, (!decide (n < 64)) = true] (by kernel_rfl) ⟨h, not_dec g⟩ rfl rfl
  · rw [show wioV s n = .tuple #[.int .u64 (andNotS s (bitS n)), .int .i64 0] by simp [wioV, wioS, okOr, inr_of h g]]
    exact pureWk (n := 100) [(7, .br true), (6, .br false), (5, .ok)] [decide (n ≥ 0) = true, (!decide (n < 64)) = false, 0 ≤ n] (by kernel_rfl) ⟨h, not_dec' g, h0⟩ rfl rfl

theorem p12 (s n : Int) : Pure Tryd.prog 4 tabs 12 [.int .u64 s, .int .i64 n] (.bool (hasS s n)) := by
  refine three n 64 (fun h => ?_) (fun h g => ?_) fun h g h0 => ?_
  · rw [show hasS s n = false by simp [hasS, inr_neg h]]
    exact pureWk (n := 100) [(6, .br false)] [decide (n ≥ 0) = false] (by kernel_rfl) h rfl rfl
  · rw [show hasS s n = false by simp [hasS, inr_big g]]
    exact pureWk (n := 100) [(6, .br true), (5, .br false)] [decide (n ≥ 0) = true, decide (n < 64) = false] (by kernel_rfl) ⟨h, g⟩ rfl rfl
  · rw [show hasS s n = (andS s (bitS n) != 0) by simp [hasS, inr_of h g]]
    exact pureWk (n := 100) [(6, .br true), (5, .br true), (5, .ok)] [decide (n ≥ 0) = true, decide (n < 64) = true, 0 ≤ n] (by kernel_rfl) ⟨h, g, h0⟩ rfl rfl

theorem p34 (n : Int) : Pure Tryd.prog 4 tabs 34 [.int .i64 n] (fileV n) := by
  refine three n 8 (fun h => ?_) (fun h g => ?_) fun h g h0 => ?_
  · rw [show fileV n = .tuple #[.int .u64 0, .int .i64 3] by simp [fileV, fileS, okOr, inr_neg h]]
    exact pureWk (n := 100) [(7, .br false)] [decide (n ≥ 0) = false] (by kernel_rfl) h rfl rfl
  · rw [show fileV n = .tuple #[.int .u64 0, .int .i64 3] by simp [fileV, fileS, okOr, inr_big g]]
    exact pureWk (n := 100) [(7, .br true), (6, .br true)] [decide (n ≥ 0) = true, (!decide (n < 8)) = true] (by kernel_rfl) ⟨h, not_dec g⟩ rfl rfl
  · rw [show fileV n = .tuple #[.int .u64 (IntKind.u64.wrap (72340172838076673 * 2 ^ min n.toNat IntKind.u64.bits)), .int .i64 0] by simp [fileV, fileS, okOr, inr_of h g]]
    exact pureWk (n := 100) [(7, .br true), (6, .br false), (1, .ok)] [decide (n ≥ 0) = true, (!decide (n < 8)) = false, 0 ≤ n] (by kernel_rfl) ⟨h, not_dec' g, h0⟩ rfl rfl

theorem p35 (n : Int) : Pure Tryd.prog 4 tabs 35 [.int .i64 n] (rankV n) := by
  refine three n 8 (fun h => ?_) (fun h g => ?_) fun h g h0 => ?_
  · rw [show rankV n = .tuple #[.int .u64 0, .int .i64 3] by simp [rankV, rankS, okOr, inr_neg h]]
    exact pureWk (n := 100) [(7, .br false)] [decide (n ≥ 0) = false] (by kernel_rfl) h rfl rfl
  · rw [show rankV n = .tuple #[.int .u64 0, .int .i64 3] by simp [rankV, rankS, okOr, inr_big g]]
    exact pureWk (n := 100) [(7, .br true), (6, .br true)] [decide (n ≥ 0) = true, (!decide (n < 8)) = true] (by kernel_rfl) ⟨h, not_dec g⟩ rfl rfl
  · rw [show rankV n = .tuple #[.int .u64 (IntKind.u64.wrap (255 * 2 ^ min (IntKind.i64.wrap (8 * n)).toNat IntKind.u64.bits)), .int .i64 0] by simp [rankV, rankS, okOr, inr_of h g]]
    have g' := of_decide_eq_true g
    exact pureWk (n := 100) [(7, .br true), (6, .br false), (2, .ok)] [decide (n ≥ 0) = true, (!decide (n < 8)) = false, 0 ≤ IntKind.i64.wrap (8 * n)] (by kernel_rfl) ⟨h, not_dec' g, (show (0 : Int) ≤ IntKind.i64.wrap (8 * n) by rw [wrap64 (n := 8 * n) (by omega) (by omega)]; omega)⟩ rfl rfl

def pf3 : FuncId → List Value → Option Value
  | 17, [.int .u64 s, .int .i64 n] => some (withV s n)
  | 19, [.int .u64 s, .int .i64 n] => some (wioV s n)
  | 12, [.int .u64 s, .int .i64 n] => some (.bool (hasS s n))
  | 34, [.int .i64 n] => some (fileV n)
  | 35, [.int .i64 n] => some (rankV n)
  | 13, [] => some (.bool true)
  | 56, args => pf1 56 args
  | _, _ => none
def is3 (f : Nat) : Bool := Nat.beq f 56 || Nat.beq f 12 || Nat.beq f 13 || Nat.beq f 17 || Nat.beq f 19 || Nat.beq f 34 || Nat.beq f 35
theorem pf3_pure : ∀ f args v, is3 f = true → pf3 f args = some v → Pure Tryd.prog 4 tabs f args v := by
  intro f args v _ hp
  unfold pf3 at hp
  split at hp <;> first
    | (simp only [Option.some.injEq] at hp; subst hp; first | exact p17 _ _ | exact p19 _ _ | exact p12 _ _ | exact p34 _ | exact p35 _ | exact works_pure)
    | exact pf1_pure 56 _ v rfl hp
    | cases hp
def env3 : Env := mixEnv is3 pf3
set_option maxRecDepth 100000 in
theorem fns3 : fnB Tryd.prog 4 env3 okL = true := by kernel_rfl
theorem pure3 {n : Nat} {f : FuncId} {args : List Value} {v : Value} (hs : List (Nat × Hint)) (ob : List Prop)
    (hr : upshot (runH Tryd.prog env3 n 0 (.call f args) (base0 4 tabs) ⟨hs, []⟩) = some (v, ob)) (ho : All ob) (hu : strip v = v) (hv : plainB 100 v = true) : Pure Tryd.prog 4 tabs f args v :=
  pureM pf3_pure fns3 hs ob hr ho hu (plain_PF 100 v hv)

end Go.Proofs.YtakchekhpeokjaaDoor

/-
  BITBOARD (chapter 05): numbers of 64 bits as bits; Flip and Mirror.
-/
namespace Go.Proofs.YtakchekhpeokjaaDoor
open Go.Va

def shrS (s k : Int) : Int := s.fdiv (2 ^ min k.toNat IntKind.u64.bits)
def shlS (s k : Int) : Int := IntKind.u64.wrap (s * 2 ^ min k.toNat IntKind.u64.bits)
def swapS (s k m : Int) : Int := orS (andS (shrS s k) m) (shlS (andS s m) k)
def rbS (s : Int) : Int := let t := swapS (swapS s 8 71777214294589695) 16 281470681808895; orS (shrS t 32) (shlS t 32)
def rvS (s : Int) : Int := rbS (swapS (swapS (swapS s 1 6148914691236517205) 2 3689348814741910323) 4 1085102592571150095)

theorem p28 (s : Int) : Pure Tryd.prog 4 tabs 28 [.int .u64 s] (.int .u64 (rbS s)) :=
  pure3 (n := 100) [] [] (by kernel_rfl) trivial rfl rfl
theorem p30 (s : Int) : Pure Tryd.prog 4 tabs 30 [.int .u64 s] (.int .u64 (rbS (rvS s))) :=
  pure3 (n := 100) [] [] (by kernel_rfl) trivial rfl rfl

/-! ## As bits -/

def u (x : BitVec 64) : Int := (x.toNat : Int)
theorem u_lt (x : BitVec 64) : u x < 18446744073709551616 := by unfold u; have := x.isLt; omega
theorem u_nonneg (x : BitVec 64) : 0 ≤ u x := by unfold u; omega
theorem wrap_toNat (x : BitVec 64) : IntKind.u64.wrap (x.toNat : Int) = u x := by
  have := x.isLt
  refine wrap_fits .u64 ?_ ?_
  · show (0 : Int) ≤ _; omega
  · show _ ≤ (18446744073709551615 : Int); omega
theorem ofInt_u (x : BitVec 64) : BitVec.ofInt IntKind.u64.bits (u x) = x := by
  show BitVec.ofInt 64 (x.toNat : Int) = x
  rw [BitVec.ofInt_natCast]
  simp
theorem u_of (s : Int) (h0 : 0 ≤ s) (h1 : s < 18446744073709551616) : s = u (BitVec.ofInt 64 s) := by
  unfold u
  rw [BitVec.toNat_ofInt]
  omega
theorem orS_u (x y : BitVec 64) : orS (u x) (u y) = u (x ||| y) := by unfold orS; rw [ofInt_u, ofInt_u]; exact wrap_toNat _
theorem andS_u (x y : BitVec 64) : andS (u x) (u y) = u (x &&& y) := by unfold andS; rw [ofInt_u, ofInt_u]; exact wrap_toNat _
theorem andNotS_u (x y : BitVec 64) : andNotS (u x) (u y) = u (x &&& ~~~ y) := by unfold andNotS; rw [ofInt_u, ofInt_u]; exact wrap_toNat _
theorem pow_cast (k : Nat) : (2 : Int) ^ k = ((2 ^ k : Nat) : Int) := by simp
theorem wrap_nat (m : Nat) : IntKind.u64.wrap (m : Int) = ((m % 18446744073709551616 : Nat) : Int) := by
  unfold IntKind.wrap
  simp only [IntKind.signed, Bool.false_and, Bool.false_eq_true, if_false]
  show (m : Int) % (2 ^ 64 : Int) = _
  omega
theorem shrS_u (x : BitVec 64) (k : Nat) (hk : k ≤ 64) : shrS (u x) k = u (x >>> k) := by
  unfold shrS u
  rw [show min (k : Int).toNat IntKind.u64.bits = k by show min (k : Int).toNat 64 = k; omega]
  rw [BitVec.toNat_ushiftRight, Nat.shiftRight_eq_div_pow, pow_cast, Int.fdiv_eq_ediv_of_nonneg _ (Int.natCast_nonneg _), Int.natCast_ediv]
theorem shlS_u (x : BitVec 64) (k : Nat) (hk : k ≤ 64) : shlS (u x) k = u (x <<< k) := by
  unfold shlS u
  rw [show min (k : Int).toNat IntKind.u64.bits = k by show min (k : Int).toNat 64 = k; omega]
  rw [pow_cast, ← Int.natCast_mul, wrap_nat, BitVec.toNat_shiftLeft, Nat.shiftLeft_eq]
theorem bitS_u (n : Int) (h0 : 0 ≤ n) (h1 : n < 64) : bitS n = u (1#64 <<< n.toNat) := by
  have := shlS_u 1#64 n.toNat (by omega)
  rw [← this]
  unfold bitS shlS u
  rw [show ((n.toNat : Nat) : Int).toNat = n.toNat by omega]
  rfl
theorem u_inj {x y : BitVec 64} (h : u x = u y) : x = y := by
  unfold u at h
  exact BitVec.eq_of_toNat_eq (by omega)
theorem u_zero : u 0#64 = 0 := rfl

/-- Has, as a bit. -/
theorem hasS_u (x : BitVec 64) (n : Int) (h0 : 0 ≤ n) (h1 : n < 64) : hasS (u x) n = x.getLsbD n.toNat := by
  unfold hasS
  rw [inr_true h0 h1, Bool.true_and, bitS_u n h0 h1, andS_u]
  have hn : n.toNat < 64 := by omega
  cases hx : x.getLsbD n.toNat with
  | true =>
    rw [bne_iff_ne]
    intro h
    rw [← u_zero] at h
    have h := u_inj h
    have : (x &&& 1#64 <<< n.toNat).getLsbD n.toNat = (0#64).getLsbD n.toNat := by rw [h]
    rw [BitVec.getLsbD_eq_getElem hn] at hx
    simp [hn] at this
    rw [hx] at this
    cases this
  | false =>
    rw [bne_eq_false_iff_eq, ← u_zero]
    congr 1
    refine BitVec.eq_of_getLsbD_eq fun i hi => ?_
    by_cases he : i = n.toNat
    · subst he; simp [hx]
    · simp [hi]
      intro _ h2
      omega

def swapB (x : BitVec 64) (k : Nat) (m : BitVec 64) : BitVec 64 := ((x >>> k) &&& m) ||| ((x &&& m) <<< k)
def rbB (x : BitVec 64) : BitVec 64 := let t := swapB (swapB x 8 71777214294589695#64) 16 281470681808895#64; (t >>> 32) ||| (t <<< 32)
def rvB (x : BitVec 64) : BitVec 64 := rbB (swapB (swapB (swapB x 1 6148914691236517205#64) 2 3689348814741910323#64) 4 1085102592571150095#64)
theorem swapS_u (x : BitVec 64) (k : Nat) (hk : k ≤ 64) (m : BitVec 64) : swapS (u x) k (u m) = u (swapB x k m) := by
  unfold swapS swapB
  rw [shrS_u _ _ hk, andS_u, andS_u, shlS_u _ _ hk, orS_u]
theorem rbS_u (x : BitVec 64) : rbS (u x) = u (rbB x) := by
  have e1 := swapS_u x 8 (by decide) 71777214294589695#64
  have e2 := swapS_u (swapB x 8 71777214294589695#64) 16 (by decide) 281470681808895#64
  have e3 := shrS_u (swapB (swapB x 8 71777214294589695#64) 16 281470681808895#64) 32 (by decide)
  have e4 := shlS_u (swapB (swapB x 8 71777214294589695#64) 16 281470681808895#64) 32 (by decide)
  show orS (shrS (swapS (swapS (u x) ((8 : Nat) : Int) (u 71777214294589695#64)) ((16 : Nat) : Int) (u 281470681808895#64)) ((32 : Nat) : Int)) (shlS (swapS (swapS (u x) ((8 : Nat) : Int) (u 71777214294589695#64)) ((16 : Nat) : Int) (u 281470681808895#64)) ((32 : Nat) : Int)) = _
  rw [e1, e2, e3, e4, orS_u]
  rfl
theorem rvS_u (x : BitVec 64) : rvS (u x) = u (rvB x) := by
  have e1 := swapS_u x 1 (by decide) 6148914691236517205#64
  have e2 := swapS_u (swapB x 1 6148914691236517205#64) 2 (by decide) 3689348814741910323#64
  have e3 := swapS_u (swapB (swapB x 1 6148914691236517205#64) 2 3689348814741910323#64) 4 (by decide) 1085102592571150095#64
  show rbS (swapS (swapS (swapS (u x) ((1 : Nat) : Int) (u 6148914691236517205#64)) ((2 : Nat) : Int) (u 3689348814741910323#64)) ((4 : Nat) : Int) (u 1085102592571150095#64)) = _
  rw [e1, e2, e3, rbS_u]
  rfl

/-- Of which bits of x is the bit made? -/
def bitsOf (x y : BitVec 64) (sel : Nat → List Nat) : Prop := ∀ i, i < 64 → y.getLsbD i = (sel i).any fun j => x.getLsbD j
def swapSel (k m : Nat) (sel : Nat → List Nat) (i : Nat) : List Nat := (bif m.testBit i then (bif decide (i + k < 64) then sel (i + k) else []) else []) ++ (bif decide (k ≤ i) && m.testBit (i - k) then sel (i - k) else [])
theorem bitsOf_swap {x y : BitVec 64} {sel : Nat → List Nat} (h : bitsOf x y sel) (k m : Nat) : bitsOf x (swapB y k (BitVec.ofNat 64 m)) (swapSel k m sel) := by
  intro i hi
  unfold swapB swapSel
  rw [BitVec.getLsbD_or, BitVec.getLsbD_and, BitVec.getLsbD_ushiftRight, BitVec.getLsbD_shiftLeft, BitVec.getLsbD_and, BitVec.getLsbD_ofNat, BitVec.getLsbD_ofNat, List.any_append]
  congr 1
  · rw [Nat.add_comm k i]
    cases hm : m.testBit i with
    | false => simp
    | true =>
      by_cases hk : i + k < 64
      · rw [h _ hk]; simp [hi, hk]
      · rw [BitVec.getLsbD_of_ge _ _ (by omega)]; simp [hk]
  · by_cases hk : k ≤ i
    · have h1 : i - k < 64 := by omega
      rw [h _ h1]
      cases hm : m.testBit (i - k) with
      | false => simp
      | true =>
        have : decide (i < k) = false := by simp; omega
        simp [hk, h1, hi, this]
    · have : decide (i < k) = true := by simp; omega
      simp [this, hk]
theorem bitsOf_self (x : BitVec 64) : bitsOf x x fun i => [i] := fun i _ => by simp
def turnSel (sel : Nat → List Nat) (i : Nat) : List Nat := (bif decide (i + 32 < 64) then sel (i + 32) else []) ++ (bif decide (32 ≤ i) then sel (i - 32) else [])
theorem bitsOf_turn {x y : BitVec 64} {sel : Nat → List Nat} (h : bitsOf x y sel) : bitsOf x ((y >>> 32) ||| (y <<< 32)) (turnSel sel) := by
  intro i hi
  unfold turnSel
  rw [BitVec.getLsbD_or, BitVec.getLsbD_ushiftRight, BitVec.getLsbD_shiftLeft, List.any_append]
  congr 1
  · rw [Nat.add_comm 32 i]
    by_cases hk : i + 32 < 64
    · rw [h _ hk]; simp [hk]
    · rw [BitVec.getLsbD_of_ge _ _ (by omega)]; simp [hk]
  · by_cases hk : 32 ≤ i
    · have h1 : i - 32 < 64 := by omega
      have : decide (i < 32) = false := by simp; omega
      rw [h _ h1]; simp [hk, hi, this]
    · have : decide (i < 32) = true := by simp; omega
      simp [this, hk]
def rbSel (sel : Nat → List Nat) : Nat → List Nat := turnSel (swapSel 16 281470681808895 (swapSel 8 71777214294589695 sel))
def rvSel : Nat → List Nat := rbSel (swapSel 4 1085102592571150095 (swapSel 2 3689348814741910323 (swapSel 1 6148914691236517205 fun i => [i])))
theorem bitsOf_rb {x y : BitVec 64} {sel : Nat → List Nat} (h : bitsOf x y sel) : bitsOf x (rbB y) (rbSel sel) := bitsOf_turn (bitsOf_swap (bitsOf_swap h 8 _) 16 _)
theorem bitsOf_rv (x : BitVec 64) : bitsOf x (rvB x) rvSel := bitsOf_rb (bitsOf_swap (bitsOf_swap (bitsOf_swap (bitsOf_self x) 1 _) 2 _) 4 _)
theorem sel_flip : ((List.range 64).all fun i => rbSel (fun i => [i]) i == [8 * (7 - i / 8) + i % 8]) = true := by decide +kernel
theorem sel_mirror : ((List.range 64).all fun i => rbSel rvSel i == [i - i % 8 + 7 - i % 8]) = true := by decide +kernel

theorem flip_bit (x : BitVec 64) (i : Nat) (hi : i < 64) : (rbB x).getLsbD i = x.getLsbD (8 * (7 - i / 8) + i % 8) := by
  rw [bitsOf_rb (bitsOf_self x) i hi, eq_of_beq (List.all_eq_true.1 sel_flip i (List.mem_range.2 hi))]
  simp
theorem mirror_bit (x : BitVec 64) (i : Nat) (hi : i < 64) : (rbB (rvB x)).getLsbD i = x.getLsbD (i - i % 8 + 7 - i % 8) := by
  rw [bitsOf_rb (bitsOf_rv x) i hi, eq_of_beq (List.all_eq_true.1 sel_mirror i (List.mem_range.2 hi))]
  simp

end Go.Proofs.YtakchekhpeokjaaDoor

/-
  BITBOARD (chapter 05): Flip and Mirror replaced, too.
-/
namespace Go.Proofs.YtakchekhpeokjaaDoor
open Go.Va

def pf4 : FuncId → List Value → Option Value
  | 28, [.int .u64 s] => some (.int .u64 (rbS s))
  | 30, [.int .u64 s] => some (.int .u64 (rbS (rvS s)))
  | f, args => pf3 f args
def is4 (f : Nat) : Bool := is3 f || Nat.beq f 28 || Nat.beq f 30
theorem pf4_pure : ∀ f args v, is4 f = true → pf4 f args = some v → Pure Tryd.prog 4 tabs f args v := by
  intro f args v hf hp
  unfold pf4 at hp
  split at hp
  · cases hp; exact p28 _
  · cases hp; exact p30 _
  · rename_i h28 h30
    cases h3 : is3 f with
    | true => exact pf3_pure f args v h3 hp
    | false =>
      simp only [is4, h3, Bool.false_or, Bool.or_eq_true] at hf
      rcases hf with hf | hf <;> (obtain rfl := Nat.eq_of_beq_eq_true hf; unfold pf3 at hp; cases hp)
def env4 : Env := mixEnv is4 pf4
set_option maxRecDepth 100000 in
theorem fns4 : fnB Tryd.prog 4 env4 okL = true := by kernel_rfl
theorem pure4 {n : Nat} {f : FuncId} {args : List Value} {v : Value} (hs : List (Nat × Hint)) (ob : List Prop)
    (hr : upshot (runH Tryd.prog env4 n 0 (.call f args) (base0 4 tabs) ⟨hs, []⟩) = some (v, ob)) (ho : All ob) (hu : strip v = v) (hv : plainB 100 v = true) : Pure Tryd.prog 4 tabs f args v :=
  pureM pf4_pure fns4 hs ob hr ho hu (plain_PF 100 v hv)

end Go.Proofs.YtakchekhpeokjaaDoor

/-
  BITBOARD (chapter 05): Len; BitboardTurns is true.
-/
namespace Go.Proofs.YtakchekhpeokjaaDoor
open Go.Va

def addS (a b : Int) : Int := IntKind.u64.wrap (a + b)
def lenS (s : Int) : Int :=
  let a1 := addS (andS (shrS s 1) 6148914691236517205) (andS s 6148914691236517205)
  let a2 := addS (andS (shrS a1 2) 3689348814741910323) (andS a1 3689348814741910323)
  let a3 := andS (addS (shrS a2 4) a2) 1085102592571150095
  let a4 := addS a3 (shrS a3 8)
  let a5 := addS a4 (shrS a4 16)
  let a6 := addS a5 (shrS a5 32)
  IntKind.i64.wrap ((BitVec.ofInt IntKind.i64.bits (IntKind.i64.wrap a6) &&& BitVec.ofInt IntKind.i64.bits 127).toNat : Int)
theorem p24 (s : Int) : Pure Tryd.prog 4 tabs 24 [.int .u64 s] (.int .i64 (lenS s)) :=
  pure4 (n := 100) [] [] (by kernel_rfl) trivial rfl rfl

def pf5 : FuncId → List Value → Option Value
  | 24, [.int .u64 s] => some (.int .i64 (lenS s))
  | f, args => pf4 f args
def is5 (f : Nat) : Bool := is4 f || Nat.beq f 24
theorem pf5_pure : ∀ f args v, is5 f = true → pf5 f args = some v → Pure Tryd.prog 4 tabs f args v := by
  intro f args v hf hp
  unfold pf5 at hp
  split at hp
  · cases hp; exact p24 _
  · rename_i h24
    cases h4 : is4 f with
    | true => exact pf4_pure f args v h4 hp
    | false =>
      simp only [is5, h4, Bool.false_or] at hf
      obtain rfl := Nat.eq_of_beq_eq_true hf
      unfold pf4 pf3 at hp; cases hp
def env5 : Env := mixEnv is5 pf5
set_option maxRecDepth 100000 in
theorem fns5 : fnB Tryd.prog 4 env5 okL = true := by kernel_rfl
theorem pure5 {n : Nat} {f : FuncId} {args : List Value} {v : Value} (hs : List (Nat × Hint)) (ob : List Prop)
    (hr : upshot (runH Tryd.prog env5 n 0 (.call f args) (base0 4 tabs) ⟨hs, []⟩) = some (v, ob)) (ho : All ob) (hu : strip v = v) (hv : plainB 100 v = true) : Pure Tryd.prog 4 tabs f args v :=
  pureM pf5_pure fns5 hs ob hr ho hu (plain_PF 100 v hv)

/-! ## The loop over the squares -/

def mirS (s : Int) : Int := rbS (rvS s)
noncomputable def body6 : Code := codeOf Tryd.prog 6 [.r, .r, .l, .r, .b, .b]
def T6 (k s i : Int) (w : Nat → Value) : List Value := fillT 165 [(1, .int .u8 k), (5, .int .u64 s), (17, .int .i64 i)] w
def E6 (k s : Int) (w : Nat → Value) : List Value := fillT 165 [(1, .int .u8 k), (5, .int .u64 s)] w
def flipAt (i : Int) : Int := IntKind.i64.wrap (IntKind.i64.wrap (8 * IntKind.i64.wrap (7 - IntKind.i64.wrap (i.tdiv 8))) + i.tmod 8)
def mirAt (i : Int) : Int := IntKind.i64.wrap (IntKind.i64.wrap (IntKind.i64.wrap (i - i.tmod 8) + 7) - i.tmod 8)

theorem next6 (k s i : Int) (w : Nat → Value) (h1 : decide (i < 64) = true) (h2 : (!(hasS (rbS s) (flipAt i) == hasS s i)) = false) (h3 : (!(hasS (mirS s) (mirAt i) == hasS s i)) = false) :
    ∃ w', runW Tryd.prog env5 0 (.code ⟨6, none⟩ body6 (T6 k s i w) []) (base0 4 tabs) = some (.done .normal (T6 k s (IntKind.i64.wrap (i + 1)) w') [], base0 4 tabs) :=
  seg 100 [(1, .br true), (16, .br false), (16, .br false)] (m := 165) (js := [1, 5, 17]) (vs := [.int .u8 k, .int .u64 s, .int .i64 (IntKind.i64.wrap (i + 1))])
    (ob := [decide (i < 64) = true, (!(hasS (rbS s) (flipAt i) == hasS s i)) = false, (!(hasS (mirS s) (mirAt i) == hasS s i)) = false]) (by kernel_rfl) ⟨h1, h2, h3⟩
theorem end6 (k s i : Int) (w : Nat → Value) (h1 : decide (i < 64) = false) :
    ∃ w', runW Tryd.prog env5 0 (.code ⟨6, none⟩ body6 (T6 k s i w) []) (base0 4 tabs) = some (.done (.exit 0) (E6 k s w') [], base0 4 tabs) :=
  seg 100 [(1, .br false)] (m := 165) (js := [1, 5]) (vs := [.int .u8 k, .int .u64 s]) (ob := [decide (i < 64) = false]) (by kernel_rfl) h1
theorem loop6 (k s : Int) (hs : ∀ i : Int, 0 ≤ i → i < 64 → hasS (rbS s) (flipAt i) = hasS s i ∧ hasS (mirS s) (mirAt i) = hasS s i) : ∀ (d : Nat) (i : Int) (w : Nat → Value), 0 ≤ i → i + d = 64 →
    ∃ w', runW Tryd.prog env5 0 (.code ⟨6, none⟩ (.loop body6) (T6 k s i w) []) (base0 4 tabs) = some (.done (.exit 0) (E6 k s w') [], base0 4 tabs) := by
  intro d
  induction d with
  | zero =>
    intro i w h0 hd
    obtain ⟨w', h⟩ := end6 k s i w (decide_eq_false (by omega))
    exact ⟨w', loop_out (by intro h; cases h) h⟩
  | succ d ih =>
    intro i w h0 hd
    obtain ⟨f1, f2⟩ := hs i h0 (by omega)
    obtain ⟨w1, h⟩ := next6 k s i w (decide_eq_true (by omega)) (by rw [f1, beq_self_eq_true]; rfl) (by rw [f2, beq_self_eq_true]; rfl)
    rw [wrap64 (by omega) (by omega)] at h
    obtain ⟨w', h'⟩ := ih (i + 1) w1 (by omega) (by omega)
    exact ⟨w', loop_next h h'⟩

theorem rbB_rbB (x : BitVec 64) : rbB (rbB x) = x := by
  refine BitVec.eq_of_getLsbD_eq fun i hi => ?_
  rw [flip_bit _ _ hi, flip_bit _ _ (by omega)]
  congr 1; omega
theorem mir_mir (x : BitVec 64) : rbB (rvB (rbB (rvB x))) = x := by
  refine BitVec.eq_of_getLsbD_eq fun i hi => ?_
  rw [mirror_bit _ _ hi, mirror_bit _ _ (by omega)]
  congr 1; omega
theorem mir_rb (x : BitVec 64) : rbB (rvB (rbB x)) = rbB (rbB (rvB x)) := by
  refine BitVec.eq_of_getLsbD_eq fun i hi => ?_
  rw [mirror_bit _ _ hi, flip_bit _ _ (by omega), flip_bit _ _ hi, mirror_bit _ _ (by omega)]
  congr 1; omega

/-- What is said of a file and a rank. -/
def turnSaid (m : Int) : Bool :=
  (okOr (inr m 8) != 0) == false && (okOr (inr (IntKind.i64.wrap (7 - m)) 8) != 0) == false && (lenS (fileS m) != 8) == false && (lenS (rankS m) != 8) == false && (lenS (andS (fileS m) (rankS m)) != 1) == false &&
    (!hasS (andS (fileS m) (rankS m)) (IntKind.i64.wrap (9 * m))) == false && (mirS (fileS m) == fileS (IntKind.i64.wrap (7 - m))) == true && (rbS (fileS m) == fileS m) == true && (rbS (rankS m) == rankS (IntKind.i64.wrap (7 - m))) == true && (mirS (rankS m) == rankS m) == true
theorem turnSaid_all : ((List.range 8).all fun a => turnSaid a) = true := by decide +kernel

theorem law6 (s k : Int) (h0 : 0 ≤ s) (h1 : s < 18446744073709551616) (h2 : 0 ≤ k) : Pure Tryd.prog 4 tabs 6 [.int .u64 s, .int .u8 k] (.bool true) := by
  have hsu : s = u (BitVec.ofInt 64 s) := u_of s h0 h1
  generalize BitVec.ofInt 64 s = x at hsu
  subst hsu
  have hbit : ∀ i : Int, 0 ≤ i → i < 64 → hasS (rbS (u x)) (flipAt i) = hasS (u x) i ∧ hasS (mirS (u x)) (mirAt i) = hasS (u x) i := by
    intro i hi0 hi1
    have e1 : i.tdiv 8 = i / 8 := Int.tdiv_eq_ediv_of_nonneg hi0
    have e2 : i.tmod 8 = i % 8 := Int.tmod_eq_emod_of_nonneg hi0
    have e3 : flipAt i = 8 * (7 - i / 8) + i % 8 := by
      unfold flipAt
      rw [e1, e2, wrap64 (n := i / 8) (by omega) (by omega), wrap64 (n := 7 - i / 8) (by omega) (by omega), wrap64 (n := 8 * (7 - i / 8)) (by omega) (by omega), wrap64 (by omega) (by omega)]
    have e4 : mirAt i = i - i % 8 + 7 - i % 8 := by
      unfold mirAt
      rw [e2, wrap64 (n := i - i % 8) (by omega) (by omega), wrap64 (n := i - i % 8 + 7) (by omega) (by omega), wrap64 (by omega) (by omega)]
    rw [e3, e4]
    refine ⟨?_, ?_⟩
    · rw [rbS_u, hasS_u _ _ (by omega) (by omega), hasS_u _ _ hi0 hi1, flip_bit _ _ (by omega)]
      congr 1; omega
    · unfold mirS
      rw [rvS_u, rbS_u, hasS_u _ _ (by omega) (by omega), hasS_u _ _ hi0 hi1, mirror_bit _ _ (by omega)]
      congr 1; omega
  obtain ⟨w', hw'⟩ := loop6 k (u x) hbit 64 0 (fun j => ([(0, Value.int .u64 (u x)), (4, Value.bool false), (16, Value.int .u64 (u x))].find? fun y => Nat.beq y.1 j).elim undef (·.2)) (by omega) (by omega)
  obtain ⟨m, hm, hk⟩ : ∃ m : Nat, m < 8 ∧ IntKind.i64.wrap (k.tmod 8) = m := by
    have : k.tmod 8 = k % 8 := Int.tmod_eq_emod_of_nonneg h2
    refine ⟨(k % 8).toNat, by omega, ?_⟩
    rw [this, wrap64 (by omega) (by omega)]
    omega
  have hf : turnSaid m = true := List.all_eq_true.1 turnSaid_all m (List.mem_range.2 hm)
  rw [← hk] at hf
  simp only [turnSaid, Bool.and_eq_true, beq_iff_eq] at hf
  obtain ⟨⟨⟨⟨⟨⟨⟨⟨⟨f1, f2⟩, f3⟩, f4⟩, f5⟩, f6⟩, f7⟩, f8⟩, f9⟩, f10⟩ := hf
  have g1 : (rbS (rbS (u x)) == u x) = true := by rw [rbS_u, rbS_u, rbB_rbB, beq_self_eq_true]
  have g2 : (mirS (mirS (u x)) == u x) = true := by unfold mirS; rw [rvS_u, rbS_u, rvS_u, rbS_u, mir_mir, beq_self_eq_true]
  have g3 : (mirS (rbS (u x)) == rbS (mirS (u x))) = true := by unfold mirS; rw [rbS_u, rvS_u, rvS_u, rbS_u, rbS_u, rbS_u, mir_rb, beq_self_eq_true]
  exact pure5 (n := 100) [(4, .skip (.done (.exit 0) (E6 k (u x) w') []) (base0 4 tabs)), (36, .br false), (3, .br false), (3, .br false), (3, .br false), (4, .br false), (4, .br false), (6, .br false), (8, .br false),
      (5, .br true), (6, .br true), (8, .br true), (5, .br true), (5, .br true), (5, .br true), (5, .br true)]
    [runW Tryd.prog env5 0 (.code ⟨6, none⟩ (.loop body6) (T6 k (u x) 0 fun j => ([(0, Value.int .u64 (u x)), (4, Value.bool false), (16, Value.int .u64 (u x))].find? fun y => Nat.beq y.1 j).elim undef (·.2)) []) (base0 4 tabs) = some (.done (.exit 0) (E6 k (u x) w') [], base0 4 tabs),
      (okOr (inr (IntKind.i64.wrap (k.tmod 8)) 8) != 0) = false, (okOr (inr (IntKind.i64.wrap (k.tmod 8)) 8) != 0) = false, (okOr (inr (IntKind.i64.wrap (7 - IntKind.i64.wrap (k.tmod 8))) 8) != 0) = false, (okOr (inr (IntKind.i64.wrap (7 - IntKind.i64.wrap (k.tmod 8))) 8) != 0) = false,
      (lenS (fileS (IntKind.i64.wrap (k.tmod 8))) != 8) = false, (lenS (rankS (IntKind.i64.wrap (k.tmod 8))) != 8) = false, (lenS (andS (fileS (IntKind.i64.wrap (k.tmod 8))) (rankS (IntKind.i64.wrap (k.tmod 8)))) != 1) = false,
      (!hasS (andS (fileS (IntKind.i64.wrap (k.tmod 8))) (rankS (IntKind.i64.wrap (k.tmod 8)))) (IntKind.i64.wrap (9 * IntKind.i64.wrap (k.tmod 8)))) = false,
      (rbS (rbS (u x)) == u x) = true, (mirS (mirS (u x)) == u x) = true, (mirS (rbS (u x)) == rbS (mirS (u x))) = true,
      (mirS (fileS (IntKind.i64.wrap (k.tmod 8))) == fileS (IntKind.i64.wrap (7 - IntKind.i64.wrap (k.tmod 8)))) = true, (rbS (fileS (IntKind.i64.wrap (k.tmod 8))) == fileS (IntKind.i64.wrap (k.tmod 8))) = true,
      (rbS (rankS (IntKind.i64.wrap (k.tmod 8))) == rankS (IntKind.i64.wrap (7 - IntKind.i64.wrap (k.tmod 8)))) = true, (mirS (rankS (IntKind.i64.wrap (k.tmod 8))) == rankS (IntKind.i64.wrap (k.tmod 8))) = true]
    (by kernel_rfl) ⟨hw', f1, f1, f2, f2, f3, f4, f5, f6, g1, g2, g3, beq_iff_eq.2 f7, beq_iff_eq.2 f8, beq_iff_eq.2 f9, beq_iff_eq.2 f10⟩ rfl rfl

theorem law6' (s k : Int) (h0 : IntKind.u64.min ≤ s) (h1 : s ≤ IntKind.u64.max) (h2 : IntKind.u8.min ≤ k) (_ : k ≤ IntKind.u8.max) : Pure Tryd.prog 4 tabs 6 [.int .u64 s, .int .u8 k] (.bool true) := by
  have a0 : (0 : Int) ≤ s := h0
  have a1 : s ≤ 18446744073709551615 := h1
  exact law6 s k a0 (by omega) h2

end Go.Proofs.YtakchekhpeokjaaDoor
