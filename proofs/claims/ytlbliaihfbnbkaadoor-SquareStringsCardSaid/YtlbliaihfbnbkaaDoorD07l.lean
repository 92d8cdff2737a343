/-
  SQUARE (chapter 07): tables of replaced functions; the index of a comma.
-/
import Derived.Test.YtlbliaihfbnbkaaDoorD07k
import Derived.Test.YtlbliaihfbnbkaaDoorVap4
namespace Go.Proofs.YtlbliaihfbnbkaaDoor
open Go.Va

def envT (t : Ktab) : Env := pureEnv (fun f => okL.contains f) plans rws (isT t) (pfT t)
theorem pureT {l : Ktab} (hl : TOk Tryd.prog 3 [] l) (hFn : fnB Tryd.prog 3 (envT l) okL = true) {n : Nat} {f : FuncId} {args : List Value} {v u : Value} (hs : List (Nat × Hint)) (ob : List Prop)
    (hr : upshot (runH Tryd.prog (envT l) n 0 (.call f args) (base0 3 []) ⟨hs, []⟩) = some (v, ob)) (ho : All ob) (hu : strip v = u) (hv : PF u) : Pure Tryd.prog 3 [] f args u :=
  pureP (fun f args v _ h => pfT_pure hl f args v h) (fnOk_of rfl hFn) hs ob hr ho hu hv
/-- From a run to a function, where the answer is a pair. -/
theorem pureX {l : Ktab} (hl : TOk Tryd.prog 3 [] l) (hFn : fnB Tryd.prog 3 (envT l) okL = true) {f : FuncId} {args : List Value} {v u : Value} {σ' : AS}
    (hr : runW Tryd.prog (envT l) 0 (.call f args) (base0 3 []) = some (.val v, σ')) (hu : Shed v u) (hv : PF u) : Pure Tryd.prog 3 [] f args u :=
  topX zeroOk mixed rfl pureEnv_good (fun w hT => pureEnv_ok rfl (fun f args v _ h => pfT_pure hl f args v h) hT hT.1) (fnOk_of rfl hFn) hr hu hv

def k22 : List Value → Option Value
  | [] => some (.bool true)
  | _ => none
def k23 : List Value → Option Value
  | [.string s] => some (parseV s)
  | _ => none
def k10 : List Value → Option Value
  | [.int .i64 s] => some (nameV s)
  | _ => none
def t1 : Ktab := [(22, k22), (23, k23), (24, k23), (54, pf1 54), (10, k10)]
theorem t1_ok : TOk Tryd.prog 3 [] t1 := by
  refine ⟨?_, ?_, ?_, ?_, ?_, trivial⟩ <;> intro args v h
  · unfold k22 at h; split at h <;> cases h; exact works_pure
  · unfold k23 at h; split at h <;> cases h; exact p23 _
  · unfold k23 at h; split at h <;> cases h; exact p24 _
  · exact pure54 54 args v rfl h
  · unfold k10 at h; split at h <;> cases h; exact p10 _
def envL : Env := envT t1
set_option maxRecDepth 100000 in
theorem fnsL : fnB Tryd.prog 3 envL okL = true := by kernel_rfl
theorem pfT_ne {g f : FuncId} {k : List Value → Option Value} {l : Ktab} {args : List Value} (h : Nat.beq g f = false) : pfT ((g, k) :: l) f args = pfT l f args := by
  show (bif Nat.beq g f then k args else pfT l f args) = _
  rw [h, cond_false]
theorem pfT_eq {f : FuncId} {k : List Value → Option Value} {l : Ktab} {args : List Value} : pfT ((f, k) :: l) f args = k args := by
  show (bif Nat.beq f f then k args else pfT l f args) = _
  rw [show Nat.beq f f = true from Nat.beq_refl f, cond_true]
theorem envK {l : Ktab} {f : FuncId} {args : List Value} {lim : Nat} {σ : AS} {v : Value} (h3 : args.map strip = args) (h4 : args.all (flatB 100) = true) (h : pfT l f args = some v) :
    (envT l).ov f args lim σ = some (v, σ) := pureOv_of (by rw [h3]; exact h4) (by rw [h3]; exact h)
theorem ovL_23 (s : ByteArray) (lim : Nat) (σ : AS) : envL.ov 23 [.string s] lim σ = some (parseV s, σ) :=
  envK rfl rfl (by unfold t1; rw [pfT_ne rfl, pfT_eq]; rfl)
theorem ovL_24 (s : ByteArray) (lim : Nat) (σ : AS) : envL.ov 24 [.string s] lim σ = some (parseV s, σ) :=
  envK rfl rfl (by unfold t1; rw [pfT_ne rfl, pfT_ne rfl, pfT_eq]; rfl)

/-- Lists of numbers. -/
def zs (l : List Int) : List Value := l.map fun n => .int .i64 n
def str (l : List UInt8) : ByteArray := ⟨l.toArray⟩
/-- The squares of some names. -/
def goL : List (List UInt8) → List Int → Option (List Int)
  | [], acc => some acc
  | p :: ps, acc => bif parseB (str p) then goL ps (acc ++ [parseI (str p)]) else none
def resV : Option (List Int) → Value
  | none => .tuple #[.slice none 0 0, .int .i64 8]
  | some [] => .tuple #[.slice none 0 0, .int .i64 0]
  | some l => .tuple #[L (zs l) l.length 1 0, .int .i64 0]
def listV (s : ByteArray) : Value := match s.data.toList with
  | [] => .tuple #[.slice none 0 0, .int .i64 0]
  | l => resV (goL (pcs 44 l) [])
theorem parseV_ok {s : ByteArray} (h : parseB s = true) : parseV s = .tuple #[.int .i64 (parseI s), .int .i64 0] := by
  unfold parseV; rw [h]; rfl
theorem parseV_no {s : ByteArray} (h : parseB s = false) : parseV s = .tuple #[.int .i64 0, .int .i64 8] := by
  refine parse_bad fun a b hs => ?_
  unfold parseB at h
  rw [hs] at h
  exact h
theorem zs_app (l m : List Int) : zs (l ++ m) = zs l ++ zs m := List.map_append
theorem zs_len (l : List Int) : (zs l).length = l.length := List.length_map ..
theorem ex_str (s : ByteArray) (a b : Nat) : s.extract a b = str ((s.data.toList.drop a).take (b - a)) := by
  apply ba_ext
  unfold str
  rw [ByteArray.data_extract]
  simp [Array.toList_extract, List.extract_eq_take_drop]
end Go.Proofs.YtlbliaihfbnbkaaDoor
