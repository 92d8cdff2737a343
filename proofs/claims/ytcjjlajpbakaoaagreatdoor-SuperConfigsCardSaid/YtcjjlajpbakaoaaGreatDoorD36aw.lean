/-
  SUPERBLOCK (chapter 36): structs compared.
-/
import Derived.Test.YtcjjlajpbakaoaaGreatDoorD36au
namespace Go.Proofs.YtcjjlajpbakaoaaGreatDoor
open Go.Va
section
variable {P : Program}
/-- What the fields' comparisons answer. -/
inductive FldEq (P : Program) (lim d : Nat) (x y : Array Value) (σ : AS) : List Field → List Bool → Prop
  | nil : FldEq P lim d x y σ [] []
  | cons {f : Field} {fs : List Field} {b : Bool} {bs : List Bool} (vx vy : Value) (hn : f.name ≠ "_") (h1 : runA P lim (part f.type x f.offset) σ = some (vx, σ)) (h2 : runA P lim (part f.type y f.offset) σ = some (vy, σ))
      (h3 : runA P lim (Op.equalIn d f.type vx vy) σ = some (b, σ)) (r : FldEq P lim d x y σ fs bs) : FldEq P lim d x y σ (f :: fs) (b :: bs)
def allB : List Bool → Bool
  | [] => true
  | b :: bs => b && allB bs
theorem fldLoop {lim d : Nat} {x y : Array Value} {σ : AS} {fs : List Field} {bs : List Bool} (h : FldEq P lim d x y σ fs bs) :
    runA P lim (forIn (m := Sem) fs ((none, ()) : Option Bool × Unit) fun f __s =>
                if f.name ≠ "_" then do
                  let __do_lift ← part f.type x f.offset
                  let __do_lift_1 ← part f.type y f.offset
                  let __do_lift ← Op.equalIn d f.type __do_lift __do_lift_1
                  if (!__do_lift) = true then pure (ForInStep.done (some false, ()))
                    else pure (ForInStep.yield (none, ()))
                else pure (ForInStep.yield (none, ()))) σ = some (bif allB bs then (none, ()) else (some false, ()), σ) := by
  induction h with
  | nil => rfl
  | @cons f fs b bs vx vy hn h1 h2 h3 r ih =>
    rw [List.forIn_cons, runA_bind, if_pos hn, runA_bind, h1]
    dsimp only
    rw [runA_bind, h2]
    dsimp only
    rw [runA_bind, h3]
    dsimp only
    cases b with
    | true =>
      show runA P lim _ σ = some (bif (true && allB bs) then _ else _, σ)
      rw [Bool.true_and]
      exact ih
    | false => rfl
theorem eqStr {t : TypeId} {fs : Array Field} (ht : P.underlying t = some (.struct fs)) (hs : P.stoodInHeld t = false) (lim d : Nat) (x y : Array Value) (σ : AS) {bs : List Bool} (h : FldEq P lim d x y σ fs.toList bs) :
    runA P lim (Op.equalIn (d + 1) t (.agg x) (.agg y)) σ = some (allB bs, σ) := by
  rw [Op.equalIn, runA_bind, runA_underlying, ht]
  dsimp only [Option.map]
  rw [runA_bind, show runA P lim program σ = some (P, σ) from rfl]
  dsimp only
  rw [hs, if_neg (by decide), runA_bind, ← Array.forIn_toList, fldLoop h]
  cases allB bs <;> rfl
theorem eqOp {op : BinOp} (ho : op = .eql ∨ op = .neq) {t : TypeId} {x y : Array Value} {b : Bool} {lim : Nat} {σ : AS} (h : runA P lim (Op.equalIn 10000 t (.agg x) (.agg y)) σ = some (b, σ)) :
    runA P lim (binOp op t (.agg x) (.agg y)) σ = some (.bool (bif op == .eql then b else !b), σ) := by
  rcases ho with rfl | rfl
  · show runA P lim (Op.equalIn 10000 t (.agg x) (.agg y) >>= fun b => Pure.pure (Value.bool b)) σ = _
    rw [runA_bind, h]; rfl
  · show runA P lim (Op.equalIn 10000 t (.agg x) (.agg y) >>= fun b => Pure.pure (Value.bool !b)) σ = _
    rw [runA_bind, h]; rfl
end

def fld24 : List Field := [{ name := "Sectors", type := 3, offset := 0, embedded := false, tag := "", pkgPath := "", byteOffset := 0 }, { name := "Log", type := 3, offset := 1, embedded := false, tag := "", pkgPath := "", byteOffset := 8 }, { name := "Cache", type := 3, offset := 2, embedded := false, tag := "", pkgPath := "", byteOffset := 16 }, { name := "Table", type := 3, offset := 3, embedded := false, tag := "", pkgPath := "", byteOffset := 24 }, { name := "Seed", type := 22, offset := 4, embedded := false, tag := "", pkgPath := "", byteOffset := 32 }]
def fld41 : List Field := [{ name := "Epoch", type := 2, offset := 0, embedded := false, tag := "", pkgPath := "", byteOffset := 0 }, { name := "Conf", type := 24, offset := 1, embedded := false, tag := "", pkgPath := "", byteOffset := 8 }]
theorem und24 : Tryz.prog.underlying 24 = some (.struct ⟨fld24⟩) := by kernel_rfl
theorem und41 : Tryz.prog.underlying 41 = some (.struct ⟨fld41⟩) := by kernel_rfl
theorem und36 : Tryz.prog.underlying 36 = some (.struct ⟨fld41⟩) := by kernel_rfl
theorem und2 : Tryz.prog.underlying 2 = some (.int .i64) := by kernel_rfl
theorem und3 : Tryz.prog.underlying 3 = some (.int .i64) := by kernel_rfl
theorem und22 : Tryz.prog.underlying 22 = some (.int .u64) := by kernel_rfl
def cf (a b c d s : Int) : List Value := [.int .i64 a, .int .i64 b, .int .i64 c, .int .i64 d, .int .u64 s]
theorem eq24 (lim d : Nat) (a b c e s a' b' c' e' s' : Int) (σ : AS) : runA Tryz.prog lim (Op.equalIn (d + 2) 24 (.agg ⟨cf a b c e s⟩) (.agg ⟨cf a' b' c' e' s'⟩)) σ = some ((a == a') && ((b == b') && ((c == c') && ((e == e') && ((s == s') && true)))), σ) :=
  eqStr (bs := [a == a', b == b', c == c', e == e', s == s']) und24 (by kernel_rfl) lim (d + 1) _ _ σ
    (.cons (.int .i64 a) (.int .i64 a') (by decide) (partEl und3 lim _ _ _ rfl σ) (partEl und3 lim _ _ _ rfl σ) (eqEl und3 d lim a a' σ)
    (.cons (.int .i64 b) (.int .i64 b') (by decide) (partEl und3 lim _ _ _ rfl σ) (partEl und3 lim _ _ _ rfl σ) (eqEl und3 d lim b b' σ)
    (.cons (.int .i64 c) (.int .i64 c') (by decide) (partEl und3 lim _ _ _ rfl σ) (partEl und3 lim _ _ _ rfl σ) (eqEl und3 d lim c c' σ)
    (.cons (.int .i64 e) (.int .i64 e') (by decide) (partEl und3 lim _ _ _ rfl σ) (partEl und3 lim _ _ _ rfl σ) (eqEl und3 d lim e e' σ)
    (.cons (.int .u64 s) (.int .u64 s') (by decide) (partEl und22 lim _ _ _ rfl σ) (partEl und22 lim _ _ _ rfl σ) (eqEl und22 d lim s s' σ) .nil)))))
theorem part24 (lim : Nat) (n a b c e s : Int) (σ : AS) : runA Tryz.prog lim (part 24 ⟨.int .i64 n :: cf a b c e s⟩ 1) σ = some (.agg ⟨cf a b c e s⟩, σ) := by kernel_rfl
def eqS (n a b c e s n' a' b' c' e' s' : Int) : Bool := (n == n') && (((a == a') && ((b == b') && ((c == c') && ((e == e') && ((s == s') && true))))) && true)
theorem eq41 (t : TypeId) (ht : t = 36 ∨ t = 41) (lim d : Nat) (n a b c e s n' a' b' c' e' s' : Int) (σ : AS) : runA Tryz.prog lim (Op.equalIn (d + 3) t (sup n a b c e s) (sup n' a' b' c' e' s')) σ = some (eqS n a b c e s n' a' b' c' e' s', σ) := by
  have h : FldEq Tryz.prog lim (d + 2) ⟨.int .i64 n :: cf a b c e s⟩ ⟨.int .i64 n' :: cf a' b' c' e' s'⟩ σ fld41 [n == n', (a == a') && ((b == b') && ((c == c') && ((e == e') && ((s == s') && true))))] :=
    .cons (.int .i64 n) (.int .i64 n') (by decide) (partEl und2 lim _ _ _ rfl σ) (partEl und2 lim _ _ _ rfl σ) (eqEl und2 (d + 1) lim n n' σ)
    (.cons (.agg ⟨cf a b c e s⟩) (.agg ⟨cf a' b' c' e' s'⟩) (by decide) (part24 lim n a b c e s σ) (part24 lim n' a' b' c' e' s' σ) (eq24 lim d a b c e s a' b' c' e' s' σ) .nil)
  rcases ht with rfl | rfl
  · exact eqStr und36 (by kernel_rfl) lim (d + 2) _ _ σ h
  · exact eqStr und41 (by kernel_rfl) lim (d + 2) _ _ σ h
/-- Superblocks compared. -/
theorem eqSup (t : TypeId) (ht : t = 36 ∨ t = 41) (lim : Nat) (n a b c e s n' a' b' c' e' s' : Int) (σ : AS) : runA Tryz.prog lim (binOp .eql t (sup n a b c e s) (sup n' a' b' c' e' s')) σ = some (.bool (eqS n a b c e s n' a' b' c' e' s'), σ) :=
  eqOp (.inl rfl) (eq41 t ht lim 9997 n a b c e s n' a' b' c' e' s' σ)
theorem neSup (t : TypeId) (ht : t = 36 ∨ t = 41) (lim : Nat) (n a b c e s n' a' b' c' e' s' : Int) (σ : AS) : runA Tryz.prog lim (binOp .neq t (sup n a b c e s) (sup n' a' b' c' e' s')) σ = some (.bool (!eqS n a b c e s n' a' b' c' e' s'), σ) :=
  eqOp (.inr rfl) (eq41 t ht lim 9997 n a b c e s n' a' b' c' e' s' σ)
theorem eqS_self (n a b c e s : Int) : eqS n a b c e s n a b c e s = true := by unfold eqS; simp
/-- Configurations compared. -/
theorem eqCfg (lim : Nat) (a b c e s a' b' c' e' s' : Int) (σ : AS) : runA Tryz.prog lim (binOp .eql 24 (cfg a b c e s) (cfg a' b' c' e' s')) σ = some (.bool ((a == a') && ((b == b') && ((c == c') && ((e == e') && ((s == s') && true))))), σ) :=
  eqOp (.inl rfl) (eq24 lim 9998 a b c e s a' b' c' e' s' σ)
theorem neCfg (lim : Nat) (a b c e s a' b' c' e' s' : Int) (σ : AS) : runA Tryz.prog lim (binOp .neq 24 (cfg a b c e s) (cfg a' b' c' e' s')) σ = some (.bool (!((a == a') && ((b == b') && ((c == c') && ((e == e') && ((s == s') && true)))))), σ) :=
  eqOp (.inr rfl) (eq24 lim 9998 a b c e s a' b' c' e' s' σ)

end Go.Proofs.YtcjjlajpbakaoaaGreatDoor
