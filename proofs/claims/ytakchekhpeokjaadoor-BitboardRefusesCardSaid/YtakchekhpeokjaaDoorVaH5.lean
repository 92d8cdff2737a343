/-
  A part of a function's code, by the way to it.
-/
import Derived.Test.YtakchekhpeokjaaDoorVaH4
namespace Go.Va

inductive Way where
  | l | r | b | t | e

def sub : Code → List Way → Code
  | c, [] => c
  | .seq a _, .l :: w => sub a w
  | .seq _ c, .r :: w => sub c w
  | .block _ c, .b :: w => sub c w
  | .loop c, .b :: w => sub c w
  | .scope c, .b :: w => sub c w
  | .rangeFunc _ _ _ c, .b :: w => sub c w
  | .cond _ a _, .t :: w => sub a w
  | .cond _ _ c, .e :: w => sub c w
  | _, _ => .skip

def codeOf (P : Program) (f : FuncId) (w : List Way) : Code :=
  match P.funcs[f]? with
  | some fn => (match fn.body with
    | some c => sub c w
    | none => .skip)
  | none => .skip

/-- Temporaries of which some are known. -/
def look : List (Nat × Value) → Nat → Value → Value
  | [], _, d => d
  | (k, v) :: l, j, d => bif Nat.beq k j then v else look l j d
def fillT (m : Nat) (fx : List (Nat × Value)) (w : Nat → Value) : List Value := (List.range m).map fun j => look fx j (w j)

/-- What is looked at of a run of code: how it ends, some temporaries, the heap, the premises. -/
def picked (m : Nat) (js : List Nat) (x : Option (Out × AS × HS)) : Option (Ex × List Value × List Nat × AS × List Prop) :=
  match x with
  | some (.done e t ds, σ, s) => bif Nat.beq t.length m then some (e, js.map fun j => t.getD j undef, ds, σ, s.ob.reverse) else none
  | _ => none

theorem look_zip (t : List Value) (j : Nat) : ∀ js : List Nat, look (js.zip (js.map fun j => t.getD j undef)) j (t.getD j undef) = t.getD j undef
  | [] => rfl
  | k :: js => by
    simp only [List.map_cons, List.zip_cons_cons, look]
    cases h : Nat.beq k j with
    | true => rw [Nat.eq_of_beq_eq_true h]; rfl
    | false => exact look_zip t j js

theorem fillT_pick {t : List Value} {m : Nat} (hm : t.length = m) (js : List Nat) : fillT m (js.zip (js.map fun j => t.getD j undef)) (fun j => t.getD j undef) = t := by
  unfold fillT
  refine List.ext_getElem (by simp [hm]) fun i h1 h2 => ?_
  simp only [List.getElem_map, List.getElem_range]
  rw [look_zip, List.getD_eq_getElem?_getD, List.getElem?_eq_getElem h2]
  rfl

/-- A PIECE OF CODE is run with hints. -/
theorem seg {P : Program} {E : Env} {lim : Nat} {k : Task} {σ : AS} (n : Nat) (hs : List (Nat × Hint)) {m : Nat} {js : List Nat} {e : Ex} {vs : List Value} {ds : List Nat} {σ' : AS} {ob : List Prop}
    (h : picked m js (runH P E n lim k σ ⟨hs, []⟩) = some (e, vs, ds, σ', ob)) (ha : All ob) : ∃ w, runW P E lim k σ = some (.done e (fillT m (js.zip vs) w) ds, σ') := by
  unfold picked at h
  split at h
  · rename_i e' t ds' σ1 s hr
    cases hb : Nat.beq t.length m with
    | false => rw [hb] at h; cases h
    | true =>
      rw [hb, cond_true] at h
      cases h
      refine ⟨fun j => t.getD j undef, ?_⟩
      rw [fillT_pick (Nat.eq_of_beq_eq_true hb)]
      exact runW_of_hints hr ha
  · cases h

/-- From the limit to a call. -/
theorem pureW {P : Program} {G : Nat} {ok : FuncId → Bool} {draws : FuncId → Nat → Option Plan} {isOv : FuncId → Bool} {pf : FuncId → List Value → Option Value} {tabs : List (Nat × List Value)} (hZ : ZeroOk P) (hM : P.follows .mixedOrders = true) (ht : tabsB G tabs = true)
    (hpf : ∀ f args v, isOv f = true → pf f args = some v → Pure P G tabs f args v) (hFn : FnOk P G (pureEnv ok draws isOv pf)) {f : FuncId} {args : List Value} {v : Value} {σ' : AS}
    (hr : runW P (pureEnv ok draws isOv pf) 0 (.call f args) (base0 G tabs) = some (.val v, σ')) (ha : args.all (plainB 100) = true) (hv : plainB 100 v = true) : Pure P G tabs f args v := by
  obtain ⟨n, h⟩ := runW_some hr
  exact top hZ hM ht hpf hFn h ha hv

end Go.Va
