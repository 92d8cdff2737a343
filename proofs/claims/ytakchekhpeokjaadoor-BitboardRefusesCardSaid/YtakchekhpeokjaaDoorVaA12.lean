/-
  SIMULATION: append, to the end.
-/
import Derived.Test.YtakchekhpeokjaaDoorVaA11
import Derived.IntWalk
namespace Go.Va
open Go.RowKit
variable {P : Program} {K : FuncId → Code → Prop} {W0 : World} {N0 : Nat}

/-- What comes behind the slice: zeros, or another row's cells. -/
def behind (size : Nat) (elem : TypeId) (x : Value) (n : Nat) : Bool → Sem (Array Value)
  | true => if n * size = 0 then pure #[] else zeroValue elem >>= fun z => pure (Builtin.zeroCells z.cells n)
  | false => Builtin.firstCells size n x

/-- The mode of an append. -/
structure Mode1 (P : Program) (i : TypeInfo) (t : TypeId) (d : TypeDesc) (x : Value) (n : Nat) (b : Bool) : Prop where
  und : P.underlying t = some d
  yes : b = true → (∃ k, d = .int k) ∧ ∃ k l, x = .int k l ∧ 0 ≤ l ∧ l ≤ 17179869184 ∧ n = l.toNat ∧ i.bytes ≤ 4096
  no : b = false → (∀ k, d ≠ .int k) ∧ ∀ w, (Builtin.lenOf x).run P w = .ok n w

theorem run_append_in {argTypes : Array TypeId} {ty sType elem t : TypeId} {d : TypeDesc} {i : TypeInfo} {base : Option Addr} {sLen sCap n : Nat} {x : Value} {b : Bool} {w : World} {new : Array Value} (h0 : argTypes[0]? = some sType)
    (h1 : argTypes[1]? = some t) (hd : P.underlying sType = some (.slice elem)) (hi : P.info? elem = some i) (hm : Mode1 P i t d x n b) (hle : sLen + n ≤ sCap) (hn : (behind i.size elem x n b).run P w = .ok new w) :
    (Builtin.append_ argTypes ty #[.slice base sLen sCap, x]).run P w =
      (match base with
        | some a => storeCells (a.add (sLen * i.size)) new.toList >>= fun _ => pure (.slice base (sLen + n) sCap)
        | none => pure (.slice base (sLen + n) sCap) : Sem Value).run P w := by
  have r1 : ∀ w, (underlying sType).run P w = .ok (.slice elem) w := fun w => run_underlying' _ w _ hd
  have r2 : ∀ w, (underlying t).run P w = .ok d w := fun w => run_underlying' _ w _ hm.und
  have r3 : ∀ w, (sizeOf elem).run P w = .ok i.size w := fun w => run_sizeOf' _ w _ hi
  have r4 : ∀ w, (typeInfo elem).run P w = .ok i w := fun w => run_typeInfo' _ w _ hi
  have a0 : (#[Value.slice base sLen sCap, x] : Array Value)[0]? = some (.slice base sLen sCap) := rfl
  have a1 : (#[Value.slice base sLen sCap, x] : Array Value)[1]? = some x := rfl
  have rp : ∀ {α : Type} (a : α) (w : World), (pure a : Sem α).run P w = .ok a w := fun _ _ => rfl
  cases b with
  | false =>
    obtain ⟨hnd, hlen⟩ := hm.no rfl
    have hz : (match d with | .int _ => true | _ => false) = false := by cases d <;> first | rfl | exact absurd rfl (hnd _)
    simp only [behind] at hn
    unfold Builtin.append_
    simp only [h0, h1, a0, a1, run_bind', r1, r2, r3, rp, Bool.false_eq_true, if_false, hlen, if_pos hle, Bool.not_false, if_true, hn]
    cases base <;> rfl
  | true =>
    obtain ⟨⟨k0, rfl⟩, k, l, rfl, hl0, hl1, rfl, hby⟩ := hm.yes rfl
    have hw : IntKind.i64.wrap l = l := IntWalk.i64_in _ ⟨by omega, by omega⟩
    have r5 : ∀ w, (asInt (.int k l)).run P w = .ok l w := fun _ => rfl
    have c1 : ¬ l < 0 := by omega
    have c2 : ¬ l * (i.bytes : Int) > 2 ^ 48 := by
      have : l * (i.bytes : Int) ≤ 17179869184 * 4096 := Int.mul_le_mul hl1 (by omega) (by omega) (by omega)
      omega
    have hn' : (if l.toNat * i.size = 0 then pure #[] else zeroValue elem >>= fun z => pure (Builtin.zeroCells z.cells l.toNat) : Sem (Array Value)).run P w = .ok new w := hn
    unfold Builtin.append_
    simp only [h0, h1, a0, a1, run_bind', r1, r2, r3, r4, r5, rp, if_true, hw, if_neg c1, if_neg c2, if_pos hle, Bool.not_true, Bool.false_eq_true, if_false]
    by_cases hq : l.toNat * i.size = 0
    · rw [if_pos hq] at hn' ⊢
      simp only [rp] at hn' ⊢
      cases hn'
      cases base <;> rfl
    · rw [if_neg hq] at hn' ⊢
      rw [run_bind'] at hn' ⊢
      rw [hn']
      cases base <;> rfl

/-- The world behind a draw. -/
def drawn1 (w : World) : World := { w with drawn := w.drawn + 1 }

theorem run_append_grow {argTypes : Array TypeId} {ty sType elem t : TypeId} {d : TypeDesc} {i : TypeInfo} {z : Value} {base : Option Addr} {sLen sCap n : Nat} {x : Value} {b : Bool} {w : World} {old new : Array Value} (h0 : argTypes[0]? = some sType)
    (h1 : argTypes[1]? = some t) (hd : P.underlying sType = some (.slice elem)) (hi : P.info? elem = some i) (hz : i.zero = some z) (hm : Mode1 P i t d x n b) (hle : ¬ sLen + n ≤ sCap) (hby : (sLen + n) * i.bytes ≤ 70368744177664) (hb0 : 0 < i.bytes)
    (ho : (Builtin.firstCells i.size sLen (.slice base sLen sCap)).run P (drawn1 w) = .ok old (drawn1 w)) (hn : (behind i.size elem x n b).run P (drawn1 w) = .ok new (drawn1 w)) :
    ∃ cap, sLen + n ≤ cap ∧ (Builtin.append_ argTypes ty #[.slice base sLen sCap, x]).run P w =
      .ok (.slice (some ⟨w.heap.size, 0, none⟩) (sLen + n) cap)
        { drawn1 w with heap := w.heap.push (.cells (old ++ new ++ Builtin.zeroCells z.cells (cap - (sLen + n))) elem) } := by
  have r1 : ∀ w, (underlying sType).run P w = .ok (.slice elem) w := fun w => run_underlying' _ w _ hd
  have r2 : ∀ w, (underlying t).run P w = .ok d w := fun w => run_underlying' _ w _ hm.und
  have r3 : ∀ w, (sizeOf elem).run P w = .ok i.size w := fun w => run_sizeOf' _ w _ hi
  have r4 : ∀ w, (typeInfo elem).run P w = .ok i w := fun w => run_typeInfo' _ w _ hi
  have r6 : ∀ w, (zeroValue elem).run P w = .ok z w := fun w => run_zeroValue' _ w _ _ hi hz
  have a0 : (#[Value.slice base sLen sCap, x] : Array Value)[0]? = some (.slice base sLen sCap) := rfl
  have a1 : (#[Value.slice base sLen sCap, x] : Array Value)[1]? = some x := rfl
  have rp : ∀ {α : Type} (a : α) (w : World), (pure a : Sem α).run P w = .ok a w := fun _ _ => rfl
  have rc : ∀ (w : World), (choose (.appendCap (sLen + n) sCap elem)).run P w = .ok (sLen + n + w.tape w.drawn (.appendCap (sLen + n) sCap elem) % (2 ^ 63 - (sLen + n))) (drawn1 w) := fun w => rfl
  have ra : ∀ (m : Nat) (w : World), (askRoom m).run P w = .ok () w := by
    intro m w
    unfold askRoom
    split <;> rfl
  have rn : ∀ (C : Array Value) (w : World), (newRow elem C).run P w = .ok ⟨w.heap.size, 0, none⟩ { w with heap := w.heap.push (.cells C elem) } := fun _ _ => rfl
  have hneed : sLen + n ≤ 70368744177664 := Nat.le_trans (Nat.le_mul_of_pos_right _ hb0) hby
  have c3 : ¬ (((sLen + n : Nat) : Int) > IntKind.i64.max ∧ (b = true ∨ i.bytes = 0)) := by
    rintro ⟨h, _⟩
    have : IntKind.i64.max = 9223372036854775807 := rfl
    omega
  have c4 : ¬ (Builtin.nextslicecap (sLen + n) sCap * i.bytes > 2 ^ 48) := by
    have h1 := nextslicecap_le (n := sLen + n) (c := sCap) (by omega)
    have h2 : Builtin.nextslicecap (sLen + n) sCap * i.bytes ≤ 2 * (sLen + n) * i.bytes := Nat.mul_le_mul_right _ h1
    rw [Nat.mul_assoc] at h2
    omega
  refine ⟨sLen + n + w.tape w.drawn (.appendCap (sLen + n) sCap elem) % (2 ^ 63 - (sLen + n)), by omega, ?_⟩
  cases b with
  | false =>
    obtain ⟨hnd, hlen⟩ := hm.no rfl
    have hz : (match d with | .int _ => true | _ => false) = false := by cases d <;> first | rfl | exact absurd rfl (hnd _)
    simp only [behind] at hn
    unfold Builtin.append_
    simp only [Bool.false_eq_true, false_or] at c3
    simp only [h0, h1, a0, a1, run_bind', r1, r2, r3, r4, rp, Bool.false_eq_true, if_false, hlen, if_neg hle, Bool.not_false, if_true, false_or, if_neg c3, if_neg c4, rc, ra, ho, hn, r6, rn]
    rfl
  | true =>
    obtain ⟨⟨k0, rfl⟩, k, l, rfl, hl0, hl1, rfl, hby'⟩ := hm.yes rfl
    have hw : IntKind.i64.wrap l = l := IntWalk.i64_in _ ⟨by omega, by omega⟩
    have r5 : ∀ w, (asInt (.int k l)).run P w = .ok l w := fun _ => rfl
    have c1 : ¬ l < 0 := by omega
    have c2 : ¬ l * (i.bytes : Int) > 2 ^ 48 := by
      have : l * (i.bytes : Int) ≤ 17179869184 * 4096 := Int.mul_le_mul hl1 (by omega) (by omega) (by omega)
      omega
    have hn' : (if l.toNat * i.size = 0 then pure #[] else zeroValue elem >>= fun z => pure (Builtin.zeroCells z.cells l.toNat) : Sem (Array Value)).run P (drawn1 w) = .ok new (drawn1 w) := hn
    simp only [true_or, and_true] at c3
    unfold Builtin.append_
    simp only [h0, h1, a0, a1, run_bind', r1, r2, r3, r4, r5, rp, if_true, hw, if_neg c1, if_neg c2, if_neg hle, Bool.not_true, Bool.false_eq_true, if_false, true_or, and_true, if_neg c3, if_neg c4, rc, ra, ho, r6, rn]
    by_cases hq : l.toNat * i.size = 0
    · rw [if_pos hq] at hn' ⊢
      simp only [rp] at hn' ⊢
      cases hn'
      rfl
    · rw [if_neg hq] at hn' ⊢
      simp only [run_bind', r6, rp] at hn' ⊢
      cases hn'
      rfl

end Go.Va
