/-
  An executable interpreter over the program's form and what it stands for, part 2.
-/
import Derived.Test.YtakchekhpeokjaaDoorVap1
import Derived.IntWalk
import Derived.Lib.Builder
import Derived.Lib.UnsafeStr
import Derived.Calls
import Derived.StillTail

/-
  SIMULATION: append, to the end.
-/
namespace Go.Va
open Go.RowKit
variable {P : Program} {K : FuncId → Code → Prop} {W0 : World} {N0 : Nat}

/-- What comes behind the slice: zeros, or another row's cells. -/
def behind (size : Nat) (elem : TypeId) (x : Value) (n : Nat) : Bool → Sem (Array Value)
  | true => if n * size = 0 then pure #[] else zeroValue elem >>= fun z => pure (Builtin.zeroCells z.cells n)
  | false => Builtin.firstCells size n x

/-- The mode of an append. -/
structure Mode1 (P : Program) (i : TypeInfo) (t : TypeId) (d : TypeDesc) (x : Value) (n : Nat) (b : Bool) : Prop where
  und : P.underlying t = some d
  yes : b = true → (∃ k, d = .int k) ∧ ∃ k l, x = .int k l ∧ 0 ≤ l ∧ l ≤ 17179869184 ∧ n = l.toNat ∧ i.bytes ≤ 4096
  no : b = false → (∀ k, d ≠ .int k) ∧ ∀ w, (Builtin.lenOf x).run P w = .ok n w

theorem run_append_in {argTypes : Array TypeId} {ty sType elem t : TypeId} {d : TypeDesc} {i : TypeInfo} {base : Option Addr} {sLen sCap n : Nat} {x : Value} {b : Bool} {w : World} {new : Array Value} (h0 : argTypes[0]? = some sType)
    (h1 : argTypes[1]? = some t) (hd : P.underlying sType = some (.slice elem)) (hi : P.info? elem = some i) (hm : Mode1 P i t d x n b) (hle : sLen + n ≤ sCap) (hn : (behind i.size elem x n b).run P w = .ok new w) :
    (Builtin.append_ argTypes ty #[.slice base sLen sCap, x]).run P w =
      (match base with
        | some a => storeCells (a.add (sLen * i.size)) new.toList >>= fun _ => pure (.slice base (sLen + n) sCap)
        | none => pure (.slice base (sLen + n) sCap) : Sem Value).run P w := by
  have r1 : ∀ w, (underlying sType).run P w = .ok (.slice elem) w := fun w => run_underlying' _ w _ hd
  have r2 : ∀ w, (underlying t).run P w = .ok d w := fun w => run_underlying' _ w _ hm.und
  have r3 : ∀ w, (sizeOf elem).run P w = .ok i.size w := fun w => run_sizeOf' _ w _ hi
  have r4 : ∀ w, (typeInfo elem).run P w = .ok i w := fun w => run_typeInfo' _ w _ hi
  have a0 : (#[Value.slice base sLen sCap, x] : Array Value)[0]? = some (.slice base sLen sCap) := rfl
  have a1 : (#[Value.slice base sLen sCap, x] : Array Value)[1]? = some x := rfl
  have rp : ∀ {α : Type} (a : α) (w : World), (pure a : Sem α).run P w = .ok a w := fun _ _ => rfl
  cases b with
  | false =>
    obtain ⟨hnd, hlen⟩ := hm.no rfl
    have hz : (match d with | .int _ => true | _ => false) = false := by cases d <;> first | rfl | exact absurd rfl (hnd _)
    simp only [behind] at hn
    unfold Builtin.append_
    simp only [h0, h1, a0, a1, run_bind', r1, r2, r3, rp, Bool.false_eq_true, if_false, hlen, if_pos hle, Bool.not_false, if_true, hn]
    cases base <;> rfl
  | true =>
    obtain ⟨⟨k0, rfl⟩, k, l, rfl, hl0, hl1, rfl, hby⟩ := hm.yes rfl
    have hw : IntKind.i64.wrap l = l := IntWalk.i64_in _ ⟨by omega, by omega⟩
    have r5 : ∀ w, (asInt (.int k l)).run P w = .ok l w := fun _ => rfl
    have c1 : ¬ l < 0 := by omega
    have c2 : ¬ l * (i.bytes : Int) > 2 ^ 48 := by
      have : l * (i.bytes : Int) ≤ 17179869184 * 4096 := Int.mul_le_mul hl1 (by omega) (by omega) (by omega)
      omega
    have hn' : (if l.toNat * i.size = 0 then pure #[] else zeroValue elem >>= fun z => pure (Builtin.zeroCells z.cells l.toNat) : Sem (Array Value)).run P w = .ok new w := hn
    unfold Builtin.append_
    simp only [h0, h1, a0, a1, run_bind', r1, r2, r3, r4, r5, rp, if_true, hw, if_neg c1, if_neg c2, if_pos hle, Bool.not_true, Bool.false_eq_true, if_false]
    by_cases hq : l.toNat * i.size = 0
    · rw [if_pos hq] at hn' ⊢
      simp only [rp] at hn' ⊢
      cases hn'
      cases base <;> rfl
    · rw [if_neg hq] at hn' ⊢
      rw [run_bind'] at hn' ⊢
      rw [hn']
      cases base <;> rfl

/-- The world behind a draw. -/
def drawn1 (w : World) : World := { w with drawn := w.drawn + 1 }

theorem run_append_grow {argTypes : Array TypeId} {ty sType elem t : TypeId} {d : TypeDesc} {i : TypeInfo} {z : Value} {base : Option Addr} {sLen sCap n : Nat} {x : Value} {b : Bool} {w : World} {old new : Array Value} (h0 : argTypes[0]? = some sType)
    (h1 : argTypes[1]? = some t) (hd : P.underlying sType = some (.slice elem)) (hi : P.info? elem = some i) (hz : i.zero = some z) (hm : Mode1 P i t d x n b) (hle : ¬ sLen + n ≤ sCap) (hby : (sLen + n) * i.bytes ≤ 70368744177664) (hb0 : 0 < i.bytes)
    (ho : (Builtin.firstCells i.size sLen (.slice base sLen sCap)).run P (drawn1 w) = .ok old (drawn1 w)) (hn : (behind i.size elem x n b).run P (drawn1 w) = .ok new (drawn1 w)) :
    ∃ cap, sLen + n ≤ cap ∧ (Builtin.append_ argTypes ty #[.slice base sLen sCap, x]).run P w =
      .ok (.slice (some ⟨w.heap.size, 0, none⟩) (sLen + n) cap)
        { drawn1 w with heap := w.heap.push (.cells (old ++ new ++ Builtin.zeroCells z.cells (cap - (sLen + n))) elem) } := by
  have r1 : ∀ w, (underlying sType).run P w = .ok (.slice elem) w := fun w => run_underlying' _ w _ hd
  have r2 : ∀ w, (underlying t).run P w = .ok d w := fun w => run_underlying' _ w _ hm.und
  have r3 : ∀ w, (sizeOf elem).run P w = .ok i.size w := fun w => run_sizeOf' _ w _ hi
  have r4 : ∀ w, (typeInfo elem).run P w = .ok i w := fun w => run_typeInfo' _ w _ hi
  have r6 : ∀ w, (zeroValue elem).run P w = .ok z w := fun w => run_zeroValue' _ w _ _ hi hz
  have a0 : (#[Value.slice base sLen sCap, x] : Array Value)[0]? = some (.slice base sLen sCap) := rfl
  have a1 : (#[Value.slice base sLen sCap, x] : Array Value)[1]? = some x := rfl
  have rp : ∀ {α : Type} (a : α) (w : World), (pure a : Sem α).run P w = .ok a w := fun _ _ => rfl
  have rc : ∀ (w : World), (choose (.appendCap (sLen + n) sCap elem)).run P w = .ok (sLen + n + w.tape w.drawn (.appendCap (sLen + n) sCap elem) % (2 ^ 63 - (sLen + n))) (drawn1 w) := fun w => rfl
  have ra : ∀ (m : Nat) (w : World), (askRoom m).run P w = .ok () w := by
    intro m w
    unfold askRoom
    split <;> rfl
  have rn : ∀ (C : Array Value) (w : World), (newRow elem C).run P w = .ok ⟨w.heap.size, 0, none⟩ { w with heap := w.heap.push (.cells C elem) } := fun _ _ => rfl
  have hneed : sLen + n ≤ 70368744177664 := Nat.le_trans (Nat.le_mul_of_pos_right _ hb0) hby
  have c3 : ¬ (((sLen + n : Nat) : Int) > IntKind.i64.max ∧ (b = true ∨ i.bytes = 0)) := by
    rintro ⟨h, _⟩
    have : IntKind.i64.max = 9223372036854775807 := rfl
    omega
  have c4 : ¬ (Builtin.nextslicecap (sLen + n) sCap * i.bytes > 2 ^ 48) := by
    have h1 := nextslicecap_le (n := sLen + n) (c := sCap) (by omega)
    have h2 : Builtin.nextslicecap (sLen + n) sCap * i.bytes ≤ 2 * (sLen + n) * i.bytes := Nat.mul_le_mul_right _ h1
    rw [Nat.mul_assoc] at h2
    omega
  refine ⟨sLen + n + w.tape w.drawn (.appendCap (sLen + n) sCap elem) % (2 ^ 63 - (sLen + n)), by omega, ?_⟩
  cases b with
  | false =>
    obtain ⟨hnd, hlen⟩ := hm.no rfl
    have hz : (match d with | .int _ => true | _ => false) = false := by cases d <;> first | rfl | exact absurd rfl (hnd _)
    simp only [behind] at hn
    unfold Builtin.append_
    simp only [Bool.false_eq_true, false_or] at c3
    simp only [h0, h1, a0, a1, run_bind', r1, r2, r3, r4, rp, Bool.false_eq_true, if_false, hlen, if_neg hle, Bool.not_false, if_true, false_or, if_neg c3, if_neg c4, rc, ra, ho, hn, r6, rn]
    rfl
  | true =>
    obtain ⟨⟨k0, rfl⟩, k, l, rfl, hl0, hl1, rfl, hby'⟩ := hm.yes rfl
    have hw : IntKind.i64.wrap l = l := IntWalk.i64_in _ ⟨by omega, by omega⟩
    have r5 : ∀ w, (asInt (.int k l)).run P w = .ok l w := fun _ => rfl
    have c1 : ¬ l < 0 := by omega
    have c2 : ¬ l * (i.bytes : Int) > 2 ^ 48 := by
      have : l * (i.bytes : Int) ≤ 17179869184 * 4096 := Int.mul_le_mul hl1 (by omega) (by omega) (by omega)
      omega
    have hn' : (if l.toNat * i.size = 0 then pure #[] else zeroValue elem >>= fun z => pure (Builtin.zeroCells z.cells l.toNat) : Sem (Array Value)).run P (drawn1 w) = .ok new (drawn1 w) := hn
    simp only [true_or, and_true] at c3
    unfold Builtin.append_
    simp only [h0, h1, a0, a1, run_bind', r1, r2, r3, r4, r5, rp, if_true, hw, if_neg c1, if_neg c2, if_neg hle, Bool.not_true, Bool.false_eq_true, if_false, true_or, and_true, if_neg c3, if_neg c4, rc, ra, ho, r6, rn]
    by_cases hq : l.toNat * i.size = 0
    · rw [if_pos hq] at hn' ⊢
      simp only [rp] at hn' ⊢
      cases hn'
      rfl
    · rw [if_neg hq] at hn' ⊢
      simp only [run_bind', r6, rp] at hn' ⊢
      cases hn'
      rfl

end Go.Va

/-
  SIMULATION: append and the relation of the heaps.
-/
namespace Go.Va
open Go.RowKit
variable {P : Program} {K : FuncId → Code → Prop} {W0 : World} {N0 : Nat}

def Inj.put (β : Inj) (id : Nat) (e : Ent) : Inj := fun i => if i = id then some e else β i

theorem Inj.le_put {β : Inj} {id : Nat} (h : β id = none) (e : Ent) : β.le (β.put id e) := by
  intro i e' h'
  unfold Inj.put
  rw [if_neg (by rintro rfl; rw [h] at h'; cases h')]; exact h'

/-- A row goes on behind its end, in its own block. -/
theorem R.extend {β : Inj} {σ : AS} {w w' : World} (hR : R K W0 N0 β σ w) {A : Nat} {e : Ent} {C C' : Array Value} {ty : TypeId} {fr : Nat × Nat} {all : List Value} {esz on : Nat} {pv : Option Nat} {oty : Option TypeId} (hty : ∀ T, oty = some T → ty = T)
    (he : β A = some e) (hf : β σ.next = none) (hN : N0 ≤ e.b) (hC : w.heap[e.b]? = some (.cells C ty fr)) (hw' : w'.heap[e.b]? = some (.cells C' ty fr)) (hs : C'.size = C.size)
    (hfr : ∀ i, i < C.size → ¬ (fr.1 ≤ i ∧ i < fr.2)) (hoth : ∀ r, r ≠ e.b → w'.heap[r]? = w.heap[r]?) (hsz : w'.heap.size = w.heap.size) (hB : Below N0 W0 w')
    (hA : ∀ x, σ.get A = some x → ∃ c lo, x = .cells c false lo none ∧ (∀ i, i < c.length → C'[e.o + i]? = C[e.o + i]?) ∧ pv = some A)
    (hall : ∀ i (_ : i < all.length), ∃ v', C'[on + i]? = some v' ∧ vRel β all[i] v')
    (hex : ∀ j ej y, j ≠ A → β j = some ej → σ.get j = some y → ej.b ≠ e.b) :
    R K W0 N0 (β.put σ.next ⟨e.b, on, some (all.length, esz, C.size)⟩) (σ.push (.cells all true (some esz, oty) pv)) w' := by
  have hle := Inj.le_put hf ⟨e.b, on, some (all.length, esz, C.size)⟩
  have hAn : A ≠ σ.next := by rintro rfl; rw [hf] at he; cases he
  constructor
  · intro id e' c rw' lo pv' hb hg
    rw [AS.get_push] at hg
    unfold Inj.put at hb
    by_cases hid : id = σ.next
    · rw [if_pos hid] at hb hg
      simp only [Option.some.injEq, AObj.cells.injEq] at hb hg
      obtain ⟨rfl, rfl, rfl, rfl⟩ := hg
      subst hb
      refine ⟨C', ty, fr, hw', fun i hi => ?_, fun _ => ⟨hN, by rw [hs]; exact hfr⟩, by simp [hs], fun T hT => ⟨hty T hT, fun h => by cases h⟩⟩
      obtain ⟨v', k1, k2⟩ := hall i hi
      exact ⟨v', k1, k2.mono hle⟩
    · rw [if_neg hid] at hb hg
      by_cases hidA : id = A
      · subst hidA
        rw [he] at hb; cases hb
        obtain ⟨c1, lo1, h1, h2, h3⟩ := hA _ hg
        cases h1
        obtain ⟨C2, ty2, fr2, k1, k2, k3, k4⟩ := hR.cells he hg
        rw [hC] at k1; cases k1
        refine ⟨C', ty, fr, hw', fun i hi => ?_, fun h => (by cases h), by rw [hs]; exact k4⟩
        obtain ⟨v', m1, m2⟩ := k2 i hi
        exact ⟨v', by rw [h2 i hi]; exact m1, m2.mono hle⟩
      · obtain ⟨C2, ty2, fr2, k1, k2, k3, k4⟩ := hR.cells hb hg
        refine ⟨C2, ty2, fr2, by rw [hoth _ (hex id e' _ hidA hb hg)]; exact k1, fun i hi => ?_, k3, k4⟩
        obtain ⟨v', m1, m2⟩ := k2 i hi
        exact ⟨v', m1, m2.mono hle⟩
  · intro id e' o hb hg
    rw [AS.get_push] at hg
    unfold Inj.put at hb
    by_cases hid : id = σ.next
    · rw [if_pos hid] at hg; cases hg
    · rw [if_neg hid] at hb hg
      by_cases hidA : id = A
      · subst hidA
        obtain ⟨c1, lo1, h1, _⟩ := hA _ hg
        cases h1
      · obtain ⟨k1, k2, o2, k3, k4⟩ := hR.obj hb hg
        exact ⟨k1, k2, o2, by rw [hoth _ (hex id e' _ hidA hb hg)]; exact k3, k4.mono hle⟩
  · intro i j ei ej x y hij hbi hbj hgi hgj hx heq
    rw [AS.get_push] at hgi hgj
    unfold Inj.put at hbi hbj
    by_cases hi : i = σ.next
    · rw [if_pos hi] at hbi hgi
      rw [if_neg (by omega)] at hbj hgj
      simp only [Option.some.injEq] at hbi hgi
      subst hbi hgi
      by_cases hjA : j = A
      · subst hjA
        obtain ⟨_, _, _, _, h3⟩ := hA _ hgj
        exact h3
      · exact absurd heq.symm (hex j ej _ hjA hbj hgj)
    · rw [if_neg hi] at hbi hgi
      by_cases hj : j = σ.next
      · rw [if_pos hj] at hbj
        simp only [Option.some.injEq] at hbj
        subst hbj
        by_cases hiA : i = A
        · subst hiA
          obtain ⟨_, _, h1, _⟩ := hA _ hgi
          subst h1; cases hx
        · exact absurd heq (hex i ei _ hiA hbi hgi)
      · rw [if_neg hj] at hbj hgj
        exact hR.excl hij hbi hbj hgi hgj hx heq
  · intro id e' hb
    unfold Inj.put at hb
    rw [hsz]
    split at hb
    · simp only [Option.some.injEq] at hb; subst hb; have := hR.lt he; exact this
    · exact hR.lt hb
  · exact hB
  · rw [hsz]; exact hR.top
  · intro id e' r hb hg
    unfold Inj.put at hb
    rw [AS.get_push] at hg
    split at hg
    · cases hg
    · rename_i hne
      rw [if_neg hne] at hb
      exact hR.code hb hg

theorem size_zeroCells (z : Array Value) (n : Nat) : (Builtin.zeroCells z n).size = n * z.size := by simp [Builtin.zeroCells]

theorem lRel_oneCell {β : Inj} : ∀ {l m : List Value}, lRel β l m → l.all oneCell = true → m.all oneCell = true
  | [], [], _, _ => rfl
  | a :: l, b :: m, h, ho => by
    simp only [List.all_cons, Bool.and_eq_true] at ho ⊢
    exact ⟨oneCell_rel h.1 ho.1, lRel_oneCell h.2 ho.2⟩
  | [], _ :: _, h, _ => h.elim
  | _ :: _, [], h, _ => h.elim

/-- The slice's own cells are read. -/
theorem run_old {β : Inj} {σ : AS} {w : World} (hR : R K W0 N0 β σ w) (_ : σ.Any) {p p' : Addr} (ha : aRel β p p') {c : List Value} {rw : Bool} {lo : Lo} {pv : Option Nat} (hg : σ.get p.block = some (.cells c rw lo pv)) {size sLen : Nat}
    (hl : p.off + sLen * size ≤ c.length) (cap : Nat) : ∃ old, (Builtin.firstCells size sLen (.slice (some p') sLen cap)).run P w = .ok old w ∧ lRel β ((c.drop p.off).take (sLen * size)) old.toList := by
  have key : ∀ (n i : Nat) (acc : Array Value), p.off + i + n ≤ c.length → ∃ r, (loadCellsFrom p' i n acc).run P w = .ok r w ∧ r.size = acc.size + n ∧ (∀ j, j < acc.size → r[j]? = acc[j]?) ∧
      ∀ j (h : j < n) (h' : p.off + i + j < c.length), ∃ v', r[acc.size + j]? = some v' ∧ vRel β c[p.off + i + j] v' := by
    intro n
    induction n with
    | zero => intro i acc h; exact ⟨acc, rfl, rfl, fun _ _ => rfl, fun j h => by omega⟩
    | succ n ih =>
      intro i acc h
      have hcell : σ.cell? (p.add i) = some c[p.off + i] := by
        unfold AS.cell?
        have h1 : (p.add i).spot = none := by unfold Addr.add; split; exact ha.1; rfl
        have h2 : (p.add i).block = p.block := by unfold Addr.add; split <;> rfl
        have h3 : (p.add i).off = p.off + i := by unfold Addr.add; split <;> simp_all
        rw [h1, h2, hg, h3]
        exact List.getElem?_eq_getElem (by omega)
      obtain ⟨v', k1, k2⟩ := hR.load (ha.add i) hcell
      obtain ⟨r, e1, e2, e3, e4⟩ := ih (i + 1) (acc.push v') (by omega)
      refine ⟨r, ?_, by rw [e2]; simp; omega, fun j hj => ?_, fun j hj hj' => ?_⟩
      · show (Sem.load .plain (p'.add i) fun v => loadCellsFrom p' (i + 1) n (acc.push v)).run P w = _
        simp only [Sem.run, k1]; exact e1
      · rw [e3 j (by simp; omega)]; exact Array.getElem?_push_lt hj |>.trans (by simp [hj])
      · cases j with
        | zero => exact ⟨v', by rw [e3 _ (by simp)]; simp, by simpa using k2⟩
        | succ j =>
          obtain ⟨u, g1, g2⟩ := e4 j (by omega) (by omega)
          refine ⟨u, by simp only [Array.size_push] at g1; rw [show acc.size + (j + 1) = acc.size + 1 + j by omega]; exact g1, ?_⟩
          have : p.off + (i + 1) + j = p.off + i + (j + 1) := by omega
          simpa [this] using g2
  obtain ⟨r, e1, e2, _, e4⟩ := key (sLen * size) 0 #[] (by omega)
  refine ⟨r, e1, lRel.of_get (by simp [e2]; omega) fun i hi hi' => ?_⟩
  simp only [List.length_take, List.length_drop] at hi
  obtain ⟨v', g1, g2⟩ := e4 i (by omega) (by omega)
  have : r.toList[i] = v' := by
    simp at g1
    obtain ⟨h1, h2⟩ := Array.getElem?_eq_some_iff.1 g1
    simpa using h2
  rw [this]
  simpa using g2

end Go.Va

/-
  SIMULATION: append: the theorem.
-/
namespace Go.Va
open Go.RowKit
variable {P : Program} {K : FuncId → Code → Prop} {W0 : World} {N0 : Nat}

theorem behind_run {β : Inj} (hZ : ZeroOk P) {lim : Nat} {elem : TypeId} {i : TypeInfo} (hi : P.info? elem = some i) {xt : Option TypeId} {x x' : Value} (hx : vRel β x x') {σ : AS} {new : List Value} {n : Nat}
    (h : newCells P lim i xt x σ = some (new, n)) :
    ∃ t d b, xt = some t ∧ Mode1 P i t d x' n b ∧ ∀ w, R K W0 N0 β σ w → σ.Any → ∃ new', (behind i.size elem x' n b).run P w = .ok new' w ∧ lRel β new new'.toList := by
  rcases newCells_spec (K := K) (W0 := W0) (N0 := N0) hZ hi hx h with ⟨k0, l, t, z, rfl, ⟨k, hk⟩, rfl, rfl, h1, h2, h3, rfl, hz, rfl⟩ | ⟨t, d, rfl, hd, hno, hlen, hrun⟩
  · refine ⟨t, .int k, true, rfl, ⟨hk, fun _ => ⟨⟨k, rfl⟩, k0, l, rfl, h1, h2, rfl, h3⟩, fun h => by cases h⟩, fun w hR hw => ?_⟩
    refine ⟨if l.toNat * i.size = 0 then #[] else Builtin.zeroCells z.cells l.toNat, ?_, ?_⟩
    · unfold behind
      by_cases hq : l.toNat * i.size = 0
      · rw [if_pos hq, if_pos hq]; rfl
      · rw [if_neg hq, if_neg hq, run_bind', run_zeroValue' _ w _ _ hi hz]; rfl
    · by_cases hq : l.toNat * i.size = 0
      · rw [if_pos hq]; trivial
      · rw [if_neg hq]
        exact arrRel_iff.1 (arrRel_map fun j => arrRel_getBang (cells_rel ((hZ _ _ _ hi hz).2 β)) _)
  · exact ⟨t, d, false, rfl, ⟨hd, fun h => (by cases h), fun _ => ⟨hno, hlen⟩⟩, fun w hR hw => hrun w hR hw⟩

/-- The heap behind an append to a row that may have room. -/
theorem sim2_append {β : Inj} (hZ : ZeroOk P) {lim : Nat} {argTypes : Array TypeId} {ty : TypeId} {args : List Value} {args' : Array Value} (ha : lRel β args args'.toList) :
    Sim2 P K W0 N0 β (fun σ => appendA P lim argTypes args σ) (Builtin.append_ argTypes ty args') := by
  intro σ w v σ' hw hR hr hf
  simp only [appendA] at hr
  split at hr
  case h_2 => cases hr
  rename_i sType base sLen sCap x h0
  obtain ⟨s', x', rfl⟩ : ∃ s' x', args' = #[s', x'] := by
    obtain ⟨l⟩ := args'
    match l, ha with
    | [a, b], _ => exact ⟨a, b, rfl⟩
    | [], h => exact h.elim
    | [_], h => exact h.2.elim
    | _ :: _ :: _ :: _, h => exact h.2.2.elim
  obtain ⟨hs, hx, _⟩ := ha
  cases hd : P.underlying sType with
  | none => rw [hd] at hr; cases hr
  | some dd =>
  rw [hd] at hr
  cases dd <;> first | cases hr | skip
  rename_i elem
  dsimp only at hr
  cases hi : P.info? elem with
  | none => rw [hi] at hr; cases hr
  | some i =>
  rw [hi] at hr
  dsimp only at hr
  cases hnc : newCells P lim i argTypes[1]? x σ with
  | none => rw [hnc] at hr; cases hr
  | some nc =>
  obtain ⟨new, n⟩ := nc
  rw [hnc] at hr
  dsimp only at hr
  unfold append1 at hr
  obtain ⟨t, d, b, h1, hm, hbeh⟩ := behind_run (K := K) (W0 := W0) (N0 := N0) hZ hi hx hnc
  obtain ⟨new1, hb1, hl1⟩ := hbeh w hR hw
  have hRd := hR.drawn (w.drawn + 1)
  obtain ⟨new2, hb2, hl2⟩ := hbeh (drawn1 w) hRd hw
  cases hle : Nat.ble (sLen + n) sCap with
  | true =>
    have hle' : sLen + n ≤ sCap := Nat.ble_eq ▸ hle
    simp only [hle, cond_true] at hr
    cases hs with
    | sliceNone _ _ =>
      simp only [Option.some.injEq, Prod.mk.injEq] at hr
      obtain ⟨rfl, rfl⟩ := hr
      exact ⟨_, w, β, by rw [run_append_in h0 h1 hd hi hm hle' hb1]; rfl, .refl _ _, hR, .sliceNone _ _⟩
    | slice _ hp hc =>
      rename_i p p' cap'
      have hcc : sCap ≤ cap' := by
        rcases hc with rfl | ⟨_, _, _, _, _, _, _, _, h⟩
        · exact Nat.le_refl _
        · exact h
      dsimp only at hr
      cases hst : σ.setCells lim (p.add (sLen * i.size)) new 0 with
      | none => rw [hst] at hr; cases hr
      | some σ1 =>
        rw [hst] at hr
        simp only [Option.some.injEq, Prod.mk.injEq] at hr
        obtain ⟨rfl, rfl⟩ := hr
        obtain ⟨_, w', β', e1, x1, R1, rfl⟩ := sim_storeCells (P := P) (hp.add (sLen * i.size)) hl1 lim σ w () σ1 hw hR (setCells_run new 0 σ σ1 hst) hf
        refine ⟨.slice (some p') (sLen + n) cap', w', β', ?_, x1, R1, .slice _ hp hc⟩
        rw [run_append_in h0 h1 hd hi hm (by omega) hb1]
        dsimp only
        rw [run_bind', e1]; rfl
    | void a' c' hsp =>
      rename_i p
      dsimp only at hr
      have hn0 : n = 0 := by omega
      have hadd : p.add (0 * i.size) = p := by simp [Addr.add]
      rw [hadd] at hr
      cases hnew : new with
      | nil =>
        rw [hnew] at hr hl1
        simp only [AS.setCells, Option.some.injEq, Prod.mk.injEq] at hr
        obtain ⟨rfl, rfl⟩ := hr
        have hn1 : new1.toList = [] := by
          cases h : new1.toList with
          | nil => rfl
          | cons a l => rw [h] at hl1; exact hl1.elim
        refine ⟨.slice (some a') (0 + n) c', w, β, ?_, .refl _ _, hR, by rw [hn0]; exact .void _ _ hsp⟩
        rw [run_append_in h0 h1 hd hi hm (by omega) hb1]
        dsimp only
        rw [hn1]; rfl
      | cons u l =>
        rw [hnew] at hr
        have : σ.setCells lim p (u :: l) 0 = none := by
          simp only [AS.setCells]
          have h2 : σ.setCell lim (p.add 0) u = none := by
            have : p.add 0 = p := by simp [Addr.add]
            rw [this]
            unfold AS.setCell
            split
            · rename_i h' _; rw [h'] at hsp; cases hsp
            · rfl
          rw [h2]; cases oneCell u <;> rfl
        rw [this] at hr; cases hr
  | false =>
    have hle' : ¬ sLen + n ≤ sCap := by intro h; rw [Nat.ble_eq_true_of_le h] at hle; cases hle
    simp only [hle, cond_false] at hr
    cases hcond : (Nat.ble ((sLen + n) * i.bytes) 70368744177664 && Nat.blt 0 i.bytes && i.zero.isSome && new.all oneCell && Nat.beq new.length (n * i.size)) with
    | false => simp [hcond] at hr
    | true =>
      simp only [hcond, cond_true] at hr
      simp only [Bool.and_eq_true] at hcond
      obtain ⟨⟨⟨⟨q1, q2⟩, q3⟩, q4⟩, q5⟩ := hcond
      have q1 : (sLen + n) * i.bytes ≤ 70368744177664 := Nat.ble_eq ▸ q1
      have q2 : 0 < i.bytes := blt_iff.1 q2
      have q5 : new.length = n * i.size := Nat.eq_of_beq_eq_true q5
      obtain ⟨z, hz⟩ := Option.isSome_iff_exists.1 q3
      have hzs := (hZ _ _ _ hi hz).1
      have hzr := (hZ _ _ _ hi hz).2
      -- a new row, in the model too
      have grow : ∀ {base' : Option Addr} {cap' : Nat} {old : List Value} {old' : Array Value} {σ1 : AS} {pv : Option Nat}, s' = .slice base' sLen cap' → ¬ sLen + n ≤ cap' →
          (Builtin.firstCells i.size sLen (.slice base' sLen cap')).run P (drawn1 w) = .ok old' (drawn1 w) → lRel β old old'.toList → old.length = sLen * i.size → R K W0 N0 β σ1 w → σ1.next = σ.next →
          (v, σ') = (.slice (some ⟨σ.next, 0, none⟩) (sLen + n) (sLen + n), σ1.push (.cells (old ++ new) true (some i.size, some elem) pv)) →
          ∃ v' w' β', (Builtin.append_ argTypes ty #[s', x']).run P w = .ok v' w' ∧ Ext β β' σ σ' ∧ R K W0 N0 β' σ' w' ∧ vRel β' v v' := by
        intro base' cap' old old' σ1 pv g1 g2 g3 g4 g5 g6 g7 g8
        subst g1
        obtain ⟨cap, c1, c2⟩ := run_append_grow (ty := ty) h0 h1 hd hi hz hm g2 q1 q2 g3 hb2
        simp only [Prod.mk.injEq] at g8
        obtain ⟨rfl, rfl⟩ := g8
        have hfn : β σ.next = none := hf _ (Nat.le_refl _) (by simp [g7])
        have hR1 := (g6.drawn (w.drawn + 1))
        have hlen : (old ++ new).length = (sLen + n) * i.size := by simp [g5, q5, Nat.add_mul]
        have hCs : (old' ++ new2 ++ Builtin.zeroCells z.cells (cap - (sLen + n))).size = cap * i.size := by
          have e1 := g4.length
          have e2 := hl2.length
          simp only [Array.length_toList] at e1 e2
          simp only [Array.size_append, size_zeroCells, hzs, ← e1, ← e2, g5, q5]
          rw [← Nat.add_mul, ← Nat.add_mul]
          congr 1; omega
        have hll : lRel β (old ++ new) (old' ++ new2).toList := by rw [Array.toList_append]; exact g4.append hl2
        obtain ⟨R2, hle2⟩ := hR1.push (x := .cells (old ++ new) true (some i.size, some elem) pv) (o' := .cells (old' ++ new2 ++ Builtin.zeroCells z.cells (cap - (sLen + n))) elem)
          (e := ⟨w.heap.size, 0, some ((old ++ new).length, i.size, cap * i.size)⟩) (by rw [g7]; exact hfn) rfl
          ⟨_, _, (0, 0), rfl, fun j hj => by
            obtain ⟨u, u1, u2⟩ := hll.getElem? j (List.getElem?_eq_getElem hj)
            refine ⟨u, ?_, u2⟩
            simp only [Nat.zero_add]
            have : j < (old' ++ new2).size := by have := hll.length; simp only [Array.length_toList] at this; omega
            rw [Array.getElem?_append_left this]
            rw [Array.getElem?_toList] at u1
            exact u1, fun _ j _ h => (by simp at h), by rw [hCs]; rfl, fun T hT => by cases hT; exact ⟨rfl, fun h => by cases h⟩⟩
        rw [g7] at R2 hle2
        refine ⟨_, _, _, c2, ⟨hle2, fun j e he => ?_⟩, R2, ?_⟩
        · split at he
          · exact .inr ⟨by omega, by simp [g7]; omega⟩
          · exact .inl he
        · refine .slice _ ⟨rfl, ⟨w.heap.size, 0, some ((old ++ new).length, i.size, cap * i.size)⟩, by simp, rfl⟩ ?_
          exact .inr ⟨⟨w.heap.size, 0, some ((old ++ new).length, i.size, cap * i.size)⟩, (old ++ new).length, i.size, cap * i.size, by simp, rfl, by rw [hlen]; simp, by simp, by omega⟩
      cases hs with
      | sliceNone _ _ =>
        cases hsl : Nat.beq sLen 0 with
        | false => simp [hsl] at hr
        | true =>
          simp only [hsl, cond_true, Option.some.injEq] at hr
          have hsl' : sLen = 0 := Nat.eq_of_beq_eq_true hsl
          exact grow (old := []) (old' := #[]) rfl hle' rfl trivial (by simp [hsl']) hR rfl (by rw [← hr]; rfl)
      | void a' c' hsp =>
        dsimp only at hr
        split at hr
        · rename_i h' _; rw [h'] at hsp; cases hsp
        · cases hr
      | slice _ hp hc =>
        rename_i p p' cap'
        dsimp only at hr
        split at hr
        case h_2 => cases hr
        rename_i c rw lo pv hspn hg
        cases hl : Nat.ble (p.off + sLen * i.size) c.length with
        | false => simp [hl] at hr
        | true =>
        have hl' : p.off + sLen * i.size ≤ c.length := Nat.ble_eq ▸ hl
        simp only [hl, cond_true] at hr
        obtain ⟨old', o1, o2⟩ := run_old (P := P) hRd hw hp hg hl' cap'
        have olen : ((c.drop p.off).take (sLen * i.size)).length = sLen * i.size := by simp; omega
        cases hex : σ.exact p sCap with
        | true =>
          simp only [hex, cond_true, Option.some.injEq] at hr
          have := exact_cap hR hc hex
          subst this
          exact grow rfl hle' o1 o2 olen hR rfl (by rw [← hr])
        | false =>
        simp only [hex, cond_false] at hr
        cases hcnd : (rw && Nat.ble lim p.block && (lo == (some i.size, some elem))) with
        | false => simp [hcnd] at hr
        | true =>
        simp only [hcnd, cond_true] at hr
        simp only [Bool.and_eq_true, beq_iff_eq] at hcnd
        obtain ⟨⟨rfl, _⟩, rfl⟩ := hcnd
        cases hk : σ.kill lim pv with
        | none => rw [hk] at hr; cases hr
        | some σ1 =>
        rw [hk] at hr
        dsimp only at hr
        obtain ⟨k1, k2, _⟩ := AS.kill_get hk
        have hcommon : ∃ X pv', (v, σ') = (.slice (some ⟨σ.next, 0, none⟩) (sLen + n) (sLen + n), (σ1.put p.block X).push (.cells ((c.drop p.off).take (sLen * i.size) ++ new) true (some i.size, some elem) pv')) ∧
            ((X = some (.cells c false (some i.size, some elem) none) ∧ pv' = some p.block ∧ sLen = sCap) ∨ (X = none ∧ pv' = none)) := by
          cases hq : Nat.beq sLen sCap with
          | true =>
            simp only [hq, cond_true, Option.some.injEq] at hr
            exact ⟨_, _, hr.symm, .inl ⟨rfl, rfl, Nat.eq_of_beq_eq_true hq⟩⟩
          | false =>
            simp only [hq, cond_false, Option.some.injEq] at hr
            exact ⟨_, _, hr.symm, .inr ⟨rfl, rfl⟩⟩
        obtain ⟨X, pv', hvσ, hX⟩ := hcommon
        have hget : ∀ j, (σ1.put p.block X).get j = if j = p.block then X else if pv = some j then none else σ.get j := by
          intro j
          rw [AS.get_put]
          split
          · rfl
          · exact k2 j
        have hweak : R K W0 N0 β (σ1.put p.block X) w := by
          refine hR.weaken fun j y hy => ?_
          rw [hget] at hy
          split at hy
          · rename_i hj; subst hj
            rcases hX with ⟨rfl, _, _⟩ | ⟨rfl, _⟩
            · simp only [Option.some.injEq] at hy
              exact .inr ⟨c, true, (some i.size, some elem), pv, hg, hy.symm⟩
            · cases hy
          · split at hy
            · cases hy
            · exact .inl hy
        by_cases hroom : sLen + n ≤ cap'
        · rcases hc with rfl | ⟨e, sz, esz, real, hb, ht, c1, c2, c3⟩
          · exact absurd hroom hle'
          · obtain ⟨_, e', he', rfl⟩ := hp
            rw [hb] at he'; cases he'
            obtain ⟨C, ty0, fr, hC, hcc, hrw, htl, htt⟩ := hR.cells hb hg
            obtain ⟨hN, hfr⟩ := hrw rfl
            rw [ht] at htl
            simp only [Option.map_some, Option.some.injEq, Prod.mk.injEq] at htl
            obtain ⟨rfl, rfl, rfl⟩ := htl
            have hn1 : new1.toList.length = n * i.size := by rw [← hl1.length, q5]
            have hmul : (sLen + n) * i.size ≤ cap' * i.size := Nat.mul_le_mul_right _ hroom
            rw [Nat.add_mul] at hmul
            have hadd : (⟨e.b, e.o + p.off, none⟩ : Addr).add (sLen * i.size) = ⟨e.b, e.o + p.off + sLen * i.size, none⟩ := by
              unfold Addr.add
              split
              · rename_i h; rw [h]; rfl
              · rfl
            obtain ⟨w', C', e1, e2, e3, e4, e5, e6, e7, e8⟩ := run_storeCells (P := P) new1.toList 0 w e.b (e.o + p.off + sLen * i.size) C ty0 fr hC (by omega) hfr (lRel_oneCell hl1 q4) hN hR.base
            simp only [Prod.mk.injEq] at hvσ
            obtain ⟨rfl, rfl⟩ := hvσ
            have hfn : β σ.next = none := hf _ (Nat.le_refl _) (by simp [k1])
            have hnx : (σ1.put p.block X).next = σ.next := k1
            have R2 := hweak.extend (oty := some elem) (fun T hT => by cases hT; exact (htt _ rfl).1) (pv := pv') (esz := i.size) (on := e.o + p.off) (all := (c.drop p.off).take (sLen * i.size) ++ new) hb (by rw [hnx]; exact hfn) hN hC e2 e3 hfr e6 e7 e8 (fun y hy => by
                rw [hget, if_pos rfl] at hy
                rcases hX with ⟨rfl, rfl, hss⟩ | ⟨rfl, _⟩
                · simp only [Option.some.injEq] at hy
                  refine ⟨c, (some i.size, some elem), hy.symm, fun j hj => e4 _ (.inl ?_), rfl⟩
                  rw [hss]; omega
                · cases hy)
              (fun j hj => by
                by_cases hj1 : j < sLen * i.size
                · have h3 : j < ((c.drop p.off).take (sLen * i.size)).length := by rw [olen]; exact hj1
                  obtain ⟨u, u1, u2⟩ := hcc (p.off + j) (by omega)
                  refine ⟨u, ?_, ?_⟩
                  · rw [e4 _ (.inl (by omega)), show e.o + p.off + j = e.o + (p.off + j) by omega]; exact u1
                  · rw [List.getElem_append_left h3]
                    simpa using u2
                · have h3 : ((c.drop p.off).take (sLen * i.size)).length ≤ j := by rw [olen]; omega
                  simp only [List.length_append, olen] at hj
                  have h4 : j - sLen * i.size < new.length := by omega
                  have h5 := e5 (j - sLen * i.size) (by rw [← hl1.length]; exact h4)
                  refine ⟨new1.toList[j - sLen * i.size]'(by rw [← hl1.length]; exact h4), ?_, ?_⟩
                  · rw [show e.o + p.off + j = e.o + p.off + sLen * i.size + 0 + (j - sLen * i.size) by omega]; exact h5
                  · rw [List.getElem_append_right h3]
                    simp only [olen]
                    exact hl1.get _ h4 _)
              (fun j ej y hj hbj hy heq => by
                rw [hget, if_neg hj] at hy
                split at hy
                · cases hy
                · rename_i hpj
                  exact hpj (hR.excl (Ne.symm hj) hb hbj hg hy rfl heq.symm))
            rw [hnx] at R2
            refine ⟨.slice (some ⟨e.b, e.o + p.off, none⟩) (sLen + n) cap', w', _, ?_, ⟨Inj.le_put hfn _, fun j e2 he2 => ?_⟩, R2, ?_⟩
            · rw [run_append_in h0 h1 hd hi hm hroom hb1]
              dsimp only
              rw [hadd, run_bind', e1]; rfl
            · unfold Inj.put at he2
              split at he2
              · exact .inr ⟨by omega, by simp [k1]; omega⟩
              · exact .inl he2
            · refine .slice _ ⟨rfl, ⟨e.b, e.o + p.off, some (((c.drop p.off).take (sLen * i.size) ++ new).length, i.size, C.size)⟩, by simp [Inj.put], rfl⟩ (.inr ⟨⟨e.b, e.o + p.off, some (((c.drop p.off).take (sLen * i.size) ++ new).length, i.size, C.size)⟩, ((c.drop p.off).take (sLen * i.size) ++ new).length, i.size, C.size, by simp [Inj.put], rfl, ?_, ?_, by omega⟩)
              · simp only [List.length_append, olen, q5, Nat.add_mul]; omega
              · simp only [Nat.add_zero]; omega
        · exact grow rfl hroom o1 o2 olen hweak k1 hvσ

end Go.Va

/-
  SIMULATION: unsafe.Pointer and back; unsafe.SliceData, unsafe.String.
-/
namespace Go.Va
open Go.RowKit
section
variable {P : Program} {K : FuncId → Code → Prop} {W0 : World} {N0 : Nat}

theorem shape_of_heap {w : World} {b : Nat} {C : Array Value} {ty : TypeId} {fr : Nat × Nat} (h : w.heap[b]? = some (.cells C ty fr)) : w.shape? b = some (ty, C.size) := by
  simp [World.shape?, h]

theorem sim2_ptrConv {β : Inj} {src dst : TypeId} {a a' : Addr} (ha : aRel β a a') : Sim2 P K W0 N0 β (fun σ => ptrConv P src dst a σ) (convert src dst (.pointer (some a'))) := by
  intro σ w v σ' hw hR hr hf
  unfold ptrConv at hr
  obtain ⟨hsp, e, he, rfl⟩ := ha
  dsimp only at hr
  split at hr
  case h_2 => cases hr
  rename_i x hg
  cases hb0 : (a.spot.isNone && ptrOk P src dst a.off x) with
  | false => rw [hb0] at hr; cases hr
  | true =>
  rw [hb0, cond_true] at hr
  cases hr
  simp only [Bool.and_eq_true] at hb0
  have hok := hb0.2
  unfold ptrOk at hok
  split at hok
  case h_2 => cases hok
  rename_i c rw lo pv
  obtain ⟨C, ty, fr, hC, hc, _, htl, htt⟩ := hR.cells he hg
  have hshape := shape_of_heap hC
  split at hok
  · rename_i t hs hd
    split at hok
    case h_2 => cases hok
    rename_i j hj
    simp only [Bool.and_eq_true, Bool.not_eq_true'] at hok
    have h1 : j.size ≠ 0 := Nat.ne_of_beq_eq_false hok.1
    have h2 : a.off < c.length := blt_iff.1 hok.2
    obtain ⟨u, hu, _⟩ := hc a.off h2
    have h3 : e.o + a.off < C.size := (Array.getElem?_eq_some_iff.1 hu).1
    exact ⟨_, w, β, Lib.run_to_unsafe w ⟨e.b, e.o + a.off, none⟩ hs hd hj h1 hshape h3, .refl _ _, hR, .ptr ⟨hsp, e, he, rfl⟩⟩
  · rename_i u hs hd
    split at hok
    case h_2 => cases hok
    rename_i T
    simp only [Bool.and_eq_true] at hok
    obtain ⟨⟨h1, h2⟩, h3⟩ := hok
    have h1 : a.off = 0 := Nat.eq_of_beq_eq_true h1
    obtain ⟨j, hj⟩ := Option.isSome_iff_exists.1 h2
    obtain ⟨rfl, h4⟩ := htt T rfl
    obtain ⟨h5, h6⟩ := h4 rfl
    refine ⟨_, w, β, Lib.run_from_unsafe w ⟨e.b, e.o + a.off, none⟩ hs hd hj hshape ?_, .refl _ _, hR, .ptr ⟨hsp, e, he, rfl⟩⟩
    rw [h5, h1, h6]
    exact h3
  · cases hok

theorem one_arg {β : Inj} {x : Value} {args' : Array Value} (ha : lRel β [x] args'.toList) : ∃ x', args' = #[x'] ∧ vRel β x x' := by
  cases h : args'.toList with
  | nil => rw [h] at ha; exact ha.elim
  | cons y l =>
    rw [h] at ha
    cases l with
    | nil => exact ⟨y, by rw [← Array.toList_inj, h], ha.1⟩
    | cons _ _ => exact ha.2.elim
theorem two_args {β : Inj} {x y : Value} {args' : Array Value} (ha : lRel β [x, y] args'.toList) : ∃ x' y', args' = #[x', y'] ∧ vRel β x x' ∧ vRel β y y' := by
  cases h : args'.toList with
  | nil => rw [h] at ha; exact ha.elim
  | cons u l =>
    rw [h] at ha
    cases l with
    | nil => exact ha.2.elim
    | cons v m =>
      cases m with
      | nil => exact ⟨u, v, by rw [← Array.toList_inj, h], ha.1, ha.2.1⟩
      | cons _ _ => exact ha.2.2.elim

theorem sim2_data {β : Inj} {argTypes : Array TypeId} {ty : TypeId} {args : List Value} {args' : Array Value} (ha : lRel β args args'.toList) :
    Sim2 P K W0 N0 β (fun σ => dataA args σ) (Builtin.unsafeSliceData_ argTypes ty args') := by
  intro σ w v σ' hw hR hr hf
  unfold dataA at hr
  dsimp only at hr
  split at hr
  · cases hr
    obtain ⟨x', rfl, hx⟩ := one_arg ha
    cases hx
    exact ⟨_, w, β, rfl, .refl _ _, hR, .ptrNone⟩
  · rename_i a l c
    obtain ⟨x', rfl, hx⟩ := one_arg ha
    cases hb : (a.spot.isNone && !(Nat.beq c 0)) with
    | false => rw [hb] at hr; cases hr
    | true =>
      rw [hb, cond_true] at hr
      cases hr
      simp only [Bool.and_eq_true, Bool.not_eq_true', Option.isNone_iff_eq_none] at hb
      have h1 : c ≠ 0 := Nat.ne_of_beq_eq_false hb.2
      cases hx with
      | @slice _ a' _ c' _ h hc =>
        have h2 : c' ≠ 0 := by
          rcases hc with rfl | ⟨_, _, _, _, _, _, _, _, h3⟩
          · exact h1
          · omega
        exact ⟨_, w, β, Lib.run_unsafeSliceData_row w _ _ a' _ c' h2, .refl _ _, hR, .ptr h⟩
      | void a' c' h => rw [hb.1] at h; cases h
  · cases hr

theorem liesAt_bytes' {e : TypeId} (hc : P.cellsOf e = 1) (count off n : Nat) (hn : off + n ≤ count) : liesAt P P.depth e count off e n = true := by
  have hd : P.depth = (2 * (P.types.size + Made.depth) + 1) + 1 := rfl
  rw [hd]
  simp only [liesAt, Bool.or_eq_true]
  left
  rw [hd]
  simp [rowAt, hc, hn, sameLayout, Nat.mod_one]

theorem addr_add {b o i : Nat} : (⟨b, o, none⟩ : Addr).add i = ⟨b, o + i, none⟩ := by
  unfold Addr.add
  split
  · rename_i h; rw [h]; rfl
  · rfl

theorem run_loadBytes' {w : World} : ∀ (l : List UInt8) (vs : List Value) (b o : Nat) (acc : ByteArray), bytesOf vs = some l → (∀ j (h : j < vs.length), w.cell? ⟨b, o + j, none⟩ = some vs[j]) →
    (loadBytes ⟨b, o, none⟩ acc l.length).run P w = .ok ⟨acc.data ++ l.toArray⟩ w
  | l, [], b, o, acc, h, _ => by
    simp only [bytesOf, Option.some.injEq] at h
    subst h
    simp [loadBytes]
  | l, v :: vs, b, o, acc, h, hc => by
    unfold bytesOf at h
    split at h
    · cases ‹v :: vs = []›
    · rename_i x l' heq
      cases heq
      split at h
      · rename_i r hr
        cases h
        have h0 : w.cell? ⟨b, o, none⟩ = some (.int .u8 x) := hc 0 (by simp)
        have ih := run_loadBytes' r vs b (o + 1) (acc.push x.toNat.toUInt8) hr (fun j hj => by
          have := hc (j + 1) (by simpa using hj)
          rw [show o + 1 + j = o + (j + 1) by omega]; simpa using this)
        simp only [List.length_cons, loadBytes, Sem.run_bind, run_load, h0, Result.andThen, addr_add]
        rw [ih]
        congr 1
        apply ByteArray.ext
        simp [ByteArray.push]
      · cases h
    · cases h

theorem bytesOf_length : ∀ {vs : List Value} {l : List UInt8}, bytesOf vs = some l → l.length = vs.length
  | [], l, h => by simp only [bytesOf, Option.some.injEq] at h; subst h; rfl
  | v :: vs, l, h => by
    unfold bytesOf at h
    split at h
    · cases ‹v :: vs = []›
    · rename_i x l' heq
      cases heq
      split at h
      · rename_i r hr
        cases h
        simp [bytesOf_length hr]
      · cases h
    · cases h

theorem bytesOf_rel {β : Inj} : ∀ {vs : List Value} {l : List UInt8} {us : List Value}, bytesOf vs = some l → lRel β vs us → us = vs
  | [], l, us, h, hr => by cases us with
    | nil => rfl
    | cons _ _ => exact hr.elim
  | v :: vs, l, us, h, hr => by
    cases us with
    | nil => exact hr.elim
    | cons u us =>
      unfold bytesOf at h
      split at h
      · cases ‹v :: vs = []›
      · rename_i x l' heq
        cases heq
        split at h
        · rename_i r hr'
          have := bytesOf_rel hr' hr.2
          subst this
          have h1 := hr.1
          cases h1
          rfl
        · cases h
      · cases h

/-- Cells are frozen: of rows that are no longer written. -/
theorem R.freeze {β : Inj} {σ : AS} {w : World} (hR : R K W0 N0 β σ w) {e : Ent} (hN : N0 ≤ e.b) (o n : Nat) (h : ∀ id e' c lo pv, β id = some e' → σ.get id = some (.cells c true lo pv) → e'.b ≠ e.b)
    (ho : ∀ id e' x, β id = some e' → σ.get id = some (.obj x) → e'.b ≠ e.b) : R K W0 N0 β σ (w.freeze ⟨e.b, o, none⟩ n) := by
  by_cases hn : n = 0
  · unfold World.freeze; rw [if_pos hn]; exact hR
  have heap : ∀ r, (w.freeze ⟨e.b, o, none⟩ n).heap[r]? = if e.b = r then (w.heap[r]?).map (fun | .cells c elem (lo, hi) => .cells c elem (if lo == hi then (o, o + n) else (min lo o, max hi (o + n))) | x => x) else w.heap[r]? := by
    intro r
    unfold World.freeze
    rw [if_neg hn]
    simp only [Array.getElem?_modify]
    by_cases hr : e.b = r
    · rw [if_pos hr, if_pos hr]
      cases w.heap[r]? with
      | none => rfl
      | some x => cases x <;> rfl
    · rw [if_neg hr, if_neg hr]
  have size : (w.freeze ⟨e.b, o, none⟩ n).heap.size = w.heap.size := by
    unfold World.freeze; rw [if_neg hn]; simp
  constructor
  · intro id e' c rw' lo pv hb hg
    obtain ⟨C, ty, fr, k1, k2, k3, k4⟩ := hR.cells hb hg
    by_cases heq : e.b = e'.b
    · refine ⟨C, ty, _, by rw [heap, if_pos heq, k1]; rfl, k2, fun hrw => ?_, k4⟩
      subst hrw
      exact absurd heq.symm (h id e' c lo pv hb hg)
    · exact ⟨C, ty, fr, by rw [heap, if_neg heq]; exact k1, k2, k3, k4⟩
  · intro id e' x hb hg
    obtain ⟨k1, k2, o', k3, k4⟩ := hR.obj hb hg
    exact ⟨k1, k2, o', by rw [heap, if_neg (Ne.symm (ho id e' x hb hg))]; exact k3, k4⟩
  · exact hR.excl
  · intro id e' hb; rw [size]; exact hR.lt hb
  · exact Lib.below_freeze hR.base hN n
  · rw [size]; exact hR.top
  · exact hR.code

theorem sim2_ustr {β : Inj} {lim : Nat} {argTypes : Array TypeId} {ty : TypeId} {args : List Value} {args' : Array Value} (ha : lRel β args args'.toList) :
    Sim2 P K W0 N0 β (fun σ => ustrA P lim argTypes args σ) (Builtin.unsafeString_ argTypes ty args') := by
  intro σ w v σ' hw hR hr hf
  unfold ustrA at hr
  dsimp only at hr
  split at hr
  case h_2 => cases hr
  rename_i p k n
  obtain ⟨x', y', rfl, hx, hy⟩ := two_args ha
  cases hy
  obtain ⟨p', rfl⟩ : ∃ p', x' = .pointer p' := by cases hx <;> exact ⟨_, rfl⟩
  split at hr
  case h_2 => cases hr
  rename_i pt hpt
  have hmax : IntKind.i64.max = 9223372036854775807 := rfl
  have hdef : Builtin.unsafeString_ argTypes ty #[.pointer p', .int k n] =
      (do
        let n ← asInt (.int k n)
        let some pt := argTypes[0]? | stuck "unsafe.String: no argument types"
        if n < 0 then runtimePanic (.error "unsafe.String: len out of range")
        if n > IntKind.i64.max then unsupported (.unsafePointer "String: a length above the largest int")
        match p' with
        | none =>
          if n = 0 then pure (.string .empty)
          else runtimePanic (.error "unsafe.String: ptr is nil and len is not zero")
        | some a =>
          if n = 0 then pure (.string .empty)
          else if ← variablesAt a (← elemOf pt) n.toNat then do
            let s ← loadBytes a .empty n.toNat
            freeze a n.toNat
            pure (.string s)
          else unsupported (.unsafePointer "String: not so many bytes at ptr")) := rfl
  cases hz : decide (n = 0) with
  | true =>
    rw [hz, cond_true] at hr
    cases hr
    have h0 : n = 0 := of_decide_eq_true hz
    subst h0
    refine ⟨.string .empty, w, β, ?_, .refl _ _, hR, .string _⟩
    rw [hdef, hpt]
    cases p' <;> simp [asInt, asIntOf, hmax]
  | false =>
    rw [hz, cond_false] at hr
    have h0 : n ≠ 0 := of_decide_eq_false hz
    split at hr
    case h_2 => cases hr
    rename_i e0 a hpe
    cases hx with
    | @ptr _ a' haa =>
    obtain ⟨hsp, e, he, rfl⟩ := haa
    split at hr
    case h_2 => cases hr
    rename_i c lo pv _ hg
    cases hcnd : (lo.2 == some e0 && Nat.beq (P.cellsOf e0) 1 && decide (0 ≤ n) && Nat.ble (a.off + n.toNat) c.length && Nat.ble n.toNat 1099511627776 && Nat.ble lim a.block) with
    | false => rw [hcnd] at hr; cases hr
    | true =>
    rw [hcnd, cond_true] at hr
    simp only [Bool.and_eq_true, beq_iff_eq, decide_eq_true_eq] at hcnd
    obtain ⟨⟨⟨⟨⟨c1, c2⟩, c3⟩, c4⟩, c5⟩, _⟩ := hcnd
    have c2 : P.cellsOf e0 = 1 := Nat.eq_of_beq_eq_true c2
    have c4 : a.off + n.toNat ≤ c.length := Nat.ble_eq ▸ c4
    have c5 : n.toNat ≤ 1099511627776 := Nat.ble_eq ▸ c5
    split at hr
    case h_2 => cases hr
    rename_i s σ1 hs hk
    cases hr
    obtain ⟨C, tyC, fr, hC, hc, hrw, htl, htt⟩ := hR.cells he hg
    obtain ⟨hN, hfr⟩ := hrw rfl
    obtain ⟨rfl, _⟩ := htt e0 c1
    have hlen : s.length = n.toNat := by
      rw [bytesOf_length hs]; simp; omega
    have hcell : ∀ j (h : j < ((c.drop a.off).take n.toNat).length), w.cell? ⟨e.b, e.o + a.off + j, none⟩ = some ((c.drop a.off).take n.toNat)[j] := by
      intro j hj
      have hj' : j < n.toNat := by simp at hj; omega
      obtain ⟨u, hu, hur⟩ := hc (a.off + j) (by omega)
      rw [cell?_of_heap hC, Nat.add_assoc, hu]
      have hmem : ((c.drop a.off).take n.toNat)[j] = c[a.off + j] := by simp
      rw [hmem]
      have hb : ∃ x, c[a.off + j] = .int .u8 x := by
        have : ∀ {vs : List Value} {l : List UInt8}, bytesOf vs = some l → ∀ v ∈ vs, ∃ x, v = .int .u8 x := by
          intro vs
          induction vs with
          | nil => intro l _ v hv; cases hv
          | cons z zs ih =>
            intro l hl v hv
            unfold bytesOf at hl
            split at hl
            · cases ‹z :: zs = []›
            · rename_i x l' heq
              cases heq
              split at hl
              · rename_i r hr'
                rcases List.mem_cons.1 hv with rfl | hv
                · exact ⟨_, rfl⟩
                · exact ih hr' v hv
              · cases hl
            · cases hl
        exact this hs _ (by rw [← hmem]; exact List.getElem_mem hj)
      obtain ⟨x, hx⟩ := hb
      rw [hx] at hur ⊢
      cases hur
      rfl
    have hlies := liesAt_bytes' (P := P) c2 (C.size / P.cellsOf tyC) (e.o + a.off) n.toNat (by
      rw [c2, Nat.div_one]
      have hlast : a.off + n.toNat - 1 < c.length := by omega
      obtain ⟨u, hu, _⟩ := hc (a.off + n.toNat - 1) hlast
      have := (Array.getElem?_eq_some_iff.1 hu).1
      have hpos : 0 < n.toNat := by omega
      omega)
    have hload := run_loadBytes' (P := P) (w := w) s _ e.b (e.o + a.off) .empty hs hcell
    rw [hlen] at hload
    have hshape := shape_of_heap hC
    have hneg : ¬ n < 0 := by omega
    have hbig : ¬ (9223372036854775807 : Int) < n := by omega
    obtain ⟨k1, k2, k3⟩ := AS.kill_get hk
    have hget : ∀ j, (σ1.put a.block (some (.cells c false lo none))).get j = if j = a.block then some (.cells c false lo none) else if pv = some j then none else σ.get j := by
      intro j
      rw [AS.get_put]
      split
      · rfl
      · exact k2 j
    have hweak : R K W0 N0 β (σ1.put a.block (some (.cells c false lo none))) w := by
      refine hR.weaken fun j y hy => ?_
      rw [hget] at hy
      split at hy
      · rename_i hj; subst hj
        simp only [Option.some.injEq] at hy
        exact .inr ⟨c, true, lo, pv, hg, hy.symm⟩
      · split at hy
        · cases hy
        · exact .inl hy
    have hother : ∀ id e' y, β id = some e' → (σ1.put a.block (some (.cells c false lo none))).get id = some y → id ≠ a.block → e'.b ≠ e.b := by
      intro id e' y hb hy hid heq
      rw [hget, if_neg hid] at hy
      split at hy
      · cases hy
      · rename_i hp
        exact hp (hR.excl (Ne.symm hid) he hb hg hy rfl heq.symm)
    refine ⟨.string ⟨s.toArray⟩, w.freeze ⟨e.b, e.o + a.off, none⟩ n.toNat, β, ?_, ⟨.refl _, fun i e' h => .inl h⟩, hweak.freeze hN (e.o + a.off) n.toNat (fun id e' c' lo' pv' hb hy => ?_) (fun id e' x hb hy => ?_), .string _⟩
    · rw [hdef, hpt]
      simp [asInt, asIntOf, hmax, hbig, hneg, h0, variablesAt, hshape, elemOf, run_underlying hpe, hlies, hload]
    · by_cases hid : id = a.block
      · subst hid; rw [hget, if_pos rfl] at hy; cases hy
      · exact hother id e' _ hb hy hid
    · by_cases hid : id = a.block
      · subst hid; rw [hget, if_pos rfl] at hy; cases hy
      · exact hother id e' _ hb hy hid
end
end Go.Va

/-
  SIMULATION: strings to slices; cap; then an operation of any kind.
-/
namespace Go.Va
open Go.RowKit
variable {P : Program} {K : FuncId → Code → Prop} {W0 : World} {N0 : Nat}

theorem modify_push (xs : Array Obj) (a : Obj) (f : Obj → Obj) : (xs.push a).modify xs.size f = xs.push (f a) := by
  apply Array.ext_getElem?
  intro i
  rw [Array.getElem?_modify, Array.getElem?_push, Array.getElem?_push]
  by_cases h : xs.size = i
  · subst h; simp
  · rw [if_neg h, if_neg (Ne.symm h), if_neg (Ne.symm h)]

/-- A new row with room behind its end. -/
theorem R.pushLoose {β : Inj} {σ : AS} {w : World} (hR : R K W0 N0 β σ w) (hf : β σ.next = none) {c : List Value} {C : Array Value} {ty : TypeId} {fr : Nat × Nat} {cap : Nat}
    (hc : ∀ i (_ : i < c.length), ∃ v', C[i]? = some v' ∧ vRel β c[i] v') (hfr : ∀ i, i < C.size → ¬ (fr.1 ≤ i ∧ i < fr.2)) (hcap : C.size = cap) (hle : c.length ≤ cap) :
    ∃ β', β.le β' ∧ (∀ i e, β' i = some e → β i = some e ∨ i = σ.next) ∧ R K W0 N0 β' (σ.push (.cells c true (some 1, some ty) none)) { drawn1 w with heap := w.heap.push (.cells C ty fr) } ∧
      vRel β' (.slice (some ⟨σ.next, 0, none⟩) c.length c.length) (.slice (some ⟨w.heap.size, 0, none⟩) c.length cap) := by
  have hR1 := hR.drawn (w.drawn + 1)
  obtain ⟨R2, hle2⟩ := hR1.push (x := .cells c true (some 1, some ty) none) (o' := .cells C ty fr) (e := ⟨w.heap.size, 0, some (c.length, 1, cap)⟩) hf rfl
    ⟨C, ty, fr, rfl, fun i hi => by simpa using hc i hi, fun _ => hfr, by rw [hcap]; rfl, fun T hT => by cases hT; exact ⟨rfl, fun h => by cases h⟩⟩
  refine ⟨_, hle2, fun i e he => ?_, R2, ?_⟩
  · split at he
    · rename_i h; exact .inr h
    · exact .inl he
  · refine .slice _ ⟨rfl, ⟨w.heap.size, 0, some (c.length, 1, cap)⟩, by simp, rfl⟩ (.inr ⟨⟨w.heap.size, 0, some (c.length, 1, cap)⟩, c.length, 1, cap, by simp, rfl, by simp, by simp, hle⟩)

theorem run_mark (h : Array Obj) (C : Array Value) (e : TypeId) (w : World) {n : Nat} (hC : C.size = n) :
    (markStringish ⟨h.size, 0, none⟩).run P { w with heap := h.push (.cells C e) } = .ok () { w with heap := h.push (.cells C e (n, n + 1)) } := by
  subst hC
  have h1 : (World.shape? { w with heap := h.push (.cells C e) } h.size) = some (e, C.size) := by
    simp [World.shape?]
  unfold markStringish
  rw [run_bind']
  have r1 : (shape h.size).run P { w with heap := h.push (.cells C e) } = .ok (some (e, C.size)) { w with heap := h.push (.cells C e) } := by
    show (Sem.shape h.size .pure).run P _ = _
    simp only [Sem.run, h1]
  rw [r1]
  dsimp only
  show (Sem.freeze ⟨h.size, C.size, none⟩ 1 (.pure ())).run P _ = _
  simp only [Sem.run, World.freeze, Nat.one_ne_zero, if_false, modify_push]
  rfl

theorem sim2_conv {β : Inj} {lim : Nat} {src dst : TypeId} {x x' : Value} (hx : vRel β x x') : Sim2 P K W0 N0 β (fun σ => convA P lim src dst x σ) (convert src dst x') := by
  by_cases hp : ∃ a, x = .pointer (some a)
  · obtain ⟨a, rfl⟩ := hp
    cases hx with
    | ptr ha => exact sim2_ptrConv ha
  by_cases hs : ∃ s, x = .string s
  case neg =>
    intro σ w v σ' hw hR hr hf
    have hr' : (bif convOk P src dst x then runA P lim (convert src dst x) σ else none) = some (v, σ') := by
      cases x <;> first | exact hr | exact absurd ⟨_, rfl⟩ hs | (rename_i o; cases o <;> first | exact hr | exact absurd ⟨_, rfl⟩ hp)
    cases ho : convOk P src dst x with
    | false => rw [ho] at hr'; cases hr'
    | true =>
      rw [ho] at hr'
      exact sim_convert hx ho lim σ w v σ' hw hR hr' hf
  case pos =>
    obtain ⟨s, rfl⟩ := hs
    cases hx
    intro σ w v σ' hw hR hr hf
    simp only [convA] at hr
    have gen : (bif convOk P src dst (.string s) then runA P lim (convert src dst (.string s)) σ else none) = some (v, σ') →
        ∃ v' w' β', (convert src dst (.string s)).run P w = .ok v' w' ∧ Ext β β' σ σ' ∧ R K W0 N0 β' σ' w' ∧ vRel β' v v' := by
      intro hr'
      cases ho : convOk P src dst (.string s) with
      | false => rw [ho] at hr'; cases hr'
      | true =>
        rw [ho] at hr'
        exact sim_convert (.string s) ho lim σ w v σ' hw hR hr' hf
    split at hr
    · rename_i e hd1 hd2
      have r1 := run_underlying' src w _ hd1
      have r2 := run_underlying' dst w _ hd2
      split at hr
      · rename_i hd3
        have r3 := run_underlying' e w _ hd3
        simp only [Option.some.injEq, Prod.mk.injEq] at hr
        obtain ⟨rfl, rfl⟩ := hr
        have hfn : β σ.next = none := hf _ (Nat.le_refl _) (by simp)
        have hlen : (s.data.toList.map fun b => Value.int .u8 (b.toNat : Int)).length = s.size := by rw [List.length_map, Array.length_toList]; rfl
        have hq : ∃ cap, s.size ≤ cap ∧ (convert src dst (.string s)).run P w = .ok (.slice (some ⟨w.heap.size, 0, none⟩) s.size cap)
            { drawn1 w with heap := w.heap.push (.cells ((s.data.map fun b => Value.int .u8 (b.toNat : Int)) ++ Array.replicate (cap - s.size) (.int .u8 0)) e (cap, cap + 1)) } := by
          refine ⟨s.size + w.tape w.drawn (.appendCap s.size 0 e) % (2 ^ 63 - s.size), by omega, ?_⟩
          unfold convert
          rw [run_bind', r1]
          dsimp only
          rw [run_bind', r2]
          dsimp only
          rw [run_bind', r3]
          dsimp only
          unfold Conv.stringToBytes
          rw [run_bind']
          have rc : (choose (.appendCap s.size 0 e)).run P w = .ok (s.size + w.tape w.drawn (.appendCap s.size 0 e) % (2 ^ 63 - s.size)) (drawn1 w) := rfl
          rw [rc]
          have hcp : s.size ≤ s.size + w.tape w.drawn (.appendCap s.size 0 e) % (2 ^ 63 - s.size) := by omega
          generalize s.size + w.tape w.drawn (.appendCap s.size 0 e) % (2 ^ 63 - s.size) = cap at hcp
          dsimp only
          rw [run_bind']
          have rn : (newRow e ((s.data.map fun b => Value.int .u8 (b.toNat : Int)) ++ Array.replicate (cap - s.size) (.int .u8 0))).run P (drawn1 w) =
            .ok ⟨w.heap.size, 0, none⟩ { drawn1 w with heap := w.heap.push (.cells ((s.data.map fun b => Value.int .u8 (b.toNat : Int)) ++ Array.replicate (cap - s.size) (.int .u8 0)) e) } := rfl
          rw [rn]
          dsimp only
          rw [run_bind', run_mark (n := cap) w.heap _ e (drawn1 w) (by
            rw [Array.size_append, Array.size_map, Array.size_replicate]
            show s.size + (cap - s.size) = cap
            omega)]
          rfl
        obtain ⟨cap, c1, c2⟩ := hq
        obtain ⟨β', b1, b2, b3, b4⟩ := hR.pushLoose hfn (c := s.data.toList.map fun b => Value.int .u8 (b.toNat : Int)) (C := (s.data.map fun b => Value.int .u8 (b.toNat : Int)) ++ Array.replicate (cap - s.size) (.int .u8 0)) (ty := e) (fr := (cap, cap + 1)) (cap := cap)
          (fun j hj => by
            refine ⟨_, ?_, plain_rel 1 _ (by simp [plainB])⟩
            have hj' : j < (s.data.map fun b => Value.int .u8 (b.toNat : Int)).size := by rw [Array.size_map]; rw [List.length_map, Array.length_toList] at hj; exact hj
            rw [Array.getElem?_append_left hj', Array.getElem?_eq_getElem hj']
            simp)
          (fun j hj h => by
            rw [Array.size_append, Array.size_map, Array.size_replicate] at hj
            have : s.data.size = s.size := rfl
            dsimp only at h
            omega)
          (by
            rw [Array.size_append, Array.size_map, Array.size_replicate]
            show s.size + (cap - s.size) = cap
            omega) (by rw [hlen]; exact c1)
        rw [hlen] at b4
        refine ⟨_, _, β', c2, ⟨b1, fun j e2 he2 => ?_⟩, b3, b4⟩
        rcases b2 j e2 he2 with h | rfl
        · exact .inl h
        · exact .inr ⟨Nat.le_refl _, by simp⟩
      · rename_i hd3
        have r3 := run_underlying' e w _ hd3
        simp only [Option.some.injEq, Prod.mk.injEq] at hr
        obtain ⟨rfl, rfl⟩ := hr
        have hfn : β σ.next = none := hf _ (Nat.le_refl _) (by simp)
        have hpl : ∀ (b i : Nat) (acc : Array Value), (∀ k (h : k < acc.size), plainB 1 acc[k] = true) → ∀ k (h : k < (Conv.runesFrom s b i acc).size), plainB 1 (Conv.runesFrom s b i acc)[k] = true := by
          intro b
          induction b with
          | zero => intro i acc h k hk; exact h k hk
          | succ b ih =>
            intro i acc h
            unfold Conv.runesFrom
            split
            · refine ih _ _ fun k hk => ?_
              rw [Array.getElem_push]
              split
              · exact h k _
              · rfl
            · exact h
        generalize hel : Conv.runesFrom s s.size 0 #[] = el at *
        have hel1 : ∀ k (h : k < el.size), plainB 1 el[k] = true := by
          rw [← hel]
          exact hpl _ _ _ fun k h => by simp at h
        have hq : ∃ cap, el.size ≤ cap ∧ (convert src dst (.string s)).run P w = .ok (.slice (some ⟨w.heap.size, 0, none⟩) el.size cap)
            { drawn1 w with heap := w.heap.push (.cells (el ++ Array.replicate (cap - el.size) (.int .i32 0)) e) } := by
          refine ⟨el.size + w.tape w.drawn (.appendCap el.size 0 e) % (2 ^ 63 - el.size), by omega, ?_⟩
          unfold convert
          rw [run_bind', r1]
          dsimp only
          rw [run_bind', r2]
          dsimp only
          rw [run_bind', r3]
          dsimp only
          unfold Conv.stringToRunes
          rw [hel]
          rfl
        obtain ⟨cap, c1, c2⟩ := hq
        have hsz : (el ++ Array.replicate (cap - el.size) (Value.int .i32 0)).size = cap := by
          rw [Array.size_append, Array.size_replicate]; omega
        obtain ⟨β', b1, b2, b3, b4⟩ := hR.pushLoose hfn (c := el.toList) (C := el ++ Array.replicate (cap - el.size) (.int .i32 0)) (ty := e) (fr := (0, 0)) (cap := cap)
          (fun j hj => by
            rw [Array.length_toList] at hj
            refine ⟨el[j], ?_, ?_⟩
            · rw [Array.getElem?_append_left hj, Array.getElem?_eq_getElem hj]
            · rw [Array.getElem_toList]; exact plain_rel 1 _ (hel1 j hj))
          (fun j hj h => by simp at h) hsz (by rw [Array.length_toList]; exact c1)
        rw [Array.length_toList] at b4
        refine ⟨_, _, β', c2, ⟨b1, fun j e2 he2 => ?_⟩, b3, by rw [Array.length_toList]; exact b4⟩
        rcases b2 j e2 he2 with h | rfl
        · exact .inl h
        · exact .inr ⟨Nat.le_refl _, by simp⟩
      · cases hr
    · exact gen hr

end Go.Va

/-
  SIMULATION: an operation of any kind that calls nothing.
-/
namespace Go.Va
open Go.RowKit
variable {P : Program} {K : FuncId → Code → Prop} {W0 : World} {N0 : Nat}

def nRel (β : Inj) : Next → Next → Prop
  | .value v, n' => ∃ v', n' = .value v' ∧ vRel β v v'
  | .skip, n' => n' = .skip
  | _, _ => False

theorem simVal {β : Inj} {s s' : Sem Value} (h : Sim P K W0 N0 β s s' vRel) : Sim P K W0 N0 β (do pure (Next.value (← s))) (do pure (Next.value (← s'))) nRel :=
  h.bind fun _ _ v' _ hv => .ret ⟨v', rfl, hv⟩
theorem simVal0 {β : Inj} {s s' : Sem Value} (h : Sim P K W0 N0 β s s' (fun β' v v' => β' = β ∧ vRel β v v')) : Sim P K W0 N0 β (do pure (Next.value (← s))) (do pure (Next.value (← s'))) nRel :=
  Sim.bind0 h fun _ v' hv => .ret ⟨v', rfl, hv⟩
theorem simUnit {β : Inj} {s s' : Sem Unit} (h : Sim P K W0 N0 β s s' (fun β' _ _ => β' = β)) : Sim P K W0 N0 β (do s; pure Next.skip) (do s'; pure Next.skip) nRel :=
  h.bind fun _ _ _ _ _ => .ret (A := nRel) (v := Next.skip) (v' := Next.skip) rfl

theorem psRel_map {β : Inj} {ρ ρ' : Operand → Value} : ∀ {l : List (Nat × Operand)}, (∀ x ∈ l.map (·.2), vRel β (ρ x) (ρ' x)) → psRel β (l.map fun (i, x) => (i, ρ x)) (l.map fun (i, x) => (i, ρ' x))
  | [], _ => trivial
  | (i, x) :: l, h => ⟨rfl, h x (by simp), psRel_map fun y hy => h y (by simp only [List.map_cons, List.mem_cons]; exact .inr hy)⟩

theorem arrRel_mapO {β : Inj} {ρ ρ' : Operand → Value} {xs : Array Operand} (h : ∀ x ∈ xs, vRel β (ρ x) (ρ' x)) : arrRel β (xs.map ρ) (xs.map ρ') :=
  ⟨by simp, fun i hi hi' => by simp only [Array.getElem_map]; exact h _ (by simp)⟩

theorem ovRel_map {β : Inj} {ρ ρ' : Operand → Value} {o : Option Operand} (h : ∀ x, o = some x → vRel β (ρ x) (ρ' x)) : ovRel β (o.map ρ) (o.map ρ') := by
  cases o with
  | none => trivial
  | some x => exact h x rfl

theorem sim_execOp {β : Inj} (hZ : ZeroOk P) {ρ ρ' : Operand → Value} {o : Oper} (hρ : ∀ x ∈ o.op.operands, vRel β (ρ x) (ρ' x)) (hfn : ∀ fn f c, o.op = .makeFunc fn f c → ∀ l, fn ≠ .yield l) (hg : generic P o.op = true) :
    Sim P K W0 N0 β (execOp ρ o) (execOp ρ' o) nRel := by
  obtain ⟨dst, op, type, pos, after, guard⟩ := o
  cases op <;> simp only [Op.operands] at hρ <;> (try (simp only [generic] at hg; done)) <;> simp only [execOp]
  case move x => exact .ret ⟨_, rfl, hρ x (by simp)⟩
  case assign x => exact .ret ⟨_, rfl, hρ x (by simp)⟩
  case pick c a b =>
    refine Sim.bindEq (sim_asBool (hρ c (by simp))) fun b' => .ret ⟨_, rfl, ?_⟩
    cases b' with
    | true => exact hρ a (by simp)
    | false => exact hρ b (by simp)
  case alloc e => exact simVal (sim_alloc hZ e)
  case box e x => exact simVal (sim_box (hρ x (by simp)) e)
  case build t ps =>
    refine simVal (sim_build hZ ?_)
    simp only [Array.toList_map]
    exact psRel_map fun x hx => hρ x (by simpa using hx)
  case buildSlice t n ps =>
    refine simVal (sim_buildSlice hZ ?_)
    simp only [Array.toList_map]
    exact psRel_map fun x hx => hρ x (by simpa using hx)
  case insert t m k v => exact simUnit (sim_mapUpdate (hρ m (by simp)) (hρ k (by simp)) (hρ v (by simp)) hg)
  case load t a => exact simVal0 (sim_loadAt (hρ a (by simp)) t)
  case store t a v => exact simUnit (sim_storeAt (hρ a (by simp)) (hρ v (by simp)) t)
  case makeInterface t x => exact simVal (sim_makeInterface (hρ x (by simp)) t)
  case makeFunc fn f c =>
    have h1 := arrRel_mapO (β := β) (ρ := ρ) (ρ' := ρ') (xs := f) fun x hx => hρ x (by simp [hx])
    have h2 := arrRel_mapO (β := β) (ρ := ρ) (ρ' := ρ') (xs := c) fun x hx => hρ x (by simp [hx])
    refine simVal (s := Instr.makeFunc _ _ _) (s' := Instr.makeFunc _ _ _) (.ret (vRel.func ?_ h1.1 h1.2 h2.1 h2.2))
    cases fn with
    | yield l => exact absurd rfl (hfn _ _ _ rfl l)
    | _ => rfl
  case makeMap t r =>
    refine simVal (sim_makeMap (fun v hv => ?_) fun h => ?_)
    · cases r with
      | none => cases hv
      | some x => simp only [Option.map_some, Option.some.injEq] at hv; subst hv; exact ⟨_, rfl, hρ x (by simp)⟩
    · cases r with
      | none => rfl
      | some x => cases h
  case makeSlice t l c => exact simVal (sim_makeSlice hZ (hρ l (by simp)) (hρ c (by simp)))
  case fieldAddr t x f => exact simVal (sim_fieldAt (hρ x (by simp)) t f)
  case field t x f => exact simVal (sim_field (hρ x (by simp)) t f)
  case indexAddr t x i => exact simVal (sim_indexAt (hρ x (by simp)) (hρ i (by simp)) t)
  case index t x i => exact simVal (sim_index (hρ x (by simp)) (hρ i (by simp)) t)
  case lookup t x i ok => exact simVal (sim_lookup hZ (hρ x (by simp)) (hρ i (by simp)) hg ok)
  case mapUpdate t m k v => exact simUnit (sim_mapUpdate (hρ m (by simp)) (hρ k (by simp)) (hρ v (by simp)) hg)
  case range t x => exact simVal (sim_range (hρ x (by simp)))
  case next x b => exact simVal (sim_next (hρ x (by simp)))
  case extract x i => exact simVal0 (sim_extract (hρ x (by simp)) i)
  all_goals cases hg

/-- The builtins that are carried out as the model does. -/
theorem sim_builtin {β : Inj} (hZ : ZeroOk P) {b : Builtin} {argTypes : Array TypeId} {type : TypeId} {consts : Array Bool} {args args' : Array Value} (ha : arrRel β args args') (ht : tame P argTypes b = true)
    (hu : ∀ v, args.toList.head? = some v → (b = .min ∨ b = .max) → unOkA v = true) : Sim P K W0 N0 β (builtin b argTypes type consts args) (builtin b argTypes type consts args') nRel := by
  have fold : ∀ (f : Value → Value → Sem Value) (why : String), (∀ {x x' y y' : Value}, vRel β x x' → vRel β y y' → unOkA x = true → Sim P K W0 N0 β (f x y) (f x' y') (fun β' v v' => β' = β ∧ vRel β v v' ∧ unOkA v = true)) → (∀ v, args.toList.head? = some v → unOkA v = true) →
      Sim P K W0 N0 β (match args.toList with | [] => stuck why | x :: rest => rest.foldlM f x) (match args'.toList with | [] => stuck why | x :: rest => rest.foldlM f x) vRel := by
    intro f why hf hu
    have hl := arrRel_iff.1 ha
    cases h1 : args.toList with
    | nil => exact Sim.stuck
    | cons x rest =>
      rw [h1] at hl hu
      cases h2 : args'.toList with
      | nil => rw [h2] at hl; exact hl.elim
      | cons x' rest' =>
        rw [h2] at hl
        exact sim_foldM hf hl.2 hl.1 (hu x rfl)
  cases b <;> (try (cases ht; done)) <;> simp only [builtin]
  case copy => exact simVal (sim_copy ha)
  case delete => exact simVal (sim_delete ha ht)
  case len => exact simVal (sim_len ha)
  case clear => exact simVal (sim_clear hZ ha)
  case min => exact simVal (fold Builtin.min2 _ sim_min2 fun v hv => hu v hv (.inl rfl))
  case max => exact simVal (fold Builtin.max2 _ sim_max2 fun v hv => hu v hv (.inr rfl))

end Go.Va

/-
  A RUN OF THE INTERPRETER LOOKS AT NOTHING BEYOND 'next', AND WRITES NOTHING BELOW 'lim'.
-/
namespace Go.Va
variable {P : Program}

/-- A step that keeps what lies below 'lim', and looks at nothing beyond 'next'. -/
def Good {γ : Type} (lim : Nat) (f : AS → Option (γ × AS)) : Prop :=
  ∀ σ v σ', f σ = some (v, σ') → σ.Wf → Kept lim σ σ' ∧ ∀ τ, σ.Like τ → ∃ τ', f τ = some (v, τ') ∧ σ'.Led τ τ'

theorem Kept.any {lim : Nat} {σ σ' : AS} (h : Kept σ.next σ σ') : Kept lim σ σ' := ⟨h.next, h.wf, fun i _ hn => h.old i hn hn⟩

theorem good_runA {α : Type} {lim : Nat} (s : Sem α) : Good lim (runA P lim s) := fun _ _ _ h hw => blind_runA s h hw

theorem exact_like {σ τ : AS} (hw : σ.Wf) (hl : σ.Like τ) {p : Addr} {c : Nat} (h : (σ.get p.block).isSome = true) : τ.exact p c = σ.exact p c := by
  unfold AS.exact
  obtain ⟨x, hx⟩ := Option.isSome_iff_exists.1 h
  rw [hl.2 _ (lt_of_get hw hx)]

/-- The places that a look-up of a row asks of are the same. -/
theorem get_like {σ τ : AS} (hw : σ.Wf) (hl : σ.Like τ) {r : Nat} {x : AObj} (h : σ.get r = some x) : τ.get r = some x := by
  rw [hl.2 _ (lt_of_get hw h)]; exact h

theorem sliceOf_like {σ τ : AS} (hw : σ.Wf) (hl : σ.Like τ) {t : TypeId} {base : Option Addr} {len cap : Nat} {lo hi mx : Option Value} {v : Value} (h : sliceOf P σ t base len cap lo hi mx = some v) :
    sliceOf P τ t base len cap lo hi mx = some v := by
  unfold sliceOf at *
  split at h
  · rename_i elem hd
    split at h
    · rename_i i hi0
      split at h
      · rename_i l hh m e1 e2 e3
        cases hb : (Nat.ble l hh && Nat.ble hh m && Nat.ble m cap && (mx.isNone || hi.isSome)) with
        | false => simp [hb] at h
        | true =>
          simp only [hb, cond_true] at h ⊢
          cases base with
          | none => exact h
          | some p =>
            dsimp only at h ⊢
            cases hsp : p.spot.isSome with
            | true => simp only [hsp, cond_true] at h ⊢; exact h
            | false =>
              simp only [hsp, cond_false] at h ⊢
              cases hg : σ.get p.block with
              | none => rw [hg] at h; cases h
              | some x =>
                have hg' := get_like hw hl hg
                have h1 := exact_like hw hl (p := p) (c := cap) (by rw [hg]; rfl)
                have h2 : τ.looseIs p i.size = σ.looseIs p i.size := by
                  unfold AS.looseIs
                  rw [hg, hg']
                rw [hg', h1, h2]
                rw [hg] at h
                exact h
      · cases h
    · cases h
  · cases h

theorem good_slice {lim : Nat} {t : TypeId} {x : Value} {lo hi mx : Option Value} : Good lim (fun σ => sliceA P lim t x lo hi mx σ) := by
  intro σ v σ' h hw
  cases x
  case slice base len cap =>
    simp only [sliceA] at h ⊢
    cases hs : sliceOf P σ t base len cap lo hi mx with
    | none => rw [hs] at h; cases h
    | some u =>
      rw [hs] at h
      simp only [Option.some.injEq, Prod.mk.injEq] at h
      obtain ⟨rfl, rfl⟩ := h
      exact ⟨.refl _ _, fun τ hl => ⟨τ, by rw [sliceOf_like hw hl hs], .refl hl⟩⟩
  all_goals exact good_runA _ σ v σ' h hw

theorem newCells_like {σ τ : AS} (hw : σ.Wf) (hl : σ.Like τ) {lim : Nat} {i : TypeInfo} {xt : Option TypeId} {x : Value} {r : List Value × Nat} (h : newCells P lim i xt x σ = some r) : newCells P lim i xt x τ = some r := by
  unfold newCells at *
  split at h
  · exact h
  · split at h
    · rename_i n hn
      split at h
      · rename_i c σ1 hr
        obtain ⟨τ', h1, _⟩ := (blind_runA _ hr hw).2 τ hl
        rw [h1]; exact h
      · cases h
    · cases h
  · cases h

theorem setCells_good {lim : Nat} {a : Addr} : ∀ (l : List Value) (i : Nat) (σ σ' : AS), σ.setCells lim a l i = some σ' → σ.Wf → Kept lim σ σ' ∧ ∀ τ, σ.Like τ → ∃ τ', τ.setCells lim a l i = some τ' ∧ σ'.Led τ τ'
  | [], i, σ, σ', h, hw => by
    simp only [AS.setCells, Option.some.injEq] at h
    subst h
    exact ⟨.refl _ _, fun τ hl => ⟨τ, rfl, .refl hl⟩⟩
  | v :: l, i, σ, σ', h, hw => by
    simp only [AS.setCells] at h ⊢
    cases ho : oneCell v with
    | false => simp [ho] at h
    | true =>
      simp only [ho, cond_true] at h ⊢
      cases hs : σ.setCell lim (a.add i) v with
      | none => rw [hs] at h; cases h
      | some σ1 =>
        rw [hs] at h
        have hk := kept_setCell hs
        obtain ⟨h1, h2⟩ := setCells_good l (i + 1) σ1 σ' h (hk.wf hw)
        refine ⟨hk.trans h1, fun τ hl => ?_⟩
        obtain ⟨τ1, e1, e2⟩ := led_setCell hw hl hs
        obtain ⟨τ2, e3, e4⟩ := h2 τ1 e2.like
        exact ⟨τ2, by rw [e1]; exact e3, e2.trans e4 h1.next⟩

theorem good_append1 {lim : Nat} {elem : TypeId} {i : TypeInfo} {base : Option Addr} {sLen sCap n : Nat} {new : List Value} : Good lim (fun σ => append1 lim elem i base sLen sCap n new σ) := by
  intro σ v σ' h hw
  unfold append1 at h ⊢
  cases hle : Nat.ble (sLen + n) sCap with
  | true =>
    simp only [hle, cond_true] at h ⊢
    cases base with
    | none =>
      simp only [Option.some.injEq, Prod.mk.injEq] at h ⊢
      obtain ⟨rfl, rfl⟩ := h
      exact ⟨.refl _ _, fun τ hl => ⟨τ, ⟨rfl, rfl⟩, .refl hl⟩⟩
    | some p =>
      dsimp only at h ⊢
      cases hs : σ.setCells lim (p.add (sLen * i.size)) new 0 with
      | none => rw [hs] at h; cases h
      | some σ1 =>
        rw [hs] at h
        simp only [Option.some.injEq, Prod.mk.injEq] at h
        obtain ⟨rfl, rfl⟩ := h
        obtain ⟨h1, h2⟩ := setCells_good _ _ _ _ hs hw
        refine ⟨h1, fun τ hl => ?_⟩
        obtain ⟨τ1, e1, e2⟩ := h2 τ hl
        exact ⟨τ1, by rw [e1], e2⟩
  | false =>
    simp only [hle, cond_false] at h ⊢
    cases hcond : (Nat.ble ((sLen + n) * i.bytes) 70368744177664 && Nat.blt 0 i.bytes && i.zero.isSome && new.all oneCell && Nat.beq new.length (n * i.size)) with
    | false => simp [hcond] at h
    | true =>
      simp only [hcond, cond_true] at h ⊢
      cases base with
      | none =>
        cases hsl : Nat.beq sLen 0 with
        | false => simp [hsl] at h
        | true =>
          simp only [hsl, cond_true, Option.some.injEq, Prod.mk.injEq] at h ⊢
          obtain ⟨rfl, rfl⟩ := h
          exact ⟨kept_push _ _ _ (fun q hq => by cases hq), fun τ hl => ⟨τ.push (.cells new true (some i.size, some elem) none), ⟨by rw [hl.1], rfl⟩, led_push hl _⟩⟩
      | some p =>
        dsimp only at h ⊢
        split at h
        case h_2 => cases h
        rename_i c rw lo pv hspn hg
        have hlt := lt_of_get hw hg
        rw [hspn]
        cases hl' : Nat.ble (p.off + sLen * i.size) c.length with
        | false => simp [hl'] at h
        | true =>
        simp only [hl', cond_true] at h
        cases hex : σ.exact p sCap with
        | true =>
          simp only [hex, cond_true, Option.some.injEq, Prod.mk.injEq] at h
          obtain ⟨rfl, rfl⟩ := h
          refine ⟨kept_push _ _ _ (fun q hq => by cases hq), fun τ hl => ⟨τ.push (.cells ((c.drop p.off).take (sLen * i.size) ++ new) true (some i.size, some elem) none), ?_, led_push hl _⟩⟩
          rw [get_like hw hl hg]
          dsimp only
          rw [hl', exact_like hw hl (by rw [hg]; rfl), hex, hl.1]; rfl
        | false =>
          simp only [hex, cond_false] at h
          cases hcnd : (rw && Nat.ble lim p.block && (lo == (some i.size, some elem))) with
          | false => simp [hcnd] at h
          | true =>
            simp only [hcnd, cond_true] at h
            have hcnd' := hcnd
            simp only [Bool.and_eq_true, beq_iff_eq] at hcnd'
            have hlim : lim ≤ p.block := Nat.ble_eq ▸ hcnd'.1.2
            cases hk : σ.kill lim pv with
            | none => rw [hk] at h; cases h
            | some σ1 =>
              rw [hk] at h
              dsimp only at h
              obtain ⟨k1, k2, _⟩ := AS.kill_get hk
              have hkk := kept_kill hk
              have main : ∀ (X : Option AObj) (pv' : Option Nat) (all : List Value), (∀ y, X = some y → prevOf y = none) → (∀ q, pv' = some q → q = p.block) →
                  Kept lim σ ((σ1.put p.block X).push (.cells all true (some i.size, some elem) pv')) ∧ ∀ τ, σ.Like τ → ∃ τ1, τ.kill lim pv = some τ1 ∧ ((σ1.put p.block X).push (.cells all true (some i.size, some elem) pv')).Led τ ((τ1.put p.block X).push (.cells all true (some i.size, some elem) pv')) := by
                intro X pv' all hX hpv
                refine ⟨hkk.trans ((kept_put hlim (by omega) (fun _ y q hy hq => by rw [hX y hy] at hq; cases hq)).trans (kept_push _ _ _ (fun q hq => ?_))), fun τ hl => ?_⟩
                · have := hpv q hq
                  simp only [AS.next_put]; omega
                · obtain ⟨τ1, e1, e2⟩ := led_kill hl (fun q hq => hw.prev _ _ q hg hq) hk
                  have e3 := led_put e2.like (r := p.block) (by omega) X
                  have e4 := led_push e3.like (.cells all true (some i.size, some elem) pv')
                  exact ⟨τ1, e1, (e2.trans e3 (by simp)).trans e4 (by simp)⟩
              cases hq : Nat.beq sLen sCap with
              | true =>
                simp only [hq, cond_true, Option.some.injEq, Prod.mk.injEq] at h
                obtain ⟨rfl, rfl⟩ := h
                obtain ⟨m1, m2⟩ := main (some (.cells c false lo none)) (some p.block) ((c.drop p.off).take (sLen * i.size) ++ new) (fun y hy => by cases hy; rfl) (fun q hq => by cases hq; rfl)
                refine ⟨m1, fun τ hl => ?_⟩
                obtain ⟨τ1, e1, e2⟩ := m2 τ hl
                refine ⟨_, ?_, e2⟩
                rw [get_like hw hl hg]
                dsimp only
                rw [hl', exact_like hw hl (by rw [hg]; rfl), hex, hcnd, e1, hl.1]
                rfl
              | false =>
                simp only [hq, cond_false, Option.some.injEq, Prod.mk.injEq] at h
                obtain ⟨rfl, rfl⟩ := h
                obtain ⟨m1, m2⟩ := main none none ((c.drop p.off).take (sLen * i.size) ++ new) (fun y hy => by cases hy) (fun q hq => by cases hq)
                refine ⟨m1, fun τ hl => ?_⟩
                obtain ⟨τ1, e1, e2⟩ := m2 τ hl
                refine ⟨_, ?_, e2⟩
                rw [get_like hw hl hg]
                dsimp only
                rw [hl', exact_like hw hl (by rw [hg]; rfl), hex, hcnd, e1, hl.1]
                rfl

theorem good_append {lim : Nat} {argTypes : Array TypeId} {args : List Value} : Good lim (fun σ => appendA P lim argTypes args σ) := by
  intro σ v σ' h hw
  simp only [appendA] at h ⊢
  split at h
  case h_2 => cases h
  rename_i sType base sLen sCap x h0
  cases hd : P.underlying sType with
  | none => rw [hd] at h; cases h
  | some dd =>
  rw [hd] at h
  cases dd <;> first | cases h | skip
  rename_i elem
  dsimp only at h ⊢
  cases hi : P.info? elem with
  | none => rw [hi] at h; cases h
  | some i =>
  rw [hi] at h
  dsimp only at h ⊢
  cases hnc : newCells P lim i argTypes[1]? x σ with
  | none => rw [hnc] at h; cases h
  | some nc =>
  obtain ⟨new, n⟩ := nc
  rw [hnc] at h
  obtain ⟨h1, h2⟩ := good_append1 σ v σ' h hw
  refine ⟨h1, fun τ hl => ?_⟩
  obtain ⟨τ', e1, e2⟩ := h2 τ hl
  exact ⟨τ', by rw [newCells_like hw hl hnc]; exact e1, e2⟩

theorem good_ptrConv {lim : Nat} {src dst : TypeId} {a : Addr} : Good lim (fun σ => ptrConv P src dst a σ) := by
  intro σ v σ' h hw
  unfold ptrConv at h
  dsimp only at h
  split at h
  · rename_i x hg
    cases hb : (a.spot.isNone && ptrOk P src dst a.off x) with
    | false => rw [hb] at h; cases h
    | true =>
      rw [hb, cond_true] at h
      cases h
      refine ⟨.refl _ _, fun τ hl => ⟨τ, ?_, .refl hl⟩⟩
      show ptrConv P src dst a τ = _
      unfold ptrConv
      rw [get_like hw hl hg]
      dsimp only
      rw [hb, cond_true]
  · cases h

theorem good_conv {lim : Nat} {src dst : TypeId} {x : Value} : Good lim (fun σ => convA P lim src dst x σ) := by
  intro σ v σ' h hw
  have gen : ∀ x, (bif convOk P src dst x then runA P lim (convert src dst x) σ else none) = some (v, σ') →
      Kept lim σ σ' ∧ ∀ τ, σ.Like τ → ∃ τ', (bif convOk P src dst x then runA P lim (convert src dst x) τ else none) = some (v, τ') ∧ σ'.Led τ τ' := by
    intro x hx
    cases ho : convOk P src dst x with
    | false => rw [ho] at hx; cases hx
    | true => rw [ho] at hx; exact good_runA _ σ v σ' hx hw
  cases x
  case string s =>
    simp only [convA] at h ⊢
    split at h
    · rename_i e hd1 hd2
      split at h
      · rename_i hd3
        simp only [Option.some.injEq, Prod.mk.injEq] at h ⊢
        obtain ⟨rfl, rfl⟩ := h
        exact ⟨kept_push _ _ _ (fun q hq => by cases hq), fun τ hl => ⟨_, ⟨by rw [hl.1], rfl⟩, led_push hl _⟩⟩
      · rename_i hd3
        simp only [Option.some.injEq, Prod.mk.injEq] at h ⊢
        obtain ⟨rfl, rfl⟩ := h
        exact ⟨kept_push _ _ _ (fun q hq => by cases hq), fun τ hl => ⟨_, ⟨by rw [hl.1], rfl⟩, led_push hl _⟩⟩
      · cases h
    · exact gen _ h
  case pointer o =>
    cases o with
    | none => simp only [convA] at h ⊢; exact gen _ h
    | some a =>
      simp only [convA] at h ⊢
      exact good_ptrConv σ v σ' h hw
  all_goals (simp only [convA] at h ⊢; exact gen _ h)

theorem good_cap {lim : Nat} {argTypes : Array TypeId} {args : List Value} : Good lim (fun σ => capA P argTypes args σ) := by
  intro σ v σ' h hw
  simp only [capA] at h ⊢
  split at h
  case h_2 => cases h
  rename_i sType base l cap h0
  split at h
  case h_2 => cases h
  cases base with
  | none =>
    simp only [Option.some.injEq, Prod.mk.injEq] at h ⊢
    obtain ⟨rfl, rfl⟩ := h
    exact ⟨.refl _ _, fun τ hl => ⟨τ, ⟨rfl, rfl⟩, .refl hl⟩⟩
  | some p =>
    dsimp only at h ⊢
    cases hc : (p.spot.isNone && σ.exact p cap) with
    | false => simp [hc] at h
    | true =>
      simp only [hc, cond_true, Option.some.injEq, Prod.mk.injEq] at h
      obtain ⟨rfl, rfl⟩ := h
      refine ⟨.refl _ _, fun τ hl => ⟨τ, ?_, .refl hl⟩⟩
      simp only [Bool.and_eq_true] at hc
      have hg : (σ.get p.block).isSome = true := by
        have := hc.2
        unfold AS.exact at this
        cases hh : σ.get p.block with
        | none => rw [hh] at this; cases this
        | some x => rfl
      rw [exact_like hw hl hg, hc.1, hc.2]; rfl

/-! ## The interpreter -/

/-- A step, and then another. -/
def andThen {γ δ : Type} (r : Option (γ × AS)) (g : γ → AS → Option (δ × AS)) : Option (δ × AS) :=
  match r with
  | some (v, σ1) => g v σ1
  | none => none

theorem Good.bind {γ δ : Type} {lim : Nat} {f : AS → Option (γ × AS)} {g : γ → AS → Option (δ × AS)} (hf : Good lim f) (hg : ∀ v, Good lim (g v)) :
    Good lim (fun σ => andThen (f σ) g) := by
  intro σ v σ2 h hw
  dsimp only at h ⊢
  cases h1 : f σ with
  | none => rw [h1] at h; cases h
  | some r =>
    obtain ⟨u, σ1⟩ := r
    rw [h1] at h
    obtain ⟨k1, b1⟩ := hf σ u σ1 h1 hw
    obtain ⟨k2, b2⟩ := hg u σ1 v σ2 h (k1.wf hw)
    refine ⟨k1.trans k2, fun τ hl => ?_⟩
    obtain ⟨τ1, e1, l1⟩ := b1 τ hl
    obtain ⟨τ2, e2, l2⟩ := b2 τ1 l1.like
    exact ⟨τ2, by rw [e1]; exact e2, l1.trans l2 k2.next⟩

theorem good_none {γ : Type} {lim : Nat} : Good lim (fun _ => (none : Option (γ × AS))) := fun _ _ _ h => by cases h
theorem good_some {γ : Type} {lim : Nat} (v : γ) : Good lim (fun σ => some (v, σ)) := fun σ u σ' h _ => by
  simp only [Option.some.injEq, Prod.mk.injEq] at h ⊢
  obtain ⟨rfl, rfl⟩ := h
  exact ⟨.refl _ _, fun τ hl => ⟨τ, ⟨rfl, rfl⟩, .refl hl⟩⟩
theorem Good.ext {γ : Type} {lim : Nat} {f g : AS → Option (γ × AS)} (h : Good lim f) (e : ∀ σ, g σ = f σ) : Good lim g := by
  have : g = f := funext e
  rw [this]; exact h
theorem Good.cond {γ : Type} {lim : Nat} {b : Bool} {f g : AS → Option (γ × AS)} (hf : Good lim f) (hg : Good lim g) : Good lim (fun σ => bif b then f σ else g σ) := by
  cases b
  · exact hg
  · exact hf

/-- The replaced functions look at nothing beyond 'next', and keep what lies below 'lim'. -/
theorem good_data {lim : Nat} {args : List Value} : Good lim (fun σ => dataA args σ) := by
  unfold dataA
  split
  · exact good_some _
  · exact Good.cond (good_some _) good_none
  · exact good_none

theorem good_ustr {lim : Nat} {argTypes : Array TypeId} {args : List Value} : Good lim (fun σ => ustrA P lim argTypes args σ) := by
  unfold ustrA
  split
  case h_2 => exact good_none
  rename_i p k n
  split
  case h_2 => exact good_none
  rename_i pt hpt
  refine Good.cond (good_some _) ?_
  split
  case h_2 => exact good_none
  rename_i e a _
  intro σ v σ' h hw
  dsimp only at h
  split at h
  case h_2 => cases h
  rename_i c lo pv hsp hg
  cases hb : (lo.2 == some e && Nat.beq (P.cellsOf e) 1 && decide (0 ≤ n) && Nat.ble (a.off + n.toNat) c.length && Nat.ble n.toNat 1099511627776 && Nat.ble lim a.block) with
  | false => rw [hb] at h; cases h
  | true =>
    rw [hb, cond_true] at h
    have hb' := hb
    simp only [Bool.and_eq_true] at hb'
    have hlb : lim ≤ a.block := Nat.ble_eq ▸ hb'.2
    split at h
    case h_2 => cases h
    rename_i s σ1 hs hk
    cases h
    have hlt := lt_of_get hw hg
    have hpv : ∀ q, pv = some q → q < σ.next := fun q hq => hw.prev _ _ q hg (by rw [hq]; rfl)
    have k1 := kept_kill hk
    refine ⟨k1.trans (kept_put hlb (by rw [(AS.kill_get hk).1]; exact hlt) (fun _ y q hy hq => by cases hy; cases hq)), fun τ hl => ?_⟩
    have hgτ : τ.get a.block = some (.cells c true lo pv) := get_like hw hl hg
    obtain ⟨n1, g1, q1⟩ := AS.kill_get hk
    have hkτ : ∃ τ1, τ.kill lim pv = some τ1 := by
      cases pv with
      | none => exact ⟨τ, rfl⟩
      | some q =>
        have hle : Nat.ble lim q = true := by
          cases hlq : Nat.ble lim q with
          | true => rfl
          | false => simp [AS.kill, hlq] at hk
        exact ⟨τ.put q none, by simp [AS.kill, hle]⟩
    obtain ⟨τ1, hkτ⟩ := hkτ
    obtain ⟨n2, g2, _⟩ := AS.kill_get hkτ
    refine ⟨τ1.put a.block (some (.cells c false lo none)), ?_, ⟨?_, fun id hid => ?_, fun id hid => ?_⟩⟩
    · dsimp only
      rw [hsp, hgτ]
      dsimp only
      rw [hb, cond_true, hs, hkτ]
    · simp only [AS.next_put]; rw [n2, n1, hl.1]
    · simp only [AS.next_put] at hid
      rw [AS.get_put, AS.get_put, g2, g1]
      split
      · rfl
      · split
        · rfl
        · exact hl.2 _ (by omega)
    · simp only [AS.next_put] at hid
      rw [AS.get_put, g2, if_neg (by omega), if_neg (fun hq => by have := hpv _ hq; omega)]

def OvGood (E : Env) : Prop := ∀ f args lim, Good lim (fun σ => E.ov f args lim σ)
def RecGood (rec : Rec) : Prop := ∀ lim k, Good lim (fun σ => rec lim k σ)

theorem Good.map {γ δ : Type} {lim : Nat} {f : AS → Option (γ × AS)} (hf : Good lim f) (g : γ → AS → Option (δ × AS)) (hg : ∀ v, Good lim (g v)) {h : AS → Option (δ × AS)}
    (e : ∀ σ, h σ = andThen (f σ) g) : Good lim h := (hf.bind hg).ext e

/-- A step that writes nothing of what was there, is good for every bound. -/
theorem Good.quiet {γ : Type} {lim : Nat} {f : Nat → AS → Option (γ × AS)} (h : ∀ l, Good l (f l)) (q : Bool) : Good lim (fun σ => f (bif q then σ.next else lim) σ) := by
  cases q
  · exact h lim
  · intro σ v σ' hr hw
    obtain ⟨k, b⟩ := h σ.next σ v σ' hr hw
    refine ⟨k.any, fun τ hl => ?_⟩
    obtain ⟨τ', e, l⟩ := b τ hl
    exact ⟨τ', by show f τ.next τ = _; rw [hl.1]; exact e, l⟩

section
variable {E : Env} {rec : Rec} (hE : OvGood E) (hr : RecGood rec)

include hr in
theorem good_recVal {lim : Nat} {k : Task} : Good lim (fun σ => match rec lim k σ with | some (.val v, σ') => some (v, σ') | _ => none) := by
  refine (hr lim k).map (fun o σ1 => match o with | .val v => some (v, σ1) | _ => none) (fun o => by cases o <;> first | exact good_some _ | exact good_none) fun σ => ?_
  rcases h : rec lim k σ with _ | ⟨o, σ1⟩
  · rfl
  · cases o <;> rfl

include hE hr
theorem good_enter {lim : Nat} {f : FuncId} {args : List Value} : Good lim (fun σ => enterA P E rec lim f args σ) := by
  unfold enterA
  exact (hE f args lim).cond (good_recVal hr)

theorem good_apply {lim : Nat} {f : Value} {args : List Value} : Good lim (fun σ => applyA P E rec lim f args σ) := by
  unfold applyA
  split
  · exact good_enter hE hr
  · rename_i l first captured
    refine (good_runA (P := P) (lim := lim) (Instr.yield l (first ++ args.toArray))).map (fun e σ1 => match e with | .round l f t assign body => (match rec lim (.round l f t.toList assign body) σ1 with | some (.val v, σ') => some (v, σ') | _ => none) | _ => none) (fun e => ?_) fun σ => ?_
    · cases e <;> first | exact good_recVal hr | exact good_none
    · rcases h : runA P lim (Instr.yield l (first ++ args.toArray)) σ with _ | ⟨o, σ1⟩
      · rfl
      · cases o <;> rfl
  · exact good_none

theorem good_oper {lim : Nat} {o : Oper} {t : List Value} : Good lim (fun σ => operA P E rec lim o t σ) := by
  have nx : ∀ (s : Sem Next) , Good lim (fun σ => nextVal (runA P lim s σ)) := fun s => by
    refine (good_runA (P := P) (lim := lim) s).map (fun n σ1 => match n with | .value v => some (v, σ1) | _ => none) (fun n => ?_) fun σ => ?_
    · cases n <;> first | exact good_some _ | exact good_none
    · rcases h : runA P lim s σ with _ | ⟨n, σ1⟩
      · rfl
      · cases n <;> rfl
  have nx2 : ∀ (s : Sem Next) , Good lim (fun σ => nextAny (runA P lim s σ)) := fun s => by
    refine (good_runA (P := P) (lim := lim) s).map (fun n σ1 => match n with | .value v => some (v, σ1) | .skip => some (undef, σ1) | _ => none) (fun n => ?_) fun σ => ?_
    · cases n <;> first | exact good_some _ | exact good_none
    · rcases h : runA P lim s σ with _ | ⟨n, σ1⟩
      · rfl
      · cases n <;> rfl
  unfold operA
  split
  · exact good_slice
  · exact good_conv
  · exact (good_runA _).cond good_none
  · exact (good_some _).cond good_none
  · exact (good_runA _).cond good_none
  · exact (good_runA _).cond good_none
  · split
    · exact good_append
    · exact good_cap
    · exact good_data
    · exact good_ustr
    · exact (nx _).cond good_none
    · exact good_apply hE hr
    · exact good_none
  · exact (nx2 _).cond good_none

theorem good_ops {lim : Nat} {ops : Array Oper} {q : Bool} : ∀ (l : List Oper) (t : List Value), Good lim (fun σ => opsA P E rec ops q lim l t σ)
  | [], t => good_some t
  | o :: rest, t => by
    unfold opsA
    refine Good.cond ?_ (good_ops rest _)
    refine (Good.quiet (f := fun l σ => operA P E rec l o t σ) (fun _ => good_oper hE hr) q).map (fun v σ1 => opsA P E rec ops q lim rest (putT t o.dst v) σ1) (fun v => good_ops rest (putT t o.dst v)) fun σ => ?_
    rcases operA P E rec (bif q then σ.next else lim) o t σ with _ | ⟨v, σ1⟩ <;> rfl

theorem good_op1 {lim : Nat} {ops : Array Oper} {q : Bool} {o : Oper} {t : List Value} : Good lim (fun σ => op1 P E rec ops q lim o t σ) := by
  unfold op1
  exact Good.cond (Good.quiet (f := fun l σ => operA P E rec l o t σ) (fun _ => good_oper hE hr) q) (good_some _)

theorem good_opsI {lim : Nat} {ops : Array Oper} : ∀ (l : List (Nat × Bool)) (t : List Value), Good lim (fun σ => opsI P E rec ops lim l t σ)
  | [], t => good_some t
  | x :: l, t => by
    unfold opsI
    cases ops[x.1]? with
    | none => exact good_none
    | some o =>
      refine (good_op1 (P := P) (lim := lim) hE hr (q := x.2) (ops := ops) (o := o) (t := t)).map (fun v σ1 => opsI P E rec ops lim l (putT t o.dst v) σ1) (fun v => good_opsI l _) fun σ => ?_
      dsimp only
      rcases op1 P E rec ops x.2 lim o t σ with _ | ⟨v, σ1⟩ <;> rfl

omit hE hr in
theorem good_take {lim : Nat} : ∀ ds, Good lim (fun σ => (takeA P lim ds σ).map fun σ' => ((), σ'))
  | [] => good_some ()
  | d :: ds => by
    refine (good_runA (P := P) (lim := lim) (Instr.takeDeferred d)).map (fun c σ1 => match c with | [] => (takeA P lim ds σ1).map fun σ' => ((), σ') | _ => none) (fun c => ?_) fun σ => ?_
    · cases c
      · exact good_take ds
      · exact good_none
    · simp only [takeA]
      rcases h : runA P lim (Instr.takeDeferred d) σ with _ | ⟨o, σ1⟩
      · rfl
      · cases o <;> rfl

omit hE in
theorem good_then {lim : Nat} {f : AS → Option (Out × AS)} (hf : Good lim f) (g : Out → Option Task) (k : Out → Out) {h : AS → Option (Out × AS)}
    (e : ∀ σ, h σ = andThen (f σ) fun v σ1 => (g v).elim (some (k v, σ1)) fun T => rec lim T σ1) : Good lim h := by
  refine hf.map _ (fun v => ?_) e
  cases g v
  · exact good_some _
  · exact hr _ _

theorem good_step {lim : Nat} (k : Task) : Good lim (fun σ => stepA P E rec lim k σ) := by
  cases k with
  | code x c t ds =>
    cases c with
    | skip => exact good_some _
    | label => exact good_some _
    | exit id => exact good_some _
    | goto l => exact good_some _
    | ret => exact good_some _
    | refuse m => exact good_none
    | scope body => exact hr _ _
    | region id ops draw =>
      simp only [stepA]
      refine Good.cond ?_ ?_
      · split
        · rename_i pl _
          refine (good_opsI (P := P) (lim := lim) hE hr (ops := ops) pl.l t).map (fun t1 σ1 => some (.done .normal t1 ds, σ1)) (fun t1 => good_some _) fun σ => ?_
          rcases opsI P E rec ops lim pl.l t σ with _ | ⟨t1, σ1⟩ <;> rfl
        · exact good_none
      · refine (good_ops (P := P) (lim := lim) hE hr (q := false) (ops := ops) ops.toList t).map (fun t1 σ1 => some (.done .normal t1 ds, σ1)) (fun t1 => good_some _) fun σ => ?_
        rcases opsA P E rec ops false lim ops.toList t σ with _ | ⟨t1, σ1⟩ <;> rfl
    | seq a b =>
      simp only [stepA]
      refine good_then hr (hr lim (.code x a t ds)) (fun | .done .normal t1 ds1 => some (.code x b t1 ds1) | _ => none) id fun σ => ?_
      rcases rec lim (.code x a t ds) σ with _ | ⟨o, σ1⟩
      · rfl
      · rcases o with ⟨e, t1, ds1⟩ | v
        · cases e <;> rfl
        · rfl
    | cond c a b =>
      simp only [stepA]
      split
      · exact hr _ _
      · exact good_none
    | block id body =>
      simp only [stepA]
      refine good_then hr (hr lim (.code x body t ds)) (fun _ => none) (fun | .done (.exit id') t1 ds1 => .done (bif Nat.beq id' id then .normal else .exit id') t1 ds1 | o => o) fun σ => ?_
      rcases rec lim (.code x body t ds) σ with _ | ⟨o, σ1⟩
      · rfl
      · rcases o with ⟨e, t1, ds1⟩ | v
        · cases e <;> rfl
        · rfl
    | loop body =>
      simp only [stepA]
      refine good_then hr (hr lim (.code x body t ds)) (fun | .done .normal t1 ds1 => some (.code x (.loop body) t1 ds1) | _ => none) id fun σ => ?_
      rcases rec lim (.code x body t ds) σ with _ | ⟨o, σ1⟩
      · rfl
      · rcases o with ⟨e, t1, ds1⟩ | v
        · cases e <;> rfl
        · rfl
    | rangeFunc f params assign body =>
      simp only [stepA]
      unfold rangeA
      have main : ∀ l m, Good lim (fun τ => andThen (applyA P E rec lim (ev t f) [.func (.yield l) #[] #[]] τ) fun _ σ2 => rangeEnd P lim t (m ++ ds) l σ2) := by
        intro l m
        refine (good_apply hE hr).bind fun _ => ?_
        refine (good_runA (P := P) (lim := lim) (Instr.endLoop l)).map (fun c σ3 => match c with
          | none => some (.done .normal t (m ++ ds), σ3)
          | some .ret => some (.done .ret t (m ++ ds), σ3)
          | some (.exit id) => some (.done (.exit id) t (m ++ ds), σ3)
          | some (.goto g) => some (.done (.goto g) t (m ++ ds), σ3)
          | _ => none) (fun c => ?_) fun τ => ?_
        · rcases c with _ | c
          · exact good_some _
          · cases c <;> first | exact good_some _ | exact good_none
        · unfold rangeEnd
          rcases runA P lim (Instr.endLoop l) τ with _ | ⟨c, σ3⟩
          · rfl
          · rcases c with _ | c
            · rfl
            · cases c <;> rfl
      refine (good_runA (P := P) (lim := lim) (Instr.enterLoop x.fn t.toArray params assign body x.round)).map (fun lm τ => match markIds lm.2 with
        | some m => andThen (applyA P E rec lim (ev t f) [.func (.yield lm.1) #[] #[]] τ) fun _ σ2 => rangeEnd P lim t (m ++ ds) lm.1 σ2
        | none => none) (fun lm => ?_) fun τ => ?_
      · obtain ⟨l, mark⟩ := lm
        dsimp only
        rcases markIds mark with _ | m
        · exact good_none
        · exact main l m
      · rcases runA P lim (Instr.enterLoop x.fn t.toArray params assign body x.round) τ with _ | ⟨⟨l, mark⟩, σ1⟩
        · rfl
        · simp only [andThen]
          rcases markIds mark with _ | m
          · rfl
          · dsimp only
            rcases applyA P E rec lim (ev t f) [.func (.yield l) #[] #[]] σ1 with _ | ⟨_, _⟩ <;> rfl
  | scope x body cur t ds =>
    simp only [stepA]
    refine good_then hr (hr lim (.code x cur t ds)) (fun | .done (.goto l) t1 ds1 => (findLabel body l).map fun rest => .scope x body rest t1 ds1 | _ => none) id fun σ => ?_
    rcases rec lim (.code x cur t ds) σ with _ | ⟨o, σ1⟩
    · rfl
    · rcases o with ⟨e, t1, ds1⟩ | v
      · cases e with
        | goto l => simp only [andThen]; cases findLabel body l <;> rfl
        | _ => rfl
      · rfl
  | call f args =>
    simp only [stepA]
    refine Good.cond ?_ good_none
    split
    · split
      · rename_i fn _ _ c _
        refine (hr lim (.code ⟨f, none⟩ c (args ++ List.replicate (fn.ntmps - args.length) undef) [])).map (fun o σ1 => match o with
          | .done e t1 ds1 => (match e with
            | .normal | .ret => andThen ((takeA P lim ds1 σ1).map fun σ' => ((), σ')) fun _ σ2 => andThen (runA P lim (results fn t1.toArray) σ2) fun v σ3 => some (.val v, σ3)
            | _ => none)
          | _ => none) (fun o => ?_) fun σ => ?_
        · rcases o with ⟨e, t1, ds1⟩ | v
          · cases e
            case normal => exact (good_take ds1).bind fun _ => (good_runA _).bind fun _ => good_some _
            case ret => exact (good_take ds1).bind fun _ => (good_runA _).bind fun _ => good_some _
            all_goals exact good_none
          · exact good_none
        · rcases rec lim (.code ⟨f, none⟩ c (args ++ List.replicate (fn.ntmps - args.length) undef) []) σ with _ | ⟨o, σ1⟩
          · rfl
          · rcases o with ⟨e, t1, ds1⟩ | v
            · cases e <;> first | rfl | (simp only [andThen]; rcases takeA P lim ds1 σ1 with _ | σ2 <;> first | rfl | (simp only [Option.map]; rcases runA P lim (results fn t1.toArray) σ2 with _ | ⟨_, _⟩ <;> rfl))
            · rfl
      · exact good_none
    · exact good_none
  | round l f t assign body =>
    simp only [stepA]
    refine (hr lim (.code ⟨f, some l⟩ assign t [])).map (fun o σ1 => match o with
      | .done .normal t1 [] => andThen (runA P lim (Instr.beginRound l) σ1) fun _ σ2 => andThen (rec lim (.code ⟨f, some l⟩ body t1 []) σ2) fun o σ3 => (match o with
            | .done e _ [] => andThen (runA P lim (Instr.endRound l (match e with | .normal => none | .ret => some .ret | .exit id => some (.exit id) | .goto g => some (.goto g))) σ3) fun v σ4 => some (.val v, σ4)
            | _ => none)
      | _ => none) (fun o => ?_) fun σ => ?_
    · rcases o with ⟨e, t1, ds1⟩ | v
      · cases e with
        | normal =>
          cases ds1 with
          | nil =>
            refine (good_runA _).bind fun _ => (hr _ _).bind fun o => ?_
            rcases o with ⟨e, t2, ds2⟩ | v
            · cases ds2 with
              | nil => exact (good_runA _).bind fun _ => good_some _
              | cons _ _ => exact good_none
            · exact good_none
          | cons _ _ => exact good_none
        | _ => exact good_none
      · exact good_none
    · rcases rec lim (.code ⟨f, some l⟩ assign t []) σ with _ | ⟨o, σ1⟩
      · rfl
      · rcases o with ⟨e, t1, ds1⟩ | v
        · cases e with
          | normal =>
            cases ds1 with
            | nil =>
              simp only [andThen]
              rcases runA P lim (Instr.beginRound l) σ1 with _ | ⟨u, σ2⟩
              · rfl
              · dsimp only
                rcases rec lim (.code ⟨f, some l⟩ body t1 []) σ2 with _ | ⟨o, σ3⟩
                · rfl
                · rcases o with ⟨e, t2, ds2⟩ | v
                  · cases ds2 with
                    | nil =>
                      dsimp only
                      rcases runA P lim (Instr.endRound l _) σ3 with _ | ⟨_, _⟩ <;> rfl
                    | cons _ _ => rfl
                  · rfl
            | cons _ _ => rfl
          | _ => rfl
        · rfl
end

theorem good_run {E : Env} (hE : OvGood E) : ∀ n, RecGood (run P E n)
  | 0 => fun _ _ => good_none
  | n + 1 => fun _ k => good_step hE (good_run hE n) k

end Go.Va

/-
  SIMULATION: the loops over functions, the deferred calls of them; cap.
-/
namespace Go.Va
open Go.RowKit
variable {P : Program} {K : FuncId → Code → Prop} {W0 : World} {N0 : Nat}

def lpRel (K : FuncId → Code → Prop) (β : Inj) (r r' : Loop) : Prop := oRel β (.loop r) (.loop r') ∧ K r.fn r.assign ∧ K r.fn r.body

theorem sim_getLoop {β : Inj} {l : Nat} {e : Ent} (he : β l = some e) : Sim P K W0 N0 β (Instr.getLoop l) (Instr.getLoop e.b) (fun β' r r' => β' = β ∧ lpRel K β r r') := by
  unfold Instr.getLoop
  refine Sim.getObj_bind he fun o o' ho hL => ?_
  cases ho with
  | loop h1 h2 h3 h4 h5 h6 ht hd h0 he' =>
    have := hL _ rfl
    exact .ret ⟨rfl, .loop h1 h2 h3 h4 h5 h6 ht hd h0 he', this⟩
  | _ => exact Sim.stuck

/-- The marks of a frame for the deferred calls of its loops over functions. -/
def dRel (β : Inj) : List Nat → List Deferred → Prop
  | [], [] => True
  | i :: l, d :: m => (∃ e a, β i = some e ∧ e.o = 0 ∧ d = { target := .collected e.b, args := a }) ∧ dRel β l m
  | _, _ => False

theorem dRel.mono {β β' : Inj} (hb : β.le β') : ∀ {l : List Nat} {m : List Deferred}, dRel β l m → dRel β' l m
  | [], [], _ => trivial
  | _ :: _, _ :: _, h => by
    obtain ⟨⟨e, a, h1, h2⟩, h3⟩ := h
    exact ⟨⟨e, a, hb _ _ h1, h2⟩, dRel.mono hb h3⟩
  | [], _ :: _, h => h.elim
  | _ :: _, [], h => h.elim
theorem dRel.append {β : Inj} : ∀ {l l2 : List Nat} {m m2 : List Deferred}, dRel β l m → dRel β l2 m2 → dRel β (l ++ l2) (m ++ m2)
  | [], _, [], _, _, h => h
  | _ :: _, _, _ :: _, _, h, k => ⟨h.1, dRel.append h.2 k⟩
  | [], _, _ :: _, _, h, _ => h.elim
  | _ :: _, _, [], _, h, _ => h.elim

def rdRel (β : Inj) : Option Nat → Option Nat → Prop
  | none, none => True
  | some l, some l' => ∃ e, β l = some e ∧ e.o = 0 ∧ l' = e.b
  | _, _ => False
theorem rdRel.mono {β β' : Inj} (hb : β.le β') {a a' : Option Nat} (h : rdRel β a a') : rdRel β' a a' := by
  cases a <;> cases a' <;> first | exact h | skip
  obtain ⟨e, h1, h2⟩ := h
  exact ⟨e, hb _ _ h1, h2⟩

def enRel (β : Inj) (r r' : Nat × List Deferred) : Prop := ∃ e, β r.1 = some e ∧ e.o = 0 ∧ r'.1 = e.b ∧ ∀ m, markIds r.2 = some m → dRel β m r'.2

theorem sim_enterLoop {β : Inj} {fn : FuncId} {t t' : Array Value} (ht : arrRel β t t') {params : Array Tmp} {assign body : Code} (hK1 : K fn assign) (hK2 : K fn body) {a a' : Option Nat} (ha : rdRel β a a') :
    Sim P K W0 N0 β (Instr.enterLoop fn t params assign body a) (Instr.enterLoop fn t' params assign body a') enRel := by
  unfold Instr.enterLoop
  have fin : ∀ (β1 : Inj) (d : Nat) (ed : Ent) (mk mk' : List Deferred), β.le β1 → β1 d = some ed → ed.o = 0 → (∀ m, markIds mk = some m → dRel β1 m mk') →
      Sim P K W0 N0 β1 (do pure (← newObj (.loop { state := .ready, pending := none, fn, tmps := t, params, assign, body, defers := d }), mk)) (do pure (← newObj (.loop { state := .ready, pending := none, fn, tmps := t', params, assign, body, defers := ed.b }), mk')) enRel := by
    intro β1 d ed mk mk' hb hd h0 hm
    refine Sim.newObj_bind (.loop rfl rfl rfl rfl rfl rfl (ht.mono hb) hd h0 rfl) (fun r hr => by cases hr; exact ⟨hK1, hK2⟩) fun β2 r e hb2 he h1 _ => ?_
    exact .ret ⟨e, he, h1, rfl, fun m h => (hm m h).mono hb2⟩
  cases a with
  | none =>
    cases a' with
    | some _ => exact ha.elim
    | none =>
      simp only [pure_bind]
      refine Sim.newObj_bind .def1 (fun r hr => by cases hr) fun β1 r e hb he h0 _ => ?_
      refine fin β1 r e _ _ hb he h0 fun m hm => ?_
      simp only [markIds, Option.some.injEq] at hm
      subst hm
      exact ⟨⟨e, _, he, h0, rfl⟩, trivial⟩
  | some l =>
    cases a' with
    | none => exact ha.elim
    | some l' =>
      obtain ⟨e, he, h0, rfl⟩ := ha
      simp only [pure_bind]
      refine Sim.bind0 (sim_getLoop he) fun r r' hr => ?_
      obtain ⟨hr, _⟩ := hr
      cases hr with
      | loop h1 h2 h3 h4 h5 h6 ht' hd h0' he' =>
        rw [he']
        refine fin β _ _ _ _ (.refl _) hd h0' fun m hm => ?_
        simp only [markIds, Option.some.injEq] at hm
        subst hm
        trivial

theorem fold_rel {β : Inj} : ∀ (ps : List Tmp) {as as' : List Value} {t t' : Array Value}, lRel β as as' → arrRel β t t' →
    arrRel β ((ps.zip as).foldl (fun tmps (x : Tmp × Value) => tmps.setIfInBounds x.1 x.2) t) ((ps.zip as').foldl (fun tmps (x : Tmp × Value) => tmps.setIfInBounds x.1 x.2) t')
  | [], _, _, _, _, _, ht => by simpa using ht
  | p :: ps, [], [], _, _, _, ht => by simpa using ht
  | p :: ps, a :: as, a' :: as', t, t', h, ht => by
    simp only [List.zip_cons_cons, List.foldl_cons]
    refine fold_rel ps h.2 (arrRel_iff.2 ?_)
    simp only [Array.toList_setIfInBounds]
    exact lRel.set h.1 _ (arrRel_iff.1 ht)
  | p :: ps, [], _ :: _, _, _, h, _ => h.elim
  | p :: ps, _ :: _, [], _, _, h, _ => h.elim

/-- A round is begun. -/
def ynRel (K : FuncId → Code → Prop) (β : Inj) (n n' : Next) : Prop :=
  ∃ l e fn t t' a b, n = .round l fn t a b ∧ n' = .round e.b fn t' a b ∧ β l = some e ∧ e.o = 0 ∧ arrRel β t t' ∧ K fn a ∧ K fn b

theorem sim_yield {β : Inj} {l : Nat} {e : Ent} (he : β l = some e) (h0 : e.o = 0) {as as' : Array Value} (ha : arrRel β as as') :
    Sim P K W0 N0 β (Instr.yield l as) (Instr.yield e.b as') (ynRel K) := by
  unfold Instr.yield
  refine Sim.bind0 (sim_getLoop he) fun r r' hr => ?_
  obtain ⟨hr, hk⟩ := hr
  cases hr with
  | loop h1 h2 h3 h4 h5 h6 ht' hd h0' he' =>
    rw [← ha.1, h4]
    by_cases hs : as.size ≠ r.params.size
    · rw [if_pos hs, if_pos hs]
      exact Sim.stuck
    · rw [if_neg hs, if_neg hs]
      dsimp only
      have hh := fold_rel r.params.toList (arrRel_iff.1 ha) ht'
      rw [← Array.toList_zip, ← Array.toList_zip, Array.foldl_toList, Array.foldl_toList] at hh
      rw [h3, h5, h6]
      exact .ret ⟨l, e, r.fn, _, _, r.assign, r.body, rfl, rfl, he, h0, hh, hk.1, hk.2⟩

theorem sim_beginRound {β : Inj} {l : Nat} {e : Ent} (he : β l = some e) : Sim P K W0 N0 β (Instr.beginRound l) (Instr.beginRound e.b) (fun β' _ _ => β' = β) := by
  unfold Instr.beginRound
  refine Sim.bind0 (sim_getLoop he) fun r r' hr => ?_
  obtain ⟨hr, hk⟩ := hr
  cases hr with
  | loop h1 h2 h3 h4 h5 h6 ht' hd h0' he' =>
    refine Sim.setObj_bind he (.loop rfl h2 h3 h4 h5 h6 ht' hd h0' he') (fun q hq => by cases hq; exact hk) ?_
    rw [h1]
    cases r.state
    · exact .ret rfl
    all_goals exact Sim.runtimePanic

theorem sim_endRound {β : Inj} {l : Nat} {e : Ent} (he : β l = some e) (j : Option Code) : Sim P K W0 N0 β (Instr.endRound l j) (Instr.endRound e.b j) (fun β' v v' => β' = β ∧ vRel β v v') := by
  unfold Instr.endRound
  refine Sim.bind0 (sim_getLoop he) fun r r' hr => ?_
  obtain ⟨hr, hk⟩ := hr
  cases hr with
  | loop h1 h2 h3 h4 h5 h6 ht' hd h0' he' =>
    refine Sim.setObj_bind he (.loop rfl rfl h3 h4 h5 h6 ht' hd h0' he') (fun q hq => by cases hq; exact hk) ?_
    exact .ret ⟨rfl, .bool _⟩

theorem sim_endLoop {β : Inj} {l : Nat} {e : Ent} (he : β l = some e) : Sim P K W0 N0 β (Instr.endLoop l) (Instr.endLoop e.b) (fun β' v v' => β' = β ∧ v' = v) := by
  unfold Instr.endLoop
  refine Sim.bind0 (sim_getLoop he) fun r r' hr => ?_
  obtain ⟨hr, hk⟩ := hr
  cases hr with
  | loop h1 h2 h3 h4 h5 h6 ht' hd h0' he' =>
    rw [h1]
    cases hb : (r.state == LoopState.busy) with
    | true => simp only [if_true]; exact Never.sim (Never.bind (never_runtimePanic _))
    | false =>
      simp only [Bool.false_eq_true, if_false]
      refine Sim.setObj_bind he (.loop rfl h2 h3 h4 h5 h6 ht' hd h0' he') (fun q hq => by cases hq; exact hk) ?_
      exact .ret ⟨rfl, h2⟩

theorem sim_takeDeferred {β : Inj} {l : Nat} {e : Ent} (he : β l = some e) : Sim P K W0 N0 β (Instr.takeDeferred l) (Instr.takeDeferred e.b) (fun β' v v' => β' = β ∧ v' = v) := by
  unfold Instr.takeDeferred
  refine Sim.getObj_bind he fun o o' ho hL => ?_
  cases ho with
  | def1 =>
    refine Sim.setObj_bind he .def0 (fun q hq => by cases hq) ?_
    exact .ret ⟨rfl, rfl⟩
  | _ => exact Sim.stuck

theorem sim2_cap {β : Inj} {_lim : Nat} {argTypes : Array TypeId} {ty : TypeId} {args : List Value} {args' : Array Value} (ha : lRel β args args'.toList) :
    Sim2 P K W0 N0 β (fun σ => capA P argTypes args σ) (Builtin.cap_ argTypes ty args') := by
  intro σ w v σ' hw hR hr hf
  simp only [capA] at hr
  split at hr
  case h_2 => cases hr
  rename_i sType base l cap h0
  have e0 : args'.toList.length = 1 := by rw [← ha.length]; rfl
  obtain ⟨x', hx'⟩ : ∃ x', args'.toList = [x'] := by
    cases h : args'.toList with
    | nil => rw [h] at e0; simp at e0
    | cons a r => cases r with
      | nil => exact ⟨a, rfl⟩
      | cons b r => rw [h] at e0; simp at e0
  have ea : args'[0]? = some x' := by rw [← Array.getElem?_toList, hx']; rfl
  rw [hx'] at ha
  have hv : vRel β (.slice base l cap) x' := ha.1
  split at hr
  case h_2 => cases hr
  rename_i elem hd
  have run : ∀ c b', x' = .slice b' l c → (Builtin.cap_ argTypes ty args').run P w = .ok (goInt c) w := by
    intro c b' hx
    unfold Builtin.cap_
    rw [h0, ea, hx]
    dsimp only
    rw [run_bind', run_underlying' _ w _ hd]
    rfl
  cases base with
  | none =>
    simp only [Option.some.injEq, Prod.mk.injEq] at hr
    obtain ⟨rfl, rfl⟩ := hr
    cases hv
    exact ⟨_, w, β, run _ _ rfl, .refl _ _, hR, .int _ _⟩
  | some p =>
    dsimp only at hr
    cases hc : (p.spot.isNone && σ.exact p cap) with
    | false => simp [hc] at hr
    | true =>
      simp only [hc, cond_true, Option.some.injEq, Prod.mk.injEq] at hr
      obtain ⟨rfl, rfl⟩ := hr
      simp only [Bool.and_eq_true] at hc
      cases hv with
      | slice _ h hcap =>
        have := exact_cap hR hcap hc.2
        exact ⟨_, w, β, run _ _ rfl, .refl _ _, hR, by rw [this]; exact .int _ _⟩
      | void a' c' h => rw [Option.isNone_iff_eq_none] at hc; rw [hc.1] at h; cases h

end Go.Va

/-
  THE MACHINE: the steps of a frame, which may be that of a round of a loop over a function; what it is that a call lands.
-/
namespace Go.Va
variable {P : Program}

/-- A frame that runs. -/
def Fr (b : Frame) (t : Array Value) (d : List Deferred) (k : List Item) : Frame := { b with tmps := t, defers := d, todo := k, mode := .run }

def evA (t : Array Value) : Operand → Value
  | .tmp i => t.getD i undef
  | .const v => v
  | .global g => .pointer (some ⟨g, 0, none⟩)
  | .func f => .func (.func f) #[] #[]

def putA (t : Array Value) (dst : Option Tmp) (v : Value) : Array Value :=
  match dst with
  | some d => t.setIfInBounds d v
  | none => t

theorem Fr_eval (b : Frame) (t : Array Value) (d : List Deferred) (k : List Item) : (Fr b t d k).eval = evA t := funext fun x => by cases x <;> rfl

theorem Fr_finish (b : Frame) (t : Array Value) (d : List Deferred) (ops : Array Oper) (i : Nat) (rest : List Nat) (k : List Item) (v : Value) :
    (Fr b t d (.inRegion ops (i :: rest) :: k)).finish v = Fr b (putA t ((ops[i]?).bind (·.dst)) v) d (.inRegion ops rest :: k) := by
  cases h : (ops[i]?).bind (·.dst) <;> simp [Frame.finish, Fr, putA, h]

section moves
variable {b : Frame} {t : Array Value} {d : List Deferred} {k : List Item} {cs : List Frame} {w : World}

theorem st_skip : step P (lone (Fr b t d (.code .skip :: k)) cs w) = .next (lone (Fr b t d k) cs w) := step_lone_go (by simp [stepG, stepG.exec, Fr])
theorem st_label {l : Nat} : step P (lone (Fr b t d (.code (.label l) :: k)) cs w) = .next (lone (Fr b t d k) cs w) := step_lone_go (by simp [stepG, stepG.exec, Fr])
theorem st_inBlock {l : Nat} : step P (lone (Fr b t d (.inBlock l :: k)) cs w) = .next (lone (Fr b t d k) cs w) := step_lone_go (by simp [stepG, stepG.exec, Fr])
theorem st_inScope {l : Code} : step P (lone (Fr b t d (.inScope l :: k)) cs w) = .next (lone (Fr b t d k) cs w) := step_lone_go (by simp [stepG, stepG.exec, Fr])
theorem st_seq {x y : Code} : step P (lone (Fr b t d (.code (.seq x y) :: k)) cs w) = .next (lone (Fr b t d (.code x :: .code y :: k)) cs w) := step_lone_go (by simp [stepG, stepG.exec, Fr])
theorem st_cond {c : Operand} {x y : Code} {v : Bool} (h : evA t c = .bool v) :
    step P (lone (Fr b t d (.code (.cond c x y) :: k)) cs w) = .next (lone (Fr b t d (.code (bif v then x else y) :: k)) cs w) :=
  step_lone_go (by
    have := congrFun (Fr_eval b t d (.code (.cond c x y) :: k)) c
    simp only [Fr] at this
    simp [stepG, stepG.exec, Fr, this, h])
theorem st_block {id : Nat} {c : Code} : step P (lone (Fr b t d (.code (.block id c) :: k)) cs w) = .next (lone (Fr b t d (.code c :: .inBlock id :: k)) cs w) := step_lone_go (by simp [stepG, stepG.exec, Fr])
theorem st_loop {c : Code} : step P (lone (Fr b t d (.code (.loop c) :: k)) cs w) = .next (lone (Fr b t d (.code c :: .inLoop c :: k)) cs w) := step_lone_go (by simp [stepG, stepG.exec, Fr])
theorem st_inLoop {c : Code} : step P (lone (Fr b t d (.inLoop c :: k)) cs w) = .next (lone (Fr b t d (.code c :: .inLoop c :: k)) cs w) := step_lone_go (by simp [stepG, stepG.exec, Fr])
theorem st_scope {c : Code} : step P (lone (Fr b t d (.code (.scope c) :: k)) cs w) = .next (lone (Fr b t d (.code c :: .inScope c :: k)) cs w) := step_lone_go (by simp [stepG, stepG.exec, Fr])
theorem st_exit {id : Nat} {k' : List Item} (h : exitTo id k = some k') : step P (lone (Fr b t d (.code (.exit id) :: k)) cs w) = .next (lone (Fr b t d k') cs w) :=
  step_lone_go (by simp [stepG, stepG.exec, Fr, h])
theorem st_goto {l : Nat} {k' : List Item} (h : gotoIn l k = some k') : step P (lone (Fr b t d (.code (.goto l) :: k)) cs w) = .next (lone (Fr b t d k') cs w) :=
  step_lone_go (by simp [stepG, stepG.exec, Fr, h])
theorem st_region {id : Nat} {ops : Array Oper} : step P (lone (Fr b t d (.code (.region id ops false) :: k)) cs w) = .next (lone (Fr b t d (.inRegion ops (List.range ops.size) :: k)) cs w) :=
  step_lone_go (by simp [stepG, stepG.exec, Fr])
theorem st_region_draw {id : Nat} {ops : Array Oper} : step P (lone (Fr b t d (.code (.region id ops true) :: k)) cs w) =
    .next (lone (Fr b t d (.inRegion ops (Region.schedule (P.follows .mixedOrders) ops (w.tape w.drawn (.order b.fn id))) :: k)) cs { w with drawn := w.drawn + 1 }) :=
  step_lone_go (by simp [stepG, stepG.exec, Fr, choose, Sem.run, Question.forced, Question.cut])
theorem st_region_end {ops : Array Oper} : step P (lone (Fr b t d (.inRegion ops [] :: k)) cs w) = .next (lone (Fr b t d k) cs w) := step_lone_go (by simp [stepG, stepG.exec, Fr])
theorem st_unwanted {ops : Array Oper} {i : Nat} {rest : List Nat} (h : ((ops[i]?).map (Region.wanted · (yielded ops t))).getD false = false) :
    step P (lone (Fr b t d (.inRegion ops (i :: rest) :: k)) cs w) = .next (lone (Fr b (putA t ((ops[i]?).bind (·.dst)) undef) d (.inRegion ops rest :: k)) cs w) := by
  rw [← Fr_finish]
  exact step_lone_go (by
    simp only [Fr] at *
    simp [stepG, stepG.exec, h])
/-- The frame has come to its end. -/
theorem st_leave (hr : b.roundOf = none) : step P (lone (Fr b t d []) cs w) = .next (lone { Fr b t d [] with mode := .returning } cs w) := step_lone_go (by simp [stepG, stepG.exec, Fr, hr])
theorem st_ret (hr : b.roundOf = none) : step P (lone (Fr b t d (.code .ret :: k)) cs w) = .next (lone { Fr b t d (.code .ret :: k) with mode := .returning } cs w) := step_lone_go (by simp [stepG, stepG.exec, Fr, hr])
/-- A mark among the deferred calls is taken. -/
theorem st_mark {fr : Frame} {r : Nat} {a : Array Value} {ds : List Deferred} {w' : World} (hm : fr.mode = .returning) (hd : fr.defers = { target := .collected r, args := a } :: ds)
    (h : (Instr.takeDeferred r).run P w = .ok [] w') : step P (lone fr cs w) = .next (lone { fr with defers := ds } cs w') :=
  step_lone_go (by simp [stepG, hm, unwind, hd, h])
theorem st_endRange {l : Nat} {j : Option Code} {w' : World} (h : (Instr.endLoop l).run P w = .ok j w') :
    step P (lone (Fr b t d (.endRangeFunc l :: k)) cs w) = .next (lone (Fr b t d ((j.map Item.code).toList ++ k)) cs w') :=
  step_lone_go (by simp [stepG, stepG.exec, Fr, h])
theorem st_beginRound {l : Nat} {w' : World} (hr : b.roundOf = some l) (h : (Instr.beginRound l).run P w = .ok () w') :
    step P (lone (Fr b t d (.beginRound :: k)) cs w) = .next (lone (Fr b t d k) cs w') :=
  step_lone_go (by simp [stepG, stepG.exec, stepG.apply, Fr, hr, h, Result.andThen, Frame.finish])
/-- A round ends. -/
theorem st_endRound {c : Frame} {l : Nat} {v : Value} {w' : World} (hr : b.roundOf = some l) (hk : b.kind = .normal) (h : (Instr.endRound l none).run P w = .ok v w') :
    step P (lone (Fr b t d []) (c :: cs) w) = .next (lone (c.finish v) cs w') :=
  step_lone_go (by simp [stepG, stepG.exec, Fr, hr, hk, h, doReturn])
theorem st_endRoundRet {c : Frame} {l : Nat} {v : Value} {w' : World} (hr : b.roundOf = some l) (hk : b.kind = .normal) (h : (Instr.endRound l (some .ret)).run P w = .ok v w') :
    step P (lone (Fr b t d (.code .ret :: k)) (c :: cs) w) = .next (lone (c.finish v) cs w') :=
  step_lone_go (by simp [stepG, stepG.exec, Fr, hr, hk, h, doReturn])
theorem st_endRoundExit {c : Frame} {l id : Nat} {v : Value} {w' : World} (he : exitTo id k = none) (hr : b.roundOf = some l) (hk : b.kind = .normal) (h : (Instr.endRound l (some (.exit id))).run P w = .ok v w') :
    step P (lone (Fr b t d (.code (.exit id) :: k)) (c :: cs) w) = .next (lone (c.finish v) cs w') :=
  step_lone_go (by simp [stepG, stepG.exec, Fr, hr, hk, h, he, doReturn])
theorem st_endRoundGoto {c : Frame} {l id : Nat} {v : Value} {w' : World} (he : gotoIn id k = none) (hr : b.roundOf = some l) (hk : b.kind = .normal) (h : (Instr.endRound l (some (.goto id))).run P w = .ok v w') :
    step P (lone (Fr b t d (.code (.goto id) :: k)) (c :: cs) w) = .next (lone (c.finish v) cs w') :=
  step_lone_go (by simp [stepG, stepG.exec, Fr, hr, hk, h, he, doReturn])
end moves

/-- WHAT A CALL LANDS: it comes to a value, at once or by a frame of its own. -/
inductive Lands (P : Program) (s : Sem Next) (w : World) (Q : Value → World → Prop) : Prop where
  | value {v : Value} {w' : World} (h : s.run P w = .ok (.value v) w') (q : Q v w')
  | skip {w' : World} (h : s.run P w = .ok .skip w') (q : Q undef w')
  | enter {f : FuncId} {args : Array Value} {w1 : World} (h : s.run P w = .ok (.enter f args) w1) (q : Calls P f args w1 fun e w' => ∃ v, e = .returned v ∧ Q v w')
  | row {row : String} {args : Array Value} {w1 : World} (h : s.run P w = .ok (.row row args) w1) (q : Rows P row args w1 Q)
  | round {l : Nat} {f : FuncId} {t : Array Value} {a body : Code} {w1 : World} (h : s.run P w = .ok (.round l f t a body) w1)
      (q : ∀ (c : Frame) cs, ∃ v w', Q v w' ∧ Steps P (lone (Frame.round l f t a body .normal) (c :: cs) w1) (lone (c.finish v) cs w'))

theorem Lands.mono {s : Sem Next} {w : World} {Q Q' : Value → World → Prop} (h : Lands P s w Q) (hq : ∀ v w', Q v w' → Q' v w') : Lands P s w Q' := by
  cases h with
  | value h q => exact .value h (hq _ _ q)
  | skip h q => exact .skip h (hq _ _ q)
  | enter h q =>
    refine .enter h fun cs => ?_
    obtain ⟨e, w', fr, ⟨v, he, q⟩, r⟩ := q cs
    exact ⟨e, w', fr, ⟨v, he, hq _ _ q⟩, r⟩
  | row h q => exact .row h (q.mono hq)
  | round h q =>
    refine .round h fun c cs => ?_
    obtain ⟨v, w', q, r⟩ := q c cs
    exact ⟨v, w', hq _ _ q, r⟩

theorem Lands.congr {s s' : Sem Next} {w : World} {Q : Value → World → Prop} (h : Lands P s w Q) (e : s'.run P w = s.run P w) : Lands P s' w Q := by
  cases h with
  | value h q => exact .value (e.trans h) q
  | skip h q => exact .skip (e.trans h) q
  | enter h q => exact .enter (e.trans h) q
  | row h q => exact .row (e.trans h) q
  | round h q => exact .round (e.trans h) q

/-- The items that a call is made at. -/
def Calling : List Item → Prop
  | .inRegion .. :: _ | .inRangeFunc _ :: _ => True
  | _ => False

/-- A frame whose step is a call goes on with what the call lands. -/
theorem Lands.steps {s : Sem Next} {w : World} {Q : Value → World → Prop} (h : Lands P s w Q) {fr0 fr : Frame} {cs : List Frame} {w0 : World} (hc : Calling fr.todo)
    (hs : (stepG P true { frame := fr0, callers := cs, status := .running, dying := none } w0).bare = (stepG.apply P true fr cs none s w).bare) :
    ∃ v w', Q v w' ∧ Steps P (lone fr0 cs w0) (lone (fr.finish v) cs w') := by
  obtain ⟨fn, tmps, todo, defers, mode, kind, roundOf⟩ := fr
  cases todo with
  | nil => exact hc.elim
  | cons it k =>
  cases it <;> first | exact hc.elim | skip
  all_goals
    cases h with
    | value h q => exact ⟨_, _, q, .one (step_lone_go (by rw [hs]; simp [stepG.apply, h]))⟩
    | skip h q => exact ⟨_, _, q, .one (step_lone_go (by rw [hs]; simp [stepG.apply, h]))⟩
    | enter h q =>
      obtain ⟨e, w', fr', ⟨v, rfl, q⟩, hsteps, _, hleave⟩ := q (⟨fn, tmps, _, defers, mode, kind, roundOf⟩ :: cs)
      exact ⟨v, w', q, .head (step_lone_go (by rw [hs]; simp [stepG.apply, h])) (Steps.trans hsteps (.one (step_leave_returned hleave)))⟩
    | row h q =>
      obtain ⟨v, w', q, hsteps⟩ := q ⟨fn, tmps, _, defers, mode, kind, roundOf⟩ cs
      exact ⟨v, w', q, .head (step_lone_go (by rw [hs]; simp [stepG.apply, h])) hsteps⟩
    | round h q =>
      obtain ⟨v, w', q, hsteps⟩ := q ⟨fn, tmps, _, defers, mode, kind, roundOf⟩ cs
      exact ⟨v, w', q, .head (step_lone_go (by rw [hs]; simp [stepG.apply, h])) hsteps⟩

end Go.Va

/-
  SIMULATION: an operation of a region, calls among them.
-/
namespace Go.Va
open Go.RowKit
variable {P : Program} {K : FuncId → Code → Prop} {W0 : World} {N0 G : Nat}

/-- The globals lie where they lie. -/
def GlobOk (G : Nat) (β : Inj) : Prop := ∀ g, g < G → β g = some ⟨g, 0, none⟩
theorem GlobOk.mono {β β' : Inj} (hb : β.le β') (h : GlobOk G β) : GlobOk G β' := fun g hg => hb _ _ (h g hg)

def okO (G : Nat) : Operand → Bool
  | .const v => plainB 100 v
  | .global g => Nat.blt g G
  | _ => true

def opB (G : Nat) (o : Oper) : Bool :=
  o.op.operands.toList.all (okO G) && (match o.op with
    | .makeFunc (.yield _) _ _ | .select .. => false
    | _ => true)

theorem rel_undef {β : Inj} : vRel β undef undef := plain_rel 2 undef rfl

theorem ev_rel {β : Inj} (hG : GlobOk G β) {t : List Value} {tr : Array Value} (ht : lRel β t tr.toList) {x : Operand} (hx : okO G x = true) : vRel β (ev t x) (evA tr x) := by
  cases x with
  | tmp i =>
    simp only [ev, evA]
    cases h : t[i]? with
    | none =>
      have h' := ht.none i h
      rw [Array.getElem?_toList] at h'
      rw [List.getD_eq_getElem?_getD, h, Array.getD_eq_getD_getElem?, h']
      exact rel_undef
    | some v =>
      obtain ⟨v', h', hv⟩ := ht.getElem? i h
      rw [Array.getElem?_toList] at h'
      rw [List.getD_eq_getElem?_getD, h, Array.getD_eq_getD_getElem?, h']
      exact hv
  | const v => exact plain_rel 100 v hx
  | global g =>
    simp only [okO] at hx
    exact .ptr ⟨rfl, _, hG g (by rw [Nat.blt_eq] at hx; exact hx), by simp⟩
  | func f => exact .func rfl rfl (fun i h => by simp at h) rfl (fun i h => by simp at h)

/-- What a step must come to. 'σ', 'σ'': the run of the interpreter; 'τ': a heap that is like the first, in which more may lie. -/
def Post (K : FuncId → Code → Prop) (W0 : World) (N0 : Nat) (β : Inj) (σ σ' τ : AS) (v : Value) (v' : Value) (w' : World) : Prop :=
  ∃ β' τ', Ext β β' σ σ' ∧ σ'.Led τ τ' ∧ R K W0 N0 β' τ' w' ∧ vRel β' v v'

theorem Post.trans {β β1 : Inj} {σ σ1 σ' τ τ1 : AS} {v v' : Value} {w' : World} (h : Post K W0 N0 β1 σ1 σ' τ1 v v' w') (x : Ext β β1 σ σ1) (hl : σ1.Led τ τ1) (h1 : σ.next ≤ σ1.next) (h2 : σ1.next ≤ σ'.next) : Post K W0 N0 β σ σ' τ v v' w' := by
  obtain ⟨β', τ', x1, l1, r, hv⟩ := h
  exact ⟨β', τ', x.trans x1 h1 h2, hl.trans l1 h2, r, hv⟩

theorem Fresh.like {β : Inj} {σ σ' τ τ' : AS} (h : Fresh β σ σ') (hl : σ.Like τ) (hl' : σ'.Led τ τ') : Fresh β τ τ' := fun i h1 h2 => h i (by have := hl.1; omega) (by have := hl'.next; omega)
theorem Ext.like {β β' : Inj} {σ σ' τ τ' : AS} (h : Ext β β' τ τ') (hl : σ.Like τ) (hl' : σ'.Led τ τ') : Ext β β' σ σ' := ⟨h.1, fun i e he => by
  have h1 := hl.1
  have h2 := hl'.next
  rcases h.2 i e he with h3 | h3
  · exact .inl h3
  · exact .inr (by omega)⟩

theorem Sim.at {α α' : Type} {β : Inj} {s : Sem α} {s' : Sem α'} {A : Inj → α → α' → Prop} (h : Sim P K W0 N0 β s s' A) {lim : Nat} {σ σ' τ : AS} {v : α} {w : World} (hw : σ.Wf) (hl : σ.Like τ) (hR : R K W0 N0 β τ w)
    (hr : runA P lim s σ = some (v, σ')) (hf : Fresh β σ σ') : ∃ v' w' β' τ', s'.run P w = .ok v' w' ∧ Ext β β' σ σ' ∧ σ'.Led τ τ' ∧ R K W0 N0 β' τ' w' ∧ A β' v v' := by
  obtain ⟨τ', e1, l1⟩ := (blind_runA s hr hw).2 τ hl
  obtain ⟨v', w', β', e, x, r, ha⟩ := h lim τ w v τ' trivial hR e1 (hf.like hl l1)
  exact ⟨v', w', β', τ', e, x.like hl l1, l1, r, ha⟩

theorem Sim2.lands {β : Inj} {f : AS → Option (Value × AS)} {s' : Sem Value} (h : Sim2 P K W0 N0 β f s') {lim : Nat} (hg : Good lim f) {σ σ' τ : AS} {v : Value} {w : World} (hw : σ.Wf) (hl : σ.Like τ) (hR : R K W0 N0 β τ w) (hr : f σ = some (v, σ')) (hf : Fresh β σ σ') :
    Lands P (do pure (Next.value (← s'))) w (Post K W0 N0 β σ σ' τ v) := by
  obtain ⟨τ', e1, l1⟩ := (hg σ v σ' hr hw).2 τ hl
  obtain ⟨v', w', β', e, x, r, hv⟩ := h τ w v τ' trivial hR e1 (hf.like hl l1)
  exact .value (by rw [run_bind', e]; rfl) ⟨β', τ', x.like hl l1, l1, r, hv⟩

theorem nLands {β : Inj} {s s' : Sem Next} (h : Sim P K W0 N0 β s s' nRel) {lim : Nat} {σ σ' τ : AS} {n : Next} {w : World} (hw : σ.Wf) (hl : σ.Like τ) (hR : R K W0 N0 β τ w) (hr : runA P lim s σ = some (n, σ')) (hf : Fresh β σ σ') :
    (∀ v, n = .value v → Lands P s' w (Post K W0 N0 β σ σ' τ v)) ∧ (n = .skip → Lands P s' w (Post K W0 N0 β σ σ' τ undef)) := by
  obtain ⟨n', w', β', τ', e, x, l, r, hv⟩ := h.at hw hl hR hr hf
  constructor
  · rintro v rfl
    obtain ⟨v', rfl, hv⟩ := hv
    exact .value e ⟨β', τ', x, l, r, hv⟩
  · rintro rfl
    have hv : n' = .skip := hv
    subst hv
    exact .skip e ⟨β', τ', x, l, r, rel_undef⟩

/-! ## Calls -/

section
variable (P K W0 N0 G)
def CallOk (rec : Rec) : Prop := ∀ lim f args σ v σ', rec lim (.call f args) σ = some (.val v, σ') → ∀ β τ w (args' : Array Value), σ.Wf → σ.Like τ → R K W0 N0 β τ w → Fresh β σ σ' → GlobOk G β → lRel β args args'.toList →
  Lands P (callFunc f args') w (Post K W0 N0 β σ σ' τ v)
def RoundOk (rec : Rec) : Prop := ∀ lim l f t a body σ v σ', rec lim (.round l f t a body) σ = some (.val v, σ') → ∀ β τ w (tr : Array Value) e, σ.Wf → σ.Like τ → R K W0 N0 β τ w → Fresh β σ σ' → GlobOk G β →
  β l = some e → e.o = 0 → lRel β t tr.toList → K f a → K f body →
  ∀ (c : Frame) cs, ∃ v' w', Post K W0 N0 β σ σ' τ v v' w' ∧ Steps P (lone (Frame.round e.b f tr a body .normal) (c :: cs) w) (lone (c.finish v') cs w')
def OvOk (E : Env) : Prop := ∀ f args lim σ v σ', E.isOv f = true → E.ov f args lim σ = some (v, σ') → ∀ β τ w (args' : Array Value), σ.Wf → σ.Like τ → R K W0 N0 β τ w → Fresh β σ σ' → GlobOk G β → lRel β args args'.toList →
  Lands P (callFunc f args') w (Post K W0 N0 β σ σ' τ v)
end

variable {E : Env} {rec : Rec}

theorem enter_lands (hE : OvOk P K W0 N0 G E) (hc : CallOk P K W0 N0 G rec) {lim : Nat} {f : FuncId} {args : List Value} {σ σ' : AS} {v : Value} (hr : enterA P E rec lim f args σ = some (v, σ')) {β : Inj} {w : World} {args' : Array Value}
    {τ : AS} (hw : σ.Wf) (hl : σ.Like τ) (hR : R K W0 N0 β τ w) (hf : Fresh β σ σ') (hG : GlobOk G β) (ha : lRel β args args'.toList) : Lands P (callFunc f args') w (Post K W0 N0 β σ σ' τ v) := by
  unfold enterA at hr
  cases ho : E.isOv f with
  | true =>
    rw [ho, cond_true] at hr
    exact hE _ _ _ _ _ _ ho hr _ _ _ _ hw hl hR hf hG ha
  | false =>
    rw [ho, cond_false] at hr
    split at hr
    · rename_i h
      cases hr
      exact hc _ _ _ _ _ _ h _ _ _ _ hw hl hR hf hG ha
    · cases hr

theorem apply_lands (hE : OvOk P K W0 N0 G E) (hgr : RecGood rec) (hc : CallOk P K W0 N0 G rec) (hrd : RoundOk P K W0 N0 G rec) {lim : Nat} {f f' : Value} {args : List Value} {σ σ' : AS} {v : Value} (hr : applyA P E rec lim f args σ = some (v, σ')) {β : Inj} {w : World} {args' : Array Value}
    {τ : AS} (hw : σ.Wf) (hl : σ.Like τ) (hR : R K W0 N0 β τ w) (hf : Fresh β σ σ') (hG : GlobOk G β) (hff : vRel β f f') (ha : lRel β args args'.toList) :
    Lands P (do let d ← Deferred.ofValue f' args'; invoke d.target d.args) w (Post K W0 N0 β σ σ' τ v) := by
  unfold applyA at hr
  split at hr
  · rename_i g first captured
    cases hff with
    | @func fn fn' _ first' _ captured' hfn h1 h2 h3 h4 =>
    have hfn : fn' = .func g := hfn
    subst hfn
    have e : (do let d ← Deferred.ofValue (.func (.func g) first' captured') args'; invoke d.target d.args : Sem Next) = callFunc g ((first' ++ args') ++ captured') := rfl
    rw [e]
    refine enter_lands hE hc hr hw hl hR hf hG ?_
    simp only [Array.toList_append]
    exact ((arrRel_iff.1 ⟨h1, h2⟩).append ha).append (arrRel_iff.1 ⟨h3, h4⟩)
  · rename_i l first captured
    cases hff with
    | @func fn fn' _ first' _ captured' hfn h1 h2 h3 h4 =>
    obtain ⟨e, he, h0, rfl⟩ := hfn
    have e1 : (do let d ← Deferred.ofValue (.func (.yield e.b) first' captured') args'; invoke d.target d.args : Sem Next) = Instr.yield e.b (first' ++ args') := rfl
    rw [e1]
    split at hr
    case h_2 => cases hr
    rename_i l2 fn t a body σ1 h1r
    split at hr
    case h_2 => cases hr
    rename_i v2 σ2 h2r
    simp only [Option.some.injEq, Prod.mk.injEq] at hr
    obtain ⟨rfl, rfl⟩ := hr
    have k1 := kept_runA h1r hw
    have k2 := (hgr _ _ _ _ _ h2r (k1.wf hw)).1
    have hargs : arrRel β (first ++ args.toArray) (first' ++ args') := arrRel_iff.2 (by
      simp only [Array.toList_append]
      exact (arrRel_iff.1 ⟨h1, h2⟩).append ha)
    obtain ⟨n', w1, β1, τ1, er, x1, l1, R1, hy⟩ := (sim_yield (P := P) (K := K) (W0 := W0) (N0 := N0) he h0 hargs).at hw hl hR h1r (hf.left k2.next)
    obtain ⟨l3, e3, fn3, t3, t3', a3, b3, hn, hn', he3, h03, ht3, hka, hkb⟩ := hy
    cases hn
    subst hn'
    refine .round er fun c cs => ?_
    obtain ⟨v', w', hp, hs⟩ := hrd _ _ _ _ _ _ _ _ _ h2r β1 τ1 w1 t3' e3 (k1.wf hw) l1.like R1 (hf.right x1 k1.next) (hG.mono x1.1) he3 h03 (arrRel_iff.1 ht3) hka hkb c cs
    exact ⟨v', w', hp.trans x1 l1 k1.next k2.next, hs⟩
  · cases hr

/-! ## Operations -/

theorem run_eqGuard {β : Inj} {op : BinOp} {t : TypeId} {x y : Operand} {a a' b b' : Value} (ha : vRel β a a') (hb : vRel β b b') (h : binOkA P op t (isC x || isC y) a b = true) (w : World) : (eqGuard op t x y a' b').run P w = .ok () w := by
  unfold eqGuard
  cases hq : isEq op with
  | false => cases op <;> first | rfl | cases hq
  | true =>
    cases ha <;> cases hb <;> first | (cases op <;> first | rfl | (cases hq; done)) | skip
    case nilIface.nilIface =>
      simp only [binOkA, Bool.and_eq_true] at h
      have hx : (isC x || isC y) = true := h.1
      cases op <;> first | (cases hq; done) | (cases x <;> cases y <;> first | rfl | cases hx)
    case agg.agg =>
      simp only [binOkA, Bool.and_eq_true, Bool.not_eq_true'] at h
      have h3 := h.2
      cases op <;> first | (cases hq; done) | (
        show (Go.program >>= fun p => Go.program >>= fun q => _).run P w = _
        have : (Go.program).run P w = .ok P w := rfl
        simp [this, h3])

theorem eqGuard_lands {β : Inj} {op : BinOp} {t : TypeId} {x y : Operand} {a a' b b' : Value} (ha : vRel β a a') (hb : vRel β b b') (h : binOkA P op t (isC x || isC y) a b = true) {w : World} {Q : Value → World → Prop}
    (hl : Lands P (do pure (Next.value (← binOp op t a' b'))) w Q) : Lands P (do pure (Next.value (← (do eqGuard op t x y a' b'; binOp op t a' b')))) w Q := by
  refine hl.congr ?_
  simp only [run_bind', run_eqGuard ha hb h w]

theorem oper_lands (hZ : ZeroOk P) (hE : OvOk P K W0 N0 G E) (hgr : RecGood rec) (hc : CallOk P K W0 N0 G rec) (hrd : RoundOk P K W0 N0 G rec) {lim : Nat} {o : Oper} {t : List Value} {tr : Array Value} {σ σ' : AS} {v : Value}
    (hr : operA P E rec lim o t σ = some (v, σ')) (hB : opB G o = true) {β : Inj} {w : World} {τ : AS} (hw : σ.Wf) (hl : σ.Like τ) (hR : R K W0 N0 β τ w) (hf : Fresh β σ σ') (hG : GlobOk G β) (hρ0 : ∀ x ∈ o.op.operands, vRel β (ev t x) (evA tr x)) :
    Lands P (execOp (evA tr) o) w (Post K W0 N0 β σ σ' τ v) := by
  obtain ⟨dst, op, type, pos, after, guard⟩ := o
  simp only [opB, Bool.and_eq_true, List.all_eq_true] at hB
  have hρ : ∀ x ∈ op.operands, vRel β (ev t x) (evA tr x) := hρ0
  clear hρ0
  have opt : ∀ (x : Option Operand), (∀ y, x = some y → y ∈ op.operands) → ovRel β (x.map (ev t)) (x.map (evA tr)) := fun x h => ovRel_map fun y hy => hρ y (h y hy)
  have hgen : ∀ (hg : generic P op = true) (hnf : ∀ fn f c, op = .makeFunc fn f c → ∀ l, fn ≠ .yield l), nextAny (runA P lim (execOp (ev t) ⟨dst, op, type, pos, after, guard⟩) σ) = some (v, σ') → Lands P (execOp (evA tr) ⟨dst, op, type, pos, after, guard⟩) w (Post K W0 N0 β σ σ' τ v) := by
    intro hg hnf hh
    have hS := sim_execOp (P := P) (K := K) (W0 := W0) (N0 := N0) (o := ⟨dst, op, type, pos, after, guard⟩) hZ hρ hnf hg
    unfold nextAny at hh
    split at hh
    · rename_i h1
      cases hh
      exact (nLands hS hw hl hR h1 hf).1 _ rfl
    · rename_i h1
      cases hh
      exact (nLands hS hw hl hR h1 hf).2 rfl
    · cases hh
  have gen : ∀ (hnf : ∀ fn f c, op = .makeFunc fn f c → ∀ l, fn ≠ .yield l), (bif generic P op then
      nextAny (runA P lim (execOp (ev t) ⟨dst, op, type, pos, after, guard⟩) σ) else none) = some (v, σ') → Lands P (execOp (evA tr) ⟨dst, op, type, pos, after, guard⟩) w (Post K W0 N0 β σ σ' τ v) := by
    intro hnf hh
    cases hg : generic P op with
    | false => rw [hg] at hh; cases hh
    | true => rw [hg, cond_true] at hh; exact hgen hg hnf hh
  cases op
  case slice st x lo hi mx =>
    simp only [operA] at hr
    exact (sim2_slice (hρ x (by simp [Op.operands])) (opt lo (by intro y hy; simp [Op.operands, hy])) (opt hi (by intro y hy; simp [Op.operands, hy])) (opt mx (by intro y hy; simp [Op.operands, hy])) lim).lands good_slice hw hl hR hr hf
  case convert src dst' x =>
    simp only [operA] at hr
    exact (sim2_conv (lim := lim) (hρ x (by simp [Op.operands]))).lands good_conv hw hl hR hr hf
  case unOp op' t' x =>
    simp only [operA] at hr
    cases hu : unOkA (ev t x) with
    | false => rw [hu] at hr; cases hr
    | true =>
      rw [hu, cond_true] at hr
      exact ((sim_unary op' (hρ x (by simp [Op.operands])) hu).two lim).lands (good_runA _) hw hl hR hr hf
  case nilCheck x =>
    simp only [operA] at hr
    cases hu : nilOkA (ev t x) with
    | false => rw [hu] at hr; cases hr
    | true =>
      rw [hu, cond_true, Option.some.injEq, Prod.mk.injEq] at hr
      obtain ⟨rfl, rfl⟩ := hr
      have hx := hρ x (by simp [Op.operands])
      have hv : (execOp (evA tr) ⟨dst, .nilCheck x, type, pos, after, guard⟩).run P w = .ok (.value (evA tr x)) w := by
        simp only [execOp]
        generalize ev t x = a at hx hu
        generalize evA tr x = a' at hx
        cases hx <;> first | rfl | (simp only [nilOkA] at hu; cases hu; done) | skip
        case func fn fn' f f' c c' h _ _ _ _ =>
          cases fn <;> first | (simp only [nilOkA] at hu; cases hu; done) | skip
          · have h : fn' = _ := h
            subst h; rfl
          · obtain ⟨e, _, _, rfl⟩ := h; rfl
      exact .value hv ⟨β, τ, .refl _ _, .refl hl, hR, hx⟩
  case sliceToArrayPointer d x =>
    simp only [operA] at hr
    cases hu : arrOkA (ev t x) with
    | false => rw [hu] at hr; cases hr
    | true =>
      rw [hu, cond_true] at hr
      exact ((sim_arrayAt (hρ x (by simp [Op.operands])) hu d).two lim).lands (good_runA _) hw hl hR hr hf
  case binOp bop bt x y g =>
    simp only [operA] at hr
    cases hu : binOkA P bop bt (isC x || isC y) (ev t x) (ev t y) with
    | false => rw [hu] at hr; cases hr
    | true =>
      rw [hu, cond_true] at hr
      have hx := hρ x (by simp [Op.operands])
      have hy := hρ y (by simp [Op.operands])
      exact eqGuard_lands hx hy hu (((sim_binOp hx hy hu).two lim).lands (good_runA _) hw hl hR hr hf)
  case call c =>
    obtain ⟨callee, args, argTypes⟩ := c
    have hargs : lRel β (args.toList.map (ev t)) (args.map (evA tr)).toList := by
      simp only [Array.toList_map]
      exact lRel.of_get (by simp) fun i hi hi' => by
        simp only [List.getElem_map]
        exact hρ _ (by simp [Op.operands, Call.operands])
    cases callee with
    | invoke => simp only [operA] at hr; cases hr
    | value f =>
      simp only [operA] at hr
      exact apply_lands hE hgr hc hrd hr hw hl hR hf hG (hρ f (by simp [Op.operands, Call.operands])) hargs
    | builtin b =>
      have hbi : tame P argTypes b = true → (args.toList.map (ev t)).head?.all unOkA = true → nextVal (runA P lim (builtin b argTypes type (args.map isC) (args.map (ev t))) σ) = some (v, σ') → Lands P (execOp (evA tr) ⟨dst, .call ⟨.builtin b, args, argTypes⟩, type, pos, after, guard⟩) w (Post K W0 N0 β σ σ' τ v) := by
        intro hta hh hrun
        have hS := sim_builtin (P := P) (K := K) (W0 := W0) (N0 := N0) hZ (b := b) (argTypes := argTypes) (type := type) (consts := args.map isC)
          (args := args.map (ev t)) (args' := args.map (evA tr)) (arrRel_iff.2 (by simpa using hargs)) hta (fun u hu _ => by
            simp only [Array.toList_map] at hu
            rw [hu] at hh; exact hh)
        have hlb : ∀ u, Lands P (builtin b argTypes type (args.map isC) (args.map (evA tr))) w (Post K W0 N0 β σ σ' τ u) → Lands P (execOp (evA tr) ⟨dst, .call ⟨.builtin b, args, argTypes⟩, type, pos, after, guard⟩) w (Post K W0 N0 β σ σ' τ u) := by
          intro u hu
          have e : args.map isC = args.map (fun | .const _ => true | _ => false) := congrArg (args.map ·) (funext fun x => by cases x <;> rfl)
          rw [e] at hu
          exact hu
        unfold nextVal at hrun
        split at hrun
        · rename_i h1
          cases hrun
          exact hlb _ ((nLands hS hw hl hR h1 hf).1 _ rfl)
        · cases hrun
      have hb2 : (bif tame P argTypes b && (args.toList.map (ev t)).head?.all unOkA then nextVal (runA P lim (builtin b argTypes type (args.map isC) (args.map (ev t))) σ) else none) = some (v, σ') → Lands P (execOp (evA tr) ⟨dst, .call ⟨.builtin b, args, argTypes⟩, type, pos, after, guard⟩) w (Post K W0 N0 β σ σ' τ v) := by
        intro hh
        cases hcd : (tame P argTypes b && (args.toList.map (ev t)).head?.all unOkA) with
        | false => rw [hcd] at hh; cases hh
        | true =>
          rw [hcd, cond_true] at hh
          simp only [Bool.and_eq_true] at hcd
          exact hbi hcd.1 hcd.2 hh
      cases b
      case append =>
        simp only [operA] at hr
        exact (sim2_append (lim := lim) hZ hargs).lands good_append hw hl hR hr hf
      case cap =>
        simp only [operA] at hr
        exact (sim2_cap (_lim := lim) hargs).lands (lim := lim) good_cap hw hl hR hr hf
      case unsafeSliceData =>
        simp only [operA] at hr
        exact (sim2_data (argTypes := argTypes) hargs).lands (lim := lim) good_data hw hl hR hr hf
      case unsafeString =>
        simp only [operA] at hr
        exact (sim2_ustr (lim := lim) hargs).lands good_ustr hw hl hR hr hf
      all_goals exact hb2 (by simpa only [operA] using hr)
  case makeFunc fn f c =>
    refine gen (fun fn' f' c' h l hl2 => ?_) (by simpa only [operA] using hr)
    cases h
    subst hl2
    exact Bool.false_ne_true hB.2
  all_goals exact gen (fun fn f c h => by cases h) (by simpa only [operA] using hr)

end Go.Va

/-
  SIMULATION: a region whose operations run in the order of the text.
-/
namespace Go.Va
open Go.RowKit
variable {P : Program} {K : FuncId → Code → Prop} {W0 : World} {N0 G : Nat} {E : Env} {rec : Rec} {ops : Array Oper}

/-- Two look-ups that go together. -/
def lkRel (β : Inj) (a b : Option Value) : Prop := (a = none ∧ b = none) ∨ ∃ v v', a = some v ∧ b = some v' ∧ vRel β v v'

theorem lkRel.mono {β β' : Inj} (hb : β.le β') {a b : Option Value} (h : lkRel β a b) : lkRel β' a b := by
  rcases h with h | ⟨v, v', h1, h2, h3⟩
  · exact .inl h
  · exact .inr ⟨v, v', h1, h2, h3.mono hb⟩

theorem lRel.look {β : Inj} {t : List Value} {tr : Array Value} (ht : lRel β t tr.toList) (d : Nat) : lkRel β t[d]? tr[d]? := by
  cases h : t[d]? with
  | none => have h' := ht.none d h; rw [Array.getElem?_toList] at h'; exact .inl ⟨rfl, h'⟩
  | some v => obtain ⟨v', h', hv⟩ := ht.getElem? d h; rw [Array.getElem?_toList] at h'; exact .inr ⟨v, v', rfl, h', hv⟩

theorem ev_rel' {β : Inj} (hG : GlobOk G β) {t : List Value} {tr : Array Value} {x : Operand} (hx : okO G x = true) (hl : ∀ d, x = .tmp d → lkRel β t[d]? tr[d]?) : vRel β (ev t x) (evA tr x) := by
  cases x with
  | tmp i =>
    simp only [ev, evA]
    rw [List.getD_eq_getElem?_getD, Array.getD_eq_getD_getElem?]
    rcases hl i rfl with ⟨h1, h2⟩ | ⟨v, v', h1, h2, h3⟩
    · rw [h1, h2]; exact rel_undef
    · rw [h1, h2]; exact h3
  | const v => exact plain_rel 100 v hx
  | global g =>
    simp only [okO] at hx
    exact .ptr ⟨rfl, _, hG g (by rw [Nat.blt_eq] at hx; exact hx), by simp⟩
  | func f => exact .func rfl rfl (fun i h => by simp at h) rfl (fun i h => by simp at h)

/-- What an operation sees is related. -/
def Sees (ops : Array Oper) (β : Inj) (o : Oper) (t : List Value) (tr : Array Value) : Prop := ∀ d ∈ o.looksAt ops, lkRel β t[d]? tr[d]?

theorem Sees.operands {β : Inj} {o : Oper} {t : List Value} {tr : Array Value} (h : Sees ops β o t tr) (hG : GlobOk G β) (hB : opB G o = true) : ∀ x ∈ o.op.operands, vRel β (ev t x) (evA tr x) := by
  intro x hx
  simp only [opB, Bool.and_eq_true, List.all_eq_true] at hB
  refine ev_rel' hG (hB.1 x (by simpa using hx)) fun d hd => h d ?_
  subst hd
  unfold Oper.looksAt
  exact List.mem_append_left _ (List.mem_filterMap.2 ⟨.tmp d, by simpa using hx, rfl⟩)

theorem Sees.wanted {β : Inj} {o : Oper} {t : List Value} {tr : Array Value} (h : Sees ops β o t tr) : Region.wanted o (yielded ops tr) = Region.wanted o (yieldedL ops t) := by
  unfold Region.wanted
  cases hg : o.guard with
  | none => rfl
  | some gb =>
    obtain ⟨g, b⟩ := gb
    have : yielded ops tr g = yieldedL ops t g := by
      unfold yielded yieldedL
      cases hd : (ops[g]?).bind (·.dst) with
      | none => rfl
      | some d =>
        have hl := h d (by
          unfold Oper.looksAt
          refine List.mem_append_right _ ?_
          rw [hg]
          simp [hd])
        simp only [Option.bind_some]
        rcases hl with ⟨h1, h2⟩ | ⟨v, v', h1, h2, h3⟩
        · rw [h1, h2]
        · rw [h1, h2]
          cases h3 <;> rfl
    simp only [this]

theorem opsA_cons {q : Bool} {lim : Nat} {o : Oper} {l : List Oper} {t : List Value} {σ : AS} : opsA P E rec ops q lim (o :: l) t σ = andThen (op1 P E rec ops q lim o t σ) fun v σ' => opsA P E rec ops q lim l (putT t o.dst v) σ' := by
  simp only [opsA, op1]
  cases Region.wanted o (yieldedL ops t) with
  | false => rfl
  | true =>
    simp only [cond_true]
    rcases operA P E rec (bif q then σ.next else lim) o t σ with _ | ⟨v, σ'⟩ <;> rfl

theorem quiet_op1 (hE : OvGood E) (hr : RecGood rec) {lim : Nat} {o : Oper} {t : List Value} {σ σ' : AS} {v : Value} (h : op1 P E rec ops true lim o t σ = some (v, σ')) (hw : σ.Wf) : Kept σ.next σ σ' := by
  unfold op1 at h
  cases hq : Region.wanted o (yieldedL ops t) with
  | false => rw [hq] at h; simp only [cond_false, Option.some.injEq, Prod.mk.injEq] at h; rw [← h.2]; exact .refl _ _
  | true => rw [hq] at h; exact ((good_oper hE hr) σ v σ' h hw).1

/-- What is given: of the program, of the replaced functions, of the deeper runs. -/
structure Given (P : Program) (K : FuncId → Code → Prop) (W0 : World) (N0 G : Nat) (E : Env) (rec : Rec) : Prop where
  zero : ZeroOk P
  mixed : P.follows .mixedOrders = true
  ovGood : OvGood E
  ov : OvOk P K W0 N0 G E
  good : RecGood rec
  call : CallOk P K W0 N0 G rec
  round : RoundOk P K W0 N0 G rec

theorem lRel_putT {β : Inj} {t : List Value} {tr : Array Value} (ht : lRel β t tr.toList) {v v' : Value} (hv : vRel β v v') (dst : Option Tmp) : lRel β (putT t dst v) (putA tr dst v').toList := by
  cases dst with
  | none => exact ht
  | some d =>
    simp only [putT, putA, Array.toList_setIfInBounds]
    exact ht.set hv d

theorem op_steps (H : Given P K W0 N0 G E rec) {q : Bool} {lim : Nat} {i : Nat} {o : Oper} {t : List Value} {tr : Array Value} {σ σ' τ : AS} {v : Value} (ho : ops[i]? = some o) (hr : op1 P E rec ops q lim o t σ = some (v, σ')) (hB : opB G o = true) {β : Inj} {w : World}
    (hw : σ.Wf) (hl : σ.Like τ) (hR : R K W0 N0 β τ w) (hf : Fresh β σ σ') (hG : GlobOk G β) (hs : Sees ops β o t tr) (b : Frame) (d : List Deferred) (rest : List Nat) (k : List Item) (cs : List Frame) :
    ∃ v' w', Post K W0 N0 β σ σ' τ v v' w' ∧ Steps P (lone (Fr b tr d (.inRegion ops (i :: rest) :: k)) cs w) (lone (Fr b (putA tr o.dst v') d (.inRegion ops rest :: k)) cs w') := by
  have hwt := hs.wanted
  unfold op1 at hr
  cases hq : Region.wanted o (yieldedL ops t) with
  | false =>
    rw [hq] at hr hwt
    simp only [cond_false, Option.some.injEq, Prod.mk.injEq] at hr
    obtain ⟨rfl, rfl⟩ := hr
    refine ⟨undef, w, ⟨β, τ, .refl _ _, .refl hl, hR, rel_undef⟩, .one ?_⟩
    have := st_unwanted (P := P) (b := b) (t := tr) (d := d) (k := k) (cs := cs) (w := w) (ops := ops) (i := i) (rest := rest) (by rw [ho]; simpa using hwt)
    rw [ho] at this
    exact this
  | true =>
    rw [hq, cond_true] at hr
    rw [hq] at hwt
    have hnd : ∀ c, o.op ≠ .defer c := by
      intro c hc
      simp only [operA, hc, generic, cond_false] at hr
      cases hr
    have hL := oper_lands H.zero H.ov H.good H.call H.round hr hB hw hl hR hf hG (hs.operands hG hB)
    have hg : stepG P true { frame := Fr b tr d (.inRegion ops (i :: rest) :: k), callers := cs, status := .running, dying := none } w =
        stepG.apply P true (Fr b tr d (.inRegion ops (i :: rest) :: k)) cs none (execOp (evA tr) o) w := by
      have he := Fr_eval b tr d (.inRegion ops (i :: rest) :: k)
      simp only [Fr] at he
      have h1 : ∀ r : Option Nat, (match r, o.op with
          | some l, .defer c => stepG.apply P true (Fr b tr d (.inRegion ops (i :: rest) :: k)) cs none (do Instr.deferInRound l (← resolve (evA tr) c o.type); pure .skip) w
          | _, _ => stepG.apply P true (Fr b tr d (.inRegion ops (i :: rest) :: k)) cs none (execOp (evA tr) o) w) = stepG.apply P true (Fr b tr d (.inRegion ops (i :: rest) :: k)) cs none (execOp (evA tr) o) w := by
        intro r
        split
        · rename_i hh; exact absurd hh (hnd _)
        · rfl
      rw [← h1 b.roundOf]
      simp only [stepG, stepG.exec, stepG.oper, Frame.oper?, Fr, ho, Option.map_some, Option.getD_some, hwt, if_true, he]
      cases b.roundOf with
      | none => rfl
      | some l => cases o.op <;> rfl
    obtain ⟨v', w', hp, hst⟩ := hL.steps (P := P) (fr0 := Fr b tr d (.inRegion ops (i :: rest) :: k)) (fr := Fr b tr d (.inRegion ops (i :: rest) :: k)) (cs := cs) (w0 := w) trivial (by rw [hg])
    rw [Fr_finish, ho] at hst
    exact ⟨v', w', hp, hst⟩

/-- Operations in the order of the text. -/
theorem seq_steps (H : Given P K W0 N0 G E rec) {q : Bool} {lim : Nat} : ∀ (l : List Oper) (is : List Nat) (t : List Value) (tr : Array Value) (σ σ' τ : AS) (t1 : List Value), is.length = l.length → (∀ (n : Nat) (i : Nat) (o : Oper), is[n]? = some i → l[n]? = some o → ops[i]? = some o) →
    opsA P E rec ops q lim l t σ = some (t1, σ') → (∀ o ∈ l, opB G o = true) → ∀ (β : Inj) (w : World), σ.Wf → σ.Like τ → R K W0 N0 β τ w → Fresh β σ σ' → GlobOk G β → lRel β t tr.toList → ∀ (b : Frame) (d : List Deferred) (k : List Item) (cs : List Frame),
    ∃ w' β' τ' tr', Ext β β' σ σ' ∧ σ'.Led τ τ' ∧ R K W0 N0 β' τ' w' ∧ lRel β' t1 tr'.toList ∧ Steps P (lone (Fr b tr d (.inRegion ops is :: k)) cs w) (lone (Fr b tr' d (.inRegion ops [] :: k)) cs w')
  | [], is, t, tr, σ, σ', τ, t1, hlen, _, hr, _, β, w, hw, hl, hR, _, _, ht, b, d, k, cs => by
    cases is with
    | cons _ _ => simp at hlen
    | nil =>
      simp only [opsA, Option.some.injEq, Prod.mk.injEq] at hr
      obtain ⟨rfl, rfl⟩ := hr
      exact ⟨w, β, τ, tr, .refl _ _, .refl hl, hR, ht, .refl _ _⟩
  | o :: l, is, t, tr, σ, σ', τ, t1, hlen, his, hr, hB, β, w, hw, hl, hR, hf, hG, ht, b, d, k, cs => by
    cases is with
    | nil => simp at hlen
    | cons i is =>
      rw [opsA_cons] at hr
      cases h1 : op1 P E rec ops q lim o t σ with
      | none => rw [h1] at hr; cases hr
      | some r =>
        obtain ⟨v, σ1⟩ := r
        rw [h1] at hr
        have k1 := ((good_op1 H.ovGood H.good) σ v σ1 h1 hw).1
        have k2 := ((good_ops H.ovGood H.good l (putT t o.dst v)) σ1 t1 σ' hr (k1.wf hw)).1
        obtain ⟨v', w1, ⟨β1, τ1, x1, l1, R1, hv⟩, s1⟩ := op_steps H (his 0 i o rfl rfl) h1 (hB o (by simp)) hw hl hR (hf.left k2.next) hG (fun d _ => ht.look d) b d is k cs
        obtain ⟨w2, β2, τ2, tr2, x2, l2, R2, ht2, s2⟩ := seq_steps H l is (putT t o.dst v) (putA tr o.dst v') σ1 σ' τ1 t1 (by simpa using hlen) (fun n i' o' h h' => his (n + 1) i' o' (by simpa using h) (by simpa using h'))
          hr (fun o' ho' => hB o' (by simp [ho'])) β1 w1 (k1.wf hw) l1.like R1 (hf.right x1 k1.next) (hG.mono x1.1) (lRel_putT (ht.mono x1.1) hv o.dst) b d k cs
        exact ⟨w2, β2, τ2, tr2, x1.trans x2 k1.next k2.next, l1.trans l2 k2.next, R2, ht2, s1.trans s2⟩

end Go.Va

/-
  SIMULATION: a region that draws the order of its operations: first those that write nothing of what was there, in any order that their edges leave; then a tail in the order of the text.
-/
namespace Go.Va
open Go.RowKit
variable {P : Program} {K : FuncId → Code → Prop} {W0 : World} {N0 G : Nat} {E : Env} {rec : Rec} {ops : Array Oper}

def dstOf (ops : Array Oper) (k : Nat) : Option Tmp := (ops[k]?).bind (·.dst)

/-- The operation at a place of an order. -/
def ix (os : List Nat) (p : Nat) : Nat := os.getD p 0

/-- An order of the operations: no operation waits for one behind it. -/
def ordB (md : Region.Mode) (ops : Array Oper) (os : List Nat) : Bool :=
  Nat.beq os.length ops.size && os.all (fun i => Nat.blt i ops.size) &&
  ((List.range ops.size).all fun i => os.contains i) &&
  ((List.range ops.size).all fun p => !(os.take p).contains (ix os p)) &&
  ((List.range ops.size).all fun p => match ops[ix os p]? with
    | some o => o.after.all fun e => !Region.binds md e || (os.take p).contains e.on
    | none => false)

/-- The places from a up to b are a group: apart from each other; whatever comes behind waits for them. -/
def groupB (md : Region.Mode) (ops : Array Oper) (os : List Nat) (a b : Nat) : Bool :=
  Nat.ble b ops.size &&
  ((List.range' a (b - a)).all fun k => match dstOf ops (ix os k) with
    | none => true
    | some d => (List.range' a (b - a)).all fun j => (Nat.beq j k || !(dstOf ops (ix os j) == some d)) && (match ops[ix os j]? with
      | some o => !((o.looksAt ops).contains d) || (Nat.blt k j && Region.waitsFor md ops (ix os j) (ix os k))
      | none => true)) &&
  (Nat.beq b ops.size || ((List.range' a (b - a)).all fun k => (List.range (b + 1)).any fun j => Nat.blt k j && Region.waitsFor md ops (ix os j) (ix os k))) &&
  ((List.range ops.size).all fun p => Nat.ble p b || ((List.range' b (p - b)).any fun s => Region.waitsFor md ops (ix os p) (ix os s)) || (Nat.beq b (a + 1) && Region.waitsFor md ops (ix os p) (ix os a)))

structure OrdOk (md : Region.Mode) (ops : Array Oper) (os : List Nat) : Prop where
  len : os.length = ops.size
  lt : ∀ p, p < ops.size → ix os p < ops.size
  surj : ∀ i, i < ops.size → ∃ p, p < ops.size ∧ i = ix os p
  inj : ∀ p q, p < ops.size → q < ops.size → ix os p = ix os q → p = q
  back : ∀ (p : Nat) (o : Oper), p < ops.size → ops[ix os p]? = some o → ∀ e ∈ o.after, Region.binds md e = true → ∃ q, q < p ∧ e.on = ix os q

structure GroupOk (md : Region.Mode) (ops : Array Oper) (os : List Nat) (a n : Nat) : Prop extends OrdOk md ops os where
  le : n ≤ ops.size
  apart : ∀ (k j : Nat) (d : Tmp), a ≤ k → k < n → a ≤ j → j < n → dstOf ops (ix os k) = some d → j ≠ k → dstOf ops (ix os j) ≠ some d
  looks : ∀ (k j : Nat) (d : Tmp) (o : Oper), a ≤ k → k < n → a ≤ j → j < n → dstOf ops (ix os k) = some d → ops[ix os j]? = some o → d ∈ o.looksAt ops → k < j ∧ Region.waitsFor md ops (ix os j) (ix os k) = true
  sink : n < ops.size → ∀ k, a ≤ k → k < n → ∃ j, k < j ∧ j ≤ n ∧ Region.waitsFor md ops (ix os j) (ix os k) = true
  chain : ∀ p, n < p → p < ops.size → (∃ s, n ≤ s ∧ s < p ∧ Region.waitsFor md ops (ix os p) (ix os s) = true) ∨ (n = a + 1 ∧ Region.waitsFor md ops (ix os p) (ix os a) = true)

theorem mem_take_ix {os : List Nat} {p x : Nat} (hp : p ≤ os.length) (h : x ∈ os.take p) : ∃ q, q < p ∧ x = ix os q := by
  obtain ⟨q, hq, hx⟩ := List.getElem_of_mem h
  have hq' : q < p := by rw [List.length_take] at hq; omega
  refine ⟨q, hq', ?_⟩
  rw [List.getElem_take] at hx
  unfold ix
  rw [List.getD_eq_getElem?_getD, List.getElem?_eq_getElem (by omega), hx]; rfl
theorem ix_mem_take {os : List Nat} {p q : Nat} (hp : p ≤ os.length) (hq : q < p) : ix os q ∈ os.take p := by
  unfold ix
  rw [List.getD_eq_getElem?_getD, List.getElem?_eq_getElem (by omega)]
  exact List.mem_take_iff_getElem.2 ⟨q, by omega, rfl⟩

theorem ordB_spec {md : Region.Mode} {os : List Nat} (h : ordB md ops os = true) : OrdOk md ops os := by
  simp only [ordB, Bool.and_eq_true, List.all_eq_true, List.mem_range] at h
  obtain ⟨⟨⟨⟨h0, h2⟩, hsj⟩, h3⟩, h4⟩ := h
  have hlen : os.length = ops.size := Nat.eq_of_beq_eq_true h0
  have hne : ∀ p q, q < p → p < ops.size → ix os p ≠ ix os q := by
    intro p q hqp hp heq
    have h7 := h3 p hp
    rw [heq] at h7
    have h8 : (os.take p).contains (ix os q) = true := List.contains_iff_mem.2 (ix_mem_take (by omega) hqp)
    rw [h8] at h7; cases h7
  refine ⟨hlen, fun p hp => ?_, fun i hi => ?_, fun p q hp hq heq => ?_, fun p o hp ho e he hb => ?_⟩
  · have : ix os p ∈ os := by
      have := ix_mem_take (os := os) (p := os.length) (q := p) (Nat.le_refl _) (by omega)
      rwa [List.take_length] at this
    have := h2 _ this
    rwa [Nat.blt_eq] at this
  · have := List.contains_iff_mem.1 (hsj i hi)
    rw [← List.take_length (l := os)] at this
    obtain ⟨q, hq, hx⟩ := mem_take_ix (Nat.le_refl _) this
    exact ⟨q, by omega, hx⟩
  · rcases Nat.lt_trichotomy p q with h | h | h
    · exact absurd heq.symm (hne q p h hq)
    · exact h
    · exact absurd heq (hne p q h hp)
  · have := h4 p hp
    rw [ho] at this
    simp only [Array.all_eq_true_iff_forall_mem] at this
    have := this e he
    rw [hb] at this
    simp only [Bool.not_true, Bool.false_or] at this
    exact mem_take_ix (by omega) (List.contains_iff_mem.1 this)

theorem mem_range'_iff {a n x : Nat} (h : a ≤ n) : x ∈ List.range' a (n - a) ↔ a ≤ x ∧ x < n := by
  rw [List.mem_range'_1]
  constructor
  · rintro ⟨h1, h2⟩; exact ⟨h1, by omega⟩
  · rintro ⟨h1, h2⟩; exact ⟨h1, by omega⟩

theorem groupB_spec {md : Region.Mode} {os : List Nat} {a n : Nat} (hO : OrdOk md ops os) (han : a ≤ n) (h : groupB md ops os a n = true) : GroupOk md ops os a n := by
  simp only [groupB, Bool.and_eq_true, List.all_eq_true, Bool.or_eq_true, List.any_eq_true] at h
  obtain ⟨⟨⟨h1, h5⟩, h6⟩, h7⟩ := h
  have hle : n ≤ ops.size := Nat.le_of_ble_eq_true h1
  refine ⟨hO, hle, fun k j d hk hk2 hj hj2 hd hne => ?_, fun k j d o hk hk2 hj hj2 hd ho hm => ?_, fun hlt k hk hk2 => ?_, fun p hp hps => ?_⟩
  · have := h5 k ((mem_range'_iff han).2 ⟨hk, hk2⟩)
    rw [hd] at this
    simp only [List.all_eq_true, Bool.and_eq_true, Bool.or_eq_true] at this
    rcases (this j ((mem_range'_iff han).2 ⟨hj, hj2⟩)).1 with h9 | h9
    · exact absurd (Nat.eq_of_beq_eq_true h9) hne
    · intro hjd
      rw [hjd] at h9
      simp at h9
  · have := h5 k ((mem_range'_iff han).2 ⟨hk, hk2⟩)
    rw [hd] at this
    simp only [List.all_eq_true, Bool.and_eq_true, Bool.or_eq_true] at this
    have h9 := (this j ((mem_range'_iff han).2 ⟨hj, hj2⟩)).2
    rw [ho] at h9
    simp only [Bool.or_eq_true, Bool.and_eq_true, Bool.not_eq_true', Nat.blt_eq] at h9
    rcases h9 with h9 | h9
    · have hc : (o.looksAt ops).contains d = true := List.contains_iff_mem.2 hm
      rw [hc] at h9; cases h9
    · exact h9
  · rcases h6 with h6 | h6
    · have := Nat.eq_of_beq_eq_true h6; omega
    · obtain ⟨j, hj, hj1, hj2⟩ := h6 k ((mem_range'_iff han).2 ⟨hk, hk2⟩)
      rw [Nat.blt_eq] at hj1
      have := List.mem_range.1 hj
      exact ⟨j, hj1, by omega, hj2⟩
  · rcases h7 p (List.mem_range.2 hps) with (h9 | h9) | h9
    · have := Nat.le_of_ble_eq_true h9; omega
    · obtain ⟨s, hs, hs2⟩ := h9
      obtain ⟨hs3, hs4⟩ := (mem_range'_iff (by omega)).1 hs
      exact .inl ⟨s, hs3, hs4, hs2⟩
    · exact .inr ⟨Nat.eq_of_beq_eq_true h9.1, h9.2⟩

/-- All before the group are done, none behind it. -/
structure HeadO (md : Region.Mode) (ops : Array Oper) (os : List Nat) (a n : Nat) (listed : Array Bool) : Prop where
  size : listed.size = ops.size
  closed : ∀ (j : Nat) (oj : Oper), ops[j]? = some oj → listed.getD j false = true → ∀ e ∈ oj.after, Region.binds md e = true → listed.getD e.on false = true
  front : ∀ p, p < a → listed.getD (ix os p) false = true
  tail : ∀ t, n ≤ t → t < ops.size → listed.getD (ix os t) true = false

theorem HeadO.set {md : Region.Mode} {os : List Nat} {a n p : Nat} {listed : Array Bool} (inv : HeadO md ops os a n listed) (hD : GroupOk md ops os a n) (hi : ix os p ∈ Region.ready md ops listed) (hin : p < n) : HeadO md ops os a n (listed.setIfInBounds (ix os p) true) := by
  obtain ⟨_, oi, hoi, hall⟩ := mem_ready.1 hi
  refine ⟨by simp [inv.size], fun j oj hj hl e he hb => ?_, fun q hq => getD_set_true (inv.front q hq), fun t ht ht' => ?_⟩
  · by_cases hij : ix os p = j
    · subst hij
      have : oj = oi := Option.some.inj (hj.symm.trans hoi)
      subst this
      exact getD_set_true (hall e he hb)
    · rw [getD_set_ne false hij] at hl
      exact getD_set_true (inv.closed j oj hj hl e he hb)
  · have hne : ix os p ≠ ix os t := by
      intro h
      have := hD.inj p t (by have := hD.le; omega) ht' h
      omega
    rw [getD_set_ne true hne]; exact inv.tail t ht ht'

theorem tail_waitsO {md : Region.Mode} {os : List Nat} {a n : Nat} {listed : Array Bool} (hD : GroupOk md ops os a n) (inv : HeadO md ops os a n listed) :
    ∀ (d i : Nat), n - i = d → a ≤ i → i < n → listed.getD (ix os i) true = false → ∀ t, n ≤ t → t < ops.size → ix os t ∉ Region.ready md ops listed := by
  intro d
  induction d using Nat.strongRecOn with
  | _ d ih =>
    intro i hd hai hi hun t ht htlt hr
    obtain ⟨_, ot, hot, hall⟩ := mem_ready.1 hr
    by_cases htn : t = n
    · subst htn
      obtain ⟨j, hj1, hjle, hj2⟩ := hD.sink htlt i hai hi
      obtain ⟨oj, hoj, e, he, hb, hon⟩ := Region.waitsFor_spec hj2
      by_cases hjt : j = t
      · subst hjt
        have : oj = ot := Option.some.inj (hoj.symm.trans hot)
        subst this
        have h2 := hall e he hb
        rw [hon, getD_both hun] at h2
        cases h2
      · cases hl : listed.getD (ix os j) false with
        | true =>
          have h2 := inv.closed _ oj hoj hl e he hb
          rw [hon, getD_both hun] at h2
          cases h2
        | false =>
          have hjs : ix os j < listed.size := by rw [inv.size]; exact hD.lt j (by omega)
          exact ih (t - j) (by omega) j rfl (by omega) (by omega) (getD_in hjs hl) t (Nat.le_refl _) htlt hr
    · rcases hD.chain t (by omega) htlt with ⟨s, hs1, hs2, hs3⟩ | ⟨hn1, hs3⟩
      · obtain ⟨o', ho', e, he, hb, hon⟩ := Region.waitsFor_spec hs3
        have : o' = ot := Option.some.inj (ho'.symm.trans hot)
        subst this
        have h2 := hall e he hb
        rw [hon, getD_both (inv.tail s hs1 (by omega))] at h2
        cases h2
      · obtain ⟨o', ho', e, he, hb, hon⟩ := Region.waitsFor_spec hs3
        have : o' = ot := Option.some.inj (ho'.symm.trans hot)
        subst this
        have h2 := hall e he hb
        have hia : i = a := by omega
        subst hia
        rw [hon, getD_both hun] at h2
        cases h2

/-- Operations that look at no place and write none. -/
def blindO (o : Oper) : Bool :=
  match o.op with
  | .move _ | .assign _ | .extract _ _ => true
  | _ => false

theorem opsI_cons {lim : Nat} {x : Nat × Bool} {l : List (Nat × Bool)} {t : List Value} {σ : AS} : opsI P E rec ops lim (x :: l) t σ = match ops[x.1]? with
    | some o => andThen (op1 P E rec ops x.2 lim o t σ) fun v σ' => opsI P E rec ops lim l (putT t o.dst v) σ'
    | none => none := by
  simp only [opsI]
  cases ops[x.1]? with
  | none => rfl
  | some o =>
    dsimp only
    rcases op1 P E rec ops x.2 lim o t σ with _ | ⟨v, σ1⟩ <;> rfl

theorem opsI_append {lim : Nat} : ∀ (l m : List (Nat × Bool)) (t : List Value) (σ : AS), opsI P E rec ops lim (l ++ m) t σ = andThen (opsI P E rec ops lim l t σ) fun t1 σ1 => opsI P E rec ops lim m t1 σ1
  | [], m, t, σ => rfl
  | x :: l, m, t, σ => by
    simp only [List.cons_append, opsI_cons]
    cases ops[x.1]? with
    | none => rfl
    | some o =>
      dsimp only
      rcases op1 P E rec ops x.2 lim o t σ with _ | ⟨v, σ'⟩
      · rfl
      · simp only [andThen]
        rw [opsI_append l m]
        rfl

theorem blind_op1 {q : Bool} {lim : Nat} {o : Oper} (hb : blindO o = true) {t : List Value} {σ σ' : AS} {v : Value} (h : op1 P E rec ops q lim o t σ = some (v, σ')) : σ' = σ ∧ ∀ q' lim' σ2, op1 P E rec ops q' lim' o t σ2 = some (v, σ2) := by
  unfold op1 at h ⊢
  cases hq : Region.wanted o (yieldedL ops t) with
  | false =>
    rw [hq] at h
    simp only [cond_false, Option.some.injEq, Prod.mk.injEq] at h
    obtain ⟨rfl, rfl⟩ := h
    exact ⟨rfl, fun _ _ _ => rfl⟩
  | true =>
    rw [hq] at h
    simp only [cond_true] at h ⊢
    obtain ⟨dst, op, type, pos, after, guard⟩ := o
    cases op <;> (try (cases hb; done))
    case move x =>
      have h : some (ev t x, σ) = some (v, σ') := h
      simp only [Option.some.injEq, Prod.mk.injEq] at h
      obtain ⟨rfl, rfl⟩ := h
      exact ⟨rfl, fun _ _ _ => rfl⟩
    case assign x =>
      have h : some (ev t x, σ) = some (v, σ') := h
      simp only [Option.some.injEq, Prod.mk.injEq] at h
      obtain ⟨rfl, rfl⟩ := h
      exact ⟨rfl, fun _ _ _ => rfl⟩
    case extract x i =>
      have e : ∀ lim' σ2, operA P E rec lim' ⟨dst, .extract x i, type, pos, after, guard⟩ t σ2 = nextAny (runA P lim' (do pure (Next.value (← Instr.extract (ev t x) i))) σ2) := fun _ _ => rfl
      rw [e] at h
      simp only [e]
      rw [runA_bind] at h
      simp only [runA_bind]
      generalize ev t x = u at h
      cases u <;> (try (cases h; done))
      case tuple vs =>
        simp only [Instr.extract] at h ⊢
        cases hv : vs[i]? with
        | none => rw [hv] at h; cases h
        | some y =>
          rw [hv] at h
          have h : some (y, σ) = some (v, σ') := h
          simp only [Option.some.injEq, Prod.mk.injEq] at h
          obtain ⟨rfl, rfl⟩ := h
          exact ⟨rfl, fun _ _ _ => rfl⟩

/-- The run of the operations in any order, spelled out. -/
def StepAt (P : Program) (E : Env) (rec : Rec) (ops : Array Oper) (os : List Nat) (fl : Nat → Bool) (lim : Nat) (T : Nat → List Value) (S : Nat → AS) (V : Nat → Value) (j : Nat) : Prop :=
  ∃ o, ops[ix os j]? = some o ∧ op1 P E rec ops (fl j) lim o (T j) (S j) = some (V j, S (j + 1)) ∧ T (j + 1) = putT (T j) o.dst (V j)

theorem exists_run {os : List Nat} {fl : Nat → Bool} {lim : Nat} : ∀ (l : List (Nat × Bool)) (m : Nat) (t : List Value) (σ : AS) (t1 : List Value) (σ1 : AS), (∀ (i : Nat) (x : Nat × Bool), l[i]? = some x → x.1 = ix os (m + i) ∧ x.2 = fl (m + i)) → opsI P E rec ops lim l t σ = some (t1, σ1) →
    ∃ (T : Nat → List Value) (S : Nat → AS) (V : Nat → Value), T m = t ∧ S m = σ ∧ T (m + l.length) = t1 ∧ S (m + l.length) = σ1 ∧ ∀ j, m ≤ j → j < m + l.length → StepAt P E rec ops os fl lim T S V j
  | [], m, t, σ, t1, σ1, _, h => by
    simp only [opsI, Option.some.injEq, Prod.mk.injEq] at h
    obtain ⟨rfl, rfl⟩ := h
    exact ⟨fun _ => t, fun _ => σ, fun _ => undef, rfl, rfl, rfl, rfl, fun j h1 h2 => by simp at h2; omega⟩
  | x :: l, m, t, σ, t1, σ1, hx, h => by
    rw [opsI_cons] at h
    obtain ⟨hx1, hx2⟩ := hx 0 x rfl
    rw [Nat.add_zero] at hx1 hx2
    cases ho : ops[x.1]? with
    | none => rw [ho] at h; cases h
    | some o =>
    rw [ho] at h
    dsimp only at h
    cases h1 : op1 P E rec ops x.2 lim o t σ with
    | none => rw [h1] at h; cases h
    | some r =>
      obtain ⟨v, σ'⟩ := r
      rw [h1] at h
      obtain ⟨T, S, V, e1, e2, e3, e4, e5⟩ := exists_run l (m + 1) (putT t o.dst v) σ' t1 σ1 (fun i y hi => by have := hx (i + 1) y (by simpa using hi); rw [show m + 1 + i = m + (i + 1) by omega]; exact this) h
      refine ⟨fun j => if j = m then t else T j, fun j => if j = m then σ else S j, fun j => if j = m then v else V j, by simp, by simp, ?_, ?_, fun j hj hj2 => ?_⟩
      · simp only [List.length_cons]
        rw [if_neg (by omega), show m + (l.length + 1) = m + 1 + l.length by omega]; exact e3
      · simp only [List.length_cons]
        rw [if_neg (by omega), show m + (l.length + 1) = m + 1 + l.length by omega]; exact e4
      · by_cases hm : j = m
        · subst hm
          refine ⟨o, by rw [← hx1]; exact ho, ?_, ?_⟩
          · simp only [if_true]
            rw [if_neg (by omega), ← hx2, h1, e2]
          · simp only [if_true]
            rw [if_neg (by omega), e1]
        · obtain ⟨o', g1, g2, g3⟩ := e5 j (by omega) (by simp at hj2; omega)
          refine ⟨o', g1, ?_, ?_⟩
          · dsimp only; rw [if_neg hm, if_neg hm, if_neg hm, if_neg (by omega)]; exact g2
          · dsimp only; rw [if_neg (by omega), if_neg hm, if_neg hm]; exact g3

theorem least {p : Nat → Prop} (h : ∃ j, p j) : ∃ j, p j ∧ ∀ i, i < j → ¬ p i := by
  obtain ⟨j, hj⟩ := h
  induction j using Nat.strongRecOn with
  | _ j ih =>
    by_cases hs : ∃ i, i < j ∧ p i
    · obtain ⟨i, h1, h2⟩ := hs
      exact ih i h1 h2
    · exact ⟨j, hj, fun i h1 h2 => hs ⟨i, h1, h2⟩⟩

/-- The relation hangs on the places that the injection knows. -/
theorem R.dom {β : Inj} {σ σ' : AS} {w : World} (hR : R K W0 N0 β σ w) (h : ∀ i e, β i = some e → σ'.get i = σ.get i) : R K W0 N0 β σ' w where
  cells hb hg := hR.cells hb (by rw [← h _ _ hb]; exact hg)
  obj hb hg := hR.obj hb (by rw [← h _ _ hb]; exact hg)
  excl hij hi hj hgi hgj := hR.excl hij hi hj (by rw [← h _ _ hi]; exact hgi) (by rw [← h _ _ hj]; exact hgj)
  lt := hR.lt
  base := hR.base
  top := hR.top
  code hb hg := hR.code hb (by rw [← h _ _ hb]; exact hg)

section draw
variable {md : Region.Mode} {os : List Nat} {fl : Nat → Bool} {lim a n : Nat} {T : Nat → List Value} {S : Nat → AS} {V : Nat → Value}

/-- What the run of the prefix is known to be. -/
structure Pre (md : Region.Mode) (P : Program) (E : Env) (rec : Rec) (ops : Array Oper) (os : List Nat) (fl : Nat → Bool) (lim a n : Nat) (T : Nat → List Value) (S : Nat → AS) (V : Nat → Value) : Prop where
  ok : GroupOk md ops os a n
  step : ∀ j, a ≤ j → j < n → StepAt P E rec ops os fl lim T S V j
  quiet : ∀ j, a ≤ j → j < n → Kept (S j).next (S j) (S (j + 1))
  an : a ≤ n
  wf : (S a).Wf

theorem Pre.heaps (hP : Pre md P E rec ops os fl lim a n T S V) (i : Nat) (hai : a ≤ i) : ∀ j, i ≤ j → j ≤ n → (S i).Wf → (S i).next ≤ (S j).next ∧ (S j).Wf ∧ ∀ id, id < (S i).next → (S j).get id = (S i).get id := by
  intro j
  induction j with
  | zero => intro h1 _ hw; have : i = 0 := by omega
            subst this; exact ⟨Nat.le_refl _, hw, fun _ _ => rfl⟩
  | succ j ih =>
    intro h1 h2 hw
    by_cases hij : i = j + 1
    · subst hij; exact ⟨Nat.le_refl _, hw, fun _ _ => rfl⟩
    · obtain ⟨e1, e2, e3⟩ := ih (by omega) (by omega) hw
      have hk := hP.quiet j (by omega) (by omega)
      exact ⟨Nat.le_trans e1 hk.next, hk.wf e2, fun id hid => (hk.old id (by omega) (by omega)).trans (e3 id hid)⟩

theorem Pre.wfs (hP : Pre md P E rec ops os fl lim a n T S V) (j : Nat) (haj : a ≤ j) (hj : j ≤ n) : (S j).Wf := (hP.heaps a (Nat.le_refl _) j haj hj hP.wf).2.1
theorem Pre.nexts (hP : Pre md P E rec ops os fl lim a n T S V) {i j : Nat} (hai : a ≤ i) (hij : i ≤ j) (hj : j ≤ n) : (S i).next ≤ (S j).next := (hP.heaps i hai j hij hj (hP.wfs i hai (by omega))).1

theorem length_putT (t : List Value) (d : Option Tmp) (v : Value) : (putT t d v).length = t.length := by cases d <;> simp [putT]

theorem Pre.len (hP : Pre md P E rec ops os fl lim a n T S V) : ∀ j, a ≤ j → j ≤ n → (T j).length = (T a).length := by
  intro j
  induction j with
  | zero => intro h _; rw [Nat.le_zero.1 h]
  | succ j ih =>
    intro haj hj
    by_cases h : a = j + 1
    · rw [h]
    · obtain ⟨o, g1, g2, g3⟩ := hP.step j (by omega) (by omega)
      rw [g3, length_putT, ih (by omega) (by omega)]

theorem Pre.same (hP : Pre md P E rec ops os fl lim a n T S V) (x : Nat) : ∀ j, a ≤ j → j ≤ n → (∀ k, a ≤ k → k < j → dstOf ops (ix os k) ≠ some x) → (T j)[x]? = (T a)[x]? := by
  intro j
  induction j with
  | zero => intro h _ _; rw [Nat.le_zero.1 h]
  | succ j ih =>
    intro haj hj hk
    by_cases h : a = j + 1
    · rw [h]
    · obtain ⟨o, g1, g2, g3⟩ := hP.step j (by omega) (by omega)
      rw [g3, ← ih (by omega) (by omega) (fun k h h' => hk k h (by omega))]
      have := hk j (by omega) (by omega)
      simp only [dstOf, g1, Option.bind_some] at this
      cases hd : o.dst with
      | none => rfl
      | some d =>
        rw [hd] at this
        simp only [putT]
        rw [List.getElem?_set_ne]
        intro h; exact this (by rw [h])

theorem Pre.val (hP : Pre md P E rec ops os fl lim a n T S V) {k : Nat} (x : Nat) (hak : a ≤ k) (hd : dstOf ops (ix os k) = some x) (hx : x < (T a).length) : ∀ j, k < j → j ≤ n → (T j)[x]? = some (V k) := by
  intro j
  induction j with
  | zero => intro h; omega
  | succ j ih =>
    intro hk hj
    obtain ⟨o, g1, g2, g3⟩ := hP.step j (by omega) (by omega)
    rw [g3]
    by_cases hjk : j = k
    · subst hjk
      simp only [dstOf, g1, Option.bind_some] at hd
      rw [hd]
      simp only [putT]
      rw [List.getElem?_set_self]
      rw [hP.len j (by omega) (by omega)]; exact hx
    · have hne := hP.ok.apart k j x hak (by omega) (by omega) (by omega) hd hjk
      simp only [dstOf, g1, Option.bind_some] at hne
      rw [← ih (by omega) (by omega)]
      cases hd' : o.dst with
      | none => rfl
      | some d =>
        rw [hd'] at hne
        simp only [putT]
        rw [List.getElem?_set_ne]
        intro h; exact hne (by rw [h])

/-- Where the machine stands, when some of the operations are done. -/
structure Inv (md : Region.Mode) (K : FuncId → Code → Prop) (W0 : World) (N0 : Nat) (ops : Array Oper) (os : List Nat) (a n : Nat) (T : Nat → List Value) (S : Nat → AS) (V : Nat → Value) (τ : AS) (β0 β : Inj) (listed : Array Bool) (tr : Array Value) (w : World) : Prop where
  head : HeadO md ops os a n listed
  ext : Ext β0 β (S a) (S n)
  fresh : ∀ j, a ≤ j → j < n → listed.getD (ix os j) true = false → ∀ i, (S j).next ≤ i → i < (S (j + 1)).next → β i = none
  rel : R K W0 N0 β τ w
  size : tr.size = (T a).length
  old : ∀ x, (∀ k, a ≤ k → k < n → dstOf ops (ix os k) ≠ some x) → lkRel β (T a)[x]? tr[x]?
  new : ∀ k, a ≤ k → k < n → listed.getD (ix os k) false = true → ∀ x, dstOf ops (ix os k) = some x → x < (T a).length → ∃ v', tr[x]? = some v' ∧ vRel β (V k) v'

theorem size_putA (t : Array Value) (d : Option Tmp) (v : Value) : (putA t d v).size = t.size := by cases d <;> simp [putA]

theorem Inv.step (H : Given P K W0 N0 G E rec) (hP : Pre md P E rec ops os fl lim a n T S V) (hB : ∀ (j : Nat) (o : Oper), ops[j]? = some o → opB G o = true) {τ : AS} (hτ : ∀ i, i < (S n).next → τ.get i = (S n).get i) {β0 β : Inj} (hG : GlobOk G β0) {listed : Array Bool} {tr : Array Value} {w : World}
    (inv : Inv md K W0 N0 ops os a n T S V τ β0 β listed tr w) {i : Nat} (hi : ix os i ∈ Region.ready md ops listed) (hai : a ≤ i) (hin : i < n) (b : Frame) (d : List Deferred) (rest : List Nat) (k : List Item) (cs : List Frame) :
    ∃ w' β' tr', Inv md K W0 N0 ops os a n T S V τ β0 β' (listed.setIfInBounds (ix os i) true) tr' w' ∧ Steps P (lone (Fr b tr d (.inRegion ops (ix os i :: rest) :: k)) cs w) (lone (Fr b tr' d (.inRegion ops rest :: k)) cs w') := by
  obtain ⟨hun, o, ho, hall⟩ := mem_ready.1 hi
  obtain ⟨o', g1, g2, g3⟩ := hP.step i hai hin
  have : o' = o := Option.some.inj (g1.symm.trans ho)
  subst this
  have hwi := hP.wfs i hai (by omega)
  have hw1 := hP.wfs (i + 1) (by omega) (by omega)
  have n1 := hP.nexts (i := i) (j := i + 1) hai (by omega) (by omega)
  have n2 := hP.nexts (i := i + 1) (j := n) (by omega) (by omega) (by omega)
  have n0 := hP.nexts (i := a) (j := i) (Nat.le_refl _) hai (by omega)
  obtain ⟨_, _, get1⟩ := hP.heaps i hai n (by omega) (Nat.le_refl _) hwi
  obtain ⟨_, _, get2⟩ := hP.heaps (i + 1) (by omega) n (by omega) (Nat.le_refl _) hw1
  have hl : (S i).Like { τ with next := (S i).next } := ⟨rfl, fun id hid => by
    show τ.get id = _
    rw [hτ id (by omega), get1 id hid]⟩
  have hR : R K W0 N0 β { τ with next := (S i).next } w := inv.rel.dom fun _ _ _ => rfl
  have hf : Fresh β (S i) (S (i + 1)) := fun id h1 h2 => inv.fresh i hai hin hun id h1 h2
  have hs : Sees ops β o' (T i) tr := by
    intro x hx
    by_cases hk : ∃ k, a ≤ k ∧ k < n ∧ dstOf ops (ix os k) = some x
    · obtain ⟨k, hak, hk, hd⟩ := hk
      obtain ⟨hki, hwt⟩ := hP.ok.looks k i x o' hak hk hai hin hd ho hx
      obtain ⟨oj, hoj, e, he, hb, hon⟩ := Region.waitsFor_spec hwt
      have : oj = o' := Option.some.inj (hoj.symm.trans ho)
      subst this
      have hlk := hall e he hb
      rw [hon] at hlk
      by_cases hx : x < (T a).length
      · obtain ⟨v', h1, h2⟩ := inv.new k hak hk hlk x hd hx
        exact .inr ⟨_, v', hP.val x hak hd hx i hki (by omega), h1, h2⟩
      · refine .inl ⟨?_, ?_⟩
        · rw [List.getElem?_eq_none_iff, hP.len i hai (by omega)]; exact Nat.le_of_not_lt hx
        · rw [Array.getElem?_eq_none_iff, inv.size]; exact Nat.le_of_not_lt hx
    · have hno : ∀ k, a ≤ k → k < n → dstOf ops (ix os k) ≠ some x := fun k h0 h1 h2 => hk ⟨k, h0, h1, h2⟩
      rw [hP.same x i hai (by omega) fun k h0 h1 => hno k h0 (by omega)]
      exact inv.old x hno
  obtain ⟨v', w', ⟨β', τ', x1, l1, R1, hv⟩, hst⟩ := op_steps H ho g2 (hB (ix os i) o' ho) hwi hl hR hf (hG.mono inv.ext.1) hs b d rest k cs
  refine ⟨w', β', putA tr o'.dst v', ⟨inv.head.set hP.ok hi hin, ?_, ?_, ?_, ?_, ?_, ?_⟩, hst⟩
  · refine ⟨inv.ext.1.trans x1.1, fun id e he => ?_⟩
    rcases x1.2 id e he with h1 | h1
    · exact inv.ext.2 id e h1
    · exact .inr (by omega)
  · intro j haj hj hju id h1 h2
    have hle := hP.ok.le
    have hne : i ≠ j := by
      intro h; subst h
      have hsz : ix os i < listed.size := by rw [inv.head.size]; exact (Array.getElem?_eq_some_iff.1 ho).1
      simp [hsz] at hju
    have hne' : ix os i ≠ ix os j := fun h => hne (hP.ok.inj i j (by omega) (by omega) h)
    rw [getD_set_ne true hne'] at hju
    cases hb : β' id with
    | none => rfl
    | some e =>
      rcases x1.2 id e hb with h3 | h3
      · rw [inv.fresh j haj hj hju id h1 h2] at h3; cases h3
      · rcases Nat.lt_or_gt_of_ne hne with h4 | h4
        · have := hP.nexts (i := i + 1) (j := j) (by omega) (by omega) (by omega); omega
        · have := hP.nexts (i := j + 1) (j := i) (by omega) (by omega) (by omega); omega
  · refine R1.dom fun id e _ => ?_
    rcases Nat.lt_or_ge id (S (i + 1)).next with h | h
    · rw [l1.below id h, hτ id (by omega), get2 id h]
    · rw [l1.above id h]; rfl
  · rw [size_putA]; exact inv.size
  · intro x hx
    have hno := hx i hai hin
    simp only [dstOf, ho, Option.bind_some] at hno
    have : (putA tr o'.dst v')[x]? = tr[x]? := by
      cases hd : o'.dst with
      | none => rfl
      | some d =>
        rw [hd] at hno
        simp only [putA]
        rw [Array.getElem?_setIfInBounds_ne]
        intro h; exact hno (by rw [h])
    rw [this]
    exact (inv.old x hx).mono x1.1
  · intro j haj hj hlj x hd hx
    by_cases hij : i = j
    · subst hij
      simp only [dstOf, ho, Option.bind_some] at hd
      rw [hd]
      refine ⟨v', ?_, hv⟩
      simp only [putA]
      rw [Array.getElem?_setIfInBounds_self_of_lt]
      rw [inv.size]; exact hx
    · have hle := hP.ok.le
      have hij' : ix os i ≠ ix os j := fun h => hij (hP.ok.inj i j (by omega) (by omega) h)
      rw [getD_set_ne false hij'] at hlj
      obtain ⟨u', h1, h2⟩ := inv.new j haj hj hlj x hd hx
      refine ⟨u', ?_, h2.mono x1.1⟩
      have hne := hP.ok.apart j i x haj hj hai hin hd hij
      simp only [dstOf, ho, Option.bind_some] at hne
      cases hd' : o'.dst with
      | none => exact h1
      | some d =>
        rw [hd'] at hne
        simp only [putA]
        rw [Array.getElem?_setIfInBounds_ne]
        · exact h1
        · intro h; exact hne (by rw [h])

theorem go_step {fuel t : Nat} {listed : Array Bool} (h : Region.ready md ops listed ≠ []) :
    ∃ i t', i ∈ Region.ready md ops listed ∧ Region.linearise.go md ops (fuel + 1) t listed [] = i :: Region.linearise.go md ops fuel t' (listed.setIfInBounds i true) [] := by
  have hlt : t % (Region.ready md ops listed).length < (Region.ready md ops listed).length := Nat.mod_lt _ (List.length_pos_iff.2 h)
  refine ⟨(Region.ready md ops listed)[t % (Region.ready md ops listed).length], t / (Region.ready md ops listed).length, List.getElem_mem hlt, ?_⟩
  simp only [Region.linearise.go]
  change (match (Region.ready md ops listed)[t % (Region.ready md ops listed).length]? with
      | some i => Region.linearise.go md ops fuel (t / (Region.ready md ops listed).length) (listed.setIfInBounds i true) [i]
      | none => [].reverse) = _
  rw [List.getElem?_eq_getElem hlt]
  simp only []
  rw [linearise_go_acc]
  rfl

theorem Inv.all (H : Given P K W0 N0 G E rec) (hP : Pre md P E rec ops os fl lim a n T S V) (hB : ∀ (j : Nat) (o : Oper), ops[j]? = some o → opB G o = true) {τ : AS} (hτ : ∀ i, i < (S n).next → τ.get i = (S n).get i) {β0 : Inj} (hG : GlobOk G β0) (b : Frame) (d : List Deferred) (k : List Item) (cs : List Frame) :
    ∀ (m : Nat) (U : List Nat) (listed : Array Bool) (tr : Array Value) (w : World) (β : Inj) (t : Nat), U.length = m → U.Nodup → (∀ j, j ∈ U ↔ (a ≤ j ∧ j < n) ∧ listed.getD (ix os j) true = false) → Inv md K W0 N0 ops os a n T S V τ β0 β listed tr w →
    ∃ w' β' tr' listed' t', Inv md K W0 N0 ops os a n T S V τ β0 β' listed' tr' w' ∧ (∀ j, j < n → listed'.getD (ix os j) false = true) ∧
      Steps P (lone (Fr b tr d (.inRegion ops (Region.linearise.go md ops (m + (ops.size - n)) t listed []) :: k)) cs w) (lone (Fr b tr' d (.inRegion ops (Region.linearise.go md ops (ops.size - n) t' listed' []) :: k)) cs w') := by
  intro m
  have hle := hP.ok.le
  induction m with
  | zero =>
    intro U listed tr w β t hU _ hmem inv
    have hU : U = [] := List.length_eq_zero_iff.1 hU
    refine ⟨w, β, tr, listed, t, inv, fun j hj => ?_, ?_⟩
    · cases h : listed.getD (ix os j) false with
      | true => rfl
      | false =>
        by_cases haj : a ≤ j
        · have := (hmem j).2 ⟨⟨haj, hj⟩, getD_in (by rw [inv.head.size]; exact hP.ok.lt j (by omega)) h⟩
          rw [hU] at this; cases this
        · rw [inv.head.front j (by omega)] at h; cases h
    · rw [Nat.zero_add]; exact .refl _ _
  | succ m ih =>
    intro U listed tr w β t hU hnd hmem inv
    obtain ⟨u, hu⟩ : ∃ u, u ∈ U := by
      cases U with
      | nil => simp at hU
      | cons u _ => exact ⟨u, by simp⟩
    obtain ⟨j, hj, hleast⟩ := least (p := fun j => (a ≤ j ∧ j < n) ∧ listed.getD (ix os j) true = false) ⟨u, (hmem u).1 hu⟩
    have hjs : ix os j < ops.size := hP.ok.lt j (by omega)
    have hjr : ix os j ∈ Region.ready md ops listed := by
      refine mem_ready.2 ⟨hj.2, ops[ix os j], Array.getElem?_eq_getElem hjs, fun e he hb => ?_⟩
      obtain ⟨q, hlt, heq⟩ := hP.ok.back j ops[ix os j] (by omega) (Array.getElem?_eq_getElem hjs) e he hb
      rw [heq]
      cases h : listed.getD (ix os q) false with
      | true => rfl
      | false =>
        by_cases haq : a ≤ q
        · exact absurd ⟨⟨haq, by omega⟩, getD_in (by rw [inv.head.size]; exact hP.ok.lt q (by omega)) h⟩ (hleast q hlt)
        · rw [inv.head.front q (by omega)] at h; cases h
    obtain ⟨i0, t', hi, hgo⟩ := go_step (fuel := m + (ops.size - n)) (t := t) (listed := listed) (by intro h; rw [h] at hjr; cases hjr)
    have his : i0 < ops.size := by
      obtain ⟨_, o, ho, _⟩ := mem_ready.1 hi
      exact (Array.getElem?_eq_some_iff.1 ho).1
    obtain ⟨i, hips, rfl⟩ := hP.ok.surj i0 his
    have hin : i < n := by
      rcases Nat.lt_or_ge i n with h | h
      · exact h
      · exfalso
        exact tail_waitsO hP.ok inv.head _ j rfl hj.1.1 hj.1.2 hj.2 i h hips hi
    have hai : a ≤ i := by
      rcases Nat.lt_or_ge i a with h | h
      · have h1 := inv.head.front i h
        rw [getD_both (mem_ready.1 hi).1] at h1; cases h1
      · exact h
    obtain ⟨w1, β1, tr1, inv1, s1⟩ := inv.step H hP hB hτ hG hi hai hin b d (Region.linearise.go md ops (m + (ops.size - n)) t' (listed.setIfInBounds (ix os i) true) []) k cs
    have hiU : i ∈ U := (hmem i).2 ⟨⟨hai, hin⟩, (mem_ready.1 hi).1⟩
    obtain ⟨w', β', tr', listed', t'', inv', hl', s2⟩ := ih (U.erase i) (listed.setIfInBounds (ix os i) true) tr1 w1 β1 t' (by rw [List.length_erase_of_mem hiU]; omega) (hnd.erase i) (fun x => by
      rw [hnd.mem_erase_iff, hmem x]
      constructor
      · rintro ⟨h1, h2, h3⟩; exact ⟨h2, by rw [getD_set_ne true (fun h => h1 (hP.ok.inj x i (by omega) hips h.symm))]; exact h3⟩
      · rintro ⟨h1, h2⟩
        have hne : x ≠ i := by
          intro h; subst h
          have : ix os x < listed.size := by rw [inv.head.size]; exact his
          simp [this] at h2
        exact ⟨hne, h1, by rw [getD_set_ne true (fun h => hne (hP.ok.inj x i (by omega) hips h.symm))] at h2; exact h2⟩) inv1
    refine ⟨w', β', tr', listed', t'', inv', hl', ?_⟩
    rw [show m + 1 + (ops.size - n) = m + (ops.size - n) + 1 by omega, hgo]
    exact s1.trans s2

end draw

end Go.Va

/-
  SIMULATION: the groups of a region that draws its order, one behind the other.
-/
namespace Go.Va
open Go.RowKit
variable {P : Program} {K : FuncId → Code → Prop} {W0 : World} {N0 G : Nat} {E : Env} {rec : Rec} {ops : Array Oper} {md : Region.Mode} {os : List Nat} {fl : Nat → Bool} {lim a n : Nat}

def blindIx (ops : Array Oper) (i : Nat) : Bool := match ops[i]? with
  | some o => blindO o
  | none => false

/-- Just the operations before the place n are done. -/
def Done (md : Region.Mode) (ops : Array Oper) (os : List Nat) (n : Nat) (listed : Array Bool) : Prop := HeadO md ops os n n listed

theorem Done.head {listed : Array Bool} (h : Done md ops os a listed) (han : a ≤ n) : HeadO md ops os a n listed := ⟨h.size, h.closed, h.front, fun t ht => h.tail t (by omega)⟩

theorem group_any (H : Given P K W0 N0 G E rec) (hD : GroupOk md ops os a n) (han : a ≤ n) (hB : ∀ (j : Nat) (o : Oper), ops[j]? = some o → opB G o = true) {l : List (Nat × Bool)} (hlen : l.length = n - a) (hx : ∀ (i : Nat) (x : Nat × Bool), l[i]? = some x → x.1 = ix os (a + i) ∧ x.2 = fl (a + i))
    (hq : ∀ x ∈ l, x.2 = true ∨ blindIx ops x.1 = true) {t t1 : List Value} {tr : Array Value} {σ σ1 τ : AS} (h1 : opsI P E rec ops lim l t σ = some (t1, σ1)) {β : Inj} {w : World} (hw : σ.Wf) (hl : σ.Like τ) (hR : R K W0 N0 β τ w) (hf : Fresh β σ σ1) (hG : GlobOk G β)
    (ht : lRel β t tr.toList) {listed : Array Bool} (hd : Done md ops os a listed) (tape : Nat) (b : Frame) (d : List Deferred) (k : List Item) (cs : List Frame) :
    ∃ w' β' τ' tr' listed' tape', Ext β β' σ σ1 ∧ σ1.Led τ τ' ∧ R K W0 N0 β' τ' w' ∧ lRel β' t1 tr'.toList ∧ Done md ops os n listed' ∧
      Steps P (lone (Fr b tr d (.inRegion ops (Region.linearise.go md ops (ops.size - a) tape listed []) :: k)) cs w) (lone (Fr b tr' d (.inRegion ops (Region.linearise.go md ops (ops.size - n) tape' listed' []) :: k)) cs w') := by
  have hle := hD.le
  have hlen' := hD.len
  have han' : a + l.length = n := by omega
  obtain ⟨T, S, V, rfl, rfl, e3, e4, hst⟩ := exists_run (os := os) (fl := fl) l a t σ t1 σ1 hx h1
  rw [han'] at e3 e4 hst
  subst e3 e4
  have hP : Pre md P E rec ops os fl lim a n T S V := by
    have wf : ∀ j, a ≤ j → j ≤ n → (S j).Wf := by
      intro j
      induction j with
      | zero => intro h _; have : a = 0 := by omega
                subst this; exact hw
      | succ j ih =>
        intro haj hj
        by_cases h : a = j + 1
        · rw [← h]; exact hw
        · obtain ⟨o, g1, g2, g3⟩ := hst j (by omega) (by omega)
          exact ((good_op1 H.ovGood H.good) _ _ _ g2 (ih (by omega) (by omega))).1.wf (ih (by omega) (by omega))
    refine ⟨hD, hst, fun j haj hj => ?_, han, hw⟩
    obtain ⟨o, g1, g2, g3⟩ := hst j haj hj
    have hjl : j - a < l.length := by omega
    obtain ⟨hx1, hx2⟩ := hx (j - a) l[j - a] (List.getElem?_eq_getElem hjl)
    rw [show a + (j - a) = j by omega] at hx1 hx2
    rcases hq l[j - a] (by simp) with h | h
    · rw [← hx2, h] at g2
      exact quiet_op1 H.ovGood H.good g2 (wf j haj (by omega))
    · unfold blindIx at h
      rw [hx1, g1] at h
      rw [(blind_op1 h g2).1]
      exact .refl _ _
  obtain ⟨_, hwn, getn⟩ := hP.heaps a (Nat.le_refl _) n han (Nat.le_refl _) hw
  have kn := ((good_opsI H.ovGood H.good (P := P) (lim := lim) (ops := ops) l (T a)) (S a) (T n) (S n) h1 hw)
  obtain ⟨τn, _, ln⟩ := kn.2 τ hl
  have hτ : ∀ i, i < (S n).next → τn.get i = (S n).get i := ln.below
  have inv0 : Inv md K W0 N0 ops os a n T S V τn β β listed tr w := by
    refine ⟨hd.head han, ⟨.refl _, fun _ _ h => .inl h⟩, fun j haj hj _ i h3 h4 => ?_, hR.dom fun i e he => ?_, ?_, fun x _ => ht.look x, fun j haj hj hl' => ?_⟩
    · have n1 := hP.nexts (i := a) (j := j) (Nat.le_refl _) haj (by omega)
      have n2 := hP.nexts (i := j + 1) (j := n) (by omega) (by omega) (Nat.le_refl _)
      exact hf i (by omega) (by omega)
    · rcases Nat.lt_or_ge i (S a).next with h | h
      · rw [ln.below i (by have := kn.1.next; omega), getn i h, hl.2 i h]
      · rcases Nat.lt_or_ge i (S n).next with h' | h'
        · rw [hf i h h'] at he; cases he
        · exact ln.above i h'
    · have := ht.length; simp only [Array.length_toList] at this; omega
    · rw [getD_both (hd.tail j haj (by omega))] at hl'; cases hl'
  obtain ⟨w1, β1, tr1, listed', t', inv, hall, s1⟩ := Inv.all H hP hB hτ hG b d k cs (n - a) (List.range' a (n - a)) listed tr w β tape (by simp) List.nodup_range' (fun j => by
    rw [mem_range'_iff han]
    constructor
    · intro hj; exact ⟨hj, hd.tail j hj.1 (by omega)⟩
    · rintro ⟨hj, _⟩; exact hj) inv0
  have htn : lRel β1 (T n) tr1.toList := by
    have hsz := inv.size
    have hln := hP.len n han (Nat.le_refl _)
    refine lRel.of_get (by rw [hln, ← hsz]; simp) fun x hx hx' => ?_
    have hx0 : x < (T a).length := by rw [hln] at hx; exact hx
    have hxs : x < tr1.size := by simpa using hx'
    show vRel β1 (T n)[x] tr1[x]
    by_cases hk : ∃ k, a ≤ k ∧ k < n ∧ dstOf ops (ix os k) = some x
    · obtain ⟨k, hak, hk, hd⟩ := hk
      obtain ⟨v', e1, e2⟩ := inv.new k hak hk (hall k hk) x hd hx0
      have e3 := hP.val x hak hd hx0 n hk (Nat.le_refl _)
      rw [List.getElem?_eq_getElem hx, Option.some.injEq] at e3
      rw [Array.getElem?_eq_getElem hxs, Option.some.injEq] at e1
      rw [e3, e1]; exact e2
    · have hno : ∀ k, a ≤ k → k < n → dstOf ops (ix os k) ≠ some x := fun k h0 h1 h2 => hk ⟨k, h0, h1, h2⟩
      have e3 := hP.same x n han (Nat.le_refl _) hno
      rcases inv.old x hno with ⟨e1, _⟩ | ⟨v, v', e1, e2, e4⟩
      · rw [List.getElem?_eq_getElem hx0] at e1; cases e1
      · rw [e1, List.getElem?_eq_getElem hx, Option.some.injEq] at e3
        rw [Array.getElem?_eq_getElem hxs, Option.some.injEq] at e2
        rw [e3, e2]; exact e4
  refine ⟨w1, β1, τn, tr1, listed', t', inv.ext, ln, inv.rel, htn, ⟨inv.head.size, inv.head.closed, hall, inv.head.tail⟩, ?_⟩
  rw [show n - a + (ops.size - n) = ops.size - a by omega] at s1
  exact s1

theorem group_one (H : Given P K W0 N0 G E rec) (hD : GroupOk md ops os a (a + 1)) (hB : ∀ (j : Nat) (o : Oper), ops[j]? = some o → opB G o = true) {x : Nat × Bool} (hx : x.1 = ix os a) {t t1 : List Value} {tr : Array Value} {σ σ1 τ : AS}
    (h1 : opsI P E rec ops lim [x] t σ = some (t1, σ1)) {β : Inj} {w : World} (hw : σ.Wf) (hl : σ.Like τ) (hR : R K W0 N0 β τ w) (hf : Fresh β σ σ1) (hG : GlobOk G β)
    (ht : lRel β t tr.toList) {listed : Array Bool} (hd : Done md ops os a listed) (tape : Nat) (b : Frame) (d : List Deferred) (k : List Item) (cs : List Frame) :
    ∃ w' β' τ' tr' listed' tape', Ext β β' σ σ1 ∧ σ1.Led τ τ' ∧ R K W0 N0 β' τ' w' ∧ lRel β' t1 tr'.toList ∧ Done md ops os (a + 1) listed' ∧
      Steps P (lone (Fr b tr d (.inRegion ops (Region.linearise.go md ops (ops.size - a) tape listed []) :: k)) cs w) (lone (Fr b tr' d (.inRegion ops (Region.linearise.go md ops (ops.size - (a + 1)) tape' listed' []) :: k)) cs w') := by
  have hle := hD.le
  have has : ix os a < ops.size := hD.lt a (by omega)
  have har : ix os a ∈ Region.ready md ops listed := by
    refine mem_ready.2 ⟨hd.tail a (Nat.le_refl _) (by omega), ops[ix os a], Array.getElem?_eq_getElem has, fun e he hb => ?_⟩
    obtain ⟨q, hq, heq⟩ := hD.back a ops[ix os a] (by omega) (Array.getElem?_eq_getElem has) e he hb
    rw [heq]; exact hd.front q hq
  obtain ⟨i0, t', hi, hgo⟩ := go_step (fuel := ops.size - (a + 1)) (t := tape) (listed := listed) (by intro h; rw [h] at har; cases har)
  obtain ⟨hun, o, ho, hall⟩ := mem_ready.1 hi
  have his : i0 < ops.size := (Array.getElem?_eq_some_iff.1 ho).1
  obtain ⟨i, hips, rfl⟩ := hD.surj i0 his
  have hia : i = a := by
    rcases Nat.lt_trichotomy i a with h | h | h
    · have h3 := hd.front i h
      rw [getD_both hun] at h3; cases h3
    · exact h
    · exact absurd hi (tail_waitsO hD (hd.head (by omega)) _ a rfl (Nat.le_refl _) (by omega) (hd.tail a (Nat.le_refl _) (by omega)) i (by omega) hips)
  subst hia
  rw [opsI_cons, hx, ho] at h1
  dsimp only at h1
  cases h2 : op1 P E rec ops x.2 lim o t σ with
  | none => rw [h2] at h1; cases h1
  | some r =>
    obtain ⟨v, σ'⟩ := r
    rw [h2] at h1
    have h1 : some (putT t o.dst v, σ') = some (t1, σ1) := h1
    simp only [Option.some.injEq, Prod.mk.injEq] at h1
    obtain ⟨rfl, rfl⟩ := h1
    obtain ⟨v', w', ⟨β', τ', x1, l1, R1, hv⟩, s1⟩ := op_steps H ho h2 (hB _ o ho) hw hl hR hf hG (fun d _ => ht.look d) b d (Region.linearise.go md ops (ops.size - (i + 1)) t' (listed.setIfInBounds (ix os i) true) []) k cs
    have hset := HeadO.set (hd.head (n := i + 1) (by omega)) hD hi (by omega)
    refine ⟨w', β', τ', putA tr o.dst v', listed.setIfInBounds (ix os i) true, t', x1, l1, R1, lRel_putT (ht.mono x1.1) hv o.dst, ⟨hset.size, hset.closed, fun p hp => ?_, hset.tail⟩, ?_⟩
    · by_cases hpi : p = i
      · subst hpi
        have : ix os p < listed.size := by rw [hd.size]; exact his
        simp [this]
      · exact hset.front p (by omega)
    · rw [show ops.size - i = ops.size - (i + 1) + 1 by omega, hgo]
      exact s1

end Go.Va

/-
  SIMULATION: a region that draws its order, by its plan; operations that are blind may run later.
-/
namespace Go.Va
open Go.RowKit
variable {P : Program} {K : FuncId → Code → Prop} {W0 : World} {N0 G : Nat} {E : Env} {rec : Rec} {ops : Array Oper} {md : Region.Mode} {lim : Nat}

def groupsB (md : Region.Mode) (ops : Array Oper) (l : List (Nat × Bool)) : Nat → List Nat → Bool
  | a, [] => Nat.beq a ops.size
  | a, g :: gs => groupB md ops (l.map (·.1)) a (a + g) && (Nat.beq g 1 || ((l.drop a).take g).all fun x => x.2 || blindIx ops x.1) && groupsB md ops l (a + g) gs

def planB (md : Region.Mode) (ops : Array Oper) (l : List (Nat × Bool)) (gs : List Nat) : Bool := ordB md ops (l.map (·.1)) && groupsB md ops l 0 gs

theorem ix_map {l : List (Nat × Bool)} {p : Nat} {x : Nat × Bool} (h : l[p]? = some x) : x.1 = ix (l.map (·.1)) p := by
  unfold ix
  rw [List.getD_eq_getElem?_getD, List.getElem?_map, h]; rfl

theorem groups_run (H : Given P K W0 N0 G E rec) {l : List (Nat × Bool)} (hO : OrdOk md ops (l.map (·.1))) (hB : ∀ (j : Nat) (o : Oper), ops[j]? = some o → opB G o = true) (b : Frame) (d : List Deferred) (k : List Item) (cs : List Frame) :
    ∀ (gs : List Nat) (a : Nat), groupsB md ops l a gs = true → ∀ (t t2 : List Value) (tr : Array Value) (σ σ2 τ : AS), opsI P E rec ops lim (l.drop a) t σ = some (t2, σ2) → ∀ (β : Inj) (w : World), σ.Wf → σ.Like τ → R K W0 N0 β τ w → Fresh β σ σ2 → GlobOk G β →
    lRel β t tr.toList → ∀ (listed : Array Bool), Done md ops (l.map (·.1)) a listed → ∀ tape,
    ∃ w' β' τ' tr', Ext β β' σ σ2 ∧ σ2.Led τ τ' ∧ R K W0 N0 β' τ' w' ∧ lRel β' t2 tr'.toList ∧
      Steps P (lone (Fr b tr d (.inRegion ops (Region.linearise.go md ops (ops.size - a) tape listed []) :: k)) cs w) (lone (Fr b tr' d (.inRegion ops [] :: k)) cs w') := by
  have hll : l.length = ops.size := by have := hO.len; simpa using this
  intro gs
  induction gs with
  | nil =>
    intro a h t t2 tr σ σ2 τ h1 β w hw hl hR hf hG ht listed hd tape
    have ha : a = ops.size := Nat.eq_of_beq_eq_true h
    rw [List.drop_of_length_le (by omega)] at h1
    simp only [opsI, Option.some.injEq, Prod.mk.injEq] at h1
    obtain ⟨rfl, rfl⟩ := h1
    refine ⟨w, β, τ, tr, .refl _ _, .refl hl, hR, ht, ?_⟩
    rw [ha, Nat.sub_self]
    exact .refl _ _
  | cons g gs ih =>
    intro a h t t2 tr σ σ2 τ h1 β w hw hl hR hf hG ht listed hd tape
    simp only [groupsB, Bool.and_eq_true] at h
    obtain ⟨⟨hg, hq⟩, hgs⟩ := h
    have hD := groupB_spec hO (by omega) hg
    have hle := hD.le
    have hsplit : l.drop a = (l.drop a).take g ++ l.drop (a + g) := by
      rw [← List.drop_drop]; exact (List.take_append_drop g (l.drop a)).symm
    rw [hsplit, opsI_append] at h1
    cases h2 : opsI P E rec ops lim ((l.drop a).take g) t σ with
    | none => rw [h2] at h1; cases h1
    | some r =>
      obtain ⟨t1, σ1⟩ := r
      rw [h2] at h1
      have h1 : opsI P E rec ops lim (l.drop (a + g)) t1 σ1 = some (t2, σ2) := h1
      have k1 := ((good_opsI H.ovGood H.good (P := P) (lim := lim) (ops := ops) ((l.drop a).take g) t) σ t1 σ1 h2 hw).1
      have k2 := ((good_opsI H.ovGood H.good (P := P) (lim := lim) (ops := ops) (l.drop (a + g)) t1) σ1 t2 σ2 h1 (k1.wf hw)).1
      have hgl : ((l.drop a).take g).length = g := by simp; omega
      have hgx : ∀ (i : Nat) (x : Nat × Bool), ((l.drop a).take g)[i]? = some x → l[a + i]? = some x := by
        intro i x hx
        rw [List.getElem?_take] at hx
        split at hx
        · rw [List.getElem?_drop] at hx; exact hx
        · cases hx
      obtain ⟨w1, β1, τ1, tr1, listed', tape', x1, l1, R1, ht1, hd1, s1⟩ : ∃ w' β' τ' tr' listed' tape', Ext β β' σ σ1 ∧ σ1.Led τ τ' ∧ R K W0 N0 β' τ' w' ∧ lRel β' t1 tr'.toList ∧ Done md ops (l.map (·.1)) (a + g) listed' ∧
          Steps P (lone (Fr b tr d (.inRegion ops (Region.linearise.go md ops (ops.size - a) tape listed []) :: k)) cs w) (lone (Fr b tr' d (.inRegion ops (Region.linearise.go md ops (ops.size - (a + g)) tape' listed' []) :: k)) cs w') := by
        by_cases h1g : g = 1
        · subst h1g
          cases hl1 : (l.drop a).take 1 with
          | nil => rw [hl1] at hgl; simp at hgl
          | cons x rest =>
            have hr0 : rest = [] := by rw [hl1] at hgl; simpa using hgl
            subst hr0
            rw [hl1] at h2 hgx
            exact group_one H hD hB (ix_map (by simpa using hgx 0 x rfl)) h2 hw hl hR (hf.left k2.next) hG ht hd tape b d k cs
        · have hq' : ∀ x ∈ (l.drop a).take g, x.2 = true ∨ blindIx ops x.1 = true := by
            simp only [Bool.or_eq_true, List.all_eq_true] at hq
            rcases hq with hq | hq
            · exact absurd (Nat.eq_of_beq_eq_true hq) h1g
            · exact hq
          exact group_any (fl := fun p => (l[p]?.map (·.2)).getD false) H hD (by omega) hB (by rw [hgl]; omega) (fun i x hx => ⟨ix_map (hgx i x hx), by rw [hgx i x hx]; rfl⟩) hq' h2 hw hl hR (hf.left k2.next) hG ht hd tape b d k cs
      obtain ⟨w2, β2, τ2, tr2, x2, l2, R2, ht2, s2⟩ := ih (a + g) hgs t1 t2 tr1 σ1 σ2 τ1 h1 β1 w1 (k1.wf hw) l1.like R1 (hf.right x1 k1.next) (hG.mono x1.1) ht1 listed' hd1 tape'
      exact ⟨w2, β2, τ2, tr2, x1.trans x2 k1.next k2.next, l1.trans l2 k2.next, R2, ht2, s1.trans s2⟩

theorem plan_run (H : Given P K W0 N0 G E rec) {l : List (Nat × Bool)} {gs : List Nat} (hP : planB md ops l gs = true) (hB : ∀ (j : Nat) (o : Oper), ops[j]? = some o → opB G o = true) {t t2 : List Value} {tr : Array Value} {σ σ2 τ : AS} (h1 : opsI P E rec ops lim l t σ = some (t2, σ2)) {β : Inj} {w : World}
    (hw : σ.Wf) (hl : σ.Like τ) (hR : R K W0 N0 β τ w) (hf : Fresh β σ σ2) (hG : GlobOk G β) (ht : lRel β t tr.toList) (tape : Nat) (b : Frame) (d : List Deferred) (k : List Item) (cs : List Frame) :
    ∃ w' β' τ' tr', Ext β β' σ σ2 ∧ σ2.Led τ τ' ∧ R K W0 N0 β' τ' w' ∧ lRel β' t2 tr'.toList ∧
      Steps P (lone (Fr b tr d (.inRegion ops (Region.linearise md ops tape) :: k)) cs w) (lone (Fr b tr' d (.inRegion ops [] :: k)) cs w') := by
  simp only [planB, Bool.and_eq_true] at hP
  have hO := ordB_spec hP.1
  have hd : Done md ops (l.map (·.1)) 0 (Array.replicate ops.size false) := ⟨by simp, fun j oj _ hj => (by rw [getD_replicate_false] at hj; cases hj), fun p hp => (by omega), fun p _ hp => (by simp [hO.lt p hp])⟩
  have := groups_run (lim := lim) H hO hB b d k cs gs 0 hP.2 t t2 tr σ σ2 τ (by simpa using h1) β w hw hl hR hf hG ht _ hd tape
  rw [Nat.sub_zero] at this
  exact this

/-! ## Blind operations run later -/

theorem operA_congr {o : Oper} {t t' : List Value} (h : ∀ x ∈ o.op.operands, ev t' x = ev t x) (lim : Nat) (σ : AS) : operA P E rec lim o t' σ = operA P E rec lim o t σ := by
  obtain ⟨dst, op, type, pos, after, guard⟩ := o
  have opt : ∀ (x : Option Operand), (∀ y, x = some y → y ∈ op.operands) → x.map (ev t') = x.map (ev t) := by
    intro x hx
    cases x with
    | none => rfl
    | some y => simp only [Option.map_some]; rw [h y (hx y rfl)]
  have ex : (∀ cs b, op ≠ .select cs b) → execOp (ev t') ⟨dst, op, type, pos, after, guard⟩ = execOp (ev t) ⟨dst, op, type, pos, after, guard⟩ := fun hs => execOp_congr ⟨dst, op, type, pos, after, guard⟩ hs h
  cases op
  case slice st x lo hi mx =>
    simp only [operA]
    rw [h x (by simp [Op.operands]), opt lo (by intro y hy; simp [Op.operands, hy]), opt hi (by intro y hy; simp [Op.operands, hy]), opt mx (by intro y hy; simp [Op.operands, hy])]
  case convert => simp only [operA]; rw [h _ (by simp [Op.operands])]
  case unOp => simp only [operA]; rw [h _ (by simp [Op.operands])]
  case nilCheck => simp only [operA]; rw [h _ (by simp [Op.operands])]
  case sliceToArrayPointer => simp only [operA]; rw [h _ (by simp [Op.operands])]
  case binOp bop bt x y g => simp only [operA]; rw [h x (by simp [Op.operands]), h y (by simp [Op.operands])]
  case call c =>
    obtain ⟨callee, args, argTypes⟩ := c
    have ea : args.toList.map (ev t') = args.toList.map (ev t) := List.map_congr_left fun x hx => h x (by simp [Op.operands, Call.operands]; exact .inr (by simpa using hx))
    have eb : args.map (ev t') = args.map (ev t) := by
      apply Array.toList_inj.1
      simpa using ea
    cases callee with
    | invoke => rfl
    | value f =>
      simp only [operA]
      rw [ea, h f (by simp [Op.operands, Call.operands])]
    | builtin b => cases b <;> simp only [operA, ea, eb]
  case select => rfl
  all_goals (simp only [operA]; rw [ex (fun _ _ hh => by cases hh)])

end Go.Va
