/-
  SIMULATION: append and the relation of the heaps.
-/
import Derived.Test.YtakchekhpeokjaaDoorVaA12
namespace Go.Va
open Go.RowKit
variable {P : Program} {K : FuncId → Code → Prop} {W0 : World} {N0 : Nat}

def Inj.put (β : Inj) (id : Nat) (e : Ent) : Inj := fun i => if i = id then some e else β i

theorem Inj.le_put {β : Inj} {id : Nat} (h : β id = none) (e : Ent) : β.le (β.put id e) := by
  intro i e' h'
  unfold Inj.put
  rw [if_neg (by rintro rfl; rw [h] at h'; cases h')]; exact h'

/-- A row goes on behind its end, in its own block. -/
theorem R.extend {β : Inj} {σ : AS} {w w' : World} (hR : R K W0 N0 β σ w) {A : Nat} {e : Ent} {C C' : Array Value} {ty : TypeId} {fr : Nat × Nat} {all : List Value} {esz on : Nat} {pv : Option Nat} {oty : Option TypeId} (hty : ∀ T, oty = some T → ty = T)
    (he : β A = some e) (hf : β σ.next = none) (hN : N0 ≤ e.b) (hC : w.heap[e.b]? = some (.cells C ty fr)) (hw' : w'.heap[e.b]? = some (.cells C' ty fr)) (hs : C'.size = C.size)
    (hfr : ∀ i, i < C.size → ¬ (fr.1 ≤ i ∧ i < fr.2)) (hoth : ∀ r, r ≠ e.b → w'.heap[r]? = w.heap[r]?) (hsz : w'.heap.size = w.heap.size) (hB : Below N0 W0 w')
    (hA : ∀ x, σ.get A = some x → ∃ c lo, x = .cells c false lo none ∧ (∀ i, i < c.length → C'[e.o + i]? = C[e.o + i]?) ∧ pv = some A)
    (hall : ∀ i (_ : i < all.length), ∃ v', C'[on + i]? = some v' ∧ vRel β all[i] v')
    (hex : ∀ j ej y, j ≠ A → β j = some ej → σ.get j = some y → ej.b ≠ e.b) :
    R K W0 N0 (β.put σ.next ⟨e.b, on, some (all.length, esz, C.size)⟩) (σ.push (.cells all true (some esz, oty) pv)) w' := by
  have hle := Inj.le_put hf ⟨e.b, on, some (all.length, esz, C.size)⟩
  have hAn : A ≠ σ.next := by rintro rfl; rw [hf] at he; cases he
  constructor
  · intro id e' c rw' lo pv' hb hg
    rw [AS.get_push] at hg
    unfold Inj.put at hb
    by_cases hid : id = σ.next
    · rw [if_pos hid] at hb hg
      simp only [Option.some.injEq, AObj.cells.injEq] at hb hg
      obtain ⟨rfl, rfl, rfl, rfl⟩ := hg
      subst hb
      refine ⟨C', ty, fr, hw', fun i hi => ?_, fun _ => ⟨hN, by rw [hs]; exact hfr⟩, by simp [hs], fun T hT => ⟨hty T hT, fun h => by cases h⟩⟩
      obtain ⟨v', k1, k2⟩ := hall i hi
      exact ⟨v', k1, k2.mono hle⟩
    · rw [if_neg hid] at hb hg
      by_cases hidA : id = A
      · subst hidA
        rw [he] at hb; cases hb
        obtain ⟨c1, lo1, h1, h2, h3⟩ := hA _ hg
        cases h1
        obtain ⟨C2, ty2, fr2, k1, k2, k3, k4⟩ := hR.cells he hg
        rw [hC] at k1; cases k1
        refine ⟨C', ty, fr, hw', fun i hi => ?_, fun h => (by cases h), by rw [hs]; exact k4⟩
        obtain ⟨v', m1, m2⟩ := k2 i hi
        exact ⟨v', by rw [h2 i hi]; exact m1, m2.mono hle⟩
      · obtain ⟨C2, ty2, fr2, k1, k2, k3, k4⟩ := hR.cells hb hg
        refine ⟨C2, ty2, fr2, by rw [hoth _ (hex id e' _ hidA hb hg)]; exact k1, fun i hi => ?_, k3, k4⟩
        obtain ⟨v', m1, m2⟩ := k2 i hi
        exact ⟨v', m1, m2.mono hle⟩
  · intro id e' o hb hg
    rw [AS.get_push] at hg
    unfold Inj.put at hb
    by_cases hid : id = σ.next
    · rw [if_pos hid] at hg; cases hg
    · rw [if_neg hid] at hb hg
      by_cases hidA : id = A
      · subst hidA
        obtain ⟨c1, lo1, h1, _⟩ := hA _ hg
        cases h1
      · obtain ⟨k1, k2, o2, k3, k4⟩ := hR.obj hb hg
        exact ⟨k1, k2, o2, by rw [hoth _ (hex id e' _ hidA hb hg)]; exact k3, k4.mono hle⟩
  · intro i j ei ej x y hij hbi hbj hgi hgj hx heq
    rw [AS.get_push] at hgi hgj
    unfold Inj.put at hbi hbj
    by_cases hi : i = σ.next
    · rw [if_pos hi] at hbi hgi
      rw [if_neg (by omega)] at hbj hgj
      simp only [Option.some.injEq] at hbi hgi
      subst hbi hgi
      by_cases hjA : j = A
      · subst hjA
        obtain ⟨_, _, _, _, h3⟩ := hA _ hgj
        exact h3
      · exact absurd heq.symm (hex j ej _ hjA hbj hgj)
    · rw [if_neg hi] at hbi hgi
      by_cases hj : j = σ.next
      · rw [if_pos hj] at hbj
        simp only [Option.some.injEq] at hbj
        subst hbj
        by_cases hiA : i = A
        · subst hiA
          obtain ⟨_, _, h1, _⟩ := hA _ hgi
          subst h1; cases hx
        · exact absurd heq (hex i ei _ hiA hbi hgi)
      · rw [if_neg hj] at hbj hgj
        exact hR.excl hij hbi hbj hgi hgj hx heq
  · intro id e' hb
    unfold Inj.put at hb
    rw [hsz]
    split at hb
    · simp only [Option.some.injEq] at hb; subst hb; have := hR.lt he; exact this
    · exact hR.lt hb
  · exact hB
  · rw [hsz]; exact hR.top
  · intro id e' r hb hg
    unfold Inj.put at hb
    rw [AS.get_push] at hg
    split at hg
    · cases hg
    · rename_i hne
      rw [if_neg hne] at hb
      exact hR.code hb hg

theorem size_zeroCells (z : Array Value) (n : Nat) : (Builtin.zeroCells z n).size = n * z.size := by simp [Builtin.zeroCells]

theorem lRel_oneCell {β : Inj} : ∀ {l m : List Value}, lRel β l m → l.all oneCell = true → m.all oneCell = true
  | [], [], _, _ => rfl
  | a :: l, b :: m, h, ho => by
    simp only [List.all_cons, Bool.and_eq_true] at ho ⊢
    exact ⟨oneCell_rel h.1 ho.1, lRel_oneCell h.2 ho.2⟩
  | [], _ :: _, h, _ => h.elim
  | _ :: _, [], h, _ => h.elim

/-- The slice's own cells are read. -/
theorem run_old {β : Inj} {σ : AS} {w : World} (hR : R K W0 N0 β σ w) (_ : σ.Any) {p p' : Addr} (ha : aRel β p p') {c : List Value} {rw : Bool} {lo : Lo} {pv : Option Nat} (hg : σ.get p.block = some (.cells c rw lo pv)) {size sLen : Nat}
    (hl : p.off + sLen * size ≤ c.length) (cap : Nat) : ∃ old, (Builtin.firstCells size sLen (.slice (some p') sLen cap)).run P w = .ok old w ∧ lRel β ((c.drop p.off).take (sLen * size)) old.toList := by
  have key : ∀ (n i : Nat) (acc : Array Value), p.off + i + n ≤ c.length → ∃ r, (loadCellsFrom p' i n acc).run P w = .ok r w ∧ r.size = acc.size + n ∧ (∀ j, j < acc.size → r[j]? = acc[j]?) ∧
      ∀ j (h : j < n) (h' : p.off + i + j < c.length), ∃ v', r[acc.size + j]? = some v' ∧ vRel β c[p.off + i + j] v' := by
    intro n
    induction n with
    | zero => intro i acc h; exact ⟨acc, rfl, rfl, fun _ _ => rfl, fun j h => by omega⟩
    | succ n ih =>
      intro i acc h
      have hcell : σ.cell? (p.add i) = some c[p.off + i] := by
        unfold AS.cell?
        have h1 : (p.add i).spot = none := by unfold Addr.add; split; exact ha.1; rfl
        have h2 : (p.add i).block = p.block := by unfold Addr.add; split <;> rfl
        have h3 : (p.add i).off = p.off + i := by unfold Addr.add; split <;> simp_all
        rw [h1, h2, hg, h3]
        exact List.getElem?_eq_getElem (by omega)
      obtain ⟨v', k1, k2⟩ := hR.load (ha.add i) hcell
      obtain ⟨r, e1, e2, e3, e4⟩ := ih (i + 1) (acc.push v') (by omega)
      refine ⟨r, ?_, by rw [e2]; simp; omega, fun j hj => ?_, fun j hj hj' => ?_⟩
      · show (Sem.load .plain (p'.add i) fun v => loadCellsFrom p' (i + 1) n (acc.push v)).run P w = _
        simp only [Sem.run, k1]; exact e1
      · rw [e3 j (by simp; omega)]; exact Array.getElem?_push_lt hj |>.trans (by simp [hj])
      · cases j with
        | zero => exact ⟨v', by rw [e3 _ (by simp)]; simp, by simpa using k2⟩
        | succ j =>
          obtain ⟨u, g1, g2⟩ := e4 j (by omega) (by omega)
          refine ⟨u, by simp only [Array.size_push] at g1; rw [show acc.size + (j + 1) = acc.size + 1 + j by omega]; exact g1, ?_⟩
          have : p.off + (i + 1) + j = p.off + i + (j + 1) := by omega
          simpa [this] using g2
  obtain ⟨r, e1, e2, _, e4⟩ := key (sLen * size) 0 #[] (by omega)
  refine ⟨r, e1, lRel.of_get (by simp [e2]; omega) fun i hi hi' => ?_⟩
  simp only [List.length_take, List.length_drop] at hi
  obtain ⟨v', g1, g2⟩ := e4 i (by omega) (by omega)
  have : r.toList[i] = v' := by
    simp at g1
    obtain ⟨h1, h2⟩ := Array.getElem?_eq_some_iff.1 g1
    simpa using h2
  rw [this]
  simpa using g2

end Go.Va
