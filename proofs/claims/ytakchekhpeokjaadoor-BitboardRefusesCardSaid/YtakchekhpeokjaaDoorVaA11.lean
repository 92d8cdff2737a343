/-
  SIMULATION: append.
-/
import Derived.Test.YtakchekhpeokjaaDoorVaA10
namespace Go.Va
open Go.RowKit
variable {P : Program} {K : FuncId → Code → Prop} {W0 : World} {N0 : Nat}

/-- Rows may be forgotten, or no longer be written. -/
theorem R.weaken {β : Inj} {σ σ' : AS} {w : World} (hR : R K W0 N0 β σ w)
    (h : ∀ j x, σ'.get j = some x → σ.get j = some x ∨ ∃ c rw lo pv, σ.get j = some (.cells c rw lo pv) ∧ x = .cells c false lo none) : R K W0 N0 β σ' w := by
  constructor
  · intro id e c rw lo pv hb hg
    rcases h id _ hg with h1 | ⟨c', rw', lo', pv', h1, h2⟩
    · exact hR.cells hb h1
    · cases h2
      obtain ⟨C, ty, fr, k1, k2, k3, k4⟩ := hR.cells hb h1
      exact ⟨C, ty, fr, k1, k2, fun h => (by cases h), k4⟩
  · intro id e o hb hg
    rcases h id _ hg with h1 | ⟨c', rw', lo', pv', h1, h2⟩
    · exact hR.obj hb h1
    · cases h2
  · intro i j ei ej x y hij hbi hbj hgi hgj hx heq
    have hj : ∃ y', σ.get j = some y' := by
      rcases h j _ hgj with h1 | ⟨_, _, _, _, h1, _⟩
      · exact ⟨_, h1⟩
      · exact ⟨_, h1⟩
    obtain ⟨y', hj⟩ := hj
    rcases h i _ hgi with h1 | ⟨c', rw', lo', pv', h1, h2⟩
    · exact hR.excl hij hbi hbj h1 hj hx heq
    · subst h2; cases hx
  · exact hR.lt
  · exact hR.base
  · exact hR.top
  · intro id e r hb hg
    rcases h id _ hg with h1 | ⟨c', rw', lo', pv', h1, h2⟩
    · exact hR.code hb h1
    · cases h2

theorem run_store1 {a : Addr} {v old : Value} {w : World} (k : Sem Unit) (h1 : w.cell? a = some old) (h2 : w.frozen? a = false) (h3 : oneCell v = true) : (Sem.store .plain a v k).run P w = k.run P (w.setCell a v) := by
  cases v <;> simp only [Sem.run, h1, h2] <;> first | rfl | cases h3

theorem run_storeCells : ∀ (vs : List Value) (i : Nat) (w : World) (b off : Nat) (C : Array Value) (ty : TypeId) (fr : Nat × Nat), w.heap[b]? = some (.cells C ty fr) → off + i + vs.length ≤ C.size →
    (∀ j, j < C.size → ¬ (fr.1 ≤ j ∧ j < fr.2)) → vs.all oneCell = true → N0 ≤ b → Below N0 W0 w →
    ∃ w' C', (storeCells ⟨b, off, none⟩ vs i).run P w = .ok () w' ∧ w'.heap[b]? = some (.cells C' ty fr) ∧ C'.size = C.size ∧ (∀ j, j < off + i ∨ off + i + vs.length ≤ j → C'[j]? = C[j]?) ∧
      (∀ k (_ : k < vs.length), C'[off + i + k]? = some vs[k]) ∧ (∀ r, r ≠ b → w'.heap[r]? = w.heap[r]?) ∧ w'.heap.size = w.heap.size ∧ Below N0 W0 w'
  | [], i, w, b, off, C, ty, fr, hC, _, _, _, _, hB => ⟨w, C, rfl, hC, rfl, fun _ _ => rfl, fun k h => by simp at h, fun _ _ => rfl, rfl, hB⟩
  | v :: vs, i, w, b, off, C, ty, fr, hC, hl, hfr, ho, hN, hB => by
    simp only [List.length_cons] at hl
    simp only [List.all_cons, Bool.and_eq_true] at ho
    have ha : (⟨b, off, none⟩ : Addr).add i = ⟨b, off + i, none⟩ := by
      unfold Addr.add; split
      · rename_i h; subst h; rfl
      · rfl
    have hlt : off + i < C.size := by omega
    have hcell : w.cell? ⟨b, off + i, none⟩ = some C[off + i] := by rw [cell?_of_heap hC]; simp [hlt]
    have hfz := frozen?_of_heap hC (hfr _ hlt)
    have hheap : ∀ r, (w.setCell ⟨b, off + i, none⟩ v).heap[r]? = if b = r then some (.cells (C.setIfInBounds (off + i) v) ty fr) else w.heap[r]? := by
      intro r
      rw [heap_setCell_get]
      by_cases hr : b = r
      · subst hr; simp [hC]
      · simp [hr]
    obtain ⟨w', C', e1, e2, e3, e4, e5, e6, e7, e8⟩ := run_storeCells vs (i + 1) (w.setCell ⟨b, off + i, none⟩ v) b off (C.setIfInBounds (off + i) v) ty fr (by rw [hheap, if_pos rfl]) (by simp; omega) (by simpa using hfr) ho.2 hN
      (hB.setCell (p := ⟨b, off + i, none⟩) hN v)
    refine ⟨w', C', ?_, e2, by simpa using e3, fun j hj => ?_, fun k hk => ?_, fun r hr => ?_, by rw [e7]; simp [World.setCell], e8⟩
    · show (Sem.store .plain ((⟨b, off, none⟩ : Addr).add i) v (storeCells ⟨b, off, none⟩ vs (i + 1))).run P w = _
      rw [ha, run_store1 _ hcell hfz ho.1]; exact e1
    · simp only [List.length_cons] at hj
      rw [e4 j (by omega), Array.getElem?_setIfInBounds_ne (by omega)]
    · cases k with
      | zero =>
        rw [Nat.add_zero, e4 _ (by omega)]
        simp [hlt]
      | succ k =>
        simp only [List.length_cons] at hk
        have := e5 k (by omega)
        rw [show off + i + (k + 1) = off + (i + 1) + k by omega, this]
        simp
    · rw [e6 r hr, hheap, if_neg (Ne.symm hr)]

theorem growBy_le (n : Nat) : ∀ (k c : Nat), 256 ≤ c → c ≤ 2 * n → Builtin.growBy n k c ≤ 2 * n
  | 0, c, _, h => h
  | k + 1, c, h0, h => by
    unfold Builtin.growBy
    split
    · exact h
    · exact growBy_le n k _ (by omega) (by omega)

theorem nextslicecap_le {n c : Nat} (h : c < n) : Builtin.nextslicecap n c ≤ 2 * n := by
  unfold Builtin.nextslicecap
  split
  · omega
  · split
    · omega
    · exact growBy_le n 4 c (by omega) (by omega)

theorem R.drawn {β : Inj} {σ : AS} {w : World} (hR : R K W0 N0 β σ w) (n : Nat) : R K W0 N0 β σ { w with drawn := n } :=
  ⟨hR.cells, hR.obj, hR.excl, hR.lt, hR.base.trans ⟨rfl, rfl, rfl, Nat.le_refl _, fun _ _ => rfl⟩, hR.top, hR.code⟩

theorem run_loadCellsFrom_same {a : Addr} : ∀ (n i : Nat) (acc c : Array Value) (w w' : World), (loadCellsFrom a i n acc).run P w = .ok c w' → w' = w
  | 0, i, acc, c, w, w', h => by
    simp only [loadCellsFrom] at h
    cases h; rfl
  | n + 1, i, acc, c, w, w', h => by
    have : (Sem.load .plain (a.add i) fun v => loadCellsFrom a (i + 1) n (acc.push v)).run P w = .ok c w' := h
    simp only [Sem.run] at this
    split at this
    · exact run_loadCellsFrom_same n _ _ _ _ _ this
    · split at this
      · exact run_loadCellsFrom_same n _ _ _ _ _ this
      · cases this

theorem run_firstCells_same {x : Value} {size n : Nat} {c : Array Value} {w w' : World} (h : (Builtin.firstCells size n x).run P w = .ok c w') : w' = w := by
  unfold Builtin.firstCells at h
  split at h
  · exact run_loadCellsFrom_same _ _ _ _ _ _ h
  · cases h; rfl
  · cases h; rfl
  · cases h

theorem runA_loadCellsFrom_same {a : Addr} {lim : Nat} : ∀ (n i : Nat) (acc c : Array Value) (σ σ' : AS), runA P lim (loadCellsFrom a i n acc) σ = some (c, σ') → σ' = σ
  | 0, i, acc, c, σ, σ', h => by
    simp only [loadCellsFrom] at h
    cases h; rfl
  | n + 1, i, acc, c, σ, σ', h => by
    have : runA P lim (Sem.load .plain (a.add i) fun v => loadCellsFrom a (i + 1) n (acc.push v)) σ = some (c, σ') := h
    simp only [runA] at this
    split at this
    · exact runA_loadCellsFrom_same n _ _ _ _ _ this
    · cases this

theorem runA_firstCells_same {x : Value} {size n lim : Nat} {c : Array Value} {σ σ' : AS} (h : runA P lim (Builtin.firstCells size n x) σ = some (c, σ')) : σ' = σ := by
  unfold Builtin.firstCells at h
  split at h
  · exact runA_loadCellsFrom_same _ _ _ _ _ _ h
  · cases h; rfl
  · cases h; rfl
  · cases h

theorem setCells_run {lim : Nat} {a : Addr} : ∀ (l : List Value) (i : Nat) (σ σ' : AS), σ.setCells lim a l i = some σ' → runA P lim (storeCells a l i) σ = some ((), σ')
  | [], i, σ, σ', h => by simp only [AS.setCells, Option.some.injEq] at h; subst h; rfl
  | v :: l, i, σ, σ', h => by
    simp only [AS.setCells] at h
    show runA P lim (Sem.store .plain (a.add i) v (storeCells a l (i + 1))) σ = _
    simp only [runA]
    cases ho : oneCell v with
    | false => simp [ho] at h
    | true =>
      simp only [ho, cond_true] at h ⊢
      cases hs : σ.setCell lim (a.add i) v with
      | none => rw [hs] at h; cases h
      | some σ1 => rw [hs] at h; exact setCells_run l (i + 1) σ1 σ' h

/-- What is appended: the mode, the number, the cells, and that the model comes to related cells. -/
theorem newCells_spec {β : Inj} (_ : ZeroOk P) {lim : Nat} {elem : TypeId} {i : TypeInfo} (_ : P.info? elem = some i) {xt : Option TypeId} {x x' : Value} (hx : vRel β x x') {σ : AS} {new : List Value} {n : Nat}
    (h : newCells P lim i xt x σ = some (new, n)) :
    (∃ k0 l t z, xt = some t ∧ (∃ k, P.underlying t = some (.int k)) ∧ x = .int k0 l ∧ x' = .int k0 l ∧ 0 ≤ l ∧ l ≤ 17179869184 ∧ i.bytes ≤ 4096 ∧ n = l.toNat ∧ i.zero = some z ∧
        new = (if n * i.size = 0 then #[] else Builtin.zeroCells z.cells n).toList) ∨
    (∃ t d, xt = some t ∧ P.underlying t = some d ∧ (∀ k, d ≠ .int k) ∧ (∀ w, (Builtin.lenOf x').run P w = .ok n w) ∧
        ∀ w, R K W0 N0 β σ w → σ.Any → ∃ new', (Builtin.firstCells i.size n x').run P w = .ok new' w ∧ lRel β new new'.toList) := by
  unfold newCells at h
  cases xt with
  | none => cases h
  | some t =>
    simp only [Option.bind_some] at h
    cases hd : P.underlying t with
    | none => rw [hd] at h; cases h
    | some d =>
      rw [hd] at h
      by_cases hint : ∃ k, d = .int k
      · obtain ⟨k, rfl⟩ := hint
        dsimp only at h
        split at h
        · rename_i k0 l z hz
          cases hx
          cases hb : (decide (0 ≤ l) && decide (l ≤ 17179869184) && Nat.ble i.bytes 4096) with
          | false => simp [hb] at h
          | true =>
            simp only [hb, cond_true, Option.some.injEq, Prod.mk.injEq] at h
            simp only [Bool.and_eq_true, decide_eq_true_eq] at hb
            obtain ⟨h1, rfl⟩ := h
            refine .inl ⟨k0, l, t, z, rfl, ⟨k, hd⟩, rfl, rfl, hb.1.1, hb.1.2, Nat.ble_eq ▸ hb.2, rfl, hz, ?_⟩
            rw [← h1]
            by_cases h0 : l.toNat * i.size = 0
            · rw [if_pos h0, h0]; rfl
            · rw [if_neg h0]
              cases hbq : Nat.beq (l.toNat * i.size) 0 with
              | true => exact absurd (Nat.eq_of_beq_eq_true hbq) h0
              | false => rfl
        · cases h
      · refine .inr ⟨t, d, rfl, hd, fun k e => hint ⟨k, e⟩, ?_⟩
        have h' : (match lenOfA x with
            | some n => match runA P lim (Builtin.firstCells i.size n x) σ with
              | some (c, _) => some (c.toList, n)
              | none => none
            | none => none) = some (new, n) := by
          cases d <;> first | exact h | exact absurd ⟨_, rfl⟩ hint
        cases hl : lenOfA x with
        | none => rw [hl] at h'; cases h'
        | some m =>
          rw [hl] at h'
          dsimp only at h'
          cases hr : runA P lim (Builtin.firstCells i.size m x) σ with
          | none => rw [hr] at h'; cases h'
          | some r =>
            obtain ⟨c, σ1⟩ := r
            rw [hr] at h'
            simp only [Option.some.injEq, Prod.mk.injEq] at h'
            obtain ⟨rfl, rfl⟩ := h'
            refine ⟨fun w => ?_, fun w hR hw => ?_⟩
            · cases hx <;> first | (cases hl; rfl) | cases hl
            · have := runA_firstCells_same hr
              subst this
              obtain ⟨c', w', β', e1, x1, R1, rfl, e2⟩ := sim_firstCells hx i.size m lim _ w c _ hw hR hr (fun i h h' => by omega)
              have := run_firstCells_same e1
              subst this
              exact ⟨c', e1, arrRel_iff.1 e2⟩

end Go.Va
